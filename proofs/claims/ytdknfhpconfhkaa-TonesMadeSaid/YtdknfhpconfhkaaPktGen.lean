/- Contracts of the generators of packets and of their bytes. Conditions: none. -/
import Derived.Test.YtdknfhpconfhkaaPktBytes
namespace Go.Proofs.Ytdknfhpconfhkaa
open Go.RowKit

set_option maxHeartbeats 1000000 in
theorem odd_any (sb : Nat) (m lo hi : Int) (w : World) (hs : Str w sb m) (hm : m ≤ 1000000000000) (h1 : -8589934592 ≤ lo) (h2 : lo ≤ hi) (h3 : hi ≤ 8589934592) :
    Calls Try.prog 60 #[.pointer (some ⟨sb, 0, none⟩), .int .i64 lo, .int .i64 hi] w (Drawn sb (m + 2) (IntIn (-1099511627776) 1099511627776) w) := by
  have hlt := hs.lt
  have HS := Lib.hid hs; clear hs
  have HG := Lib.hid (gr_refl w (some sb))
  go_enter Try.func60, Try.ntmps60
  go_wp2_with fail
  refine (flip_any sb _ 12 _ (by first | exact HS.out | exact HS.out.alloc _ | exact (HS.out.alloc _).alloc _ | exact ((HS.out.alloc _).alloc _).alloc _ | exact HS.out.drewN _ | exact HS.out.setCell (by simp; omega) _ | exact (HS.out.alloc _).setCell (by simp; omega) _ | exact (HS.out.setCell (by simp; omega) _).alloc _ | exact (HS.out.setCell (by simp; omega) _).drewN _ | exact (HS.out.alloc _).drewN _) (by omega) (by omega) (by omega)).mono ?_
  rintro e w1 ⟨v1, rfl, ⟨f1, rfl⟩, hs1, hg1⟩
  have z1 := hg1.size; try simp at z1
  try replace HZ := Lib.hid (HZ.out.grown hg1 (by simp; omega))
  try replace HP := Lib.hid (HP.out.grown hg1 (by simp; omega))
  try replace HGA := Lib.hid (HGA.out.kept hg1 (fun g e => by injection e with e; omega))
  try replace HY := Lib.hid (Own.kept HY.out hg1 (fun g e e' => by injection e with e; have := (HY.out.lt e').1; omega))
  replace HG := Lib.hid (gr_same (a := w) (by repeat (first | exact HG.out | refine gr_alloc ?_ _ | refine gr_drew ?_ | refine gr_drewN ?_ _ | refine gr_setCell ?_ (.inr (by simp; omega)) _)) hg1); clear hg1
  replace HS := Lib.hid hs1; clear hs1
  cases f1
  · go_wp2_with fail
    refine (range_any sb _ lo hi _ (by first | exact HS.out | exact HS.out.alloc _ | exact (HS.out.alloc _).alloc _ | exact ((HS.out.alloc _).alloc _).alloc _ | exact HS.out.drewN _ | exact HS.out.setCell (by simp; omega) _ | exact (HS.out.alloc _).setCell (by simp; omega) _ | exact (HS.out.setCell (by simp; omega) _).alloc _ | exact (HS.out.setCell (by simp; omega) _).drewN _ | exact (HS.out.alloc _).drewN _) (by omega) (by omega) (by omega) (by omega)).mono ?_
    rintro e w2 ⟨v2, rfl, ⟨r2, hlo2, hhi2, rfl⟩, hs2, hg2⟩
    have z2 := hg2.size; try simp at z2
    try replace HZ := Lib.hid (HZ.out.grown hg2 (by simp; omega))
    try replace HP := Lib.hid (HP.out.grown hg2 (by simp; omega))
    try replace HGA := Lib.hid (HGA.out.kept hg2 (fun g e => by injection e with e; omega))
    try replace HY := Lib.hid (Own.kept HY.out hg2 (fun g e e' => by injection e with e; have := (HY.out.lt e').1; omega))
    replace HG := Lib.hid (gr_same (a := w) (by repeat (first | exact HG.out | refine gr_alloc ?_ _ | refine gr_drew ?_ | refine gr_drewN ?_ _ | refine gr_setCell ?_ (.inr (by simp; omega)) _)) hg2); clear hg2
    replace HS := Lib.hid hs2; clear hs2
    go_wp2_with fail
    go_ret
    exact ⟨_, rfl, ⟨r2, by omega, by omega, rfl⟩, HS.out.mono (by omega), HG.out⟩
  · go_wp2_with fail
    refine (pick_new sb _ [lo - 1, hi + 1, lo, hi, -1099511627776, 1099511627776] _ (by first | exact HS.out | exact HS.out.alloc _ | exact (HS.out.alloc _).alloc _ | exact ((HS.out.alloc _).alloc _).alloc _ | exact HS.out.drewN _ | exact HS.out.setCell (by simp; omega) _ | exact (HS.out.alloc _).setCell (by simp; omega) _ | exact (HS.out.setCell (by simp; omega) _).alloc _ | exact (HS.out.setCell (by simp; omega) _).drewN _ | exact (HS.out.alloc _).drewN _) (by omega) (by simp) rfl rfl (by simp) (by simp)).mono ?_
    rintro e w2 ⟨v2, rfl, ⟨r2, hr2, rfl⟩, hs2, hg2⟩
    have HR2 := Lib.hid hr2; clear hr2
    have z2 := hg2.size; try simp at z2
    try replace HZ := Lib.hid (HZ.out.grown hg2 (by simp; omega))
    try replace HP := Lib.hid (HP.out.grown hg2 (by simp; omega))
    try replace HGA := Lib.hid (HGA.out.kept hg2 (fun g e => by injection e with e; omega))
    try replace HY := Lib.hid (Own.kept HY.out hg2 (fun g e e' => by injection e with e; have := (HY.out.lt e').1; omega))
    replace HG := Lib.hid (gr_same (a := w) (by repeat (first | exact HG.out | refine gr_alloc ?_ _ | refine gr_drew ?_ | refine gr_drewN ?_ _ | refine gr_setCell ?_ (.inr (by simp; omega)) _)) hg2); clear hg2
    replace HS := Lib.hid hs2; clear hs2
    go_wp2_with fail
    go_ret
    refine ⟨_, rfl, ⟨r2, ?_, ?_, rfl⟩, HS.out.mono (by omega), HG.out⟩
    · have h := HR2.out; simp at h; omega
    · have h := HR2.out; simp at h; omega

set_option maxRecDepth 100000 in
set_option maxHeartbeats 4000000 in
theorem packet_any (sb : Nat) (m : Int) (w : World) (hs : Str w sb m) (hm : m ≤ 100000000000) :
    Calls Try.prog 9 #[.pointer (some ⟨sb, 0, none⟩)] w (Drawn sb (m + 40) (IsPkt w.heap.size) w) := by
  have hlt := hs.lt
  have HS := Lib.hid hs; clear hs
  have HG := Lib.hid (gr_refl w (some sb))
  go_enter Try.func9, Try.ntmps9
  go_wp2_with fail
  refine (rightPacket_any sb _ _ (by first | exact HS.out | exact HS.out.alloc _ | exact (HS.out.alloc _).alloc _ | exact ((HS.out.alloc _).alloc _).alloc _ | exact HS.out.drewN _ | exact HS.out.setCell (by simp; omega) _ | exact (HS.out.alloc _).setCell (by simp; omega) _ | exact (HS.out.setCell (by simp; omega) _).alloc _ | exact (HS.out.setCell (by simp; omega) _).drewN _ | exact (HS.out.alloc _).drewN _) (by omega)).mono ?_
  rintro e w1 ⟨v1, rfl, ⟨ty, sq, tm, sr, mk, A, n, c, l, rfl, b1, b2, b3, b4, hn, hy, hl⟩, hs1, hg1⟩
  replace b1 : -1099511627776 ≤ ty ∧ ty ≤ 1099511627776 := by omega
  replace b2 : -1099511627776 ≤ sq ∧ sq ≤ 1099511627776 := by omega
  replace b3 : -1099511627776 ≤ tm ∧ tm ≤ 1099511627776 := by omega
  replace b4 : -1099511627776 ≤ sr ∧ sr ≤ 1099511627776 := by omega
  have HZ := Lib.hid ((Blk.new w 28 #[.int .i64 0, .int .i64 0, .int .i64 0, .int .i64 0, .bool false, .slice none 0 0]).grown hg1 (by simp; omega))
  have HY := Lib.hid (Own.lower hy (show w.heap.size ≤ _ by simp)); have HL := Lib.hid hl; clear hy hl
  have z1 := hg1.size; try simp at z1
  try replace HZ := Lib.hid (HZ.out.grown hg1 (by simp; omega))
  try replace HP := Lib.hid (HP.out.grown hg1 (by simp; omega))
  try replace HGA := Lib.hid (HGA.out.kept hg1 (fun g e => by injection e with e; omega))
  try replace HY := Lib.hid (Own.kept HY.out hg1 (fun g e e' => by injection e with e; have := (HY.out.lt e').1; omega))
  replace HG := Lib.hid (gr_same (a := w) (by repeat (first | exact HG.out | refine gr_alloc ?_ _ | refine gr_drew ?_ | refine gr_drewN ?_ _ | refine gr_setCell ?_ (.inr (by simp; omega)) _)) hg1); clear hg1
  replace HS := Lib.hid hs1; clear hs1
  have HP := Lib.hid (Blk.new w1 28 #[.int .i64 ty, .int .i64 sq, .int .i64 tm, .int .i64 sr, .bool mk, .slice A n c])
  replace HZ := Lib.hid (HZ.out.alloc (.cells #[.int .i64 ty, .int .i64 sq, .int .i64 tm, .int .i64 sr, .bool mk, .slice A n c] 28))
  replace HY := Lib.hid (HY.out.alloc (.cells #[.int .i64 ty, .int .i64 sq, .int .i64 tm, .int .i64 sr, .bool mk, .slice A n c] 28))
  go_wp2_with fail
  refine (flip_any sb _ 12 _ (by first | exact HS.out | exact HS.out.alloc _ | exact (HS.out.alloc _).alloc _ | exact ((HS.out.alloc _).alloc _).alloc _ | exact HS.out.drewN _ | exact HS.out.setCell (by simp; omega) _ | exact (HS.out.alloc _).setCell (by simp; omega) _ | exact (HS.out.setCell (by simp; omega) _).alloc _ | exact (HS.out.setCell (by simp; omega) _).drewN _ | exact (HS.out.alloc _).drewN _) (by omega) (by omega) (by omega)).mono ?_
  rintro e w2 ⟨v2, rfl, ⟨f2, rfl⟩, hs2, hg2⟩
  have z2 := hg2.size; try simp at z2
  try replace HZ := Lib.hid (HZ.out.grown hg2 (by simp; omega))
  try replace HP := Lib.hid (HP.out.grown hg2 (by simp; omega))
  try replace HGA := Lib.hid (HGA.out.kept hg2 (fun g e => by injection e with e; omega))
  try replace HY := Lib.hid (Own.kept HY.out hg2 (fun g e e' => by injection e with e; have := (HY.out.lt e').1; omega))
  replace HG := Lib.hid (gr_same (a := w) (by repeat (first | exact HG.out | refine gr_alloc ?_ _ | refine gr_drew ?_ | refine gr_drewN ?_ _ | refine gr_setCell ?_ (.inr (by simp; omega)) _)) hg2); clear hg2
  replace HS := Lib.hid hs2; clear hs2
  cases f2
  · go_wp2_with (first
      | (refine wpl_load_all Try.pktT rfl _ rfl _ rfl _ _ HP.out rfl ?_)
      | (refine wpl_store_all Try.pktT rfl _ _ rfl _ rfl _ _ _ rfl HZ.out rfl rfl (by simp [Value.oneCell']) ?_
         intro wz hst
         have HST := Lib.hid hst; clear hst)
      | fail)
    have hst := HST.out
    refine ret_cell Try.pktT rfl _ _ _ rfl hst.1 rfl rfl ?_
    have hy' := HY.out.kept hst.2.1 (fun g e => by injection e with e; subst e; exact HY.out.blk_ne HZ.out (by decide))
    exact ⟨_, rfl, ⟨_, _, _, _, _, A, n, c, l, rfl, b1, b2, b3, b4, hn, hy', HL.out⟩, (HS.out.grown hst.2.1 (fun g e => by injection e with e; omega)).mono (by omega), gr_trans HG.out hst.2.1 (fun g e => .inr (by injection e with e; omega))⟩
  · go_wp2_with fail
    refine (next_any sb _ 5 _ (by first | exact HS.out | exact HS.out.alloc _ | exact (HS.out.alloc _).alloc _ | exact ((HS.out.alloc _).alloc _).alloc _ | exact HS.out.drewN _ | exact HS.out.setCell (by simp; omega) _ | exact (HS.out.alloc _).setCell (by simp; omega) _ | exact (HS.out.setCell (by simp; omega) _).alloc _ | exact (HS.out.setCell (by simp; omega) _).drewN _ | exact (HS.out.alloc _).drewN _) (by omega) (by omega) (by omega)).mono ?_
    rintro e w3 ⟨v3, rfl, ⟨r3, hlo3, hhi3, rfl⟩, hs3, hg3⟩
    have z3 := hg3.size; try simp at z3
    try replace HZ := Lib.hid (HZ.out.grown hg3 (by simp; omega))
    try replace HP := Lib.hid (HP.out.grown hg3 (by simp; omega))
    try replace HGA := Lib.hid (HGA.out.kept hg3 (fun g e => by injection e with e; omega))
    try replace HY := Lib.hid (Own.kept HY.out hg3 (fun g e e' => by injection e with e; have := (HY.out.lt e').1; omega))
    replace HG := Lib.hid (gr_same (a := w) (by repeat (first | exact HG.out | refine gr_alloc ?_ _ | refine gr_drew ?_ | refine gr_drewN ?_ _ | refine gr_setCell ?_ (.inr (by simp; omega)) _)) hg3); clear hg3
    replace HS := Lib.hid hs3; clear hs3
    have cP := HP.out.cell
    have fP := HP.out.frozen
    rcases (by omega : r3 = 0 ∨ r3 = 1 ∨ r3 = 2 ∨ r3 = 3 ∨ r3 = 4) with rfl | rfl | rfl | rfl | rfl
    · go_wp2_with fail
      refine (odd_any sb _ 0 127 _ (by first | exact HS.out | exact HS.out.alloc _ | exact (HS.out.alloc _).alloc _ | exact ((HS.out.alloc _).alloc _).alloc _ | exact HS.out.drewN _ | exact HS.out.setCell (by simp; omega) _ | exact (HS.out.alloc _).setCell (by simp; omega) _ | exact (HS.out.setCell (by simp; omega) _).alloc _ | exact (HS.out.setCell (by simp; omega) _).drewN _ | exact (HS.out.alloc _).drewN _) (by omega) (by omega) (by omega) (by omega)).mono ?_
      rintro e w4 ⟨v4, rfl, ⟨r4, hlo4, hhi4, rfl⟩, hs4, hg4⟩
      have z4 := hg4.size; try simp at z4
      try replace HZ := Lib.hid (HZ.out.grown hg4 (by simp; omega))
      try replace HP := Lib.hid (HP.out.grown hg4 (by simp; omega))
      try replace HGA := Lib.hid (HGA.out.kept hg4 (fun g e => by injection e with e; omega))
      try replace HY := Lib.hid (Own.kept HY.out hg4 (fun g e e' => by injection e with e; have := (HY.out.lt e').1; omega))
      replace HG := Lib.hid (gr_same (a := w) (by repeat (first | exact HG.out | refine gr_alloc ?_ _ | refine gr_drew ?_ | refine gr_drewN ?_ _ | refine gr_setCell ?_ (.inr (by simp; omega)) _)) hg4); clear hg4
      replace HS := Lib.hid hs4; clear hs4
      have cP := HP.out.cell
      have fP := HP.out.frozen
      have hneP := HY.out.blk_ne HP.out (by decide)
      have HP0 := Lib.hid HP.out
      replace HP := Lib.hid (show Blk _ _ _ #[.int .i64 r4, .int .i64 sq, .int .i64 tm, .int .i64 sr, .bool mk, .slice A n c] from HP.out.set_ 0 (.int .i64 r4))
      replace HZ := Lib.hid (HZ.out.far (p := ⟨w1.heap.size, 0, none⟩) (by simp; omega) (.int .i64 r4))
      replace HY := Lib.hid (HY.out.far (p := ⟨w1.heap.size, 0, none⟩) hneP (.int .i64 r4))
      replace HS := Lib.hid (HS.out.setCell (p := ⟨w1.heap.size, 0, none⟩) (by simp; omega) (.int .i64 r4))
      replace HG := Lib.hid (gr_setCell HG.out (p := ⟨w1.heap.size, 0, none⟩) (.inr (by simp; omega)) (.int .i64 r4))
      clear hneP
      go_wp2_with (first
        | (refine wpl_load_all Try.pktT rfl _ rfl _ rfl _ _ HP.out rfl ?_)
        | (refine wpl_store_all Try.pktT rfl _ _ rfl _ rfl _ _ _ rfl HZ.out rfl rfl (by simp [Value.oneCell']) ?_
           intro wz hst
           have HST := Lib.hid hst; clear hst)
        | fail)
      have hst := HST.out
      refine ret_cell Try.pktT rfl _ _ _ rfl hst.1 rfl rfl ?_
      have hy' := HY.out.kept hst.2.1 (fun g e => by injection e with e; subst e; exact HY.out.blk_ne HZ.out (by decide))
      exact ⟨_, rfl, ⟨_, _, _, _, _, A, n, c, l, rfl, ⟨hlo4, hhi4⟩, b2, b3, b4, hn, hy', HL.out⟩, (HS.out.grown hst.2.1 (fun g e => by injection e with e; omega)).mono (by omega), gr_trans HG.out hst.2.1 (fun g e => .inr (by injection e with e; omega))⟩
    · go_wp2_with fail
      refine (odd_any sb _ 0 65535 _ (by first | exact HS.out | exact HS.out.alloc _ | exact (HS.out.alloc _).alloc _ | exact ((HS.out.alloc _).alloc _).alloc _ | exact HS.out.drewN _ | exact HS.out.setCell (by simp; omega) _ | exact (HS.out.alloc _).setCell (by simp; omega) _ | exact (HS.out.setCell (by simp; omega) _).alloc _ | exact (HS.out.setCell (by simp; omega) _).drewN _ | exact (HS.out.alloc _).drewN _) (by omega) (by omega) (by omega) (by omega)).mono ?_
      rintro e w4 ⟨v4, rfl, ⟨r4, hlo4, hhi4, rfl⟩, hs4, hg4⟩
      have z4 := hg4.size; try simp at z4
      try replace HZ := Lib.hid (HZ.out.grown hg4 (by simp; omega))
      try replace HP := Lib.hid (HP.out.grown hg4 (by simp; omega))
      try replace HGA := Lib.hid (HGA.out.kept hg4 (fun g e => by injection e with e; omega))
      try replace HY := Lib.hid (Own.kept HY.out hg4 (fun g e e' => by injection e with e; have := (HY.out.lt e').1; omega))
      replace HG := Lib.hid (gr_same (a := w) (by repeat (first | exact HG.out | refine gr_alloc ?_ _ | refine gr_drew ?_ | refine gr_drewN ?_ _ | refine gr_setCell ?_ (.inr (by simp; omega)) _)) hg4); clear hg4
      replace HS := Lib.hid hs4; clear hs4
      have cP := HP.out.cell
      have fP := HP.out.frozen
      have hneP := HY.out.blk_ne HP.out (by decide)
      have HP0 := Lib.hid HP.out
      replace HP := Lib.hid (show Blk _ _ _ #[.int .i64 ty, .int .i64 r4, .int .i64 tm, .int .i64 sr, .bool mk, .slice A n c] from HP.out.set_ 1 (.int .i64 r4))
      replace HZ := Lib.hid (HZ.out.far (p := ⟨w1.heap.size, 1, none⟩) (by simp; omega) (.int .i64 r4))
      replace HY := Lib.hid (HY.out.far (p := ⟨w1.heap.size, 1, none⟩) hneP (.int .i64 r4))
      replace HS := Lib.hid (HS.out.setCell (p := ⟨w1.heap.size, 1, none⟩) (by simp; omega) (.int .i64 r4))
      replace HG := Lib.hid (gr_setCell HG.out (p := ⟨w1.heap.size, 1, none⟩) (.inr (by simp; omega)) (.int .i64 r4))
      clear hneP
      go_wp2_with (first
        | (refine wpl_load_all Try.pktT rfl _ rfl _ rfl _ _ HP.out rfl ?_)
        | (refine wpl_store_all Try.pktT rfl _ _ rfl _ rfl _ _ _ rfl HZ.out rfl rfl (by simp [Value.oneCell']) ?_
           intro wz hst
           have HST := Lib.hid hst; clear hst)
        | fail)
      have hst := HST.out
      refine ret_cell Try.pktT rfl _ _ _ rfl hst.1 rfl rfl ?_
      have hy' := HY.out.kept hst.2.1 (fun g e => by injection e with e; subst e; exact HY.out.blk_ne HZ.out (by decide))
      exact ⟨_, rfl, ⟨_, _, _, _, _, A, n, c, l, rfl, b1, ⟨hlo4, hhi4⟩, b3, b4, hn, hy', HL.out⟩, (HS.out.grown hst.2.1 (fun g e => by injection e with e; omega)).mono (by omega), gr_trans HG.out hst.2.1 (fun g e => .inr (by injection e with e; omega))⟩
    · go_wp2_with fail
      refine (odd_any sb _ 0 4294967295 _ (by first | exact HS.out | exact HS.out.alloc _ | exact (HS.out.alloc _).alloc _ | exact ((HS.out.alloc _).alloc _).alloc _ | exact HS.out.drewN _ | exact HS.out.setCell (by simp; omega) _ | exact (HS.out.alloc _).setCell (by simp; omega) _ | exact (HS.out.setCell (by simp; omega) _).alloc _ | exact (HS.out.setCell (by simp; omega) _).drewN _ | exact (HS.out.alloc _).drewN _) (by omega) (by omega) (by omega) (by omega)).mono ?_
      rintro e w4 ⟨v4, rfl, ⟨r4, hlo4, hhi4, rfl⟩, hs4, hg4⟩
      have z4 := hg4.size; try simp at z4
      try replace HZ := Lib.hid (HZ.out.grown hg4 (by simp; omega))
      try replace HP := Lib.hid (HP.out.grown hg4 (by simp; omega))
      try replace HGA := Lib.hid (HGA.out.kept hg4 (fun g e => by injection e with e; omega))
      try replace HY := Lib.hid (Own.kept HY.out hg4 (fun g e e' => by injection e with e; have := (HY.out.lt e').1; omega))
      replace HG := Lib.hid (gr_same (a := w) (by repeat (first | exact HG.out | refine gr_alloc ?_ _ | refine gr_drew ?_ | refine gr_drewN ?_ _ | refine gr_setCell ?_ (.inr (by simp; omega)) _)) hg4); clear hg4
      replace HS := Lib.hid hs4; clear hs4
      have cP := HP.out.cell
      have fP := HP.out.frozen
      have hneP := HY.out.blk_ne HP.out (by decide)
      have HP0 := Lib.hid HP.out
      replace HP := Lib.hid (show Blk _ _ _ #[.int .i64 ty, .int .i64 sq, .int .i64 r4, .int .i64 sr, .bool mk, .slice A n c] from HP.out.set_ 2 (.int .i64 r4))
      replace HZ := Lib.hid (HZ.out.far (p := ⟨w1.heap.size, 2, none⟩) (by simp; omega) (.int .i64 r4))
      replace HY := Lib.hid (HY.out.far (p := ⟨w1.heap.size, 2, none⟩) hneP (.int .i64 r4))
      replace HS := Lib.hid (HS.out.setCell (p := ⟨w1.heap.size, 2, none⟩) (by simp; omega) (.int .i64 r4))
      replace HG := Lib.hid (gr_setCell HG.out (p := ⟨w1.heap.size, 2, none⟩) (.inr (by simp; omega)) (.int .i64 r4))
      clear hneP
      go_wp2_with (first
        | (refine wpl_load_all Try.pktT rfl _ rfl _ rfl _ _ HP.out rfl ?_)
        | (refine wpl_store_all Try.pktT rfl _ _ rfl _ rfl _ _ _ rfl HZ.out rfl rfl (by simp [Value.oneCell']) ?_
           intro wz hst
           have HST := Lib.hid hst; clear hst)
        | fail)
      have hst := HST.out
      refine ret_cell Try.pktT rfl _ _ _ rfl hst.1 rfl rfl ?_
      have hy' := HY.out.kept hst.2.1 (fun g e => by injection e with e; subst e; exact HY.out.blk_ne HZ.out (by decide))
      exact ⟨_, rfl, ⟨_, _, _, _, _, A, n, c, l, rfl, b1, b2, ⟨hlo4, hhi4⟩, b4, hn, hy', HL.out⟩, (HS.out.grown hst.2.1 (fun g e => by injection e with e; omega)).mono (by omega), gr_trans HG.out hst.2.1 (fun g e => .inr (by injection e with e; omega))⟩
    · go_wp2_with fail
      refine (odd_any sb _ 0 4294967295 _ (by first | exact HS.out | exact HS.out.alloc _ | exact (HS.out.alloc _).alloc _ | exact ((HS.out.alloc _).alloc _).alloc _ | exact HS.out.drewN _ | exact HS.out.setCell (by simp; omega) _ | exact (HS.out.alloc _).setCell (by simp; omega) _ | exact (HS.out.setCell (by simp; omega) _).alloc _ | exact (HS.out.setCell (by simp; omega) _).drewN _ | exact (HS.out.alloc _).drewN _) (by omega) (by omega) (by omega) (by omega)).mono ?_
      rintro e w4 ⟨v4, rfl, ⟨r4, hlo4, hhi4, rfl⟩, hs4, hg4⟩
      have z4 := hg4.size; try simp at z4
      try replace HZ := Lib.hid (HZ.out.grown hg4 (by simp; omega))
      try replace HP := Lib.hid (HP.out.grown hg4 (by simp; omega))
      try replace HGA := Lib.hid (HGA.out.kept hg4 (fun g e => by injection e with e; omega))
      try replace HY := Lib.hid (Own.kept HY.out hg4 (fun g e e' => by injection e with e; have := (HY.out.lt e').1; omega))
      replace HG := Lib.hid (gr_same (a := w) (by repeat (first | exact HG.out | refine gr_alloc ?_ _ | refine gr_drew ?_ | refine gr_drewN ?_ _ | refine gr_setCell ?_ (.inr (by simp; omega)) _)) hg4); clear hg4
      replace HS := Lib.hid hs4; clear hs4
      have cP := HP.out.cell
      have fP := HP.out.frozen
      have hneP := HY.out.blk_ne HP.out (by decide)
      have HP0 := Lib.hid HP.out
      replace HP := Lib.hid (show Blk _ _ _ #[.int .i64 ty, .int .i64 sq, .int .i64 tm, .int .i64 r4, .bool mk, .slice A n c] from HP.out.set_ 3 (.int .i64 r4))
      replace HZ := Lib.hid (HZ.out.far (p := ⟨w1.heap.size, 3, none⟩) (by simp; omega) (.int .i64 r4))
      replace HY := Lib.hid (HY.out.far (p := ⟨w1.heap.size, 3, none⟩) hneP (.int .i64 r4))
      replace HS := Lib.hid (HS.out.setCell (p := ⟨w1.heap.size, 3, none⟩) (by simp; omega) (.int .i64 r4))
      replace HG := Lib.hid (gr_setCell HG.out (p := ⟨w1.heap.size, 3, none⟩) (.inr (by simp; omega)) (.int .i64 r4))
      clear hneP
      go_wp2_with (first
        | (refine wpl_load_all Try.pktT rfl _ rfl _ rfl _ _ HP.out rfl ?_)
        | (refine wpl_store_all Try.pktT rfl _ _ rfl _ rfl _ _ _ rfl HZ.out rfl rfl (by simp [Value.oneCell']) ?_
           intro wz hst
           have HST := Lib.hid hst; clear hst)
        | fail)
      have hst := HST.out
      refine ret_cell Try.pktT rfl _ _ _ rfl hst.1 rfl rfl ?_
      have hy' := HY.out.kept hst.2.1 (fun g e => by injection e with e; subst e; exact HY.out.blk_ne HZ.out (by decide))
      exact ⟨_, rfl, ⟨_, _, _, _, _, A, n, c, l, rfl, b1, b2, b3, ⟨hlo4, hhi4⟩, hn, hy', HL.out⟩, (HS.out.grown hst.2.1 (fun g e => by injection e with e; omega)).mono (by omega), gr_trans HG.out hst.2.1 (fun g e => .inr (by injection e with e; omega))⟩
    · clear cP fP
      go_wp2_with fail
      refine (pick_new sb _ [1000, 1001] _ (by first | exact HS.out | exact HS.out.alloc _ | exact (HS.out.alloc _).alloc _ | exact ((HS.out.alloc _).alloc _).alloc _ | exact HS.out.drewN _ | exact HS.out.setCell (by simp; omega) _ | exact (HS.out.alloc _).setCell (by simp; omega) _ | exact (HS.out.setCell (by simp; omega) _).alloc _ | exact (HS.out.setCell (by simp; omega) _).drewN _ | exact (HS.out.alloc _).drewN _) (by omega) (by simp) rfl rfl (by simp) (by simp)).mono ?_
      rintro e w4 ⟨v4, rfl, ⟨r4, hr4, rfl⟩, hs4, hg4⟩
      have HR4 := Lib.hid hr4; clear hr4
      have z4 := hg4.size; try simp at z4
      try replace HZ := Lib.hid (HZ.out.grown hg4 (by simp; omega))
      try replace HP := Lib.hid (HP.out.grown hg4 (by simp; omega))
      try replace HGA := Lib.hid (HGA.out.kept hg4 (fun g e => by injection e with e; omega))
      try replace HY := Lib.hid (Own.kept HY.out hg4 (fun g e e' => by injection e with e; have := (HY.out.lt e').1; omega))
      replace HG := Lib.hid (gr_same (a := w) (by repeat (first | exact HG.out | refine gr_alloc ?_ _ | refine gr_drew ?_ | refine gr_drewN ?_ _ | refine gr_setCell ?_ (.inr (by simp; omega)) _)) hg4); clear hg4
      replace HS := Lib.hid hs4; clear hs4
      have cP := HP.out.cell
      have fP := HP.out.frozen
      have h4 : r4 = 1000 ∨ r4 = 1001 := by have h := HR4.out; simp at h; exact h
      have h40 : 1000 ≤ r4 ∧ r4 ≤ 1001 := by omega
      clear h4
      obtain ⟨q, rfl⟩ : ∃ q : Nat, r4 = q := ⟨r4.toNat, by omega⟩
      obtain ⟨q0, q1⟩ := h40
      have hmk := run_make1 Try.byteT q rfl (by omega) (by omega)
      have y4 : w1.heap.size < w4.heap.size := by omega
      have hob := Own.made' (w4.setCell ⟨w1.heap.size, 5, none⟩ (.slice (some ⟨w4.heap.size, 0, none⟩) q q)) 5 (.int .u8 0) q w4.heap.size (by unfold maxLen; omega) (size_setCell _ _ _)
      replace HP := Lib.hid (show Blk _ _ _ #[.int .i64 ty, .int .i64 sq, .int .i64 tm, .int .i64 sr, .bool mk, .slice (some ⟨w4.heap.size, 0, none⟩) q q] from (HP.out.set_ 5 (.slice (some ⟨w4.heap.size, 0, none⟩) q q)).alloc (.cells (Array.replicate q (.int .u8 0)) 5))
      replace HZ := Lib.hid ((HZ.out.far (p := ⟨w1.heap.size, 5, none⟩) (by simp; omega) (.slice (some ⟨w4.heap.size, 0, none⟩) q q)).alloc (.cells (Array.replicate q (.int .u8 0)) 5))
      replace HY := Lib.hid hob
      replace HS := Lib.hid ((HS.out.setCell (p := ⟨w1.heap.size, 5, none⟩) (by simp; omega) (.slice (some ⟨w4.heap.size, 0, none⟩) q q)).alloc (.cells (Array.replicate q (.int .u8 0)) 5))
      replace HG := Lib.hid (gr_alloc (gr_setCell HG.out (p := ⟨w1.heap.size, 5, none⟩) (.inr (by simp; omega)) (.slice (some ⟨w4.heap.size, 0, none⟩) q q)) (.cells (Array.replicate q (.int .u8 0)) 5))
      clear hob
      go_wp2_with (first
        | (refine wpl_load_all Try.pktT rfl _ rfl _ rfl _ _ HP.out rfl ?_)
        | (refine wpl_store_all Try.pktT rfl _ _ rfl _ rfl _ _ _ rfl HZ.out rfl rfl (by simp [Value.oneCell']) ?_
           intro wz hst
           have HST := Lib.hid hst; clear hst)
        | fail)
      have hst := HST.out
      refine ret_cell Try.pktT rfl _ _ _ rfl hst.1 rfl rfl ?_
      have hy' := (HY.out.kept hst.2.1 (fun g e => by injection e with e; subst e; exact HY.out.blk_ne HZ.out (by decide))).lower (show w.heap.size ≤ w4.heap.size by omega)
      rw [← List.map_replicate] at hy'
      exact ⟨_, rfl, ⟨_, _, _, _, _, _, q, q, List.replicate q 0, rfl, b1, b2, b3, b4, by omega, hy', by intro b hb; rw [List.eq_of_mem_replicate hb]; omega⟩, (HS.out.grown hst.2.1 (fun g e => by injection e with e; omega)).mono (by omega), gr_trans HG.out hst.2.1 (fun g e => .inr (by injection e with e; omega))⟩

end Go.Proofs.Ytdknfhpconfhkaa

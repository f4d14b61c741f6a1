/- Contract of the generator of right arrivals. Conditions: none. -/
import Derived.Test.YtdknfhpconfhkaaGenArr
import Derived.BigRegion
namespace Go.Proofs.Ytdknfhpconfhkaa
open Go.RowKit

def GRel (w : World) (sb : Nat) (m : Int) (i : Nat) (A : Option Addr) (n c : Nat) (l : List ArrV) (wr : World) : Prop :=
  Str wr sb (m + 20 * i) ∧ w.grownBy wr (some sb) ∧ GArrs wr w.heap.size A n c l ∧ n ≤ 2 * i

set_option maxRecDepth 100000 in
set_option maxHeartbeats 20000000 in
theorem rightArrivals_any (sb : Nat) (m : Int) (most : Nat) (w : World) (hs : Str w sb m) (hm : m ≤ 100000000000) (hmost : most ≤ 1000) :
    Calls Try.prog 71 #[.pointer (some ⟨sb, 0, none⟩), .int .i64 most] w (Drawn sb (m + 20 * most + 10) (IsArrs w.heap.size (2 * most)) w) := by
  have hlt := hs.lt
  have HS := Lib.hid hs; clear hs
  have HG := Lib.hid (gr_refl w (some sb))
  go_enter Try.func71, Try.ntmps71
  go_wp2_with fail
  refine (pick_new sb _ [0, 5, 65533] _ (by first | exact HS.out | exact HS.out.alloc _ | exact (HS.out.alloc _).alloc _ | exact ((HS.out.alloc _).alloc _).alloc _ | exact HS.out.drewN _ | exact HS.out.setCell (by simp; omega) _ | exact (HS.out.alloc _).setCell (by simp; omega) _ | exact (HS.out.setCell (by simp; omega) _).alloc _ | exact (HS.out.setCell (by simp; omega) _).drewN _ | exact (HS.out.alloc _).drewN _) (by omega) (by simp) rfl rfl (by simp) (by simp)).mono ?_
  rintro e w1 ⟨v1, rfl, ⟨r1, hr1, rfl⟩, hs1, hg1⟩
  have HR1 := Lib.hid hr1; clear hr1
  have z1 := hg1.size; try simp at z1
  try replace HZ := Lib.hid (HZ.out.grown hg1 (by simp; omega))
  try replace HP := Lib.hid (HP.out.grown hg1 (by simp; omega))
  try replace HY := Lib.hid (Own.kept HY.out hg1 (fun g e e' => by injection e with e; have := (HY.out.lt e').1; omega))
  replace HG := Lib.hid (gr_same (a := w) (by repeat (first | exact HG.out | refine gr_alloc ?_ _ | refine gr_drew ?_ | refine gr_drewN ?_ _ | refine gr_setCell ?_ (.inr (by simp; omega)) _)) hg1); clear hg1
  replace HS := Lib.hid hs1; clear hs1
  go_wp2_with fail
  refine (pick_new sb _ [0, 100, 4294967096] _ (by first | exact HS.out | exact HS.out.alloc _ | exact (HS.out.alloc _).alloc _ | exact ((HS.out.alloc _).alloc _).alloc _ | exact HS.out.drewN _ | exact HS.out.setCell (by simp; omega) _ | exact (HS.out.alloc _).setCell (by simp; omega) _ | exact (HS.out.setCell (by simp; omega) _).alloc _ | exact (HS.out.setCell (by simp; omega) _).drewN _ | exact (HS.out.alloc _).drewN _) (by omega) (by simp) rfl rfl (by simp) (by simp)).mono ?_
  rintro e w2 ⟨v2, rfl, ⟨r2, hr2, rfl⟩, hs2, hg2⟩
  have HR2 := Lib.hid hr2; clear hr2
  have z2 := hg2.size; try simp at z2
  try replace HZ := Lib.hid (HZ.out.grown hg2 (by simp; omega))
  try replace HP := Lib.hid (HP.out.grown hg2 (by simp; omega))
  try replace HY := Lib.hid (Own.kept HY.out hg2 (fun g e e' => by injection e with e; have := (HY.out.lt e').1; omega))
  replace HG := Lib.hid (gr_same (a := w) (by repeat (first | exact HG.out | refine gr_alloc ?_ _ | refine gr_drew ?_ | refine gr_drewN ?_ _ | refine gr_setCell ?_ (.inr (by simp; omega)) _)) hg2); clear hg2
  replace HS := Lib.hid hs2; clear hs2
  go_wp2_with fail
  refine (range_any sb _ 0 50 _ (by first | exact HS.out | exact HS.out.alloc _ | exact (HS.out.alloc _).alloc _ | exact ((HS.out.alloc _).alloc _).alloc _ | exact HS.out.drewN _ | exact HS.out.setCell (by simp; omega) _ | exact (HS.out.alloc _).setCell (by simp; omega) _ | exact (HS.out.setCell (by simp; omega) _).alloc _ | exact (HS.out.setCell (by simp; omega) _).drewN _ | exact (HS.out.alloc _).drewN _) (by omega) (by omega) (by omega) (by omega)).mono ?_
  rintro e w3 ⟨v3, rfl, ⟨r3, hlo3, hhi3, rfl⟩, hs3, hg3⟩
  have z3 := hg3.size; try simp at z3
  try replace HZ := Lib.hid (HZ.out.grown hg3 (by simp; omega))
  try replace HP := Lib.hid (HP.out.grown hg3 (by simp; omega))
  try replace HY := Lib.hid (Own.kept HY.out hg3 (fun g e e' => by injection e with e; have := (HY.out.lt e').1; omega))
  replace HG := Lib.hid (gr_same (a := w) (by repeat (first | exact HG.out | refine gr_alloc ?_ _ | refine gr_drew ?_ | refine gr_drewN ?_ _ | refine gr_setCell ?_ (.inr (by simp; omega)) _)) hg3); clear hg3
  replace HS := Lib.hid hs3; clear hs3
  go_wp2_with fail
  refine (pick_new sb _ [8, 80, 160] _ (by first | exact HS.out | exact HS.out.alloc _ | exact (HS.out.alloc _).alloc _ | exact ((HS.out.alloc _).alloc _).alloc _ | exact HS.out.drewN _ | exact HS.out.setCell (by simp; omega) _ | exact (HS.out.alloc _).setCell (by simp; omega) _ | exact (HS.out.setCell (by simp; omega) _).alloc _ | exact (HS.out.setCell (by simp; omega) _).drewN _ | exact (HS.out.alloc _).drewN _) (by omega) (by simp) rfl rfl (by simp) (by simp)).mono ?_
  rintro e w4 ⟨v4, rfl, ⟨r4, hr4, rfl⟩, hs4, hg4⟩
  have HR4 := Lib.hid hr4; clear hr4
  have z4 := hg4.size; try simp at z4
  try replace HZ := Lib.hid (HZ.out.grown hg4 (by simp; omega))
  try replace HP := Lib.hid (HP.out.grown hg4 (by simp; omega))
  try replace HY := Lib.hid (Own.kept HY.out hg4 (fun g e e' => by injection e with e; have := (HY.out.lt e').1; omega))
  replace HG := Lib.hid (gr_same (a := w) (by repeat (first | exact HG.out | refine gr_alloc ?_ _ | refine gr_drew ?_ | refine gr_drewN ?_ _ | refine gr_setCell ?_ (.inr (by simp; omega)) _)) hg4); clear hg4
  replace HS := Lib.hid hs4; clear hs4
  have hx1 : 0 ≤ r1 ∧ r1 ≤ 65533 := by have h := HR1.out; simp at h; omega
  have hx2 : 0 ≤ r2 ∧ r2 ≤ 4294967096 := by have h := HR2.out; simp at h; omega
  have hx4 : 8 ≤ r4 ∧ r4 ≤ 160 := by have h := HR4.out; simp at h; omega
  clear HR1 HR2 HR4
  obtain ⟨hx10, hx11⟩ := hx1
  obtain ⟨hx20, hx21⟩ := hx2
  obtain ⟨hx40, hx41⟩ := hx4
  go_wp2_with fail
  refine (range_any sb _ 0 most _ (by first | exact HS.out | exact HS.out.alloc _ | exact (HS.out.alloc _).alloc _ | exact ((HS.out.alloc _).alloc _).alloc _ | exact HS.out.drewN _ | exact HS.out.setCell (by simp; omega) _ | exact (HS.out.alloc _).setCell (by simp; omega) _ | exact (HS.out.setCell (by simp; omega) _).alloc _ | exact (HS.out.setCell (by simp; omega) _).drewN _ | exact (HS.out.alloc _).drewN _) (by omega) (by omega) (by omega) (by omega)).mono ?_
  rintro e w5 ⟨v5, rfl, ⟨r5, hlo5, hhi5, rfl⟩, hs5, hg5⟩
  have z5 := hg5.size; try simp at z5
  try replace HZ := Lib.hid (HZ.out.grown hg5 (by simp; omega))
  try replace HP := Lib.hid (HP.out.grown hg5 (by simp; omega))
  try replace HY := Lib.hid (Own.kept HY.out hg5 (fun g e e' => by injection e with e; have := (HY.out.lt e').1; omega))
  replace HG := Lib.hid (gr_same (a := w) (by repeat (first | exact HG.out | refine gr_alloc ?_ _ | refine gr_drew ?_ | refine gr_drewN ?_ _ | refine gr_setCell ?_ (.inr (by simp; omega)) _)) hg5); clear hg5
  replace HS := Lib.hid hs5; clear hs5
  obtain ⟨nn, rfl⟩ : ∃ nn : Nat, r5 = nn := ⟨r5.toNat, by omega⟩
  have HREL := Lib.hid (show GRel w sb (m + 5) 0 none 0 0 [] w5 from ⟨HS.out.mono (by omega), HG.out, GArrs.nil _ _, by omega⟩)
  clear HS HG
  go_wp2_with fail
  go_loopw [5, 6, 7, 8, 10, 11, 26] (fun v s6 s7 s8 _ _ t wr => ∃ (i : Nat) (A : Option Addr) (n c : Nat) (l : List ArrV) (seq time at_ : Int), i ≤ nn ∧ t = .int .i64 i ∧ v = .slice A n c ∧ s6 = .int .i64 seq ∧ s7 = .int .i64 time ∧ s8 = .int .i64 at_ ∧ (0 ≤ seq ∧ seq ≤ 65533 + i) ∧ (0 ≤ time ∧ time ≤ 4294967096 + 160 * i) ∧ (0 ≤ at_ ∧ at_ ≤ 50 + 25 * i) ∧ GRel w sb (m + 5) i A n c l wr) (fun _ _ _ _ _ _ t _ => nn - (intOf t).toNat)
  case atStart => exact ⟨0, none, 0, 0, [], r1, r2, r3, Nat.zero_le _, rfl, rfl, rfl, rfl, rfl, by omega, by omega, by omega, HREL.out⟩
  case round =>
    clear HREL
    obtain ⟨i, A, n, c, l, seq, time, at_, hi, rfl, rfl, rfl, rfl, rfl, ⟨hq0, hq1⟩, ⟨ht0, ht1⟩, ⟨ha0, ha1⟩, hs, hg, hga, hn2⟩ := hrel
    have HS := Lib.hid hs; have HG := Lib.hid hg; have HGA := Lib.hid hga
    have zr := hg.size
    clear hs hg hga
    by_cases hlt2 : i < nn
    · have hkn : decide (i < nn) = true := by simpa using hlt2
      obtain ⟨wo, rfl⟩ : ∃ wo : World, wo = wr := ⟨_, rfl⟩
      go_wp2_with fail
      refine (pick_new sb _ [0, 3, 8] _ (by first | exact HS.out | exact HS.out.alloc _ | exact (HS.out.alloc _).alloc _ | exact ((HS.out.alloc _).alloc _).alloc _ | exact HS.out.drewN _ | exact HS.out.setCell (by simp; omega) _ | exact (HS.out.alloc _).setCell (by simp; omega) _ | exact (HS.out.setCell (by simp; omega) _).alloc _ | exact (HS.out.setCell (by simp; omega) _).drewN _ | exact (HS.out.alloc _).drewN _) (by omega) (by simp) rfl rfl (by simp) (by simp)).mono ?_
      rintro e w6 ⟨v6, rfl, ⟨r6, hr6, rfl⟩, hs6, hg6⟩
      have hx6 : 0 ≤ r6 ∧ r6 ≤ 8 := by simp at hr6; omega
      obtain ⟨hx60, hx61⟩ := hx6
      clear hr6
      obtain ⟨np, rfl⟩ : ∃ np : Nat, r6 = np := ⟨r6.toNat, by omega⟩
      have HREL := Lib.hid (show RP2 wo sb wo.heap.size (m + 5 + 20 * i + 1) 0 (seq % 65536) (time % 4294967296) 7 false 0 none 0 [] w6 from ⟨hs6.mono (by omega), gr_same (gr_alloc (gr_refl _ _) _) hg6, Nat.le_refl _, (Blk.new wo 28 _).grown hg6 (by simp; omega), Own.nil _ _ _ _, by simp⟩)
      clear hs6 hg6
      go_wp2_with fail
      go_loopw [36] (fun t wr => ∃ (k : Nat) (A' : Option Addr) (c' : Nat) (l' : List Int), k ≤ np ∧ t = .int .i64 k ∧ RP2 wo sb wo.heap.size (m + 5 + 20 * i + 1) 0 (seq % 65536) (time % 4294967296) 7 false k A' c' l' wr) (fun t _ => np - (intOf t).toNat)
      case atStart => exact ⟨0, none, 0, [], Nat.zero_le _, rfl, HREL.out⟩
      case round =>
        clear HREL
        obtain ⟨k, A', c', l', hk, rfl, hrel⟩ := hrel
        have HREL := Lib.hid hrel
        obtain ⟨hs', hg', hp', hb', ho', hl'⟩ := hrel
        have cP := hb'.cell
        have fP := hb'.frozen
        have zr2 := hg'.size
        have zp := hb'.lt
        have HS2 := Lib.hid hs'; have HB := Lib.hid hb'; have HO := Lib.hid ho'; have HL := Lib.hid hl'; have HG2 := Lib.hid hg'
        clear hs' hg' hb' ho' hl'
        by_cases hlt3 : k < np
        · have hkp : decide (k < np) = true := by simpa using hlt3
          have hne : blkOf A' ≠ some sb := fun e => by have := (HO.out.lt e).1; omega
          have hneB : blkOf A' ≠ some wo.heap.size := HO.out.blk_ne HB.out (by decide)
          have HNE := Lib.hid hne; have HNB := Lib.hid hneB; clear hne hneB
          go_wp2_with fail
          go_region_law (first
              | (refine step_app _ (by rfl) _ _ Try.byteT (by rfl) wo.heap.size A' k c' _ (by rfl) (by exact HO7.out.alloc _) _ _ 1 1 [.int .u8 (IntKind.u8.wrap r7)] (by rfl) (by exact Reads.one _ _ _ _ rfl) (by simp [Value.oneCell']) (by unfold maxLen; omega) (by omega) (by simp; omega) ?_
                 intro A1 c1 w8 h8
                 have HB8 := Lib.hid ((HB7.out.alloc _).grown h8.2.1 (Ne.symm HNB.out))
                 have H8 := Lib.hid h8
                 have c8 := HB8.out.cell
                 have f8 := HB8.out.frozen
                 clear h8)
              | (go_simp
                 go_at_call 21
                 refine (range_any sb _ 0 255 _ (by exact HS2.out.drew) (by omega) (by omega) (by omega) (by omega)).mono ?_
                 rintro e w7 ⟨v7, rfl, ⟨r7, hlo7, hhi7, rfl⟩, hs7, hg7⟩
                 have HB7 := Lib.hid (HB.out.drew.grown hg7 (by simp; omega))
                 have HO7 := Lib.hid (HO.out.drew.kept hg7 (fun g e => by injection e with e; subst e; exact HNE.out))
                 have z7 := hg7.size; simp at z7
                 have y7 : wo.heap.size < w7.heap.size := by omega
                 have HG7 := Lib.hid hg7
                 have HS7 := Lib.hid hs7
                 have c7 := HB7.out.cell
                 clear hs7 hg7))
          all_goals
            go_wp2_with fail
            go_roundw
            case rel =>
              exact ⟨k + 1, A1, c1, _, by omega, by go_num, HREL.out.next (by omega) (by rw [IntKind.wrap_u8]; omega) HS7.out HG7.out H8.out⟩
            case measure => simp [intOf]; omega
        · obtain rfl : k = np := by omega
          have HPAY := Lib.hid (show PayOK wr w.heap.size ⟨0, 0, seq % 65536, time % 4294967296, 7, false, A', k, c', l'⟩ from ⟨Own.lower HO.out zr, HL.out, by dsimp only; omega⟩)
          replace HGA := Lib.hid (HGA.out.kept HG2.out (fun g e => by injection e with e; omega))
          replace HG := Lib.hid (gr_same HG.out HG2.out)
          replace HS := HS2
          clear HO HL HG2 HREL cP fP HS2
          go_wp2_with fail
          refine (pick_new sb _ [0, 1, r4 / 8, r4 / 8, 25] _ (by first | exact HS.out | exact HS.out.alloc _ | exact (HS.out.alloc _).alloc _ | exact ((HS.out.alloc _).alloc _).alloc _ | exact HS.out.drewN _ | exact HS.out.setCell (by simp; omega) _ | exact (HS.out.alloc _).setCell (by simp; omega) _ | exact (HS.out.setCell (by simp; omega) _).alloc _ | exact (HS.out.setCell (by simp; omega) _).drewN _ | exact (HS.out.alloc _).drewN _) (by omega) (by simp) rfl rfl (by simp) (by simp)).mono ?_
          rintro e w7 ⟨v7, rfl, ⟨r7, hr7, rfl⟩, hs7, hg7⟩
          have hx7 : 0 ≤ r7 ∧ r7 ≤ 25 := by simp at hr7; omega
          clear hr7
          obtain ⟨hx70, hx71⟩ := hx7
          replace HGA := Lib.hid (HGA.out.kept hg7 (fun g e => by injection e with e; omega))
          replace HB := Lib.hid (HB.out.grown hg7 (by simp; omega))
          replace HPAY := Lib.hid (HPAY.out.kept hg7 (fun g e e' => by injection e with e; have := (Own.lt HPAY.out.1 e').1; omega))
          have z7 := hg7.size; try simp at z7
          try replace HZ := Lib.hid (HZ.out.grown hg7 (by simp; omega))
          try replace HP := Lib.hid (HP.out.grown hg7 (by simp; omega))
          try replace HY := Lib.hid (Own.kept HY.out hg7 (fun g e e' => by injection e with e; have := (HY.out.lt e').1; omega))
          replace HG := Lib.hid (gr_same (a := w) (by repeat (first | exact HG.out | refine gr_alloc ?_ _ | refine gr_drew ?_ | refine gr_drewN ?_ _ | refine gr_setCell ?_ (.inr (by simp; omega)) _)) hg7); clear hg7
          replace HS := Lib.hid hs7; clear hs7
          go_wp2_with fail
          refine (flip_any sb _ 5 _ (by first | exact HS.out | exact HS.out.alloc _ | exact (HS.out.alloc _).alloc _ | exact ((HS.out.alloc _).alloc _).alloc _ | exact HS.out.drewN _ | exact HS.out.setCell (by simp; omega) _ | exact (HS.out.alloc _).setCell (by simp; omega) _ | exact (HS.out.setCell (by simp; omega) _).alloc _ | exact (HS.out.setCell (by simp; omega) _).drewN _ | exact (HS.out.alloc _).drewN _) (by omega) (by omega) (by omega)).mono ?_
          rintro e w8 ⟨v8, rfl, ⟨f8, rfl⟩, hs8, hg8⟩
          replace HGA := Lib.hid (HGA.out.kept hg8 (fun g e => by injection e with e; omega))
          replace HB := Lib.hid (HB.out.grown hg8 (by simp; omega))
          replace HPAY := Lib.hid (HPAY.out.kept hg8 (fun g e e' => by injection e with e; have := (Own.lt HPAY.out.1 e').1; omega))
          have z8 := hg8.size; try simp at z8
          try replace HZ := Lib.hid (HZ.out.grown hg8 (by simp; omega))
          try replace HP := Lib.hid (HP.out.grown hg8 (by simp; omega))
          try replace HY := Lib.hid (Own.kept HY.out hg8 (fun g e e' => by injection e with e; have := (HY.out.lt e').1; omega))
          replace HG := Lib.hid (gr_same (a := w) (by repeat (first | exact HG.out | refine gr_alloc ?_ _ | refine gr_drew ?_ | refine gr_drewN ?_ _ | refine gr_setCell ?_ (.inr (by simp; omega)) _)) hg8); clear hg8
          replace HS := Lib.hid hs8; clear hs8
          cases f8
          · by_cases h0 : 0 < n
            · have h0' : decide (0 < n) = true := by simpa using h0
              go_wp2_with fail
              refine (flip_any sb _ 5 _ (by first | exact HS.out | exact HS.out.alloc _ | exact (HS.out.alloc _).alloc _ | exact ((HS.out.alloc _).alloc _).alloc _ | exact HS.out.drewN _ | exact HS.out.setCell (by simp; omega) _ | exact (HS.out.alloc _).setCell (by simp; omega) _ | exact (HS.out.setCell (by simp; omega) _).alloc _ | exact (HS.out.setCell (by simp; omega) _).drewN _ | exact (HS.out.alloc _).drewN _) (by omega) (by omega) (by omega)).mono ?_
              rintro e w9 ⟨v9, rfl, ⟨f9, rfl⟩, hs9, hg9⟩
              replace HGA := Lib.hid (HGA.out.kept hg9 (fun g e => by injection e with e; omega))
              replace HB := Lib.hid (HB.out.grown hg9 (by simp; omega))
              replace HPAY := Lib.hid (HPAY.out.kept hg9 (fun g e e' => by injection e with e; have := (Own.lt HPAY.out.1 e').1; omega))
              have z9 := hg9.size; try simp at z9
              try replace HZ := Lib.hid (HZ.out.grown hg9 (by simp; omega))
              try replace HP := Lib.hid (HP.out.grown hg9 (by simp; omega))
              try replace HY := Lib.hid (Own.kept HY.out hg9 (fun g e e' => by injection e with e; have := (HY.out.lt e').1; omega))
              replace HG := Lib.hid (gr_same (a := w) (by repeat (first | exact HG.out | refine gr_alloc ?_ _ | refine gr_drew ?_ | refine gr_drewN ?_ _ | refine gr_setCell ?_ (.inr (by simp; omega)) _)) hg9); clear hg9
              replace HS := Lib.hid hs9; clear hs9
              cases f9
              · go_wp2_with (first
                  | (refine wpl_load_all Try.pktT rfl _ rfl _ rfl _ _ HB.out rfl ?_)
                  | (at_builtin
                     refine wpl_app _ rfl _ _ Try.arrsT rfl w.heap.size A n c _ rfl (by exact HGA.out.1.alloc _) _ _ 1 1 [.int .i64 (at_ + r7), .int .i64 0, .int .i64 (seq % 65536), .int .i64 (time % 4294967296), .int .i64 7, .bool false, .slice A' k c'] rfl (by exact Reads.one _ _ _ _ rfl) (by simp [Value.oneCell']) (by unfold maxLen; omega) (by omega) (by simp; omega) ?_
                     intro A10 c10 w10 h10
                     obtain ⟨n10, hn10⟩ : ∃ n10, n + 1 = n10 := ⟨_, rfl⟩
                     rw [hn10] at h10 ⊢
                     have hn11 : n10 ≤ 2 * i + 1 := by omega
                     have hn13 : 0 < n10 := by omega
                     have HN10 := Lib.hid hn10; clear hn10
                     have H10 := Lib.hid h10; clear h10)
                  | fail)
                obtain ⟨l10, hga10⟩ : ∃ l10, GArrs w10 w.heap.size A10 n10 c10 l10 := ⟨l ++ [⟨at_ + r7, 0, seq % 65536, time % 4294967296, 7, false, A', k, c', l'⟩], by
                  have h := H10.out
                  rw [← HN10.out] at h ⊢
                  exact (HGA.out.alloc _).append (a := ⟨at_ + r7, 0, seq % 65536, time % 4294967296, 7, false, A', k, c', l'⟩) (by unfold ArrV.Small; dsimp only; omega) ((HPAY.out.kept (gr_alloc (gr_refl _ none) _) (fun g e => by cases e))) h⟩
                replace HS := Lib.hid ((HS.out.alloc _).grown H10.out.2.1 (fun g e => by have := (HGA.out.1.lt e).1; omega))
                replace HG := Lib.hid (H10.out.gr (gr_alloc HG.out _) (HGA.out.1.alloc _) (Nat.le_refl _))
                replace HB := Lib.hid ((HB.out.alloc _).grown H10.out.2.1 (Ne.symm (Own.blk_ne HGA.out.1 HB.out (by decide))))
                replace HPAY := Lib.hid (PayOK.keptB (HPAY.out.kept (gr_alloc (gr_refl _ none) _) (fun g e => by cases e)) (HGA.out.1.alloc _) H10.out.2.1)
                have z10 := H10.out.2.1.size; simp at z10
                replace HGA := Lib.hid hga10; clear hga10
                have h1 := hn13
                have h1' : decide (0 < n10) = true := decide_eq_true h1
                go_wp2_with fail
                refine (flip_any sb _ 8 _ (by first | exact HS.out | exact HS.out.alloc _ | exact (HS.out.alloc _).alloc _ | exact ((HS.out.alloc _).alloc _).alloc _ | exact HS.out.drewN _ | exact HS.out.setCell (by simp; omega) _ | exact (HS.out.alloc _).setCell (by simp; omega) _ | exact (HS.out.setCell (by simp; omega) _).alloc _ | exact (HS.out.setCell (by simp; omega) _).drewN _ | exact (HS.out.alloc _).drewN _) (by omega) (by omega) (by omega)).mono ?_
                rintro e w11 ⟨v11, rfl, ⟨f11, rfl⟩, hs11, hg11⟩
                replace HGA := Lib.hid (HGA.out.kept hg11 (fun g e => by injection e with e; omega))
                replace HB := Lib.hid (HB.out.grown hg11 (by simp; omega))
                replace HPAY := Lib.hid (HPAY.out.kept hg11 (fun g e e' => by injection e with e; have := (Own.lt HPAY.out.1 e').1; omega))
                have z11 := hg11.size; try simp at z11
                try replace HZ := Lib.hid (HZ.out.grown hg11 (by simp; omega))
                try replace HP := Lib.hid (HP.out.grown hg11 (by simp; omega))
                try replace HY := Lib.hid (Own.kept HY.out hg11 (fun g e e' => by injection e with e; have := (HY.out.lt e').1; omega))
                replace HG := Lib.hid (gr_same (a := w) (by repeat (first | exact HG.out | refine gr_alloc ?_ _ | refine gr_drew ?_ | refine gr_drewN ?_ _ | refine gr_setCell ?_ (.inr (by simp; omega)) _)) hg11); clear hg11
                replace HS := Lib.hid hs11; clear hs11
                cases f11
                · go_wp2_with fail
                  go_roundw
                  case rel => exact ⟨i + 1, A10, n10, c10, l10, seq + 1, time + r4, at_ + r7, by omega, by go_num, rfl, rfl, rfl, rfl, by omega, by omega, by omega, HS.out.mono (by omega), HG.out, HGA.out, by omega⟩
                  case measure => simp [intOf]; omega
                · obtain ⟨gx, rfl, _, hgl⟩ := HGA.out.1.pos h1
                  obtain ⟨x, hx⟩ : ∃ x, l10[n10 - 1]? = some x := ⟨_, List.getElem?_eq_getElem (by rw [HGA.out.2.1]; omega)⟩
                  have HX := Lib.hid hx; clear hx
                  have HCX := Lib.hid (HGA.out.at_ HX.out)
                  have HXP := Lib.hid (HGA.out.2.2 x (mem_of_get HX.out))
                  go_wp2_with (first
                    | (refine wpl_load_at Try.pktT rfl _ rfl _ rfl [.int .i64 x.ty, .int .i64 x.sq, .int .i64 x.tm, .int .i64 x.sr, .bool x.mark, .slice x.A x.n x.c] rfl (fun j u hu => by rw [add_mk, Nat.add_assoc, Nat.add_comm 1 j]; exact HCX.out (j + 1) u hu) ?_)
                    | (at_builtin
                       refine wpl_app _ rfl _ _ Try.arrsT rfl w.heap.size (some ⟨gx, 0, none⟩) n10 c10 _ rfl (by exact HGA.out.1.alloc _) _ _ 1 1 [.int .i64 (at_ + r7), .int .i64 x.ty, .int .i64 x.sq, .int .i64 x.tm, .int .i64 x.sr, .bool x.mark, .slice x.A x.n x.c] rfl (by exact Reads.one _ _ _ _ rfl) (by simp [Value.oneCell']) (by unfold maxLen; omega) (by omega) (by simp; omega) ?_
                       intro A12 c12 w12 h12
                       have H12 := Lib.hid h12; clear h12)
                    | fail)
                  go_roundw
                  case rel =>
                    have hsm := HXP.out.1
                    unfold ArrV.Small at hsm
                    refine ⟨i + 1, A12, n10 + 1, c12, l10 ++ [⟨at_ + r7, x.ty, x.sq, x.tm, x.sr, x.mark, x.A, x.n, x.c, x.pay⟩], seq + 1, time + r4, at_ + r7, by omega, by go_num, rfl, rfl, rfl, rfl, by omega, by omega, by omega, ?_, ?_, ?_, by omega⟩
                    · exact ((HS.out.alloc _).grown H12.out.2.1 (fun g e => by have := (HGA.out.1.lt e).1; omega)).mono (by omega)
                    · exact H12.out.gr (gr_alloc HG.out _) (HGA.out.1.alloc _) (Nat.le_refl _)
                    · exact (HGA.out.alloc _).append (a := ⟨at_ + r7, x.ty, x.sq, x.tm, x.sr, x.mark, x.A, x.n, x.c, x.pay⟩) (by unfold ArrV.Small; dsimp only; omega) (HXP.out.2.kept (gr_alloc (gr_refl _ none) _) (fun g e => by cases e)) H12.out
                  case measure => simp [intOf]; omega
              · go_wp2_with (first
                  | (refine wpl_load_all Try.pktT rfl _ rfl _ rfl _ _ HB.out rfl ?_)
                  | (at_builtin
                     refine wpl_app _ rfl _ _ Try.arrsT rfl w.heap.size A n c _ rfl (by exact HGA.out.1.alloc _) _ _ 1 1 [.int .i64 (at_ + r7), .int .i64 0, .int .i64 (seq % 65536), .int .i64 (time % 4294967296), .int .i64 7, .bool false, .slice A' k c'] rfl (by exact Reads.one _ _ _ _ rfl) (by simp [Value.oneCell']) (by unfold maxLen; omega) (by omega) (by simp; omega) ?_
                     intro A10 c10 w10 h10
                     obtain ⟨n10, hn10⟩ : ∃ n10, n + 1 = n10 := ⟨_, rfl⟩
                     rw [hn10] at h10 ⊢
                     have hn11 : n10 ≤ 2 * i + 1 := by omega
                     have hn13 : 0 < n10 := by omega
                     have HN10 := Lib.hid hn10; clear hn10
                     have H10 := Lib.hid h10; clear h10)
                  | fail)
                obtain ⟨l10, hga10⟩ : ∃ l10, GArrs w10 w.heap.size A10 n10 c10 l10 := ⟨l ++ [⟨at_ + r7, 0, seq % 65536, time % 4294967296, 7, false, A', k, c', l'⟩], by
                  have h := H10.out
                  rw [← HN10.out] at h ⊢
                  exact (HGA.out.alloc _).append (a := ⟨at_ + r7, 0, seq % 65536, time % 4294967296, 7, false, A', k, c', l'⟩) (by unfold ArrV.Small; dsimp only; omega) ((HPAY.out.kept (gr_alloc (gr_refl _ none) _) (fun g e => by cases e))) h⟩
                replace HS := Lib.hid ((HS.out.alloc _).grown H10.out.2.1 (fun g e => by have := (HGA.out.1.lt e).1; omega))
                replace HG := Lib.hid (H10.out.gr (gr_alloc HG.out _) (HGA.out.1.alloc _) (Nat.le_refl _))
                replace HB := Lib.hid ((HB.out.alloc _).grown H10.out.2.1 (Ne.symm (Own.blk_ne HGA.out.1 HB.out (by decide))))
                replace HPAY := Lib.hid (PayOK.keptB (HPAY.out.kept (gr_alloc (gr_refl _ none) _) (fun g e => by cases e)) (HGA.out.1.alloc _) H10.out.2.1)
                have z10 := H10.out.2.1.size; simp at z10
                replace HGA := Lib.hid hga10; clear hga10
                obtain ⟨q, rfl⟩ : ∃ q, n10 = q + 2 := ⟨n10 - 2, by have := HN10.out; omega⟩
                obtain ⟨g, rfl, _, hgl⟩ := HGA.out.1.pos (by omega)
                obtain ⟨x, hx⟩ : ∃ x, l10[q + 1]? = some x := ⟨_, List.getElem?_eq_getElem (by rw [HGA.out.2.1]; omega)⟩
                obtain ⟨y, hy⟩ : ∃ y, l10[q]? = some y := ⟨_, List.getElem?_eq_getElem (by rw [HGA.out.2.1]; omega)⟩
                have HX := Lib.hid hx; have HY := Lib.hid hy
                have fz := HGA.out.1.frozen
                have x1 := HGA.out.at_ hx 1 _ rfl
                have x2 := HGA.out.at_ hx 2 _ rfl
                have x3 := HGA.out.at_ hx 3 _ rfl
                have x4 := HGA.out.at_ hx 4 _ rfl
                have x5 := HGA.out.at_ hx 5 _ rfl
                have x6 := HGA.out.at_ hx 6 _ rfl
                have y1 := HGA.out.at_ hy 1 _ rfl
                have y2 := HGA.out.at_ hy 2 _ rfl
                have y3 := HGA.out.at_ hy 3 _ rfl
                have y4 := HGA.out.at_ hy 4 _ rfl
                have y5 := HGA.out.at_ hy 5 _ rfl
                have y6 := HGA.out.at_ hy 6 _ rfl
                clear hx hy
                go_wp2_with fail
                clear fz
                have fz1 := HGA.out.1.frozen ((q + 1) * 7 + 1)
                have fz2 := HGA.out.1.frozen ((q + 1) * 7 + 2)
                have fz3 := HGA.out.1.frozen ((q + 1) * 7 + 3)
                have fz4 := HGA.out.1.frozen ((q + 1) * 7 + 4)
                have fz5 := HGA.out.1.frozen ((q + 1) * 7 + 5)
                have fz6 := HGA.out.1.frozen ((q + 1) * 7 + 6)
                have gz1 := HGA.out.1.frozen (q * 7 + 1)
                have gz2 := HGA.out.1.frozen (q * 7 + 2)
                have gz3 := HGA.out.1.frozen (q * 7 + 3)
                have gz4 := HGA.out.1.frozen (q * 7 + 4)
                have gz5 := HGA.out.1.frozen (q * 7 + 5)
                have gz6 := HGA.out.1.frozen (q * 7 + 6)
                go_region
                clear x1 x2 x3 x4 x5 x6 y1 y2 y3 y4 y5 y6 fz1 fz2 fz3 fz4 fz5 fz6 gz1 gz2 gz3 gz4 gz5 gz6
                generalize hW : World.drew _ = W
                obtain ⟨lw, hlw⟩ : ∃ lw, GArrs W w.heap.size (some ⟨g, 0, none⟩) (q + 2) c10 lw ∧ w10.grownBy W (some g) := by
                  have hxs := HGA.out.2.2 x (mem_of_get HX.out)
                  have hys := HGA.out.2.2 y (mem_of_get HY.out)
                  obtain ⟨m1, m2, m3, m4⟩ := HGA.out.put6 (i := q + 1) (b := y) HX.out hys.1 hys.2 rfl rfl rfl rfl rfl rfl
                  obtain ⟨k1, k2, k3, k4⟩ := m1.put6 (i := q) (a := y) (b := x) (by rw [List.getElem?_set_ne (by omega)]; exact HY.out) hxs.1 (m4 _ _ _ _ hxs.2) rfl rfl rfl rfl rfl rfl
                  rw [← hW]
                  exact ⟨_, k1.kept (row := none) (gr_drew (gr_refl _ _)) (fun g e => by cases e), gr_drew (gr_same m2 k2)⟩
                clear hW
                obtain ⟨hga11, hg12⟩ := hlw
                replace HS := Lib.hid (HS.out.grown hg12 (fun g' e => by injection e with e; omega))
                replace HG := Lib.hid (gr_trans HG.out hg12 (fun g' e => .inr (by injection e with e; omega)))
                replace HB := Lib.hid (HB.out.grown hg12 (fun e => Own.blk_ne HGA.out.1 HB.out (by decide) (by rw [e]; rfl)))
                replace HPAY := Lib.hid (PayOK.keptB HPAY.out HGA.out.1 hg12)
                have zW := hg12.size
                replace HGA := Lib.hid hga11; clear hga11 hg12
                obtain ⟨A10, hA10⟩ : ∃ A10 : Option Addr, some ⟨g, 0, none⟩ = A10 := ⟨_, rfl⟩
                obtain ⟨nq, hnq⟩ : ∃ nq : Nat, q + 2 = nq := ⟨_, rfl⟩
                rw [hA10, hnq] at HGA ⊢
                clear hA10
                have h1 : 0 < nq := by omega
                rw [hnq] at hn11
                clear hnq
                have h1' : decide (0 < nq) = true := decide_eq_true h1
                go_wp2_with fail
                refine (flip_any sb _ 8 _ (by first | exact HS.out | exact HS.out.alloc _ | exact (HS.out.alloc _).alloc _ | exact ((HS.out.alloc _).alloc _).alloc _ | exact HS.out.drewN _ | exact HS.out.setCell (by simp; omega) _ | exact (HS.out.alloc _).setCell (by simp; omega) _ | exact (HS.out.setCell (by simp; omega) _).alloc _ | exact (HS.out.setCell (by simp; omega) _).drewN _ | exact (HS.out.alloc _).drewN _) (by omega) (by omega) (by omega)).mono ?_
                rintro e w11 ⟨v11, rfl, ⟨f11, rfl⟩, hs11, hg11⟩
                replace HGA := Lib.hid (HGA.out.kept hg11 (fun g e => by injection e with e; omega))
                replace HB := Lib.hid (HB.out.grown hg11 (by simp; omega))
                replace HPAY := Lib.hid (HPAY.out.kept hg11 (fun g e e' => by injection e with e; have := (Own.lt HPAY.out.1 e').1; omega))
                have z11 := hg11.size; try simp at z11
                try replace HZ := Lib.hid (HZ.out.grown hg11 (by simp; omega))
                try replace HP := Lib.hid (HP.out.grown hg11 (by simp; omega))
                try replace HY := Lib.hid (Own.kept HY.out hg11 (fun g e e' => by injection e with e; have := (HY.out.lt e').1; omega))
                replace HG := Lib.hid (gr_same (a := w) (by repeat (first | exact HG.out | refine gr_alloc ?_ _ | refine gr_drew ?_ | refine gr_drewN ?_ _ | refine gr_setCell ?_ (.inr (by simp; omega)) _)) hg11); clear hg11
                replace HS := Lib.hid hs11; clear hs11
                cases f11
                · go_wp2_with fail
                  go_roundw
                  case rel => exact ⟨i + 1, A10, nq, c10, lw, seq + 1, time + r4, at_ + r7, by omega, by go_num, rfl, rfl, rfl, rfl, by omega, by omega, by omega, HS.out.mono (by omega), HG.out, HGA.out, by omega⟩
                  case measure => simp [intOf]; omega
                · obtain ⟨gx, rfl, _, hgl⟩ := HGA.out.1.pos h1
                  obtain ⟨x, hx⟩ : ∃ x, lw[nq - 1]? = some x := ⟨_, List.getElem?_eq_getElem (by rw [HGA.out.2.1]; omega)⟩
                  have HX := Lib.hid hx; clear hx
                  have HCX := Lib.hid (HGA.out.at_ HX.out)
                  have HXP := Lib.hid (HGA.out.2.2 x (mem_of_get HX.out))
                  go_wp2_with (first
                    | (refine wpl_load_at Try.pktT rfl _ rfl _ rfl [.int .i64 x.ty, .int .i64 x.sq, .int .i64 x.tm, .int .i64 x.sr, .bool x.mark, .slice x.A x.n x.c] rfl (fun j u hu => by rw [add_mk, Nat.add_assoc, Nat.add_comm 1 j]; exact HCX.out (j + 1) u hu) ?_)
                    | (at_builtin
                       refine wpl_app _ rfl _ _ Try.arrsT rfl w.heap.size (some ⟨gx, 0, none⟩) nq c10 _ rfl (by exact HGA.out.1.alloc _) _ _ 1 1 [.int .i64 (at_ + r7), .int .i64 x.ty, .int .i64 x.sq, .int .i64 x.tm, .int .i64 x.sr, .bool x.mark, .slice x.A x.n x.c] rfl (by exact Reads.one _ _ _ _ rfl) (by simp [Value.oneCell']) (by unfold maxLen; omega) (by omega) (by simp; omega) ?_
                       intro A12 c12 w12 h12
                       have H12 := Lib.hid h12; clear h12)
                    | fail)
                  go_roundw
                  case rel =>
                    have hsm := HXP.out.1
                    unfold ArrV.Small at hsm
                    refine ⟨i + 1, A12, nq + 1, c12, lw ++ [⟨at_ + r7, x.ty, x.sq, x.tm, x.sr, x.mark, x.A, x.n, x.c, x.pay⟩], seq + 1, time + r4, at_ + r7, by omega, by go_num, rfl, rfl, rfl, rfl, by omega, by omega, by omega, ?_, ?_, ?_, by omega⟩
                    · exact ((HS.out.alloc _).grown H12.out.2.1 (fun g e => by have := (HGA.out.1.lt e).1; omega)).mono (by omega)
                    · exact H12.out.gr (gr_alloc HG.out _) (HGA.out.1.alloc _) (Nat.le_refl _)
                    · exact (HGA.out.alloc _).append (a := ⟨at_ + r7, x.ty, x.sq, x.tm, x.sr, x.mark, x.A, x.n, x.c, x.pay⟩) (by unfold ArrV.Small; dsimp only; omega) (HXP.out.2.kept (gr_alloc (gr_refl _ none) _) (fun g e => by cases e)) H12.out
                  case measure => simp [intOf]; omega
            · have h0' : decide (0 < n) = false := by simpa using h0
              go_wp2_with (first
                | (refine wpl_load_all Try.pktT rfl _ rfl _ rfl _ _ HB.out rfl ?_)
                | (at_builtin
                   refine wpl_app _ rfl _ _ Try.arrsT rfl w.heap.size A n c _ rfl (by exact HGA.out.1.alloc _) _ _ 1 1 [.int .i64 (at_ + r7), .int .i64 0, .int .i64 (seq % 65536), .int .i64 (time % 4294967296), .int .i64 7, .bool false, .slice A' k c'] rfl (by exact Reads.one _ _ _ _ rfl) (by simp [Value.oneCell']) (by unfold maxLen; omega) (by omega) (by simp; omega) ?_
                   intro A10 c10 w10 h10
                   obtain ⟨n10, hn10⟩ : ∃ n10, n + 1 = n10 := ⟨_, rfl⟩
                   rw [hn10] at h10 ⊢
                   have hn11 : n10 ≤ 2 * i + 1 := by omega
                   have hn13 : 0 < n10 := by omega
                   have HN10 := Lib.hid hn10; clear hn10
                   have H10 := Lib.hid h10; clear h10)
                | fail)
              obtain ⟨l10, hga10⟩ : ∃ l10, GArrs w10 w.heap.size A10 n10 c10 l10 := ⟨l ++ [⟨at_ + r7, 0, seq % 65536, time % 4294967296, 7, false, A', k, c', l'⟩], by
                have h := H10.out
                rw [← HN10.out] at h ⊢
                exact (HGA.out.alloc _).append (a := ⟨at_ + r7, 0, seq % 65536, time % 4294967296, 7, false, A', k, c', l'⟩) (by unfold ArrV.Small; dsimp only; omega) ((HPAY.out.kept (gr_alloc (gr_refl _ none) _) (fun g e => by cases e))) h⟩
              replace HS := Lib.hid ((HS.out.alloc _).grown H10.out.2.1 (fun g e => by have := (HGA.out.1.lt e).1; omega))
              replace HG := Lib.hid (H10.out.gr (gr_alloc HG.out _) (HGA.out.1.alloc _) (Nat.le_refl _))
              replace HB := Lib.hid ((HB.out.alloc _).grown H10.out.2.1 (Ne.symm (Own.blk_ne HGA.out.1 HB.out (by decide))))
              replace HPAY := Lib.hid (PayOK.keptB (HPAY.out.kept (gr_alloc (gr_refl _ none) _) (fun g e => by cases e)) (HGA.out.1.alloc _) H10.out.2.1)
              have z10 := H10.out.2.1.size; simp at z10
              replace HGA := Lib.hid hga10; clear hga10
              have h1 := hn13
              have h1' : decide (0 < n10) = true := decide_eq_true h1
              go_wp2_with fail
              refine (flip_any sb _ 8 _ (by first | exact HS.out | exact HS.out.alloc _ | exact (HS.out.alloc _).alloc _ | exact ((HS.out.alloc _).alloc _).alloc _ | exact HS.out.drewN _ | exact HS.out.setCell (by simp; omega) _ | exact (HS.out.alloc _).setCell (by simp; omega) _ | exact (HS.out.setCell (by simp; omega) _).alloc _ | exact (HS.out.setCell (by simp; omega) _).drewN _ | exact (HS.out.alloc _).drewN _) (by omega) (by omega) (by omega)).mono ?_
              rintro e w11 ⟨v11, rfl, ⟨f11, rfl⟩, hs11, hg11⟩
              replace HGA := Lib.hid (HGA.out.kept hg11 (fun g e => by injection e with e; omega))
              replace HB := Lib.hid (HB.out.grown hg11 (by simp; omega))
              replace HPAY := Lib.hid (HPAY.out.kept hg11 (fun g e e' => by injection e with e; have := (Own.lt HPAY.out.1 e').1; omega))
              have z11 := hg11.size; try simp at z11
              try replace HZ := Lib.hid (HZ.out.grown hg11 (by simp; omega))
              try replace HP := Lib.hid (HP.out.grown hg11 (by simp; omega))
              try replace HY := Lib.hid (Own.kept HY.out hg11 (fun g e e' => by injection e with e; have := (HY.out.lt e').1; omega))
              replace HG := Lib.hid (gr_same (a := w) (by repeat (first | exact HG.out | refine gr_alloc ?_ _ | refine gr_drew ?_ | refine gr_drewN ?_ _ | refine gr_setCell ?_ (.inr (by simp; omega)) _)) hg11); clear hg11
              replace HS := Lib.hid hs11; clear hs11
              cases f11
              · go_wp2_with fail
                go_roundw
                case rel => exact ⟨i + 1, A10, n10, c10, l10, seq + 1, time + r4, at_ + r7, by omega, by go_num, rfl, rfl, rfl, rfl, by omega, by omega, by omega, HS.out.mono (by omega), HG.out, HGA.out, by omega⟩
                case measure => simp [intOf]; omega
              · obtain ⟨gx, rfl, _, hgl⟩ := HGA.out.1.pos h1
                obtain ⟨x, hx⟩ : ∃ x, l10[n10 - 1]? = some x := ⟨_, List.getElem?_eq_getElem (by rw [HGA.out.2.1]; omega)⟩
                have HX := Lib.hid hx; clear hx
                have HCX := Lib.hid (HGA.out.at_ HX.out)
                have HXP := Lib.hid (HGA.out.2.2 x (mem_of_get HX.out))
                go_wp2_with (first
                  | (refine wpl_load_at Try.pktT rfl _ rfl _ rfl [.int .i64 x.ty, .int .i64 x.sq, .int .i64 x.tm, .int .i64 x.sr, .bool x.mark, .slice x.A x.n x.c] rfl (fun j u hu => by rw [add_mk, Nat.add_assoc, Nat.add_comm 1 j]; exact HCX.out (j + 1) u hu) ?_)
                  | (at_builtin
                     refine wpl_app _ rfl _ _ Try.arrsT rfl w.heap.size (some ⟨gx, 0, none⟩) n10 c10 _ rfl (by exact HGA.out.1.alloc _) _ _ 1 1 [.int .i64 (at_ + r7), .int .i64 x.ty, .int .i64 x.sq, .int .i64 x.tm, .int .i64 x.sr, .bool x.mark, .slice x.A x.n x.c] rfl (by exact Reads.one _ _ _ _ rfl) (by simp [Value.oneCell']) (by unfold maxLen; omega) (by omega) (by simp; omega) ?_
                     intro A12 c12 w12 h12
                     have H12 := Lib.hid h12; clear h12)
                  | fail)
                go_roundw
                case rel =>
                  have hsm := HXP.out.1
                  unfold ArrV.Small at hsm
                  refine ⟨i + 1, A12, n10 + 1, c12, l10 ++ [⟨at_ + r7, x.ty, x.sq, x.tm, x.sr, x.mark, x.A, x.n, x.c, x.pay⟩], seq + 1, time + r4, at_ + r7, by omega, by go_num, rfl, rfl, rfl, rfl, by omega, by omega, by omega, ?_, ?_, ?_, by omega⟩
                  · exact ((HS.out.alloc _).grown H12.out.2.1 (fun g e => by have := (HGA.out.1.lt e).1; omega)).mono (by omega)
                  · exact H12.out.gr (gr_alloc HG.out _) (HGA.out.1.alloc _) (Nat.le_refl _)
                  · exact (HGA.out.alloc _).append (a := ⟨at_ + r7, x.ty, x.sq, x.tm, x.sr, x.mark, x.A, x.n, x.c, x.pay⟩) (by unfold ArrV.Small; dsimp only; omega) (HXP.out.2.kept (gr_alloc (gr_refl _ none) _) (fun g e => by cases e)) H12.out
                case measure => simp [intOf]; omega
          · have hn11 : n ≤ 2 * i + 1 := by omega
            by_cases h1 : 0 < n
            · have h1' : decide (0 < n) = true := decide_eq_true h1
              go_wp2_with fail
              refine (flip_any sb _ 8 _ (by first | exact HS.out | exact HS.out.alloc _ | exact (HS.out.alloc _).alloc _ | exact ((HS.out.alloc _).alloc _).alloc _ | exact HS.out.drewN _ | exact HS.out.setCell (by simp; omega) _ | exact (HS.out.alloc _).setCell (by simp; omega) _ | exact (HS.out.setCell (by simp; omega) _).alloc _ | exact (HS.out.setCell (by simp; omega) _).drewN _ | exact (HS.out.alloc _).drewN _) (by omega) (by omega) (by omega)).mono ?_
              rintro e w11 ⟨v11, rfl, ⟨f11, rfl⟩, hs11, hg11⟩
              replace HGA := Lib.hid (HGA.out.kept hg11 (fun g e => by injection e with e; omega))
              replace HB := Lib.hid (HB.out.grown hg11 (by simp; omega))
              replace HPAY := Lib.hid (HPAY.out.kept hg11 (fun g e e' => by injection e with e; have := (Own.lt HPAY.out.1 e').1; omega))
              have z11 := hg11.size; try simp at z11
              try replace HZ := Lib.hid (HZ.out.grown hg11 (by simp; omega))
              try replace HP := Lib.hid (HP.out.grown hg11 (by simp; omega))
              try replace HY := Lib.hid (Own.kept HY.out hg11 (fun g e e' => by injection e with e; have := (HY.out.lt e').1; omega))
              replace HG := Lib.hid (gr_same (a := w) (by repeat (first | exact HG.out | refine gr_alloc ?_ _ | refine gr_drew ?_ | refine gr_drewN ?_ _ | refine gr_setCell ?_ (.inr (by simp; omega)) _)) hg11); clear hg11
              replace HS := Lib.hid hs11; clear hs11
              cases f11
              · go_wp2_with fail
                go_roundw
                case rel => exact ⟨i + 1, A, n, c, l, seq + 1, time + r4, at_ + r7, by omega, by go_num, rfl, rfl, rfl, rfl, by omega, by omega, by omega, HS.out.mono (by omega), HG.out, HGA.out, by omega⟩
                case measure => simp [intOf]; omega
              · obtain ⟨gx, rfl, _, hgl⟩ := HGA.out.1.pos h1
                obtain ⟨x, hx⟩ : ∃ x, l[n - 1]? = some x := ⟨_, List.getElem?_eq_getElem (by rw [HGA.out.2.1]; omega)⟩
                have HX := Lib.hid hx; clear hx
                have HCX := Lib.hid (HGA.out.at_ HX.out)
                have HXP := Lib.hid (HGA.out.2.2 x (mem_of_get HX.out))
                go_wp2_with (first
                  | (refine wpl_load_at Try.pktT rfl _ rfl _ rfl [.int .i64 x.ty, .int .i64 x.sq, .int .i64 x.tm, .int .i64 x.sr, .bool x.mark, .slice x.A x.n x.c] rfl (fun j u hu => by rw [add_mk, Nat.add_assoc, Nat.add_comm 1 j]; exact HCX.out (j + 1) u hu) ?_)
                  | (at_builtin
                     refine wpl_app _ rfl _ _ Try.arrsT rfl w.heap.size (some ⟨gx, 0, none⟩) n c _ rfl (by exact HGA.out.1.alloc _) _ _ 1 1 [.int .i64 (at_ + r7), .int .i64 x.ty, .int .i64 x.sq, .int .i64 x.tm, .int .i64 x.sr, .bool x.mark, .slice x.A x.n x.c] rfl (by exact Reads.one _ _ _ _ rfl) (by simp [Value.oneCell']) (by unfold maxLen; omega) (by omega) (by simp; omega) ?_
                     intro A12 c12 w12 h12
                     have H12 := Lib.hid h12; clear h12)
                  | fail)
                go_roundw
                case rel =>
                  have hsm := HXP.out.1
                  unfold ArrV.Small at hsm
                  refine ⟨i + 1, A12, n + 1, c12, l ++ [⟨at_ + r7, x.ty, x.sq, x.tm, x.sr, x.mark, x.A, x.n, x.c, x.pay⟩], seq + 1, time + r4, at_ + r7, by omega, by go_num, rfl, rfl, rfl, rfl, by omega, by omega, by omega, ?_, ?_, ?_, by omega⟩
                  · exact ((HS.out.alloc _).grown H12.out.2.1 (fun g e => by have := (HGA.out.1.lt e).1; omega)).mono (by omega)
                  · exact H12.out.gr (gr_alloc HG.out _) (HGA.out.1.alloc _) (Nat.le_refl _)
                  · exact (HGA.out.alloc _).append (a := ⟨at_ + r7, x.ty, x.sq, x.tm, x.sr, x.mark, x.A, x.n, x.c, x.pay⟩) (by unfold ArrV.Small; dsimp only; omega) (HXP.out.2.kept (gr_alloc (gr_refl _ none) _) (fun g e => by cases e)) H12.out
                case measure => simp [intOf]; omega
            · have h1' : decide (0 < n) = false := by simpa using h1
              go_wp2_with fail
              go_roundw
              case rel => exact ⟨i + 1, A, n, c, l, seq + 1, time + r4, at_ + r7, by omega, by go_num, rfl, rfl, rfl, rfl, by omega, by omega, by omega, HS.out.mono (by omega), HG.out, HGA.out, by omega⟩
              case measure => simp [intOf]; omega
    · go_wp2_with fail
      go_ret
      exact ⟨_, rfl, ⟨A, n, c, l, rfl, HGA.out, by omega⟩, HS.out.mono (by omega), HG.out⟩
end Go.Proofs.Ytdknfhpconfhkaa

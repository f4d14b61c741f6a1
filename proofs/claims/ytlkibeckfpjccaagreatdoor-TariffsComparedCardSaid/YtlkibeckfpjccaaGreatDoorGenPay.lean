/- Contracts of the generators of numbers and payers. Conditions: none. -/
import Derived.Test.YtlkibeckfpjccaaGreatDoorTar3
import Derived.Test.YtlkibeckfpjccaaGreatDoorBun2
import Derived.Test.YtlkibeckfpjccaaGreatDoorBun3
namespace Go.Proofs.YtlkibeckfpjccaaGreatDoor
open Go.RowKit

set_option maxHeartbeats 2000000 in
theorem some_any (sb : Nat) (m : Int) (k g n : Nat) (cs : Array Value) (w : World) (hs : Str w sb m) (hm : m ≤ 1152921504606846976) (hb : Blk w g 9 cs) (hg : g ≠ sb) (hcs : StrsOk k cs.toList) (hn : cs.size = n) (h0 : 1 ≤ n) (h1 : n ≤ 1000) :
    Calls Tryz.prog 25 #[.pointer (some ⟨sb, 0, none⟩), .slice (some ⟨g, 0, none⟩) n n] w (Drawn sb (m + 1) (StrBd k) w) := by
  have hlt := hs.lt
  have HS := Lib.hid hs; have HB := Lib.hid hb
  have HCS := Lib.hid hcs; have HN := Lib.hid hn
  clear hs hb hcs hn
  go_enter Tryz.func25, Tryz.ntmps25
  go_wp2_with fail
  refine (next_any sb m _ _ HS.out hm (by omega) (by omega)).mono ?_
  rintro e w' ⟨v, rfl, ⟨r, hr1, hr2, rfl⟩, hs', hg'⟩
  have hr3 : r.toNat < cs.toList.length := by rw [Array.length_toList, HN.out]; omega
  obtain ⟨s, hs1, hs2⟩ := HCS.out _ (List.getElem_mem hr3)
  have hc : w'.cell? ⟨g, r.toNat, none⟩ = some (.string s) := by
    rw [(HB.out.grown hg' (by simpa using hg)).cell, ← hs1]
    rw [Array.getElem?_eq_getElem (by simpa using hr3)]
    simp
  have H' := Lib.hid hs'; clear hs'
  have HG' := Lib.hid hg'; clear hg'
  go_wp2_with fail
  go_ret
  exact ⟨_, rfl, ⟨s, rfl, hs2⟩, H'.out, HG'.out⟩
set_option maxHeartbeats 2000000 in
theorem phone_any (sb : Nat) (m : Int) (w : World) (hs : Str w sb m) (hm : m ≤ 1000000000000) : Calls Tryz.prog 53 #[.pointer (some ⟨sb, 0, none⟩)] w (Drawn sb (m + 2) (StrBd 20) w) := by
  have hlt := hs.lt
  have HS := Lib.hid hs; clear hs
  have HG := Lib.hid (gr_refl w (some sb))
  go_enter Tryz.func53, Tryz.ntmps53
  go_wp2_with fail
  refine (flip_any sb _ 25 _ (by first | exact HS.out | exact HS.out.alloc _ | exact (HS.out.alloc _).alloc _ | exact ((HS.out.alloc _).alloc _).alloc _ | exact HS.out.drewN _ | exact HS.out.setCell (by simp; omega) _ | exact (HS.out.alloc _).setCell (by simp; omega) _ | exact (HS.out.setCell (by simp; omega) _).alloc _ | exact (HS.out.setCell (by simp; omega) _).drewN _ | exact (HS.out.alloc _).drewN _) (by omega) (by omega) (by omega)).mono ?_
  rintro e w1 ⟨v1, rfl, ⟨f1, rfl⟩, hs1, hg1⟩
  have z1 := hg1.size; try simp at z1
  try replace HZ := Lib.hid (HZ.out.grown hg1 (by simp; omega))
  try replace HP := Lib.hid (HP.out.grown hg1 (by simp; omega))
  try replace HGA := Lib.hid (HGA.out.kept hg1 (fun g e => by injection e with e; omega))
  try replace HY := Lib.hid (Own.kept HY.out hg1 (fun g e e' => by injection e with e; have := (HY.out.lt e').1; omega))
  replace HG := Lib.hid (gr_same (a := w) (by repeat (first | exact HG.out | refine gr_alloc ?_ _ | refine gr_drew ?_ | refine gr_drewN ?_ _ | refine gr_setCell ?_ (.inr (by simp; omega)) _)) hg1); clear hg1
  replace HS := Lib.hid hs1; clear hs1
  cases f1
  · go_wp2_with fail
    refine (some_new (n := 9) sb _ 20 _ (by first | exact HS.out | exact HS.out.alloc _ | exact (HS.out.alloc _).alloc _ | exact ((HS.out.alloc _).alloc _).alloc _ | exact HS.out.drewN _ | exact HS.out.setCell (by simp; omega) _ | exact (HS.out.alloc _).setCell (by simp; omega) _ | exact (HS.out.setCell (by simp; omega) _).alloc _ | exact (HS.out.setCell (by simp; omega) _).drewN _ | exact (HS.out.alloc _).drewN _) (by omega) (by simp) (by
      repeat (first | exact StrsOk.nil _ | refine StrsOk.cons (by decide) ?_)) rfl (by omega) (by omega)).mono ?_
    rintro e w2 ⟨v2, rfl, ⟨y2, rfl, hy2⟩, hs2, hg2⟩
    have z2 := hg2.size; try simp at z2
    try replace HZ := Lib.hid (HZ.out.grown hg2 (by simp; omega))
    try replace HP := Lib.hid (HP.out.grown hg2 (by simp; omega))
    try replace HGA := Lib.hid (HGA.out.kept hg2 (fun g e => by injection e with e; omega))
    try replace HY := Lib.hid (Own.kept HY.out hg2 (fun g e e' => by injection e with e; have := (HY.out.lt e').1; omega))
    replace HG := Lib.hid (gr_same (a := w) (by repeat (first | exact HG.out | refine gr_alloc ?_ _ | refine gr_drew ?_ | refine gr_drewN ?_ _ | refine gr_setCell ?_ (.inr (by simp; omega)) _)) hg2); clear hg2
    replace HS := Lib.hid hs2; clear hs2
    go_wp2_with fail
    go_ret
    exact ⟨_, rfl, ⟨y2, rfl, hy2⟩, HS.out.mono (by omega), HG.out⟩
  · go_wp2_with fail
    refine (some_new (n := 6) sb _ 20 _ (by first | exact HS.out | exact HS.out.alloc _ | exact (HS.out.alloc _).alloc _ | exact ((HS.out.alloc _).alloc _).alloc _ | exact HS.out.drewN _ | exact HS.out.setCell (by simp; omega) _ | exact (HS.out.alloc _).setCell (by simp; omega) _ | exact (HS.out.setCell (by simp; omega) _).alloc _ | exact (HS.out.setCell (by simp; omega) _).drewN _ | exact (HS.out.alloc _).drewN _) (by omega) (by simp) (by
      repeat (first | exact StrsOk.nil _ | refine StrsOk.cons (by decide) ?_)) rfl (by omega) (by omega)).mono ?_
    rintro e w2 ⟨v2, rfl, ⟨y2, rfl, hy2⟩, hs2, hg2⟩
    have z2 := hg2.size; try simp at z2
    try replace HZ := Lib.hid (HZ.out.grown hg2 (by simp; omega))
    try replace HP := Lib.hid (HP.out.grown hg2 (by simp; omega))
    try replace HGA := Lib.hid (HGA.out.kept hg2 (fun g e => by injection e with e; omega))
    try replace HY := Lib.hid (Own.kept HY.out hg2 (fun g e e' => by injection e with e; have := (HY.out.lt e').1; omega))
    replace HG := Lib.hid (gr_same (a := w) (by repeat (first | exact HG.out | refine gr_alloc ?_ _ | refine gr_drew ?_ | refine gr_drewN ?_ _ | refine gr_setCell ?_ (.inr (by simp; omega)) _)) hg2); clear hg2
    replace HS := Lib.hid hs2; clear hs2
    go_wp2_with fail
    go_ret
    exact ⟨_, rfl, ⟨y2, rfl, hy2⟩, HS.out.mono (by omega), HG.out⟩

/-! Payers. -/
def PyOwn (w : World) (lo : Nat) (p : PyV) : Prop := (p.key.size ≤ 1000 ∧ (∀ s ∈ p.nums, s.size ≤ 1000) ∧ p.nn ≤ 1000) ∧ OwnR srow 1 w lo 9 p.nA p.nn p.nc p.nums
def GPys (w : World) (lo : Nat) (A : Option Addr) (n c : Nat) (l : List PyV) : Prop := OwnR PyV.row 2 w lo 73 A n c l ∧ ∀ p ∈ l, PyOwn w lo p
def IsPys (lo k : Nat) (v : Value) (w : World) : Prop := ∃ A n c l, v = .slice A n c ∧ Pys w lo A n c l ∧ n ≤ k
section
variable {w w' : World} {lo n c : Nat} {A : Option Addr} {l : List PyV}
theorem PyOwn.ok {p : PyV} (h : PyOwn w lo p) : PyOk w lo p := ⟨h.1, h.2.recs⟩
theorem GPys.pys (h : GPys w lo A n c l) : Pys w lo A n c l := ⟨h.1.recs, fun p hp => (h.2 p hp).ok⟩
theorem GPys.low (h : GPys w lo A n c l) {r : Option Nat} (hg : w.grownBy w' r) (hr : ∀ g, r = some g → g < lo) : GPys w' lo A n c l := ⟨h.1.low hg hr, fun p hp => ⟨(h.2 p hp).1, (h.2 p hp).2.low hg hr⟩⟩
theorem GPys.prefix_ (h : GPys w lo A n c l) {i : Nat} (hi : i ≤ n) : GPys w lo A i c (l.take i) := by
  refine ⟨⟨?_, by rw [List.length_take, h.1.2]; omega⟩, fun p hp => h.2 p (List.mem_of_mem_take hp)⟩
  have h1 := h.1.1.prefix_ i hi
  have e : (l.take i).flatMap PyV.row = (l.flatMap PyV.row).take (i * 2) := by
    have h2 : l.flatMap PyV.row = (l.take i).flatMap PyV.row ++ (l.drop i).flatMap PyV.row := by rw [← List.flatMap_append, List.take_append_drop]
    have h3 : ((l.take i).flatMap PyV.row).length = i * 2 := by rw [flat_len PyV.row_len, List.length_take, h.1.2]; omega
    rw [h2, List.take_append_of_le_length (by omega)]
    exact (List.take_of_length_le (by omega)).symm
  rw [e]; exact h1
theorem GPys.app {p : PyV} (h : GPys w lo A n c l) (hp : PyOwn w lo p) {A1 : Option Addr} {c1 n1 : Nat} (hn : n1 = n + 1)
    (h1 : Appended w lo 73 2 A A1 n1 c1 (l.flatMap PyV.row ++ p.row) w') : GPys w' lo A1 n1 c1 (l ++ [p]) := by
  have keep : ∀ q, PyOwn w lo q → PyOwn w' lo q := fun q hq => ⟨hq.1, hq.2.kept h1.2.1 (fun g e => Own.ne h.1.1 hq.2.1 (by decide) e)⟩
  refine ⟨h.1.app hn h1, fun q hq => ?_⟩
  rcases List.mem_append.1 hq with hq | hq
  · exact keep q (h.2 q hq)
  · rw [List.mem_singleton.1 hq]; exact keep p hp
end
theorem Tryz.pysT : ElemT Tryz.prog 30 73 2 40 (.agg #[.string ⟨#[]⟩, .slice none 0 0]) := elemT_of Tryz.underlying30 (by kernel_rfl) rfl (by decide)
theorem right_pays (w : World) {a1 a2 b1 k1 k2 k3 : ByteArray} (h1 : a1.size ≤ 1000) (h2 : a2.size ≤ 1000) (h3 : b1.size ≤ 1000) (h4 : k1.size ≤ 1000) (h5 : k2.size ≤ 1000) (h6 : k3.size ≤ 1000) :
    GPys (((w.alloc (.cells #[.string a1, .string a2] 9)).alloc (.cells #[.string b1] 9)).alloc (.cells #[.string k1, .slice (some ⟨w.heap.size, 0, none⟩) 2 2, .string k2, .slice (some ⟨w.heap.size + 1, 0, none⟩) 1 1, .string k3, .slice none 0 0] 73)) w.heap.size
      (some ⟨w.heap.size + 2, 0, none⟩) 3 3 [⟨k1, some ⟨w.heap.size, 0, none⟩, 2, 2, [a1, a2]⟩, ⟨k2, some ⟨w.heap.size + 1, 0, none⟩, 1, 1, [b1]⟩, ⟨k3, none, 0, 0, []⟩] := by
  have o1 := Own.lit w 9 1 [.string a1, .string a2] 2 (by unfold maxLen; omega) rfl
  have o2 := Own.lit (w.alloc (.cells #[.string a1, .string a2] 9)) 9 1 [.string b1] 1 (by unfold maxLen; omega) rfl
  have o3 := Own.lit ((w.alloc (.cells #[.string a1, .string a2] 9)).alloc (.cells #[.string b1] 9)) 73 2 [.string k1, .slice (some ⟨w.heap.size, 0, none⟩) 2 2, .string k2, .slice (some ⟨w.heap.size + 1, 0, none⟩) 1 1, .string k3, .slice none 0 0] 3 (by unfold maxLen; omega) rfl
  rw [show ((w.alloc (.cells #[.string a1, .string a2] 9)).alloc (.cells #[.string b1] 9)).heap.size = w.heap.size + 2 by simp] at o3
  rw [show (w.alloc (.cells #[.string a1, .string a2] 9)).heap.size = w.heap.size + 1 by simp] at o2
  refine ⟨⟨o3.lower (by omega), rfl⟩, fun p hp => ?_⟩
  simp only [List.mem_cons, List.not_mem_nil, or_false] at hp
  rcases hp with rfl | rfl | rfl
  · refine ⟨⟨h4, fun s hs => ?_, by dsimp only; omega⟩, ⟨(o1.alloc _).alloc _, rfl⟩⟩
    simp only [List.mem_cons, List.not_mem_nil, or_false] at hs
    rcases hs with rfl | rfl
    · exact h1
    · exact h2
  · refine ⟨⟨h5, fun s hs => ?_, by dsimp only; omega⟩, ⟨(o2.alloc _).lower (by omega), rfl⟩⟩
    rw [List.mem_singleton.1 hs]; exact h3
  · exact ⟨⟨h6, (fun s hs => by cases hs), by dsimp only; omega⟩, OwnR.nil _ _ _⟩
set_option maxHeartbeats 2000000 in
theorem rightPayers_any (sb : Nat) (m : Int) (w : World) (hs : Str w sb m) (hm : m ≤ 1000000000000) : Calls Tryz.prog 52 #[.pointer (some ⟨sb, 0, none⟩)] w
    (Drawn sb (m + 1) (fun v w' => ∃ A n c l, v = .slice A n c ∧ GPys w' w.heap.size A n c l ∧ n ≤ 3) w) := by
  have hlt := hs.lt
  have HS := Lib.hid hs; clear hs
  go_enter Tryz.func52, Tryz.ntmps52
  go_wp2_with fail
  refine (pick_new sb _ [1, 2, 3, 3] _ (by exact ((HS.out.alloc _).alloc _).alloc _) (by omega) (by simp) rfl rfl (by simp) (by simp)).mono ?_
  rintro e w1 ⟨v1, rfl, ⟨r1, hr1, rfl⟩, hs1, hg1⟩
  have hp := (right_pays w (a1 := ⟨#[43, 49, 50, 48, 48]⟩) (a2 := ⟨#[43, 49, 50, 48, 50]⟩) (b1 := ⟨#[43, 49, 50, 48, 49]⟩) (k1 := ⟨#[97, 110, 110]⟩) (k2 := ⟨#[98, 111, 98]⟩) (k3 := ⟨#[99, 105, 100]⟩) (by decide) (by decide) (by decide) (by decide) (by decide) (by decide)).low hg1 (fun g e => by injection e with e; omega)
  have HP := Lib.hid hp; have HS1 := Lib.hid hs1
  have HG1 := Lib.hid (gr_same (gr_alloc (gr_alloc (gr_alloc (gr_refl w (some sb)) _) _) _) hg1)
  clear hp hs1 hg1
  simp only [List.mem_cons, List.not_mem_nil, or_false, or_self] at hr1
  rcases hr1 with rfl | rfl | rfl
  all_goals
    go_wp2_with fail
    go_ret
    refine ⟨_, rfl, ⟨_, _, _, _, rfl, HP.out.prefix_ (by omega), by omega⟩, HS1.out, HG1.out⟩
set_option maxHeartbeats 4000000 in
theorem payers_any (sb : Nat) (m : Int) (w : World) (hs : Str w sb m) (hm : m ≤ 1000000000) : Calls Tryz.prog 19 #[.pointer (some ⟨sb, 0, none⟩)] w (Drawn sb (m + 10) (IsPys w.heap.size 4) w) := by
  have hlt := hs.lt
  have HS := Lib.hid hs; clear hs
  have HG := Lib.hid (gr_refl w (some sb))
  go_enter Tryz.func19, Tryz.ntmps19
  go_wp2_with fail
  refine (rightPayers_any sb _ _ (by first | exact HS.out | exact HS.out.alloc _ | exact (HS.out.alloc _).alloc _ | exact ((HS.out.alloc _).alloc _).alloc _ | exact HS.out.drewN _ | exact HS.out.setCell (by simp; omega) _ | exact (HS.out.alloc _).setCell (by simp; omega) _ | exact (HS.out.setCell (by simp; omega) _).alloc _ | exact (HS.out.setCell (by simp; omega) _).drewN _ | exact (HS.out.alloc _).drewN _) (by omega)).mono ?_
  rintro e w1 ⟨v1, rfl, ⟨A, n, c, l, rfl, hgp, hn⟩, hs1, hg1⟩
  have HGP := Lib.hid hgp; clear hgp
  have z1 := hg1.size
  replace HG := Lib.hid (gr_same HG.out hg1); clear hg1
  replace HS := Lib.hid hs1; clear hs1
  go_wp2_with fail
  refine (flip_any sb _ 12 _ (by first | exact HS.out | exact HS.out.alloc _ | exact (HS.out.alloc _).alloc _ | exact ((HS.out.alloc _).alloc _).alloc _ | exact HS.out.drewN _ | exact HS.out.setCell (by simp; omega) _ | exact (HS.out.alloc _).setCell (by simp; omega) _ | exact (HS.out.setCell (by simp; omega) _).alloc _ | exact (HS.out.setCell (by simp; omega) _).drewN _ | exact (HS.out.alloc _).drewN _) (by omega) (by omega) (by omega)).mono ?_
  rintro e w2 ⟨v2, rfl, ⟨f2, rfl⟩, hs2, hg2⟩
  replace HGP := Lib.hid (HGP.out.low hg2 (fun g e => by injection e with e; omega))
  have z2 := hg2.size; (try simp at z2)
  replace HG := Lib.hid (gr_same (a := w) (by repeat (first | exact HG.out | refine gr_alloc ?_ _ | refine gr_drew ?_ | refine gr_drewN ?_ _ | refine gr_setCell ?_ (.inr (by simp; omega)) _)) hg2); clear hg2
  replace HS := Lib.hid hs2; clear hs2
  cases f2
  · go_wp2_with fail
    go_ret
    exact ⟨_, rfl, ⟨A, n, c, l, rfl, HGP.out.pys, by omega⟩, HS.out.mono (by omega), HG.out⟩
  · go_wp2_with fail
    refine (some_new (n := 3) sb _ 5 _ (by first | exact HS.out | exact HS.out.alloc _ | exact (HS.out.alloc _).alloc _ | exact ((HS.out.alloc _).alloc _).alloc _ | exact HS.out.drewN _ | exact HS.out.setCell (by simp; omega) _ | exact (HS.out.alloc _).setCell (by simp; omega) _ | exact (HS.out.setCell (by simp; omega) _).alloc _ | exact (HS.out.setCell (by simp; omega) _).drewN _ | exact (HS.out.alloc _).drewN _) (by omega) (by simp) (by
      repeat (first | exact StrsOk.nil _ | refine StrsOk.cons (by decide) ?_)) rfl (by omega) (by omega)).mono ?_
    rintro e w3 ⟨v3, rfl, ⟨y3, rfl, hy3⟩, hs3, hg3⟩
    replace HGP := Lib.hid (HGP.out.low hg3 (fun g e => by injection e with e; omega))
    have z3 := hg3.size; (try simp at z3)
    replace HG := Lib.hid (gr_same (a := w) (by repeat (first | exact HG.out | refine gr_alloc ?_ _ | refine gr_drew ?_ | refine gr_drewN ?_ _ | refine gr_setCell ?_ (.inr (by simp; omega)) _)) hg3); clear hg3
    replace HS := Lib.hid hs3; clear hs3
    go_wp2_with fail
    refine (some_new (n := 5) sb _ 5 _ (by first | exact HS.out | exact HS.out.alloc _ | exact (HS.out.alloc _).alloc _ | exact ((HS.out.alloc _).alloc _).alloc _ | exact HS.out.drewN _ | exact HS.out.setCell (by simp; omega) _ | exact (HS.out.alloc _).setCell (by simp; omega) _ | exact (HS.out.setCell (by simp; omega) _).alloc _ | exact (HS.out.setCell (by simp; omega) _).drewN _ | exact (HS.out.alloc _).drewN _) (by omega) (by simp) (by
      repeat (first | exact StrsOk.nil _ | refine StrsOk.cons (by decide) ?_)) rfl (by omega) (by omega)).mono ?_
    rintro e w4 ⟨v4, rfl, ⟨y4, rfl, hy4⟩, hs4, hg4⟩
    replace HGP := Lib.hid (HGP.out.low hg4 (fun g e => by injection e with e; omega))
    have z4 := hg4.size; (try simp at z4)
    replace HG := Lib.hid (gr_same (a := w) (by repeat (first | exact HG.out | refine gr_alloc ?_ _ | refine gr_drew ?_ | refine gr_drewN ?_ _ | refine gr_setCell ?_ (.inr (by simp; omega)) _)) hg4); clear hg4
    replace HS := Lib.hid hs4; clear hs4
    have HPN := Lib.hid (Own.lit w4 9 1 [.string y4] 1 (by unfold maxLen; omega) rfl)
    go_wp2_with (first
      | (at_builtin
         refine wpl_app _ rfl _ _ Tryz.pysT rfl w.heap.size A n c _ rfl (by exact (HGP.out.1.1.alloc _).alloc _) _ _ 1 1 [.string y3, .slice (some ⟨w4.heap.size, 0, none⟩) 1 1] rfl (by exact reads_at _ _ _ _ rfl (by simp)) (by simp [Value.oneCell']) (by unfold maxLen; omega) (by omega) (by simp; omega) ?_
         intro A5 c5 w5 h5
         have H5 := Lib.hid h5; clear h5)
      | fail)
    go_ret
    have hq := (HGP.out.low (gr_alloc (gr_alloc (gr_refl _ none) (.cells #[.string y4] 9)) (.cells #[.string y3, .slice (some ⟨w4.heap.size, 0, none⟩) 1 1] 73)) (fun g e => by cases e))
    refine ⟨_, rfl, ⟨A5, n + 1, c5, _, rfl, (hq.app (p := ⟨y3, some ⟨w4.heap.size, 0, none⟩, 1, 1, [y4]⟩) ⟨⟨by dsimp only; omega, (fun s hs => by rw [List.mem_singleton.1 hs]; omega), by dsimp only; omega⟩, ⟨(HPN.out.alloc _).lower (by omega), rfl⟩⟩ rfl H5.out).pys, by omega⟩, ?_, ?_⟩
    · exact (((HS.out.alloc _).alloc _).grown H5.out.2.1 (fun g e => by have := (hq.1.1.lt e).1; omega)).mono (by omega)
    · exact H5.out.gr (gr_alloc (gr_alloc HG.out _) _) hq.1.1 (Nat.le_refl _)
end Go.Proofs.YtlkibeckfpjccaaGreatDoor

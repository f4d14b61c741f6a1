/- Contract of the generator of strings Some. Conditions: none. -/
import Derived.Test.YtoddgaocochdgaaGreatDoorBun1
import Derived.Laws.Runes
namespace Go.Proofs.YtoddgaocochdgaaGreatDoor
section
open Go.RowKit

/-- A string of at most so many bytes. -/
def StrBd (m : Nat) (v : Value) (_ : World) : Prop := ∃ s : ByteArray, v = .string s ∧ s.size ≤ m
/-- Cells that are such strings. -/
def StrsOk (k : Nat) (cs : List Value) : Prop := ∀ v ∈ cs, ∃ s : ByteArray, v = .string s ∧ s.size ≤ k
theorem StrsOk.nil (k : Nat) : StrsOk k [] := fun v hv => by cases hv
theorem StrsOk.cons {k : Nat} {s : ByteArray} {cs : List Value} (hs : s.size ≤ k) (h : StrsOk k cs) : StrsOk k (.string s :: cs) := by
  intro v hv
  rcases List.mem_cons.1 hv with rfl | hv
  · exact ⟨s, rfl, hs⟩
  · exact h v hv
set_option maxHeartbeats 2000000 in
theorem some_new (sb : Nat) (m : Int) (k : Nat) (W : World) (hs : Str W sb m) (hm : m ≤ 1152921504606846976) {g n : Nat} {cs : Array Value} (hg : W.heap.size = g) (hcs : StrsOk k cs.toList) (hn : cs.size = n) (h0 : 1 ≤ n) (h1 : n ≤ 1000) :
    Calls Tryz.prog 53 #[.pointer (some ⟨sb, 0, none⟩), .slice (some ⟨g, 0, none⟩) n n] (W.alloc (.cells cs 9)) (Drawn sb (m + 1) (StrBd k) W) := by
  subst hg
  have hlt := hs.lt
  have HS := Lib.hid (hs.alloc (.cells cs 9))
  have HB := Lib.hid (Blk.new W 9 cs)
  have HG := Lib.hid (gr_alloc (gr_refl W (some sb)) (.cells cs 9))
  have HCS := Lib.hid hcs; have HN := Lib.hid hn
  clear hs hcs hn
  generalize hW : W.alloc (.cells cs 9) = W1 at *
  clear hW
  go_enter Tryz.func53, Tryz.ntmps53
  go_wp2_with fail
  refine (next_any sb m _ _ HS.out hm (by omega) (by omega)).mono ?_
  rintro e w' ⟨v, rfl, ⟨r, hr1, hr2, rfl⟩, hs', hg'⟩
  have hr3 : r.toNat < cs.toList.length := by rw [Array.length_toList, HN.out]; omega
  obtain ⟨s, hs1, hs2⟩ := HCS.out _ (List.getElem_mem hr3)
  have hc : w'.cell? ⟨W.heap.size, r.toNat, none⟩ = some (.string s) := by
    rw [(HB.out.grown hg' (by simp; omega)).cell, ← hs1]
    rw [Array.getElem?_eq_getElem (by simpa using hr3)]
    simp
  have H' := Lib.hid hs'; clear hs'
  have HG' := Lib.hid (gr_same HG.out hg'); clear hg'
  go_wp2_with fail
  go_ret
  exact ⟨_, rfl, ⟨s, rfl, hs2⟩, H'.out, HG'.out⟩
end
end Go.Proofs.YtoddgaocochdgaaGreatDoor
/- Contract of the generator Odd. Conditions: none. -/
namespace Go.Proofs.YtoddgaocochdgaaGreatDoor
section
open Go.RowKit

set_option maxHeartbeats 1000000 in
theorem odd_any (sb : Nat) (m lo hi : Int) (w : World) (hs : Str w sb m) (hm : m ≤ 1000000000000) (h1 : -8589934592 ≤ lo) (h2 : lo ≤ hi) (h3 : hi ≤ 8589934592) :
    Calls Tryz.prog 52 #[.pointer (some ⟨sb, 0, none⟩), .int .i64 lo, .int .i64 hi] w (Drawn sb (m + 2) (IntIn (-1099511627776) 1099511627776) w) := by
  have hlt := hs.lt
  have HS := Lib.hid hs; clear hs
  have HG := Lib.hid (gr_refl w (some sb))
  go_enter Tryz.func52, Tryz.ntmps52
  go_wp2_with fail
  refine (flip_any sb _ 12 _ (by first | exact HS.out | exact HS.out.alloc _ | exact (HS.out.alloc _).alloc _ | exact ((HS.out.alloc _).alloc _).alloc _ | exact HS.out.drewN _ | exact HS.out.setCell (by simp; omega) _ | exact (HS.out.alloc _).setCell (by simp; omega) _ | exact (HS.out.setCell (by simp; omega) _).alloc _ | exact (HS.out.setCell (by simp; omega) _).drewN _ | exact (HS.out.alloc _).drewN _) (by omega) (by omega) (by omega)).mono ?_
  rintro e w1 ⟨v1, rfl, ⟨f1, rfl⟩, hs1, hg1⟩
  have z1 := hg1.size; try simp at z1
  try replace HZ := Lib.hid (HZ.out.grown hg1 (by simp; omega))
  try replace HP := Lib.hid (HP.out.grown hg1 (by simp; omega))
  try replace HGA := Lib.hid (HGA.out.kept hg1 (fun g e => by injection e with e; omega))
  try replace HY := Lib.hid (Own.kept HY.out hg1 (fun g e e' => by injection e with e; have := (HY.out.lt e').1; omega))
  replace HG := Lib.hid (gr_same (a := w) (by repeat (first | exact HG.out | refine gr_alloc ?_ _ | refine gr_drew ?_ | refine gr_drewN ?_ _ | refine gr_setCell ?_ (.inr (by simp; omega)) _)) hg1); clear hg1
  replace HS := Lib.hid hs1; clear hs1
  cases f1
  · go_wp2_with fail
    refine (range_any sb _ lo hi _ (by first | exact HS.out | exact HS.out.alloc _ | exact (HS.out.alloc _).alloc _ | exact ((HS.out.alloc _).alloc _).alloc _ | exact HS.out.drewN _ | exact HS.out.setCell (by simp; omega) _ | exact (HS.out.alloc _).setCell (by simp; omega) _ | exact (HS.out.setCell (by simp; omega) _).alloc _ | exact (HS.out.setCell (by simp; omega) _).drewN _ | exact (HS.out.alloc _).drewN _) (by omega) (by omega) (by omega) (by omega)).mono ?_
    rintro e w2 ⟨v2, rfl, ⟨r2, hlo2, hhi2, rfl⟩, hs2, hg2⟩
    have z2 := hg2.size; try simp at z2
    try replace HZ := Lib.hid (HZ.out.grown hg2 (by simp; omega))
    try replace HP := Lib.hid (HP.out.grown hg2 (by simp; omega))
    try replace HGA := Lib.hid (HGA.out.kept hg2 (fun g e => by injection e with e; omega))
    try replace HY := Lib.hid (Own.kept HY.out hg2 (fun g e e' => by injection e with e; have := (HY.out.lt e').1; omega))
    replace HG := Lib.hid (gr_same (a := w) (by repeat (first | exact HG.out | refine gr_alloc ?_ _ | refine gr_drew ?_ | refine gr_drewN ?_ _ | refine gr_setCell ?_ (.inr (by simp; omega)) _)) hg2); clear hg2
    replace HS := Lib.hid hs2; clear hs2
    go_wp2_with fail
    go_ret
    exact ⟨_, rfl, ⟨r2, by omega, by omega, rfl⟩, HS.out.mono (by omega), HG.out⟩
  · go_wp2_with fail
    refine (pick_new sb _ [lo - 1, hi + 1, lo, hi, -1099511627776, 1099511627776] _ (by first | exact HS.out | exact HS.out.alloc _ | exact (HS.out.alloc _).alloc _ | exact ((HS.out.alloc _).alloc _).alloc _ | exact HS.out.drewN _ | exact HS.out.setCell (by simp; omega) _ | exact (HS.out.alloc _).setCell (by simp; omega) _ | exact (HS.out.setCell (by simp; omega) _).alloc _ | exact (HS.out.setCell (by simp; omega) _).drewN _ | exact (HS.out.alloc _).drewN _) (by omega) (by simp) rfl rfl (by simp) (by simp)).mono ?_
    rintro e w2 ⟨v2, rfl, ⟨r2, hr2, rfl⟩, hs2, hg2⟩
    have HR2 := Lib.hid hr2; clear hr2
    have z2 := hg2.size; try simp at z2
    try replace HZ := Lib.hid (HZ.out.grown hg2 (by simp; omega))
    try replace HP := Lib.hid (HP.out.grown hg2 (by simp; omega))
    try replace HGA := Lib.hid (HGA.out.kept hg2 (fun g e => by injection e with e; omega))
    try replace HY := Lib.hid (Own.kept HY.out hg2 (fun g e e' => by injection e with e; have := (HY.out.lt e').1; omega))
    replace HG := Lib.hid (gr_same (a := w) (by repeat (first | exact HG.out | refine gr_alloc ?_ _ | refine gr_drew ?_ | refine gr_drewN ?_ _ | refine gr_setCell ?_ (.inr (by simp; omega)) _)) hg2); clear hg2
    replace HS := Lib.hid hs2; clear hs2
    go_wp2_with fail
    go_ret
    refine ⟨_, rfl, ⟨r2, ?_, ?_, rfl⟩, HS.out.mono (by omega), HG.out⟩
    · have h := HR2.out; simp at h; omega
    · have h := HR2.out; simp at h; omega
end
end Go.Proofs.YtoddgaocochdgaaGreatDoor
/- Sizes of strings that are made. Conditions: none. -/
namespace Go.Proofs.YtoddgaocochdgaaGreatDoor
section
theorem enc_size (n : Int) : (Utf8.encode n).size ≤ 4 := by
  unfold Utf8.encode
  dsimp only
  split <;> (try split) <;> (try split) <;> (try split) <;> first | (show 1 ≤ 4; omega) | (show 2 ≤ 4; omega) | (show 3 ≤ 4; omega) | (show 4 ≤ 4; omega) | fail
theorem ext_size (s : ByteArray) (a b : Nat) : (s.extract a b).size ≤ s.size := by
  rw [← nb_len, nb_extract, List.length_drop, List.length_take, nb_len]; omega
theorem app_size (s t : ByteArray) : (s ++ t).size = s.size + t.size := by
  rw [← nb_len, nb_append, List.length_append, nb_len, nb_len]
end
end Go.Proofs.YtoddgaocochdgaaGreatDoor
/- Contract of the generator of strings Changed. Conditions: none. -/
namespace Go.Proofs.YtoddgaocochdgaaGreatDoor
section
open Go.RowKit

set_option maxRecDepth 100000 in
set_option maxHeartbeats 4000000 in
theorem changed_any (sb : Nat) (m : Int) (t u : ByteArray) (w : World) (hs : Str w sb m) (hm : m ≤ 1152921504606846970) (ht : t.size ≤ 1000000) (hu : u.size ≤ 1000) :
    Calls Tryz.prog 54 #[.pointer (some ⟨sb, 0, none⟩), .string t, .string u] w (Drawn sb (m + 3) (StrBd (2 * t.size + u.size + 4)) w) := by
  have HS := Lib.hid hs; clear hs
  by_cases h0 : nb t = [] ∨ nb u = []
  · rcases h0 with h0 | h0
    · have e1 : t.toList = [] := str_nil h0
      go_enter Tryz.func54, Tryz.ntmps54
      go_wp2_with fail
      go_ret
      exact ⟨_, rfl, ⟨u, rfl, by omega⟩, HS.out.mono (by omega), gr_refl _ _⟩
    · have e2 : u.toList = [] := str_nil h0
      by_cases h1 : nb t = []
      · have e1 : t.toList = [] := str_nil h1
        go_enter Tryz.func54, Tryz.ntmps54
        go_wp2_with fail
        go_ret
        exact ⟨_, rfl, ⟨u, rfl, by omega⟩, HS.out.mono (by omega), gr_refl _ _⟩
      · obtain ⟨e1, e1', _⟩ := str_full h1
        go_enter Tryz.func54, Tryz.ntmps54
        go_wp2_with fail
        go_ret
        exact ⟨_, rfl, ⟨u, rfl, by omega⟩, HS.out.mono (by omega), gr_refl _ _⟩
  · obtain ⟨e1, e1', t0⟩ := str_full (fun h => h0 (.inl h))
    obtain ⟨e2, e2', u0⟩ := str_full (fun h => h0 (.inr h))
    clear h0
    go_enter Tryz.func54, Tryz.ntmps54
    go_wp2_with fail
    refine (next_any sb m _ _ HS.out (by omega) (by omega) (by omega)).mono ?_
    rintro e w1 ⟨v1, rfl, ⟨r1, r10, r11, rfl⟩, hs1, hg1⟩
    have HS1 := Lib.hid hs1; have HG1 := Lib.hid hg1; clear hs1 hg1
    obtain ⟨i, rfl⟩ : ∃ i : Nat, r1 = i := ⟨r1.toNat, by omega⟩
    go_wp2_with fail
    refine (next_any sb _ _ _ HS1.out (by omega) (by omega) (by omega)).mono ?_
    rintro e w2 ⟨v2, rfl, ⟨r2, r20, r21, rfl⟩, hs2, hg2⟩
    have HS2 := Lib.hid hs2; have HG2 := Lib.hid (gr_same HG1.out hg2); clear hs2 hg2
    obtain ⟨j, rfl⟩ : ∃ j : Nat, r2 = j := ⟨r2.toNat, by omega⟩
    have hj : j < u.size := by omega
    obtain ⟨b, hb⟩ : ∃ b, u[j].toNat = b := ⟨_, rfl⟩
    have b256 : b < 256 := by rw [← hb]; exact UInt8.toNat_lt _
    go_wp2_with fail
    refine (next_any sb _ _ _ HS2.out (by omega) (by omega) (by omega)).mono ?_
    rintro e w3 ⟨v3, rfl, ⟨r3, r30, r31, rfl⟩, hs3, hg3⟩
    have HS3 := Lib.hid hs3; have HG3 := Lib.hid (gr_same HG2.out hg3); clear hs3 hg3
    obtain ⟨x, hx⟩ : ∃ x, t.extract 0 i = x := ⟨_, rfl⟩
    obtain ⟨y, hy⟩ : ∃ y, t.extract (i + 1) t.size = y := ⟨_, rfl⟩
    obtain ⟨z, hz⟩ : ∃ z, t.extract i t.size = z := ⟨_, rfl⟩
    obtain ⟨c, hc⟩ : ∃ c, Utf8.encode (b : Int) = c := ⟨_, rfl⟩
    have xs : x.size ≤ i := by rw [← hx, ← nb_len, nb_extract, List.drop_zero, List.length_take]; omega
    have ys : y.size + (i + 1) ≤ t.size := by rw [← hy, ← nb_len, nb_extract, List.length_drop, List.length_take, nb_len]; omega
    have zs : z.size + i ≤ t.size := by rw [← hz, ← nb_len, nb_extract, List.length_drop, List.length_take, nb_len]; omega
    have cs : c.size ≤ 4 := by rw [← hc]; exact enc_size _
    obtain ⟨xc, hxc⟩ : ∃ xc, x ++ c = xc := ⟨_, rfl⟩
    have xcs : xc.size ≤ i + 4 := by rw [← hxc, app_size]; omega
    have a1 : ¬ 9223372036854775807 < x.size + c.size := by omega
    have a2 : ¬ 9223372036854775807 < xc.size + y.size := by omega
    have a3 : ¬ 9223372036854775807 < xc.size + z.size := by omega
    have a4 : ¬ 9223372036854775807 < x.size + y.size := by omega
    have l0 : (0 : Int) ≤ (i : Int) := by omega
    have l1 : (i : Int) ≤ (t.size : Int) := by omega
    have l2 : (0 : Int) ≤ (i : Int) + 1 := by omega
    have l3 : (i : Int) + 1 ≤ (t.size : Int) := by omega
    have l4 : IntKind.i64.wrap ((i : Int) + 1) = (i : Int) + 1 := IntWalk.i64_in _ (by omega)
    have l5 : ((i : Int) + 1).toNat = i + 1 := by omega
    rcases (by omega : r3 = 0 ∨ r3 = 1 ∨ r3 = 2) with rfl | rfl | rfl
    · go_wp2_with fail
      go_quiet (fail)
      go_wp2_with fail
      go_ret
      exact ⟨_, rfl, ⟨_, rfl, by rw [app_size]; omega⟩, (HS3.out.mono (by omega)).drewN _, gr_drewN HG3.out _⟩
    · go_wp2_with fail
      go_quiet (fail)
      go_wp2_with fail
      go_ret
      exact ⟨_, rfl, ⟨_, rfl, by rw [app_size]; omega⟩, (HS3.out.mono (by omega)).drewN _, gr_drewN HG3.out _⟩
    · go_wp2_with fail
      go_quiet (fail)
      go_wp2_with fail
      go_ret
      exact ⟨_, rfl, ⟨_, rfl, by rw [app_size]; omega⟩, (HS3.out.mono (by omega)).drewN _, gr_drewN HG3.out _⟩
end
end Go.Proofs.YtoddgaocochdgaaGreatDoor
/- Contract of errs: the first error of some. Conditions: none. -/
namespace Go.Proofs.YtoddgaocochdgaaGreatDoor
section
open Go.RowKit

/-- The first of some errors. -/
def firstE (l : List Int) : Int := (l.find? (fun z => z != 0)).getD 0
theorem firstE_cons (a : Int) (l : List Int) : firstE (a :: l) = if a = 0 then firstE l else a := by
  unfold firstE
  by_cases h : a = 0
  · subst h; rfl
  · rw [if_neg h, List.find?_cons_of_pos (by simpa using h)]; rfl
theorem firstE_nil : firstE [] = 0 := rfl
set_option maxHeartbeats 2000000 in
theorem errs_run (lo : Nat) (A : Option Addr) (n c : Nat) (l : List Int) (w : World) (h : Ints .i64 w lo A n c l) (hn : n ≤ 1000000000000) :
    Calls Tryz.prog 12 #[.slice A n c] w (Same (.int .i64 (firstE l)) w) := by
  have H := Lib.hid h; clear h
  go_enter Tryz.func12, Tryz.ntmps12
  go_wp2_with fail
  go_loop [4, 7] (fun _ t => ∃ i : Nat, i ≤ n ∧ t = .int .i64 i ∧ firstE l = firstE (l.drop i)) (fun _ t => n - (intOf t).toNat)
  case atStart => exact ⟨0, Nat.zero_le _, rfl, rfl⟩
  case round =>
    obtain ⟨i, hi, rfl, ha⟩ := hrel
    have HA := Lib.hid ha; clear ha
    by_cases hlt : i < n
    · obtain ⟨g, o, z, rfl, _, _, hz, hc⟩ := H.out.get hlt
      have HZ := Lib.hid (show firstE l = if z = 0 then firstE (l.drop (i + 1)) else z by
        rw [HA.out, ← firstE_cons]
        obtain ⟨hl, hz2⟩ := List.getElem?_eq_some_iff.1 hz
        rw [List.drop_eq_getElem_cons hl, hz2])
      clear hz
      by_cases hp : z = 0
      · subst hp
        go_wp2_with fail
        go_round
        case rel => exact ⟨i + 1, by omega, by go_num, by rw [HZ.out]; rfl⟩
        case measure => simp [intOf]; omega
      · have hpb : (z != 0) = true := by simpa using hp
        have HP := Lib.hid (show firstE l = z by rw [HZ.out, if_neg hp])
        go_wp2_with fail
        go_ret
        exact ⟨by rw [HP.out]; rfl, rfl⟩
    · obtain rfl : i = n := by omega
      go_wp2_with fail
      go_ret
      exact ⟨by rw [HA.out, List.drop_eq_nil_of_le (by rw [H.out.len]; exact Nat.le_refl _)]; rfl, rfl⟩
/-- The errors were just laid out for the call. -/
theorem errs_new (l : List Int) (W : World) {g n : Nat} {cs : Array Value} (hg : W.heap.size = g) (hcs : cs = (l.map (Value.int .i64)).toArray) (hn : l.length = n) (hn2 : n ≤ 1000) :
    Calls Tryz.prog 12 #[.slice (some ⟨g, 0, none⟩) n n] (W.alloc (.cells cs 29)) (RetV (.int .i64 (firstE l)) W) := by
  subst hg; subst hcs
  refine (errs_run _ _ n n l _ (Reads.blk (Blk.new W _ _) 1 n (by simp [hn])) (by omega)).mono ?_
  rintro e w' ⟨rfl, rfl⟩
  exact ⟨rfl, gr_alloc (gr_refl _ _) _⟩
end
end Go.Proofs.YtoddgaocochdgaaGreatDoor

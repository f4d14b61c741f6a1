/- Contracts of the stream of drawn numbers: what is drawn lies in its range, whatever the input. Conditions: none. -/
import Derived.Test.YtelpakmiciilgaaGreatDoorRows
import Derived.Test.YtelpakmiciilgaaGreatDoorBun1
import Derived.WalkKit
import Derived.Deep.QuietTactic
import Derived.BigQuiet
namespace Go.Proofs.YtelpakmiciilgaaGreatDoor
open Go.RowKit

def InRange (n : Int) (w : World) (e : Ending) (w' : World) : Prop := ∃ r : Int, 0 ≤ r ∧ r < n ∧ e = .returned (.int .i64 r) ∧ w = w'

set_option maxHeartbeats 400000 in
theorem below_any (x n : Int) (w : World) (hn : 1 ≤ n) (hn2 : n ≤ 4611686018427387904) :
    Calls Tryz.prog 39 #[.int .i64 x, .int .i64 n] w (InRange n w) := by
  have h1 : x.tmod n < n := Int.tmod_lt_of_pos _ (by omega)
  have h2 : -n < x.tmod n := by have := Int.lt_tmod_of_pos x (b := n) (by omega); omega
  go_enter Tryz.func39, Tryz.ntmps39
  go_wp2
  all_goals
    go_ret
    exact ⟨_, by omega, by omega, rfl, rfl⟩

/-- The stream's struct lies in block sb: the numbers that came in, and how many have been drawn (at most m). -/
def Str (w : World) (sb : Nat) (m : Int) : Prop :=
  ∃ (A : Option Addr) (len cap : Nat) (k : Int), 0 ≤ k ∧ k ≤ m ∧ len ≤ 9223372036854775807 ∧ Blk w sb 25 #[.slice A len cap, .int .i64 k] ∧
    (0 < len → ∃ b o, A = some ⟨b, o, none⟩ ∧ b < sb ∧ ∀ i, i < len → ∃ z, w.cell? ⟨b, o + i, none⟩ = some (.int .i64 z))
theorem Str.lt {w : World} {sb : Nat} {m : Int} (h : Str w sb m) : sb < w.heap.size := by
  obtain ⟨_, _, _, _, _, _, _, hb, _⟩ := h
  exact hb.lt
theorem Str.mono {w : World} {sb : Nat} {m m' : Int} (h : Str w sb m) (hm : m ≤ m') : Str w sb m' := by
  obtain ⟨A, len, cap, k, h0, h1, h2, h3, h4⟩ := h
  exact ⟨A, len, cap, k, h0, by omega, h2, h3, h4⟩
theorem Str.kept {w w' : World} {sb : Nat} {m : Int} (h : Str w sb m) (hk : ∀ g, g ≤ sb → w'.heap[g]? = w.heap[g]?) : Str w' sb m := by
  obtain ⟨A, len, cap, k, h0, h1, h2, h3, h4⟩ := h
  refine ⟨A, len, cap, k, h0, h1, h2, (hk sb (Nat.le_refl _)).trans h3, fun hl => ?_⟩
  obtain ⟨b, o, e, hb, hc⟩ := h4 hl
  refine ⟨b, o, e, hb, fun i hi => ?_⟩
  obtain ⟨z, hz⟩ := hc i hi
  exact ⟨z, (World.cell?_of_block (hk b (by omega))).trans hz⟩
theorem Str.grown {w w' : World} {sb : Nat} {m : Int} (h : Str w sb m) {row : Option Nat} (hg : w.grownBy w' row) (hr : ∀ g, row = some g → sb < g) : Str w' sb m :=
  h.kept fun g hle => hg.block g (by have := h.lt; omega) (fun e => by have := hr _ e.symm; omega)
theorem Str.below {w w' : World} {sb : Nat} {m : Int} (h : Str w sb m) (hb : Below w.heap.size w w') : Str w' sb m := h.kept fun g hle => hb.block g (by have := h.lt; omega)
theorem Str.alloc {w : World} {sb : Nat} {m : Int} (h : Str w sb m) (o : Obj) : Str (w.alloc o) sb m := h.kept fun g hle => Below.heap_alloc w o g (by have := h.lt; omega)
theorem Str.drew {w : World} {sb : Nat} {m : Int} (h : Str w sb m) : Str w.drew sb m := h
theorem Str.drewN {w : World} {sb : Nat} {m : Int} (h : Str w sb m) (k : Nat) : Str (w.drewN k) sb m := h
theorem Str.setCell {w : World} {sb : Nat} {m : Int} (h : Str w sb m) {p : Addr} (hp : sb < p.block) (u : Value) : Str (w.setCell p u) sb m :=
  h.kept fun g hle => Below.heap_setCell w p u g (by omega)

/-- A generator's answer: a value of which P holds; m more numbers have been drawn at most; nothing else that was there has changed. -/
def Drawn (sb : Nat) (m : Int) (P : Value → World → Prop) (w : World) (e : Ending) (w' : World) : Prop :=
  ∃ v, e = .returned v ∧ P v w' ∧ Str w' sb m ∧ w.grownBy w' (some sb)

def IntIn (lo hi : Int) (v : Value) (_ : World) : Prop := ∃ r : Int, lo ≤ r ∧ r ≤ hi ∧ v = .int .i64 r

set_option maxHeartbeats 1000000 in
theorem next_any (sb : Nat) (m n : Int) (w : World) (hs : Str w sb m) (hm : m ≤ 1152921504606846976) (hn : 1 ≤ n) (hn2 : n ≤ 4611686018427387904) :
    Calls Tryz.prog 21 #[.pointer (some ⟨sb, 0, none⟩), .int .i64 n] w (Drawn sb (m + 1) (IntIn 0 (n - 1)) w) := by
  obtain ⟨A, len, cap, k, hk0, hk1, hl, hb, hz⟩ := hs
  have c0 : w.cell? ⟨sb, 0, none⟩ = some (.slice A len cap) := hb.cell 0
  have c1 : w.cell? ⟨sb, 1, none⟩ = some (.int .i64 k) := hb.cell 1
  have f1 : w.frozen? ⟨sb, 1, none⟩ = false := hb.frozen 1
  by_cases h0 : len = 0
  · subst h0
    have H := Lib.hid hb; clear hb
    go_enter Tryz.func21, Tryz.ntmps21
    go_wp2_with (go_at_call 39; refine (below_any _ _ _ (by omega) (by omega)).mono ?_; rintro e w' ⟨r, hr1, hr2, rfl, rfl⟩)
    go_ret
    have hb := H.out.set_ 1 (.int .i64 (k + 1))
    exact ⟨_, rfl, ⟨r, by omega, by omega, rfl⟩, ⟨A, 0, cap, k + 1, by omega, by omega, by omega, hb, fun h => absurd h (by omega)⟩, gr_setCell (gr_refl _ _) (.inl rfl) _⟩
  · obtain ⟨b, o, rfl, hbs, hc⟩ := hz (by omega)
    have hi0 : 0 ≤ k % (len : Int) := Int.emod_nonneg _ (by omega)
    have hi1 : k % (len : Int) < len := Int.emod_lt_of_pos _ (by omega)
    obtain ⟨z, hcz⟩ := hc (k % (len : Int)).toNat (by omega)
    have h0' : ((len : Int) == 0) = false := by simpa using h0
    have HB := Lib.hid hb; clear hb
    have HC := Lib.hid hc; clear hc hz
    have hne : b ≠ sb := by omega
    go_enter Tryz.func21, Tryz.ntmps21
    go_wp2_with fail
    go_quiet (fail)
    go_wp2_with fail
    go_quiet (fail)
    go_wp2_with (go_at_call 39; refine (below_any _ _ _ (by omega) (by omega)).mono ?_; rintro e w' ⟨r, hr1, hr2, rfl, rfl⟩)
    go_ret
    have hb2 := (HB.out.set_ 1 (.int .i64 (k + 1)))
    refine ⟨_, rfl, ⟨_, by assumption, by omega, rfl⟩, ⟨_, len, cap, k + 1, by omega, by omega, by omega, hb2, fun h => ⟨b, o, rfl, hbs, fun i hi => ?_⟩⟩, gr_drewN (gr_setCell (gr_refl _ _) (.inl rfl) _) _⟩
    obtain ⟨z, hz⟩ := HC.out i hi
    exact ⟨z, (World.cell?_setCell_other w _ _ _ (fun e => by injection e; omega)).trans hz⟩

def BoolAny (v : Value) (_ : World) : Prop := ∃ b : Bool, v = .bool b

set_option maxHeartbeats 1000000 in
theorem range_any (sb : Nat) (m lo hi : Int) (w : World) (hs : Str w sb m) (hm : m ≤ 1152921504606846976) (h1 : -1152921504606846976 ≤ lo) (h2 : lo ≤ hi) (h3 : hi ≤ 1152921504606846976) :
    Calls Tryz.prog 7 #[.pointer (some ⟨sb, 0, none⟩), .int .i64 lo, .int .i64 hi] w (Drawn sb (m + 1) (IntIn lo hi) w) := by
  have H := Lib.hid hs; clear hs
  go_enter Tryz.func7, Tryz.ntmps7
  go_wp2_with (go_at_call 21; refine (next_any sb m _ _ H.out hm (by omega) (by omega)).mono ?_; rintro e w' ⟨v, rfl, ⟨r, hr1, hr2, rfl⟩, hs', hg⟩)
  go_ret
  exact ⟨_, rfl, ⟨lo + r, by omega, by omega, rfl⟩, hs', hg⟩

set_option maxHeartbeats 1000000 in
theorem flip_any (sb : Nat) (m n : Int) (w : World) (hs : Str w sb m) (hm : m ≤ 1152921504606846976) (hn : 1 ≤ n) (hn2 : n ≤ 4611686018427387904) :
    Calls Tryz.prog 13 #[.pointer (some ⟨sb, 0, none⟩), .int .i64 n] w (Drawn sb (m + 1) BoolAny w) := by
  have H := Lib.hid hs; clear hs
  go_enter Tryz.func13, Tryz.ntmps13
  go_wp2_with (go_at_call 21; refine (next_any sb m _ _ H.out hm (by omega) (by omega)).mono ?_; rintro e w' ⟨v, rfl, ⟨r, hr1, hr2, rfl⟩, hs', hg⟩)
  go_ret
  exact ⟨_, rfl, ⟨_, rfl⟩, hs', hg⟩

/-- One of the numbers of a list. -/
def IntOf (l : List Int) (v : Value) (_ : World) : Prop := ∃ r : Int, r ∈ l ∧ v = .int .i64 r

set_option maxHeartbeats 1000000 in
theorem pick_any (sb : Nat) (m : Int) (g n : Nat) (l : List Int) (w : World) (hs : Str w sb m) (hm : m ≤ 1152921504606846976) (hr : Blk w g 3 (l.map (Value.int .i64)).toArray) (hg : g ≠ sb) (hn : l.length = n) (h0 : 1 ≤ n) (h1 : n ≤ 4611686018427387904) :
    Calls Tryz.prog 8 #[.pointer (some ⟨sb, 0, none⟩), .slice (some ⟨g, 0, none⟩) n n] w (Drawn sb (m + 1) (IntOf l) w) := by
  have H := Lib.hid hs; clear hs
  have HR := Lib.hid hr; clear hr
  have HN := Lib.hid hn; clear hn
  go_enter Tryz.func8, Tryz.ntmps8
  go_wp2_with fail
  refine (next_any sb m _ _ H.out hm (by omega) (by omega)).mono ?_
  rintro e w' ⟨v, rfl, ⟨r, hr1, hr2, rfl⟩, hs', hg'⟩
  have hlt : r.toNat < l.length := by rw [HN.out]; omega
  have hc : w'.cell? ⟨g, r.toNat, none⟩ = some (.int .i64 l[r.toNat]) := by
    rw [(HR.out.grown hg' (by simpa using hg)).cell]; simp [hlt]
  have H' := Lib.hid hs'; clear hs'
  have HG := Lib.hid hg'; clear hg'
  have hmem : l[r.toNat] ∈ l := List.getElem_mem _
  go_wp2_with fail
  go_ret
  exact ⟨_, rfl, ⟨_, hmem, rfl⟩, H'.out, HG.out⟩
/-- The same where the numbers were just laid out for the call. -/
theorem pick_new (sb : Nat) (m : Int) (l : List Int) (W : World) (hs : Str W sb m) (hm : m ≤ 1152921504606846976) {g n : Nat} {cs : Array Value} (hg : W.heap.size = g) (hcs : cs = (l.map (Value.int .i64)).toArray) (hn : l.length = n) (h0 : 1 ≤ n) (h1 : n ≤ 4611686018427387904) :
    Calls Tryz.prog 8 #[.pointer (some ⟨sb, 0, none⟩), .slice (some ⟨g, 0, none⟩) n n] (W.alloc (.cells cs 3)) (Drawn sb (m + 1) (IntOf l) W) := by
  subst hcs; subst hg
  refine (pick_any sb m _ n l _ (hs.alloc _) hm (Blk.new _ _ _) (by have := hs.lt; omega) hn h0 h1).mono ?_
  rintro e w' ⟨v, rfl, hv, hs', hg'⟩
  exact ⟨v, rfl, hv, hs', gr_same (gr_alloc (gr_refl _ _) _) hg'⟩
end Go.Proofs.YtelpakmiciilgaaGreatDoor

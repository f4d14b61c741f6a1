/- Small words that many texts share: Go's order of strings, the first error of some places, moments. Conditions: none. -/
import Derived.Test.YtgogiljplnninaaGreatDoorKeyOk
import Derived.Test.YtgogiljplnninaaGreatDoorBun1
import Derived.Laws.Cover1
namespace Go.Proofs.YtgogiljplnninaaGreatDoor
open Go.RowKit

/-- Go's <= on strings. -/
def leS (a b : ByteArray) : Bool := Op.bytesLess a.toList b.toList || a.toList == b.toList
/-- The first of f 0, f 1, .. f (n - 1) that is not 0; 0: there is none. -/
def fstE (f : Nat → Int) : Nat → Int
  | 0 => 0
  | n + 1 => if fstE f n = 0 then f n else fstE f n
theorem fstE_zero {f : Nat → Int} {i : Nat} (h : fstE f i = 0) (h1 : f i = 0) : fstE f (i + 1) = 0 := by simp [fstE, h, h1]
theorem fstE_stop {f : Nat → Int} {i n : Nat} (h : fstE f i = 0) (h1 : f i ≠ 0) (hn : i < n) : fstE f n = f i := by
  induction n with
  | zero => omega
  | succ n ih =>
    by_cases e : i = n
    · subst e; simp [fstE, h]
    · have := ih (by omega)
      simp [fstE, this, h1]

theorem fst_ret {f : Nat → Int} {i n : Nat} {X v : Int} (h : fstE f i = 0) (e : f i = v) (hv : v ≠ 0) (hn : i < n) : (if fstE f n = 0 then X else fstE f n) = v := by
  rw [fstE_stop h (by rw [e]; exact hv) hn, e, if_neg hv]
def momB (n : Int) : Bool := inB n 0 345686399999
set_option maxHeartbeats 1000000 in
theorem isMomB_any (n : Int) (w : World) : Calls Tryz.prog 63 #[.int .i64 n] w (Same (.bool (momB n)) w) := by
  have H := Lib.hid (show momB n = (decide (0 ≤ n) && decide (n ≤ 345686399999)) from rfl)
  by_cases h1 : 0 ≤ n <;> by_cases h2 : n < 345686400000
  all_goals
    go_enter Tryz.func63, Tryz.ntmps63
    go_wp2
    go_ret
    exact ⟨by rw [H.out]; simp [h1]; omega, rfl⟩
set_option maxHeartbeats 1000000 in
theorem momentB_any (n : Int) (w : World) : Calls Tryz.prog 59 #[.int .i64 n] w (Same (.bool (momB n)) w) := by
  go_enter Tryz.func59, Tryz.ntmps59
  go_wp2_with (first
    | (go_at_call 60; refine (in_any _ _ _ _).mono ?_; rintro e w' ⟨rfl, rfl⟩)
    | fail)
  go_ret
  exact ⟨rfl, rfl⟩
theorem keyRefR_any (s : ByteArray) (w : World) (hs : s.size ≤ 1000000) : Calls Tryz.prog 38 #[.string s] w (RetV (.bool (keyOk (nb s))) w) := by
  refine (keyRef_any s w hs).mono ?_
  rintro e w' ⟨rfl, rfl⟩
  exact ⟨rfl, gr_refl _ _⟩
theorem eqS_nb (s t : ByteArray) : (s.toList == t.toList) = (nb s == nb t) := by
  rw [Bool.eq_iff_iff, beq_iff_eq, beq_iff_eq, ByteArray.toList_eq, ByteArray.toList_eq]
  exact ⟨fun h => by unfold nb; rw [h], fun h => by rw [nb_inj h]⟩
theorem fstE_ev {f : Nat → Int} {n : Nat} (h : fstE f n = 0) : ∀ i, i < n → f i = 0 := by
  induction n with
  | zero => intro i hi; omega
  | succ n ih =>
    intro i hi
    unfold fstE at h
    by_cases h0 : fstE f n = 0
    · rw [if_pos h0] at h
      rcases Nat.lt_succ_iff_lt_or_eq.1 hi with h1 | h1
      · exact ih h0 i h1
      · subst h1; exact h
    · rw [if_neg h0] at h; exact absurd h h0
end Go.Proofs.YtgogiljplnninaaGreatDoor

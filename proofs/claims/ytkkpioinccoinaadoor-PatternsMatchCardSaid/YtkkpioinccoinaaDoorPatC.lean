/- The order of patterns, in plain Lean. Conditions: none. -/
import Derived.Test.YtkkpioinccoinaaDoorRefPat3
namespace Go.Proofs.YtkkpioinccoinaaDoor

def cmpI (a b : Int) : Int := if a < b then -1 else if b < a then 1 else 0
def cmpL : List Int → List Int → Int
  | [], [] => 0
  | [], _ :: _ => -1
  | _ :: _, [] => 1
  | a :: l, b :: m => if cmpI a b = 0 then cmpL l m else cmpI a b
def cmpLL : List (List Int) → List (List Int) → Int
  | [], [] => 0
  | [], _ :: _ => -1
  | _ :: _, [] => 1
  | a :: l, b :: m => if cmpL a b = 0 then cmpLL l m else cmpL a b
theorem cmpI_zero {a b : Int} : cmpI a b = 0 ↔ a = b := by unfold cmpI; split <;> (try split) <;> omega
def ints (l : List Nat) : List Int := l.map (fun n : Nat => (n : Int))
/-- How special a pattern is at a place. -/
def rankL (x : List Nat × Nat) (k : Nat) : Nat × List Nat :=
  if k < x.1.length then ((setStr (x.1.getD k 0)).length, setStr (x.1.getD k 0)) else if k = x.1.length ∧ x.2 = 46 then (100, []) else if k = x.1.length ∧ x.2 = 33 then (102, []) else (101, [])
def rkC (x y : List Nat × Nat) (k : Nat) : Int := if cmpI (rankL x k).1 (rankL y k).1 = 0 then cmpL (ints (rankL x k).2) (ints (rankL y k).2) else cmpI (rankL x k).1 (rankL y k).1
def befF (x y : List Nat × Nat) : Nat → Nat → Int
  | 0, _ => 0
  | f + 1, k => if k ≤ max x.1.length y.1.length then (if rkC x y k = 0 then befF x y f (k + 1) else rkC x y k) else 0
def befL (x y : List Nat × Nat) : Int := befF x y (max x.1.length y.1.length + 1) 0
def tailN (t : Nat) : Nat := if t = 46 then 100 else if t = 33 then 102 else 101
def rowsL (x : List Nat × Nat) : List (List Int) := x.1.map (fun M => ((setStr M).length : Int) :: ints (setStr M)) ++ [[(tailN x.2 : Int)]]
theorem rowsL_len (x : List Nat × Nat) : (rowsL x).length = x.1.length + 1 := by simp [rowsL]
theorem rowsL_drop {x : List Nat × Nat} {k : Nat} (hk : k ≤ x.1.length) : (rowsL x).drop k = (((rankL x k).1 : Int) :: ints (rankL x k).2) :: (rowsL x).drop (k + 1) := by
  have hl : k < (rowsL x).length := by rw [rowsL_len]; omega
  rw [List.drop_eq_getElem_cons hl]
  congr 1
  have h : (rowsL x)[k]? = some (((rankL x k).1 : Int) :: ints (rankL x k).2) := by
    unfold rowsL rankL
    by_cases h : k < x.1.length
    · rw [List.getElem?_append_left (by simpa using h), List.getElem?_map, List.getElem?_eq_getElem h, if_pos h, List.getD_eq_getElem?_getD, List.getElem?_eq_getElem h]
      rfl
    · obtain rfl : k = x.1.length := by omega
      rw [List.getElem?_append_right (by simp), if_neg h]
      simp only [List.length_map, Nat.sub_self, List.getElem?_cons_zero]
      unfold tailN
      by_cases h1 : x.2 = 46
      · simp [h1, ints]
      · by_cases h2 : x.2 = 33
        · simp [h2, ints]
        · simp [h1, h2, ints]
  rw [List.getElem?_eq_getElem hl] at h
  injection h
theorem befF_rows {x y : List Nat × Nat} (f k : Nat) (hk : k ≤ x.1.length) (hk2 : k ≤ y.1.length) (hf : max x.1.length y.1.length + 1 ≤ f + k) : befF x y f k = cmpLL ((rowsL x).drop k) ((rowsL y).drop k) := by
  induction f generalizing k with
  | zero => omega
  | succ f ih =>
    rw [befF, if_pos (by omega), rowsL_drop hk, rowsL_drop hk2, cmpLL]
    have hc : cmpL (((rankL x k).1 : Int) :: ints (rankL x k).2) (((rankL y k).1 : Int) :: ints (rankL y k).2) = rkC x y k := by rw [cmpL]; rfl
    rw [hc]
    by_cases hz : rkC x y k = 0
    · rw [if_pos hz, if_pos hz]
      have hr : (rankL x k).1 = (rankL y k).1 := by
        unfold rkC at hz
        split at hz
        · rename_i h; have := cmpI_zero.1 h; omega
        · rename_i h; exact absurd hz h
      have hbx : ∀ z : List Nat × Nat, k ≤ z.1.length → (k < z.1.length → (rankL z k).1 ≤ 12) ∧ (¬ k < z.1.length → 100 ≤ (rankL z k).1) := by
        intro z _
        unfold rankL
        constructor
        · intro h; rw [if_pos h]; exact setStr_len _
        · intro h; rw [if_neg h]; split
          · simp
          · split <;> simp
      have h1 := hbx x hk
      have h2 := hbx y hk2
      by_cases hx : k < x.1.length
      · have hy : k < y.1.length := by
          rcases Nat.lt_or_ge k y.1.length with h | h
          · exact h
          · have := h1.1 hx; have := h2.2 (by omega); omega
        exact ih (k + 1) (by omega) (by omega) (by omega)
      · have hy : ¬ k < y.1.length := fun h => by have := h1.2 hx; have := h2.1 h; omega
        have e1 : (rowsL x).drop (k + 1) = [] := List.drop_eq_nil_of_le (by rw [rowsL_len]; omega)
        have e2 : (rowsL y).drop (k + 1) = [] := List.drop_eq_nil_of_le (by rw [rowsL_len]; omega)
        rw [e1, e2, cmpLL]
        cases f with
        | zero => rfl
        | succ f => rw [befF, if_neg (by omega)]
    · rw [if_neg hz, if_neg hz]
theorem befL_rows (x y : List Nat × Nat) : befL x y = cmpLL (rowsL x) (rowsL y) := by
  unfold befL
  rw [befF_rows _ 0 (by omega) (by omega) (by omega)]
  rfl
/-- What can be dialled. -/
def dialF (l : List Nat) : Int := if 1 ≤ l.length ∧ l.length ≤ 30 ∧ ∀ b ∈ l, b ∈ sgn then 0 else 3
end Go.Proofs.YtkkpioinccoinaaDoor

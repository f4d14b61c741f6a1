/- Slices of records that a call makes. Conditions: none. -/
import Derived.Test.YtdhaelpacffnlaaDoorFst
import Derived.Test.YtdhaelpacffnlaaDoorStream
namespace Go.Proofs.YtdhaelpacffnlaaDoor
open Go.RowKit

theorem flat_set1' {α : Type} {row : α → List Value} {k : Nat} (hrow : ∀ a, (row a).length = k) {l : List α} {i : Nat} {a a' : α} (hi : l[i]? = some a) {j : Nat} (hj : j < k) {u : Value} (hr : row a' = (row a).set j u) : (l.flatMap row).set (i * k + j) u = (l.set i a').flatMap row := by
  have h := flat_set (row := row) (k := k) hrow (by omega) hi (a' := a') (ys := [u]) j (by simp; omega) (by
    rw [hr, List.set_eq_take_append_cons_drop, if_pos (by rw [hrow]; exact hj)]; simp)
  have hil := (List.getElem?_eq_some_iff.1 hi).1
  have hle : (i + 1) * k ≤ l.length * k := Nat.mul_le_mul_right k hil
  rw [Nat.succ_mul] at hle
  rw [← h, List.set_eq_take_append_cons_drop, if_pos (by rw [flat_len hrow]; omega)]
  simp

theorem reads_at (w : World) (t : TypeId) (cs : List Value) (size : Nat) (h : cs.length = size) {g : Nat} (hg : w.heap.size = g) : Reads (w.alloc (.cells cs.toArray t)) g size (some ⟨g, 0, none⟩) 1 1 cs := by
  subst hg; exact Reads.one w t cs size h
/-- A slice of records of the call's own. -/
def OwnR {α : Type} (row : α → List Value) (k : Nat) (w : World) (lo : Nat) (e : TypeId) (A : Option Addr) (n c : Nat) (l : List α) : Prop := Own w lo e k A n c (l.flatMap row) ∧ l.length = n
section
variable {α : Type} {row : α → List Value} {k : Nat} {w w' : World} {lo lo' n c : Nat} {e : TypeId} {A : Option Addr} {l : List α}
theorem OwnR.recs (h : OwnR row k w lo e A n c l) : Recs row k w lo A n c l := ⟨h.1.reads, h.2⟩
theorem OwnR.nil (w : World) (lo : Nat) (e : TypeId) : OwnR row k w lo e none 0 0 [] := ⟨Own.nil _ _ _ _, rfl⟩
theorem OwnR.kept (h : OwnR row k w lo e A n c l) {r : Option Nat} (hg : w.grownBy w' r) (hne : ∀ g, r = some g → blkOf A ≠ some g) : OwnR row k w' lo e A n c l := ⟨h.1.kept hg hne, h.2⟩
theorem OwnR.low (h : OwnR row k w lo e A n c l) {r : Option Nat} (hg : w.grownBy w' r) (hr : ∀ g, r = some g → g < lo) : OwnR row k w' lo e A n c l :=
  h.kept hg (fun g e e' => by have := hr g e; have := (h.1.lt e').1; omega)
theorem OwnR.lower (h : OwnR row k w lo e A n c l) (hl : lo' ≤ lo) : OwnR row k w lo' e A n c l := ⟨h.1.lower hl, h.2⟩
theorem OwnR.alloc (h : OwnR row k w lo e A n c l) (o : Obj) : OwnR row k (w.alloc o) lo e A n c l := ⟨h.1.alloc o, h.2⟩
theorem OwnR.app {a : α} (h : OwnR row k w lo e A n c l) {A1 : Option Addr} {c1 n1 : Nat} (hn : n1 = n + 1) (h1 : Appended w lo e k A A1 n1 c1 (l.flatMap row ++ row a) w') : OwnR row k w' lo e A1 n1 c1 (l ++ [a]) := by
  subst hn
  refine ⟨?_, by simp [h.2]⟩
  rw [List.flatMap_append]
  simpa using h1.1
theorem OwnR.set1 {g i j p : Nat} {a a' : α} {u : Value} (hrow : ∀ a, (row a).length = k) (h : OwnR row k w lo e (some ⟨g, 0, none⟩) n c l) (hi : l[i]? = some a) (hj : j < k) (hr : row a' = (row a).set j u) (hp : p = i * k + j) : OwnR row k (w.setCell ⟨g, p, none⟩ u) lo e (some ⟨g, 0, none⟩) n c (l.set i a') := by
  subst hp
  refine ⟨?_, by simp [h.2]⟩
  rw [← flat_set1' hrow hi hj hr]
  exact h.1.stored _ u
end

end Go.Proofs.YtdhaelpacffnlaaDoor

/- The first place in a list at which something holds; a slice cut short. Conditions: none. -/
import Derived.Test.YtdhaelpacffnlaaDoorRec
namespace Go.Proofs.YtdhaelpacffnlaaDoor
open Go.RowKit

/-- The first place at which something holds, or -1. -/
def idxP {α : Type} (p : α → Bool) (l : List α) : Int := if l.any p then (l.findIdx p : Int) else -1
section
variable {α : Type} {p : α → Bool} {l : List α} {i : Nat} {z : α}
theorem allP_succ (h : (l.take i).all (fun x => !p x) = true) (hz : l[i]? = some z) (hp : p z = false) : (l.take (i + 1)).all (fun x => !p x) = true := by
  rw [take_snoc' hz, List.all_append, h]; simp [hp]
theorem idxP_none (h : l.all (fun x => !p x) = true) : idxP p l = -1 := by
  unfold idxP
  rw [if_neg]
  rw [List.any_eq_true]
  rintro ⟨x, hx, hp⟩
  have := List.all_eq_true.1 h x hx
  simp [hp] at this
theorem idxP_some (h : (l.take i).all (fun x => !p x) = true) (hz : l[i]? = some z) (hp : p z = true) : idxP p l = i := by
  unfold idxP
  rw [if_pos (List.any_eq_true.2 ⟨z, mem_of_get hz, hp⟩)]
  obtain ⟨hl, rfl⟩ := List.getElem?_eq_some_iff.1 hz
  congr 1
  rw [List.findIdx_eq hl]
  refine ⟨hp, fun j hj => ?_⟩
  have := List.all_eq_true.1 h l[j] (by
    rw [List.mem_iff_getElem?]
    exact ⟨j, by rw [List.getElem?_take, if_pos hj]; exact List.getElem?_eq_getElem (by omega)⟩)
  simpa using this
theorem idxP_any : decide (0 ≤ idxP p l) = l.any p := by
  unfold idxP
  cases h : l.any p
  · simp
  · simp only [if_true]; exact decide_eq_true (by omega)
end
section
variable {α : Type} {row : α → List Value} {k : Nat} {w : World} {lo n c : Nat} {A : Option Addr} {l : List α}
theorem Recs.take (hrow : ∀ a, (row a).length = k) (h : Recs row k w lo A n c l) {i : Nat} (hi : i ≤ n) : Recs row k w lo A i c (l.take i) := by
  have hl := h.2
  have hc := h.cap
  refine ⟨⟨?_, by omega, fun hp => ?_⟩, by rw [List.length_take]; omega⟩
  · rw [flat_len hrow, List.length_take]; congr 1; omega
  · obtain ⟨g, o, e, h1, h2, h3⟩ := h.1.2.2 (by omega)
    refine ⟨g, o, e, h1, h2, fun j u hu => h3 j u ?_⟩
    have : l.flatMap row = (l.take i).flatMap row ++ (l.drop i).flatMap row := by rw [← List.flatMap_append, List.take_append_drop]
    rw [this, List.getElem?_append_left]
    · exact hu
    · exact (List.getElem?_eq_some_iff.1 hu).1
end
end Go.Proofs.YtdhaelpacffnlaaDoor

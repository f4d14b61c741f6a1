/- Words for what the operations of a drawn region answer: slices laid for calls, numbers. Conditions: none. -/
import Derived.Test.YtdhaelpacffnlaaDoorGenSome
import Derived.Test.YtdhaelpacffnlaaDoorGenOdd
import Derived.Test.YtdhaelpacffnlaaDoorFloat
namespace Go.Proofs.YtdhaelpacffnlaaDoor
open Go.RowKit

/-- A slice just laid for a call. -/
def SlOf (sb : Nat) (t : TypeId) (n : Nat) (cs : Array Value) (v : Value) (w : World) : Prop := ∃ g, v = .slice (some ⟨g, 0, none⟩) n n ∧ sb < g ∧ Blk w g t cs
def IntV (v : Value) (_ : World) : Prop := ∃ z : Int, v = .int .i64 z
theorem SlOf.grown {sb n : Nat} {t : TypeId} {cs : Array Value} {v : Value} {w w' : World} (h : SlOf sb t n cs v w) (hg : w.grownBy w' (some sb)) : SlOf sb t n cs v w' := by
  obtain ⟨g, h1, h2, h3⟩ := h
  exact ⟨g, h1, h2, h3.grown hg (by simp; omega)⟩
/-- What is said of some operations' results. -/
def RSpec (specs : List (Nat × (Value → World → Prop))) (k : Nat) (v : Value) (w : World) : Prop := match specs.lookup k with | some D => D v w | none => True
theorem RSpec.grown {sb k : Nat} {v : Value} {w w' : World} {specs : List (Nat × (Value → World → Prop))} (hst : ∀ p ∈ specs, ∀ v w w', p.2 v w → w.grownBy w' (some sb) → p.2 v w') (h : RSpec specs k v w) (hg : w.grownBy w' (some sb)) : RSpec specs k v w' := by
  induction specs with
  | nil => trivial
  | cons p l ih =>
    obtain ⟨j, D⟩ := p
    unfold RSpec at h ⊢
    rw [List.lookup_cons] at h ⊢
    by_cases e : k = j
    · subst e
      simp only [beq_self_eq_true] at h ⊢
      exact hst _ (List.mem_cons_self ..) v w w' h hg
    · have e1 : (k == j) = false := by simpa using e
      rw [e1] at h ⊢
      exact ih (fun p hp => hst p (List.mem_cons_of_mem _ hp)) h
end Go.Proofs.YtdhaelpacffnlaaDoor

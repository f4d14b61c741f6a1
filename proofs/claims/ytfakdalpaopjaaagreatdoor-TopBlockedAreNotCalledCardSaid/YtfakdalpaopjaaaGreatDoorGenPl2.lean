/- Contract of the generator RightPlan. Conditions: none. -/
import Derived.Test.YtfakdalpaopjaaaGreatDoorBun10
import Derived.Test.YtfakdalpaopjaaaGreatDoorBun11
import Derived.Test.YtfakdalpaopjaaaGreatDoorGenHou1
import Derived.Deep.CutBlock
namespace Go.Proofs.YtfakdalpaopjaaaGreatDoor
open Go.RowKit

/-- Not more than two includes each. -/
theorem setIn {l : List CxV} {most i : Nat} {a : CxV} (h : ∀ b ∈ l, b.rn ≤ most ∧ b.en ≤ 2) (hi : l[i]? = some a) {iA : Option Addr} {en ic : Nat} {ins : List ByteArray} (he : en ≤ 2) :
    ∀ b ∈ l.set i { a with iA := iA, en := en, ic := ic, incs := ins }, b.rn ≤ most ∧ b.en ≤ 2 := fun b hb => by
  rcases mem_setH hb with rfl | ⟨j, _, hj⟩
  · exact ⟨(h a (mem_of_get hi)).1, he⟩
  · exact h b (mem_of_get hj)
end Go.Proofs.YtfakdalpaopjaaaGreatDoor

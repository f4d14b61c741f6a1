/- Words for what functions answer; the document's 'in'. Conditions: none. -/
import Derived.Test.YtdhaelpacffnlaaDoorStruct
import Derived.Test.YtdhaelpacffnlaaDoorRows
import Derived.WalkSpells
import Derived.BigGuardPart
import Derived.Deep.RegionHeld3
import Derived.Deep.RegionLaw
import Derived.Deep.DeepFit
import Derived.Deep.QuietTactic
import Derived.BigQuiet
import Derived.Outline
import Derived.IntWalk
import Derived.Deep.DeepCutAuto
namespace Go.Proofs.YtdhaelpacffnlaaDoor
open Go.RowKit

/-- A function that answers v and, of what was there, changes nothing. -/
def RetV (v : Value) (w : World) (e : Ending) (w' : World) : Prop := e = .returned v ∧ w.grownBy w' none
/-- A function that answers a value of which P holds and, of what was there, changes nothing. -/
def RetP (P : Value → World → Prop) (w : World) (e : Ending) (w' : World) : Prop := ∃ v, e = .returned v ∧ P v w' ∧ w.grownBy w' none
/-- A function that only computes. -/
def Same (v : Value) (w : World) (e : Ending) (w' : World) : Prop := e = .returned v ∧ w = w'

/-- Is a number from lo to hi? -/
def inB (n lo hi : Int) : Bool := decide (lo ≤ n) && decide (n ≤ hi)

set_option maxHeartbeats 1000000 in
theorem in_any (n lo hi : Int) (w : World) : Calls Tryd.prog 28 #[.int .i64 n, .int .i64 lo, .int .i64 hi] w (Same (.bool (inB n lo hi)) w) := by
  have hfin : inB n lo hi = (decide (lo ≤ n) && decide (n ≤ hi)) := rfl
  have H := Lib.hid hfin; clear hfin
  by_cases h1 : lo ≤ n <;> by_cases h2 : n ≤ hi
  all_goals
    go_enter Tryd.func28, Tryd.ntmps28
    go_wp2
    go_ret
    exact ⟨by rw [H.out]; simp [h1, h2], rfl⟩
end Go.Proofs.YtdhaelpacffnlaaDoor

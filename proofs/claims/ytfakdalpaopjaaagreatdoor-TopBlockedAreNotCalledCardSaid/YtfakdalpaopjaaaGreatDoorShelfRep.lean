/- Nothing of strings.Repeat is reached here. Conditions: none. -/
import Derived.Test.YtfakdalpaopjaaaGreatDoorProg
namespace Go.Proofs
end Go.Proofs

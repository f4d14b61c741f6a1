/- Nothing of slices.Sort is reached here. Conditions: none. -/
import Derived.Test.YtpildcnoghojpaaGreatDoorProg
namespace Go.Proofs
end Go.Proofs

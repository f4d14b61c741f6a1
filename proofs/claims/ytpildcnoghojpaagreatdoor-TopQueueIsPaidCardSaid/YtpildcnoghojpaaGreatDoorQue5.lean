/- Contracts of Able, AbleOf; queued is true. Conditions: none. -/
import Derived.Test.YtpildcnoghojpaaGreatDoorQue4
namespace Go.Proofs.YtpildcnoghojpaaGreatDoor
open Go.RowKit

end Go.Proofs.YtpildcnoghojpaaGreatDoor

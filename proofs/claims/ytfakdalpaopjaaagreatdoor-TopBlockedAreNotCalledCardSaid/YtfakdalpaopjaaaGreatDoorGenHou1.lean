/- Contract of the generator RightHours. Conditions: none. -/
import Derived.Test.YtfakdalpaopjaaaGreatDoorBun5
import Derived.Test.YtfakdalpaopjaaaGreatDoorHou1
import Derived.Test.YtfakdalpaopjaaaGreatDoorBun1
import Derived.Deep.CutBlock
namespace Go.Proofs.YtfakdalpaopjaaaGreatDoor
open Go.RowKit

end Go.Proofs.YtfakdalpaopjaaaGreatDoor

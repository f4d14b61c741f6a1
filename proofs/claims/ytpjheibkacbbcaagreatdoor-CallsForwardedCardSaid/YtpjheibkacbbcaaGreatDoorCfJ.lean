/- Closed facts of the row of CallsForwarded, each by itself. Conditions: none. -/
import Derived.Test.YtpjheibkacbbcaaGreatDoorBun1
import Derived.Test.YtpjheibkacbbcaaGreatDoorTie
import Derived.Test.YtpjheibkacbbcaaGreatDoorCards
import Derived.ProofKit
import Derived.Lay
import Derived.OpenShut
import Derived.Stop.Joined
import Derived.SevenTiedAt
namespace Go.Proofs.YtpjheibkacbbcaaGreatDoor
open Go.ChangeShapes Go.WideShapes Go.ChangeAt Go.RowKit

theorem jCf_inPlace : (Rows.callsForwardedRow.inPlace == Tryz.pinned.checked.prog.inPlace 5) = true := by kernel_rfl
theorem jCf_unfollowed : (Rows.callsForwardedRow.unfollowed == Tryz.pinned.checked.prog.unfollowed 5) = true := by kernel_rfl
theorem jCf_recurses : (Rows.callsForwardedRow.recurses == Tryz.pinned.checked.prog.recurses 5) = true := by kernel_rfl
theorem jCf_named : (Rows.callsForwardedRow.named == Tryz.pinned.checked.prog.varsNamed 5) = true := by kernel_rfl
end Go.Proofs.YtpjheibkacbbcaaGreatDoor

/- Contracts of the generators of forwards and of states. Conditions: none. -/
import Derived.Test.YtfakdalpaopjaaaGreatDoorCfS
import Derived.Test.YtfakdalpaopjaaaGreatDoorBun9
import Derived.Test.YtfakdalpaopjaaaGreatDoorBun5
import Derived.Test.YtfakdalpaopjaaaGreatDoorBun1
import Derived.Laws.EntriesVeiled
namespace Go.Proofs.YtfakdalpaopjaaaGreatDoor
open Go.RowKit

theorem Tryz.fwsT : ElemT Tryz.prog 50 97 4 56 (.agg #[.string ⟨#[]⟩, .int .i64 0, .string ⟨#[]⟩, .string ⟨#[]⟩]) := elemT_of Tryz.underlying50 (by kernel_rfl) rfl (by decide)
theorem OwnFw.low {w w' : World} {lo n c : Nat} {A : Option Addr} {l : List FwV} {r : Option Nat} (h : OwnFw w lo A n c l) (hg : w.grownBy w' r) (hr : ∀ g, r = some g → g < lo) : OwnFw w' lo A n c l := ⟨h.1.low hg hr, h.2⟩
end Go.Proofs.YtfakdalpaopjaaaGreatDoor

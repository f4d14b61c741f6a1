/-
  DERIVED. GIVEN WITH THE SEED: THE CARDS: each row of YtpeoijngmglbfaaGreatDoorRows.lean that lists a variable, with what it lists TIED to the program's text (the seventh form; the later family's looks); each row that meets fmt, with fmt's text TOLD by the authors' own Lean function (tested against real Go, not proved from fmt's source: count such statements apart). THE CARD IS WHAT COUNTS. Prove the row's statement (the work); the ties are given (YtpeoijngmglbfaaGreatDoorTie.lean); close each card by the builder's one call (the guide's Derived/Test/ToyasCard.lean, 'card_holds'). Laid BY PROGRAM, IN A SANDBOX (cutbox-door.mjs). By AI agents, Wed Nov 11 2026. No macro, syntax, notation, axiom, sorry.
-/
import Derived.Test.YtpeoijngmglbfaaGreatDoorRows
import GoSem.ClaimSeven
namespace Go.Proofs.YtpeoijngmglbfaaGreatDoor
namespace Rows

/-- THE TIED CARD OF 'flashlaw2.QueuesPlay'. -/
def queuesPlayCard : Claim7 := { stood := { row := queuesPlayRow, standIns := [], harness := (true, "002ba5281a3faf179396c2e9d124982c013d95a6834977abac0557a597cfbef5"), looks := false }, kinds := [], alts := [], laidByText := true, laidKinds := [.data, .pinned], laidTests := true, laidLooks := .later }
def QueuesPlayCardSaid : Prop := Claim7.holds Tryz.pinned (.plain (OpenSpec.ofChange queuesPlaySpec)) queuesPlayCard

/-- THE TIED CARD OF 'flashlaw2.AgentsEnough'. -/
def agentsEnoughCard : Claim7 := { stood := { row := agentsEnoughRow, standIns := [], harness := (true, "002ba5281a3faf179396c2e9d124982c013d95a6834977abac0557a597cfbef5"), looks := false }, kinds := [], alts := [], laidByText := true, laidKinds := [.data, .pinned], laidTests := true, laidLooks := .later }
def AgentsEnoughCardSaid : Prop := Claim7.holds Tryz.pinned (.plain (OpenSpec.ofChange agentsEnoughSpec)) agentsEnoughCard

/-- THE TIED CARD OF 'flashlaw2.CallersWait'. -/
def callersWaitCard : Claim7 := { stood := { row := callersWaitRow, standIns := [], harness := (true, "002ba5281a3faf179396c2e9d124982c013d95a6834977abac0557a597cfbef5"), looks := false }, kinds := [], alts := [], laidByText := true, laidKinds := [.data, .pinned], laidTests := true, laidLooks := .later }
def CallersWaitCardSaid : Prop := Claim7.holds Tryz.pinned (.plain (OpenSpec.ofChange callersWaitSpec)) callersWaitCard

/-- THE SECOND FORM's CARD OF 'flashlaw2.QueuesPlay'. -/
def queuesPlayUptoCard : Claim7 := { stood := { row := queuesPlayUptoRow, standIns := [], harness := (true, "002ba5281a3faf179396c2e9d124982c013d95a6834977abac0557a597cfbef5"), looks := false }, kinds := [], alts := [], laidByText := true, laidKinds := [.data, .pinned], laidTests := true, laidLooks := .later }
def QueuesPlayUptoCardSaid : Prop := Claim7.holds Tryz.pinned (.plain (OpenSpec.upto queuesPlaySpec)) queuesPlayUptoCard

/-- THE SECOND FORM's CARD OF 'flashlaw2.AgentsEnough'. -/
def agentsEnoughUptoCard : Claim7 := { stood := { row := agentsEnoughUptoRow, standIns := [], harness := (true, "002ba5281a3faf179396c2e9d124982c013d95a6834977abac0557a597cfbef5"), looks := false }, kinds := [], alts := [], laidByText := true, laidKinds := [.data, .pinned], laidTests := true, laidLooks := .later }
def AgentsEnoughUptoCardSaid : Prop := Claim7.holds Tryz.pinned (.plain (OpenSpec.upto agentsEnoughSpec)) agentsEnoughUptoCard

/-- THE SECOND FORM's CARD OF 'flashlaw2.CallersWait'. -/
def callersWaitUptoCard : Claim7 := { stood := { row := callersWaitUptoRow, standIns := [], harness := (true, "002ba5281a3faf179396c2e9d124982c013d95a6834977abac0557a597cfbef5"), looks := false }, kinds := [], alts := [], laidByText := true, laidKinds := [.data, .pinned], laidTests := true, laidLooks := .later }
def CallersWaitUptoCardSaid : Prop := Claim7.holds Tryz.pinned (.plain (OpenSpec.upto callersWaitSpec)) callersWaitUptoCard
end Rows
end Go.Proofs.YtpeoijngmglbfaaGreatDoor

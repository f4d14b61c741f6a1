/-
  DERIVED. GIVEN WITH THE SEED: THE CARDS: each row of YtofncndjcegpdaaGreatDoorRows.lean that lists a variable, with what it lists TIED to the program's text (the seventh form; the later family's looks); each row that meets fmt, with fmt's text TOLD by the authors' own Lean function (tested against real Go, not proved from fmt's source: count such statements apart). THE CARD IS WHAT COUNTS. Prove the row's statement (the work); the ties are given (YtofncndjcegpdaaGreatDoorTie.lean); close each card by the builder's one call (the guide's Derived/Test/ToyasCard.lean, 'card_holds'). Laid BY PROGRAM, IN A SANDBOX (cutbox-door.mjs). By AI agents, Wed Nov 11 2026. No macro, syntax, notation, axiom, sorry.
-/
import Derived.Test.YtofncndjcegpdaaGreatDoorRows
import GoSem.ClaimSeven
namespace Go.Proofs.YtofncndjcegpdaaGreatDoor
namespace Rows

/-- THE TIED CARD OF 'flashlaw2.QueuesServe'. -/
def queuesServeCard : Claim7 := { stood := { row := queuesServeRow, standIns := [], harness := (true, "9a9ab32035c77feb9ec69e01285b44e0b161d78af1492431328d1ea60fd7bfb5"), looks := false }, kinds := [], alts := [], laidByText := true, laidKinds := [.data, .pinned], laidTests := true, laidLooks := .later }
def QueuesServeCardSaid : Prop := Claim7.holds Tryz.pinned (.plain (OpenSpec.ofChange queuesServeSpec)) queuesServeCard

/-- THE TIED CARD OF 'flashlaw2.QueuesMeasure'. -/
def queuesMeasureCard : Claim7 := { stood := { row := queuesMeasureRow, standIns := [], harness := (true, "9a9ab32035c77feb9ec69e01285b44e0b161d78af1492431328d1ea60fd7bfb5"), looks := false }, kinds := [], alts := [], laidByText := true, laidKinds := [.data, .pinned], laidTests := true, laidLooks := .later }
def QueuesMeasureCardSaid : Prop := Claim7.holds Tryz.pinned (.plain (OpenSpec.ofChange queuesMeasureSpec)) queuesMeasureCard

/-- THE TIED CARD OF 'flashlaw2.QueuesPlay'. -/
def queuesPlayCard : Claim7 := { stood := { row := queuesPlayRow, standIns := [], harness := (true, "9a9ab32035c77feb9ec69e01285b44e0b161d78af1492431328d1ea60fd7bfb5"), looks := false }, kinds := [], alts := [], laidByText := true, laidKinds := [.data, .pinned], laidTests := true, laidLooks := .later }
def QueuesPlayCardSaid : Prop := Claim7.holds Tryz.pinned (.plain (OpenSpec.ofChange queuesPlaySpec)) queuesPlayCard

/-- THE TIED CARD OF 'flashlaw2.AgentsEnough'. -/
def agentsEnoughCard : Claim7 := { stood := { row := agentsEnoughRow, standIns := [], harness := (true, "9a9ab32035c77feb9ec69e01285b44e0b161d78af1492431328d1ea60fd7bfb5"), looks := false }, kinds := [], alts := [], laidByText := true, laidKinds := [.data, .pinned], laidTests := true, laidLooks := .later }
def AgentsEnoughCardSaid : Prop := Claim7.holds Tryz.pinned (.plain (OpenSpec.ofChange agentsEnoughSpec)) agentsEnoughCard

/-- THE TIED CARD OF 'flashlaw2.CallersWait'. -/
def callersWaitCard : Claim7 := { stood := { row := callersWaitRow, standIns := [], harness := (true, "9a9ab32035c77feb9ec69e01285b44e0b161d78af1492431328d1ea60fd7bfb5"), looks := false }, kinds := [], alts := [], laidByText := true, laidKinds := [.data, .pinned], laidTests := true, laidLooks := .later }
def CallersWaitCardSaid : Prop := Claim7.holds Tryz.pinned (.plain (OpenSpec.ofChange callersWaitSpec)) callersWaitCard

/-- THE SECOND FORM's CARD OF 'flashlaw2.QueuesServe'. -/
def queuesServeUptoCard : Claim7 := { stood := { row := queuesServeUptoRow, standIns := [], harness := (true, "9a9ab32035c77feb9ec69e01285b44e0b161d78af1492431328d1ea60fd7bfb5"), looks := false }, kinds := [], alts := [], laidByText := true, laidKinds := [.data, .pinned], laidTests := true, laidLooks := .later }
def QueuesServeUptoCardSaid : Prop := Claim7.holds Tryz.pinned (.plain (OpenSpec.upto queuesServeSpec)) queuesServeUptoCard

/-- THE SECOND FORM's CARD OF 'flashlaw2.QueuesMeasure'. -/
def queuesMeasureUptoCard : Claim7 := { stood := { row := queuesMeasureUptoRow, standIns := [], harness := (true, "9a9ab32035c77feb9ec69e01285b44e0b161d78af1492431328d1ea60fd7bfb5"), looks := false }, kinds := [], alts := [], laidByText := true, laidKinds := [.data, .pinned], laidTests := true, laidLooks := .later }
def QueuesMeasureUptoCardSaid : Prop := Claim7.holds Tryz.pinned (.plain (OpenSpec.upto queuesMeasureSpec)) queuesMeasureUptoCard

/-- THE SECOND FORM's CARD OF 'flashlaw2.QueuesPlay'. -/
def queuesPlayUptoCard : Claim7 := { stood := { row := queuesPlayUptoRow, standIns := [], harness := (true, "9a9ab32035c77feb9ec69e01285b44e0b161d78af1492431328d1ea60fd7bfb5"), looks := false }, kinds := [], alts := [], laidByText := true, laidKinds := [.data, .pinned], laidTests := true, laidLooks := .later }
def QueuesPlayUptoCardSaid : Prop := Claim7.holds Tryz.pinned (.plain (OpenSpec.upto queuesPlaySpec)) queuesPlayUptoCard

/-- THE SECOND FORM's CARD OF 'flashlaw2.AgentsEnough'. -/
def agentsEnoughUptoCard : Claim7 := { stood := { row := agentsEnoughUptoRow, standIns := [], harness := (true, "9a9ab32035c77feb9ec69e01285b44e0b161d78af1492431328d1ea60fd7bfb5"), looks := false }, kinds := [], alts := [], laidByText := true, laidKinds := [.data, .pinned], laidTests := true, laidLooks := .later }
def AgentsEnoughUptoCardSaid : Prop := Claim7.holds Tryz.pinned (.plain (OpenSpec.upto agentsEnoughSpec)) agentsEnoughUptoCard

/-- THE SECOND FORM's CARD OF 'flashlaw2.CallersWait'. -/
def callersWaitUptoCard : Claim7 := { stood := { row := callersWaitUptoRow, standIns := [], harness := (true, "9a9ab32035c77feb9ec69e01285b44e0b161d78af1492431328d1ea60fd7bfb5"), looks := false }, kinds := [], alts := [], laidByText := true, laidKinds := [.data, .pinned], laidTests := true, laidLooks := .later }
def CallersWaitUptoCardSaid : Prop := Claim7.holds Tryz.pinned (.plain (OpenSpec.upto callersWaitSpec)) callersWaitUptoCard
end Rows
end Go.Proofs.YtofncndjcegpdaaGreatDoor

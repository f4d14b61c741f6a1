/-
  DERIVED. GIVEN WITH THE SEED: THE CARDS: each row of YtnmodobkennklaaGreatDoorRows.lean that lists a variable, with what it lists TIED to the program's text (the seventh form; the later family's looks); each row that meets fmt, with fmt's text TOLD by the authors' own Lean function (tested against real Go, not proved from fmt's source: count such statements apart). THE CARD IS WHAT COUNTS. Prove the row's statement (the work); the ties are given (YtnmodobkennklaaGreatDoorTie.lean); close each card by the builder's one call (the guide's Derived/Test/ToyasCard.lean, 'card_holds'). Laid BY PROGRAM, IN A SANDBOX (cutbox-door.mjs). By AI agents, Wed Nov 11 2026. No macro, syntax, notation, axiom, sorry.
-/
import Derived.Test.YtnmodobkennklaaGreatDoorRows
import GoSem.ClaimSeven
namespace Go.Proofs.YtnmodobkennklaaGreatDoor
namespace Rows

/-- THE TIED CARD OF 'flashtop.TopQueueOpens'. -/
def topQueueOpensCard : Claim7 := { stood := { row := topQueueOpensRow, standIns := [], harness := (true, "db90d22d976bfc65dee73d85a0db523ac54e3b15e534c0dc0fb6f701aaafb1ee"), looks := true }, kinds := [], alts := [], laidByText := true, laidKinds := [.data, .data, .pinned], laidTests := true, laidLooks := .later }
def TopQueueOpensCardSaid : Prop := Claim7.holds Tryz.pinned (.plain (OpenSpec.ofChange topQueueOpensSpec)) topQueueOpensCard

/-- THE TIED CARD OF 'flashtop.TopQueueIsPaid'. -/
def topQueueIsPaidCard : Claim7 := { stood := { row := topQueueIsPaidRow, standIns := [], harness := (true, "db90d22d976bfc65dee73d85a0db523ac54e3b15e534c0dc0fb6f701aaafb1ee"), looks := true }, kinds := [], alts := [], laidByText := true, laidKinds := [.data, .data, .pinned], laidTests := true, laidLooks := .later }
def TopQueueIsPaidCardSaid : Prop := Claim7.holds Tryz.pinned (.plain (OpenSpec.ofChange topQueueIsPaidSpec)) topQueueIsPaidCard

/-- THE TIED CARD OF 'flashlaw2.SeatTexts'. -/
def seatTextsCard : Claim7 := { stood := { row := seatTextsRow, standIns := [], harness := (true, "db90d22d976bfc65dee73d85a0db523ac54e3b15e534c0dc0fb6f701aaafb1ee"), looks := true }, kinds := [], alts := [], laidByText := true, laidKinds := [.data, .data, .data, .data, .sentinel, .sentinel, .pinned], laidTests := true, laidLooks := .later }
def SeatTextsCardSaid : Prop := Claim7.holds Tryz.pinned (.plain (OpenSpec.ofChange seatTextsSpec)) seatTextsCard

/-- THE SECOND FORM's CARD OF 'flashtop.TopQueueOpens'. -/
def topQueueOpensUptoCard : Claim7 := { stood := { row := topQueueOpensUptoRow, standIns := [], harness := (true, "db90d22d976bfc65dee73d85a0db523ac54e3b15e534c0dc0fb6f701aaafb1ee"), looks := true }, kinds := [], alts := [], laidByText := true, laidKinds := [.data, .data, .pinned], laidTests := true, laidLooks := .later }
def TopQueueOpensUptoCardSaid : Prop := Claim7.holds Tryz.pinned (.plain (OpenSpec.upto topQueueOpensSpec)) topQueueOpensUptoCard

/-- THE SECOND FORM's CARD OF 'flashtop.TopQueueIsPaid'. -/
def topQueueIsPaidUptoCard : Claim7 := { stood := { row := topQueueIsPaidUptoRow, standIns := [], harness := (true, "db90d22d976bfc65dee73d85a0db523ac54e3b15e534c0dc0fb6f701aaafb1ee"), looks := true }, kinds := [], alts := [], laidByText := true, laidKinds := [.data, .data, .pinned], laidTests := true, laidLooks := .later }
def TopQueueIsPaidUptoCardSaid : Prop := Claim7.holds Tryz.pinned (.plain (OpenSpec.upto topQueueIsPaidSpec)) topQueueIsPaidUptoCard

/-- THE SECOND FORM's CARD OF 'flashlaw2.SeatTexts'. -/
def seatTextsUptoCard : Claim7 := { stood := { row := seatTextsUptoRow, standIns := [], harness := (true, "db90d22d976bfc65dee73d85a0db523ac54e3b15e534c0dc0fb6f701aaafb1ee"), looks := true }, kinds := [], alts := [], laidByText := true, laidKinds := [.data, .data, .data, .data, .sentinel, .sentinel, .pinned], laidTests := true, laidLooks := .later }
def SeatTextsUptoCardSaid : Prop := Claim7.holds Tryz.pinned (.plain (OpenSpec.upto seatTextsSpec)) seatTextsUptoCard
end Rows
end Go.Proofs.YtnmodobkennklaaGreatDoor

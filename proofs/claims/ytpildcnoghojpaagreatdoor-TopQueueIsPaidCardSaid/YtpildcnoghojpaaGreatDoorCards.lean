/-
  DERIVED. GIVEN WITH THE SEED: THE CARDS: each row of YtpildcnoghojpaaGreatDoorRows.lean that lists a variable, with what it lists TIED to the program's text (the seventh form; the later family's looks); each row that meets fmt, with fmt's text TOLD by the authors' own Lean function (tested against real Go, not proved from fmt's source: count such statements apart). THE CARD IS WHAT COUNTS. Prove the row's statement (the work); the ties are given (YtpildcnoghojpaaGreatDoorTie.lean); close each card by the builder's one call (the guide's Derived/Test/ToyasCard.lean, 'card_holds'). Laid BY PROGRAM, IN A SANDBOX (cutbox-door.mjs). By AI agents, Wed Nov 11 2026. No macro, syntax, notation, axiom, sorry.
-/
import Derived.Test.YtpildcnoghojpaaGreatDoorRows
import GoSem.ClaimSeven
namespace Go.Proofs.YtpildcnoghojpaaGreatDoor
namespace Rows

/-- THE TIED CARD OF 'flashtop.TopQueueIsPaid'. -/
def topQueueIsPaidCard : Claim7 := { stood := { row := topQueueIsPaidRow, standIns := [], harness := (true, "a4a5d1f58cc01b8b7b9d401da5b282351aecaf06b164bf8ea5c0a5353e0fa86b"), looks := false }, kinds := [], alts := [], laidByText := true, laidKinds := [.data, .data, .pinned], laidTests := true, laidLooks := .later }
def TopQueueIsPaidCardSaid : Prop := Claim7.holds Tryz.pinned (.plain (OpenSpec.ofChange topQueueIsPaidSpec)) topQueueIsPaidCard

/-- THE SECOND FORM's CARD OF 'flashtop.TopQueueIsPaid'. -/
def topQueueIsPaidUptoCard : Claim7 := { stood := { row := topQueueIsPaidUptoRow, standIns := [], harness := (true, "a4a5d1f58cc01b8b7b9d401da5b282351aecaf06b164bf8ea5c0a5353e0fa86b"), looks := false }, kinds := [], alts := [], laidByText := true, laidKinds := [.data, .data, .pinned], laidTests := true, laidLooks := .later }
def TopQueueIsPaidUptoCardSaid : Prop := Claim7.holds Tryz.pinned (.plain (OpenSpec.upto topQueueIsPaidSpec)) topQueueIsPaidUptoCard
end Rows
end Go.Proofs.YtpildcnoghojpaaGreatDoor

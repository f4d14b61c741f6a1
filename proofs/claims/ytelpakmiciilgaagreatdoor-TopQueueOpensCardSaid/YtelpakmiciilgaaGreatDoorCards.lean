/-
  DERIVED. GIVEN WITH THE SEED: THE CARDS: each row of YtelpakmiciilgaaGreatDoorRows.lean that lists a variable, with what it lists TIED to the program's text (the seventh form; the later family's looks); each row that meets fmt, with fmt's text TOLD by the authors' own Lean function (tested against real Go, not proved from fmt's source: count such statements apart). THE CARD IS WHAT COUNTS. Prove the row's statement (the work); the ties are given (YtelpakmiciilgaaGreatDoorTie.lean); close each card by the builder's one call (the guide's Derived/Test/ToyasCard.lean, 'card_holds'). Laid BY PROGRAM, IN A SANDBOX (cutbox-door.mjs). By AI agents, Wed Nov 11 2026. No macro, syntax, notation, axiom, sorry.
-/
import Derived.Test.YtelpakmiciilgaaGreatDoorRows
import GoSem.ClaimSeven
namespace Go.Proofs.YtelpakmiciilgaaGreatDoor
namespace Rows

/-- THE TIED CARD OF 'flashtop.TopQueueOpens'. -/
def topQueueOpensCard : Claim7 := { stood := { row := topQueueOpensRow, standIns := [], harness := (true, "a0c0c73012547e8c8c5009f8eb7bd24c5e6d621d7f65b853ac779100087f77cc"), looks := false }, kinds := [], alts := [], laidByText := true, laidKinds := [.data, .data, .pinned], laidTests := true, laidLooks := .later }
def TopQueueOpensCardSaid : Prop := Claim7.holds Tryz.pinned (.plain (OpenSpec.ofChange topQueueOpensSpec)) topQueueOpensCard

/-- THE SECOND FORM's CARD OF 'flashtop.TopQueueOpens'. -/
def topQueueOpensUptoCard : Claim7 := { stood := { row := topQueueOpensUptoRow, standIns := [], harness := (true, "a0c0c73012547e8c8c5009f8eb7bd24c5e6d621d7f65b853ac779100087f77cc"), looks := false }, kinds := [], alts := [], laidByText := true, laidKinds := [.data, .data, .pinned], laidTests := true, laidLooks := .later }
def TopQueueOpensUptoCardSaid : Prop := Claim7.holds Tryz.pinned (.plain (OpenSpec.upto topQueueOpensSpec)) topQueueOpensUptoCard
end Rows
end Go.Proofs.YtelpakmiciilgaaGreatDoor

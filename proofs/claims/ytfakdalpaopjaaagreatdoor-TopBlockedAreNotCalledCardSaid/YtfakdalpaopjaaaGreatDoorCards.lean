/-
  DERIVED. GIVEN WITH THE SEED: THE CARDS: each row of YtfakdalpaopjaaaGreatDoorRows.lean that lists a variable, with what it lists TIED to the program's text (the seventh form; the later family's looks); each row that meets fmt, with fmt's text TOLD by the authors' own Lean function (tested against real Go, not proved from fmt's source: count such statements apart). THE CARD IS WHAT COUNTS. Prove the row's statement (the work); the ties are given (YtfakdalpaopjaaaGreatDoorTie.lean); close each card by the builder's one call (the guide's Derived/Test/ToyasCard.lean, 'card_holds'). Laid BY PROGRAM, IN A SANDBOX (cutbox-door.mjs). By AI agents, Wed Nov 11 2026. No macro, syntax, notation, axiom, sorry.
-/
import Derived.Test.YtfakdalpaopjaaaGreatDoorRows
import GoSem.ClaimSeven
namespace Go.Proofs.YtfakdalpaopjaaaGreatDoor
namespace Rows

/-- THE TIED CARD OF 'flashtop.TopBlockedAreNotCalled'. -/
def topBlockedAreNotCalledCard : Claim7 := { stood := { row := topBlockedAreNotCalledRow, standIns := [], harness := (true, "ed056338be4f73fd88aaa5a0237caf70cf1878e96876fbd83c6b632a25876604"), looks := false }, kinds := [], alts := [], laidByText := true, laidKinds := [.data, .data, .pinned], laidTests := true, laidLooks := .later }
def TopBlockedAreNotCalledCardSaid : Prop := Claim7.holds Tryz.pinned (.plain (OpenSpec.ofChange topBlockedAreNotCalledSpec)) topBlockedAreNotCalledCard

/-- THE SECOND FORM's CARD OF 'flashtop.TopBlockedAreNotCalled'. -/
def topBlockedAreNotCalledUptoCard : Claim7 := { stood := { row := topBlockedAreNotCalledUptoRow, standIns := [], harness := (true, "ed056338be4f73fd88aaa5a0237caf70cf1878e96876fbd83c6b632a25876604"), looks := false }, kinds := [], alts := [], laidByText := true, laidKinds := [.data, .data, .pinned], laidTests := true, laidLooks := .later }
def TopBlockedAreNotCalledUptoCardSaid : Prop := Claim7.holds Tryz.pinned (.plain (OpenSpec.upto topBlockedAreNotCalledSpec)) topBlockedAreNotCalledUptoCard
end Rows
end Go.Proofs.YtfakdalpaopjaaaGreatDoor

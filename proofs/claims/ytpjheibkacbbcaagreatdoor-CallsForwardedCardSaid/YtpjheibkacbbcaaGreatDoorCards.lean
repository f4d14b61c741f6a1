/-
  DERIVED. GIVEN WITH THE SEED: THE CARDS: each row of YtpjheibkacbbcaaGreatDoorRows.lean that lists a variable, with what it lists TIED to the program's text (the seventh form; the later family's looks); each row that meets fmt, with fmt's text TOLD by the authors' own Lean function (tested against real Go, not proved from fmt's source: count such statements apart). THE CARD IS WHAT COUNTS. Prove the row's statement (the work); the ties are given (YtpjheibkacbbcaaGreatDoorTie.lean); close each card by the builder's one call (the guide's Derived/Test/ToyasCard.lean, 'card_holds'). Laid BY PROGRAM, IN A SANDBOX (cutbox-door.mjs). By AI agents, Wed Nov 11 2026. No macro, syntax, notation, axiom, sorry.
-/
import Derived.Test.YtpjheibkacbbcaaGreatDoorRows
import GoSem.ClaimSeven
namespace Go.Proofs.YtpjheibkacbbcaaGreatDoor
namespace Rows

/-- THE TIED CARD OF 'flashtop.TopBlockedAreNotCalled'. -/
def topBlockedAreNotCalledCard : Claim7 := { stood := { row := topBlockedAreNotCalledRow, standIns := [], harness := (true, "ed7f57323b3851cad739ad111fc7cf04107c40eb60663a8945a35c49622f9bb4"), looks := true }, kinds := [], alts := [], laidByText := true, laidKinds := [.data, .data, .pinned], laidTests := true, laidLooks := .later }
def TopBlockedAreNotCalledCardSaid : Prop := Claim7.holds Tryz.pinned (.plain (OpenSpec.ofChange topBlockedAreNotCalledSpec)) topBlockedAreNotCalledCard

/-- THE TIED CARD OF 'flashlaw2.PlanTexts'. -/
def planTextsCard : Claim7 := { stood := { row := planTextsRow, standIns := [], harness := (true, "ed7f57323b3851cad739ad111fc7cf04107c40eb60663a8945a35c49622f9bb4"), looks := true }, kinds := [], alts := [], laidByText := true, laidKinds := [.data, .data, .data, .data, .sentinel, .sentinel, .pinned], laidTests := true, laidLooks := .later }
def PlanTextsCardSaid : Prop := Claim7.holds Tryz.pinned (.plain (OpenSpec.ofChange planTextsSpec)) planTextsCard

/-- THE TIED CARD OF 'flashlaw2.CallsForwarded'. -/
def callsForwardedCard : Claim7 := { stood := { row := callsForwardedRow, standIns := [], harness := (true, "ed7f57323b3851cad739ad111fc7cf04107c40eb60663a8945a35c49622f9bb4"), looks := true }, kinds := [], alts := [], laidByText := true, laidKinds := [.data, .data, .data, .data, .pinned], laidTests := true, laidLooks := .later }
def CallsForwardedCardSaid : Prop := Claim7.holds Tryz.pinned (.plain (OpenSpec.ofChange callsForwardedSpec)) callsForwardedCard

/-- THE SECOND FORM's CARD OF 'flashtop.TopBlockedAreNotCalled'. -/
def topBlockedAreNotCalledUptoCard : Claim7 := { stood := { row := topBlockedAreNotCalledUptoRow, standIns := [], harness := (true, "ed7f57323b3851cad739ad111fc7cf04107c40eb60663a8945a35c49622f9bb4"), looks := true }, kinds := [], alts := [], laidByText := true, laidKinds := [.data, .data, .pinned], laidTests := true, laidLooks := .later }
def TopBlockedAreNotCalledUptoCardSaid : Prop := Claim7.holds Tryz.pinned (.plain (OpenSpec.upto topBlockedAreNotCalledSpec)) topBlockedAreNotCalledUptoCard

/-- THE SECOND FORM's CARD OF 'flashlaw2.PlanTexts'. -/
def planTextsUptoCard : Claim7 := { stood := { row := planTextsUptoRow, standIns := [], harness := (true, "ed7f57323b3851cad739ad111fc7cf04107c40eb60663a8945a35c49622f9bb4"), looks := true }, kinds := [], alts := [], laidByText := true, laidKinds := [.data, .data, .data, .data, .sentinel, .sentinel, .pinned], laidTests := true, laidLooks := .later }
def PlanTextsUptoCardSaid : Prop := Claim7.holds Tryz.pinned (.plain (OpenSpec.upto planTextsSpec)) planTextsUptoCard

/-- THE SECOND FORM's CARD OF 'flashlaw2.CallsForwarded'. -/
def callsForwardedUptoCard : Claim7 := { stood := { row := callsForwardedUptoRow, standIns := [], harness := (true, "ed7f57323b3851cad739ad111fc7cf04107c40eb60663a8945a35c49622f9bb4"), looks := true }, kinds := [], alts := [], laidByText := true, laidKinds := [.data, .data, .data, .data, .pinned], laidTests := true, laidLooks := .later }
def CallsForwardedUptoCardSaid : Prop := Claim7.holds Tryz.pinned (.plain (OpenSpec.upto callsForwardedSpec)) callsForwardedUptoCard
end Rows
end Go.Proofs.YtpjheibkacbbcaaGreatDoor

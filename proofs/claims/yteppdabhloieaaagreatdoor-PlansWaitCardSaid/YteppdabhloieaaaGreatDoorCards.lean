/-
  DERIVED. GIVEN WITH THE SEED: THE CARDS: each row of YteppdabhloieaaaGreatDoorRows.lean that lists a variable, with what it lists TIED to the program's text (the seventh form; the later family's looks); each row that meets fmt, with fmt's text TOLD by the authors' own Lean function (tested against real Go, not proved from fmt's source: count such statements apart). THE CARD IS WHAT COUNTS. Prove the row's statement (the work); the ties are given (YteppdabhloieaaaGreatDoorTie.lean); close each card by the builder's one call (the guide's Derived/Test/ToyasCard.lean, 'card_holds'). Laid BY PROGRAM, IN A SANDBOX (cutbox-door.mjs). By AI agents, Wed Nov 11 2026. No macro, syntax, notation, axiom, sorry.
-/
import Derived.Test.YteppdabhloieaaaGreatDoorRows
import GoSem.ClaimSeven
namespace Go.Proofs.YteppdabhloieaaaGreatDoor
namespace Rows

/-- THE TIED CARD OF 'flashlaw2.PlansWait'. -/
def plansWaitCard : Claim7 := { stood := { row := plansWaitRow, standIns := [], harness := (true, "eaceb5b9cd3b38081aee58096bc0a8379afdf480d418fee31588e6832045f991"), looks := false }, kinds := [], alts := [], laidByText := true, laidKinds := [.data, .data, .pinned], laidTests := true, laidLooks := .later }
def PlansWaitCardSaid : Prop := Claim7.holds Tryz.pinned (.plain (OpenSpec.ofChange plansWaitSpec)) plansWaitCard

/-- THE TIED CARD OF 'flashlaw2.CallsForwarded'. -/
def callsForwardedCard : Claim7 := { stood := { row := callsForwardedRow, standIns := [], harness := (true, "eaceb5b9cd3b38081aee58096bc0a8379afdf480d418fee31588e6832045f991"), looks := false }, kinds := [], alts := [], laidByText := true, laidKinds := [.data, .data, .data, .data, .pinned], laidTests := true, laidLooks := .later }
def CallsForwardedCardSaid : Prop := Claim7.holds Tryz.pinned (.plain (OpenSpec.ofChange callsForwardedSpec)) callsForwardedCard

/-- THE SECOND FORM's CARD OF 'flashlaw2.PlansWait'. -/
def plansWaitUptoCard : Claim7 := { stood := { row := plansWaitUptoRow, standIns := [], harness := (true, "eaceb5b9cd3b38081aee58096bc0a8379afdf480d418fee31588e6832045f991"), looks := false }, kinds := [], alts := [], laidByText := true, laidKinds := [.data, .data, .pinned], laidTests := true, laidLooks := .later }
def PlansWaitUptoCardSaid : Prop := Claim7.holds Tryz.pinned (.plain (OpenSpec.upto plansWaitSpec)) plansWaitUptoCard

/-- THE SECOND FORM's CARD OF 'flashlaw2.CallsForwarded'. -/
def callsForwardedUptoCard : Claim7 := { stood := { row := callsForwardedUptoRow, standIns := [], harness := (true, "eaceb5b9cd3b38081aee58096bc0a8379afdf480d418fee31588e6832045f991"), looks := false }, kinds := [], alts := [], laidByText := true, laidKinds := [.data, .data, .data, .data, .pinned], laidTests := true, laidLooks := .later }
def CallsForwardedUptoCardSaid : Prop := Claim7.holds Tryz.pinned (.plain (OpenSpec.upto callsForwardedSpec)) callsForwardedUptoCard
end Rows
end Go.Proofs.YteppdabhloieaaaGreatDoor

/-
  DERIVED. GIVEN WITH THE SEED: THE CARDS: each row of YtddabpcdjgmooaaDoorRows.lean that lists a variable, with what it lists TIED to the program's text (the seventh form; the later family's looks); each row that meets fmt, with fmt's text TOLD by the authors' own Lean function (tested against real Go, not proved from fmt's source: count such statements apart). THE CARD IS WHAT COUNTS. Prove the row's statement (the work); the ties are given (YtddabpcdjgmooaaDoorTie.lean); close each card by the builder's one call (the guide's Derived/Test/ToyasCard.lean, 'card_holds'). Laid BY PROGRAM, IN A SANDBOX (cutbox-door.mjs). By AI agents, Wed Nov 11 2026. No macro, syntax, notation, axiom, sorry.
-/
import Derived.Test.YtddabpcdjgmooaaDoorRows
import GoSem.ClaimSeven
namespace Go.Proofs.YtddabpcdjgmooaaDoor
namespace Rows

/-- THE TIED CARD OF 'flashlaw2.QueuesCheck'. -/
def queuesCheckCard : Claim7 := { stood := { row := queuesCheckRow, standIns := [], harness := (true, "fc434b4c7b53f6887e6c261df685ef0e26b5f9f2879a26cb4cfb38142f02dc2f"), looks := false }, kinds := [], alts := [], laidByText := true, laidKinds := [.data, .pinned], laidTests := true, laidLooks := .later }
def QueuesCheckCardSaid : Prop := Claim7.holds Tryd.pinned (.plain (OpenSpec.ofChange queuesCheckSpec)) queuesCheckCard

/-- THE TIED CARD OF 'flashlaw2.NumbersPriced'. -/
def numbersPricedCard : Claim7 := { stood := { row := numbersPricedRow, standIns := [], harness := (true, "fc434b4c7b53f6887e6c261df685ef0e26b5f9f2879a26cb4cfb38142f02dc2f"), looks := false }, kinds := [], alts := [], laidByText := true, laidKinds := [.data, .pinned], laidTests := true, laidLooks := .later }
def NumbersPricedCardSaid : Prop := Claim7.holds Tryd.pinned (.plain (OpenSpec.ofChange numbersPricedSpec)) numbersPricedCard

/-- THE TIED CARD OF 'flashlaw2.HoursOpen'. -/
def hoursOpenCard : Claim7 := { stood := { row := hoursOpenRow, standIns := [], harness := (true, "fc434b4c7b53f6887e6c261df685ef0e26b5f9f2879a26cb4cfb38142f02dc2f"), looks := false }, kinds := [], alts := [], laidByText := true, laidKinds := [.data, .data, .pinned], laidTests := true, laidLooks := .later }
def HoursOpenCardSaid : Prop := Claim7.holds Tryd.pinned (.plain (OpenSpec.ofChange hoursOpenSpec)) hoursOpenCard

/-- THE SECOND FORM's CARD OF 'flashlaw2.QueuesCheck'. -/
def queuesCheckUptoCard : Claim7 := { stood := { row := queuesCheckUptoRow, standIns := [], harness := (true, "fc434b4c7b53f6887e6c261df685ef0e26b5f9f2879a26cb4cfb38142f02dc2f"), looks := false }, kinds := [], alts := [], laidByText := true, laidKinds := [.data, .pinned], laidTests := true, laidLooks := .later }
def QueuesCheckUptoCardSaid : Prop := Claim7.holds Tryd.pinned (.plain (OpenSpec.upto queuesCheckSpec)) queuesCheckUptoCard

/-- THE SECOND FORM's CARD OF 'flashlaw2.NumbersPriced'. -/
def numbersPricedUptoCard : Claim7 := { stood := { row := numbersPricedUptoRow, standIns := [], harness := (true, "fc434b4c7b53f6887e6c261df685ef0e26b5f9f2879a26cb4cfb38142f02dc2f"), looks := false }, kinds := [], alts := [], laidByText := true, laidKinds := [.data, .pinned], laidTests := true, laidLooks := .later }
def NumbersPricedUptoCardSaid : Prop := Claim7.holds Tryd.pinned (.plain (OpenSpec.upto numbersPricedSpec)) numbersPricedUptoCard

/-- THE SECOND FORM's CARD OF 'flashlaw2.HoursOpen'. -/
def hoursOpenUptoCard : Claim7 := { stood := { row := hoursOpenUptoRow, standIns := [], harness := (true, "fc434b4c7b53f6887e6c261df685ef0e26b5f9f2879a26cb4cfb38142f02dc2f"), looks := false }, kinds := [], alts := [], laidByText := true, laidKinds := [.data, .data, .pinned], laidTests := true, laidLooks := .later }
def HoursOpenUptoCardSaid : Prop := Claim7.holds Tryd.pinned (.plain (OpenSpec.upto hoursOpenSpec)) hoursOpenUptoCard
end Rows
end Go.Proofs.YtddabpcdjgmooaaDoor

/-
  DERIVED. GIVEN WITH THE SEED: THE CARDS: each row of YtkkpioinccoinaaDoorRows.lean that lists a variable, with what it lists TIED to the program's text (the seventh form; the later family's looks); each row that meets fmt, with fmt's text TOLD by the authors' own Lean function (tested against real Go, not proved from fmt's source: count such statements apart). THE CARD IS WHAT COUNTS. Prove the row's statement (the work); the ties are given (YtkkpioinccoinaaDoorTie.lean); close each card by the builder's one call (the guide's Derived/Test/ToyasCard.lean, 'card_holds'). Laid BY PROGRAM, IN A SANDBOX (cutbox-door.mjs). By AI agents, Wed Nov 11 2026. No macro, syntax, notation, axiom, sorry.
-/
import Derived.Test.YtkkpioinccoinaaDoorRows
import GoSem.ClaimSeven
namespace Go.Proofs.YtkkpioinccoinaaDoor
namespace Rows

/-- THE TIED CARD OF 'flashlaw2.PatternsShare'. -/
def patternsShareCard : Claim7 := { stood := { row := patternsShareRow, standIns := [], harness := (true, "45512457529cff07754584096e158991e35c51d19255e2f779b8305e0938bcac"), looks := false }, kinds := [], alts := [], laidByText := true, laidKinds := [.data], laidTests := true, laidLooks := .later }
def PatternsShareCardSaid : Prop := Claim7.holds Tryd.pinned (.plain (OpenSpec.ofChange patternsShareSpec)) patternsShareCard

/-- THE TIED CARD OF 'flashlaw2.QueuesCheck'. -/
def queuesCheckCard : Claim7 := { stood := { row := queuesCheckRow, standIns := [], harness := (true, "45512457529cff07754584096e158991e35c51d19255e2f779b8305e0938bcac"), looks := false }, kinds := [], alts := [], laidByText := true, laidKinds := [.data, .pinned], laidTests := true, laidLooks := .later }
def QueuesCheckCardSaid : Prop := Claim7.holds Tryd.pinned (.plain (OpenSpec.ofChange queuesCheckSpec)) queuesCheckCard

/-- THE TIED CARD OF 'flashlaw2.NumbersPriced'. -/
def numbersPricedCard : Claim7 := { stood := { row := numbersPricedRow, standIns := [], harness := (true, "45512457529cff07754584096e158991e35c51d19255e2f779b8305e0938bcac"), looks := false }, kinds := [], alts := [], laidByText := true, laidKinds := [.data, .pinned], laidTests := true, laidLooks := .later }
def NumbersPricedCardSaid : Prop := Claim7.holds Tryd.pinned (.plain (OpenSpec.ofChange numbersPricedSpec)) numbersPricedCard

/-- THE TIED CARD OF 'flashlaw2.PatternsMatch'. -/
def patternsMatchCard : Claim7 := { stood := { row := patternsMatchRow, standIns := [], harness := (true, "45512457529cff07754584096e158991e35c51d19255e2f779b8305e0938bcac"), looks := false }, kinds := [], alts := [], laidByText := true, laidKinds := [.data, .data, .pinned], laidTests := true, laidLooks := .later }
def PatternsMatchCardSaid : Prop := Claim7.holds Tryd.pinned (.plain (OpenSpec.ofChange patternsMatchSpec)) patternsMatchCard

/-- THE SECOND FORM's CARD OF 'flashlaw2.PatternsShare'. -/
def patternsShareUptoCard : Claim7 := { stood := { row := patternsShareUptoRow, standIns := [], harness := (true, "45512457529cff07754584096e158991e35c51d19255e2f779b8305e0938bcac"), looks := false }, kinds := [], alts := [], laidByText := true, laidKinds := [.data], laidTests := true, laidLooks := .later }
def PatternsShareUptoCardSaid : Prop := Claim7.holds Tryd.pinned (.plain (OpenSpec.upto patternsShareSpec)) patternsShareUptoCard

/-- THE SECOND FORM's CARD OF 'flashlaw2.QueuesCheck'. -/
def queuesCheckUptoCard : Claim7 := { stood := { row := queuesCheckUptoRow, standIns := [], harness := (true, "45512457529cff07754584096e158991e35c51d19255e2f779b8305e0938bcac"), looks := false }, kinds := [], alts := [], laidByText := true, laidKinds := [.data, .pinned], laidTests := true, laidLooks := .later }
def QueuesCheckUptoCardSaid : Prop := Claim7.holds Tryd.pinned (.plain (OpenSpec.upto queuesCheckSpec)) queuesCheckUptoCard

/-- THE SECOND FORM's CARD OF 'flashlaw2.NumbersPriced'. -/
def numbersPricedUptoCard : Claim7 := { stood := { row := numbersPricedUptoRow, standIns := [], harness := (true, "45512457529cff07754584096e158991e35c51d19255e2f779b8305e0938bcac"), looks := false }, kinds := [], alts := [], laidByText := true, laidKinds := [.data, .pinned], laidTests := true, laidLooks := .later }
def NumbersPricedUptoCardSaid : Prop := Claim7.holds Tryd.pinned (.plain (OpenSpec.upto numbersPricedSpec)) numbersPricedUptoCard

/-- THE SECOND FORM's CARD OF 'flashlaw2.PatternsMatch'. -/
def patternsMatchUptoCard : Claim7 := { stood := { row := patternsMatchUptoRow, standIns := [], harness := (true, "45512457529cff07754584096e158991e35c51d19255e2f779b8305e0938bcac"), looks := false }, kinds := [], alts := [], laidByText := true, laidKinds := [.data, .data, .pinned], laidTests := true, laidLooks := .later }
def PatternsMatchUptoCardSaid : Prop := Claim7.holds Tryd.pinned (.plain (OpenSpec.upto patternsMatchSpec)) patternsMatchUptoCard
end Rows
end Go.Proofs.YtkkpioinccoinaaDoor

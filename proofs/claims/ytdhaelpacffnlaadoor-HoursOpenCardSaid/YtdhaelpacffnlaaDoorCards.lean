/-
  DERIVED. GIVEN WITH THE SEED: THE CARDS: each row of YtdhaelpacffnlaaDoorRows.lean that lists a variable, with what it lists TIED to the program's text (the seventh form; the later family's looks); each row that meets fmt, with fmt's text TOLD by the authors' own Lean function (tested against real Go, not proved from fmt's source: count such statements apart). THE CARD IS WHAT COUNTS. Prove the row's statement (the work); the ties are given (YtdhaelpacffnlaaDoorTie.lean); close each card by the builder's one call (the guide's Derived/Test/ToyasCard.lean, 'card_holds'). Laid BY PROGRAM, IN A SANDBOX (cutbox-door.mjs). By AI agents, Wed Nov 11 2026. No macro, syntax, notation, axiom, sorry.
-/
import Derived.Test.YtdhaelpacffnlaaDoorRows
import GoSem.ClaimSeven
namespace Go.Proofs.YtdhaelpacffnlaaDoor
namespace Rows

/-- THE TIED CARD OF 'flashlaw2.HoursOpen'. -/
def hoursOpenCard : Claim7 := { stood := { row := hoursOpenRow, standIns := [], harness := (true, "01abf3774b3a3cc32edbf2b9bb9f6db3f41a70c9b5b20eae47ac12afa1e63452"), looks := false }, kinds := [], alts := [], laidByText := true, laidKinds := [.data, .data, .pinned], laidTests := true, laidLooks := .later }
def HoursOpenCardSaid : Prop := Claim7.holds Tryd.pinned (.plain (OpenSpec.ofChange hoursOpenSpec)) hoursOpenCard

/-- THE SECOND FORM's CARD OF 'flashlaw2.HoursOpen'. -/
def hoursOpenUptoCard : Claim7 := { stood := { row := hoursOpenUptoRow, standIns := [], harness := (true, "01abf3774b3a3cc32edbf2b9bb9f6db3f41a70c9b5b20eae47ac12afa1e63452"), looks := false }, kinds := [], alts := [], laidByText := true, laidKinds := [.data, .data, .pinned], laidTests := true, laidLooks := .later }
def HoursOpenUptoCardSaid : Prop := Claim7.holds Tryd.pinned (.plain (OpenSpec.upto hoursOpenSpec)) hoursOpenUptoCard
end Rows
end Go.Proofs.YtdhaelpacffnlaaDoor

/-
  DERIVED. GIVEN WITH THE SEED: THE CARDS: each row of YtlkibeckfpjccaaGreatDoorRows.lean that lists a variable, with what it lists TIED to the program's text (the seventh form; the later family's looks); each row that meets fmt, with fmt's text TOLD by the authors' own Lean function (tested against real Go, not proved from fmt's source: count such statements apart). THE CARD IS WHAT COUNTS. Prove the row's statement (the work); the ties are given (YtlkibeckfpjccaaGreatDoorTie.lean); close each card by the builder's one call (the guide's Derived/Test/ToyasCard.lean, 'card_holds'). Laid BY PROGRAM, IN A SANDBOX (cutbox-door.mjs). By AI agents, Wed Nov 11 2026. No macro, syntax, notation, axiom, sorry.
-/
import Derived.Test.YtlkibeckfpjccaaGreatDoorRows
import GoSem.ClaimSeven
namespace Go.Proofs.YtlkibeckfpjccaaGreatDoor
namespace Rows

/-- THE TIED CARD OF 'flashlaw2.TariffsCompared'. -/
def tariffsComparedCard : Claim7 := { stood := { row := tariffsComparedRow, standIns := [], harness := (true, "1f2be86a79b5efe3f25ba425f386df7e9c8e2330a954fcd99c22ddadb2b67682"), looks := false }, kinds := [], alts := [], laidByText := true, laidKinds := [.data, .data, .data, .data, .pinned], laidTests := true, laidLooks := .later }
def TariffsComparedCardSaid : Prop := Claim7.holds Tryz.pinned (.plain (OpenSpec.ofChange tariffsComparedSpec)) tariffsComparedCard

/-- THE SECOND FORM's CARD OF 'flashlaw2.TariffsCompared'. -/
def tariffsComparedUptoCard : Claim7 := { stood := { row := tariffsComparedUptoRow, standIns := [], harness := (true, "1f2be86a79b5efe3f25ba425f386df7e9c8e2330a954fcd99c22ddadb2b67682"), looks := false }, kinds := [], alts := [], laidByText := true, laidKinds := [.data, .data, .data, .data, .pinned], laidTests := true, laidLooks := .later }
def TariffsComparedUptoCardSaid : Prop := Claim7.holds Tryz.pinned (.plain (OpenSpec.upto tariffsComparedSpec)) tariffsComparedUptoCard
end Rows
end Go.Proofs.YtlkibeckfpjccaaGreatDoor

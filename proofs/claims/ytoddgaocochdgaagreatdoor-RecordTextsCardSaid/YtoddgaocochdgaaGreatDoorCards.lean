/-
  DERIVED. GIVEN WITH THE SEED: THE CARDS: each row of YtoddgaocochdgaaGreatDoorRows.lean that lists a variable, with what it lists TIED to the program's text (the seventh form; the later family's looks); each row that meets fmt, with fmt's text TOLD by the authors' own Lean function (tested against real Go, not proved from fmt's source: count such statements apart). THE CARD IS WHAT COUNTS. Prove the row's statement (the work); the ties are given (YtoddgaocochdgaaGreatDoorTie.lean); close each card by the builder's one call (the guide's Derived/Test/ToyasCard.lean, 'card_holds'). Laid BY PROGRAM, IN A SANDBOX (cutbox-door.mjs). By AI agents, Wed Nov 11 2026. No macro, syntax, notation, axiom, sorry.
-/
import Derived.Test.YtoddgaocochdgaaGreatDoorRows
import GoSem.ClaimSeven
namespace Go.Proofs.YtoddgaocochdgaaGreatDoor
namespace Rows

/-- THE TIED CARD OF 'flashlaw2.CodecsAgree'. -/
def codecsAgreeCard : Claim7 := { stood := { row := codecsAgreeRow, standIns := [], harness := (true, "4993a3e9827e4270f869a6cfbd65d1ef6d6a620166b8debed8efbdea32b0a75f"), looks := true }, kinds := [], alts := [], laidByText := true, laidKinds := [.data, .data, .data, .data, .sentinel, .sentinel, .pinned], laidTests := true, laidLooks := .later }
def CodecsAgreeCardSaid : Prop := Claim7.holds Tryz.pinned (.plain (OpenSpec.ofChange codecsAgreeSpec)) codecsAgreeCard

/-- THE TIED CARD OF 'flashlaw2.TariffsCompared'. -/
def tariffsComparedCard : Claim7 := { stood := { row := tariffsComparedRow, standIns := [], harness := (true, "4993a3e9827e4270f869a6cfbd65d1ef6d6a620166b8debed8efbdea32b0a75f"), looks := true }, kinds := [], alts := [], laidByText := true, laidKinds := [.data, .data, .data, .data, .pinned], laidTests := true, laidLooks := .later }
def TariffsComparedCardSaid : Prop := Claim7.holds Tryz.pinned (.plain (OpenSpec.ofChange tariffsComparedSpec)) tariffsComparedCard

/-- THE TIED CARD OF 'flashlaw2.RecordTexts'. -/
def recordTextsCard : Claim7 := { stood := { row := recordTextsRow, standIns := [], harness := (true, "4993a3e9827e4270f869a6cfbd65d1ef6d6a620166b8debed8efbdea32b0a75f"), looks := true }, kinds := [], alts := [], laidByText := true, laidKinds := [.data, .data, .data, .data, .sentinel, .sentinel, .pinned], laidTests := true, laidLooks := .later }
def RecordTextsCardSaid : Prop := Claim7.holds Tryz.pinned (.plain (OpenSpec.ofChange recordTextsSpec)) recordTextsCard

/-- THE TIED CARD OF 'flashlaw2.PlanTexts'. -/
def planTextsCard : Claim7 := { stood := { row := planTextsRow, standIns := [], harness := (true, "4993a3e9827e4270f869a6cfbd65d1ef6d6a620166b8debed8efbdea32b0a75f"), looks := true }, kinds := [], alts := [], laidByText := true, laidKinds := [.data, .data, .data, .data, .sentinel, .sentinel, .pinned], laidTests := true, laidLooks := .later }
def PlanTextsCardSaid : Prop := Claim7.holds Tryz.pinned (.plain (OpenSpec.ofChange planTextsSpec)) planTextsCard

/-- THE SECOND FORM's CARD OF 'flashlaw2.CodecsAgree'. -/
def codecsAgreeUptoCard : Claim7 := { stood := { row := codecsAgreeUptoRow, standIns := [], harness := (true, "4993a3e9827e4270f869a6cfbd65d1ef6d6a620166b8debed8efbdea32b0a75f"), looks := true }, kinds := [], alts := [], laidByText := true, laidKinds := [.data, .data, .data, .data, .sentinel, .sentinel, .pinned], laidTests := true, laidLooks := .later }
def CodecsAgreeUptoCardSaid : Prop := Claim7.holds Tryz.pinned (.plain (OpenSpec.upto codecsAgreeSpec)) codecsAgreeUptoCard

/-- THE SECOND FORM's CARD OF 'flashlaw2.TariffsCompared'. -/
def tariffsComparedUptoCard : Claim7 := { stood := { row := tariffsComparedUptoRow, standIns := [], harness := (true, "4993a3e9827e4270f869a6cfbd65d1ef6d6a620166b8debed8efbdea32b0a75f"), looks := true }, kinds := [], alts := [], laidByText := true, laidKinds := [.data, .data, .data, .data, .pinned], laidTests := true, laidLooks := .later }
def TariffsComparedUptoCardSaid : Prop := Claim7.holds Tryz.pinned (.plain (OpenSpec.upto tariffsComparedSpec)) tariffsComparedUptoCard

/-- THE SECOND FORM's CARD OF 'flashlaw2.RecordTexts'. -/
def recordTextsUptoCard : Claim7 := { stood := { row := recordTextsUptoRow, standIns := [], harness := (true, "4993a3e9827e4270f869a6cfbd65d1ef6d6a620166b8debed8efbdea32b0a75f"), looks := true }, kinds := [], alts := [], laidByText := true, laidKinds := [.data, .data, .data, .data, .sentinel, .sentinel, .pinned], laidTests := true, laidLooks := .later }
def RecordTextsUptoCardSaid : Prop := Claim7.holds Tryz.pinned (.plain (OpenSpec.upto recordTextsSpec)) recordTextsUptoCard

/-- THE SECOND FORM's CARD OF 'flashlaw2.PlanTexts'. -/
def planTextsUptoCard : Claim7 := { stood := { row := planTextsUptoRow, standIns := [], harness := (true, "4993a3e9827e4270f869a6cfbd65d1ef6d6a620166b8debed8efbdea32b0a75f"), looks := true }, kinds := [], alts := [], laidByText := true, laidKinds := [.data, .data, .data, .data, .sentinel, .sentinel, .pinned], laidTests := true, laidLooks := .later }
def PlanTextsUptoCardSaid : Prop := Claim7.holds Tryz.pinned (.plain (OpenSpec.upto planTextsSpec)) planTextsUptoCard
end Rows
end Go.Proofs.YtoddgaocochdgaaGreatDoor

/-
  DERIVED. GIVEN WITH THE SEED: THE CARDS: each row of YtgogiljplnninaaGreatDoorRows.lean that lists a variable, with what it lists TIED to the program's text (the seventh form; the later family's looks); each row that meets fmt, with fmt's text TOLD by the authors' own Lean function (tested against real Go, not proved from fmt's source: count such statements apart). THE CARD IS WHAT COUNTS. Prove the row's statement (the work); the ties are given (YtgogiljplnninaaGreatDoorTie.lean); close each card by the builder's one call (the guide's Derived/Test/ToyasCard.lean, 'card_holds'). Laid BY PROGRAM, IN A SANDBOX (cutbox-door.mjs). By AI agents, Wed Nov 11 2026. No macro, syntax, notation, axiom, sorry.
-/
import Derived.Test.YtgogiljplnninaaGreatDoorRows
import GoSem.ClaimSeven
namespace Go.Proofs.YtgogiljplnninaaGreatDoor
namespace Rows

/-- THE TIED CARD OF 'flashlaw2.RecordsMerge'. -/
def recordsMergeCard : Claim7 := { stood := { row := recordsMergeRow, standIns := [], harness := (true, "ec483f7bed33f72af1019babf83237cdd197e071d10edaf93479b83f3235c67f"), looks := true }, kinds := [], alts := [], laidByText := true, laidKinds := [.data, .pinned], laidTests := true, laidLooks := .later }
def RecordsMergeCardSaid : Prop := Claim7.holds Tryz.pinned (.plain (OpenSpec.ofChange recordsMergeSpec)) recordsMergeCard

/-- THE TIED CARD OF 'flashlaw2.ActTexts'. -/
def actTextsCard : Claim7 := { stood := { row := actTextsRow, standIns := [], harness := (true, "ec483f7bed33f72af1019babf83237cdd197e071d10edaf93479b83f3235c67f"), looks := true }, kinds := [], alts := [], laidByText := true, laidKinds := [.data, .data, .data, .data, .sentinel, .sentinel, .pinned], laidTests := true, laidLooks := .later }
def ActTextsCardSaid : Prop := Claim7.holds Tryz.pinned (.plain (OpenSpec.ofChange actTextsSpec)) actTextsCard

/-- THE TIED CARD OF 'flashlaw2.BeaconsKnown'. -/
def beaconsKnownCard : Claim7 := { stood := { row := beaconsKnownRow, standIns := [], harness := (true, "ec483f7bed33f72af1019babf83237cdd197e071d10edaf93479b83f3235c67f"), looks := true }, kinds := [], alts := [], laidByText := true, laidKinds := [.data, .pinned], laidTests := true, laidLooks := .later }
def BeaconsKnownCardSaid : Prop := Claim7.holds Tryz.pinned (.plain (OpenSpec.ofChange beaconsKnownSpec)) beaconsKnownCard

/-- THE TIED CARD OF 'flashlaw2.PresenceThrough'. -/
def presenceThroughCard : Claim7 := { stood := { row := presenceThroughRow, standIns := [], harness := (true, "ec483f7bed33f72af1019babf83237cdd197e071d10edaf93479b83f3235c67f"), looks := true }, kinds := [], alts := [], laidByText := true, laidKinds := [.data, .pinned], laidTests := true, laidLooks := .later }
def PresenceThroughCardSaid : Prop := Claim7.holds Tryz.pinned (.plain (OpenSpec.ofChange presenceThroughSpec)) presenceThroughCard

/-- THE SECOND FORM's CARD OF 'flashlaw2.RecordsMerge'. -/
def recordsMergeUptoCard : Claim7 := { stood := { row := recordsMergeUptoRow, standIns := [], harness := (true, "ec483f7bed33f72af1019babf83237cdd197e071d10edaf93479b83f3235c67f"), looks := true }, kinds := [], alts := [], laidByText := true, laidKinds := [.data, .pinned], laidTests := true, laidLooks := .later }
def RecordsMergeUptoCardSaid : Prop := Claim7.holds Tryz.pinned (.plain (OpenSpec.upto recordsMergeSpec)) recordsMergeUptoCard

/-- THE SECOND FORM's CARD OF 'flashlaw2.ActTexts'. -/
def actTextsUptoCard : Claim7 := { stood := { row := actTextsUptoRow, standIns := [], harness := (true, "ec483f7bed33f72af1019babf83237cdd197e071d10edaf93479b83f3235c67f"), looks := true }, kinds := [], alts := [], laidByText := true, laidKinds := [.data, .data, .data, .data, .sentinel, .sentinel, .pinned], laidTests := true, laidLooks := .later }
def ActTextsUptoCardSaid : Prop := Claim7.holds Tryz.pinned (.plain (OpenSpec.upto actTextsSpec)) actTextsUptoCard

/-- THE SECOND FORM's CARD OF 'flashlaw2.BeaconsKnown'. -/
def beaconsKnownUptoCard : Claim7 := { stood := { row := beaconsKnownUptoRow, standIns := [], harness := (true, "ec483f7bed33f72af1019babf83237cdd197e071d10edaf93479b83f3235c67f"), looks := true }, kinds := [], alts := [], laidByText := true, laidKinds := [.data, .pinned], laidTests := true, laidLooks := .later }
def BeaconsKnownUptoCardSaid : Prop := Claim7.holds Tryz.pinned (.plain (OpenSpec.upto beaconsKnownSpec)) beaconsKnownUptoCard

/-- THE SECOND FORM's CARD OF 'flashlaw2.PresenceThrough'. -/
def presenceThroughUptoCard : Claim7 := { stood := { row := presenceThroughUptoRow, standIns := [], harness := (true, "ec483f7bed33f72af1019babf83237cdd197e071d10edaf93479b83f3235c67f"), looks := true }, kinds := [], alts := [], laidByText := true, laidKinds := [.data, .pinned], laidTests := true, laidLooks := .later }
def PresenceThroughUptoCardSaid : Prop := Claim7.holds Tryz.pinned (.plain (OpenSpec.upto presenceThroughSpec)) presenceThroughUptoCard
end Rows
end Go.Proofs.YtgogiljplnninaaGreatDoor

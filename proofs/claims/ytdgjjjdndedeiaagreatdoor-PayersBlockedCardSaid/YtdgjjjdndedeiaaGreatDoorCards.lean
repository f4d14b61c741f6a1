/-
  DERIVED. GIVEN WITH THE SEED: THE CARDS: each row of YtdgjjjdndedeiaaGreatDoorRows.lean that lists a variable, with what it lists TIED to the program's text (the seventh form; the later family's looks); each row that meets fmt, with fmt's text TOLD by the authors' own Lean function (tested against real Go, not proved from fmt's source: count such statements apart). THE CARD IS WHAT COUNTS. Prove the row's statement (the work); the ties are given (YtdgjjjdndedeiaaGreatDoorTie.lean); close each card by the builder's one call (the guide's Derived/Test/ToyasCard.lean, 'card_holds'). Laid BY PROGRAM, IN A SANDBOX (cutbox-door.mjs). By AI agents, Wed Nov 11 2026. No macro, syntax, notation, axiom, sorry.
-/
import Derived.Test.YtdgjjjdndedeiaaGreatDoorRows
import GoSem.ClaimSeven
namespace Go.Proofs.YtdgjjjdndedeiaaGreatDoor
namespace Rows

/-- THE TIED CARD OF 'flashlaw2.RecordsCharged'. -/
def recordsChargedCard : Claim7 := { stood := { row := recordsChargedRow, standIns := [], harness := (true, "0b6ea62f865a3d47786f1c66f4ee77e562d709915120015f0125b8ea2898418d"), looks := false }, kinds := [], alts := [], laidByText := true, laidKinds := [.data, .pinned], laidTests := true, laidLooks := .later }
def RecordsChargedCardSaid : Prop := Claim7.holds Tryz.pinned (.plain (OpenSpec.ofChange recordsChargedSpec)) recordsChargedCard

/-- THE TIED CARD OF 'flashlaw2.PayersBlocked'. -/
def payersBlockedCard : Claim7 := { stood := { row := payersBlockedRow, standIns := [], harness := (true, "0b6ea62f865a3d47786f1c66f4ee77e562d709915120015f0125b8ea2898418d"), looks := false }, kinds := [], alts := [], laidByText := true, laidKinds := [.data, .pinned], laidTests := true, laidLooks := .later }
def PayersBlockedCardSaid : Prop := Claim7.holds Tryz.pinned (.plain (OpenSpec.ofChange payersBlockedSpec)) payersBlockedCard

/-- THE TIED CARD OF 'flashlaw2.RecordsMerge'. -/
def recordsMergeCard : Claim7 := { stood := { row := recordsMergeRow, standIns := [], harness := (true, "0b6ea62f865a3d47786f1c66f4ee77e562d709915120015f0125b8ea2898418d"), looks := false }, kinds := [], alts := [], laidByText := true, laidKinds := [.data, .pinned], laidTests := true, laidLooks := .later }
def RecordsMergeCardSaid : Prop := Claim7.holds Tryz.pinned (.plain (OpenSpec.ofChange recordsMergeSpec)) recordsMergeCard

/-- THE TIED CARD OF 'flashlaw2.TariffsCompared'. -/
def tariffsComparedCard : Claim7 := { stood := { row := tariffsComparedRow, standIns := [], harness := (true, "0b6ea62f865a3d47786f1c66f4ee77e562d709915120015f0125b8ea2898418d"), looks := false }, kinds := [], alts := [], laidByText := true, laidKinds := [.data, .data, .data, .data, .pinned], laidTests := true, laidLooks := .later }
def TariffsComparedCardSaid : Prop := Claim7.holds Tryz.pinned (.plain (OpenSpec.ofChange tariffsComparedSpec)) tariffsComparedCard

/-- THE SECOND FORM's CARD OF 'flashlaw2.RecordsCharged'. -/
def recordsChargedUptoCard : Claim7 := { stood := { row := recordsChargedUptoRow, standIns := [], harness := (true, "0b6ea62f865a3d47786f1c66f4ee77e562d709915120015f0125b8ea2898418d"), looks := false }, kinds := [], alts := [], laidByText := true, laidKinds := [.data, .pinned], laidTests := true, laidLooks := .later }
def RecordsChargedUptoCardSaid : Prop := Claim7.holds Tryz.pinned (.plain (OpenSpec.upto recordsChargedSpec)) recordsChargedUptoCard

/-- THE SECOND FORM's CARD OF 'flashlaw2.PayersBlocked'. -/
def payersBlockedUptoCard : Claim7 := { stood := { row := payersBlockedUptoRow, standIns := [], harness := (true, "0b6ea62f865a3d47786f1c66f4ee77e562d709915120015f0125b8ea2898418d"), looks := false }, kinds := [], alts := [], laidByText := true, laidKinds := [.data, .pinned], laidTests := true, laidLooks := .later }
def PayersBlockedUptoCardSaid : Prop := Claim7.holds Tryz.pinned (.plain (OpenSpec.upto payersBlockedSpec)) payersBlockedUptoCard

/-- THE SECOND FORM's CARD OF 'flashlaw2.RecordsMerge'. -/
def recordsMergeUptoCard : Claim7 := { stood := { row := recordsMergeUptoRow, standIns := [], harness := (true, "0b6ea62f865a3d47786f1c66f4ee77e562d709915120015f0125b8ea2898418d"), looks := false }, kinds := [], alts := [], laidByText := true, laidKinds := [.data, .pinned], laidTests := true, laidLooks := .later }
def RecordsMergeUptoCardSaid : Prop := Claim7.holds Tryz.pinned (.plain (OpenSpec.upto recordsMergeSpec)) recordsMergeUptoCard

/-- THE SECOND FORM's CARD OF 'flashlaw2.TariffsCompared'. -/
def tariffsComparedUptoCard : Claim7 := { stood := { row := tariffsComparedUptoRow, standIns := [], harness := (true, "0b6ea62f865a3d47786f1c66f4ee77e562d709915120015f0125b8ea2898418d"), looks := false }, kinds := [], alts := [], laidByText := true, laidKinds := [.data, .data, .data, .data, .pinned], laidTests := true, laidLooks := .later }
def TariffsComparedUptoCardSaid : Prop := Claim7.holds Tryz.pinned (.plain (OpenSpec.upto tariffsComparedSpec)) tariffsComparedUptoCard
end Rows
end Go.Proofs.YtdgjjjdndedeiaaGreatDoor

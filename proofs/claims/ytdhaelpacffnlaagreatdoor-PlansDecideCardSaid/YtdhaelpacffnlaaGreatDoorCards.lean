/-
  DERIVED. GIVEN WITH THE SEED: THE CARDS: each row of YtdhaelpacffnlaaGreatDoorRows.lean that lists a variable, with what it lists TIED to the program's text (the seventh form; the later family's looks); each row that meets fmt, with fmt's text TOLD by the authors' own Lean function (tested against real Go, not proved from fmt's source: count such statements apart). THE CARD IS WHAT COUNTS. Prove the row's statement (the work); the ties are given (YtdhaelpacffnlaaGreatDoorTie.lean); close each card by the builder's one call (the guide's Derived/Test/ToyasCard.lean, 'card_holds'). Laid BY PROGRAM, IN A SANDBOX (cutbox-door.mjs). By AI agents, Wed Nov 11 2026. No macro, syntax, notation, axiom, sorry.
-/
import Derived.Test.YtdhaelpacffnlaaGreatDoorRows
import GoSem.ClaimSeven
namespace Go.Proofs.YtdhaelpacffnlaaGreatDoor
namespace Rows

/-- THE TIED CARD OF 'flashlaw2.PlansDecide'. -/
def plansDecideCard : Claim7 := { stood := { row := plansDecideRow, standIns := [], harness := (true, "98fd434f0e19718a16ab31fa07d5c7b4bee38aa69fa0de787d2bcd7def0b5bfa"), looks := false }, kinds := [], alts := [], laidByText := true, laidKinds := [.data, .data, .pinned], laidTests := true, laidLooks := .later }
def PlansDecideCardSaid : Prop := Claim7.holds Tryz.pinned (.plain (OpenSpec.ofChange plansDecideSpec)) plansDecideCard

/-- THE TIED CARD OF 'flashlaw2.PlansWait'. -/
def plansWaitCard : Claim7 := { stood := { row := plansWaitRow, standIns := [], harness := (true, "98fd434f0e19718a16ab31fa07d5c7b4bee38aa69fa0de787d2bcd7def0b5bfa"), looks := false }, kinds := [], alts := [], laidByText := true, laidKinds := [.data, .data, .pinned], laidTests := true, laidLooks := .later }
def PlansWaitCardSaid : Prop := Claim7.holds Tryz.pinned (.plain (OpenSpec.ofChange plansWaitSpec)) plansWaitCard

/-- THE SECOND FORM's CARD OF 'flashlaw2.PlansDecide'. -/
def plansDecideUptoCard : Claim7 := { stood := { row := plansDecideUptoRow, standIns := [], harness := (true, "98fd434f0e19718a16ab31fa07d5c7b4bee38aa69fa0de787d2bcd7def0b5bfa"), looks := false }, kinds := [], alts := [], laidByText := true, laidKinds := [.data, .data, .pinned], laidTests := true, laidLooks := .later }
def PlansDecideUptoCardSaid : Prop := Claim7.holds Tryz.pinned (.plain (OpenSpec.upto plansDecideSpec)) plansDecideUptoCard

/-- THE SECOND FORM's CARD OF 'flashlaw2.PlansWait'. -/
def plansWaitUptoCard : Claim7 := { stood := { row := plansWaitUptoRow, standIns := [], harness := (true, "98fd434f0e19718a16ab31fa07d5c7b4bee38aa69fa0de787d2bcd7def0b5bfa"), looks := false }, kinds := [], alts := [], laidByText := true, laidKinds := [.data, .data, .pinned], laidTests := true, laidLooks := .later }
def PlansWaitUptoCardSaid : Prop := Claim7.holds Tryz.pinned (.plain (OpenSpec.upto plansWaitSpec)) plansWaitUptoCard
end Rows
end Go.Proofs.YtdhaelpacffnlaaGreatDoor

/- bytealg.MaxLen holds a number; prefixes, suffixes and parts of strings. Conditions: none. -/
import Derived.Test.YtgogiljplnninaaGreatDoorBun2
import Derived.Test.YtgogiljplnninaaGreatDoorBun1
import Derived.Test.YtgogiljplnninaaGreatDoorShelfPl
namespace Go.Proofs.YtgogiljplnninaaGreatDoor
open Go.RowKit

def MxT (w : World) : Prop := ∃ m : Int, w.cell? ⟨2, 0, none⟩ = some (.int .i64 m)
theorem MxT.lt {w : World} (h : MxT w) : 2 < w.heap.size := by
  obtain ⟨m, hm⟩ := h
  exact World.block_lt_of_cell? w ⟨2, 0, none⟩ hm
theorem MxT.low {w w' : World} {r : Option Nat} (h : MxT w) (hg : w.grownBy w' r) (hr : ∀ g, r = some g → g ≠ 2) : MxT w' := by
  have hl := h.lt
  obtain ⟨m, hm⟩ := h
  exact ⟨m, (World.cell?_of_block (hg.block _ hl (fun e => hr _ e.symm rfl))).trans hm⟩
theorem MxT.grown {w w' : World} (h : MxT w) (hg : w.grownBy w' none) : MxT w' := h.low hg fun g e => by cases e
theorem hasPre_any (s p : ByteArray) (w : World) : Calls Tryz.prog 149 #[.string s, .string p] w (Same (.bool (Lib.hasPrefix s.data.toList p.data.toList)) w) := by
  refine (Tryz.strings_HasPrefix s p w).mono ?_
  rintro e w' ⟨rfl, rfl⟩
  exact ⟨rfl, rfl⟩
theorem hasSuf_any (s p : ByteArray) (w : World) (hs : s.size ≤ 1000000000) : Calls Tryz.prog 156 #[.string s, .string p] w (Same (.bool (Lib.hasSuffix s.data.toList p.data.toList)) w) := by
  refine (Tryz.strings_HasSuffix s p w (by omega)).mono ?_
  rintro e w' ⟨rfl, rfl⟩
  exact ⟨rfl, rfl⟩
theorem hasSub_any (s p : ByteArray) (w : World) (hs : s.size ≤ 1000000000) (hm : MxT w) : Calls Tryz.prog 155 #[.string s, .string p] w (Same (.bool (Lib.contains s.data.toList p.data.toList)) w) := by
  obtain ⟨m, hc⟩ := hm
  refine (Tryz.strings_Contains s p m w (by omega) hc).mono ?_
  rintro e w' ⟨rfl, rfl⟩
  exact ⟨rfl, rfl⟩
end Go.Proofs.YtgogiljplnninaaGreatDoor

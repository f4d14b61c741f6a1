/- Contracts of the generators of tariffs. Conditions: none. -/
import Derived.Test.YtfakdalpaopjaaaGreatDoorBun12
import Derived.Test.YtfakdalpaopjaaaGreatDoorBun1
import Derived.Test.YtfakdalpaopjaaaGreatDoorTar4
import Derived.Deep.RegionLaw
namespace Go.Proofs.YtfakdalpaopjaaaGreatDoor
open Go.RowKit

theorem Tryz.clsT : ElemT Tryz.prog 26 68 6 64 (.agg #[.string ⟨#[]⟩, .string ⟨#[]⟩, .int .i64 0, .int .i64 0, .int .i64 0, .int .i64 0]) := elemT_of Tryz.underlying26 (by kernel_rfl) rfl (by decide)
/-- The classes of a tariff that a call makes, and its names. -/
structure GTf (w : World) (lo : Nat) (t : TfV) : Prop where
  bd : (∀ c ∈ t.cl, ClOk c) ∧ (∀ s ∈ t.ins, s.size ≤ 1000) ∧ t.cn ≤ 1000 ∧ t.en ≤ 1000
  cls : OwnR ClV.row 6 w lo 68 t.cA t.cn t.cc t.cl
  ins : OwnR srow 1 w lo 9 t.iA t.en t.ic t.ins
section
variable {w w' : World} {lo : Nat} {t : TfV}
theorem GTf.ok (h : GTf w lo t) : TfOk w lo t := ⟨h.bd, h.cls.recs, h.ins.recs⟩
theorem GTf.low (h : GTf w lo t) {r : Option Nat} (hg : w.grownBy w' r) (hr : ∀ g, r = some g → g < lo) : GTf w' lo t := ⟨h.bd, h.cls.low hg hr, h.ins.low hg hr⟩
theorem GTf.far (h : GTf w lo t) {g : Nat} {cs : Array Value} (hb : Blk w g 29 cs) (j : Nat) (u : Value) : GTf (w.setCell ⟨g, j, none⟩ u) lo t :=
  ⟨h.bd, ⟨h.cls.1.far (h.cls.1.blk_ne hb (by decide)) _, h.cls.2⟩, ⟨h.ins.1.far (h.ins.1.blk_ne hb (by decide)) _, h.ins.2⟩⟩
/-- A class is appended. -/
theorem GTf.app (h : GTf w lo t) {c : ClV} (hc : ClOk c) {n1 : Nat} (hn : n1 = t.cn + 1) (hb : n1 ≤ 1000) {A1 : Option Addr} {c1 : Nat}
    (h1 : Appended w lo 68 6 t.cA A1 n1 c1 (t.cl.flatMap ClV.row ++ c.row) w') : GTf w' lo { t with cA := A1, cn := n1, cc := c1, cl := t.cl ++ [c] } := by
  refine ⟨⟨fun x hx => ?_, h.bd.2.1, hb, h.bd.2.2.2⟩, h.cls.app hn h1, h.ins.kept h1.2.1 (fun g e => Own.ne h.cls.1 h.ins.1 (by decide) e)⟩
  rcases List.mem_append.1 hx with hx | hx
  · exact h.bd.1 x hx
  · rw [List.mem_singleton.1 hx]; exact hc
end
end Go.Proofs.YtfakdalpaopjaaaGreatDoor

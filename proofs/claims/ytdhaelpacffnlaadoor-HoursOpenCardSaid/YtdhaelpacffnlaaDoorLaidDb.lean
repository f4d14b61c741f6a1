/- What the listed table of math/bits holds when a call begins. Conditions: the row's own. -/
import Derived.Test.YtdhaelpacffnlaaDoorPat6
import Derived.ProofKit
import Derived.LaidMore
import Derived.OpenShut
import Derived.MakeChecks
import Derived.LaidHandle
namespace Go.Proofs.YtdhaelpacffnlaaDoor
open Go.ChangeShapes Go.WideShapes Go.ChangeAt Go.RowKit

/-- A table of bytes, read as a datum: its cells. -/
theorem tab_cells {H : Type} {enc : TypeId × Value → H} {P : Program} {w : World} {base fuel : Nat} {sp : Nat → Bool} {held : Bool} {t e : TypeId} {n : Nat} {cs : List Value} {q : List MemPlace} {l : List Nat}
    (ht : P.underlying t = some (.array n e)) (he : P.underlying e = some (.int .u8)) (h1 : P.cellsOf e = 1)
    (h : DataW.trod enc P w base sp held fuel t cs = some (.agg (l.map (fun k : Nat => .lit (.int .u8 (k : Int)))), q)) (i : Nat) (hi : i < n) : cs[i]? = some (.int .u8 (l.getD i 0 : Nat)) := by
  obtain ⟨xs, m, rfl, hx, hlen, hn, hel⟩ := DataW.trod_array ht h
  have h2 := hel i hi
  rw [h1, Nat.mul_one] at h2
  have hxi : xs[i]? = some xs[i] := List.getElem?_eq_getElem (by omega)
  rw [hxi] at h2
  obtain ⟨k, e1, e2, _⟩ := DataW.trod_int he h2
  simp only [Prod.mk.injEq, DataW.agg.injEq] at hx
  have h3 := congrArg (fun z => z[i]?) hx.1
  simp only [List.getElem?_map, hxi, Option.map_some, e2] at h3
  cases hl : l[i]? with
  | none => rw [hl] at h3; cases h3
  | some y =>
    rw [hl] at h3
    simp at h3
    rw [List.getD_eq_getElem?_getD, hl]
    have h4 : cs.drop i = .int .u8 k :: cs.drop (i + 1) := by
      cases hd : cs.drop i with
      | nil => rw [hd] at e1; cases e1
      | cons a r =>
        rw [hd] at e1
        simp at e1
        rw [e1]
        congr 1
        have := congrArg List.tail hd
        simpa using this.symm
    have h5 : cs[i]? = (cs.drop i)[0]? := by rw [List.getElem?_drop, Nat.add_zero]
    rw [h5, h4, ← h3]
    rfl
theorem laid_db : (Rows.laid_math_bits_deBruijn32tab : DataW Unit) = .agg (dbTab.map (fun k : Nat => .lit (.int .u8 (k : Int)))) := rfl
theorem tDb : (Tryd.prog.globals[0]?).map (·.type) = some 130 := by kernel_rfl
end Go.Proofs.YtdhaelpacffnlaaDoor

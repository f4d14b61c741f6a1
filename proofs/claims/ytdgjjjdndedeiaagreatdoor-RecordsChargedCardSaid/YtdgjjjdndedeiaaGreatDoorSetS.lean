/- Sets of strings: a map[string]bool that a call makes. Conditions: none. -/
import Derived.Test.YtdgjjjdndedeiaaGreatDoorStrs
import Derived.Test.YtdgjjjdndedeiaaGreatDoorRows
import Derived.WalkKit
import Derived.Maps.Own
import Derived.Maps.OwnOps
import Derived.Maps.OwnSet
import Derived.Maps.Views
import Derived.StringKeys
namespace Go.Proofs.YtdgjjjdndedeiaaGreatDoor
open Go.RowKit Go.Maps Go.WideMaps

theorem plainElem_bool_of {P : Program} {e : TypeId} (he : P.underlying e = some .bool) {v : Value} {z : DataW Unit × List MemPlace} (h : plainElem P e v = some z) : ∃ x, v = .bool x ∧ z = (.lit (.bool x), []) := by
  unfold plainElem at h
  rw [he] at h
  cases v <;> simp at h
  exact ⟨_, rfl, h.symm⟩

theorem Tryz.keyS : Keyed Tryz.prog 9 := string_keyed Tryz.underlying9
theorem Tryz.zeroBS (w : World) : (zeroValue 4).run Tryz.prog w = .ok (.bool false) w := by kernel_rfl

/-- Is a string among some? -/
def memS (L : List ByteArray) (k : ByteArray) : Bool := L.any (fun x => nb x == nb k)
theorem memS_nil (k : ByteArray) : memS [] k = false := rfl
theorem memS_snoc (L : List ByteArray) (x k : ByteArray) : memS (L ++ [x]) k = (memS L k || nb x == nb k) := by
  unfold memS; rw [List.any_append]; simp
theorem nb_data {s t : ByteArray} : nb s = nb t ↔ s.data.toList = t.data.toList :=
  ⟨fun h => by rw [nb_inj h], fun h => by unfold nb; rw [h]⟩
/-- The map in block b is the set of the strings of L; it has s entries. -/
def SetS (w : World) (b n : Nat) (L : List ByteArray) (s : Nat) : Prop :=
  ∃ D : DataW Unit, w.ownsMap Tryz.prog 9 (plainElem Tryz.prog 4) b n D ∧ Maps.Tidy D ∧ (∀ k : ByteArray, Maps.has D (.string k.data.toList) = memS L k) ∧ (∀ k : ByteArray, memS L k = true → D.atKey (.string k.data.toList) (.lit (.bool false)) = .lit (.bool true)) ∧ Maps.size D = s
section
variable {w w' : World} {b n s : Nat} {L : List ByteArray}
theorem SetS.new (w : World) : SetS (w.alloc (.map #[] 0)) w.heap.size 0 [] 0 := ⟨.map [], World.ownsMap_made _ _ _ _, Maps.tidy_empty, fun k => rfl, fun k h => absurd h (by simp [memS]), rfl⟩
theorem SetS.kept {row : Option Nat} (h : SetS w b n L s) (hg : w.grownBy w' row) (hne : some b ≠ row) : SetS w' b n L s := by
  obtain ⟨D, h1, h2⟩ := h
  exact ⟨D, h1.kept hg hne, h2⟩
theorem SetS.look (h : SetS w b n L s) {k : ByteArray} (hw : k.size ≤ maxLen) : (Instr.lookup 132 (.map (some b)) (.string k) false).run Tryz.prog w = .ok (.bool (memS L k)) w := by
  obtain ⟨D, h1, h2, h3, h4, _⟩ := h
  obtain ⟨v, ps, hrun, hv⟩ := h1.lookup Tryz.keyS Tryz.underlying132 (Tryz.zeroBS w) (plainElem_bool Tryz.underlying4 false) (keyOf_string_mk Tryz.underlying9 hw)
  obtain ⟨x, rfl, hx⟩ := plainElem_bool_of Tryz.underlying4 hv
  simp only [Prod.mk.injEq] at hx
  have hx1 := hx.1
  have e : x = memS L k := by
    cases hc : memS L k
    · have hh : Maps.has D (.string k.data.toList) = false := by rw [h3, hc]
      rw [Maps.atKey_of_not_has hh] at hx1
      simp only [DataW.lit.injEq, Lit.bool.injEq] at hx1
      exact Eq.symm hx1
    · rw [h4 k hc] at hx1
      simp only [DataW.lit.injEq, Lit.bool.injEq] at hx1
      exact Eq.symm hx1
  rw [hrun, e]
theorem SetS.put (h : SetS w b n L s) (hn : n < maxLen) {k : ByteArray} (hw : k.size ≤ maxLen) : ∃ w', (Instr.mapUpdate 132 (.map (some b)) (.string k) (.bool true)).run Tryz.prog w = .ok () w' ∧ SetS w' b (n + 1) (L ++ [k]) (if memS L k then s else s + 1) ∧ w.grownBy w' (some b) := by
  obtain ⟨D, h1, h2, h3, h4, h5⟩ := h
  obtain ⟨w', hrun, ho, hg⟩ := h1.update Tryz.keyS Tryz.underlying132 hn (keyOf_string_mk Tryz.underlying9 hw) (plainElem_bool Tryz.underlying4 true)
  have hk : WideAt.IsKeyLit (.string k.data.toList) := Tryz.keyS.key (keyOf_string_mk Tryz.underlying9 hw)
  refine ⟨w', hrun, ⟨_, ho, h2.put hk _, fun k' => ?_, fun k' hc => ?_, ?_⟩, hg⟩
  · by_cases e : nb k = nb k'
    · rw [← nb_data.1 e, Maps.has_put_same h2.isMap hk, memS_snoc]; simp [e]
    · have e' : k'.data.toList ≠ k.data.toList := fun h => e (nb_data.2 h.symm)
      rw [Maps.has_put_other (by simpa using e'), h3, memS_snoc]
      simp [e]
  · by_cases e : nb k = nb k'
    · rw [← nb_data.1 e, Maps.atKey_put_same h2.isMap hk]
    · have e' : k'.data.toList ≠ k.data.toList := fun h => e (nb_data.2 h.symm)
      rw [Maps.atKey_put_other (by simpa using e')]
      refine h4 k' ?_
      rw [memS_snoc] at hc
      simpa [e] using hc
  · rw [Maps.size_put h2, h3, h5]
theorem SetS.len (h : SetS w b n L s) (ty : TypeId) : (Builtin.len_ #[132] ty #[.map (some b)]).run Tryz.prog w = .ok (.int .i64 s) w := by
  obtain ⟨D, h1, _, _, _, h5⟩ := h
  rw [h1.len Tryz.underlying132 ty, h5]
end
section
variable {w : World} {ops : Array Oper} {rest : List Oper} {o : Oper} {a : Act} {Q : Exit → Act → World → Prop} {b n s : Nat} {L : List ByteArray}
theorem wpl_slook (hgd : o.guard = none) (m x : Operand) (hop : o.op = Op.lookup 132 m x false) (hm : a.eval m = .map (some b)) (k : ByteArray) (hx : a.eval x = .string k) (hw : k.size ≤ maxLen) (h : SetS w b n L s)
    (hK : wpList Tryz.prog ops Q rest (a.put o.dst (.bool (memS L k))) w) : wpList Tryz.prog ops Q (o :: rest) a w := by
  refine wpList_plain hgd fun K' hK' => ?_
  unfold Oper.wp
  simp [execOp, hop, hm, hx, h.look hw, Result.andThen]
  exact hK' _ _ hK
theorem wpl_sput (hgd : o.guard = none) (m x v : Operand) (hop : o.op = Op.mapUpdate 132 m x v) (hm : a.eval m = .map (some b)) (k : ByteArray) (hx : a.eval x = .string k) (hv : a.eval v = .bool true) (hw : k.size ≤ maxLen) (h : SetS w b n L s) (hn : n < maxLen)
    (hK : ∀ w', SetS w' b (n + 1) (L ++ [k]) (if memS L k then s else s + 1) → w.grownBy w' (some b) → wpList Tryz.prog ops Q rest (a.put o.dst undef) w') : wpList Tryz.prog ops Q (o :: rest) a w := by
  refine wpList_plain hgd fun K' hK' => ?_
  obtain ⟨w', hrun, h1, h2⟩ := h.put hn hw
  unfold Oper.wp
  simp [execOp, hop, hm, hx, hv, hrun, Result.andThen]
  exact hK' _ _ (hK w' h1 h2)
theorem wpl_slen (hgd : o.guard = none) (m : Operand) (hop : o.op = Op.call { callee := Callee.builtin Builtin.len, args := #[m], argTypes := #[132] }) (hm : a.eval m = .map (some b)) (h : SetS w b n L s)
    (hK : wpList Tryz.prog ops Q rest (a.put o.dst (.int .i64 s)) w) : wpList Tryz.prog ops Q (o :: rest) a w := by
  refine wpList_plain hgd fun K' hK' => ?_
  unfold Oper.wp
  simp [execOp, hop, resolve, invoke, builtin, hm, h.len o.type, Result.andThen]
  exact hK' _ _ hK
end
end Go.Proofs.YtdgjjjdndedeiaaGreatDoor

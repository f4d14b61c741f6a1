/- Maps from strings to numbers that a call makes. Conditions: none. -/
import Derived.Test.YtgogiljplnninaaGreatDoorBun1
namespace Go.Proofs.YtgogiljplnninaaGreatDoor
open Go.RowKit Go.Maps Go.WideMaps

theorem Tryz.zeroSI (w : World) : (zeroValue 3).run Tryz.prog w = .ok (.int .i64 0) w := by kernel_rfl
theorem int_wf {n : Int} (h1 : -9223372036854775808 ≤ n) (h2 : n ≤ 9223372036854775807) : (Lit.int .i64 n).wf = true := by
  simp only [Lit.wf, Bool.and_eq_true, decide_eq_true_eq]
  exact ⟨h1, h2⟩
/-- The map in block b reads as f (0: no entry); at most n entries were put. -/
def MapSI (w : World) (b n : Nat) (f : ByteArray → Int) : Prop :=
  ∃ D : DataW Unit, w.ownsMap Tryz.prog 9 (plainElem Tryz.prog 3) b n D ∧ Maps.Tidy D ∧ ∀ k : ByteArray, D.atKey (.string k.data.toList) (.lit (.int .i64 0)) = .lit (.int .i64 (f k))
section
variable {w w' : World} {b n : Nat} {f : ByteArray → Int}
theorem MapSI.new (w : World) : MapSI (w.alloc (.map #[] 0)) w.heap.size 0 (fun _ => 0) := ⟨.map [], World.ownsMap_made _ _ _ _, Maps.tidy_empty, fun k => Maps.atKey_of_not_has rfl _⟩
theorem MapSI.kept {row : Option Nat} (h : MapSI w b n f) (hg : w.grownBy w' row) (hne : some b ≠ row) : MapSI w' b n f := by
  obtain ⟨D, h1, h2⟩ := h
  exact ⟨D, h1.kept hg hne, h2⟩
theorem MapSI.lt (h : MapSI w b n f) : b < w.heap.size := by obtain ⟨_, h1, _⟩ := h; exact h1.lt
theorem MapSI.look (h : MapSI w b n f) {k : ByteArray} (hw : k.size ≤ maxLen) : (Instr.lookup 86 (.map (some b)) (.string k) false).run Tryz.prog w = .ok (.int .i64 (f k)) w := by
  obtain ⟨D, h1, h2, h3⟩ := h
  obtain ⟨c, hrun, hat, _⟩ := h1.lookup_int Tryz.keyS Tryz.underlying86 Tryz.underlying3 (Tryz.zeroSI w) (keyOf_string_mk Tryz.underlying9 hw)
  rw [h3] at hat
  simp only [DataW.lit.injEq, Lit.int.injEq, true_and] at hat
  rw [hrun, hat]
theorem MapSI.put (h : MapSI w b n f) (hn : n < maxLen) {k : ByteArray} {v : Int} (hw : k.size ≤ maxLen) (hv : (Lit.int .i64 v).wf = true) : ∃ w', (Instr.mapUpdate 86 (.map (some b)) (.string k) (.int .i64 v)).run Tryz.prog w = .ok () w' ∧
    MapSI w' b (n + 1) (fun k' => if nb k = nb k' then v else f k') ∧ w.grownBy w' (some b) := by
  obtain ⟨D, h1, h2, h3⟩ := h
  obtain ⟨w', hrun, ho, hg⟩ := h1.update Tryz.keyS Tryz.underlying86 hn (keyOf_string_mk Tryz.underlying9 hw) (plainElem_int Tryz.underlying3 hv)
  have hk : WideAt.IsKeyLit (.string k.data.toList) := Tryz.keyS.key (keyOf_string_mk Tryz.underlying9 hw)
  refine ⟨w', hrun, ⟨_, ho, h2.put hk _, fun k' => ?_⟩, hg⟩
  dsimp only
  by_cases e : nb k = nb k'
  · rw [if_pos e, ← nb_data.1 e, Maps.atKey_put_same h2.isMap hk]
  · have e' : k'.data.toList ≠ k.data.toList := fun h => e (nb_data.2 h.symm)
    rw [if_neg e, Maps.atKey_put_other (by simpa using e'), h3]
end
section
variable {w : World} {ops : Array Oper} {rest : List Oper} {o : Oper} {a : Act} {Q : Exit → Act → World → Prop} {b n : Nat} {f : ByteArray → Int}
theorem wpl_silook (hgd : o.guard = none) (m x : Operand) (hop : o.op = Op.lookup 86 m x false) (hm : a.eval m = .map (some b)) (k : ByteArray) (hx : a.eval x = .string k) (hw : k.size ≤ maxLen) (h : MapSI w b n f)
    (hK : wpList Tryz.prog ops Q rest (a.put o.dst (.int .i64 (f k))) w) : wpList Tryz.prog ops Q (o :: rest) a w := by
  refine wpList_plain hgd fun K' hK' => ?_
  unfold Oper.wp
  simp [execOp, hop, hm, hx, h.look hw, Result.andThen]
  exact hK' _ _ hK
theorem wpl_siput (hgd : o.guard = none) (m x v : Operand) (hop : o.op = Op.mapUpdate 86 m x v) (hm : a.eval m = .map (some b)) (k : ByteArray) (u : Int) (hx : a.eval x = .string k) (hv : a.eval v = .int .i64 u) (hw : k.size ≤ maxLen) (hu : (Lit.int .i64 u).wf = true) (h : MapSI w b n f) (hn : n < maxLen)
    (hK : ∀ w', MapSI w' b (n + 1) (fun k' => if nb k = nb k' then u else f k') → w.grownBy w' (some b) → wpList Tryz.prog ops Q rest (a.put o.dst undef) w') : wpList Tryz.prog ops Q (o :: rest) a w := by
  refine wpList_plain hgd fun K' hK' => ?_
  obtain ⟨w', hrun, h1, h2⟩ := h.put hn hw hu
  unfold Oper.wp
  simp [execOp, hop, hm, hx, hv, hrun, Result.andThen]
  exact hK' _ _ (hK w' h1 h2)
end
end Go.Proofs.YtgogiljplnninaaGreatDoor

/- Maps from strings to strings that a call makes. Conditions: none. -/
import Derived.Test.YtdgjjjdndedeiaaGreatDoorSetS
import Derived.Maps.StringElems
namespace Go.Proofs.YtdgjjjdndedeiaaGreatDoor
open Go.RowKit Go.Maps Go.WideMaps

theorem Tryz.zeroSS (w : World) : (zeroValue 9).run Tryz.prog w = .ok (.string ⟨#[]⟩) w := by kernel_rfl
/-- The map in block b reads as f; at most n entries were put. -/
def MapSS (w : World) (b n : Nat) (f : ByteArray → Option ByteArray) : Prop :=
  ∃ D : DataW Unit, w.ownsMap Tryz.prog 9 (plainElem Tryz.prog 9) b n D ∧ Maps.Tidy D ∧ ∀ (k : ByteArray) zd, D.atKey (.string k.data.toList) zd = (f k).elim zd (fun s => .lit (.string s.data.toList))
section
variable {w w' : World} {b n : Nat} {f : ByteArray → Option ByteArray}
theorem MapSS.new (w : World) : MapSS (w.alloc (.map #[] 0)) w.heap.size 0 (fun _ => none) := ⟨.map [], World.ownsMap_made _ _ _ _, Maps.tidy_empty, fun k zd => Maps.atKey_of_not_has rfl zd⟩
theorem MapSS.kept {row : Option Nat} (h : MapSS w b n f) (hg : w.grownBy w' row) (hne : some b ≠ row) : MapSS w' b n f := by
  obtain ⟨D, h1, h2⟩ := h
  exact ⟨D, h1.kept hg hne, h2⟩
theorem MapSS.lt (h : MapSS w b n f) : b < w.heap.size := by obtain ⟨_, h1, _⟩ := h; exact h1.lt
theorem MapSS.look2 (h : MapSS w b n f) {k : ByteArray} (hw : k.size ≤ maxLen) : (Instr.lookup 109 (.map (some b)) (.string k) true).run Tryz.prog w = .ok (.tuple #[.string ((f k).getD ⟨#[]⟩), .bool (f k).isSome]) w := by
  obtain ⟨D, ⟨es, clock, hb, F, _, rfl⟩, _, h3⟩ := h
  rcases Maps.fit_look true Tryz.keyS Tryz.underlying109 (Tryz.zeroSS w) hb F (keyOf_string_mk Tryz.underlying9 hw) with ⟨hrun, _, hat⟩ | ⟨e0, y, _, _, hrun, hRv, hat, _⟩
  · rw [hrun]
    cases hf : f k with
    | none => rfl
    | some s =>
      have h4 := h3 k (.lit (.bool true))
      have h5 := h3 k (.lit (.bool false))
      rw [hat, hf] at h4 h5
      simp only [Option.elim] at h4 h5
      rw [← h5] at h4
      cases h4
  · rw [hrun]
    obtain ⟨s, hv, hy, _⟩ := plainElem_string_inv Tryz.underlying9 hRv
    subst hy
    rw [hv]
    have h4 := h3 k (.lit (.bool true))
    rw [hat] at h4
    cases hf : f k with
    | none => rw [hf] at h4; cases h4
    | some s' =>
      rw [hf] at h4
      simp only [Option.elim, DataW.lit.injEq, Lit.string.injEq] at h4
      have : s = s' := ByteArray.ext (Array.ext' h4)
      subst this
      rfl
theorem MapSS.put (h : MapSS w b n f) (hn : n < maxLen) {k v : ByteArray} (hw : k.size ≤ maxLen) (hv : v.size ≤ maxLen) : ∃ w', (Instr.mapUpdate 109 (.map (some b)) (.string k) (.string v)).run Tryz.prog w = .ok () w' ∧
    MapSS w' b (n + 1) (fun k' => if nb k = nb k' then some v else f k') ∧ w.grownBy w' (some b) := by
  obtain ⟨D, h1, h2, h3⟩ := h
  obtain ⟨w', hrun, ho, hg⟩ := h1.update Tryz.keyS Tryz.underlying109 hn (keyOf_string_mk Tryz.underlying9 hw) (plainElem_string Tryz.underlying9 hv)
  have hk : WideAt.IsKeyLit (.string k.data.toList) := Tryz.keyS.key (keyOf_string_mk Tryz.underlying9 hw)
  refine ⟨w', hrun, ⟨_, ho, h2.put hk _, fun k' zd => ?_⟩, hg⟩
  dsimp only
  by_cases e : nb k = nb k'
  · rw [if_pos e, ← nb_data.1 e, Maps.atKey_put_same h2.isMap hk]; rfl
  · have e' : k'.data.toList ≠ k.data.toList := fun h => e (nb_data.2 h.symm)
    rw [if_neg e, Maps.atKey_put_other (by simpa using e'), h3]
end
section
variable {w : World} {ops : Array Oper} {rest : List Oper} {o : Oper} {a : Act} {Q : Exit → Act → World → Prop} {b n : Nat} {f : ByteArray → Option ByteArray}
theorem wpl_sslook2 (hgd : o.guard = none) (m x : Operand) (hop : o.op = Op.lookup 109 m x true) (hm : a.eval m = .map (some b)) (k : ByteArray) (hx : a.eval x = .string k) (hw : k.size ≤ maxLen) (h : MapSS w b n f)
    (hK : wpList Tryz.prog ops Q rest (a.put o.dst (.tuple #[.string ((f k).getD ⟨#[]⟩), .bool (f k).isSome])) w) : wpList Tryz.prog ops Q (o :: rest) a w := by
  refine wpList_plain hgd fun K' hK' => ?_
  unfold Oper.wp
  simp [execOp, hop, hm, hx, h.look2 hw, Result.andThen]
  exact hK' _ _ hK
theorem wpl_ssput (hgd : o.guard = none) (m x v : Operand) (hop : o.op = Op.mapUpdate 109 m x v) (hm : a.eval m = .map (some b)) (k u : ByteArray) (hx : a.eval x = .string k) (hv : a.eval v = .string u) (hw : k.size ≤ maxLen) (hu : u.size ≤ maxLen) (h : MapSS w b n f) (hn : n < maxLen)
    (hK : ∀ w', MapSS w' b (n + 1) (fun k' => if nb k = nb k' then some u else f k') → w.grownBy w' (some b) → wpList Tryz.prog ops Q rest (a.put o.dst undef) w') : wpList Tryz.prog ops Q (o :: rest) a w := by
  refine wpList_plain hgd fun K' hK' => ?_
  obtain ⟨w', hrun, h1, h2⟩ := h.put hn hw hu
  unfold Oper.wp
  simp [execOp, hop, hm, hx, hv, hrun, Result.andThen]
  exact hK' _ _ (hK w' h1 h2)
end
end Go.Proofs.YtdgjjjdndedeiaaGreatDoor

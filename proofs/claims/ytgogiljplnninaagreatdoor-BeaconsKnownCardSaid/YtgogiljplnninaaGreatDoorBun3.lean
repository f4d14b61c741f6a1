/- Maps from strings to numbers that a call makes, read with the word whether there is an entry. Conditions: none. -/
import Derived.Test.YtgogiljplnninaaGreatDoorMapSI
import Derived.Maps.RangeWalk
import Derived.Sort.MapsRangeIn
namespace Go.Proofs.YtgogiljplnninaaGreatDoor
section
open Go.RowKit Go.Maps Go.WideMaps

/-- The map in block b reads as f; at most n entries were put. -/
def MapSO (w : World) (b n : Nat) (f : ByteArray → Option Int) : Prop :=
  ∃ D : DataW Unit, w.ownsMap Tryz.prog 9 (plainElem Tryz.prog 3) b n D ∧ Maps.Tidy D ∧ ∀ (k : ByteArray) zd, D.atKey (.string k.data.toList) zd = (f k).elim zd (fun s => .lit (.int .i64 s))
section
variable {w w' : World} {b n : Nat} {f : ByteArray → Option Int}
theorem MapSO.new (w : World) : MapSO (w.alloc (.map #[] 0)) w.heap.size 0 (fun _ => none) := ⟨.map [], World.ownsMap_made _ _ _ _, Maps.tidy_empty, fun k zd => Maps.atKey_of_not_has rfl zd⟩
theorem MapSO.kept {row : Option Nat} (h : MapSO w b n f) (hg : w.grownBy w' row) (hne : some b ≠ row) : MapSO w' b n f := by
  obtain ⟨D, h1, h2⟩ := h
  exact ⟨D, h1.kept hg hne, h2⟩
theorem MapSO.lt (h : MapSO w b n f) : b < w.heap.size := by obtain ⟨_, h1, _⟩ := h; exact h1.lt
theorem MapSO.look2 (h : MapSO w b n f) {k : ByteArray} (hw : k.size ≤ maxLen) : (Instr.lookup 86 (.map (some b)) (.string k) true).run Tryz.prog w = .ok (.tuple #[.int .i64 ((f k).getD 0), .bool (f k).isSome]) w := by
  obtain ⟨D, ⟨es, clock, hb, F, _, rfl⟩, _, h3⟩ := h
  rcases Maps.fit_look true Tryz.keyS Tryz.underlying86 (Tryz.zeroSI w) hb F (keyOf_string_mk Tryz.underlying9 hw) with ⟨hrun, _, hat⟩ | ⟨e0, y, _, _, hrun, hRv, hat, _⟩
  · rw [hrun]
    cases hf : f k with
    | none => rfl
    | some s =>
      have h4 := h3 k (.lit (.bool true))
      have h5 := h3 k (.lit (.bool false))
      rw [hat, hf] at h4 h5
      simp only [Option.elim] at h4 h5
      rw [← h5] at h4
      cases h4
  · rw [hrun]
    obtain ⟨s, hv, hy, _⟩ := plainElem_int_inv Tryz.underlying3 hRv
    subst hy
    rw [hv]
    have h4 := h3 k (.lit (.bool true))
    rw [hat] at h4
    cases hf : f k with
    | none => rw [hf] at h4; cases h4
    | some s' =>
      rw [hf] at h4
      simp only [Option.elim, DataW.lit.injEq, Lit.int.injEq, true_and] at h4
      subst h4
      rfl
theorem MapSO.put (h : MapSO w b n f) (hn : n < maxLen) {k : ByteArray} {v : Int} (hw : k.size ≤ maxLen) (hv : (Lit.int .i64 v).wf = true) : ∃ w', (Instr.mapUpdate 86 (.map (some b)) (.string k) (.int .i64 v)).run Tryz.prog w = .ok () w' ∧
    MapSO w' b (n + 1) (fun k' => if nb k = nb k' then some v else f k') ∧ w.grownBy w' (some b) := by
  obtain ⟨D, h1, h2, h3⟩ := h
  obtain ⟨w', hrun, ho, hg⟩ := h1.update Tryz.keyS Tryz.underlying86 hn (keyOf_string_mk Tryz.underlying9 hw) (plainElem_int Tryz.underlying3 hv)
  have hk : WideAt.IsKeyLit (.string k.data.toList) := Tryz.keyS.key (keyOf_string_mk Tryz.underlying9 hw)
  refine ⟨w', hrun, ⟨_, ho, h2.put hk _, fun k' zd => ?_⟩, hg⟩
  dsimp only
  by_cases e : nb k = nb k'
  · rw [if_pos e, ← nb_data.1 e, Maps.atKey_put_same h2.isMap hk]; rfl
  · have e' : k'.data.toList ≠ k.data.toList := fun h => e (nb_data.2 h.symm)
    rw [if_neg e, Maps.atKey_put_other (by simpa using e'), h3]
end
section
variable {w : World} {ops : Array Oper} {rest : List Oper} {o : Oper} {a : Act} {Q : Exit → Act → World → Prop} {b n : Nat} {f : ByteArray → Option Int}
theorem wpl_solook2 (hgd : o.guard = none) (m x : Operand) (hop : o.op = Op.lookup 86 m x true) (hm : a.eval m = .map (some b)) (k : ByteArray) (hx : a.eval x = .string k) (hw : k.size ≤ maxLen) (h : MapSO w b n f)
    (hK : wpList Tryz.prog ops Q rest (a.put o.dst (.tuple #[.int .i64 ((f k).getD 0), .bool (f k).isSome])) w) : wpList Tryz.prog ops Q (o :: rest) a w := by
  refine wpList_plain hgd fun K' hK' => ?_
  unfold Oper.wp
  simp [execOp, hop, hm, hx, h.look2 hw, Result.andThen]
  exact hK' _ _ hK
theorem wpl_soput (hgd : o.guard = none) (m x v : Operand) (hop : o.op = Op.mapUpdate 86 m x v) (hm : a.eval m = .map (some b)) (k : ByteArray) (u : Int) (hx : a.eval x = .string k) (hv : a.eval v = .int .i64 u) (hw : k.size ≤ maxLen) (hu : (Lit.int .i64 u).wf = true) (h : MapSO w b n f) (hn : n < maxLen)
    (hK : ∀ w', MapSO w' b (n + 1) (fun k' => if nb k = nb k' then some u else f k') → w.grownBy w' (some b) → wpList Tryz.prog ops Q rest (a.put o.dst undef) w') : wpList Tryz.prog ops Q (o :: rest) a w := by
  refine wpList_plain hgd fun K' hK' => ?_
  obtain ⟨w', hrun, h1, h2⟩ := h.put hn hw hu
  unfold Oper.wp
  simp [execOp, hop, hm, hx, hv, hrun, Result.andThen]
  exact hK' _ _ (hK w' h1 h2)
end
end
end Go.Proofs.YtgogiljplnninaaGreatDoor
/- Maps from strings to values of any kind, made by a call: read, put to, struck from, gone through. Conditions: none. -/
namespace Go.Proofs.YtgogiljplnninaaGreatDoor
section
open Go.RowKit Go.Maps Go.WideMaps

section
variable {α : Type}
open Classical in
/-- What reads an element: the value that the encoding makes it of. -/
noncomputable def encR (enc : α → Value) (v : Value) : Option (DataW α × List MemPlace) := if h : ∃ z, v = enc z then some (.held h.choose, []) else none
theorem encR_mk {enc : α → Value} (hi : ∀ a b, enc a = enc b → a = b) (z : α) : encR enc (enc z) = some (.held z, []) := by
  have h : ∃ y, enc z = enc y := ⟨z, rfl⟩
  unfold encR
  rw [dif_pos h, hi _ _ h.choose_spec.symm]
theorem encR_inv {enc : α → Value} {v : Value} {y : DataW α × List MemPlace} (h : encR enc v = some y) : ∃ c, v = enc c ∧ y = (.held c, []) := by
  unfold encR at h
  split at h
  · rename_i hx
    exact ⟨hx.choose, hx.choose_spec, (Option.some.inj h).symm⟩
  · cases h
/-- The map in block b reads as f; at most n entries were put. -/
def MapG (enc : α → Value) (w : World) (b n : Nat) (f : ByteArray → Option α) : Prop :=
  ∃ D : DataW α, w.ownsMap Tryz.prog 9 (encR enc) b n D ∧ Maps.Tidy D ∧ ∀ (k : ByteArray) zd, D.atKey (.string k.data.toList) zd = (f k).elim zd .held
/-- A loop over that map: L says which keys are still to come. -/
def RngG (enc : α → Value) (w : World) (b r n : Nat) (f : ByteArray → Option α) (L : ByteArray → Bool) (cnt : Nat) : Prop :=
  ∃ (D : DataW α) (left : Lit → Bool), w.ranges Tryz.prog 9 (encR enc) b r n D left cnt ∧ Maps.Tidy D ∧ (∀ (k : ByteArray) zd, D.atKey (.string k.data.toList) zd = (f k).elim zd .held) ∧ ∀ k : ByteArray, left (.string k.data.toList) = L k
section
variable {enc : α → Value} {w w' : World} {b r n cnt : Nat} {f : ByteArray → Option α} {L : ByteArray → Bool}
theorem MapG.new (enc : α → Value) (w : World) : MapG enc (w.alloc (.map #[] 0)) w.heap.size 0 (fun _ => none) := ⟨.map [], World.ownsMap_made _ _ _ _, Maps.tidy_empty, fun k zd => Maps.atKey_of_not_has rfl zd⟩
theorem MapG.kept {row : Option Nat} (h : MapG enc w b n f) (hg : w.grownBy w' row) (hne : some b ≠ row) : MapG enc w' b n f := by
  obtain ⟨D, h1, h2⟩ := h
  exact ⟨D, h1.kept hg hne, h2⟩
theorem MapG.lt (h : MapG enc w b n f) : b < w.heap.size := by obtain ⟨_, h1, _⟩ := h; exact h1.lt
theorem MapG.fn (h : MapG enc w b n f) {g : ByteArray → Option α} (e : ∀ k, f k = g k) : MapG enc w b n g := by
  obtain ⟨D, h1, h2, h3⟩ := h
  exact ⟨D, h1, h2, fun k zd => by rw [h3, e]⟩
theorem MapG.look (h : MapG enc w b n f) {t e : TypeId} (ht : Tryz.prog.underlying t = some (.map 9 e)) {zv : Value} (hz : (zeroValue e).run Tryz.prog w = .ok zv w) {k : ByteArray} (hw : k.size ≤ maxLen) :
    (Instr.lookup t (.map (some b)) (.string k) false).run Tryz.prog w = .ok ((f k).elim zv enc) w ∧ (Instr.lookup t (.map (some b)) (.string k) true).run Tryz.prog w = .ok (.tuple #[(f k).elim zv enc, .bool (f k).isSome]) w := by
  obtain ⟨D, ⟨es, clock, hb, F, _, rfl⟩, _, h3⟩ := h
  have key : ∀ c, (Instr.lookup t (.map (some b)) (.string k) c).run Tryz.prog w = .ok (if c then .tuple #[(f k).elim zv enc, .bool (f k).isSome] else (f k).elim zv enc) w := by
    intro c
    rcases Maps.fit_look c Tryz.keyS ht hz hb F (keyOf_string_mk Tryz.underlying9 hw) with ⟨hrun, _, hat⟩ | ⟨e0, y, _, _, hrun, hRv, hat, _⟩
    · rw [hrun]
      cases hf : f k with
      | none => rfl
      | some s =>
        have h4 := h3 k .nil
        rw [hat, hf] at h4
        cases h4
    · rw [hrun]
      obtain ⟨s, hv, hy⟩ := encR_inv hRv
      subst hy
      rw [hv]
      have h4 := h3 k .nil
      rw [hat] at h4
      cases hf : f k with
      | none => rw [hf] at h4; cases h4
      | some s' =>
        rw [hf] at h4
        simp only [Option.elim, DataW.held.injEq] at h4
        subst h4
        rfl
  exact ⟨key false, key true⟩
theorem MapG.put (hi : ∀ a b, enc a = enc b → a = b) (h : MapG enc w b n f) {t e : TypeId} (ht : Tryz.prog.underlying t = some (.map 9 e)) (hn : n < maxLen) {k : ByteArray} (v : α) (hw : k.size ≤ maxLen) : ∃ w', (Instr.mapUpdate t (.map (some b)) (.string k) (enc v)).run Tryz.prog w = .ok () w' ∧
    MapG enc w' b (n + 1) (fun k' => if nb k = nb k' then some v else f k') ∧ w.grownBy w' (some b) := by
  obtain ⟨D, h1, h2, h3⟩ := h
  obtain ⟨w', hrun, ho, hg⟩ := h1.update Tryz.keyS ht hn (keyOf_string_mk Tryz.underlying9 hw) (encR_mk hi v)
  have hk : WideAt.IsKeyLit (.string k.data.toList) := Tryz.keyS.key (keyOf_string_mk Tryz.underlying9 hw)
  refine ⟨w', hrun, ⟨_, ho, h2.put hk _, fun k' zd => ?_⟩, hg⟩
  dsimp only
  by_cases e : nb k = nb k'
  · rw [if_pos e, ← nb_data.1 e, Maps.atKey_put_same h2.isMap hk]; rfl
  · have e' : k'.data.toList ≠ k.data.toList := fun h => e (nb_data.2 h.symm)
    rw [if_neg e, Maps.atKey_put_other (by simpa using e'), h3]
theorem RngG.left_eq (h : RngG enc w b r n f L cnt) : w.rangeLeft b r = cnt := by obtain ⟨_, _, h1, _⟩ := h; exact h1.left_eq
theorem RngG.lt (h : RngG enc w b r n f L cnt) : r < w.heap.size := by obtain ⟨_, _, h1, _⟩ := h; exact h1.lt
theorem RngG.map (h : RngG enc w b r n f L cnt) : MapG enc w b n f := by obtain ⟨D, _, h1, h2, h3, _⟩ := h; exact ⟨D, h1.owns, h2, h3⟩
theorem RngG.kept {row : Option Nat} (h : RngG enc w b r n f L cnt) (hg : w.grownBy w' row) (hb : some b ≠ row) (hr : some r ≠ row) : RngG enc w' b r n f L cnt := by
  obtain ⟨D, left, h1, h2⟩ := h
  exact ⟨D, left, h1.kept hg hb hr, h2⟩
end
section
variable {enc : α → Value} {w : World} {ops : Array Oper} {rest : List Oper} {o : Oper} {a : Act} {Q : Exit → Act → World → Prop} {b r n cnt : Nat} {f : ByteArray → Option α} {L : ByteArray → Bool}
theorem wpl_glook2 (hgd : o.guard = none) (t : TypeId) (m x : Operand) (hop : o.op = Op.lookup t m x true) {e : TypeId} (ht : Tryz.prog.underlying t = some (.map 9 e)) {zv : Value} (hz : (zeroValue e).run Tryz.prog w = .ok zv w) (hm : a.eval m = .map (some b)) (k : ByteArray) (hx : a.eval x = .string k) (hw : k.size ≤ maxLen) (h : MapG enc w b n f)
    (hK : wpList Tryz.prog ops Q rest (a.put o.dst (.tuple #[(f k).elim zv enc, .bool (f k).isSome])) w) : wpList Tryz.prog ops Q (o :: rest) a w := by
  refine wpList_plain hgd fun K' hK' => ?_
  unfold Oper.wp
  simp [execOp, hop, hm, hx, (h.look ht hz hw).2, Result.andThen]
  exact hK' _ _ hK
theorem wpl_glook (hgd : o.guard = none) (t : TypeId) (m x : Operand) (hop : o.op = Op.lookup t m x false) {e : TypeId} (ht : Tryz.prog.underlying t = some (.map 9 e)) {zv : Value} (hz : (zeroValue e).run Tryz.prog w = .ok zv w) (hm : a.eval m = .map (some b)) (k : ByteArray) (hx : a.eval x = .string k) (hw : k.size ≤ maxLen) (h : MapG enc w b n f)
    (hK : wpList Tryz.prog ops Q rest (a.put o.dst ((f k).elim zv enc)) w) : wpList Tryz.prog ops Q (o :: rest) a w := by
  refine wpList_plain hgd fun K' hK' => ?_
  unfold Oper.wp
  simp [execOp, hop, hm, hx, (h.look ht hz hw).1, Result.andThen]
  exact hK' _ _ hK
theorem wpl_gput (hi : ∀ a b, enc a = enc b → a = b) (hgd : o.guard = none) (t : TypeId) (m x v : Operand) (hop : o.op = Op.mapUpdate t m x v) {e : TypeId} (ht : Tryz.prog.underlying t = some (.map 9 e)) (hm : a.eval m = .map (some b)) (k : ByteArray) (u : α) (hx : a.eval x = .string k) (hv : a.eval v = enc u) (hw : k.size ≤ maxLen) (h : MapG enc w b n f) (hn : n < maxLen)
    (hK : ∀ w', MapG enc w' b (n + 1) (fun k' => if nb k = nb k' then some u else f k') → w.grownBy w' (some b) → wpList Tryz.prog ops Q rest (a.put o.dst undef) w') : wpList Tryz.prog ops Q (o :: rest) a w := by
  refine wpList_plain hgd fun K' hK' => ?_
  obtain ⟨w', hrun, h1, h2⟩ := h.put hi ht hn u hw
  unfold Oper.wp
  simp [execOp, hop, hm, hx, hv, hrun, Result.andThen]
  exact hK' _ _ (hK w' h1 h2)
theorem wpl_grange (hgd : o.guard = none) (m : Operand) (t : TypeId) (hop : o.op = Op.range t m) {e : TypeId} (ht : Tryz.prog.underlying t = some (.map 9 e)) (hm : a.eval m = .map (some b)) (h : MapG enc w b n f)
    (hK : ∀ w' cnt, RngG enc w' b w.heap.size n f (fun k => (f k).isSome) cnt → w.grownBy w' none → w'.heap.size = w.heap.size + 1 → wpList Tryz.prog ops Q rest (a.put o.dst (.pointer (some ⟨w.heap.size, 0, none⟩))) w') : wpList Tryz.prog ops Q (o :: rest) a w := by
  obtain ⟨D, h1, h2, h3⟩ := h
  refine wpList_range_own w hgd m t hop 9 e Tryz.keyS ht (encR enc) b n D hm h1 fun w' hr hg hs => hK w' _ ⟨D, Maps.has D, hr, h2, h3, fun k => ?_⟩ hg hs
  cases hf : f k with
  | none => show Maps.has D _ = (f k).isSome; rw [hf]; exact Maps.has_false_of_atKey (fun z => by rw [h3, hf]; rfl)
  | some c => show Maps.has D _ = (f k).isSome; rw [hf]; exact Maps.has_true_of_atKey (y := .held c) (fun z => by rw [h3, hf]; rfl)
theorem wpl_gnext (hi : ∀ a b, enc a = enc b → a = b) (hgd : o.guard = none) (it : Operand) (hop : o.op = Op.next it false) (hit : a.eval it = .pointer (some ⟨r, 0, none⟩)) (h : RngG enc w b r n f L cnt)
    (hDone : (∀ k, L k = false) → wpList Tryz.prog ops Q rest (a.put o.dst (.tuple #[.bool false])) w)
    (hMore : ∀ (x : ByteArray) (c : α) w' cnt', f x = some c → L x = true → RngG enc w' b r n f (fun k => L k && decide (nb k ≠ nb x)) cnt' → cnt' < cnt → w.grownBy w' (some r) → w'.heap.size = w.heap.size →
      (Instr.entry (.pointer (some ⟨r, 0, none⟩))).run Tryz.prog w' = .ok (.tuple #[.string x, enc c]) w' → wpList Tryz.prog ops Q rest (a.put o.dst (.tuple #[.bool true, .string x, enc c])) w') : wpList Tryz.prog ops Q (o :: rest) a w := by
  obtain ⟨D, left, hr, h2, h3, hL⟩ := h
  refine wpList_next_ranges w hgd it hop 9 Tryz.keyS (encR enc) Value.string enc (fun key kl hk => Maps.keyOf_string_inv Tryz.underlying9 hk) (fun v y hv => by obtain ⟨c, hc, _⟩ := encR_inv hv; exact ⟨c, hc⟩) b r n D left cnt hit hr
    (fun _ hl => hDone (fun k => by rw [← hL, hl])) (fun x c kl y w' cnt' hkey hlk hv hat hrg hlt hgr hsz hen => ?_)
  rw [encR_mk hi] at hv
  obtain rfl := Option.some.inj hv
  simp [keyOf, Tryz.underlying9, mapKey] at hkey
  obtain ⟨hw, rfl⟩ := hkey
  refine hMore x c w' cnt' ?_ ((hL x).symm.trans hlk) ⟨D, _, hrg, h2, h3, fun k => ?_⟩ hlt hgr hsz hen
  · have h4 := h3 x .nil
    rw [hat] at h4
    cases hf : f x with
    | none => rw [hf] at h4; cases h4
    | some c' =>
      rw [hf] at h4
      simp only [Option.elim, DataW.held.injEq] at h4
      rw [h4]
  · dsimp only
    rw [hL]
    congr 1
    by_cases e : nb k = nb x
    · rw [nb_data.1 e]
      simp [Lit.sameKey, e]
    · have e' : k.data.toList ≠ x.data.toList := fun h => e (nb_data.2 h)
      simp only [Lit.sameKey]
      rw [beq_eq_false_iff_ne.2 e', decide_eq_true (show nb k ≠ nb x from e)]; rfl
end
end
end
end Go.Proofs.YtgogiljplnninaaGreatDoor

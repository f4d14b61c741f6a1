/- A region that draws its order and stores at its end: loads are taken first while the first store (number b) has not come up. Over any program. Conditions: none. -/
import Derived.Test.YtdgjjjdndedeiaaGreatDoorOwnR
import Derived.Test.YtdgjjjdndedeiaaGreatDoorLex
namespace Go.Proofs.YtdgjjjdndedeiaaGreatDoor
section
open Go.RowKit

theorem set_take_drop {xs : List Value} {p : Nat} (hp : p < xs.length) (v : Value) (r : List Value) : (xs.set p v).take (p + 1) ++ r ++ (xs.set p v).drop (p + 1 + r.length) = xs.take p ++ (v :: r) ++ xs.drop (p + (v :: r).length) := by
  have h : (xs.set p v)[p]? = some v := by simp [hp]
  have e1 : (xs.set p v).take (p + 1) = xs.take p ++ [v] := by
    rw [take_snoc' h, List.take_set, List.set_eq_of_length_le (by rw [List.length_take]; omega)]
  have e2 : (xs.set p v).drop (p + 1 + r.length) = xs.drop (p + 1 + r.length) := List.drop_set_of_lt (by omega)
  rw [e1, e2, List.length_cons, show p + (r.length + 1) = p + 1 + r.length by omega]
  simp
section
variable {P : Program} {lo size n c g : Nat} {e : TypeId}
theorem run_storeCells_own : ∀ (vs : List Value) (s j : Nat) (w : World) (xs : List Value), Own w lo e size (some ⟨g, 0, none⟩) n c xs → (∀ v ∈ vs, v.oneCell' = true) → s + j + vs.length ≤ n * size →
    ∃ w', (storeCells ⟨g, s, none⟩ vs j).run P w = .ok () w' ∧ Own w' lo e size (some ⟨g, 0, none⟩) n c (xs.take (s + j) ++ vs ++ xs.drop (s + j + vs.length)) ∧ w.grownBy w' (some g)
  | [], s, j, w, xs, h, _, _ => ⟨w, rfl, by simpa using h, gr_refl _ _⟩
  | v :: rest, s, j, w, xs, h, h1, hl => by
    have hlen := h.len
    have hp : s + j < n * size := by simp at hl; omega
    have hcell := h.cell hp
    rw [List.getElem?_eq_getElem (by omega)] at hcell
    have hfro := h.frozen (s + j)
    have hst : (store ((⟨g, s, none⟩ : Addr).add j) v).run P w = .ok () (w.setCell ⟨g, s + j, none⟩ v) := by
      rw [add_mk, run_store P w _ v _ (h1 v (by simp)), hcell]
      simp [hfro]
    have h2 := h.stored (s + j) v
    obtain ⟨w', hrun, h3, hg⟩ := run_storeCells_own rest s (j + 1) (w.setCell ⟨g, s + j, none⟩ v) _ h2 (fun x hx => h1 x (by simp [hx])) (by simp at hl; omega)
    refine ⟨w', ?_, ?_, gr_same (gr_setCell (gr_refl w (some g)) (.inl rfl) v) hg⟩
    · simp only [storeCells, Sem.run_bind, hst, Result.andThen_ok, hrun]
    · rw [← Nat.add_assoc, set_take_drop (by omega)] at h3
      exact h3
variable {w : World} {o : Oper} {a : Act} {K : Act → World → Prop} {Q : Exit → Act → World → Prop} {α : Type} {row : α → List Value} {k : Nat} {l : List α}
theorem wp_store_rec {ty : TypeId} (T : StructT P ty k) (hrow : ∀ a, (row a).length = k) (hk : 0 < k) (x y : Operand) (ho : o.op = .store ty x y) (i p : Nat) (hp : p = i * k) (hx : a.eval x = .pointer (some ⟨g, p, none⟩)) (z : α) (hy : a.eval y = .agg (row z).toArray)
    (h : OwnR row k w lo e (some ⟨g, 0, none⟩) n c l) (hi : i < n) (h1 : ∀ u ∈ row z, u.oneCell' = true)
    (hK : ∀ w', OwnR row k w' lo e (some ⟨g, 0, none⟩) n c (l.set i z) → w.grownBy w' (some g) → K (a.put o.dst undef) w') : o.wp P a w K Q := by
  subst hp
  obtain ⟨d, hd1, hd2, hd3⟩ := T
  have hle : i * k + k ≤ n * k := by have := Nat.mul_le_mul_right k (show i + 1 ≤ n by omega); rw [Nat.succ_mul] at this; exact this
  obtain ⟨w', hrun, h2, hg⟩ := run_storeCells_own (P := P) (row z) (i * k) 0 w _ h.1 h1 (by rw [hrow]; omega)
  obtain ⟨b, hb⟩ : ∃ b, l[i]? = some b := ⟨_, List.getElem?_eq_getElem (by rw [h.2]; exact hi)⟩
  have hf := flat_set hrow hk hb (a' := z) (ys := row z) 0 (by rw [hrow]; omega) (by rw [List.take_zero, List.nil_append, List.drop_of_length_le (by rw [hrow, hrow]; omega), List.append_nil])
  rw [hf] at h2
  cases hq : P.info? ty with
  | none => simp [hq] at hd3
  | some inf =>
    have hs : inf.size = k := by simpa [hq] using hd3
    unfold Oper.wp execOp
    have hst : (Instr.storeAt ty (.pointer (some ⟨g, i * k, none⟩)) (.agg (row z).toArray)).run P w = .ok () w' := by
      simp [Instr.storeAt, Instr.sureAddr, storeVar, sizeOf, typeInfo, hq, hs, Value.cells, hrow, hrun]
    simp only [ho, hx, hy, Sem.run_bind, Sem.run_pure, Result.andThen_ok, hst]
    exact hK w' ⟨h2, by rw [List.length_set]; exact h.2⟩ hg
end
end
section
variable {P : Program} {ops : Array Oper} {Q : Exit → Act → World → Prop} {md : Region.Mode} {S : World → Prop} {b : Nat}

/-- Whatever order is picked from here on; S holds behind every operation till number b has come up. -/
def wpAnyB (P : Program) (md : Region.Mode) (ops : Array Oper) (Q : Exit → Act → World → Prop) (S : World → Prop) (b : Nat) : Nat → Array Bool → Act → World → Prop
  | 0, listed, a, w => Region.ready md ops listed = [] ∧ Q .normal a w
  | fuel + 1, listed, a, w =>
    (Region.ready md ops listed = [] → Q .normal a w) ∧
    ∀ i ∈ Region.ready md ops listed, wpOp P ops Q i (fun a' w' => ((listed.setIfInBounds i true).getD b false = true ∨ S w') ∧ wpAnyB P md ops Q S b fuel (listed.setIfInBounds i true) a' w') a w
theorem wpAny_of_B : ∀ (fuel : Nat) (listed : Array Bool) (a : Act) (w : World), wpAnyB P md ops Q S b fuel listed a w → wpAny P md ops Q fuel listed a w
  | 0, _, _, _, h => h
  | fuel + 1, _, _, _, h => ⟨h.1, fun i hi => wpOp_mono (fun a' w' h' => wpAny_of_B fuel _ a' w' h'.2) (h.2 i hi)⟩
theorem wp_region_B {id : Nat} {a : Act} {w : World} (S : World → Prop) (b : Nat) (hm : P.follows .mixedOrders = true)
    (h : wpAnyB P .any ops Q S b ops.size (Array.replicate ops.size false) a w.drew) : (Code.region id ops true).wp P Q a w :=
  wp_region_any hm (wpAny_of_B (S := S) (b := b) _ _ _ _ h)
/-- S where the operation looks at memory, else nothing. -/
def memS0 (S : World → Prop) : Bool → World → Prop
  | true => S
  | false => fun _ => True
theorem wpAnyB_first {i : Nat} {oi : Oper} {v : Value} (mem : Bool) (hi : ops[i]? = some oi) (hsel : ∀ (j : Nat) (o : Oper) cs b, ops[j]? = some o → o.op ≠ .select cs b)
    (hQ : ∀ c a w, Q (.panic c) (a.put oi.dst v) w → Q (.panic c) a w) (hib : i ≠ b) (hwait : mem = true → Region.waitsFor md ops b i = true) :
    ∀ (fuel : Nat) (listed : Array Bool) (a : Act) (w : World), HeadInv md ops ops.size listed →
      (∀ j oj, ops[j]? = some oj → j ≠ i → listed.getD j true = false → (∀ e ∈ oj.after, Region.binds md e = true → e.on ≠ i) → oi.apart ops oj = true) →
      i ∈ Region.ready md ops listed → YieldsIf P ops (memS0 S mem) oi v a → (listed.getD b false = true ∨ S w) →
      wpAnyB P md ops Q S b fuel (listed.setIfInBounds i true) (a.put oi.dst v) w → wpAnyB P md ops Q S b (fuel + 1) listed a w := by
  have hm : ∀ (listed : Array Bool) (w : World), HeadInv md ops ops.size listed → listed.getD i true = false → (listed.getD b false = true ∨ S w) → memS0 S mem w := by
    intro listed w inv hun hS
    cases mem with
    | false => trivial
    | true =>
      rcases hS with h | h
      · obtain ⟨ob, hob, e, he, hb, hon⟩ := Region.waitsFor_spec (hwait rfl)
        have := inv.closed b ob hob h e he hb
        rw [hon, getD_both hun] at this
        cases this
      · exact h
  intro fuel
  induction fuel with
  | zero =>
    intro listed a w inv _ hr hy hS H
    have hun := (mem_ready.1 hr).1
    refine ⟨fun h => (by rw [h] at hr; cases hr), fun j hj => ?_⟩
    by_cases hji : j = i
    · subst hji; exact hy.wpOp hi (hm _ _ inv hun hS) ⟨by rw [getD_set_ne false hib]; exact hS, H⟩
    · have := ready_mono hj hji
      rw [H.1] at this
      cases this
  | succ fuel ih =>
    intro listed a w inv hfree hr hy hS H
    have hun := (mem_ready.1 hr).1
    refine ⟨fun h => (by rw [h] at hr; cases hr), fun j hj => ?_⟩
    by_cases hji : j = i
    · subst hji; exact hy.wpOp hi (hm _ _ inv hun hS) ⟨by rw [getD_set_ne false hib]; exact hS, H⟩
    · have h1 := H.2 j (ready_mono hj hji)
      obtain ⟨hjun, oj, hoj, hall⟩ := mem_ready.1 hj
      have hjn : j < ops.size := (Array.getElem?_eq_some_iff.1 hoj).1
      have hnot : ∀ e ∈ oj.after, Region.binds md e = true → e.on ≠ i := fun e he hb heq => by
        have h1 := hall e he hb
        rw [heq, getD_both hun] at h1
        cases h1
      have h2 := wpOp_putIf hoj (hfree j oj hoj hji hjun hnot) (fun cs b => hsel i oi cs b hi) (fun cs b => hsel j oj cs b hoj) hQ hy h1
      have hfree' : ∀ k ok, ops[k]? = some ok → k ≠ i → (listed.setIfInBounds j true).getD k true = false →
          (∀ e ∈ ok.after, Region.binds md e = true → e.on ≠ i) → oi.apart ops ok = true := fun k ok hk hki hkun hno => by
        refine hfree k ok hk hki ?_ hno
        by_cases hjk : j = k
        · subst hjk; exact hjun
        · rw [getD_set_ne true hjk] at hkun; exact hkun
      refine wpOp_mono (fun a' w' h3 => ?_) h2
      have hS' : (listed.setIfInBounds j true).getD b false = true ∨ S w' := by
        rcases h3.2.1 with h | h
        · left
          rw [Array.setIfInBounds_comm _ _ (Ne.symm hji), getD_set_ne false hib] at h
          exact h
        · exact .inr h
      refine ⟨hS', ih (listed.setIfInBounds j true) a' w' (inv.set hj hjn) hfree' (ready_mono hr (Ne.symm hji)) h3.1 hS' ?_⟩
      rw [Array.setIfInBounds_comm _ _ hji]
      exact h3.2.2
/-- What has come up is closed. -/
def closedB (md : Region.Mode) (ops : Array Oper) (listed : Array Bool) : Bool :=
  decide (listed.size = ops.size) && (List.range ops.size).all fun j => !listed.getD j false || (match ops[j]? with | some o => o.after.all fun e => !Region.binds md e || listed.getD e.on false | none => true)
theorem closedB_spec {listed : Array Bool} (h : closedB md ops listed = true) : HeadInv md ops ops.size listed := by
  unfold closedB at h
  simp only [Bool.and_eq_true, decide_eq_true_eq] at h
  obtain ⟨h1, h4⟩ := h
  refine ⟨h1, fun j oj hj hl e he hb => ?_, fun t ht ht2 => by omega⟩
  have hj2 := (Array.getElem?_eq_some_iff.1 hj).1
  have := List.all_eq_true.1 h4 j (List.mem_range.2 hj2)
  rw [hl, hj] at this
  simp only [Bool.not_true, Bool.false_or] at this
  have := Array.all_eq_true_iff_forall_mem.1 this e he
  rw [hb] at this
  simpa using this
def btakeB (md : Region.Mode) (ops : Array Oper) (b : Nat) (mem : Bool) (listed : Array Bool) (k : Nat) : Bool :=
  Region.noSelect ops && decide (k ≠ b) && (!mem || Region.waitsFor md ops b k) && closedB md ops listed && (Region.ready md ops listed).contains k && Region.free md ops listed k
variable {ls : List Oper}
/-- One that reckons (mem = false) or loads (mem = true). -/
theorem B_take {fuel k : Nat} {listed : Array Bool} {o : Oper} {a : Act} {w : World} (mem : Bool) (v : Value) (ho : opAt ls k = some o) (hB : btakeB md ls.toArray b mem listed k = true)
    (hQ : ∀ c a w, Q (.panic c) (a.put o.dst v) w → Q (.panic c) a w) (hw : Region.wanted o (yielded ls.toArray a.tmps) = true) (hy : ∀ w, memS0 S mem w → (execOp a.eval o).run P w = .ok (.value v) w) (hS : listed.getD b false = true ∨ S w)
    (h : wpAnyB P md ls.toArray Q S b fuel (listed.setIfInBounds k true) (a.put o.dst v) w) : wpAnyB P md ls.toArray Q S b (fuel + 1) listed a w := by
  unfold btakeB at hB
  simp only [Bool.and_eq_true, decide_eq_true_eq, Bool.or_eq_true, Bool.not_eq_true'] at hB
  obtain ⟨⟨⟨⟨⟨h1, h2⟩, h3⟩, h4⟩, h5⟩, h6⟩ := hB
  rw [opAt_eq] at ho
  exact wpAnyB_first mem ho (Region.noSelect_spec h1) hQ h2 (fun e => h3.resolve_left (by rw [e]; decide)) fuel listed a w (closedB_spec h4) (Region.free_spec ho h6) (by simpa using h5) (.inl ⟨hw, hy⟩) hS h
/-- One whose guard keeps it from running. -/
theorem B_skip {fuel k : Nat} {listed : Array Bool} {o : Oper} {a : Act} {w : World} (ho : opAt ls k = some o) (hB : btakeB md ls.toArray b false listed k = true)
    (hQ : ∀ c a w, Q (.panic c) (a.put o.dst undef) w → Q (.panic c) a w) (hw : Region.wanted o (yielded ls.toArray a.tmps) = false) (hS : listed.getD b false = true ∨ S w)
    (h : wpAnyB P md ls.toArray Q S b fuel (listed.setIfInBounds k true) (a.put o.dst undef) w) : wpAnyB P md ls.toArray Q S b (fuel + 1) listed a w := by
  unfold btakeB at hB
  simp only [Bool.and_eq_true, decide_eq_true_eq, Bool.or_eq_true, Bool.not_eq_true'] at hB
  obtain ⟨⟨⟨⟨⟨h1, h2⟩, h3⟩, h4⟩, h5⟩, h6⟩ := hB
  rw [opAt_eq] at ho
  exact wpAnyB_first false ho (Region.noSelect_spec h1) hQ h2 (fun e => by cases e) fuel listed a w (closedB_spec h4) (Region.free_spec ho h6) (by simpa using h5) (.inr ⟨hw, rfl⟩) hS h
/-- One that comes up alone. -/
theorem B_run {fuel k : Nat} {listed : Array Bool} {o : Oper} {a : Act} {w : World} (ho : opAt ls k = some o) (hr : Region.ready md ls.toArray listed = [k]) (hw : Region.wanted o (yielded ls.toArray a.tmps) = true)
    (h : ∀ K : Act → World → Prop, (∀ a' w', ((listed.setIfInBounds k true).getD b false = true ∨ S w') → wpAnyB P md ls.toArray Q S b fuel (listed.setIfInBounds k true) a' w' → K a' w') → o.wp P a w K Q) : wpAnyB P md ls.toArray Q S b (fuel + 1) listed a w := by
  refine ⟨fun h1 => (by rw [hr] at h1; cases h1), fun i hi => ?_⟩
  rw [hr] at hi
  have hik : i = k := by simpa using hi
  subst hik
  rw [opAt_eq] at ho
  unfold wpOp
  simp only [ho, hw, if_true]
  exact .inl (h _ fun a' w' h1 h2 => ⟨h1, h2⟩)
theorem B_done {listed : Array Bool} {a : Act} {w : World} (hr : Region.ready md ops listed = []) (h : Q .normal a w) : wpAnyB P md ops Q S b 0 listed a w := ⟨hr, h⟩
end
end Go.Proofs.YtdgjjjdndedeiaaGreatDoor

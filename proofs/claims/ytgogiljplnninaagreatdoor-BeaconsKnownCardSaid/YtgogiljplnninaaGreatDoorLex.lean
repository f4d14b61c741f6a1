/- A region that draws its order, walked once, in one order: loads and reckoning are taken first under a condition S on the world; the last operation may break S. Over any program. Conditions: none. -/
import Derived.OrdersHeld
import Derived.StillTail
import Derived.Tactics
namespace Go.Proofs.YtgogiljplnninaaGreatDoor
section
variable {P : Program} {ops : Array Oper} {Q : Exit → Act → World → Prop} {md : Region.Mode} {S : World → Prop} {last : Nat}

/-- Operations that only reckon or load. -/
def calmOp (o : Oper) : Bool :=
  match o.op with
  | .move _ | .assign _ | .pick .. | .build .. | .load .. | .nilCheck _ | .binOp .. | .unOp .. | .convert .. | .makeInterface .. | .slice .. | .fieldAddr .. | .field .. | .indexAddr .. | .index .. | .extract .. => true
  | .call c => match c.callee with | .builtin .len => true | .builtin .cap => true | _ => false
  | _ => false

/-- Whatever order is picked from here on; S holds behind every operation but the last. -/
def wpAnyE (P : Program) (md : Region.Mode) (ops : Array Oper) (Q : Exit → Act → World → Prop) (S : World → Prop) (last : Nat) : Nat → Array Bool → Act → World → Prop
  | 0, listed, a, w => Region.ready md ops listed = [] ∧ Q .normal a w
  | fuel + 1, listed, a, w =>
    (Region.ready md ops listed = [] → Q .normal a w) ∧
    ∀ i ∈ Region.ready md ops listed, wpOp P ops Q i (fun a' w' => (i = last ∨ S w') ∧ wpAnyE P md ops Q S last fuel (listed.setIfInBounds i true) a' w') a w

theorem wpAny_of_E : ∀ (fuel : Nat) (listed : Array Bool) (a : Act) (w : World), wpAnyE P md ops Q S last fuel listed a w → wpAny P md ops Q fuel listed a w
  | 0, _, _, _, h => h
  | fuel + 1, _, _, _, h => ⟨h.1, fun i hi => wpOp_mono (fun a' w' h' => wpAny_of_E fuel _ a' w' h'.2) (h.2 i hi)⟩

theorem head_set {n i : Nat} {listed : Array Bool} (inv : HeadInv md ops n listed) (hi : i ∈ Region.ready md ops listed) (hin : i < n) : HeadInv md ops n (listed.setIfInBounds i true) := inv.set hi hin

theorem wpAnyE_first {i : Nat} {oi : Oper} {v : Value} (hi : ops[i]? = some oi) (hsel : ∀ (j : Nat) (o : Oper) cs b, ops[j]? = some o → o.op ≠ .select cs b)
    (hQ : ∀ c a w, Q (.panic c) (a.put oi.dst v) w → Q (.panic c) a w)
    (hs : Region.sinkB md ops last = true) (hc : Region.chainB md ops last = true) (hn : last < ops.size) (hin : i < last) :
    ∀ (fuel : Nat) (listed : Array Bool) (a : Act) (w : World), HeadInv md ops last listed →
      (∀ j oj, ops[j]? = some oj → j ≠ i → listed.getD j true = false → (∀ e ∈ oj.after, Region.binds md e = true → e.on ≠ i) → oi.apart ops oj = true) →
      i ∈ Region.ready md ops listed → YieldsIf P ops S oi v a → S w →
      wpAnyE P md ops Q S last fuel (listed.setIfInBounds i true) (a.put oi.dst v) w → wpAnyE P md ops Q S last (fuel + 1) listed a w := by
  intro fuel
  induction fuel with
  | zero =>
    intro listed a w inv _ hr hy hS H
    refine ⟨fun h => (by rw [h] at hr; cases hr), fun j hj => ?_⟩
    by_cases hji : j = i
    · subst hji; exact hy.wpOp hi hS ⟨.inr hS, H⟩
    · have := ready_mono hj hji
      rw [H.1] at this
      cases this
  | succ fuel ih =>
    intro listed a w inv hfree hr hy hS H
    have hun := (mem_ready.1 hr).1
    refine ⟨fun h => (by rw [h] at hr; cases hr), fun j hj => ?_⟩
    have hjn : j < last := by
      rcases Nat.lt_or_ge j last with h | h
      · exact h
      · exact absurd hj (tail_waits hs hc hn inv _ i rfl hin hun j h)
    by_cases hji : j = i
    · subst hji; exact hy.wpOp hi hS ⟨.inr hS, H⟩
    · have h1 := H.2 j (ready_mono hj hji)
      obtain ⟨hjun, oj, hoj, hall⟩ := mem_ready.1 hj
      have hnot : ∀ e ∈ oj.after, Region.binds md e = true → e.on ≠ i := fun e he hb heq => by
        have h1 := hall e he hb
        rw [heq, getD_both hun] at h1
        cases h1
      have h2 := wpOp_putIf hoj (hfree j oj hoj hji hjun hnot) (fun cs b => hsel i oi cs b hi) (fun cs b => hsel j oj cs b hoj) hQ hy h1
      have hfree' : ∀ k ok, ops[k]? = some ok → k ≠ i → (listed.setIfInBounds j true).getD k true = false →
          (∀ e ∈ ok.after, Region.binds md e = true → e.on ≠ i) → oi.apart ops ok = true := fun k ok hk hki hkun hno => by
        refine hfree k ok hk hki ?_ hno
        by_cases hjk : j = k
        · subst hjk; exact hjun
        · rw [getD_set_ne true hjk] at hkun; exact hkun
      refine wpOp_mono (fun a' w' h3 => ?_) h2
      have hSw : S w' := h3.2.1.resolve_left (by omega)
      refine ⟨.inr hSw, ih (listed.setIfInBounds j true) a' w' (inv.set hj hjn) hfree' (ready_mono hr (Ne.symm hji)) h3.1 hSw ?_⟩
      rw [Array.setIfInBounds_comm _ _ hji]
      exact h3.2.2

/-- An order: each operation that only reckons or loads may be taken first, each other one comes up alone. -/
def lexB (md : Region.Mode) (ops : Array Oper) (last : Nat) : List Nat → Array Bool → Bool
  | [], listed => (Region.ready md ops listed).isEmpty
  | k :: l, listed =>
    (match ops[k]? with
      | some o => if calmOp o then decide (k < last) && (Region.ready md ops listed).contains k && Region.free md ops listed k else decide (Region.ready md ops listed = [k])
      | none => false) && (decide (k ≠ last) || l.isEmpty) && lexB md ops last l (listed.setIfInBounds k true)
def lexAll (md : Region.Mode) (ops : Array Oper) (perm : List Nat) : Bool :=
  Region.noSelect ops && decide (0 < ops.size) && decide (perm.length = ops.size) && Region.sinkB md ops (ops.size - 1) && lexB md ops (ops.size - 1) perm (Array.replicate ops.size false)

/-- The walk in that order. -/
def wpLex (P : Program) (ops : Array Oper) (Q : Exit → Act → World → Prop) (S : World → Prop) (last : Nat) : List Nat → Act → World → Prop
  | [], a, w => Q .normal a w
  | k :: l, a, w =>
    ∃ o, ops[k]? = some o ∧
    if calmOp o then ∃ v, YieldsIf P ops S o v a ∧ S w ∧ (∀ c a w, Q (.panic c) (a.put o.dst v) w → Q (.panic c) a w) ∧ wpLex P ops Q S last l (a.put o.dst v) w
    else wpOp P ops Q k (fun a' w' => (k = last ∨ S w') ∧ wpLex P ops Q S last l a' w') a w

theorem wpAnyE_of_lex (hsel : Region.noSelect ops = true) (hs : Region.sinkB md ops last = true) (hc : Region.chainB md ops last = true) (hn : last + 1 = ops.size) :
    ∀ (l : List Nat) (listed : Array Bool) (a : Act) (w : World), (l ≠ [] → HeadInv md ops last listed) →
    lexB md ops last l listed = true → wpLex P ops Q S last l a w → wpAnyE P md ops Q S last l.length listed a w
  | [], listed, _, _, _, hB, h => ⟨by simpa [lexB] using hB, h⟩
  | k :: l, listed, a, w, inv0, hB, h => by
    have inv := inv0 (by simp)
    simp only [lexB, Bool.and_eq_true] at hB
    simp only [wpLex] at h
    obtain ⟨o, h0, h⟩ := h
    rw [h0] at hB
    obtain ⟨⟨hB1, hB3⟩, hB2⟩ := hB
    have hkn : k < ops.size := (Array.getElem?_eq_some_iff.1 h0).1
    by_cases hcalm : calmOp o = true
    · simp only [hcalm, if_true, Bool.and_eq_true, decide_eq_true_eq] at hB1 h
      obtain ⟨⟨hlt, hr⟩, hf⟩ := hB1
      obtain ⟨v, hy, hS, hQ, hK⟩ := h
      have hr' : k ∈ Region.ready md ops listed := by simpa using hr
      exact wpAnyE_first h0 (Region.noSelect_spec hsel) hQ hs hc (by omega) hlt l.length listed a w inv (Region.free_spec h0 hf) hr' hy hS
        (wpAnyE_of_lex hsel hs hc hn l _ _ w (fun _ => inv.set hr' hlt) hB2 hK)
    · simp only [hcalm, Bool.false_eq_true, if_false] at hB1 h
      have hrd : Region.ready md ops listed = [k] := of_decide_eq_true hB1
      refine ⟨fun h1 => (by rw [hrd] at h1; cases h1), fun i hi => ?_⟩
      have hi' := hi
      rw [hrd] at hi
      have hik : i = k := by simpa using hi
      subst hik
      refine wpOp_mono (fun a' w' h' => ⟨h'.1, ?_⟩) h
      refine wpAnyE_of_lex hsel hs hc hn l _ a' w' (fun hne => inv.set hi' ?_) hB2 h'.2
      rw [Bool.or_eq_true, decide_eq_true_eq, List.isEmpty_iff] at hB3
      have := hB3.resolve_right hne
      omega

theorem wp_region_lex {id : Nat} {a : Act} {w : World} (S : World → Prop) (perm : List Nat) (hm : P.follows .mixedOrders = true) (hB : lexAll .any ops perm = true)
    (h : wpLex P ops Q S (ops.size - 1) perm a w.drew) : (Code.region id ops true).wp P Q a w := by
  simp only [lexAll, Bool.and_eq_true, decide_eq_true_eq] at hB
  obtain ⟨⟨⟨⟨hsel, h0⟩, hlen⟩, hs⟩, hlex⟩ := hB
  have hc : Region.chainB .any ops (ops.size - 1) = true := by
    unfold Region.chainB
    rw [List.all_eq_true]
    intro t ht
    have := List.mem_range.1 ht
    rw [Bool.or_eq_true]
    exact .inl (decide_eq_true (by omega))
  have inv0 : HeadInv .any ops (ops.size - 1) (Array.replicate ops.size false) :=
    ⟨by simp, fun j oj _ hl => (by rw [getD_replicate_false] at hl; cases hl), fun t _ ht => getD_in (by simpa using ht) (getD_replicate_false _ _)⟩
  refine wp_region_any hm (wpAny_of_E (S := S) (last := ops.size - 1) _ _ _ _ ?_)
  have := wpAnyE_of_lex (md := .any) hsel hs hc (by omega) perm _ a w.drew (fun _ => inv0) hlex h
  rw [hlen] at this
  exact this

/-! The moves. -/
/-- An operation of a list, so that a look at it reckons. -/
def opAt : List Oper → Nat → Option Oper
  | [], _ => none
  | o :: _, 0 => some o
  | _ :: l, n + 1 => opAt l n
theorem opAt_eq : ∀ (l : List Oper) (k : Nat), opAt l k = l.toArray[k]?
  | [], _ => by simp [opAt]
  | o :: l, 0 => by simp [opAt]
  | o :: l, n + 1 => by have := opAt_eq l n; simpa [opAt] using this
variable {ls : List Oper}
theorem lex_take {o : Oper} {l : List Nat} {k : Nat} {a : Act} {w : World} (v : Value) (ho : opAt ls k = some o) (hc : calmOp o = true) (hQ : ∀ c a w, Q (.panic c) (a.put o.dst v) w → Q (.panic c) a w)
    (hw : Region.wanted o (yielded ls.toArray a.tmps) = true) (hy : ∀ w, S w → (execOp a.eval o).run P w = .ok (.value v) w) (hS : S w)
    (h : wpLex P ls.toArray Q S last l (a.put o.dst v) w) : wpLex P ls.toArray Q S last (k :: l) a w := by
  simp only [wpLex]
  rw [opAt_eq] at ho
  refine ⟨o, ho, ?_⟩
  rw [if_pos hc]
  exact ⟨v, .inl ⟨hw, hy⟩, hS, hQ, h⟩
theorem lex_skip {o : Oper} {l : List Nat} {k : Nat} {a : Act} {w : World} (ho : opAt ls k = some o) (hc : calmOp o = true) (hQ : ∀ c a w, Q (.panic c) (a.put o.dst undef) w → Q (.panic c) a w)
    (hw : Region.wanted o (yielded ls.toArray a.tmps) = false) (hS : S w)
    (h : wpLex P ls.toArray Q S last l (a.put o.dst undef) w) : wpLex P ls.toArray Q S last (k :: l) a w := by
  simp only [wpLex]
  rw [opAt_eq] at ho
  refine ⟨o, ho, ?_⟩
  rw [if_pos hc]
  exact ⟨undef, .inr ⟨hw, rfl⟩, hS, hQ, h⟩
theorem lex_run {o : Oper} {l : List Nat} {k : Nat} {a : Act} {w : World} (ho : opAt ls k = some o) (hc : calmOp o = false) (hw : Region.wanted o (yielded ls.toArray a.tmps) = true)
    (h : ∀ K : Act → World → Prop, (∀ a' w', (k = last ∨ S w') → wpLex P ls.toArray Q S last l a' w' → K a' w') → o.wp P a w K Q) : wpLex P ls.toArray Q S last (k :: l) a w := by
  simp only [wpLex]
  rw [opAt_eq] at ho
  refine ⟨o, ho, ?_⟩
  rw [if_neg (by rw [hc]; decide)]
  unfold wpOp
  simp only [ho, hw, if_true]
  exact .inl (h _ fun a' w' h1 h2 => ⟨h1, h2⟩)
theorem lex_pass {o : Oper} {l : List Nat} {k : Nat} {a : Act} {w : World} (ho : opAt ls k = some o) (hc : calmOp o = false) (hw : Region.wanted o (yielded ls.toArray a.tmps) = false) (hS : S w)
    (h : wpLex P ls.toArray Q S last l (a.put o.dst undef) w) : wpLex P ls.toArray Q S last (k :: l) a w := by
  simp only [wpLex]
  rw [opAt_eq] at ho
  refine ⟨o, ho, ?_⟩
  rw [if_neg (by rw [hc]; decide)]
  unfold wpOp
  simp only [ho, hw, Bool.false_eq_true, if_false]
  exact ⟨.inr hS, h⟩
theorem lex_end {a : Act} {w : World} (h : Q .normal a w) : wpLex P ls.toArray Q S last [] a w := h
end
end Go.Proofs.YtgogiljplnninaaGreatDoor

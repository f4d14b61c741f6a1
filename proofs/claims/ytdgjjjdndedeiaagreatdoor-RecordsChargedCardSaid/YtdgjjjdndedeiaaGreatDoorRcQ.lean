/- Records, charges, invoices: plain laws: right records have their own Ids; sums of charges. Conditions: none. -/
import Derived.Test.YtdgjjjdndedeiaaGreatDoorRcP
import Derived.Test.YtdgjjjdndedeiaaGreatDoorIdx
namespace Go.Proofs.YtdgjjjdndedeiaaGreatDoor

/-- What a right record is. -/
def RcRight (z : RcV) : Prop := keyOk (nb z.id) = true ∧ (phOk (nb z.frm) && phOk (nb z.too)) = true ∧ rcNum z = true ∧ inB z.how 1 4 = true ∧ ((z.how == 1) == decide (0 < z.talk)) = true
theorem rcAt_right {l : List RcV} {i : Nat} {z : RcV} (h : l[i]? = some z) (h0 : rcAt l i = 0) : RcRight z := by
  cases h1 : keyOk (nb z.id)
  · rw [rcAt_5 h h1] at h0; exact absurd h0 (by decide)
  · cases h2 : (phOk (nb z.frm) && phOk (nb z.too))
    · rw [rcAt_3 h h1 h2] at h0; exact absurd h0 (by decide)
    · cases h3 : rcNum z
      · rw [rcAt_1 h h1 h2 h3] at h0; exact absurd h0 (by decide)
      · cases h4 : inB z.how 1 4
        · rw [rcAt_4 h h1 h2 h3 h4] at h0; exact absurd h0 (by decide)
        · cases h5 : ((z.how == 1) == decide (0 < z.talk))
          · rw [rcAt_3b h h1 h2 h3 h4 h5] at h0; exact absurd h0 (by decide)
          · exact ⟨h1, h2, h3, h4, h5⟩
theorem RcRight.talk {z : RcV} (h : RcRight z) : 0 ≤ z.talk ∧ z.talk ≤ 86400000 ∧ (z.how = 1 ↔ 0 < z.talk) ∧ 0 ≤ z.at_ ∧ z.at_ ≤ 345686399999 ∧ 0 ≤ z.ring ∧ z.ring ≤ 86400000 := by
  obtain ⟨_, _, h3, _, h5⟩ := h
  unfold rcNum momB inB at h3
  simp only [Bool.and_eq_true, decide_eq_true_eq] at h3
  obtain ⟨⟨⟨a1, a2⟩, r1, r2⟩, t1, t2⟩ := h3
  refine ⟨t1, t2, ?_, a1, a2, r1, r2⟩
  rw [beq_iff_eq] at h5
  constructor
  · intro e
    rw [show (z.how == 1) = true from by rw [e]; rfl] at h5
    exact of_decide_eq_true h5.symm
  · intro e
    rw [decide_eq_true e, beq_iff_eq] at h5
    exact h5
theorem dup_dist {l : List RcV} : ∀ (k : Nat), k ≤ l.length → dupB l k = false → Dist ((l.take k).map (·.id))
  | 0, _, _ => by rw [List.take_zero]; exact List.Pairwise.nil
  | k + 1, hk, h => by
    have hs : l[k]? = some l[k] := List.getElem?_eq_getElem (by omega)
    unfold dupB at h
    rw [hs, Bool.or_eq_false_iff] at h
    obtain ⟨h1, h2⟩ := h
    rw [take_snoc' hs, List.map_append]
    unfold Dist
    rw [List.pairwise_append]
    refine ⟨dup_dist k (by omega) h1, List.pairwise_singleton _ _, fun a ha b hb => ?_⟩
    rw [List.mem_singleton.1 hb]
    exact memS_false h2 a ha
theorem rcs_right {l : List RcV} (h : rcsE l = 0) : l.length ≤ 3000 ∧ (∀ r ∈ l, RcRight r) ∧ Dist (l.map (·.id)) := by
  unfold rcsE at h
  by_cases h1 : 3000 < l.length
  · rw [if_pos h1] at h; exact absurd h (by decide)
  · rw [if_neg h1] at h
    by_cases h2 : fstE (rcAt l) l.length = 0
    · rw [if_pos h2] at h
      refine ⟨by omega, fun r hr => ?_, ?_⟩
      · obtain ⟨i, hi⟩ := List.mem_iff_getElem?.1 hr
        have hl := (List.getElem?_eq_some_iff.1 hi).1
        exact rcAt_right hi (fstE_all h2 i hl)
      · cases h3 : dupB l l.length
        · have := dup_dist l.length (Nat.le_refl _) h3
          rwa [List.take_of_length_le (Nat.le_refl _)] at this
        · rw [h3, if_pos rfl] at h; exact absurd h (by decide)
    · rw [if_neg h2] at h; exact absurd h h2
/-- In records with Ids of their own, a record is found by its Id. -/
theorem rc_find {l : List RcV} (hd : Dist (l.map (·.id))) {r : RcV} (hr : r ∈ l) {s : ByteArray} (hs : nb s = nb r.id) : ∃ k : Nat, idxP (fun x : RcV => nb x.id == nb s) l = k ∧ l[k]? = some r := by
  obtain ⟨k, hk⟩ := List.mem_iff_getElem?.1 hr
  refine ⟨k, idxP_some (p := fun x : RcV => nb x.id == nb s) ?_ hk (by rw [hs]; exact beq_self_eq_true _), hk⟩
  rw [List.all_eq_true]
  intro x hx
  obtain ⟨j, hj⟩ := List.mem_iff_getElem?.1 hx
  rw [List.getElem?_take] at hj
  by_cases hlt : j < k
  · rw [if_pos hlt] at hj
    have h1 := (List.getElem?_eq_some_iff.1 hj).1
    have h2 := (List.getElem?_eq_some_iff.1 hk).1
    have := List.pairwise_iff_getElem.1 hd j k (by simpa using h1) (by simpa using h2) hlt
    rw [List.getElem_map, List.getElem_map, (List.getElem?_eq_some_iff.1 hj).2, (List.getElem?_eq_some_iff.1 hk).2] at this
    rw [hs]
    simpa using this
  · rw [if_neg hlt] at hj; cases hj

/-! Bounds of prices. -/
theorem priceOf_bd {c : ClV} (h : clNum c = true) {talk : Int} (h1 : 0 ≤ talk) (h2 : talk ≤ 86400000) : 0 ≤ priceOf c talk ∧ priceOf c talk ≤ 86400001000000 := by
  unfold priceOf
  obtain ⟨b1, _, b3, b4, b5⟩ := clNum_bd h
  have := price_bd h h1 h2
  rw [steps_eq b4] at this
  split
  · omega
  · omega
/-- What is known of a charge with its record. -/
def ChOk (x : ChV × RcV) : Prop := 0 ≤ x.1.free ∧ x.1.free ≤ x.2.talk ∧ 0 ≤ x.1.cost ∧ x.1.cost ≤ 86400001000000
section
variable {t : TfV} {p : List PyV} {month : Int} {l : List RcV}
theorem chg_ok (ht : 0 ≤ t.free) (hc : ∀ c ∈ t.cl, clNum c = true) (hr : ∀ r ∈ l, RcRight r) (hcls : ∀ s c, clsOf t.cl s = some c → c ∈ t.cl) : ∀ (k : Nat) (x : ChV × RcV), x ∈ (chgTo t p month l k).1 → ChOk x
  | 0, x, h => by cases h
  | k + 1, x, h => by
    cases hl : l[k]? with
    | none => rw [chgTo, hl] at h; exact chg_ok ht hc hr hcls k x h
    | some r =>
      cases hp : paysFor t p month r with
      | none => rw [chgTo_skip hl hp] at h; exact chg_ok ht hc hr hcls k x h
      | some q =>
        obtain ⟨who, c⟩ := q
        rw [chgTo_add hl hp] at h
        rcases List.mem_append.1 h with h | h
        · exact chg_ok ht hc hr hcls k x h
        · rw [List.mem_singleton.1 h]
          have hrr := (hr r (mem_of_get hl)).talk
          have hf := free_bd (p := p) (month := month) ht (fun r h => (hr r h).talk.1) k hl who c
          have hcn := hc c (hcls _ _ (paysFor_some hp).2.2.2)
          have := priceOf_bd hcn (talk := r.talk - freeOf t (chgTo t p month l k).2 who c r) (by omega) (by omega)
          exact ⟨hf.1, hf.2, this.1, this.2⟩
end
theorem chgTo_len (t : TfV) (p : List PyV) (month : Int) (l : List RcV) : ∀ k, (chgTo t p month l k).1.length ≤ k
  | 0 => Nat.le_refl _
  | k + 1 => by
    have ih := chgTo_len t p month l k
    cases hl : l[k]? with
    | none => rw [chgTo, hl]; dsimp only; omega
    | some r =>
      cases hp : paysFor t p month r with
      | none => rw [chgTo_skip hl hp]; omega
      | some q =>
        obtain ⟨who, c⟩ := q
        rw [chgTo_add hl hp]
        simp; omega
def chgAll (t : TfV) (p : List PyV) (month : Int) (l : List RcV) : List (ChV × RcV) := (chgTo t p month l l.length).1

/-! Invoices. -/
structure InV where
  pay : ByteArray
  month : Int
  calls : Int
  talk : Int
  cents : Int
def InV.row (v : InV) : List Value := [.string v.pay, .int .i64 v.month, .int .i64 v.calls, .int .i64 v.talk, .int .i64 v.cents]
theorem InV.row_len (v : InV) : v.row.length = 5 := rfl
/-- Calls, talk and cost of the first k charges that somebody pays. -/
def inSum (ch : List (ChV × RcV)) (who : ByteArray) : Nat → Int × Int × Int
  | 0 => (0, 0, 0)
  | k + 1 => (ch[k]?).elim (inSum ch who k) fun x => if nb x.1.pay = nb who then ((inSum ch who k).1 + 1, (inSum ch who k).2.1 + x.2.talk, (inSum ch who k).2.2 + x.1.cost) else inSum ch who k
section
variable {ch : List (ChV × RcV)} {who : ByteArray} {k : Nat} {x : ChV × RcV}
theorem inSum_hit (h : ch[k]? = some x) (e : nb x.1.pay = nb who) : inSum ch who (k + 1) = ((inSum ch who k).1 + 1, (inSum ch who k).2.1 + x.2.talk, (inSum ch who k).2.2 + x.1.cost) := by
  rw [inSum, h]; simp only [Option.elim, if_pos e]
theorem inSum_miss (h : ch[k]? = some x) (e : ¬ nb x.1.pay = nb who) : inSum ch who (k + 1) = inSum ch who k := by
  rw [inSum, h]; simp only [Option.elim, if_neg e]
theorem inSum_bd (h : ∀ x ∈ ch, ChOk x ∧ x.2.talk ≤ 86400000) (who : ByteArray) : ∀ k : Nat, 0 ≤ (inSum ch who k).1 ∧ (inSum ch who k).1 ≤ k ∧ 0 ≤ (inSum ch who k).2.1 ∧ (inSum ch who k).2.1 ≤ 86400000 * k ∧ 0 ≤ (inSum ch who k).2.2 ∧ (inSum ch who k).2.2 ≤ 86400001000000 * k
  | 0 => by simp [inSum]
  | k + 1 => by
    have ih := inSum_bd h who k
    cases hc : ch[k]? with
    | none => rw [inSum, hc]; simp only [Option.elim]; omega
    | some x =>
      obtain ⟨⟨a1, a2, a3, a4⟩, a5⟩ := h x (mem_of_get hc)
      by_cases e : nb x.1.pay = nb who
      · rw [inSum_hit hc e]; dsimp only; omega
      · rw [inSum_miss hc e]; omega
end
def invOf (month : Int) (ch : List (ChV × RcV)) (who : ByteArray) : InV := ⟨who, month, (inSum ch who ch.length).1, (inSum ch who ch.length).2.1, (inSum ch who ch.length).2.2 / 1000⟩
def invTo (month : Int) (ch : List (ChV × RcV)) (p : List PyV) : Nat → List InV
  | 0 => []
  | k + 1 => invTo month ch p k ++ ((p[k]?).elim [] fun y => if 0 < (inSum ch y.key ch.length).1 then [invOf month ch y.key] else [])
section
variable {month : Int} {ch : List (ChV × RcV)} {p : List PyV} {k : Nat} {y : PyV}
theorem invTo_hit (h : p[k]? = some y) (e : 0 < (inSum ch y.key ch.length).1) : invTo month ch p (k + 1) = invTo month ch p k ++ [invOf month ch y.key] := by
  rw [invTo, h]; simp only [Option.elim, if_pos e]
theorem invTo_miss (h : p[k]? = some y) (e : ¬ 0 < (inSum ch y.key ch.length).1) : invTo month ch p (k + 1) = invTo month ch p k := by
  rw [invTo, h]; simp only [Option.elim, if_neg e, List.append_nil]
end
theorem invTo_len (month : Int) (ch : List (ChV × RcV)) (p : List PyV) : ∀ k, (invTo month ch p k).length ≤ k
  | 0 => Nat.le_refl _
  | k + 1 => by
    have ih := invTo_len month ch p k
    cases hl : p[k]? with
    | none => rw [invTo, hl]; simp; omega
    | some y =>
      by_cases e : 0 < (inSum ch y.key ch.length).1
      · rw [invTo_hit hl e]; simp; omega
      · rw [invTo_miss hl e]; omega

/-! Records of which nobody pays. -/
def paidB (t : TfV) (p : List PyV) (r : RcV) : Bool := (payerOf p (nb r.frm)).isSome && (clsOf t.cl (nb r.too)).isSome
def unpB (t : TfV) (p : List PyV) (r : RcV) : Bool := decide (0 < r.talk) && !paidB t p r
def unpTo (t : TfV) (p : List PyV) (l : List RcV) : Nat → List Int
  | 0 => []
  | k + 1 => unpTo t p l k ++ ((l[k]?).elim [] fun r => if unpB t p r then [(k : Int)] else [])
section
variable {t : TfV} {p : List PyV} {l : List RcV} {k : Nat} {r : RcV}
theorem unpTo_hit (h : l[k]? = some r) (e : unpB t p r = true) : unpTo t p l (k + 1) = unpTo t p l k ++ [(k : Int)] := by
  rw [unpTo, h]; simp only [Option.elim, e, if_true]
theorem unpTo_miss (h : l[k]? = some r) (e : unpB t p r = false) : unpTo t p l (k + 1) = unpTo t p l k := by
  rw [unpTo, h]; simp only [Option.elim, e, Bool.false_eq_true, if_false, List.append_nil]
end
theorem unpTo_len (t : TfV) (p : List PyV) (l : List RcV) : ∀ k, (unpTo t p l k).length ≤ k
  | 0 => Nat.le_refl _
  | k + 1 => by
    have ih := unpTo_len t p l k
    cases hl : l[k]? with
    | none => rw [unpTo, hl]; simp; omega
    | some y =>
      cases e : unpB t p y
      · rw [unpTo_miss hl e]; omega
      · rw [unpTo_hit hl e]; simp; omega
end Go.Proofs.YtdgjjjdndedeiaaGreatDoor

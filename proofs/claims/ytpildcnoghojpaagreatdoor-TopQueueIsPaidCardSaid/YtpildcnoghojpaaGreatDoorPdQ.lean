/- Plain Lean: records of the seats of a play are right, in order, and charged as long as they were talked. Conditions: none. -/
import Derived.Test.YtpildcnoghojpaaGreatDoorBun5
import Derived.Test.YtpildcnoghojpaaGreatDoorGenQueR
import Derived.Test.YtpildcnoghojpaaGreatDoorBun4
import Derived.Test.YtpildcnoghojpaaGreatDoorRc6
import Derived.Test.YtpildcnoghojpaaGreatDoorRc8
namespace Go.Proofs.YtpildcnoghojpaaGreatDoor
open Go.Shelf Go.RowKit Go.Lib Go.Sort

/-- The record of a seat. -/
def qRec (c : CaV) (z : SeV) : RcV :=
  if z.ag.toList = [] then ⟨z.ca, ⟨#[43, 49, 50, 48, 48]⟩, ⟨#[43, 52, 57, 51, 48, 49]⟩, c.at_, 0, 0, 2, ⟨#[]⟩⟩
  else ⟨z.ca, ⟨#[43, 49, 50, 48, 48]⟩, ⟨#[43, 52, 57, 51, 48, 49]⟩, c.at_, z.beg - c.at_, z.fin - z.beg, 1, ⟨#[]⟩⟩
def qRecs (C : List CaV) (Z : List SeV) : List RcV := List.zipWith qRec C Z
/-- What is known of the record of number j. -/
structure RecG (j : Nat) (r : RcV) : Prop where
  id : nb r.id = [99, 97 + j]
  j8 : j < 8
  frm : r.frm = ⟨#[43, 49, 50, 48, 48]⟩
  too : r.too = ⟨#[43, 52, 57, 51, 48, 49]⟩
  at_ : 0 ≤ r.at_ ∧ r.at_ ≤ 100
  ring : 0 ≤ r.ring ∧ r.ring ≤ 1000
  talk : 0 ≤ r.talk ∧ r.talk ≤ 30
  how : (r.how = 2 ∧ r.talk = 0) ∨ (r.how = 1 ∧ 1 ≤ r.talk)
  car : r.car = ⟨#[]⟩
structure RecsG (l : List RcV) : Prop where
  all : ∀ j r, l[j]? = some r → RecG j r
  ord : l.Pairwise fun x y => x.at_ ≤ y.at_
section
variable {A : List AgV} {C : List CaV} {Z : List SeV} {t : Int}
theorem caNum_talk {c : CaV} (h : caNum c = true) : 1 ≤ c.talk := by
  unfold caNum inB at h
  simp only [Bool.and_eq_true, decide_eq_true_eq] at h
  omega
theorem qRec_g {c : CaV} {z : SeV} {j : Nat} (hc : CalQ j c) (hz : SeatG A c z) (hA : ∀ a ∈ A, a.til ≤ 1000) : RecG j (qRec c z) := by
  have h1 := caNum_talk hc.num
  have h2 := hc.at_
  have h30 := hc.t30
  unfold qRec
  by_cases e : z.ag.toList = []
  · rw [if_pos e]
    exact ⟨by rw [hz.1]; exact hc.id, hc.j8, rfl, rfl, h2, ⟨Int.le_refl _, by show (0 : Int) ≤ 1000; omega⟩, ⟨Int.le_refl _, by show (0 : Int) ≤ 30; omega⟩, .inl ⟨rfl, rfl⟩, rfl⟩
  · rw [if_neg e]
    obtain ⟨q1, ⟨a, ha, q2⟩, q3⟩ := hz.2.resolve_left e
    have := hA a ha
    exact ⟨by rw [hz.1]; exact hc.id, hc.j8, rfl, rfl, h2, ⟨by dsimp only; omega, by dsimp only; omega⟩, ⟨by dsimp only; omega, by dsimp only; omega⟩, .inr ⟨rfl, by dsimp only; omega⟩, rfl⟩
theorem qRecs_get {i : Nat} {r : RcV} (h : (qRecs C Z)[i]? = some r) : ∃ c z, C[i]? = some c ∧ Z[i]? = some z ∧ r = qRec c z := by
  unfold qRecs at h
  rw [List.getElem?_zipWith] at h
  cases hc : C[i]? with
  | none => rw [hc] at h; cases h
  | some c =>
    cases hz : Z[i]? with
    | none => rw [hc, hz] at h; cases h
    | some z => rw [hc, hz] at h; injection h with h; exact ⟨c, z, rfl, rfl, h.symm⟩
theorem qRec_at (c : CaV) (z : SeV) : (qRec c z).at_ = c.at_ := by unfold qRec; split <;> rfl
theorem qRecs_g (hC : CasQ C t) (hZ : ∀ (i : Nat) z c, Z[i]? = some z → C[i]? = some c → SeatG A c z) (hA : ∀ a ∈ A, a.til ≤ 1000) : RecsG (qRecs C Z) := by
  refine ⟨fun j r hr => ?_, List.pairwise_iff_getElem.2 fun i j hi hj hij => ?_⟩
  · obtain ⟨c, z, hc, hz, rfl⟩ := qRecs_get hr
    exact qRec_g (hC.all j c hc).1 (hZ j z c hz hc) hA
  · obtain ⟨c, z, hc, _, e1⟩ := qRecs_get (List.getElem?_eq_getElem hi)
    obtain ⟨d, y, hd, _, e2⟩ := qRecs_get (List.getElem?_eq_getElem hj)
    rw [e1, e2, qRec_at, qRec_at]
    obtain ⟨k1, w1⟩ := List.getElem?_eq_some_iff.1 hc
    obtain ⟨k2, w2⟩ := List.getElem?_eq_some_iff.1 hd
    have := List.pairwise_iff_getElem.1 hC.ord i j k1 k2 hij
    rw [w1, w2] at this
    exact this
end

/-! The order of the records. -/
def idN (j : Nat) : ByteArray := ⟨#[99, (97 + j).toUInt8]⟩
theorem idN_nb (j : Nat) (h : j < 8) : nb (idN j) = [99, 97 + j] := by
  rcases (by omega : j = 0 ∨ j = 1 ∨ j = 2 ∨ j = 3 ∨ j = 4 ∨ j = 5 ∨ j = 6 ∨ j = 7) with rfl | rfl | rfl | rfl | rfl | rfl | rfl | rfl <;> decide +kernel
theorem idN_lt : ((List.range 8).all fun i => (List.range 8).all fun j => !decide (i < j) || decide (cmpS (idN i) (idN j) < 0)) = true := by decide +kernel
theorem id_lt {a b : ByteArray} {i j : Nat} (ha : nb a = [99, 97 + i]) (hb : nb b = [99, 97 + j]) (hij : i < j) (hj : j < 8) : cmpS a b < 0 := by
  have e1 : a = idN i := nb_inj (by rw [ha, idN_nb i (by omega)])
  have e2 : b = idN j := nb_inj (by rw [hb, idN_nb j hj])
  have h := List.all_eq_true.1 (List.all_eq_true.1 idN_lt i (List.mem_range.2 (by omega))) j (List.mem_range.2 hj)
  rw [decide_eq_true hij] at h
  rw [e1, e2]
  simpa using h
/-- Go's < on strings. -/
def ltQ (a b : ByteArray) : Bool := Op.bytesLess a.toList b.toList
/-- The law's order. -/
def cfQ (a b : RcV) : Int := if a.at_ = b.at_ then (if ltQ a.id b.id then -1 else 1) else a.at_ - b.at_
theorem ltQ_neg (a b : ByteArray) : ltQ a b = decide (cmpS a b < 0) := ltS_cmp a b
theorem cfQ_lt (a b : RcV) : cfQ a b < 0 ↔ a.at_ < b.at_ ∨ (a.at_ = b.at_ ∧ cmpS a.id b.id < 0) := by
  unfold cfQ
  rw [ltQ_neg]
  by_cases e : a.at_ = b.at_
  · rw [if_pos e]
    by_cases e2 : cmpS a.id b.id < 0
    · rw [decide_eq_true e2, if_pos rfl]
      exact ⟨fun _ => .inr ⟨e, e2⟩, fun _ => by omega⟩
    · rw [decide_eq_false e2, if_neg (by decide)]
      exact ⟨fun h => by omega, fun h => by omega⟩
  · rw [if_neg e]; omega
theorem swoQ : SWO (ltOf cfQ) where
  irrefl x := by
    unfold ltOf
    rw [decide_eq_false_iff_not, cfQ_lt]
    have : cmpS x.id x.id = 0 := cmpS_zero.2 rfl
    omega
  trans x y z h1 h2 := by
    unfold ltOf at *
    rw [decide_eq_true_eq, cfQ_lt] at *
    rcases h1 with h1 | ⟨h1, h3⟩ <;> rcases h2 with h2 | ⟨h2, h4⟩
    · exact .inl (by omega)
    · exact .inl (by omega)
    · exact .inl (by omega)
    · exact .inr ⟨by omega, cmpS_trans h3 h4⟩
  ntrans x y z h1 h2 := by
    unfold ltOf at *
    rw [decide_eq_false_iff_not, cfQ_lt] at *
    intro h3
    have n1 := cmpS_neg x.id y.id
    have n2 := cmpS_neg y.id z.id
    rcases h3 with h3 | ⟨h3, h4⟩
    · omega
    · by_cases e1 : cmpS x.id y.id = 0
      · have e2 : cmpS x.id z.id = cmpS y.id z.id := by
          have q := cmpS_zero.1 e1
          unfold cmpS
          rw [nb_inj q]
        omega
      · by_cases e2 : cmpS y.id z.id = 0
        · have e3 : cmpS x.id z.id = cmpS x.id y.id := by
            have q := cmpS_zero.1 e2
            exact (cmpS_eqr q).symm
          omega
        · have q : cmpS x.id z.id < 0 → cmpS z.id y.id < 0 → cmpS x.id y.id < 0 := fun a b => cmpS_trans a b
          omega
section
variable {l : List RcV}
theorem RecsG.len (h : RecsG l) : l.length ≤ 8 := by
  rcases Nat.lt_or_ge 8 l.length with hlt | hge
  · have := (h.all 8 l[8] (List.getElem?_eq_getElem hlt)).j8
    omega
  · exact hge
theorem RecsG.lt (h : RecsG l) {i j : Nat} {a b : RcV} (ha : l[i]? = some a) (hb : l[j]? = some b) (hij : i < j) : cfQ a b < 0 := by
  have g1 := h.all i a ha
  have g2 := h.all j b hb
  rw [cfQ_lt]
  obtain ⟨k1, w1⟩ := List.getElem?_eq_some_iff.1 ha
  obtain ⟨k2, w2⟩ := List.getElem?_eq_some_iff.1 hb
  have ho := List.pairwise_iff_getElem.1 h.ord i j k1 k2 hij
  rw [w1, w2] at ho
  rcases Int.lt_or_eq_of_le ho with e | e
  · exact .inl e
  · exact .inr ⟨e, id_lt g1.id g2.id hij g2.j8⟩
theorem RecsG.asc (h : RecsG l) : Asc cfQ l := by
  refine List.pairwise_iff_getElem.2 fun i j hi hj hij => ?_
  have h1 := h.lt (List.getElem?_eq_getElem hi) (List.getElem?_eq_getElem hj) hij
  intro h2
  rw [cfQ_lt] at h1 h2
  have := cmpS_neg l[i].id l[j].id
  omega
/-- Sorting leaves them as they are. -/
theorem RecsG.same (h : RecsG l) {l' : List RcV} (hp : l'.Perm l) (ha : Asc cfQ l') : l' = l := by
  refine asc_unique hp ha h.asc fun x hx y hy h1 h2 => ?_
  obtain ⟨i, hi⟩ := List.mem_iff_getElem?.1 (hp.mem_iff.1 hx)
  obtain ⟨j, hj⟩ := List.mem_iff_getElem?.1 (hp.mem_iff.1 hy)
  rcases Nat.lt_trichotomy i j with e | e | e
  · exact absurd (h.lt hi hj e) h1
  · subst e
    rw [hi] at hj
    exact Option.some.inj hj
  · exact absurd (h.lt hj hi e) h2
theorem RecsG.e (h : RecsG l) : rcsE l = 0 := by
  have hl := h.len
  have h1 : fstE (rcAt l) l.length = 0 := fstE_nil _ fun i hi => by
    have hx : l[i]? = some l[i] := List.getElem?_eq_getElem hi
    obtain ⟨g1, g2, g3, g4, g5, g6, g7, g8, g9⟩ := h.all i _ hx
    have k1 : keyOk (nb l[i].id) = true := by rw [g1]; exact key_c i g2
    have k2 : (phOk (nb l[i].frm) && phOk (nb l[i].too)) = true := by rw [g3, g4]; decide +kernel
    have k3 : rcNum l[i] = true := by
      unfold rcNum momB inB
      simp only [Bool.and_eq_true, decide_eq_true_eq]; omega
    have k4 : inB l[i].how 1 4 = true := by
      unfold inB
      simp only [Bool.and_eq_true, decide_eq_true_eq]; omega
    have k5 : ((l[i].how == 1) == decide (0 < l[i].talk)) = true := by
      rcases g8 with ⟨q1, q2⟩ | ⟨q1, q2⟩
      · rw [q1, q2]; decide
      · rw [q1, decide_eq_true (show 0 < l[i].talk by omega)]; decide
    have k6 : rcCar l[i] = true := by unfold rcCar; rw [g9]; decide +kernel
    by_cases h0 : 0 < i
    · have hi1 : i - 1 < l.length := by omega
      have hb : l[i - 1]? = some l[i - 1] := List.getElem?_eq_getElem hi1
      refine rcAt_e hx k1 k2 k3 k4 k5 k6 hb ?_
      have hlt := h.lt hb hx (show i - 1 < i by omega)
      rw [cfQ_lt] at hlt
      unfold rcCmp
      rcases hlt with q | ⟨q, q2⟩
      · rw [if_neg (by omega), if_pos q]; omega
      · rw [if_pos q]; omega
    · exact rcAt_z hx k1 k2 k3 k4 k5 k6 h0
  have h2 : ∀ k, dupB l k = false := by
    intro k
    induction k with
    | zero => rfl
    | succ k ih =>
      unfold dupB
      rw [ih, Bool.false_or]
      cases hx : l[k]? with
      | none => rfl
      | some r =>
        show memS ((l.take k).map (·.id)) r.id = false
        unfold memS
        rw [List.any_eq_false]
        intro x hx2 e
        obtain ⟨y, hy, rfl⟩ := List.mem_map.1 hx2
        obtain ⟨q, hq⟩ := List.mem_iff_getElem?.1 hy
        rw [List.getElem?_take] at hq
        split at hq
        · rename_i hqk
          have e1 := (h.all q y hq).id
          have e2 := (h.all k r hx).id
          have e3 : nb y.id = nb r.id := by simpa using e
          rw [e1, e2] at e3
          injection e3 with _ e3
          injection e3 with e3 _
          omega
        · cases hq
  unfold rcsE
  rw [if_neg (by omega), if_pos h1, h2]; rfl
end

/-! What is charged. -/
def tq0 (cA : Option Addr) : TfV := ⟨cA, 1, 1, 0, none, 0, 0, [⟨⟨#[43, 52, 57]⟩, ⟨#[104, 111, 109, 101]⟩, 0, 0, 1, 3⟩], []⟩
def pq0 (nA : Option Addr) : List PyV := [⟨⟨#[97, 110, 110]⟩, nA, 1, 1, [⟨#[43, 49, 50, 48, 48]⟩]⟩]
theorem tq0_e (cA : Option Addr) : tarE (tq0 cA) = 0 := by kernel_rfl
theorem pq0_e (nA : Option Addr) : pysE (pq0 nA) = 0 := by kernel_rfl
theorem tq0_cls (cA : Option Addr) : clsOf (tq0 cA).cl (nb ⟨#[43, 52, 57, 51, 48, 49]⟩) = some ⟨⟨#[43, 52, 57]⟩, ⟨#[104, 111, 109, 101]⟩, 0, 0, 1, 3⟩ := by kernel_rfl
theorem pq0_pay (nA : Option Addr) : payerOf (pq0 nA) (nb ⟨#[43, 49, 50, 48, 48]⟩) = some ⟨⟨#[97, 110, 110]⟩, nA, 1, 1, [⟨#[43, 49, 50, 48, 48]⟩]⟩ := by kernel_rfl
/-- The charge of a record. -/
def chq (r : RcV) : ChV × RcV := (⟨r.id, ⟨#[97, 110, 110]⟩, ⟨#[104, 111, 109, 101]⟩, 0, 3 * r.talk⟩, r)
def chqs (l : List RcV) : List (ChV × RcV) := (l.filter fun r => decide (r.talk ≠ 0)).map chq
section
variable {l : List RcV} {cA nA : Option Addr}
theorem pays_q {r : RcV} {j : Nat} (h : RecG j r) (ht : r.talk ≠ 0) : paysFor (tq0 cA) (pq0 nA) 0 r = some (⟨#[97, 110, 110]⟩, ⟨⟨#[43, 52, 57]⟩, ⟨#[104, 111, 109, 101]⟩, 0, 0, 1, 3⟩) := by
  unfold paysFor
  have := h.at_
  rw [if_neg (by omega), h.frm, h.too, pq0_pay, Option.bind_some, tq0_cls]
  rfl
theorem chg_q {r : RcV} {j : Nat} (h : RecG j r) (ht : r.talk ≠ 0) (used : ByteArray → Int) : chgOf (tq0 cA) used ⟨#[97, 110, 110]⟩ ⟨⟨#[43, 52, 57]⟩, ⟨#[104, 111, 109, 101]⟩, 0, 0, 1, 3⟩ r = (chq r).1 := by
  have h0 := h.talk
  have hf : freeOf (tq0 cA) used ⟨#[97, 110, 110]⟩ ⟨⟨#[43, 52, 57]⟩, ⟨#[104, 111, 109, 101]⟩, 0, 0, 1, 3⟩ r = 0 := rfl
  unfold chgOf
  rw [hf]
  unfold chq priceOf
  dsimp only
  rw [Int.sub_zero, if_neg ht, Int.sub_zero, Int.max_eq_right h0.1, Int.add_sub_cancel, Int.ediv_one, Int.zero_add]
theorem chgTo_q (h : RecsG l) : ∀ k, (chgTo (tq0 cA) (pq0 nA) 0 l k).1 = chqs (l.take k)
  | 0 => by rw [List.take_zero]; rfl
  | k + 1 => by
    have ih := chgTo_q h k
    cases hl : l[k]? with
    | none =>
      rw [chgTo, hl]
      have h1 := List.getElem?_eq_none_iff.1 hl
      rw [List.take_of_length_le (by omega)]
      rw [List.take_of_length_le (by omega)] at ih
      exact ih
    | some r =>
      have e1 : l.take (k + 1) = l.take k ++ [r] := take_snoc' hl
      by_cases ht : r.talk = 0
      · rw [chgTo_skip hl (by unfold paysFor; rw [if_pos (.inl ht)]), e1, ih]
        unfold chqs
        rw [List.filter_append, List.filter_cons_of_neg (by simp [ht]), List.filter_nil, List.append_nil]
      · rw [chgTo_add hl (pays_q (h.all k r hl) ht), e1, ih]
        dsimp only
        rw [chg_q (h.all k r hl) ht]
        unfold chqs
        rw [List.filter_append, List.filter_cons_of_pos (by simp [ht]), List.filter_nil, List.map_append]
        rfl
theorem chgAll_q (h : RecsG l) : chgAll (tq0 cA) (pq0 nA) 0 l = chqs l := by
  unfold chgAll
  rw [chgTo_q h, List.take_of_length_le (Nat.le_refl _)]
theorem mon_q (h : RecsG l) : monE (tq0 cA) (pq0 nA) l 0 = 0 := by
  unfold monE useE
  rw [if_pos (by rw [if_pos (tq0_e cA), if_pos (pq0_e nA)]; exact h.e)]
  rfl
/-- How long was talked. -/
def talkS (l : List RcV) : Int := (l.map (·.talk)).sum
def costS (l : List ChV) : Int := (l.map (·.cost)).sum
theorem cost_q (l : List RcV) : costS ((chqs l).map (·.1)) = 3 * talkS l := by
  induction l with
  | nil => rfl
  | cons r l ih =>
    unfold chqs costS talkS at *
    by_cases ht : r.talk = 0
    · rw [List.filter_cons_of_neg (by simp [ht]), ih, List.map_cons, List.sum_cons, ht]; omega
    · rw [List.filter_cons_of_pos (by simp [ht]), List.map_cons, List.map_cons, List.map_cons, List.sum_cons, ih, List.map_cons, List.sum_cons]
      show 3 * r.talk + _ = _
      omega
theorem chgL_q (h : RecsG l) : chgL (tq0 cA) (pq0 nA) l 0 = (chqs l).map (·.1) := by
  unfold chgL
  rw [if_pos (mon_q h), chgAll_q h]
theorem inSum_q (l : List RcV) : ∀ k, k ≤ (chqs l).length → inSum (chqs l) ⟨#[97, 110, 110]⟩ k = ((k : Int), talkS (((chqs l).take k).map (·.2)), costS (((chqs l).take k).map (·.1)))
  | 0, _ => rfl
  | k + 1, hk => by
    have hx : (chqs l)[k]? = some (chqs l)[k] := List.getElem?_eq_getElem (by omega)
    have hp : nb (chqs l)[k].1.pay = nb ⟨#[97, 110, 110]⟩ := by
      have hm : (chqs l)[k] ∈ chqs l := List.getElem_mem _
      obtain ⟨r, _, e⟩ := List.mem_map.1 (show (chqs l)[k] ∈ (l.filter fun r => decide (r.talk ≠ 0)).map chq from hm)
      rw [← e]; rfl
    rw [inSum_hit hx hp, inSum_q l k (by omega), take_snoc' hx]
    unfold talkS costS
    simp only [List.map_append, List.sum_append, List.map_cons, List.map_nil, List.sum_cons, List.sum_nil]
    refine Prod.ext ?_ (Prod.ext ?_ ?_) <;> dsimp only <;> omega
theorem talk_q (l : List RcV) : talkS ((chqs l).map (·.2)) = talkS l := by
  induction l with
  | nil => rfl
  | cons r l ih =>
    unfold chqs talkS at *
    by_cases ht : r.talk = 0
    · rw [List.filter_cons_of_neg (by simp [ht]), ih, List.map_cons, List.sum_cons, ht]; omega
    · rw [List.filter_cons_of_pos (by simp [ht]), List.map_cons, List.map_cons, List.map_cons, List.sum_cons, ih, List.map_cons, List.sum_cons]
      rfl
theorem talk_pos (h : ∀ r ∈ l, 0 ≤ r.talk) : 0 ≤ talkS l ∧ (chqs l = [] ↔ talkS l = 0) := by
  induction l with
  | nil => exact ⟨by decide, fun _ => rfl, fun _ => rfl⟩
  | cons r l ih =>
    obtain ⟨i1, i2⟩ := ih fun x hx => h x (List.mem_cons_of_mem _ hx)
    have hr := h r (List.mem_cons_self ..)
    unfold chqs talkS at *
    rw [List.map_cons, List.sum_cons]
    by_cases ht : r.talk = 0
    · rw [List.filter_cons_of_neg (by simp [ht]), ht]
      exact ⟨by omega, by rw [i2]; constructor <;> intro e <;> omega⟩
    · rw [List.filter_cons_of_pos (by simp [ht]), List.map_cons]
      exact ⟨by omega, ⟨(fun e => by cases e), (fun e => by omega)⟩⟩
theorem talk_bd (h : ∀ r ∈ l, r.talk ≤ 30) : talkS l ≤ 30 * l.length := by
  induction l with
  | nil => exact Int.le_refl _
  | cons r l ih =>
    have := ih fun x hx => h x (List.mem_cons_of_mem _ hx)
    have := h r (List.mem_cons_self ..)
    unfold talkS at *
    rw [List.map_cons, List.sum_cons, List.length_cons]
    omega
/-- The invoices. -/
theorem invL_q (h : RecsG l) : invL (tq0 cA) (pq0 nA) l 0 = if talkS l = 0 then [] else [⟨⟨#[97, 110, 110]⟩, 0, ((chqs l).length : Int), talkS l, 3 * talkS l / 1000⟩] := by
  unfold invL
  rw [if_pos (mon_q h), chgAll_q h]
  have hs := inSum_q l (chqs l).length (Nat.le_refl _)
  rw [List.take_of_length_le (Nat.le_refl _), talk_q, cost_q] at hs
  have hp := (talk_pos (l := l) fun r hr => by
    obtain ⟨j, hj⟩ := List.mem_iff_getElem?.1 hr
    exact (h.all j r hj).talk.1).2
  show invTo 0 (chqs l) (pq0 nA) 1 = _
  by_cases e : talkS l = 0
  · rw [if_pos e]
    have hn : chqs l = [] := hp.2 e
    rw [invTo_miss (k := 0) (y := ⟨⟨#[97, 110, 110]⟩, nA, 1, 1, [⟨#[43, 49, 50, 48, 48]⟩]⟩) rfl (by dsimp only; rw [hs, hn]; simp)]
    rfl
  · rw [if_neg e]
    have hn : 0 < (chqs l).length := by
      rcases Nat.eq_zero_or_pos (chqs l).length with q | q
      · exact absurd (hp.1 (List.eq_nil_of_length_eq_zero q)) e
      · exact q
    rw [invTo_hit (k := 0) (y := ⟨⟨#[97, 110, 110]⟩, nA, 1, 1, [⟨#[43, 49, 50, 48, 48]⟩]⟩) rfl (by dsimp only; rw [hs]; dsimp only; omega)]
    unfold invOf
    dsimp only
    rw [hs]
    rfl
end
end Go.Proofs.YtpildcnoghojpaaGreatDoor

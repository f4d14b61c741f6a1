/- Tariffs and payers: plain laws: right classes stand in their order, prices agree, right payers have each number once. Conditions: none. -/
import Derived.Test.YtdgjjjdndedeiaaGreatDoorTarP
import Derived.Test.YtdgjjjdndedeiaaGreatDoorStrOrd
namespace Go.Proofs.YtdgjjjdndedeiaaGreatDoor

theorem fstE_all {f : Nat → Int} {n : Nat} (h : fstE f n = 0) : ∀ i, i < n → f i = 0 := by
  induction n with
  | zero => intro i hi; omega
  | succ n ih =>
    intro i hi
    unfold fstE at h
    by_cases h0 : fstE f n = 0
    · rw [if_pos h0] at h
      rcases Nat.lt_succ_iff_lt_or_eq.1 hi with h1 | h1
      · exact ih h0 i h1
      · subst h1; exact h
    · rw [if_neg h0] at h; exact absurd h h0

/-! Classes in their order. -/
def Srt (l : List ClV) : Prop := ∀ (i j : Nat) (a b : ClV), i < j → l[i]? = some a → l[j]? = some b → cmpS a.pre b.pre < 0
theorem srt_of {l : List ClV} (h : ∀ (i : Nat) (a b : ClV), l[i]? = some a → l[i + 1]? = some b → cmpS a.pre b.pre < 0) : Srt l := by
  intro i j a b hij ha hb
  induction j generalizing b with
  | zero => omega
  | succ j ih =>
    by_cases e : i = j
    · subst e; exact h i a b ha hb
    · have hj : j + 1 < l.length := (List.getElem?_eq_some_iff.1 hb).1
      have hc : l[j]? = some l[j] := List.getElem?_eq_getElem (by omega)
      exact cmpS_trans (ih l[j] (by omega) hc) (h j _ b hc hb)
theorem clAt_right {l : List ClV} {i : Nat} {c : ClV} (h : l[i]? = some c) (h0 : clAt l i = 0) : pfOk (nb c.pre) = true ∧ keyOk (nb c.name) = true ∧ clNum c = true ∧ ∀ b, 0 < i → l[i - 1]? = some b → leS c.pre b.pre = false := by
  cases h1 : pfOk (nb c.pre)
  · rw [clAt_3 h h1] at h0; exact absurd h0 (by decide)
  · cases h2 : keyOk (nb c.name)
    · rw [clAt_5 h h1 h2] at h0; exact absurd h0 (by decide)
    · cases h3 : clNum c
      · rw [clAt_1 h h1 h2 h3] at h0; exact absurd h0 (by decide)
      · refine ⟨rfl, rfl, rfl, fun b hi hb => ?_⟩
        cases h4 : leS c.pre b.pre
        · rfl
        · rw [clAt_7 h h1 h2 h3 hi hb h4] at h0; exact absurd h0 (by decide)
theorem tar_right {t : TfV} (hc : t.cl.length = t.cn) (h : tarE t = 0) : Srt t.cl ∧ ∀ c ∈ t.cl, clNum c = true := by
  unfold tarE at h
  by_cases h1 : 200 < t.cn
  · rw [if_pos h1] at h; exact absurd h (by decide)
  · rw [if_neg h1] at h
    by_cases h2 : fstE (clAt t.cl) t.cn = 0
    · have hall := fstE_all h2
      refine ⟨srt_of fun i a b ha hb => ?_, fun c hc2 => ?_⟩
      · have hl := (List.getElem?_eq_some_iff.1 hb).1
        obtain ⟨_, _, _, q⟩ := clAt_right hb (hall (i + 1) (by omega))
        have := q a (by omega) (by rw [Nat.add_sub_cancel]; exact ha)
        unfold leS at this
        rw [leS_cmp, decide_eq_false_iff_not] at this
        have e := cmpS_neg a.pre b.pre
        omega
      · obtain ⟨i, hi⟩ := List.mem_iff_getElem?.1 hc2
        have hl := (List.getElem?_eq_some_iff.1 hi).1
        exact (clAt_right hi (hall i (by omega))).2.2.1
    · rw [if_neg h2] at h; exact absurd h h2
theorem clNum_bd {c : ClV} (h : clNum c = true) : (0 ≤ c.setup ∧ c.setup ≤ 1000000) ∧ (0 ≤ c.rate ∧ c.rate ≤ 1000000) ∧ (0 ≤ c.first ∧ c.first ≤ 86400000) ∧ 1 ≤ c.step ∧ c.step ≤ 86400000 := by
  unfold clNum inB at h
  simp only [Bool.and_eq_true, decide_eq_true_eq] at h
  omega
/-- What a search finds in classes that stand in their order. -/
def Found (l : List ClV) (s : ByteArray) (i : Nat) (f : Bool) : Prop := i ≤ l.length ∧ ((f = true ∧ ∃ c, l[i]? = some c ∧ clsAt l (nb s) = some c) ∨ (f = false ∧ clsAt l (nb s) = none))
theorem found_of {l : List ClV} (hs : Srt l) {s : ByteArray} {i : Nat} (h1 : ∀ (j : Nat) (c : ClV), j < i → l[j]? = some c → cmpS c.pre s < 0) (h2 : ∀ (j : Nat) (c : ClV), i ≤ j → l[j]? = some c → ¬ cmpS c.pre s < 0) (hi : i ≤ l.length) :
    Found l s i ((l[i]?).elim false (fun c => cmpS c.pre s == 0)) := by
  refine ⟨hi, ?_⟩
  have low : ∀ (j : Nat) (c : ClV), j < i → l[j]? = some c → ¬ nb c.pre = nb s := fun j c hj hc e => by
    have := h1 j c hj hc
    rw [cmpS_zero.2 e] at this
    exact absurd this (by decide)
  cases hc : l[i]? with
  | none =>
    right
    refine ⟨rfl, ?_⟩
    unfold clsAt
    rw [List.find?_eq_none]
    intro c hm
    obtain ⟨j, hj⟩ := List.mem_iff_getElem?.1 hm
    have hjl := (List.getElem?_eq_some_iff.1 hj).1
    have hil : l.length ≤ i := List.getElem?_eq_none_iff.1 hc
    have := low j c (by omega) hj
    simpa using this
  | some c =>
    show ((cmpS c.pre s == 0) = true ∧ _) ∨ ((cmpS c.pre s == 0) = false ∧ _)
    by_cases e : cmpS c.pre s = 0
    · left
      refine ⟨by simpa using e, c, rfl, ?_⟩
      unfold clsAt
      rw [List.find?_eq_some_iff_getElem]
      obtain ⟨hl, hg⟩ := List.getElem?_eq_some_iff.1 hc
      refine ⟨by simpa using cmpS_zero.1 e, i, hl, hg, fun j hj => ?_⟩
      have := low j l[j] hj (List.getElem?_eq_getElem (by omega))
      simpa using this
    · right
      refine ⟨by simpa using e, ?_⟩
      unfold clsAt
      rw [List.find?_eq_none]
      intro c' hm
      obtain ⟨j, hj⟩ := List.mem_iff_getElem?.1 hm
      have hne : ¬ nb c'.pre = nb s := by
        rcases Nat.lt_trichotomy j i with h | h | h
        · exact low j c' h hj
        · subst h
          rw [hc] at hj
          injection hj with hj
          subst hj
          exact fun e2 => e (cmpS_zero.2 e2)
        · intro e2
          have h3 := hs i j c c' h hc hj
          rw [cmpS_eqr e2] at h3
          exact h2 i c (Nat.le_refl _) hc h3
      simpa using hne

/-! Prices. -/
def stepsOf (c : ClV) (talk : Int) : Int := if 0 < talk - c.first then (if 0 < (talk - c.first) % c.step then (talk - c.first) / c.step + 1 else (talk - c.first) / c.step) else 0
theorem steps_eq {c : ClV} (h : 1 ≤ c.step) (talk : Int) : stepsOf c talk = (max 0 (talk - c.first) + c.step - 1) / c.step := by
  unfold stepsOf
  by_cases h0 : 0 < talk - c.first
  · rw [if_pos h0]
    generalize talk - c.first = v at *
    rw [show max 0 v = v by omega]
    have hd := Int.mul_ediv_add_emod v c.step
    have hm1 := Int.emod_nonneg v (show c.step ≠ 0 by omega)
    have hm2 := Int.emod_lt_of_pos v (show 0 < c.step by omega)
    generalize v / c.step = q at *
    generalize v % c.step = r at *
    by_cases hr : 0 < r
    · rw [if_pos hr]
      symm
      rw [show v + c.step - 1 = (r - 1) + c.step * (q + 1) by rw [Int.mul_add]; omega, Int.add_mul_ediv_left _ _ (by omega), Int.ediv_eq_zero_of_lt (by omega) (by omega)]
      omega
    · rw [if_neg hr]
      symm
      rw [show v + c.step - 1 = (c.step - 1) + c.step * q by omega, Int.add_mul_ediv_left _ _ (by omega), Int.ediv_eq_zero_of_lt (by omega) (by omega)]
      omega
  · rw [if_neg h0, show max 0 (talk - c.first) = 0 by omega]
    symm
    exact Int.ediv_eq_zero_of_lt (by omega) (by omega)
theorem steps_bd {c : ClV} (h : clNum c = true) {talk : Int} (h1 : 0 ≤ talk) (h2 : talk ≤ 86400000) : 0 ≤ stepsOf c talk ∧ stepsOf c talk ≤ 86400000 := by
  obtain ⟨_, _, b3, b4, b5⟩ := clNum_bd h
  rw [steps_eq b4]
  constructor
  · exact Int.ediv_nonneg (by omega) (by omega)
  · have := Int.ediv_lt_of_lt_mul (a := max 0 (talk - c.first) + c.step - 1) (b := 86400001) (c := c.step) (by omega) (by omega)
    omega
theorem price_bd {c : ClV} (h : clNum c = true) {talk : Int} (h1 : 0 ≤ talk) (h2 : talk ≤ 86400000) : 0 ≤ c.rate * stepsOf c talk ∧ c.rate * stepsOf c talk ≤ 86400000000000 := by
  obtain ⟨_, b2, _⟩ := clNum_bd h
  obtain ⟨s1, s2⟩ := steps_bd h h1 h2
  refine ⟨Int.mul_nonneg b2.1 s1, ?_⟩
  have := Int.mul_le_mul b2.2 s2 s1 (by omega)
  omega

/-! Payers. -/
def pairsOf (l : List PyV) : List (ByteArray × ByteArray) := l.flatMap fun p => p.nums.map fun n => (n, p.key)
def lastOf (ps : List (ByteArray × ByteArray)) (k : ByteArray) : Option ByteArray := (ps.reverse.find? fun p => nb p.1 == nb k).map (·.2)
theorem lastOf_nil (k : ByteArray) : lastOf [] k = none := rfl
theorem lastOf_snoc (ps : List (ByteArray × ByteArray)) (n v k : ByteArray) : lastOf (ps ++ [(n, v)]) k = if nb n = nb k then some v else lastOf ps k := by
  unfold lastOf
  rw [List.reverse_append]
  show (List.find? _ ((n, v) :: ps.reverse)).map _ = _
  rw [List.find?_cons]
  by_cases e : nb n = nb k
  · rw [if_pos e]
    have : (nb (n, v).1 == nb k) = true := by simpa using e
    rw [this]; rfl
  · rw [if_neg e]
    have : (nb (n, v).1 == nb k) = false := by simpa using e
    rw [this]
def Dist (l : List ByteArray) : Prop := l.Pairwise fun a b => nb a ≠ nb b
theorem find_one (p : ByteArray × ByteArray) (ps : List (ByteArray × ByteArray)) (k : ByteArray) : (p :: ps).find? (fun p => nb p.1 == nb k) = if nb p.1 = nb k then some p else ps.find? (fun p => nb p.1 == nb k) := by
  rw [List.find?_cons]
  by_cases e : nb p.1 = nb k
  · rw [if_pos e, beq_iff_eq.2 e]
  · rw [if_neg e, beq_eq_false_iff_ne.2 e]
theorem find_rev {ps : List (ByteArray × ByteArray)} (h : Dist (ps.map (·.1))) (k : ByteArray) : ps.reverse.find? (fun p => nb p.1 == nb k) = ps.find? (fun p => nb p.1 == nb k) := by
  induction ps with
  | nil => rfl
  | cons p ps ih =>
    unfold Dist at h
    rw [List.map_cons, List.pairwise_cons] at h
    rw [List.reverse_cons, List.find?_append, ih h.2, find_one, find_one]
    by_cases e : nb p.1 = nb k
    · have e2 : ps.find? (fun p => nb p.1 == nb k) = none := by
        rw [List.find?_eq_none]
        intro q hq
        have := h.1 q.1 (List.mem_map.2 ⟨q, hq, rfl⟩)
        rw [e] at this
        simpa using fun h2 : nb q.1 = nb k => this h2.symm
      rw [e2, if_pos e, if_pos e]
      rfl
    · rw [if_neg e, if_neg e]
      exact Option.or_none
theorem memS_false {L : List ByteArray} {s : ByteArray} (h : memS L s = false) : ∀ x ∈ L, nb x ≠ nb s := by
  intro x hx
  unfold memS at h
  rw [List.any_eq_false] at h
  simpa using h x hx
theorem nums_dist {had : List ByteArray} (hd : Dist had) {ns : List ByteArray} (h : ∀ j, j < ns.length → numAt had ns j = 0) : Dist (had ++ ns) := by
  have step : ∀ k, k ≤ ns.length → Dist (had ++ ns.take k) := by
    intro k
    induction k with
    | zero => intro _; rw [List.take_zero, List.append_nil]; exact hd
    | succ k ih =>
      intro hk
      have hs : ns[k]? = some ns[k] := List.getElem?_eq_getElem (by omega)
      have h0 := h k (by omega)
      cases h1 : phOk (nb ns[k])
      · rw [numAt_3 hs h1] at h0; exact absurd h0 (by decide)
      · cases h2 : memS (had ++ ns.take k) ns[k]
        · rw [take_snoc' hs, ← List.append_assoc]
          unfold Dist
          rw [List.pairwise_append]
          refine ⟨ih (by omega), List.pairwise_singleton _ _, fun a ha b hb => ?_⟩
          rw [List.mem_singleton.1 hb]
          exact memS_false h2 a ha
        · rw [numAt_6 hs h1 h2] at h0; exact absurd h0 (by decide)
  have := step ns.length (Nat.le_refl _)
  rwa [List.take_of_length_le (Nat.le_refl _)] at this
theorem pays_dist {l : List PyV} (hn : ∀ p ∈ l, p.nums.length = p.nn) (h : pysE l = 0) : Dist (l.flatMap (·.nums)) := by
  unfold pysE at h
  by_cases h1 : 500 < l.length
  · rw [if_pos h1] at h; exact absurd h (by decide)
  · rw [if_neg h1] at h
    have hall := fstE_all h
    have step : ∀ k, k ≤ l.length → Dist (hadN l k) := by
      intro k
      induction k with
      | zero => intro _; exact List.Pairwise.nil
      | succ k ih =>
        intro hk
        have hs : l[k]? = some l[k] := List.getElem?_eq_getElem (by omega)
        rw [hadN_succ hs]
        refine nums_dist (ih (by omega)) ?_
        rw [hn _ (List.getElem_mem _)]
        have h0 := hall k (by omega)
        cases h2 : keyOk (nb l[k].key)
        · rw [payAt_5 hs h2] at h0; exact absurd h0 (by decide)
        · rw [payAt_last hs h2] at h0
          split at h0
          · exact absurd h0 (by decide)
          · split at h0
            · exact absurd h0 (by decide)
            · exact fstE_all h0
    have := step l.length (Nat.le_refl _)
    unfold hadN at this
    rwa [List.take_of_length_le (Nat.le_refl _)] at this
theorem pairs_keys (l : List PyV) : (pairsOf l).map (·.1) = l.flatMap (·.nums) := by
  unfold pairsOf
  rw [List.map_flatMap]
  congr 1
  funext p
  rw [List.map_map]
  exact List.map_id _
theorem pairs_find (l : List PyV) (k : ByteArray) : ((pairsOf l).find? (fun p => nb p.1 == nb k)).map (·.2) = (payerOf l (nb k)).map (·.key) := by
  induction l with
  | nil => rfl
  | cons p l ih =>
    have e0 : pairsOf (p :: l) = (p.nums.map fun n => (n, p.key)) ++ pairsOf l := by unfold pairsOf; rw [List.flatMap_cons]
    rw [e0, List.find?_append]
    unfold payerOf at ih ⊢
    rw [List.find?_cons, List.find?_map]
    show (((p.nums.find? (fun n => nb n == nb k)).map fun n => (n, p.key)).or _).map _ = _
    cases h : p.nums.find? (fun n => nb n == nb k) with
    | none =>
      have : p.nums.any (fun x => nb x == nb k) = false := by
        rw [List.any_eq_false]
        intro x hx
        exact List.find?_eq_none.1 h x hx
      rw [this]
      exact ih
    | some n =>
      have : p.nums.any (fun x => nb x == nb k) = true := by
        rw [List.any_eq_true]
        exact ⟨n, List.mem_of_find?_eq_some h, by have := List.find?_some h; exact this⟩
      rw [this]
      rfl
/-- Right payers: who was put last under a number is the first one who has it. -/
theorem payer_last {l : List PyV} (hn : ∀ p ∈ l, p.nums.length = p.nn) (h : pysE l = 0) (k : ByteArray) : lastOf (pairsOf l) k = (payerOf l (nb k)).map (·.key) := by
  unfold lastOf
  rw [find_rev (by rw [pairs_keys]; exact pays_dist hn h), pairs_find]
end Go.Proofs.YtdgjjjdndedeiaaGreatDoor

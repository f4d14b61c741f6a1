/- slices.Sort and slices.Compact at ints, in the words of slices of the call's own. Conditions: none. -/
import Derived.Test.YtgogiljplnninaaGreatDoorBun2
import Derived.Test.YtgogiljplnninaaGreatDoorShelfSort
import Derived.Sort.OwnSortedInts
namespace Go.Proofs.YtgogiljplnninaaGreatDoor
section
open Go.RowKit Go.Sort

def sortI (l : List Int) : List Int := l.mergeSort fun x y => decide (x ≤ y)
theorem sortI_len (l : List Int) : (sortI l).length = l.length := List.length_mergeSort _
theorem sortI_mem {l : List Int} {x : Int} : x ∈ sortI l ↔ x ∈ l := List.mem_mergeSort
theorem pw_monoS {α : Type} {R S : α → α → Prop} (h : ∀ a b, R a b → S a b) {l : List α} (hl : l.Pairwise R) : l.Pairwise S := by
  induction hl with
  | nil => exact List.Pairwise.nil
  | cons h1 _ ih => exact List.Pairwise.cons (fun a ha => h _ _ (h1 a ha)) ih
theorem sortI_rise (l : List Int) : (sortI l).Pairwise (· ≤ ·) := by
  have h := List.pairwise_mergeSort (le := fun x y : Int => decide (x ≤ y)) (fun a b c h1 h2 => by simp only [decide_eq_true_eq] at *; omega) (fun a b => by simp only [Bool.or_eq_true, decide_eq_true_eq]; omega) l
  exact pw_monoS (fun a b h => by simpa using h) h
theorem sortI_any (lo : Nat) (A : Option Addr) (n c : Nat) (l : List Int) (w : World) (h : OwnR nrow 1 w lo 3 A n c l) (hn : n ≤ 1000000000) :
    Calls Tryz.prog 114 #[.slice A n c] w fun e w' => e = .returned (.tuple #[]) ∧ OwnR nrow 1 w' lo 3 A n c (sortI l) ∧ w.grownBy w' (blkOf A) := by
  obtain ⟨ho, hlen⟩ := h
  have ho0 := ho
  rcases ho.2 with ⟨hv, hn0⟩ | ⟨g, cap, cur, hv, hlo, hb, h1, h2, h3, h4⟩
  · obtain ⟨rfl, _, rfl⟩ : A = none ∧ n = 0 ∧ c = 0 := by injection hv with a b c; exact ⟨a, b, c⟩
    subst hn0
    have hl0 : l = [] := List.eq_nil_of_length_eq_zero hlen
    subst hl0
    refine (Tryz.slices_Sort_int_none none 0 w).mono ?_
    rintro e w' ⟨rfl, rfl⟩
    exact ⟨rfl, by rw [show sortI [] = [] by simp [sortI]]; exact OwnR.nil _ _ _, gr_refl _ _⟩
  · obtain ⟨rfl, rfl⟩ : A = some ⟨g, 0, none⟩ ∧ c = cap := by injection hv with a b c; exact ⟨a, c⟩
    subst hlen
    rw [nrow_map, Nat.mul_one] at h4
    refine (Tryz.slices_Sort_int g 0 c l w (holds_of_blockI hb h4) (Array.getElem?_eq_some_iff.1 hb).1 (by omega)).mono ?_
    rintro e w' ⟨rfl, k, os, rfl⟩
    refine ⟨rfl, ⟨?_, sortI_len l⟩, grownBy_sortedI _⟩
    rw [nrow_map]
    exact ownsRow_sortedI (ss := l) (sortI_len l) hlo hb h1 h2 h3

/-! Compact. -/
theorem cmp_up (d : Array Int) (hs : ∀ i j, i ≤ j → j < d.size → d[i]! ≤ d[j]!) : ∀ m, m ≤ d.size → (Lib.compactUpTo d m).Pairwise (· < ·) ∧ ∀ x, x ∈ Lib.compactUpTo d m ↔ ∃ j, j < m ∧ d[j]! = x
  | 0, _ => ⟨by simp [Lib.compactUpTo], fun x => by simp [Lib.compactUpTo]⟩
  | m + 1, hm => by
    obtain ⟨h1, h2⟩ := cmp_up d hs m (by omega)
    rw [Lib.compactUpTo_succ]
    by_cases hk : Lib.keeps d m = true
    · rw [if_pos hk]
      refine ⟨?_, fun x => ?_⟩
      · rw [List.pairwise_append]
        refine ⟨h1, by simp, fun a ha b hb => ?_⟩
        rw [List.mem_singleton.1 hb]
        obtain ⟨j, hj, rfl⟩ := (h2 a).1 ha
        unfold Lib.keeps at hk
        have hk' : m = 0 ∨ d[m]! ≠ d[m - 1]! := by simpa using hk
        have e1 := hs j (m - 1) (by omega) (by omega)
        have e2 := hs (m - 1) m (by omega) (by omega)
        omega
      · rw [List.mem_append, h2, List.mem_singleton]
        constructor
        · rintro (⟨j, hj, e⟩ | e)
          · exact ⟨j, by omega, e⟩
          · exact ⟨m, by omega, e.symm⟩
        · rintro ⟨j, hj, e⟩
          by_cases c : j = m
          · subst c; exact .inr e.symm
          · exact .inl ⟨j, by omega, e⟩
    · have hk0 := hk
      rw [if_neg hk, List.append_nil]
      refine ⟨h1, fun x => ?_⟩
      unfold Lib.keeps at hk
      have hk' : ¬ (m = 0 ∨ d[m]! ≠ d[m - 1]!) := by simpa using hk
      rw [h2]
      constructor
      · rintro ⟨j, hj, e⟩; exact ⟨j, by omega, e⟩
      · rintro ⟨j, hj, e⟩
        by_cases c : j = m
        · subst c
          exact ⟨j - 1, by omega, by rw [← e]; exact (Decidable.not_not.1 (fun h => hk' (.inr h))).symm⟩
        · exact ⟨j, by omega, e⟩
theorem bang_list (l : List Int) {j : Nat} (h : j < l.length) : l.toArray[j]! = l[j] := by simp [h]
theorem compact_rise {l : List Int} (h : l.Pairwise (· ≤ ·)) : (Lib.compact l).Pairwise (· < ·) ∧ ∀ x, x ∈ Lib.compact l ↔ x ∈ l := by
  have hs : ∀ i j, i ≤ j → j < l.toArray.size → l.toArray[i]! ≤ l.toArray[j]! := fun i j hij hj => by
    have hj' : j < l.length := by simpa using hj
    rw [bang_list l hj', bang_list l (show i < l.length by omega)]
    by_cases e : i = j
    · subst e; exact Int.le_refl _
    · exact List.pairwise_iff_getElem.1 h i j (by omega) hj' (by omega)
  obtain ⟨h1, h2⟩ := cmp_up l.toArray hs l.length (by simp)
  refine ⟨h1, fun x => ?_⟩
  show x ∈ Lib.compactUpTo l.toArray l.length ↔ _
  rw [h2, List.mem_iff_getElem]
  constructor
  · rintro ⟨j, hj, e⟩; exact ⟨j, hj, by rw [← bang_list l hj]; exact e⟩
  · rintro ⟨j, hj, e⟩; exact ⟨j, hj, by rw [bang_list l hj]; exact e⟩
theorem compact_len (l : List Int) : (Lib.compact l).length ≤ l.length := by
  show (((List.range l.length).filter _).map _).length ≤ _
  rw [List.length_map]
  exact Nat.le_trans (List.length_filter_le _ _) (by simp)
theorem compactI_any (lo : Nat) (A : Option Addr) (n c : Nat) (l : List Int) (w : World) (h : OwnR nrow 1 w lo 3 A n c l) (hn : n ≤ 1000000000) :
    Calls Tryz.prog 115 #[.slice A n c] w fun e w' => e = .returned (.slice A (Lib.compact l).length c) ∧ OwnR nrow 1 w' lo 3 A (Lib.compact l).length c (Lib.compact l) ∧ w.grownBy w' (blkOf A) := by
  obtain ⟨ho, hlen⟩ := h
  rcases ho.2 with ⟨hv, hn0⟩ | ⟨g, cap, cur, hv, hlo, hb, h1, h2, h3, h4⟩
  · obtain ⟨rfl, _, rfl⟩ : A = none ∧ n = 0 ∧ c = 0 := by injection hv with a b c; exact ⟨a, b, c⟩
    subst hn0
    have hl0 : l = [] := List.eq_nil_of_length_eq_zero hlen
    subst hl0
    refine (Tryz.slices_Compact_int_empty none 0 w).mono ?_
    rintro e w' ⟨rfl, rfl⟩
    exact ⟨rfl, OwnR.nil _ _ _, gr_refl _ _⟩
  · obtain ⟨rfl, rfl⟩ : A = some ⟨g, 0, none⟩ ∧ c = cap := by injection hv with a b c; exact ⟨a, c⟩
    subst hlen
    rw [nrow_map, Nat.mul_one] at h4
    refine (Tryz.slices_Compact_int g 0 c l w (holds_of_blockI hb h4) (by omega) h1).mono ?_
    rintro e w' ⟨rfl, k, rfl⟩
    have hl := compact_len l
    have key := ownsRow_sortedI (w := w) (base := lo) (g := g) (cap := c) (n := k) (e := 3) (os := #[]) (cur := cur) (ss := l) (ts := Lib.compact l ++ List.replicate (l.length - (Lib.compact l).length) 0) (by simp; omega) hlo hb h1 h2 h3
    have gk := grownBy_sortedI (w := w) (g := g) (n := k) (os := #[]) (Lib.compact l ++ List.replicate (l.length - (Lib.compact l).length) 0).toArray
    rw [grow_empty] at key gk
    refine ⟨rfl, ⟨?_, rfl⟩, gk⟩
    have hp := Own.prefix_ (show Own _ lo 3 1 (some ⟨g, 0, none⟩) l.length c _ from key) (Lib.compact l).length hl
    rw [Nat.mul_one, List.map_append, List.take_append_of_le_length (by simp), List.take_of_length_le (by simp)] at hp
    rw [nrow_map]
    exact hp
end
end Go.Proofs.YtgogiljplnninaaGreatDoor
/- What is known of a person in a window, in plain Lean. Conditions: none. -/
namespace Go.Proofs.YtgogiljplnninaaGreatDoor
section
open Go.RowKit

def lastU (o : List BcV) (b : Int) : List BcV := (o[o.length - 1]?).elim o fun y => o.set (o.length - 1) { y with un := b }
theorem lastU_len (o : List BcV) (b : Int) : (lastU o b).length = o.length := by
  unfold lastU
  cases o[o.length - 1]? with
  | none => rfl
  | some y => exact List.length_set
theorem lastU_get {o : List BcV} {b : Int} {y : BcV} (h : o[o.length - 1]? = some y) : (lastU o b)[o.length - 1]? = some { y with un := b } := by
  have hl := (List.getElem?_eq_some_iff.1 h).1
  unfold lastU
  rw [h]
  show (o.set (o.length - 1) _)[o.length - 1]? = _
  rw [List.getElem?_set_self hl]
section
variable (f : Int → Bool × BcV)
def bcAtUn (z : BcV) (a b : Int) : BcV := { z with at_ := a, un := b }
def mgP (s : List BcV × BcV) (a : Int) : Bool := decide (s.1 ≠ []) && decide ((f a).2 = s.2)
def stP (s : List BcV × BcV) (a b : Int) : List BcV × BcV := if (f a).1 then (if mgP f s a then (lastU s.1 b, s.2) else (s.1 ++ [bcAtUn (f a).2 a b], (f a).2)) else (s.1, bc0)
def mgD (s : List BcV × List BcV) (a : Int) : Bool := (s.1[s.1.length - 1]?).elim false (fun y => decide (y.un = a)) && (s.2[s.1.length - 1]?).elim false (fun y => decide (y = (f a).2))
def stD (s : List BcV × List BcV) (a b : Int) : List BcV × List BcV := if (f a).1 && decide (a ≠ b) then (if mgD f s a then (lastU s.1 b, s.2) else (s.1 ++ [bcAtUn (f a).2 a b], s.2 ++ [(f a).2])) else s
end
def thr {σ : Type} (st : σ → Int → Int → σ) (s : σ) : List Int → σ
  | [] => s
  | [_] => s
  | a :: b :: r => thr st (st s a b) (b :: r)
theorem thr_short {σ : Type} (st : σ → Int → Int → σ) (s : σ) {l : List Int} (h : l.length ≤ 1) : thr st s l = s := by
  cases l with
  | nil => rfl
  | cons a l =>
    cases l with
    | nil => rfl
    | cons b l => simp at h
theorem thr_step {σ : Type} (st : σ → Int → Int → σ) (s : σ) {l : List Int} {k : Nat} {a b : Int} (ha : l[k]? = some a) (hb : l[k + 1]? = some b) : thr st s (l.drop k) = thr st (st s a b) (l.drop (k + 1)) := by
  obtain ⟨h1, e1⟩ := List.getElem?_eq_some_iff.1 ha
  obtain ⟨h2, e2⟩ := List.getElem?_eq_some_iff.1 hb
  rw [List.drop_eq_getElem_cons h1, List.drop_eq_getElem_cons h2, e1, e2]
  rfl
/-- Neighbours that are alike, once. -/
def dd : List Int → List Int
  | [] => []
  | [a] => [a]
  | a :: b :: r => if a = b then dd (b :: r) else a :: dd (b :: r)
theorem dd_cons (a : Int) : ∀ r : List Int, ∃ r', dd (a :: r) = a :: r'
  | [] => ⟨[], rfl⟩
  | b :: r => by
    by_cases e : a = b
    · subst e
      obtain ⟨r', h⟩ := dd_cons a r
      refine ⟨r', ?_⟩
      rw [dd, if_pos rfl, h]
    · exact ⟨dd (b :: r), by rw [dd, if_neg e]⟩
theorem dd_mem (x : Int) : ∀ l : List Int, x ∈ dd l ↔ x ∈ l
  | [] => Iff.rfl
  | [a] => Iff.rfl
  | a :: b :: r => by
    by_cases e : a = b
    · rw [dd, if_pos e, dd_mem x (b :: r), List.mem_cons (a := x) (b := a)]
      subst e
      simp
    · rw [dd, if_neg e, List.mem_cons, dd_mem x (b :: r), ← List.mem_cons]
theorem dd_rise : ∀ l : List Int, l.Pairwise (· ≤ ·) → (dd l).Pairwise (· < ·)
  | [], _ => List.Pairwise.nil
  | [a], _ => List.pairwise_singleton _ _
  | a :: b :: r, h => by
    obtain ⟨h1, h2⟩ := List.pairwise_cons.1 h
    by_cases e : a = b
    · rw [dd, if_pos e]; exact dd_rise (b :: r) h2
    · rw [dd, if_neg e]
      refine List.pairwise_cons.2 ⟨fun x hx => ?_, dd_rise (b :: r) h2⟩
      have hx' := (dd_mem x _).1 hx
      have hb := h1 b (List.mem_cons_self ..)
      rcases List.mem_cons.1 hx' with rfl | hx''
      · omega
      · have := (List.pairwise_cons.1 h2).1 x hx''
        omega
theorem rise_same : ∀ {l m : List Int}, l.Pairwise (· < ·) → m.Pairwise (· < ·) → (∀ x, x ∈ l ↔ x ∈ m) → l = m
  | [], [], _, _, _ => rfl
  | [], b :: m, _, _, h => absurd ((h b).2 (List.mem_cons_self ..)) (by simp)
  | a :: l, [], _, _, h => absurd ((h a).1 (List.mem_cons_self ..)) (by simp)
  | a :: l, b :: m, h1, h2, h => by
    obtain ⟨p1, p2⟩ := List.pairwise_cons.1 h1
    obtain ⟨q1, q2⟩ := List.pairwise_cons.1 h2
    have e : a = b := by
      rcases List.mem_cons.1 ((h a).1 (List.mem_cons_self ..)) with e | hm
      · exact e
      · rcases List.mem_cons.1 ((h b).2 (List.mem_cons_self ..)) with e | hn
        · exact e.symm
        · have := q1 a hm; have := p1 b hn; omega
    subst e
    rw [rise_same p2 q2 (fun x => ⟨fun hx => by
      rcases List.mem_cons.1 ((h x).1 (List.mem_cons_of_mem _ hx)) with e | hm
      · have := p1 x hx; omega
      · exact hm, fun hx => by
      rcases List.mem_cons.1 ((h x).2 (List.mem_cons_of_mem _ hx)) with e | hm
      · have := q1 x hx; omega
      · exact hm⟩)]
section
variable {f : Int → Bool × BcV}
theorem thD_dd : ∀ (l : List Int) (s : List BcV × List BcV), thr (stD f) s (dd l) = thr (stD f) s l
  | [], _ => rfl
  | [a], _ => rfl
  | a :: b :: r, s => by
    by_cases e : a = b
    · rw [dd, if_pos e, thD_dd (b :: r) s]
      show _ = thr (stD f) (stD f s a b) (b :: r)
      have : stD f s a b = s := by unfold stD; rw [decide_eq_false (show ¬ a ≠ b from fun h => h e), Bool.and_false]; rfl
      rw [this]
    · rw [dd, if_neg e]
      obtain ⟨r', hr⟩ := dd_cons b r
      have ih := thD_dd (b :: r) (stD f s a b)
      rw [hr] at ih ⊢
      exact ih
/-- The program's and the document's states at a. -/
def ThJ (o : List BcV) (lst : BcV) (ws : List BcV) (a : Int) : Prop := ws.length = o.length ∧ (∀ y, o[o.length - 1]? = some y → y.un ≤ a) ∧
  ((lst = bc0 ∧ ∀ y, o[o.length - 1]? = some y → y.un < a) ∨ (∃ y, o[o.length - 1]? = some y ∧ y.un = a ∧ ws[o.length - 1]? = some lst))
theorem snoc_last (o : List BcV) (z : BcV) : (o ++ [z])[(o ++ [z]).length - 1]? = some z := by
  rw [List.length_append, List.length_singleton, Nat.add_sub_cancel, List.getElem?_append_right (Nat.le_refl _), Nat.sub_self]
  rfl
theorem thr_same (hz : ∀ a, (f a).1 = true → (f a).2 ≠ bc0) : ∀ (e : List Int), e.Pairwise (· < ·) → ∀ o lst ws, (∀ a, e.head? = some a → ThJ o lst ws a) → (thr (stP f) (o, lst) e).1 = (thr (stD f) (o, ws) e).1
  | [], _, _, _, _, _ => rfl
  | [a], _, _, _, _, _ => rfl
  | a :: b :: r, h, o, lst, ws, hj => by
    obtain ⟨h1, h2⟩ := List.pairwise_cons.1 h
    have hab := h1 b (List.mem_cons_self ..)
    obtain ⟨j1, j2, j3⟩ := hj a rfl
    show (thr (stP f) (stP f (o, lst) a b) (b :: r)).1 = (thr (stD f) (stD f (o, ws) a b) (b :: r)).1
    have hap : ∀ z, ThJ (o ++ [bcAtUn z a b]) z (ws ++ [z]) b := fun z => by
      refine ⟨by simp [j1], fun y hy => ?_, .inr ⟨_, snoc_last o _, rfl, ?_⟩⟩
      · rw [snoc_last] at hy
        obtain rfl := Option.some.inj hy
        exact Int.le_refl _
      · have e : (o ++ [bcAtUn z a b]).length = (ws ++ [z]).length := by simp [j1]
        rw [e, snoc_last]
    cases hf : (f a).1 with
    | false =>
      have e1 : stP f (o, lst) a b = (o, bc0) := by unfold stP; rw [hf]; rfl
      have e2 : stD f (o, ws) a b = (o, ws) := by unfold stD; rw [hf]; rfl
      rw [e1, e2]
      refine thr_same hz (b :: r) h2 o bc0 ws (fun c hc => ?_)
      obtain rfl := Option.some.inj hc
      exact ⟨j1, fun y hy => by have := j2 y hy; omega, .inl ⟨rfl, fun y hy => by have := j2 y hy; omega⟩⟩
    | true =>
      have hne := hz a hf
      have e1 : stP f (o, lst) a b = if mgP f (o, lst) a then (lastU o b, lst) else (o ++ [bcAtUn (f a).2 a b], (f a).2) := by unfold stP; rw [hf]; rfl
      have e2 : stD f (o, ws) a b = if mgD f (o, ws) a then (lastU o b, ws) else (o ++ [bcAtUn (f a).2 a b], ws ++ [(f a).2]) := by
        unfold stD; rw [hf, decide_eq_true (show a ≠ b by omega)]; rfl
      have hm : mgP f (o, lst) a = mgD f (o, ws) a := by
        rcases j3 with ⟨rfl, k2⟩ | ⟨y, k1, k2, k3⟩
        · have m1 : mgP f (o, bc0) a = false := by unfold mgP; rw [decide_eq_false (show ¬ (f a).2 = bc0 from hne), Bool.and_false]
          have m2 : mgD f (o, ws) a = false := by
            unfold mgD
            dsimp only
            cases hy : o[o.length - 1]? with
            | none => rfl
            | some y =>
              have := k2 y hy
              show (decide (y.un = a) && _) = false
              rw [decide_eq_false (by omega)]; rfl
          rw [m1, m2]
        · have hone : o ≠ [] := fun e => by subst e; simp at k1
          unfold mgP mgD
          dsimp only
          rw [k1, k3]
          show (decide (o ≠ []) && decide ((f a).2 = lst)) = (decide (y.un = a) && decide (lst = (f a).2))
          rw [decide_eq_true hone, decide_eq_true k2, Bool.true_and, Bool.true_and]
          exact decide_eq_decide.2 ⟨fun h => h.symm, fun h => h.symm⟩
      rw [e1, e2, ← hm]
      cases hmg : mgP f (o, lst) a with
      | false =>
        exact thr_same hz (b :: r) h2 _ _ _ (fun c hc => by obtain rfl := Option.some.inj hc; exact hap _)
      | true =>
        refine thr_same hz (b :: r) h2 _ _ _ (fun c hc => ?_)
        obtain rfl := Option.some.inj hc
        rcases j3 with ⟨rfl, k2⟩ | ⟨y, k1, k2, k3⟩
        · unfold mgP at hmg
          rw [decide_eq_false (show ¬ (f a).2 = bc0 from hne), Bool.and_false] at hmg
          cases hmg
        · refine ⟨by rw [lastU_len, j1], fun y' hy' => ?_, .inr ⟨_, by rw [lastU_len]; exact lastU_get k1, rfl, by rw [lastU_len]; exact k3⟩⟩
          rw [lastU_len, lastU_get k1] at hy'
          obtain rfl := Option.some.inj hy'
          exact Int.le_refl _
end
/-! The moments. -/
def edP (p : ByteArray) (f t : Int) (b : BcV) : List Int := [b.at_, b.un].filter fun n => decide (nb b.psn = nb p) && (decide (f < n) && decide (n < t))
def edD (p : ByteArray) (f t : Int) (b : BcV) : List Int := [b.at_, b.un].filter fun n => decide (nb b.psn = nb p) && (decide (f ≤ n) && decide (n < t))
def evP (l : List BcV) (p : ByteArray) (f t : Int) : List Int := [f, t] ++ l.flatMap (edP p f t)
def evD (l : List BcV) (p : ByteArray) (f t : Int) : List Int := [f, t] ++ l.flatMap (edD p f t)
theorem ev_same (l : List BcV) (p : ByteArray) (f t : Int) : Lib.compact (sortI (evP l p f t)) = dd (sortI (evD l p f t)) := by
  have h1 := compact_rise (sortI_rise (evP l p f t))
  refine rise_same h1.1 (dd_rise _ (sortI_rise _)) (fun x => ?_)
  rw [h1.2, dd_mem, sortI_mem, sortI_mem]
  unfold evP evD
  rw [List.mem_append, List.mem_append, List.mem_flatMap, List.mem_flatMap]
  constructor
  · rintro (h | ⟨b, hb, h⟩)
    · exact .inl h
    · refine .inr ⟨b, hb, ?_⟩
      unfold edP at h
      unfold edD
      rw [List.mem_filter] at h ⊢
      refine ⟨h.1, ?_⟩
      have h2 := h.2
      simp only [Bool.and_eq_true, decide_eq_true_eq] at h2 ⊢
      exact ⟨h2.1, by omega, h2.2.2⟩
  · rintro (h | ⟨b, hb, h⟩)
    · exact .inl h
    · by_cases hx : x = f
      · exact .inl (by rw [hx]; exact List.mem_cons_self ..)
      · refine .inr ⟨b, hb, ?_⟩
        unfold edD at h
        unfold edP
        rw [List.mem_filter] at h ⊢
        refine ⟨h.1, ?_⟩
        have h2 := h.2
        simp only [Bool.and_eq_true, decide_eq_true_eq] at h2 ⊢
        exact ⟨h2.1, by omega, h2.2.2⟩
/-- Both ways give one list. -/
theorem through_same {l : List BcV} {p : ByteArray} {fr til : Int} (hp : keyOk (nb p) = true) : (thr (stP (prs l p)) ([], bc0) (Lib.compact (sortI (evP l p fr til)))).1 = (thr (stD (prs l p)) ([], []) (sortI (evD l p fr til))).1 := by
  rw [← thD_dd (sortI (evD l p fr til)), ← ev_same]
  refine thr_same (fun a ha e => ?_) _ (compact_rise (sortI_rise _)).1 [] bc0 [] (fun a _ => ⟨rfl, fun y hy => by simp at hy, .inl ⟨rfl, fun y hy => by simp at hy⟩⟩)
  have h := ((prs_mem (show prs l p a = ((prs l p a).1, (prs l p a).2) from rfl)).1 ha).2
  rw [e] at h
  rw [← h] at hp
  revert hp
  decide
end
end Go.Proofs.YtgogiljplnninaaGreatDoor

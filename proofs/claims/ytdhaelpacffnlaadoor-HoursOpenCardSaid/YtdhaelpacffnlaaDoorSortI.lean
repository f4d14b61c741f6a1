/- slices.Sort and slices.Compact at ints, in the words of slices of the call's own. Conditions: none. -/
import Derived.Test.YtdhaelpacffnlaaDoorEqI
import Derived.Test.YtdhaelpacffnlaaDoorShelfSort
import Derived.Sort.OwnSortedInts
namespace Go.Proofs.YtdhaelpacffnlaaDoor
open Go.RowKit Go.Sort

def sortI (l : List Int) : List Int := l.mergeSort fun x y => decide (x ≤ y)
theorem sortI_len (l : List Int) : (sortI l).length = l.length := List.length_mergeSort _
theorem sortI_mem {l : List Int} {x : Int} : x ∈ sortI l ↔ x ∈ l := List.mem_mergeSort
theorem pw_monoS {α : Type} {R S : α → α → Prop} (h : ∀ a b, R a b → S a b) {l : List α} (hl : l.Pairwise R) : l.Pairwise S := by
  induction hl with
  | nil => exact List.Pairwise.nil
  | cons h1 _ ih => exact List.Pairwise.cons (fun a ha => h _ _ (h1 a ha)) ih
theorem sortI_rise (l : List Int) : (sortI l).Pairwise (· ≤ ·) := by
  have h := List.pairwise_mergeSort (le := fun x y : Int => decide (x ≤ y)) (fun a b c h1 h2 => by simp only [decide_eq_true_eq] at *; omega) (fun a b => by simp only [Bool.or_eq_true, decide_eq_true_eq]; omega) l
  exact pw_monoS (fun a b h => by simpa using h) h
theorem sortI_any (lo : Nat) (A : Option Addr) (n c : Nat) (l : List Int) (w : World) (h : OwnR nrow 1 w lo 3 A n c l) (hn : n ≤ 1000000000) :
    Calls Tryd.prog 35 #[.slice A n c] w fun e w' => e = .returned (.tuple #[]) ∧ OwnR nrow 1 w' lo 3 A n c (sortI l) ∧ w.grownBy w' (blkOf A) := by
  obtain ⟨ho, hlen⟩ := h
  have ho0 := ho
  rcases ho.2 with ⟨hv, hn0⟩ | ⟨g, cap, cur, hv, hlo, hb, h1, h2, h3, h4⟩
  · obtain ⟨rfl, _, rfl⟩ : A = none ∧ n = 0 ∧ c = 0 := by injection hv with a b c; exact ⟨a, b, c⟩
    subst hn0
    have hl0 : l = [] := List.eq_nil_of_length_eq_zero hlen
    subst hl0
    refine (Tryd.slices_Sort_int_none none 0 w).mono ?_
    rintro e w' ⟨rfl, rfl⟩
    exact ⟨rfl, by rw [show sortI [] = [] by simp [sortI]]; exact OwnR.nil _ _ _, gr_refl _ _⟩
  · obtain ⟨rfl, rfl⟩ : A = some ⟨g, 0, none⟩ ∧ c = cap := by injection hv with a b c; exact ⟨a, c⟩
    subst hlen
    rw [nrow_map, Nat.mul_one] at h4
    refine (Tryd.slices_Sort_int g 0 c l w (holds_of_blockI hb h4) (Array.getElem?_eq_some_iff.1 hb).1 (by omega)).mono ?_
    rintro e w' ⟨rfl, k, os, rfl⟩
    refine ⟨rfl, ⟨?_, sortI_len l⟩, grownBy_sortedI _⟩
    rw [nrow_map]
    exact ownsRow_sortedI (ss := l) (sortI_len l) hlo hb h1 h2 h3

/-! Compact. -/
theorem cmp_up (d : Array Int) (hs : ∀ i j, i ≤ j → j < d.size → d[i]! ≤ d[j]!) : ∀ m, m ≤ d.size → (Lib.compactUpTo d m).Pairwise (· < ·) ∧ ∀ x, x ∈ Lib.compactUpTo d m ↔ ∃ j, j < m ∧ d[j]! = x
  | 0, _ => ⟨by simp [Lib.compactUpTo], fun x => by simp [Lib.compactUpTo]⟩
  | m + 1, hm => by
    obtain ⟨h1, h2⟩ := cmp_up d hs m (by omega)
    rw [Lib.compactUpTo_succ]
    by_cases hk : Lib.keeps d m = true
    · rw [if_pos hk]
      refine ⟨?_, fun x => ?_⟩
      · rw [List.pairwise_append]
        refine ⟨h1, by simp, fun a ha b hb => ?_⟩
        rw [List.mem_singleton.1 hb]
        obtain ⟨j, hj, rfl⟩ := (h2 a).1 ha
        unfold Lib.keeps at hk
        have hk' : m = 0 ∨ d[m]! ≠ d[m - 1]! := by simpa using hk
        have e1 := hs j (m - 1) (by omega) (by omega)
        have e2 := hs (m - 1) m (by omega) (by omega)
        omega
      · rw [List.mem_append, h2, List.mem_singleton]
        constructor
        · rintro (⟨j, hj, e⟩ | e)
          · exact ⟨j, by omega, e⟩
          · exact ⟨m, by omega, e.symm⟩
        · rintro ⟨j, hj, e⟩
          by_cases c : j = m
          · subst c; exact .inr e.symm
          · exact .inl ⟨j, by omega, e⟩
    · have hk0 := hk
      rw [if_neg hk, List.append_nil]
      refine ⟨h1, fun x => ?_⟩
      unfold Lib.keeps at hk
      have hk' : ¬ (m = 0 ∨ d[m]! ≠ d[m - 1]!) := by simpa using hk
      rw [h2]
      constructor
      · rintro ⟨j, hj, e⟩; exact ⟨j, by omega, e⟩
      · rintro ⟨j, hj, e⟩
        by_cases c : j = m
        · subst c
          exact ⟨j - 1, by omega, by rw [← e]; exact (Decidable.not_not.1 (fun h => hk' (.inr h))).symm⟩
        · exact ⟨j, by omega, e⟩
theorem bang_list (l : List Int) {j : Nat} (h : j < l.length) : l.toArray[j]! = l[j] := by simp [h]
theorem compact_rise {l : List Int} (h : l.Pairwise (· ≤ ·)) : (Lib.compact l).Pairwise (· < ·) ∧ ∀ x, x ∈ Lib.compact l ↔ x ∈ l := by
  have hs : ∀ i j, i ≤ j → j < l.toArray.size → l.toArray[i]! ≤ l.toArray[j]! := fun i j hij hj => by
    have hj' : j < l.length := by simpa using hj
    rw [bang_list l hj', bang_list l (show i < l.length by omega)]
    by_cases e : i = j
    · subst e; exact Int.le_refl _
    · exact List.pairwise_iff_getElem.1 h i j (by omega) hj' (by omega)
  obtain ⟨h1, h2⟩ := cmp_up l.toArray hs l.length (by simp)
  refine ⟨h1, fun x => ?_⟩
  show x ∈ Lib.compactUpTo l.toArray l.length ↔ _
  rw [h2, List.mem_iff_getElem]
  constructor
  · rintro ⟨j, hj, e⟩; exact ⟨j, hj, by rw [← bang_list l hj]; exact e⟩
  · rintro ⟨j, hj, e⟩; exact ⟨j, hj, by rw [bang_list l hj]; exact e⟩
theorem compact_len (l : List Int) : (Lib.compact l).length ≤ l.length := by
  show (((List.range l.length).filter _).map _).length ≤ _
  rw [List.length_map]
  exact Nat.le_trans (List.length_filter_le _ _) (by simp)
theorem compactI_any (lo : Nat) (A : Option Addr) (n c : Nat) (l : List Int) (w : World) (h : OwnR nrow 1 w lo 3 A n c l) (hn : n ≤ 1000000000) :
    Calls Tryd.prog 36 #[.slice A n c] w fun e w' => e = .returned (.slice A (Lib.compact l).length c) ∧ OwnR nrow 1 w' lo 3 A (Lib.compact l).length c (Lib.compact l) ∧ w.grownBy w' (blkOf A) := by
  obtain ⟨ho, hlen⟩ := h
  rcases ho.2 with ⟨hv, hn0⟩ | ⟨g, cap, cur, hv, hlo, hb, h1, h2, h3, h4⟩
  · obtain ⟨rfl, _, rfl⟩ : A = none ∧ n = 0 ∧ c = 0 := by injection hv with a b c; exact ⟨a, b, c⟩
    subst hn0
    have hl0 : l = [] := List.eq_nil_of_length_eq_zero hlen
    subst hl0
    refine (Tryd.slices_Compact_int_empty none 0 w).mono ?_
    rintro e w' ⟨rfl, rfl⟩
    exact ⟨rfl, OwnR.nil _ _ _, gr_refl _ _⟩
  · obtain ⟨rfl, rfl⟩ : A = some ⟨g, 0, none⟩ ∧ c = cap := by injection hv with a b c; exact ⟨a, c⟩
    subst hlen
    rw [nrow_map, Nat.mul_one] at h4
    refine (Tryd.slices_Compact_int g 0 c l w (holds_of_blockI hb h4) (by omega) h1).mono ?_
    rintro e w' ⟨rfl, k, rfl⟩
    have hl := compact_len l
    have key := ownsRow_sortedI (w := w) (base := lo) (g := g) (cap := c) (n := k) (e := 3) (os := #[]) (cur := cur) (ss := l) (ts := Lib.compact l ++ List.replicate (l.length - (Lib.compact l).length) 0) (by simp; omega) hlo hb h1 h2 h3
    have gk := grownBy_sortedI (w := w) (g := g) (n := k) (os := #[]) (Lib.compact l ++ List.replicate (l.length - (Lib.compact l).length) 0).toArray
    rw [grow_empty] at key gk
    refine ⟨rfl, ⟨?_, rfl⟩, gk⟩
    have hp := Own.prefix_ (show Own _ lo 3 1 (some ⟨g, 0, none⟩) l.length c _ from key) (Lib.compact l).length hl
    rw [Nat.mul_one, List.map_append, List.take_append_of_le_length (by simp), List.take_of_length_le (by simp)] at hp
    rw [nrow_map]
    exact hp
end Go.Proofs.YtdhaelpacffnlaaDoor

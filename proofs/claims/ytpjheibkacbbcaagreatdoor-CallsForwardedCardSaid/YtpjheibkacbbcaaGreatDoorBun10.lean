/- slices.Sort at strings, in the words of slices of the call's own. Conditions: none. -/
import Derived.Test.YtpjheibkacbbcaaGreatDoorBun6
import Derived.Test.YtpjheibkacbbcaaGreatDoorBun1
import Derived.Test.YtpjheibkacbbcaaGreatDoorShelfSort
import Derived.Sort.OwnSorted
import Derived.Test.YtpjheibkacbbcaaGreatDoorBun7
import Derived.Sort.OwnSortedInts
namespace Go.Proofs.YtpjheibkacbbcaaGreatDoor
section
open Go.RowKit Go.Sort

def bytesS (l : List ByteArray) : List (List UInt8) := l.map fun s => s.data.toList
def strB (b : List UInt8) : ByteArray := ⟨b.toArray⟩
/-- The sorted list of strings. -/
def srtS (l : List ByteArray) : List ByteArray := ((bytesS l).mergeSort fun x y => decide (x ≤ y)).map strB
theorem srtS_len (l : List ByteArray) : (srtS l).length = l.length := by simp [srtS, bytesS]
theorem strB_data (s : ByteArray) : strB s.data.toList = s := by simp [strB]
theorem srow_encs (m : List (List UInt8)) : (m.map strB).flatMap srow = m.map encStr := by
  induction m with
  | nil => rfl
  | cons b m ih => simp only [List.map_cons, List.flatMap_cons, ih]; rfl
theorem srow_enc (l : List ByteArray) : l.flatMap srow = (bytesS l).map encStr := by
  rw [← srow_encs]
  congr 1
  simp [bytesS, Function.comp_def, strB_data]
theorem sortS_any (lo : Nat) (A : Option Addr) (n c : Nat) (l : List ByteArray) (w : World) (h : OwnR srow 1 w lo 9 A n c l) (hn : n ≤ 1000000000) :
    Calls Tryz.prog 104 #[.slice A n c] w fun e w' => e = .returned (.tuple #[]) ∧ OwnR srow 1 w' lo 9 A n c (srtS l) ∧ w.grownBy w' (blkOf A) := by
  obtain ⟨ho, hlen⟩ := h
  rcases ho.2 with ⟨hv, hn0⟩ | ⟨g, cap, cur, hv, hlo, hb, h1, h2, h3, h4⟩
  · obtain ⟨rfl, _, rfl⟩ : A = none ∧ n = 0 ∧ c = 0 := by injection hv with a b c; exact ⟨a, b, c⟩
    subst hn0
    have hl0 : l = [] := List.eq_nil_of_length_eq_zero hlen
    subst hl0
    refine (Tryz.slices_Sort_string_none none 0 w).mono ?_
    rintro e w' ⟨rfl, rfl⟩
    exact ⟨rfl, by rw [show srtS [] = [] by simp [srtS, bytesS]]; exact OwnR.nil _ _ _, gr_refl _ _⟩
  · obtain ⟨rfl, rfl⟩ : A = some ⟨g, 0, none⟩ ∧ c = cap := by injection hv with a b c; exact ⟨a, c⟩
    subst hlen
    have hbl : (bytesS l).length = l.length := by simp [bytesS]
    rw [srow_enc, Nat.mul_one, ← hbl] at h4
    have hcon := Tryz.slices_Sort_string g 0 c (bytesS l) w (holds_of_block hb h4) (Array.getElem?_eq_some_iff.1 hb).1 (by omega)
    rw [hbl] at hcon
    refine hcon.mono ?_
    rintro e w' ⟨rfl, k, os, rfl⟩
    refine ⟨rfl, ⟨?_, srtS_len l⟩, grownBy_sorted _⟩
    have := ownsRow_sorted (ss := bytesS l) (ts := (bytesS l).mergeSort fun x y => decide (x ≤ y)) (n := k) (os := os) (by simp) hlo hb (by omega) h2 h3
    rw [hbl] at this
    show World.ownsRow _ _ _ _ _ _ ((((bytesS l).mergeSort fun x y => decide (x ≤ y)).map strB).flatMap srow)
    rw [srow_encs]
    exact this
end
end Go.Proofs.YtpjheibkacbbcaaGreatDoor
/- slices.Compact at strings; sorted lists of strings that hold the same are one. Conditions: none. -/
namespace Go.Proofs.YtpjheibkacbbcaaGreatDoor
section
open Go.RowKit Go.Sort Go.Lib

theorem bang_listC {α : Type} [Inhabited α] (l : List α) {j : Nat} (h : j < l.length) : l.toArray[j]! = l[j] := by simp [h]
theorem asc_rise {α : Type} {cf : α → α → Int} (anti : ∀ x y, ¬ cf x y < 0 → ¬ cf y x < 0 → x = y) {l : List α} (h : Asc cf l) (hn : l.Nodup) : Rise cf l := by
  refine List.pairwise_iff_getElem.2 fun i j hi hj hij => ?_
  have h1 := List.pairwise_iff_getElem.1 h i j hi hj hij
  have h2 := List.pairwise_iff_getElem.1 hn i j hi hj hij
  by_cases hc : cf l[i] l[j] < 0
  · exact hc
  · exact absurd (anti _ _ hc h1) h2
section
variable {α : Type} [DecidableEq α] [Inhabited α] {cf : α → α → Int}
theorem cmp_upC (hO : SWO (ltOf cf)) (anti : ∀ x y, ¬ cf x y < 0 → ¬ cf y x < 0 → x = y) (d : Array α) (hs : ∀ i j, i ≤ j → j < d.size → ¬ cf d[j]! d[i]! < 0) : ∀ m, m ≤ d.size → (Lib.compactUpTo d m).Pairwise (fun x y => cf x y < 0) ∧ ∀ x, x ∈ Lib.compactUpTo d m ↔ ∃ j, j < m ∧ d[j]! = x
  | 0, _ => ⟨by simp [Lib.compactUpTo], fun x => by simp [Lib.compactUpTo]⟩
  | m + 1, hm => by
    obtain ⟨h1, h2⟩ := cmp_upC hO anti d hs m (by omega)
    rw [Lib.compactUpTo_succ]
    by_cases hk : Lib.keeps d m = true
    · rw [if_pos hk]
      refine ⟨?_, fun x => ?_⟩
      · rw [List.pairwise_append]
        refine ⟨h1, by simp, fun a ha b hb => ?_⟩
        rw [List.mem_singleton.1 hb]
        obtain ⟨j, hj, rfl⟩ := (h2 a).1 ha
        unfold Lib.keeps at hk
        have hk' : m = 0 ∨ d[m]! ≠ d[m - 1]! := by simpa using hk
        have e1 := hs j (m - 1) (by omega) (by omega)
        have e2 := hs (m - 1) m (by omega) (by omega)
        by_cases hc : cf d[j]! d[m]! < 0
        · exact hc
        · exact absurd (anti _ _ e2 (swo_ntr hO e1 hc)) (hk'.resolve_left (by omega))
      · rw [List.mem_append, h2, List.mem_singleton]
        constructor
        · rintro (⟨j, hj, e⟩ | e)
          · exact ⟨j, by omega, e⟩
          · exact ⟨m, by omega, e.symm⟩
        · rintro ⟨j, hj, e⟩
          by_cases c : j = m
          · subst c; exact .inr e.symm
          · exact .inl ⟨j, by omega, e⟩
    · rw [if_neg hk, List.append_nil]
      refine ⟨h1, fun x => ?_⟩
      unfold Lib.keeps at hk
      have hk' : ¬ (m = 0 ∨ d[m]! ≠ d[m - 1]!) := by simpa using hk
      rw [h2]
      constructor
      · rintro ⟨j, hj, e⟩; exact ⟨j, by omega, e⟩
      · rintro ⟨j, hj, e⟩
        by_cases c : j = m
        · subst c
          exact ⟨j - 1, by omega, by rw [← e]; exact (Decidable.not_not.1 (fun h => hk' (.inr h))).symm⟩
        · exact ⟨j, by omega, e⟩
theorem compact_riseC (hO : SWO (ltOf cf)) (anti : ∀ x y, ¬ cf x y < 0 → ¬ cf y x < 0 → x = y) {l : List α} (h : Asc cf l) : Rise cf (Lib.compact l) ∧ ∀ x, x ∈ Lib.compact l ↔ x ∈ l := by
  have hs : ∀ i j, i ≤ j → j < l.toArray.size → ¬ cf l.toArray[j]! l.toArray[i]! < 0 := fun i j hij hj => by
    have hj' : j < l.length := by simpa using hj
    rw [bang_listC l hj', bang_listC l (show i < l.length by omega)]
    by_cases e : i = j
    · subst e; exact swo_self hO _
    · exact List.pairwise_iff_getElem.1 h i j (by omega) hj' (by omega)
  obtain ⟨h1, h2⟩ := cmp_upC hO anti l.toArray hs l.length (by simp)
  refine ⟨h1, fun x => ?_⟩
  show x ∈ Lib.compactUpTo l.toArray l.length ↔ _
  rw [h2, List.mem_iff_getElem]
  constructor
  · rintro ⟨j, hj, e⟩; exact ⟨j, hj, by rw [← bang_listC l hj]; exact e⟩
  · rintro ⟨j, hj, e⟩; exact ⟨j, hj, by rw [bang_listC l hj]; exact e⟩
end
/-! The order of bytes. -/
theorem swoB : SWO (ltOf Lib.compareBytes) where
  irrefl a := by unfold ltOf; rw [(cb_zero a a).2 rfl]; rfl
  trans a b c h1 h2 := by
    unfold ltOf at h1 h2 ⊢
    exact decide_eq_true (cb_trans _ _ _ (of_decide_eq_true h1) (of_decide_eq_true h2))
  ntrans a b c h1 h2 := by
    unfold ltOf at h1 h2 ⊢
    have h1 := of_decide_eq_false h1
    have h2 := of_decide_eq_false h2
    refine decide_eq_false fun h3 => ?_
    by_cases e1 : Lib.compareBytes b a < 0
    · exact h2 (by
        have h4 := cb_trans _ _ _ e1 h3
        exact h4)
    · have e : a = b := by
        refine (cb_zero a b).1 ?_
        have := cb_neg a b
        omega
      subst e
      exact h2 h3
theorem antiB (x y : List UInt8) (h1 : ¬ Lib.compareBytes x y < 0) (h2 : ¬ Lib.compareBytes y x < 0) : x = y := by
  refine (cb_zero x y).1 ?_
  have := cb_neg x y
  omega
theorem leB (x y : List UInt8) : decide (x ≤ y) = decide (¬ Lib.compareBytes y x < 0) := by
  have h1 := Go.Proofs.bytesLess_eq y x
  rw [cb_less] at h1
  have h2 : (Lib.compareBytes y x < 0) ↔ y < x := by
    constructor
    · intro h; exact of_decide_eq_true (by rw [← h1]; exact decide_eq_true h)
    · intro h; exact of_decide_eq_true (by rw [h1]; exact decide_eq_true h)
  apply decide_eq_decide.2
  rw [h2]
  exact ⟨fun h => h, fun h => h⟩
theorem srt_asc (l : List (List UInt8)) : Asc Lib.compareBytes (l.mergeSort fun x y => decide (x ≤ y)) := by
  have h := List.pairwise_mergeSort (le := fun x y : List UInt8 => decide (x ≤ y)) (fun a b c h1 h2 => by
    rw [leB] at h1 h2 ⊢
    exact decide_eq_true (swo_ntr swoB (of_decide_eq_true h2) (of_decide_eq_true h1))) (fun a b => by
    rw [leB, leB, Bool.or_eq_true]
    have := cb_neg a b
    by_cases c : Lib.compareBytes b a < 0
    · exact .inr (decide_eq_true (by omega))
    · exact .inl (decide_eq_true c)) l
  refine h.imp fun {a b} hab => ?_
  rw [leB] at hab
  exact of_decide_eq_true hab
/-! Compact. -/
/-- Neighbours that are equal once. -/
def dedS (l : List ByteArray) : List ByteArray := (Lib.compact (bytesS l)).map strB
theorem bytesS_strB (m : List (List UInt8)) : bytesS (m.map strB) = m := by
  unfold bytesS
  rw [List.map_map, show ((fun s : ByteArray => s.data.toList) ∘ strB) = id from funext fun b => by simp [strB], List.map_id]
theorem bytesS_inj {s t : ByteArray} (h : s.data.toList = t.data.toList) : s = t := by rw [← strB_data s, h, strB_data]
theorem bytesS_nodup {l : List ByteArray} (h : l.Nodup) : (bytesS l).Nodup := by
  unfold bytesS
  rw [List.nodup_iff_pairwise_ne, List.pairwise_map]
  exact (List.nodup_iff_pairwise_ne.1 h).imp fun {a b} hab e => hab (bytesS_inj e)
theorem mem_bytesS {l : List ByteArray} {b : List UInt8} : b ∈ bytesS l ↔ strB b ∈ l := by
  unfold bytesS
  rw [List.mem_map]
  constructor
  · rintro ⟨s, hs, rfl⟩; rw [strB_data]; exact hs
  · exact fun h => ⟨strB b, h, by simp [strB]⟩
/-- What is sorted holds each once, or is thinned: the same, if it holds the same. -/
theorem sorted_same {l m : List ByteArray} (hn : l.Nodup) (h : ∀ s, s ∈ l ↔ s ∈ m) : srtS l = dedS (srtS m) := by
  unfold dedS
  show ((bytesS l).mergeSort fun x y => decide (x ≤ y)).map strB = (Lib.compact (bytesS (((bytesS m).mergeSort fun x y => decide (x ≤ y)).map strB))).map strB
  rw [bytesS_strB]
  congr 1
  obtain ⟨h1, h2⟩ := compact_riseC swoB antiB (srt_asc (bytesS m))
  refine rise_one swoB (asc_rise antiB (srt_asc _) ?_) h1 fun x => ?_
  · exact (List.mergeSort_perm (bytesS l) _).nodup_iff.2 (bytesS_nodup hn)
  · rw [h2, List.mem_mergeSort, List.mem_mergeSort, mem_bytesS, mem_bytesS]
    exact h _
theorem compact_lenC (l : List (List UInt8)) : (Lib.compact l).length ≤ l.length := by
  show (((List.range l.length).filter _).map _).length ≤ _
  rw [List.length_map]
  exact Nat.le_trans (List.length_filter_le _ _) (by simp)
theorem compactS_any (lo : Nat) (A : Option Addr) (n c : Nat) (l : List ByteArray) (w : World) (h : OwnR srow 1 w lo 9 A n c l) (hn : n ≤ 1000000000) :
    Calls Tryz.prog 112 #[.slice A n c] w fun e w' => e = .returned (.slice A (dedS l).length c) ∧ OwnR srow 1 w' lo 9 A (dedS l).length c (dedS l) ∧ w.grownBy w' (blkOf A) := by
  obtain ⟨ho, hlen⟩ := h
  rcases ho.2 with ⟨hv, hn0⟩ | ⟨g, cap, cur, hv, hlo, hb, h1, h2, h3, h4⟩
  · obtain ⟨rfl, _, rfl⟩ : A = none ∧ n = 0 ∧ c = 0 := by injection hv with a b c; exact ⟨a, b, c⟩
    subst hn0
    have hl0 : l = [] := List.eq_nil_of_length_eq_zero hlen
    subst hl0
    refine (Tryz.slices_Compact_string_empty none 0 w).mono ?_
    rintro e w' ⟨rfl, rfl⟩
    exact ⟨rfl, OwnR.nil _ _ _, gr_refl _ _⟩
  · obtain ⟨rfl, rfl⟩ : A = some ⟨g, 0, none⟩ ∧ c = cap := by injection hv with a b c; exact ⟨a, c⟩
    subst hlen
    have hbl : (bytesS l).length = l.length := by simp [bytesS]
    have hdl : (dedS l).length = (Lib.compact (bytesS l)).length := by simp [dedS]
    rw [srow_enc, Nat.mul_one, ← hbl] at h4
    have hcon := Tryz.slices_Compact_string g 0 c (bytesS l) w (holds_of_block hb h4) (by omega) (by omega)
    rw [hbl] at hcon
    rw [hdl]
    refine hcon.mono ?_
    rintro e w' ⟨rfl, k, rfl⟩
    have hl := compact_lenC (bytesS l)
    rw [hbl] at hl
    have key := ownsRow_sorted (w := w) (base := lo) (g := g) (cap := c) (n := k) (e := 9) (os := #[]) (cur := cur) (ss := bytesS l) (ts := Lib.compact (bytesS l) ++ List.replicate (l.length - (Lib.compact (bytesS l)).length) []) (by rw [List.length_append, List.length_replicate, hbl]; omega) hlo hb (by omega) h2 h3
    have gk := grownBy_sorted (w := w) (g := g) (n := k) (os := #[]) (Lib.compact (bytesS l) ++ List.replicate (l.length - (Lib.compact (bytesS l)).length) []).toArray
    rw [hbl] at key
    rw [grow_empty] at key gk
    refine ⟨rfl, ⟨?_, by simp [dedS]⟩, gk⟩
    have hp := Own.prefix_ (show Own _ lo 9 1 (some ⟨g, 0, none⟩) l.length c _ from key) (Lib.compact (bytesS l)).length hl
    rw [Nat.mul_one, List.map_append, List.take_append_of_le_length (by simp), List.take_of_length_le (by simp)] at hp
    show Own _ _ _ _ _ _ _ (((Lib.compact (bytesS l)).map strB).flatMap srow)
    rw [srow_encs]
    exact hp
end
end Go.Proofs.YtpjheibkacbbcaaGreatDoor

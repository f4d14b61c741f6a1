/- slices.SortFunc at structs in a row of the call's own, at any length: a sorted permutation. Over any program that bears the library's text. Conditions: the order is a strict weak one. -/
import Derived.Test.YtgogiljplnninaaGreatDoorBun2
import Derived.Test.YtgogiljplnninaaGreatDoorBun4
import Derived.Shelf.SlSortCmp.NoneTotal
import Derived.Test.YtgogiljplnninaaGreatDoorBun5
import Derived.Laws.StructEq
import Derived.WalkKit
import Derived.Deep.QuietTactic
import Derived.BigQuiet
import Derived.Test.YtgogiljplnninaaGreatDoorFst
import Derived.Test.YtgogiljplnninaaGreatDoorBun1
namespace Go.Proofs.YtgogiljplnninaaGreatDoor
section
open Go.Shelf Go.RowKit Go.Lib Go.Sort

section
variable {P : Program} {ρ : Ren} {α : Type} {row : α → List Value} {k : Nat} {e : TypeId} {lo g n c : Nat} {l : List α} {w : World}
theorem flatK_toList [Inhabited α] (hk : ∀ a, (row a).length = k) (l : List α) : (flatK row k l.toArray).toList = l.flatMap row := by
  apply List.ext_getElem?
  intro t
  rw [Array.getElem?_toList]
  by_cases ht : t < l.length * k
  · have hs : t < (flatK row k l.toArray).size := by simpa using ht
    have k0 : 0 < k := by
      rcases Nat.eq_zero_or_pos k with h | h
      · subst h; simp at ht
      · exact h
    have hq : t / k < l.length := Nat.div_lt_of_lt_mul (by rw [Nat.mul_comm]; exact ht)
    have hm := Nat.mod_lt t k0
    have e := flat_get hk l (t / k) (t % k) hm
    rw [show t / k * k + t % k = t by rw [Nat.mul_comm]; exact Nat.div_add_mod t k] at e
    rw [e, Array.getElem?_eq_getElem hs, ← getElem!_pos _ t hs, get_flatK _ _ _ t (by simpa using ht), List.getElem?_eq_getElem hq]
    have h1 : (l.toArray)[t / k]! = l[t / k] := by rw [getElem!_pos _ _ (by simpa using hq)]; simp
    rw [h1]
    show _ = (row l[t / k])[t % k]?
    rw [List.getElem?_eq_getElem (by rw [hk]; exact hm), getElem!_pos _ _ (by rw [hk]; exact hm)]
  · rw [Array.getElem?_eq_none (by simpa using Nat.le_of_not_lt ht), List.getElem?_eq_none (by rw [flat_len hk]; omega)]
theorem OwnR.holds [Inhabited α] (hk : ∀ a, (row a).length = k) (h : OwnR row k w lo e (some ⟨g, 0, none⟩) n c l) : HoldsK row k w g 0 l.toArray := by
  intro j hj
  have hj' : j < n * k := by rw [← h.2]; simpa using hj
  rw [Nat.zero_add]
  refine ⟨(h.1.cell hj').trans ?_, h.1.frozen j⟩
  rw [← flatK_toList hk l, Array.getElem?_toList, Array.getElem?_eq_getElem hj, ← getElem!_pos _ j hj]
  rfl
theorem OwnR.sorted [Inhabited α] (hk : ∀ a, (row a).length = k) (h : OwnR row k w lo e (some ⟨g, 0, none⟩) n c l) {d' : Array α} (hs : d'.size = l.length) (m : Nat) (os : Array Obj) :
    OwnR row k (sortWorldK row k w g 0 m d' os) lo e (some ⟨g, 0, none⟩) n c d'.toList ∧ w.grownBy (sortWorldK row k w g 0 m d' os) (some g) := by
  have hF : (flatK row k d').toList = d'.toList.flatMap row := by
    have := flatK_toList hk d'.toList
    simpa using this
  have hsz : (flatK row k d').size = n * k := by rw [size_flatK, hs, h.2]
  have hg : ∀ b, b ≠ g → b < w.heap.size → (sortWorldK row k w g 0 m d' os).heap[b]? = w.heap[b]? := by
    intro b hb hlt
    show (w.heap.modify g _ ++ os)[b]? = _
    rw [Array.getElem?_append_left (by simpa using hlt), Array.getElem?_modify, if_neg (Ne.symm hb)]
  have hsize : (sortWorldK row k w g 0 m d' os).heap.size = w.heap.size + os.size := by
    show (w.heap.modify g _ ++ os).size = _
    simp
  refine ⟨⟨⟨by rw [flat_len hk]; simp [hs, h.2], ?_⟩, by simpa [h.2] using hs⟩, ⟨rfl, rfl, rfl, by omega, fun b hb hne => hg b (fun e => hne (by rw [e])) hb⟩⟩
  rcases h.1.2 with ⟨hv, _⟩ | ⟨g', cap, cur, hv, hlo, hh, hnc, hcm, hcs, htk⟩
  · cases hv
  · injection hv with e1 e2 e3
    injection e1 with e1
    injection e1 with e1
    subst e1; subst e3
    have hlt : g < w.heap.size := Blk.lt (t := e) (cs := cur) hh
    refine .inr ⟨g, c, putCells id 0 (flatK row k d') cur, rfl, hlo, ?_, hnc, hcm, by simp [putCells, hcs], ?_⟩
    · show (w.heap.modify g _ ++ os)[g]? = _
      rw [Array.getElem?_append_left (by simpa using hlt), Array.getElem?_modify, if_pos rfl, hh]
      rfl
    · rw [← hF]
      apply List.ext_getElem?
      intro t
      rw [List.getElem?_take]
      by_cases ht : t < n * k
      · have htc : t < cur.size := by rw [hcs]; exact Nat.lt_of_lt_of_le ht (Nat.mul_le_mul_right _ hnc)
        have hs2 : t < (flatK row k d').size := by omega
        rw [if_pos ht, Array.getElem?_toList, Array.getElem?_toList, Array.getElem?_eq_getElem hs2, ← getElem!_pos _ t hs2]
        simp only [putCells, Array.getElem?_mapIdx, Array.getElem?_eq_getElem htc, Option.map_some, Nat.zero_add, Nat.sub_zero]
        rw [if_pos ⟨Nat.zero_le _, hs2⟩]
        rfl
      · rw [if_neg ht, Array.getElem?_toList, Array.getElem?_eq_none (by omega)]
theorem permIn_perm [Inhabited α] {d d' : Array α} (h : PermIn 0 d.size d d') : d'.size = d.size ∧ d'.toList.Perm d.toList := by
  obtain ⟨h1, _, h3⟩ := h
  refine ⟨h1, ?_⟩
  rw [Array.extract_eq_self_of_le (Nat.le_refl _)] at h3
  rw [Array.extract_eq_self_of_le (by omega)] at h3
  exact h3
/-- No later one is less than an earlier one. -/
def Asc (cf : α → α → Int) (l : List α) : Prop := l.Pairwise fun x y => ¬ cf y x < 0
theorem sortedIn_asc [Inhabited α] {cf : α → α → Int} {d : Array α} (h : SortedIn (ltOf cf) 0 d.size d) : Asc cf d.toList := by
  refine List.pairwise_iff_getElem.2 fun i j hi hj hij => ?_
  have := h i j (Nat.zero_le _) hij (by simpa using hj)
  rw [getElem!_pos d j (by simpa using hj), getElem!_pos d i (by simpa using hi)] at this
  unfold ltOf at this
  have h2 := of_decide_eq_false this
  simpa using h2
theorem asc_unique {cf : α → α → Int} : ∀ {l1 l2 : List α}, l1.Perm l2 → Asc cf l1 → Asc cf l2 → (∀ x ∈ l1, ∀ y ∈ l1, ¬ cf x y < 0 → ¬ cf y x < 0 → x = y) → l1 = l2
  | [], l2, hp, _, _, _ => hp.nil_eq
  | a :: l1, [], hp, _, _, _ => absurd hp.length_eq (by simp)
  | a :: l1, b :: l2, hp, h1, h2, hd => by
    have h1' := List.pairwise_cons.1 h1
    have h2' := List.pairwise_cons.1 h2
    have ha : a ∈ b :: l2 := hp.subset List.mem_cons_self
    have hb : b ∈ a :: l1 := hp.symm.subset List.mem_cons_self
    have hab : a = b := by
      rcases List.mem_cons.1 ha with e | ha'
      · exact e
      · rcases List.mem_cons.1 hb with e | hb'
        · exact e.symm
        · exact hd a List.mem_cons_self b (List.mem_cons_of_mem _ hb') (h2'.1 a ha') (h1'.1 b hb')
    subst hab
    rw [asc_unique ((List.perm_cons a).1 hp) h1'.2 h2'.2 (fun x hx y hy => hd x (List.mem_cons_of_mem _ hx) y (List.mem_cons_of_mem _ hy))]
/-- What a sort leaves. -/
def SortedQ (cf : α → α → Int) (row : α → List Value) (k : Nat) (lo : Nat) (e : TypeId) (A : Option Addr) (n c : Nat) (l : List α) (w : World) (q : Ending) (w' : World) : Prop :=
  q = .returned (.tuple #[]) ∧ ∃ l' : List α, l'.Perm l ∧ Asc cf l' ∧ OwnR row k w' lo e A n c l' ∧ w.grownBy w' (blkOf A)
theorem own_addr {size : Nat} {A : Option Addr} {xs : List Value} (h : Own w lo e size A n c xs) : (A = none ∧ n = 0) ∨ ∃ g, A = some ⟨g, 0, none⟩ ∧ g < w.heap.size := by
  rcases h.2 with ⟨hv, h0⟩ | ⟨g, cap, cur, hv, _, hh, _⟩
  · injection hv with h1
    exact .inl ⟨h1, h0⟩
  · injection hv with h1
    exact .inr ⟨g, h1, Blk.lt (t := e) (cs := cur) hh⟩
theorem sortRec_run [Inhabited α] (L : SlLaysF0.n6 P ρ) (aE : ∀ w, (isAgg (ρ.t 24)).run P w = .ok true w) (zE : ∀ w, (Go.sizeOf (ρ.t 24)).run P w = .ok k w) (hk : ∀ x, (row x).length = k) (h1 : ∀ x, ∀ v ∈ row x, v.oneCell' = true) (cf : α → α → Int) (hO : SWO (ltOf cf)) (gf : Nat) (cb : Array Value)
    (eg : ∀ args w, (callFunc gf args).run P w = .ok (.enter gf args) w) (hcmp : ∀ (x y : α) (w1 : World), Calls P gf (#[.agg (row x).toArray, .agg (row y).toArray] ++ cb) w1 (RetQ (.int .i64 (cf x y)) w1))
    (A : Option Addr) (h : OwnR row k w lo e A n c l) (hn : n < 4611686018427387904) : Calls P (ρ.f 6) #[.slice A n c, .func (.func gf) #[] cb] w (SortedQ cf row k lo e A n c l w) := by
  rcases own_addr h.1 with ⟨rfl, rfl⟩ | ⟨g, rfl, hlt⟩
  · have hl : l = [] := List.eq_nil_of_length_eq_zero h.2
    refine (AnyF.slices_SortFunc_none L none c _ w).mono ?_
    rintro q w' ⟨rfl, rfl⟩
    exact ⟨rfl, l, .refl _, by rw [hl]; exact List.Pairwise.nil, h, gr_refl _ _⟩
  · have hl : l.toArray.size = n := by simpa using h.2
    have hc : CmpLays P gf cb row k cf g 0 l.toArray.size w := fun m os dk _ x y => (hcmp x y _).mono fun q w' h => ⟨h.1, h.2⟩
    have hcon := AnyQ.slices_SortFunc L k aE zE row hk h1 cf hO gf cb g 0 c l.toArray w eg hc (h.holds hk) hlt (by rw [hl]; exact hn)
    rw [hl] at hcon
    refine hcon.mono ?_
    rintro q w' ⟨rfl, d', m, os, hp, hs, rfl⟩
    rw [← hl] at hp hs
    obtain ⟨hsz, hpm⟩ := permIn_perm hp
    rw [← hsz] at hs
    obtain ⟨ho, hg⟩ := h.sorted hk (d' := d') (by simpa using hsz) m os
    exact ⟨rfl, d'.toList, by simpa using hpm, sortedIn_asc hs, ho, hg⟩
/-- The order is asked of right elements alone. -/
theorem sortRec_any (L : SlLaysF0.n6 P ρ) (aE : ∀ w, (isAgg (ρ.t 24)).run P w = .ok true w) (zE : ∀ w, (Go.sizeOf (ρ.t 24)).run P w = .ok k w) (hk : ∀ x, (row x).length = k) (h1 : ∀ x, ∀ v ∈ row x, v.oneCell' = true) (cf : α → α → Int) (hO : SWO (ltOf cf)) (gf : Nat) (cb : Array Value)
    (eg : ∀ args w, (callFunc gf args).run P w = .ok (.enter gf args) w) {Ok : α → Prop} (hcmp : ∀ (x y : α) (w1 : World), Ok x → Ok y → Calls P gf (#[.agg (row x).toArray, .agg (row y).toArray] ++ cb) w1 (RetQ (.int .i64 (cf x y)) w1))
    (A : Option Addr) (h : OwnR row k w lo e A n c l) (hl : ∀ x ∈ l, Ok x) (hn : n < 4611686018427387904) : Calls P (ρ.f 6) #[.slice A n c, .func (.func gf) #[] cb] w (SortedQ cf row k lo e A n c l w) := by
  rcases l.eq_nil_or_concat with hnil | ⟨l0, x0, hx0⟩
  · subst hnil
    have h0 : n = 0 := by simpa using h.2.symm
    subst h0
    refine (AnyF.slices_SortFunc_none L A c _ w).mono ?_
    rintro q w' ⟨rfl, rfl⟩
    exact ⟨rfl, [], .refl _, List.Pairwise.nil, h, gr_refl _ _⟩
  · haveI : Inhabited {x : α // Ok x} := ⟨⟨x0, hl x0 (by rw [hx0]; simp)⟩⟩
    have hv : (l.attachWith Ok hl).map Subtype.val = l := List.attachWith_map_subtype_val hl
    have hfl : ∀ m : List {x : α // Ok x}, m.flatMap (fun x => row x.1) = (m.map Subtype.val).flatMap row := fun m => by rw [List.flatMap_map]
    have h' : OwnR (fun x : {x : α // Ok x} => row x.1) k w lo e A n c (l.attachWith Ok hl) := ⟨by rw [hfl, hv]; exact h.1, by rw [List.length_attachWith]; exact h.2⟩
    have hcon := sortRec_run (P := P) (ρ := ρ) (row := fun x : {x : α // Ok x} => row x.1) L aE zE (fun x => hk x.1) (fun x => h1 x.1) (fun x y => cf x.1 y.1) ⟨fun x => hO.irrefl x.1, fun x y z => hO.trans x.1 y.1 z.1, fun x y z => hO.ntrans x.1 y.1 z.1⟩ gf cb eg (fun x y w1 => hcmp x.1 y.1 w1 x.2 y.2) A h' hn
    refine hcon.mono ?_
    rintro q w' ⟨rfl, l', hp, ha, ho, hg⟩
    refine ⟨rfl, l'.map Subtype.val, ?_, ?_, ⟨by rw [← hfl]; exact ho.1, by rw [List.length_map]; exact ho.2⟩, hg⟩
    · have := hp.map Subtype.val
      rwa [hv] at this
    · exact List.pairwise_map.2 ha
end
end
end Go.Proofs.YtgogiljplnninaaGreatDoor
/- Insertion by exchanges sorts; equal neighbours once; two rising lists of the same elements. In plain Lean. Conditions: the order is a strict weak one. -/
namespace Go.Proofs.YtgogiljplnninaaGreatDoor
section
open Go.Shelf Go.RowKit Go.Lib Go.Sort

section
variable {α : Type} {cf : α → α → Int} {l : List α} {i j n : Nat} {x y z : α}
theorem swo_asym (h : SWO (ltOf cf)) (h1 : cf x y < 0) : ¬ cf y x < 0 := by
  intro h2
  have h3 := h.trans x y x (by unfold ltOf; exact decide_eq_true h1) (by unfold ltOf; exact decide_eq_true h2)
  have h4 := h.irrefl x
  rw [h3] at h4
  cases h4
theorem swo_trans (h : SWO (ltOf cf)) (h1 : cf x y < 0) (h2 : cf y z < 0) : cf x z < 0 := by
  have h3 := h.trans x y z (by unfold ltOf; exact decide_eq_true h1) (by unfold ltOf; exact decide_eq_true h2)
  unfold ltOf at h3
  exact of_decide_eq_true h3
theorem swo_self (h : SWO (ltOf cf)) (x : α) : ¬ cf x x < 0 := by
  have h4 := h.irrefl x
  unfold ltOf at h4
  exact of_decide_eq_false h4
theorem swo_ntr (h : SWO (ltOf cf)) (h1 : ¬ cf x y < 0) (h2 : ¬ cf y z < 0) : ¬ cf x z < 0 := by
  have h3 := h.ntrans x y z (by unfold ltOf; exact decide_eq_false h1) (by unfold ltOf; exact decide_eq_false h2)
  unfold ltOf at h3
  exact of_decide_eq_false h3
/-- The first i are in order. -/
def SrtTo (cf : α → α → Int) (l : List α) (i : Nat) : Prop := ∀ (p q : Nat) (x y : α), p < q → q < i → l[p]? = some x → l[q]? = some y → ¬ cf y x < 0
/-- The first i + 1 are in order, but for the one at place j, which may belong further to the front. -/
def Hole (cf : α → α → Int) (l : List α) (i j : Nat) : Prop := ∀ (p q : Nat) (x y : α), p < q → q ≤ i → q ≠ j → l[p]? = some x → l[q]? = some y → ¬ cf y x < 0
theorem SrtTo.one : SrtTo cf l 1 := fun p q x y h1 h2 => by omega
theorem SrtTo.hole (h : SrtTo cf l i) : Hole cf l i i := fun p q x y h1 h2 h3 hx hy => h p q x y h1 (by omega) hx hy
theorem Hole.done0 (h : Hole cf l i 0) : SrtTo cf l (i + 1) := fun p q x y h1 h2 hx hy => h p q x y h1 (by omega) (by omega) hx hy
theorem SrtTo.asc (h : SrtTo cf l n) (hl : l.length ≤ n) : Asc cf l := by
  refine List.pairwise_iff_getElem.2 fun p q hp hq hpq => ?_
  exact h p q l[p] l[q] hpq (by omega) (List.getElem?_eq_getElem hp) (List.getElem?_eq_getElem hq)
theorem Hole.done (hO : SWO (ltOf cf)) (h : Hole cf l i (j + 1)) (hx : l[j + 1]? = some x) (hy : l[j]? = some y) (hj : j + 1 ≤ i) (hc : ¬ cf x y < 0) : SrtTo cf l (i + 1) := by
  intro p q u v h1 h2 hu hv
  by_cases e : q = j + 1
  · subst e
    rw [hx] at hv
    obtain rfl := Option.some.inj hv
    by_cases e2 : p = j
    · subst e2
      rw [hy] at hu
      obtain rfl := Option.some.inj hu
      exact hc
    · exact swo_ntr hO hc (h p j u y (by omega) (by omega) (by omega) hu hy)
  · exact h p q u v h1 (by omega) e hu hv
theorem swap_get (hx : l[j + 1]? = some x) (hy : l[j]? = some y) (p : Nat) : ((l.set (j + 1) y).set j x)[p]? = if p = j then some x else if p = j + 1 then some y else l[p]? := by
  have h1 := (List.getElem?_eq_some_iff.1 hx).1
  by_cases e : p = j
  · subst e
    rw [if_pos rfl, List.getElem?_set_self (by rw [List.length_set]; omega)]
  · rw [if_neg e, List.getElem?_set_ne (by omega)]
    by_cases e2 : p = j + 1
    · subst e2
      rw [if_pos rfl, List.getElem?_set_self h1]
    · rw [if_neg e2, List.getElem?_set_ne (by omega)]
theorem Hole.swap (hO : SWO (ltOf cf)) (h : Hole cf l i (j + 1)) (hx : l[j + 1]? = some x) (hy : l[j]? = some y) (hj : j + 1 ≤ i) (hc : cf x y < 0) : Hole cf ((l.set (j + 1) y).set j x) i j := by
  intro p q u v h1 h2 h3 hu hv
  rw [swap_get hx hy] at hu hv
  rw [if_neg h3] at hv
  by_cases e : q = j + 1
  · rw [if_pos e] at hv
    obtain rfl := Option.some.inj hv
    by_cases e2 : p = j
    · rw [if_pos e2] at hu
      obtain rfl := Option.some.inj hu
      exact swo_asym hO hc
    · rw [if_neg e2, if_neg (by omega)] at hu
      exact h p j u _ (by omega) (by omega) (by omega) hu hy
  · rw [if_neg e] at hv
    by_cases e2 : p = j
    · rw [if_pos e2] at hu
      obtain rfl := Option.some.inj hu
      exact h (j + 1) q _ v (by omega) h2 e hx hv
    · rw [if_neg e2] at hu
      by_cases e3 : p = j + 1
      · rw [if_pos e3] at hu
        obtain rfl := Option.some.inj hu
        exact h j q _ v (by omega) h2 e hy hv
      · rw [if_neg e3] at hu
        exact h p q u v h1 h2 e hu hv
theorem swap_perm (hx : l[j + 1]? = some x) (hy : l[j]? = some y) : ((l.set (j + 1) y).set j x).Perm l := by
  obtain ⟨h1, rfl⟩ := List.getElem?_eq_some_iff.1 hx
  obtain ⟨h2, rfl⟩ := List.getElem?_eq_some_iff.1 hy
  exact List.set_set_perm h1 h2
end
section
variable {α : Type} [DecidableEq α] {cf : α → α → Int}
/-- Equal neighbours once. -/
def ddE : List α → List α
  | [] => []
  | [a] => [a]
  | a :: b :: r => if a = b then ddE (b :: r) else a :: ddE (b :: r)
theorem ddE_mem (x : α) : ∀ l : List α, x ∈ ddE l ↔ x ∈ l
  | [] => Iff.rfl
  | [a] => Iff.rfl
  | a :: b :: r => by
    by_cases e : a = b
    · rw [ddE, if_pos e, ddE_mem x (b :: r), List.mem_cons (a := x) (b := a)]
      subst e
      simp
    · rw [ddE, if_neg e, List.mem_cons, ddE_mem x (b :: r), ← List.mem_cons]
theorem ddE_len : ∀ l : List α, (ddE l).length ≤ l.length
  | [] => Nat.le_refl _
  | [a] => Nat.le_refl _
  | a :: b :: r => by
    have ih := ddE_len (b :: r)
    rw [ddE]
    split <;> simp only [List.length_cons] at * <;> omega
theorem ddE_snoc : ∀ (l : List α) (y x : α), ddE ((l ++ [y]) ++ [x]) = if y = x then ddE (l ++ [y]) else ddE (l ++ [y]) ++ [x]
  | [], y, x => by
    show ddE [y, x] = _
    rw [ddE]
    by_cases e : y = x
    · rw [if_pos e, if_pos e, e]; rfl
    · rw [if_neg e, if_neg e]; rfl
  | [a], y, x => by
    have ih := ddE_snoc ([] : List α) y x
    simp only [List.nil_append, List.cons_append] at ih ⊢
    have e1 : ddE [a, y, x] = if a = y then ddE [y, x] else a :: ddE [y, x] := rfl
    have e2 : ddE [a, y] = if a = y then ddE [y] else a :: ddE [y] := rfl
    rw [e1, e2, ih]
    by_cases e : a = y
    · rw [if_pos e, if_pos e]
    · rw [if_neg e, if_neg e]
      split <;> rfl
  | a :: b :: r, y, x => by
    have ih := ddE_snoc (b :: r) y x
    simp only [List.cons_append] at ih ⊢
    have e1 : ddE (a :: b :: ((r ++ [y]) ++ [x])) = if a = b then ddE (b :: ((r ++ [y]) ++ [x])) else a :: ddE (b :: ((r ++ [y]) ++ [x])) := rfl
    have e2 : ddE (a :: b :: (r ++ [y])) = if a = b then ddE (b :: (r ++ [y])) else a :: ddE (b :: (r ++ [y])) := rfl
    rw [e1, e2, ih]
    by_cases e : a = b
    · rw [if_pos e, if_pos e]
    · rw [if_neg e, if_neg e]
      split <;> rfl
theorem ddE_take {l : List α} {m : Nat} {x y : α} (hm : 0 < m) (hx : l[m]? = some x) (hy : l[m - 1]? = some y) : ddE (l.take (m + 1)) = if y = x then ddE (l.take m) else ddE (l.take m) ++ [x] := by
  obtain ⟨k, rfl⟩ : ∃ k, m = k + 1 := ⟨m - 1, by omega⟩
  rw [Nat.add_sub_cancel] at hy
  obtain ⟨h1, e1⟩ := List.getElem?_eq_some_iff.1 hx
  obtain ⟨h2, e2⟩ := List.getElem?_eq_some_iff.1 hy
  rw [List.take_succ_eq_append_getElem h1, List.take_succ_eq_append_getElem h2, e1, e2]
  exact ddE_snoc _ _ _
/-- No equal neighbours among the first k. -/
def NoEq (l : List α) (k : Nat) : Prop := ∀ (p : Nat) (x y : α), p + 1 < k → l[p]? = some x → l[p + 1]? = some y → x ≠ y
omit [DecidableEq α] in
theorem NoEq.one {l : List α} : NoEq l 1 := fun p x y h => by omega
omit [DecidableEq α] in
theorem NoEq.succ {l : List α} {k : Nat} {x y : α} (h : NoEq l k) (hk : 0 < k) (hx : l[k]? = some x) (hy : l[k - 1]? = some y) (hn : y ≠ x) : NoEq l (k + 1) := by
  intro p u v hp hu hv
  by_cases e : p + 1 = k
  · subst e
    rw [hx] at hv
    rw [Nat.add_sub_cancel, hu] at hy
    obtain rfl := Option.some.inj hv
    obtain rfl := Option.some.inj hy
    exact hn
  · exact h p u v (by omega) hu hv
theorem NoEq.dd {l : List α} : ∀ {k : Nat}, NoEq l k → k ≤ l.length → ddE (l.take k) = l.take k
  | 0, _, _ => by rw [List.take_zero]; rfl
  | 1, _, hl => by
    obtain ⟨a, r, rfl⟩ := List.exists_cons_of_length_pos (show 0 < l.length by omega)
    rfl
  | k + 2, h, hl => by
    have h1 : k + 1 < l.length := by omega
    have h2 : k < l.length := by omega
    rw [ddE_take (Nat.succ_pos k) (List.getElem?_eq_getElem h1) (show l[k + 1 - 1]? = some l[k] by rw [Nat.add_sub_cancel]; exact List.getElem?_eq_getElem h2), if_neg (h k _ _ (by omega) (List.getElem?_eq_getElem h2) (List.getElem?_eq_getElem h1)), NoEq.dd (k := k + 1) (fun p x y hp => h p x y (by omega)) (by omega), ← List.take_succ_eq_append_getElem h1]
theorem ddE_noeq : ∀ l : List α, NoEq (ddE l) (ddE l).length
  | [] => fun p x y h => by simp [ddE] at h
  | [a] => fun p x y h => by simp [ddE] at h
  | a :: b :: r => by
    have ih := ddE_noeq (b :: r)
    by_cases e : a = b
    · rw [ddE, if_pos e]; exact ih
    · rw [ddE, if_neg e]
      intro p x y hp hx hy
      cases p with
      | zero =>
        have hb : (ddE (b :: r))[0]? = some b := by
          clear ih hp hx hy e
          induction r generalizing b with
          | nil => rfl
          | cons c r ih2 =>
            rw [ddE]
            by_cases e : b = c
            · rw [if_pos e, e]; exact ih2 c
            · rw [if_neg e]; rfl
        rw [List.getElem?_cons_zero] at hx
        rw [List.getElem?_cons_succ, hb] at hy
        obtain rfl := Option.some.inj hx
        obtain rfl := Option.some.inj hy
        exact e
      | succ p =>
        rw [List.getElem?_cons_succ] at hx hy
        exact ih p x y (by rw [List.length_cons] at hp; omega) hx hy
theorem ddE_sub : ∀ l : List α, (ddE l).Sublist l
  | [] => List.Sublist.refl _
  | [a] => List.Sublist.refl _
  | a :: b :: r => by
    rw [ddE]
    split
    · exact (ddE_sub (b :: r)).trans (List.sublist_cons_self _ _)
    · exact (ddE_sub (b :: r)).cons_cons _
/-- Each is less than all that follow it. -/
def Rise (cf : α → α → Int) (l : List α) : Prop := l.Pairwise fun x y => cf x y < 0
omit [DecidableEq α] in
theorem rise_adj (hO : SWO (ltOf cf)) : ∀ {l : List α}, (∀ (p : Nat) (x y : α), l[p]? = some x → l[p + 1]? = some y → cf x y < 0) → Rise cf l
  | [], _ => List.Pairwise.nil
  | [a], _ => List.pairwise_singleton _ _
  | a :: b :: r, h => by
    have ih : Rise cf (b :: r) := rise_adj hO (fun p x y hx hy => h (p + 1) x y (by rw [List.getElem?_cons_succ]; exact hx) (by rw [List.getElem?_cons_succ]; exact hy))
    have hab := h 0 a b rfl rfl
    refine List.pairwise_cons.2 ⟨fun x hx => ?_, ih⟩
    rcases List.mem_cons.1 hx with rfl | hx
    · exact hab
    · exact swo_trans hO hab ((List.pairwise_cons.1 ih).1 x hx)
omit [DecidableEq α] in
/-- Two rising lists of the same elements are one. -/
theorem rise_one (hO : SWO (ltOf cf)) : ∀ {l m : List α}, Rise cf l → Rise cf m → (∀ x, x ∈ l ↔ x ∈ m) → l = m
  | [], [], _, _, _ => rfl
  | [], b :: m, _, _, h => absurd ((h b).2 (List.mem_cons_self ..)) (by simp)
  | a :: l, [], _, _, h => absurd ((h a).1 (List.mem_cons_self ..)) (by simp)
  | a :: l, b :: m, h1, h2, h => by
    obtain ⟨p1, p2⟩ := List.pairwise_cons.1 h1
    obtain ⟨q1, q2⟩ := List.pairwise_cons.1 h2
    have e : a = b := by
      rcases List.mem_cons.1 ((h a).1 (List.mem_cons_self ..)) with e | hm
      · exact e
      · rcases List.mem_cons.1 ((h b).2 (List.mem_cons_self ..)) with e | hn
        · exact e.symm
        · exact absurd (p1 b hn) (swo_asym hO (q1 a hm))
    subst e
    rw [rise_one hO p2 q2 (fun x => ⟨fun hx => by
      rcases List.mem_cons.1 ((h x).1 (List.mem_cons_of_mem _ hx)) with e | hm
      · subst e; exact absurd (p1 x hx) (swo_self hO x)
      · exact hm, fun hx => by
      rcases List.mem_cons.1 ((h x).2 (List.mem_cons_of_mem _ hx)) with e | hm
      · subst e; exact absurd (q1 x hx) (swo_self hO x)
      · exact hm⟩)]
end
end
end Go.Proofs.YtgogiljplnninaaGreatDoor
/- Beacons of both lists, and who can be reached, in plain Lean. Conditions: none. -/
namespace Go.Proofs.YtgogiljplnninaaGreatDoor
section
open Go.RowKit Go.Sort

theorem bcCmp_self (a : BcV) : ¬ bcCmp a a < 0 := by
  rw [bcCmp_lt]
  have h1 := cmpS_self a.psn
  have h2 := cmpS_self a.dev
  omega
theorem bcCmp_zero (a b : BcV) : bcCmp a b = 0 ↔ nb a.psn = nb b.psn ∧ nb a.dev = nb b.dev ∧ a.at_ = b.at_ := by
  rw [← cmpS_zero, ← cmpS_zero, ← cmpZ_zero a.at_ b.at_]
  unfold bcCmp
  simp only [orL]
  by_cases h1 : cmpS a.psn b.psn = 0
  · rw [if_pos h1]
    by_cases h2 : cmpS a.dev b.dev = 0
    · rw [if_pos h2]
      by_cases h4 : cmpZ a.at_ b.at_ = 0
      · rw [if_pos h4]; omega
      · rw [if_neg h4]; omega
    · rw [if_neg h2]; omega
  · rw [if_neg h1]; omega
theorem bcCmp_eq {a b : BcV} (h1 : ¬ bcCmp a b < 0) (h2 : ¬ bcCmp b a < 0) : bcCmp a b = 0 := by
  rw [bcCmp_zero, ← cmpS_zero, ← cmpS_zero]
  rw [bcCmp_lt, ← cmpS_zero, ← cmpS_zero] at h1 h2
  have n1 := cmpS_neg a.psn b.psn
  have n2 := cmpS_neg a.dev b.dev
  omega
theorem bcCmp_ne {a b : BcV} (h : bcCmp a b = 0) : ¬ bcCmp a b < 0 ∧ ¬ bcCmp b a < 0 := by
  refine ⟨by omega, ?_⟩
  rw [bcCmp_zero, ← cmpS_zero, ← cmpS_zero] at h
  rw [bcCmp_lt, ← cmpS_zero, ← cmpS_zero]
  have n1 := cmpS_neg a.psn b.psn
  have n2 := cmpS_neg a.dev b.dev
  omega
theorem swoBc : SWO (ltOf bcCmp) where
  irrefl x := by
    unfold ltOf
    rw [decide_eq_false_iff_not]
    exact bcCmp_self x
  trans x y z h1 h2 := by
    unfold ltOf at *
    rw [decide_eq_true_eq] at *
    exact bcCmp_trans h1 h2
  ntrans x y z h1 h2 := by
    unfold ltOf at *
    rw [decide_eq_false_iff_not] at *
    intro h3
    by_cases e1 : bcCmp y x < 0
    · exact h2 (bcCmp_trans e1 h3)
    · have z1 := bcCmp_zero x y |>.1 (bcCmp_eq h1 e1)
      apply h2
      rw [bcCmp_lt] at h3 ⊢
      obtain ⟨k1, k2, k3⟩ := z1
      rw [cmpS_eql k1, cmpS_eql k2, k1, k2, k3] at h3
      exact h3
/-- Beacons in order are apart. -/
theorem bAsc_inj {l : List BcV} (h : BAsc l) {x y : BcV} (hx : x ∈ l) (hy : y ∈ l) (h1 : ¬ bcCmp x y < 0) (h2 : ¬ bcCmp y x < 0) : x = y := by
  obtain ⟨i, hi⟩ := List.mem_iff_getElem?.1 hx
  obtain ⟨j, hj⟩ := List.mem_iff_getElem?.1 hy
  rcases Nat.lt_trichotomy i j with h3 | h3 | h3
  · exact absurd (h i j x y h3 hi hj) h1
  · subst h3; rw [hi] at hj; exact Option.some.inj hj
  · exact absurd (h j i y x h3 hj hi) h2
theorem bAsc_rise {l : List BcV} (h : BAsc l) : Rise bcCmp l := List.pairwise_iff_getElem.2 fun i j hi hj hij => h i j _ _ hij (List.getElem?_eq_getElem hi) (List.getElem?_eq_getElem hj)
/-- A beacon of b contradicts one of a. -/
def bkC (a : List BcV) (x : BcV) : Prop := ∃ y ∈ a, bcCmp y x = 0 ∧ y ≠ x
def bkCf (a b : List BcV) : Prop := ∃ x ∈ b, bkC a x
/-- x is not in a, as far as the order goes. -/
def bkN (a : List BcV) (x : BcV) : Bool := !a.any fun y => decide (bcCmp y x = 0)
theorem bkN_t {a : List BcV} {x : BcV} : bkN a x = true ↔ ∀ y ∈ a, bcCmp y x ≠ 0 := by
  unfold bkN
  simp
/-- What the program has ahead of its sort, if nothing contradicts. -/
def bkOut (a b : List BcV) : List BcV := a ++ b.filter (bkN a)
theorem bkOut_succ {a b : List BcV} {j : Nat} {x : BcV} (h : b[j]? = some x) : bkOut a (b.take (j + 1)) = bkOut a (b.take j) ++ (if bkN a x then [x] else []) := by
  obtain ⟨hl, e⟩ := List.getElem?_eq_some_iff.1 h
  unfold bkOut
  rw [List.take_succ_eq_append_getElem hl, List.filter_append, e, List.append_assoc]
  cases hc : bkN a x <;> simp [hc]
theorem bkCf_not_succ {a b : List BcV} {j : Nat} {x : BcV} (h : b[j]? = some x) (h1 : ∀ x ∈ b.take j, ¬ bkC a x) (h2 : ¬ bkC a x) : ∀ x ∈ b.take (j + 1), ¬ bkC a x := by
  obtain ⟨hl, rfl⟩ := List.getElem?_eq_some_iff.1 h
  rw [List.take_succ_eq_append_getElem hl]
  intro y hy
  rcases List.mem_append.1 hy with hy | hy
  · exact h1 y hy
  · rw [List.mem_singleton.1 hy]; exact h2
theorem bkC_found {a : List BcV} (ha : BAsc a) {i : Nat} {x y : BcV} (h : a[i]? = some y) (hz : bcCmp y x = 0) : bkC a x ↔ y ≠ x := by
  constructor
  · rintro ⟨z, hz1, hz2, hz3⟩ e
    subst e
    exact hz3 (bAsc_inj ha hz1 (List.mem_of_getElem? h) (bcCmp_ne hz2).1 (bcCmp_ne hz2).2)
  · exact fun e => ⟨y, List.mem_of_getElem? h, hz, e⟩
theorem bkC_new {a : List BcV} {x : BcV} (h : bkN a x = true) : ¬ bkC a x := by
  rintro ⟨y, hy, hz, _⟩
  exact bkN_t.1 h y hy hz
/-- Two neighbours are at one place of the order. -/
def bkAdj (l : List BcV) : Prop := ∃ (p : Nat) (x y : BcV), l[p]? = some x ∧ l[p + 1]? = some y ∧ bcCmp x y = 0
section
variable {a b s o : List BcV}
theorem bk_conf (ha : BAsc a) (hb : BAsc b) (hp : s.Perm (a ++ b)) (hs : Asc bcCmp s) : bkAdj (ddE s) ↔ bkCf a b := by
  have hmem : ∀ x, x ∈ ddE s ↔ x ∈ a ∨ x ∈ b := fun x => by rw [ddE_mem, hp.mem_iff, List.mem_append]
  constructor
  · rintro ⟨p, x, y, hx, hy, hz⟩
    have hne := ddE_noeq s p x y (by have := (List.getElem?_eq_some_iff.1 hy).1; omega) hx hy
    have n1 := bcCmp_ne hz
    rcases (hmem x).1 (List.mem_of_getElem? hx) with h1 | h1 <;> rcases (hmem y).1 (List.mem_of_getElem? hy) with h2 | h2
    · exact absurd (bAsc_inj ha h1 h2 n1.1 n1.2) hne
    · exact ⟨y, h2, x, h1, hz, hne⟩
    · exact ⟨x, h1, y, h2, bcCmp_eq n1.2 n1.1, fun e => hne e.symm⟩
    · exact absurd (bAsc_inj hb h1 h2 n1.1 n1.2) hne
  · rintro ⟨x, hx, y, hy, hz, hne⟩
    refine Classical.byContradiction fun hno => ?_
    have hasc : Asc bcCmp (ddE s) := List.Pairwise.sublist (ddE_sub s) hs
    have hr : Rise bcCmp (ddE s) := rise_adj swoBc (fun p u v hu hv => by
      refine Classical.byContradiction fun hc => hno ⟨p, u, v, hu, hv, bcCmp_eq hc ?_⟩
      obtain ⟨h1, e1⟩ := List.getElem?_eq_some_iff.1 hu
      obtain ⟨h2, e2⟩ := List.getElem?_eq_some_iff.1 hv
      have := List.pairwise_iff_getElem.1 hasc p (p + 1) h1 h2 (by omega)
      rw [e1, e2] at this
      exact this)
    have n1 := bcCmp_ne hz
    obtain ⟨i, hi, ei⟩ := List.mem_iff_getElem.1 ((hmem y).2 (.inl hy))
    obtain ⟨j, hj, ej⟩ := List.mem_iff_getElem.1 ((hmem x).2 (.inr hx))
    have hr2 := List.pairwise_iff_getElem.1 hr
    rcases Nat.lt_trichotomy i j with h | h | h
    · have := hr2 i j hi hj h
      rw [ei, ej] at this
      exact n1.1 this
    · subst h
      exact hne (ei.symm.trans ej)
    · have := hr2 j i hj hi h
      rw [ei, ej] at this
      exact n1.2 this
theorem pw_of {α : Type} {R S : α → α → Prop} {l : List α} (h : l.Pairwise R) (hi : ∀ a b, R a b → S a b) : l.Pairwise S := List.pairwise_iff_getElem.2 fun i j h1 h2 h3 => hi _ _ (List.pairwise_iff_getElem.1 h i j h1 h2 h3)
theorem bk_same (ha : BAsc a) (hb : BAsc b) (hp : s.Perm (a ++ b)) (hs : Asc bcCmp s) (ho : o.Perm (bkOut a b)) (hoa : Asc bcCmp o) (hc : ¬ bkCf a b) : o = ddE s := by
  have hmem : ∀ x, x ∈ ddE s ↔ x ∈ a ∨ x ∈ b := fun x => by rw [ddE_mem, hp.mem_iff, List.mem_append]
  refine rise_one swoBc ?_ ?_ (fun x => ?_)
  · have h1 : (bkOut a b).Pairwise fun x y => bcCmp x y < 0 ∨ bcCmp y x < 0 := by
      refine List.pairwise_append.2 ⟨pw_of (bAsc_rise ha) (fun _ _ h => .inl h), pw_of ((bAsc_rise hb).sublist (List.filter_sublist)) (fun _ _ h => .inl h), fun x hx y hy => ?_⟩
      have h2 := bkN_t.1 (List.mem_filter.1 hy).2 x hx
      by_cases h3 : bcCmp x y < 0
      · exact .inl h3
      · by_cases h4 : bcCmp y x < 0
        · exact .inr h4
        · exact absurd (bcCmp_eq h3 h4) h2
    have h2 := (ho.pairwise_iff (R := fun x y => bcCmp x y < 0 ∨ bcCmp y x < 0) (fun h => h.symm)).2 h1
    exact pw_of (hoa.and h2) (fun _ _ h => h.2.resolve_right h.1)
  · refine rise_adj swoBc (fun p u v hu hv => ?_)
    refine Classical.byContradiction fun h1 => hc ((bk_conf ha hb hp hs).1 ⟨p, u, v, hu, hv, bcCmp_eq h1 ?_⟩)
    have hasc : Asc bcCmp (ddE s) := List.Pairwise.sublist (ddE_sub s) hs
    obtain ⟨k1, e1⟩ := List.getElem?_eq_some_iff.1 hu
    obtain ⟨k2, e2⟩ := List.getElem?_eq_some_iff.1 hv
    have := List.pairwise_iff_getElem.1 hasc p (p + 1) k1 k2 (by omega)
    rw [e1, e2] at this
    exact this
  · rw [hmem, ho.mem_iff]
    unfold bkOut
    rw [List.mem_append, List.mem_filter]
    constructor
    · rintro (h | h)
      · exact .inl h
      · exact .inr h.1
    · rintro (h | h)
      · exact .inl h
      · by_cases hn : bkN a x = true
        · exact .inr ⟨h, hn⟩
        · rw [bkN_t] at hn
          refine .inl (Classical.byContradiction fun hx => hn fun y hy hz => hc ⟨x, h, y, hy, hz, fun e => ?_⟩)
          subst e
          exact hx hy
end
/-- The first of the persons who is there: whom, and whether there is one. -/
noncomputable def isRch (l : List BcV) (t : Int) (p : ByteArray) : Bool := (prs l p t).1 && decide ((prs l p t).2.st = 1)
end
end Go.Proofs.YtgogiljplnninaaGreatDoor
/- Two structs compared, as an operation; grown slices of structs. Over any program. Conditions: none. -/
namespace Go.Proofs.YtgogiljplnninaaGreatDoor
section
open Go.RowKit

section
variable {P : Program} {w : World} {o : Oper} {ops : Array Oper} {rest : List Oper} {a : Act} {K : Act → World → Prop} {Q : Exit → Act → World → Prop}
theorem exec_eqs {ev : Operand → Value} {op : BinOp} {T tr : TypeId} (x y : Operand) (ho : o.op = .binOp op T x y tr) (us vs : Array Value) (hx : ev x = .agg us) (hy : ev y = .agg vs) (hm : P.eqGuardType P.depth T = false) {v : Value} (hr : (binOp op T (.agg us) (.agg vs)).run P w = .ok v w) :
    (execOp ev o).run P w = .ok (.value v) w := by
  unfold execOp
  simp only [ho, hx, hy, Sem.run_bind, run_eqGuard_agg w op T x y us vs hm, Result.andThen_ok, hr, Sem.run_pure]
theorem wp_eqs {op : BinOp} {T tr : TypeId} (x y : Operand) (ho : o.op = .binOp op T x y tr) (us vs : Array Value) (hx : a.eval x = .agg us) (hy : a.eval y = .agg vs) (hm : P.eqGuardType P.depth T = false) {v : Value} (hr : (binOp op T (.agg us) (.agg vs)).run P w = .ok v w)
    (h : K (a.put o.dst v) w) : o.wp P a w K Q := by
  unfold Oper.wp
  rw [exec_eqs x y ho us vs hx hy hm hr]
  exact h
theorem wpl_eqs {op : BinOp} {T tr : TypeId} (hgd : o.guard = none) (x y : Operand) (ho : o.op = .binOp op T x y tr) (us vs : Array Value) (hx : a.eval x = .agg us) (hy : a.eval y = .agg vs) (hm : P.eqGuardType P.depth T = false) {v : Value} (hr : (binOp op T (.agg us) (.agg vs)).run P w = .ok v w)
    (h : wpList P ops Q rest (a.put o.dst v) w) : wpList P ops Q (o :: rest) a w :=
  wpList_plain hgd fun _ hK => wp_eqs x y ho us vs hx hy hm hr (hK _ _ h)
/-- 'append(nil, make([]T, m)...)': an empty prefix of what comes out is the call's own. -/
theorem wpl_app_nilK {t tn e : TypeId} {size bytes : Nat} {z : Value} (E : ElemT P t e size bytes z) {kn : IntKind} (htn : P.underlying tn = some (.int kn)) (hgd : o.guard = none) (s x : Operand)
    (ho : o.op = .call { callee := .builtin .append, args := #[s, x], argTypes := #[t, tn] }) (hs : a.eval s = .slice none 0 0) {kq : IntKind} (m : Nat) (hx : a.eval x = .int kq (m : Int)) (hm : 0 < m) (h63 : m ≤ maxLen) (hb : m * bytes ≤ 140737488355328)
    (h : ∀ c1 w', Own w' w.heap.size e size (some ⟨w.heap.size, 0, none⟩) 0 c1 [] → m ≤ c1 → c1 ≤ maxLen → w.grownBy w' none → wpList P ops Q rest (a.put o.dst (.slice (some ⟨w.heap.size, 0, none⟩) m c1)) w') : wpList P ops Q (o :: rest) a w := by
  obtain ⟨ht, ⟨i, hi, hz, hsize, hby⟩, hzs, hsz⟩ := E
  subst hby
  have hr := Lib.run_append_nil_zeros (P := P) w t tn o.type e i z kq kn ht htn hi hz m hm (by omega) (by unfold maxLen at h63; omega) (by omega)
  have hge := grownCap_ge w m 0 e
  have hcm : grownCap w m 0 e ≤ maxLen := grownCap_le_maxLen w m 0 e h63
  refine Lib.wpList_append_run w hgd s x t tn ho _ _ hs hx _ _ hr (h _ _ ⟨by simp, .inr ⟨w.heap.size, _, _, rfl, Nat.le_refl _, heap_alloc_new w.drew _, Nat.zero_le _, hcm, ?_, by simp⟩⟩ hge hcm (gr_alloc (gr_drew (gr_refl _ _)) _))
  simp only [Array.size_append, Builtin.zeroCells, Array.size_map, Array.size_range, hzs]
  rw [← Nat.add_mul]
  congr 1
  omega
end
end
end Go.Proofs.YtgogiljplnninaaGreatDoor
/- Contract of slices.Compare at ints. Conditions: none. -/
namespace Go.Proofs.YtgogiljplnninaaGreatDoor
section
open Go.RowKit

set_option maxHeartbeats 2000000 in
theorem compareI_any (lo lo' : Nat) (A A' : Option Addr) (n c n' c' : Nat) (l m : List Int) (w : World) (h : Recs nrow 1 w lo A n c l) (h' : Recs nrow 1 w lo' A' n' c' m) (hn : n ≤ 1000000) (_ : n' ≤ 1000000) :
    Calls Tryz.prog 68 #[.slice A n c, .slice A' n' c'] w (Same (.int .i64 (cmpLL cmpZ l m)) w) := by
  have H := Lib.hid h; have H' := Lib.hid h'
  have HL := Lib.hid h.len; have HL' := Lib.hid h'.len
  clear h h'
  go_enter Tryz.func68, Tryz.ntmps68
  go_wp2_with fail
  go_loop [5, 6, 7, 8, 11] (fun _ _ _ _ t => ∃ i : Nat, i ≤ n ∧ t = .int .i64 i ∧ cmpLL cmpZ l m = cmpLL cmpZ (l.drop i) (m.drop i)) (fun _ _ _ _ t => n - (intOf t).toNat)
  case atStart => exact ⟨0, Nat.zero_le _, rfl, rfl⟩
  case round =>
    obtain ⟨i, hi, rfl, he⟩ := hrel
    have HE := Lib.hid he; clear he
    by_cases hlt : i < n
    · obtain ⟨g, o, z, rfl, _, _, hz, hc⟩ := H.out.get nrow_len hlt
      have c0 := hc 0 _ rfl
      simp only [Nat.mul_one, Nat.add_zero] at c0
      clear hc
      by_cases hm : i < n'
      · obtain ⟨g', o', z', rfl, _, _, hz', hc'⟩ := H'.out.get nrow_len hm
        have c1 := hc' 0 _ rfl
        simp only [Nat.mul_one, Nat.add_zero] at c1
        clear hc'
        have HS := Lib.hid (show cmpLL cmpZ l m = if cmpZ z z' = 0 then cmpLL cmpZ (l.drop (i + 1)) (m.drop (i + 1)) else cmpZ z z' by rw [HE.out, cmpLL_drop hz hz'])
        have d1 : decide ((n' : Int) ≤ (i : Int)) = false := decide_eq_false (by omega)
        have d1' : decide (n' ≤ i) = false := decide_eq_false (by omega)
        obtain ⟨q, hq⟩ : ∃ q, cmpZ z z' = q := ⟨_, rfl⟩
        have HQ := Lib.hid hq
        clear hz hz' hq
        by_cases hq0 : q = 0
        · have b1 : (q != 0) = false := by simp [hq0]
          have HN := Lib.hid (show cmpLL cmpZ l m = cmpLL cmpZ (l.drop (i + 1)) (m.drop (i + 1)) by rw [HS.out, HQ.out, if_pos hq0])
          clear hq0
          go_wp2_with (first
            | (go_at_call 121; refine (cmpZ_any z z' _).mono ?_; rintro e w' ⟨rfl, rfl⟩; rw [HQ.out])
            | fail)
          go_round
          case rel => exact ⟨i + 1, by omega, by go_num, HN.out⟩
          case measure => simp [intOf]; omega
        · have b1 : (q != 0) = true := by simpa using hq0
          have HN := Lib.hid (show cmpLL cmpZ l m = q by rw [HS.out, HQ.out, if_neg hq0])
          clear hq0
          go_wp2_with (first
            | (go_at_call 121; refine (cmpZ_any z z' _).mono ?_; rintro e w' ⟨rfl, rfl⟩; rw [HQ.out])
            | fail)
          go_ret
          exact ⟨by rw [HN.out]; rfl, rfl⟩
      · have HN := Lib.hid (show cmpLL cmpZ l m = 1 by rw [HE.out, cmpLL_gt (by rw [HL.out]; exact hlt) (by rw [HL'.out]; omega)])
        have d1 : decide ((n' : Int) ≤ (i : Int)) = true := decide_eq_true (by omega)
        have d1' : decide (n' ≤ i) = true := decide_eq_true (by omega)
        clear hz
        go_wp2_with fail
        go_ret
        exact ⟨by rw [HN.out]; rfl, rfl⟩
    · obtain rfl : i = n := by omega
      have HN := Lib.hid (show cmpLL cmpZ l m = if i < n' then -1 else 0 by rw [HE.out, cmpLL_end HL.out, HL'.out])
      by_cases hlt2 : i < n'
      · have d1 : decide ((i : Int) < (n' : Int)) = true := decide_eq_true (by omega)
        have d1' : decide (i < n') = true := decide_eq_true hlt2
        go_wp2_with fail
        go_ret
        exact ⟨by rw [HN.out, if_pos hlt2]; rfl, rfl⟩
      · have d1 : decide ((i : Int) < (n' : Int)) = false := decide_eq_false (by omega)
        have d1' : decide (i < n') = false := decide_eq_false hlt2
        go_wp2_with fail
        go_ret
        exact ⟨by rw [HN.out, if_neg hlt2]; rfl, rfl⟩
end
end Go.Proofs.YtgogiljplnninaaGreatDoor
/- Contract of slices.Equal at beacons that read as the same list. Conditions: none. -/
namespace Go.Proofs.YtgogiljplnninaaGreatDoor
section
open Go.RowKit
set_option maxHeartbeats 4000000 in
theorem equalBc_same (lo lo' : Nat) (A A' : Option Addr) (n c n' c' : Nat) (l : List BcV) (w : World) (h1 : Recs BcV.row 6 w lo A n c l) (h2 : Recs BcV.row 6 w lo' A' n' c' l) (hn2 : n ≤ 1000000000000) :
    Calls Tryz.prog 42 #[.slice A n c, .slice A' n' c'] w fun e w' => e = .returned (.bool true) ∧ ∃ k, w' = w.drewN k := by
  obtain rfl : n = n' := by rw [← h1.len, ← h2.len]
  have H1 := Lib.hid h1; have H2 := Lib.hid h2; clear h1 h2
  go_enter Tryz.func42, Tryz.ntmps42
  go_wp2_with fail
  go_loopw [5, 13] (fun _ t wr => ∃ i : Nat, i ≤ n ∧ t = .int .i64 i ∧ ∃ k, wr = w.drewN k) (fun _ t _ => n - (intOf t).toNat)
  case atStart => exact ⟨0, Nat.zero_le _, rfl, 0, rfl⟩
  case round =>
    obtain ⟨i, hi, rfl, k, rfl⟩ := hrel
    by_cases hlt : i < n
    · obtain ⟨g, o, z, rfl, _, _, hz, hc⟩ := H1.out.get BcV.row_len hlt
      obtain ⟨g', o', z', rfl, _, _, hz', hc2⟩ := H2.out.get BcV.row_len hlt
      rw [hz] at hz'
      injection hz' with hz'
      subst hz'
      have c0 := hc 0 _ rfl
      have d0 := hc2 0 _ rfl
      have c1 := hc 1 _ rfl
      have d1 := hc2 1 _ rfl
      have c2 := hc 2 _ rfl
      have d2 := hc2 2 _ rfl
      have c3 := hc 3 _ rfl
      have d3 := hc2 3 _ rfl
      have c4 := hc 4 _ rfl
      have d4 := hc2 4 _ rfl
      have c5 := hc 5 _ rfl
      have d5 := hc2 5 _ rfl
      simp only [Nat.add_zero] at c0 d0
      clear hz hc hc2
      have hi0 : (0 : Int) ≤ (i : Int) := by omega
      have hi1 : (i : Int) < (n : Int) := by omega
      go_wp2_with fail
      go_quiet (fail)
      go_wp2_with fail
      go_roundw
      case rel => exact ⟨i + 1, by omega, by go_num, _, rfl⟩
      case measure => simp [intOf]; omega
    · obtain rfl : i = n := by omega
      go_wp2_with fail
      go_ret
      exact ⟨rfl, _, rfl⟩
end
end Go.Proofs.YtgogiljplnninaaGreatDoor
/- Contracts of the statements' when and momentFault. Conditions: none. -/
namespace Go.Proofs.YtgogiljplnninaaGreatDoor
section
open Go.RowKit
set_option maxHeartbeats 1000000 in
theorem whenF_any (b : Bool) (e : Int) (w : World) : Calls Tryz.prog 37 #[.bool b, .int .i64 e] w (Same (.int .i64 (if b then e else 0)) w) := by
  cases b
  all_goals
    go_enter Tryz.func37, Tryz.ntmps37
    go_wp2_with fail
    go_ret
    exact ⟨rfl, rfl⟩
def momF (t : Int) : Int := if momB t then 0 else 1
set_option maxHeartbeats 1000000 in
theorem momF_any (t : Int) (w : World) : Calls Tryz.prog 39 #[.int .i64 t] w (Same (.int .i64 (momF t)) w) := by
  have HV := Lib.hid (show momF t = if momB t then 0 else 1 from rfl)
  cases hm : momB t
  all_goals
    rw [hm] at HV
    go_enter Tryz.func39, Tryz.ntmps39
    go_wp2_with (first
      | (go_at_call 59; refine (momentB_any _ _).mono ?_; rintro e w' ⟨rfl, rfl⟩; rw [hm])
      | (go_at_call 37; refine (whenF_any _ _ _).mono ?_; rintro e w' ⟨rfl, rfl⟩)
      | fail)
    go_ret
    exact ⟨by rw [HV.out]; rfl, rfl⟩
end
end Go.Proofs.YtgogiljplnninaaGreatDoor
/- Acts as they lie in memory, and what is wrong with them, in plain Lean. Conditions: none. -/
namespace Go.Proofs.YtgogiljplnninaaGreatDoor
section
open Go.RowKit

/-- An act. -/
structure ActV where
  at_ : Int
  bx : ByteArray
  id : ByteArray
  kd : Int
  lg : Int
  frm : ByteArray
def ActV.row (a : ActV) : List Value := [.int .i64 a.at_, .string a.bx, .string a.id, .int .i64 a.kd, .int .i64 a.lg, .string a.frm]
theorem ActV.row_len (a : ActV) : a.row.length = 6 := rfl
theorem ActV.one (z : ActV) : ∀ u ∈ z.row, u.oneCell' = true := fun u hu => by
  unfold ActV.row at hu
  simp only [List.mem_cons, List.not_mem_nil, or_false] at hu
  rcases hu with rfl | rfl | rfl | rfl | rfl | rfl <;> rfl
/-- What is known of an act that was read. -/
def AcOkL (a : ActV) : Prop := (a.bx.size ≤ 1000000 ∧ a.id.size ≤ 1000000 ∧ a.frm.size ≤ 1000000) ∧ (-1152921504606846976 ≤ a.at_ ∧ a.at_ ≤ 1152921504606846976) ∧ (-1152921504606846976 ≤ a.kd ∧ a.kd ≤ 1152921504606846976)
/-- What is known of an act that was drawn. -/
def AcOk (a : ActV) : Prop := (a.bx.size ≤ 1000 ∧ a.id.size ≤ 1000 ∧ a.frm.size ≤ 1000) ∧ (-1152921504606846976 ≤ a.at_ ∧ a.at_ ≤ 1152921504606846976) ∧ (-1152921504606846976 ≤ a.kd ∧ a.kd ≤ 1152921504606846976)
theorem AcOk.l {a : ActV} (h : AcOk a) : AcOkL a := ⟨⟨Nat.le_trans h.1.1 (by decide), Nat.le_trans h.1.2.1 (by decide), Nat.le_trans h.1.2.2 (by decide)⟩, h.2⟩
def AcsL (w : World) (lo : Nat) (A : Option Addr) (n c : Nat) (l : List ActV) : Prop := Recs ActV.row 6 w lo A n c l ∧ ∀ a ∈ l, AcOkL a
def Acs (w : World) (lo : Nat) (A : Option Addr) (n c : Nat) (l : List ActV) : Prop := Recs ActV.row 6 w lo A n c l ∧ ∀ a ∈ l, AcOk a
theorem Acs.l {w : World} {lo : Nat} {A : Option Addr} {n c : Nat} {l : List ActV} (h : Acs w lo A n c l) : AcsL w lo A n c l := ⟨h.1, fun a ha => (h.2 a ha).l⟩
theorem Acs.grown {w w' : World} {lo : Nat} {A : Option Addr} {n c : Nat} {l : List ActV} (h : Acs w lo A n c l) {r : Option Nat} (hg : w.grownBy w' r) (hr : ∀ g, r = some g → g < lo) : Acs w' lo A n c l := ⟨h.1.grown hg hr, h.2⟩
/-- The order of acts. -/
def acCmp (a b : ActV) : Int := orL [cmpZ a.at_ b.at_, cmpS a.bx b.bx, cmpS a.id b.id, cmpZ a.kd b.kd]
/-- Empty, or + with 4 to 15 digits behind it. -/
def fromOk (l : List Nat) : Bool := decide (l = []) || (plusOf l).elim false (fun d => decide (4 ≤ d.length) && decide (d.length ≤ 15) && digB d)
/-- What is wrong with an act by itself. -/
def acF (a : ActV) : Int :=
  if momB a.at_ then (if keyOk (nb a.bx) && keyOk (nb a.id) then (if inB a.kd 1 5 then
    (if a.kd == 1 then (if inB a.lg 1 86400000 then (if fromOk (nb a.frm) then 0 else 3) else 1) else (if a.lg == 0 then (if decide (nb a.frm = []) then 0 else 3) else 3)) else 4) else 5) else 1
def acAt (l : List ActV) (i : Nat) : Int := (l[i]?).elim 0 fun a => if acF a = 0 then (if decide (0 < i) && (l[i - 1]?).elim false (fun b => decide (0 ≤ acCmp b a)) then 7 else 0) else acF a
def acsE (l : List ActV) : Int := if 1000 < l.length then 2 else fstE (acAt l) l.length
section
variable {l : List ActV} {i : Nat} {z b : ActV}
theorem acAt_f (h : l[i]? = some z) (h1 : acF z ≠ 0) : acAt l i = acF z := by unfold acAt; rw [h]; exact if_neg h1
theorem acAt_7 (h : l[i]? = some z) (h1 : acF z = 0) (hi : 0 < i) (hb : l[i - 1]? = some b) (h7 : 0 ≤ acCmp b z) : acAt l i = 7 := by
  unfold acAt; rw [h]
  show (if acF z = 0 then _ else _) = _
  rw [if_pos h1, hb]
  simp only [Option.elim, decide_eq_true hi, decide_eq_true h7]; rfl
theorem acAt_e (h : l[i]? = some z) (h1 : acF z = 0) (hb : l[i - 1]? = some b) (h7 : ¬ 0 ≤ acCmp b z) : acAt l i = 0 := by
  unfold acAt; rw [h]
  show (if acF z = 0 then _ else _) = _
  rw [if_pos h1, hb]
  simp only [Option.elim, decide_eq_false h7, Bool.and_false]; rfl
theorem acAt_z (h : l[i]? = some z) (h1 : acF z = 0) (hi : ¬ 0 < i) : acAt l i = 0 := by
  unfold acAt; rw [h]
  show (if acF z = 0 then _ else _) = _
  rw [if_pos h1, decide_eq_false hi]; rfl
theorem acF_1 (h1 : momB z.at_ = false) : acF z = 1 := by unfold acF; rw [h1]; rfl
theorem acF_5 (h1 : momB z.at_ = true) (h2 : (keyOk (nb z.bx) && keyOk (nb z.id)) = false) : acF z = 5 := by unfold acF; rw [h1, h2]; rfl
theorem acF_4 (h1 : momB z.at_ = true) (h2 : (keyOk (nb z.bx) && keyOk (nb z.id)) = true) (h3 : inB z.kd 1 5 = false) : acF z = 4 := by unfold acF; rw [h1, h2, h3]; rfl
theorem acF_l (h1 : momB z.at_ = true) (h2 : (keyOk (nb z.bx) && keyOk (nb z.id)) = true) (h3 : inB z.kd 1 5 = true) (h4 : (z.kd == 1) = true) : acF z = if inB z.lg 1 86400000 then (if fromOk (nb z.frm) then 0 else 3) else 1 := by unfold acF; rw [h1, h2, h3, h4]; rfl
theorem acF_o (h1 : momB z.at_ = true) (h2 : (keyOk (nb z.bx) && keyOk (nb z.id)) = true) (h3 : inB z.kd 1 5 = true) (h4 : (z.kd == 1) = false) : acF z = if z.lg == 0 then (if decide (nb z.frm = []) then 0 else 3) else 3 := by unfold acF; rw [h1, h2, h3, h4]; rfl
end
/-- What is known of right acts. -/
def AcRg (z : ActV) : Prop := (0 ≤ z.at_ ∧ z.at_ ≤ 1000000000000000) ∧ (1 ≤ z.kd ∧ z.kd ≤ 5) ∧ (0 ≤ z.lg ∧ z.lg ≤ 86400000) ∧ (z.kd ≠ 1 → z.lg = 0 ∧ nb z.frm = [])
theorem acF_rg {z : ActV} (h : acF z = 0) : AcRg z := by
  cases h1 : momB z.at_
  · rw [acF_1 h1] at h; exact absurd h (by decide)
  · cases h2 : (keyOk (nb z.bx) && keyOk (nb z.id))
    · rw [acF_5 h1 h2] at h; exact absurd h (by decide)
    · cases h3 : inB z.kd 1 5
      · rw [acF_4 h1 h2 h3] at h; exact absurd h (by decide)
      · have b1 := h1; have b3 := h3
        unfold momB inB at b1
        unfold inB at b3
        simp only [Bool.and_eq_true, decide_eq_true_eq] at b1 b3
        cases h4 : (z.kd == 1)
        · rw [acF_o h1 h2 h3 h4] at h
          by_cases h5 : (z.lg == 0) = true
          · rw [if_pos h5] at h
            by_cases h6 : decide (nb z.frm = []) = true
            · have e5 : z.lg = 0 := by simpa using h5
              exact ⟨by omega, b3, by omega, fun _ => ⟨e5, of_decide_eq_true h6⟩⟩
            · rw [if_neg h6] at h; exact absurd h (by decide)
          · rw [if_neg h5] at h; exact absurd h (by decide)
        · rw [acF_l h1 h2 h3 h4] at h
          by_cases h5 : inB z.lg 1 86400000 = true
          · have b5 := h5
            unfold inB at b5
            simp only [Bool.and_eq_true, decide_eq_true_eq] at b5
            have e4 : z.kd = 1 := by simpa using h4
            exact ⟨by omega, b3, by omega, fun q => absurd e4 q⟩
          · rw [if_neg h5] at h; exact absurd h (by decide)
theorem acs_all {l : List ActV} (h : acsE l = 0) : l.length ≤ 1000 ∧ ∀ z ∈ l, AcRg z := by
  unfold acsE at h
  split at h
  · cases h
  · refine ⟨by omega, fun z hz => ?_⟩
    obtain ⟨i, hi⟩ := List.mem_iff_getElem?.1 hz
    have h0 := fstE_ev h i (List.getElem?_eq_some_iff.1 hi).1
    by_cases hf : acF z = 0
    · exact acF_rg hf
    · rw [acAt_f hi hf] at h0
      exact absurd h0 hf
/-- The document's way to the same order. -/
theorem acCmp_doc (a b : ActV) : acCmp a b = if a.at_ = b.at_ then (if cmpLL cmpS [a.bx, a.id] [b.bx, b.id] = 0 then cmpZ a.kd b.kd else cmpLL cmpS [a.bx, a.id] [b.bx, b.id]) else cmpZ a.at_ b.at_ := by
  unfold acCmp cmpLL cmpLL cmpLL orL orL orL orL orL
  have hz : cmpZ a.at_ b.at_ = 0 ↔ a.at_ = b.at_ := by
    unfold cmpZ
    by_cases h1 : a.at_ < b.at_
    · rw [if_pos h1]; constructor
      · intro h; exact absurd h (by decide)
      · intro h; omega
    · rw [if_neg h1]
      by_cases h2 : b.at_ < a.at_
      · rw [if_pos h2]; constructor
        · intro h; exact absurd h (by decide)
        · intro h; omega
      · rw [if_neg h2]; constructor
        · intro _; omega
        · intro _; rfl
  by_cases h : a.at_ = b.at_
  · rw [if_pos h, if_pos (hz.2 h)]
    by_cases h1 : cmpS a.bx b.bx = 0
    · simp only [h1, if_true]
      by_cases h2 : cmpS a.id b.id = 0
      · simp only [h2, if_true]
        by_cases h3 : cmpZ a.kd b.kd = 0
        · simp only [h3, if_true]
        · simp only [if_neg h3]
      · simp only [if_neg h2]
    · simp only [if_neg h1]
  · rw [if_neg h, if_neg (fun q => h (hz.1 q))]
end
end Go.Proofs.YtgogiljplnninaaGreatDoor

/- slices.Sort at strings, in the words of slices of the call's own. Conditions: none. -/
import Derived.Test.YtgogiljplnninaaGreatDoorBun2
import Derived.Test.YtgogiljplnninaaGreatDoorBun1
import Derived.Test.YtgogiljplnninaaGreatDoorShelfSort
import Derived.Sort.OwnSorted
import Derived.Test.YtgogiljplnninaaGreatDoorBun5
namespace Go.Proofs.YtgogiljplnninaaGreatDoor
section
open Go.RowKit Go.Sort

def bytesS (l : List ByteArray) : List (List UInt8) := l.map fun s => s.data.toList
def strB (b : List UInt8) : ByteArray := ⟨b.toArray⟩
/-- The sorted list of strings. -/
def srtS (l : List ByteArray) : List ByteArray := ((bytesS l).mergeSort fun x y => decide (x ≤ y)).map strB
theorem srtS_len (l : List ByteArray) : (srtS l).length = l.length := by simp [srtS, bytesS]
theorem strB_data (s : ByteArray) : strB s.data.toList = s := by simp [strB]
theorem srtS_mem {l : List ByteArray} {s : ByteArray} : s ∈ srtS l ↔ s ∈ l := by
  simp only [srtS, bytesS, List.mem_map, List.mem_mergeSort]
  constructor
  · rintro ⟨b, ⟨t, ht, rfl⟩, rfl⟩
    rw [strB_data]; exact ht
  · intro h
    exact ⟨_, ⟨s, h, rfl⟩, strB_data s⟩
theorem srow_encs (m : List (List UInt8)) : (m.map strB).flatMap srow = m.map encStr := by
  induction m with
  | nil => rfl
  | cons b m ih => simp only [List.map_cons, List.flatMap_cons, ih]; rfl
theorem srow_enc (l : List ByteArray) : l.flatMap srow = (bytesS l).map encStr := by
  rw [← srow_encs]
  congr 1
  simp [bytesS, Function.comp_def, strB_data]
theorem sortS_any (lo : Nat) (A : Option Addr) (n c : Nat) (l : List ByteArray) (w : World) (h : OwnR srow 1 w lo 9 A n c l) (hn : n ≤ 1000000000) :
    Calls Tryz.prog 57 #[.slice A n c] w fun e w' => e = .returned (.tuple #[]) ∧ OwnR srow 1 w' lo 9 A n c (srtS l) ∧ w.grownBy w' (blkOf A) := by
  obtain ⟨ho, hlen⟩ := h
  rcases ho.2 with ⟨hv, hn0⟩ | ⟨g, cap, cur, hv, hlo, hb, h1, h2, h3, h4⟩
  · obtain ⟨rfl, _, rfl⟩ : A = none ∧ n = 0 ∧ c = 0 := by injection hv with a b c; exact ⟨a, b, c⟩
    subst hn0
    have hl0 : l = [] := List.eq_nil_of_length_eq_zero hlen
    subst hl0
    refine (Tryz.slices_Sort_string_none none 0 w).mono ?_
    rintro e w' ⟨rfl, rfl⟩
    exact ⟨rfl, by rw [show srtS [] = [] by simp [srtS, bytesS]]; exact OwnR.nil _ _ _, gr_refl _ _⟩
  · obtain ⟨rfl, rfl⟩ : A = some ⟨g, 0, none⟩ ∧ c = cap := by injection hv with a b c; exact ⟨a, c⟩
    subst hlen
    have hbl : (bytesS l).length = l.length := by simp [bytesS]
    rw [srow_enc, Nat.mul_one, ← hbl] at h4
    have hcon := Tryz.slices_Sort_string g 0 c (bytesS l) w (holds_of_block hb h4) (Array.getElem?_eq_some_iff.1 hb).1 (by omega)
    rw [hbl] at hcon
    refine hcon.mono ?_
    rintro e w' ⟨rfl, k, os, rfl⟩
    refine ⟨rfl, ⟨?_, srtS_len l⟩, grownBy_sorted _⟩
    have := ownsRow_sorted (ss := bytesS l) (ts := (bytesS l).mergeSort fun x y => decide (x ≤ y)) (n := k) (os := os) (by simp) hlo hb (by omega) h2 h3
    rw [hbl] at this
    show World.ownsRow _ _ _ _ _ _ ((((bytesS l).mergeSort fun x y => decide (x ≤ y)).map strB).flatMap srow)
    rw [srow_encs]
    exact this
end
end Go.Proofs.YtgogiljplnninaaGreatDoor
/- Merge of records: the map of Ids, what is known of the outcome. In plain Lean. Conditions: none. -/
namespace Go.Proofs.YtgogiljplnninaaGreatDoor
section
open Go.RowKit

/-- Where an Id is; none: nowhere. -/
def ixO (t : ByteArray) (l : List RcV) : Option Int := if idxP (isId t) l < 0 then none else some (idxP (isId t) l)
section
variable {l s1 b : List RcV} {r o x y : RcV} {k j : Nat} {t : ByteArray} {s : List RcV × List ByteArray}
theorem ixO_one (h : Dist (l.map (·.id))) (hz : l[k]? = some r) : (fun t => if nb r.id = nb t then some (k : Int) else ixO t (l.take k)) = fun t => ixO t (l.take (k + 1)) := by
  funext t
  have hd := dist_take h hz
  rw [take_snoc' hz]
  by_cases e : nb r.id = nb t
  · rw [if_pos e]
    have hk : k < l.length := (List.getElem?_eq_some_iff.1 hz).1
    have hlen : (l.take k).length = k := by rw [List.length_take]; omega
    have hi : idxP (isId t) (l.take k ++ [r]) = k := by
      refine idxP_some (p := isId t) (i := k) (z := r) ?_ ?_ ?_
      · rw [List.take_append_of_le_length (by omega), List.take_of_length_le (by omega), List.all_eq_true]
        intro y hy
        have := hd y hy
        rw [e] at this
        unfold isId
        simpa using this
      · rw [List.getElem?_append_right (by omega), hlen]; simp
      · unfold isId; simpa using e
    unfold ixO
    rw [hi, if_neg (by omega)]
  · rw [if_neg e]
    unfold ixO
    rw [ix_snoc e]
theorem ixO_none (h : idxP (isId t) l = -1) : ixO t l = none := by unfold ixO; rw [h]; rfl
theorem ixO_some {i : Nat} (h : idxP (isId t) l = i) : ixO t l = some (i : Int) := by unfold ixO; rw [h, if_neg (by omega)]
theorem dist_eq (h : Dist (l.map (·.id))) (hx : x ∈ l) (hy : y ∈ l) (e : nb x.id = nb y.id) : x = y := by
  obtain ⟨i, hi⟩ := List.mem_iff_getElem?.1 hx
  obtain ⟨j, hj⟩ := List.mem_iff_getElem?.1 hy
  rcases Nat.lt_trichotomy i j with h1 | h1 | h1
  · obtain ⟨hjl, rfl⟩ := List.getElem?_eq_some_iff.1 hj
    have hm : x ∈ l.take j := by
      obtain ⟨hil, rfl⟩ := List.getElem?_eq_some_iff.1 hi
      exact List.mem_take_iff_getElem.2 ⟨i, by omega, rfl⟩
    exact absurd e (dist_take h (List.getElem?_eq_getElem hjl) x hm)
  · subst h1; rw [hi] at hj; injection hj
  · obtain ⟨hil, rfl⟩ := List.getElem?_eq_some_iff.1 hi
    have hm : y ∈ l.take i := by
      obtain ⟨hjl, rfl⟩ := List.getElem?_eq_some_iff.1 hj
      exact List.mem_take_iff_getElem.2 ⟨j, by omega, rfl⟩
    exact absurd e.symm (dist_take h (List.getElem?_eq_getElem hil) y hm)
theorem dist_snoc (h : Dist (l.map (·.id))) (hn : ∀ x ∈ l, nb x.id ≠ nb r.id) : Dist ((l ++ [r]).map (·.id)) := by
  rw [List.map_append]
  refine List.pairwise_append.2 ⟨h, List.pairwise_singleton _ _, ?_⟩
  intro a ha b hb
  obtain ⟨x, hx, rfl⟩ := List.mem_map.1 ha
  simp only [List.map_cons, List.map_nil, List.mem_singleton] at hb
  subst hb
  exact hn x hx
theorem dist_set {i : Nat} (h : Dist (l.map (·.id))) (ho : l[i]? = some o) (e : nb o.id = nb r.id) : Dist ((l.set i r).map (·.id)) := by
  rw [List.map_set]
  have : (l.map (·.id)).set i r.id = l.map (·.id) := by
    have h2 : (l.map (·.id))[i]? = some r.id := by rw [List.getElem?_map, ho, ← nb_inj e]; rfl
    obtain ⟨hl, h3⟩ := List.getElem?_eq_some_iff.1 h2
    rw [← h3, List.set_getElem_self]
  rw [this]
  exact h
theorem mg_dist (h : Dist (s.1.map (·.id))) : ∀ {j : Nat}, Dist ((mgFrom s b j).1.map (·.id))
  | 0 => h
  | j + 1 => by
    have ih : Dist ((mgFrom s b j).1.map (·.id)) := mg_dist h
    cases hz : b[j]? with
    | none =>
      rw [show mgFrom s b (j + 1) = mgFrom s b j by show (b[j]?).elim _ _ = _; rw [hz]; rfl]
      exact ih
    | some z =>
      rw [mg_succ hz]
      rcases ix_cases z.id (mgFrom s b j).1 with ⟨h1, hn⟩ | ⟨i, o, h1, _, ho, hid⟩
      · rw [st_new (by omega)]
        exact dist_snoc ih hn
      · rw [st_old h1 ho]
        by_cases e : o = z
        · rw [if_pos e]; exact ih
        · rw [if_neg e]
          cases hb : btr z o
          · exact ih
          · exact dist_set ih ho hid
theorem rc_total (h : Dist (l.map (·.id))) (hx : x ∈ l) (hy : y ∈ l) (h1 : ¬ rcCmp x y < 0) (h2 : ¬ rcCmp y x < 0) : x = y := by
  rw [rcCmp_lt] at h1 h2
  have a1 : ¬ x.at_ < y.at_ := fun q => h1 (.inl q)
  have a2 : ¬ y.at_ < x.at_ := fun q => h2 (.inl q)
  have e : x.at_ = y.at_ := by omega
  have c1 : ¬ cmpS x.id y.id < 0 := fun q => h1 (.inr ⟨e, q⟩)
  have c2 : ¬ cmpS y.id x.id < 0 := fun q => h2 (.inr ⟨e.symm, q⟩)
  have n1 := cmpS_neg x.id y.id
  exact dist_eq h hx hy (cmpS_zero.1 (by omega))
/-- Two sorted lists of the same records with Ids of their own are one. -/
theorem rc_unique (h : Dist (l.map (·.id))) {o1 o2 : List RcV} (p1 : o1.Perm l) (p2 : o2.Perm l) (a1 : Asc rcCmp o1) (a2 : Asc rcCmp o2) : o1 = o2 :=
  asc_unique (p1.trans p2.symm) a1 a2 fun x hx y hy h1 h2 => rc_total h (p1.subset hx) (p1.subset hy) h1 h2
end
/-- The error of two lists. -/
def mgE (l l' : List RcV) : Int := if rcsE l = 0 then rcsE l' else rcsE l
/-- What a merge of right lists gives: sorted records, sorted Ids that differ. -/
def MgV (l l' : List RcV) (w : World) (e : Ending) (w' : World) : Prop :=
  ∃ O on oc D dn dc out, e = .returned (.tuple #[.slice O on oc, .slice D dn dc, .int .i64 0]) ∧ out.Perm (mgFrom (l, []) l' l'.length).1 ∧ Asc rcCmp out ∧ OwnR RcV.row 8 w' w.heap.size 32 O on oc out ∧
    OwnR srow 1 w' w.heap.size 9 D dn dc (srtS (mgFrom (l, []) l' l'.length).2) ∧ w.grownBy w' none
def MgEV (l l' : List RcV) (w : World) (e : Ending) (w' : World) : Prop := (mgE l l' ≠ 0 ∧ e = .returned (.tuple #[.slice none 0 0, .slice none 0 0, .int .i64 (mgE l l')]) ∧ w.grownBy w' none) ∨ (mgE l l' = 0 ∧ MgV l l' w e w')
end
end Go.Proofs.YtgogiljplnninaaGreatDoor

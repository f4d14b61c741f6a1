/- Numbers as strings: strconv.Itoa. Conditions: the table of powers of ten as laid. -/
import Derived.Test.YtlkibeckfpjccaaGreatDoorBun1
import Derived.Test.YtlkibeckfpjccaaGreatDoorShelfIt
import Derived.Test.YtlkibeckfpjccaaGreatDoorBun3
namespace Go.Proofs.YtlkibeckfpjccaaGreatDoor
section
open Go.RowKit

theorem gr_ahead (w : World) (k : Nat) (os : Array Obj) : w.grownBy (Sort.grow (w.drewN k) os) none := by
  refine ⟨rfl, rfl, rfl, ?_, fun i hi _ => ?_⟩
  · show w.heap.size ≤ (w.heap ++ os).size
    rw [Array.size_append]; omega
  · show (w.heap ++ os)[i]? = w.heap[i]?
    exact Array.getElem?_append_left hi
/-- The table of the powers of ten, as it lies. -/
def PwT (w : World) : Prop := Lib.TabIs Tryz.prog w "internal/strconv.uint64pow10" .u64 Lib.pow10Tab
theorem PwT.low {w w' : World} {r : Option Nat} (h : PwT w) (hg : w.grownBy w' r) (hr : ∀ g, r = some g → g ≠ 1) : PwT w' := by
  unfold PwT Lib.TabIs World.var? at h ⊢
  rw [show Tryz.prog.globalNamed "internal/strconv.uint64pow10" = some 1 by kernel_rfl] at h ⊢
  change (match w.heap[1]? with | some (.cells cs _ _) => some cs | _ => none) = _ at h
  show (match w'.heap[1]? with | some (.cells cs _ _) => some cs | _ => none) = _
  have hlt : 1 < w.heap.size := by
    cases e : w.heap[1]? with
    | none => rw [e] at h; cases h
    | some o => exact (Array.getElem?_eq_some_iff.1 e).1
  rw [hg.block 1 hlt (fun e => hr _ e.symm rfl)]
  exact h
theorem PwT.grown {w w' : World} (h : PwT w) (hg : w.grownBy w' none) : PwT w' := h.low hg fun g e => by cases e
theorem PwT.lt {w : World} (h : PwT w) : 1 < w.heap.size := by
  unfold PwT Lib.TabIs World.var? at h
  rw [show Tryz.prog.globalNamed "internal/strconv.uint64pow10" = some 1 by kernel_rfl] at h
  change (match w.heap[1]? with | some (.cells cs _ _) => some cs | _ => none) = _ at h
  cases e : w.heap[1]? with
  | none => rw [e] at h; cases h
  | some o => exact (Array.getElem?_eq_some_iff.1 e).1
def itS (n : Int) : ByteArray := ⟨(Lib.itoa n).toArray⟩
theorem itoaS_any (n : Int) (w : World) (h0 : -9000000000000000000 ≤ n) (h1 : n ≤ 9000000000000000000) (ht : PwT w) : Calls Tryz.prog 29 #[.int .i64 n] w (RetV (.string (itS n)) w) := by
  refine (Tryz.strconv_Itoa n (by omega) (by omega) w ht).mono ?_
  rintro e w' ⟨rfl, k, os, rfl⟩
  exact ⟨rfl, gr_ahead w k os⟩
end
end Go.Proofs.YtlkibeckfpjccaaGreatDoor
/- What tariffs and numbers cost, in plain Lean. Conditions: none. -/
namespace Go.Proofs.YtlkibeckfpjccaaGreatDoor
section
open Go.RowKit Go.Sort

/-- A pair. -/
structure PaV where
  name : ByteArray
  val : ByteArray
def PaV.row (z : PaV) : List Value := [.string z.name, .string z.val]
theorem PaV.row_len (z : PaV) : z.row.length = 2 := rfl
/-- What a row of charges costs somebody. -/
def costK (f : ChV × RcV → ByteArray) (L : List (ChV × RcV)) (k : ByteArray) : Int := (L.map fun x => if nb (f x) = nb k then x.1.cost else 0).sum
section
variable {f : ChV × RcV → ByteArray} {L : List (ChV × RcV)} {i : Nat} {x : ChV × RcV} {k : ByteArray}
theorem costK_snoc (h : L[i]? = some x) : costK f (L.take (i + 1)) k = costK f (L.take i) k + if nb (f x) = nb k then x.1.cost else 0 := by
  unfold costK
  rw [take_snoc' h, List.map_append, List.sum_append]
  simp
theorem costK_bd (h : ∀ x ∈ L, ChOk x) : 0 ≤ costK f L k ∧ costK f L k ≤ 86400001000000 * L.length := by
  induction L with
  | nil => exact ⟨Int.le_refl _, Int.le_refl _⟩
  | cons a L ih =>
    obtain ⟨h1, h2⟩ := ih (fun x hx => h x (List.mem_cons_of_mem _ hx))
    obtain ⟨_, _, h3, h4⟩ := h a (List.mem_cons_self ..)
    have e : costK f (a :: L) k = (if nb (f a) = nb k then a.1.cost else 0) + costK f L k := by unfold costK; rw [List.map_cons, List.sum_cons]
    rw [e, List.length_cons]
    split <;> omega
theorem costK_take (h : ∀ x ∈ L, ChOk x) (hl : L.length ≤ 3000) : 0 ≤ costK f (L.take i) k ∧ costK f (L.take i) k ≤ 300000000000000000 := by
  have h1 := costK_bd (f := f) (k := k) (L := L.take i) (fun x hx => h x (List.mem_of_mem_take hx))
  have h2 := List.length_take_le i L
  have h3 : (L.take i).length ≤ L.length := by rw [List.length_take]; omega
  omega
theorem costK_all (h : ∀ x ∈ L, ChOk x) (hl : L.length ≤ 3000) : 0 ≤ costK f L k ∧ costK f L k ≤ 300000000000000000 := by
  have h1 := costK_bd (f := f) (k := k) h
  omega
theorem costK_key {a : ByteArray} (e : nb a = nb k) : costK f L a = costK f L k := by rw [nb_inj e]
end
/-- What two tariffs differ by. -/
def cmpPs (L1 L2 : List (ChV × RcV)) (p : List PyV) : List PaV := p.filterMap fun y => if costK (·.1.pay) L2 y.key - costK (·.1.pay) L1 y.key = 0 then none else some ⟨y.key, itS (costK (·.1.pay) L2 y.key - costK (·.1.pay) L1 y.key)⟩
theorem cmpPs_succ {L1 L2 : List (ChV × RcV)} {p : List PyV} {i : Nat} {y : PyV} (h : p[i]? = some y) : cmpPs L1 L2 (p.take (i + 1)) = cmpPs L1 L2 (p.take i) ++ (if costK (·.1.pay) L2 y.key - costK (·.1.pay) L1 y.key = 0 then [] else [⟨y.key, itS (costK (·.1.pay) L2 y.key - costK (·.1.pay) L1 y.key)⟩]) := by
  unfold cmpPs
  rw [take_snoc' h, List.filterMap_append]
  congr 1
  by_cases e : costK (·.1.pay) L2 y.key - costK (·.1.pay) L1 y.key = 0
  · rw [if_pos e]; simp [e]
  · rw [if_neg e]; simp [e]
/-- What each one costs; none: nothing was charged for it. -/
def sumF (f : ChV × RcV → ByteArray) (L : List (ChV × RcV)) (k : ByteArray) : Option Int := if L.any (fun x => nb (f x) == nb k) then some (costK f L k) else none
section
variable {f : ChV × RcV → ByteArray}
theorem sumF_nil : (fun k => sumF f [] k) = fun _ => none := by funext k; rfl
theorem costK_out {L : List (ChV × RcV)} {k : ByteArray} (h : L.any (fun x => nb (f x) == nb k) = false) : costK f L k = 0 := by
  induction L with
  | nil => rfl
  | cons a L ih =>
    rw [List.any_cons, Bool.or_eq_false_iff] at h
    have e : costK f (a :: L) k = (if nb (f a) = nb k then a.1.cost else 0) + costK f L k := by unfold costK; rw [List.map_cons, List.sum_cons]
    rw [e, ih h.2, if_neg (by simpa using h.1)]
    rfl
theorem sumF_get (L : List (ChV × RcV)) (k : ByteArray) : (sumF f L k).getD 0 = costK f L k := by
  unfold sumF
  cases h : L.any (fun x => nb (f x) == nb k)
  · rw [if_neg (by decide), costK_out h]; rfl
  · rw [if_pos rfl]; rfl
theorem sumF_val (L : List (ChV × RcV)) (k : ByteArray) : (sumF f L k).elim (Value.int .i64 0) (Value.int .i64) = .int .i64 (costK f L k) := by
  rw [← sumF_get]
  cases sumF f L k <;> rfl
theorem sumF_some {L : List (ChV × RcV)} {k : ByteArray} {c : Int} (h : sumF f L k = some c) : c = costK f L k := by
  have := sumF_get (f := f) L k
  rw [h] at this
  exact this
theorem sumF_pos {L : List (ChV × RcV)} {k : ByteArray} (h : 0 < costK f L k) : (sumF f L k).isSome = true := by
  have := sumF_get (f := f) L k
  cases hs : sumF f L k with
  | none => rw [hs] at this; rw [← this] at h; exact absurd h (by decide)
  | some c => rfl
theorem sumF_succ {L : List (ChV × RcV)} {i : Nat} {x : ChV × RcV} (h : L[i]? = some x) : (fun k => if nb (f x) = nb k then some (costK f (L.take i) (f x) + x.1.cost) else sumF f (L.take i) k) = fun k => sumF f (L.take (i + 1)) k := by
  funext k
  have hs := costK_snoc (f := f) (k := k) h
  have ha : (L.take (i + 1)).any (fun x => nb (f x) == nb k) = ((L.take i).any (fun x => nb (f x) == nb k) || (nb (f x) == nb k)) := by
    rw [take_snoc' h, List.any_append]; simp
  unfold sumF
  rw [ha, hs]
  by_cases e : nb (f x) = nb k
  · have e2 : (nb (f x) == nb k) = true := by simpa using e
    rw [if_pos e, e2, Bool.or_true, if_pos rfl, if_pos e, costK_key e]
  · have e2 : (nb (f x) == nb k) = false := by simpa using e
    rw [if_neg e, e2, Bool.or_false, if_neg e, Int.add_zero]
end
/-- Who pays has a short name. -/
theorem chg_size {t : TfV} {p : List PyV} {month : Int} {l : List RcV} (hp : ∀ y ∈ p, y.key.size ≤ 1000) (hr : ∀ r ∈ l, r.too.size ≤ 1000) : ∀ (k : Nat) (x : ChV × RcV), x ∈ (chgTo t p month l k).1 → x.1.pay.size ≤ 1000 ∧ x.2.too.size ≤ 1000
  | 0, x, h => by cases h
  | k + 1, x, h => by
    cases hl : l[k]? with
    | none => rw [chgTo, hl] at h; exact chg_size hp hr k x h
    | some r =>
      cases hq : paysFor t p month r with
      | none => rw [chgTo_skip hl hq] at h; exact chg_size hp hr k x h
      | some q =>
        obtain ⟨who, c⟩ := q
        rw [chgTo_add hl hq] at h
        rcases List.mem_append.1 h with h | h
        · exact chg_size hp hr k x h
        · rw [List.mem_singleton.1 h]
          obtain ⟨y, hy, hk⟩ := (paysFor_some hq).2.2.1
          refine ⟨?_, hr r (mem_of_get hl)⟩
          show who.size ≤ 1000
          rw [← hk]
          exact hp y (List.mem_of_find?_eq_some hy)
/-- The order of numbers: what costs more comes first. -/
def topCf (L : List (ChV × RcV)) (a b : ByteArray) : Int := orL [cmpZ (costK (·.2.too) L b) (costK (·.2.too) L a), cmpS a b]
theorem topCf_if (L : List (ChV × RcV)) (a b : ByteArray) : topCf L a b = if costK (·.2.too) L a = costK (·.2.too) L b then cmpS a b else cmpZ (costK (·.2.too) L b) (costK (·.2.too) L a) := by
  unfold topCf
  simp only [orL]
  by_cases e : costK (·.2.too) L a = costK (·.2.too) L b
  · have h1 : cmpZ (costK (·.2.too) L b) (costK (·.2.too) L a) = 0 := by rw [e]; simp [cmpZ]
    rw [if_pos e, if_pos h1]
    split <;> simp_all
  · have h1 : cmpZ (costK (·.2.too) L b) (costK (·.2.too) L a) ≠ 0 := by
      unfold cmpZ
      split
      · decide
      · split
        · decide
        · omega
    rw [if_neg e, if_neg h1]
theorem topCf_lt (L : List (ChV × RcV)) (a b : ByteArray) : topCf L a b < 0 ↔ costK (·.2.too) L b < costK (·.2.too) L a ∨ costK (·.2.too) L a = costK (·.2.too) L b ∧ cmpS a b < 0 := by
  rw [topCf_if]
  by_cases e : costK (·.2.too) L a = costK (·.2.too) L b
  · rw [if_pos e]; constructor
    · exact fun h => .inr ⟨e, h⟩
    · rintro (h | ⟨_, h⟩)
      · omega
      · exact h
  · rw [if_neg e]
    unfold cmpZ
    by_cases h1 : costK (·.2.too) L b < costK (·.2.too) L a
    · rw [if_pos h1]; constructor
      · exact fun _ => .inl h1
      · exact fun _ => by decide
    · rw [if_neg h1]
      by_cases h2 : costK (·.2.too) L a < costK (·.2.too) L b
      · rw [if_pos h2]; constructor
        · intro h; exact absurd h (by decide)
        · rintro (h | ⟨h, _⟩)
          · exact absurd h h1
          · exact absurd h e
      · omega
theorem swoTop (L : List (ChV × RcV)) : SWO (ltOf (topCf L)) where
  irrefl x := by
    unfold ltOf
    rw [decide_eq_false_iff_not, topCf_lt]
    have h := (cmpS_zero (a := x) (b := x)).2 rfl
    omega
  trans x y z h1 h2 := by
    unfold ltOf at *
    rw [decide_eq_true_eq, topCf_lt] at *
    rcases h1 with h1 | ⟨h1, k1⟩ <;> rcases h2 with h2 | ⟨h2, k2⟩
    · exact .inl (by omega)
    · exact .inl (by omega)
    · exact .inl (by omega)
    · exact .inr ⟨by omega, cmpS_trans k1 k2⟩
  ntrans x y z h1 h2 := by
    unfold ltOf at *
    rw [decide_eq_false_iff_not, topCf_lt] at *
    intro h3
    have n1 := cmpS_neg x y; have n2 := cmpS_neg y z; have n3 := cmpS_neg x z
    rcases h3 with h3 | ⟨h3, k3⟩
    · omega
    · have e1 : costK (·.2.too) L x = costK (·.2.too) L y := by omega
      have e2 : costK (·.2.too) L y = costK (·.2.too) L z := by omega
      have g1 : ¬ cmpS x y < 0 := fun h => h1 (.inr ⟨e1, h⟩)
      have g2 : ¬ cmpS y z < 0 := fun h => h2 (.inr ⟨e2, h⟩)
      by_cases q1 : cmpS x y = 0
      · rw [cmpS_eql (cmpS_zero.1 q1)] at k3; exact g2 k3
      · by_cases q2 : cmpS y z = 0
        · rw [← cmpS_eqr (cmpS_zero.1 q2)] at k3; exact g1 k3
        · have r1 := cmpS_range x y; have r2 := cmpS_range y z
          have h4 : cmpS z x < 0 := cmpS_trans (b := y) (by omega) (by omega)
          omega
theorem pw_of {α : Type} {R S : α → α → Prop} {l : List α} (h : l.Pairwise R) (hi : ∀ a b, R a b → S a b) : l.Pairwise S := List.pairwise_iff_getElem.2 fun i j h1 h2 h3 => hi _ _ (List.pairwise_iff_getElem.1 h i j h1 h2 h3)
/-- The names of all that cost something, in some order. -/
def TopN (L : List (ChV × RcV)) (a : List ByteArray) : Prop := a.Nodup ∧ ∀ k, k ∈ a ↔ 0 < costK (·.2.too) L k
theorem top_rise {L : List (ChV × RcV)} {a : List ByteArray} (hn : a.Nodup) (hs : Asc (topCf L) a) : Rise (topCf L) a := by
  refine pw_of (hs.and hn) ?_
  rintro x y ⟨h1, h2⟩
  refine Classical.byContradiction fun h3 => h2 ?_
  rw [topCf_lt] at h1 h3
  have n1 := cmpS_neg x y
  have e : costK (·.2.too) L x = costK (·.2.too) L y := by omega
  have c1 : ¬ cmpS x y < 0 := fun q => h3 (.inr ⟨e, q⟩)
  have c2 : ¬ cmpS y x < 0 := fun q => h1 (.inr ⟨e.symm, q⟩)
  exact nb_inj (cmpS_zero.1 (by omega))
/-- Sorted, they are one list. -/
theorem top_one {L : List (ChV × RcV)} {a b s t : List ByteArray} (ha : TopN L a) (hb : TopN L b) (hs : s.Perm a) (ht : t.Perm b) (sa : Asc (topCf L) s) (ta : Asc (topCf L) t) : s = t := by
  refine rise_one (swoTop L) (top_rise (hs.nodup_iff.2 ha.1) sa) (top_rise (ht.nodup_iff.2 hb.1) ta) (fun x => ?_)
  rw [hs.mem_iff, ht.mem_iff, ha.2, hb.2]
/-- The first of them, with what they cost. -/
def topPs (L : List (ChV × RcV)) (s : List ByteArray) (many : Int) : List PaV := (s.take many.toNat).map fun k => ⟨k, itS (costK (·.2.too) L k)⟩
end
end Go.Proofs.YtlkibeckfpjccaaGreatDoor

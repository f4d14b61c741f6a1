/- slices.Sort and slices.Compact at ints, in the words of slices of the call's own. Conditions: none. -/
import Derived.Test.YtnmodobkennklaaGreatDoorBun2
import Derived.Test.YtnmodobkennklaaGreatDoorShelfSort
import Derived.Sort.OwnSortedInts
import Derived.Test.YtnmodobkennklaaGreatDoorBun1
import Derived.WalkKit
import Derived.Deep.QuietTactic
import Derived.BigQuiet
namespace Go.Proofs.YtnmodobkennklaaGreatDoor
section
open Go.RowKit Go.Sort

def sortI (l : List Int) : List Int := l.mergeSort fun x y => decide (x ≤ y)
theorem sortI_len (l : List Int) : (sortI l).length = l.length := List.length_mergeSort _
theorem sortI_mem {l : List Int} {x : Int} : x ∈ sortI l ↔ x ∈ l := List.mem_mergeSort
theorem pw_monoS {α : Type} {R S : α → α → Prop} (h : ∀ a b, R a b → S a b) {l : List α} (hl : l.Pairwise R) : l.Pairwise S := by
  induction hl with
  | nil => exact List.Pairwise.nil
  | cons h1 _ ih => exact List.Pairwise.cons (fun a ha => h _ _ (h1 a ha)) ih
theorem sortI_rise (l : List Int) : (sortI l).Pairwise (· ≤ ·) := by
  have h := List.pairwise_mergeSort (le := fun x y : Int => decide (x ≤ y)) (fun a b c h1 h2 => by simp only [decide_eq_true_eq] at *; omega) (fun a b => by simp only [Bool.or_eq_true, decide_eq_true_eq]; omega) l
  exact pw_monoS (fun a b h => by simpa using h) h
theorem sortI_any (lo : Nat) (A : Option Addr) (n c : Nat) (l : List Int) (w : World) (h : OwnR nrow 1 w lo 3 A n c l) (hn : n ≤ 1000000000) :
    Calls Tryz.prog 154 #[.slice A n c] w fun e w' => e = .returned (.tuple #[]) ∧ OwnR nrow 1 w' lo 3 A n c (sortI l) ∧ w.grownBy w' (blkOf A) := by
  obtain ⟨ho, hlen⟩ := h
  have ho0 := ho
  rcases ho.2 with ⟨hv, hn0⟩ | ⟨g, cap, cur, hv, hlo, hb, h1, h2, h3, h4⟩
  · obtain ⟨rfl, _, rfl⟩ : A = none ∧ n = 0 ∧ c = 0 := by injection hv with a b c; exact ⟨a, b, c⟩
    subst hn0
    have hl0 : l = [] := List.eq_nil_of_length_eq_zero hlen
    subst hl0
    refine (Tryz.slices_Sort_int_none none 0 w).mono ?_
    rintro e w' ⟨rfl, rfl⟩
    exact ⟨rfl, by rw [show sortI [] = [] by simp [sortI]]; exact OwnR.nil _ _ _, gr_refl _ _⟩
  · obtain ⟨rfl, rfl⟩ : A = some ⟨g, 0, none⟩ ∧ c = cap := by injection hv with a b c; exact ⟨a, c⟩
    subst hlen
    rw [nrow_map, Nat.mul_one] at h4
    refine (Tryz.slices_Sort_int g 0 c l w (holds_of_blockI hb h4) (Array.getElem?_eq_some_iff.1 hb).1 (by omega)).mono ?_
    rintro e w' ⟨rfl, k, os, rfl⟩
    refine ⟨rfl, ⟨?_, sortI_len l⟩, grownBy_sortedI _⟩
    rw [nrow_map]
    exact ownsRow_sortedI (ss := l) (sortI_len l) hlo hb h1 h2 h3
end
end Go.Proofs.YtnmodobkennklaaGreatDoor
/- Plain Lean: a queue as the document plays it: who is free, who is in line, who is chosen, what comes about at a moment. Conditions: none. -/
namespace Go.Proofs.YtnmodobkennklaaGreatDoor
section
open Go.RowKit

/-! A stable sort by insertion, as slices.SortStableFunc does it at few elements. -/
section
variable {α β : Type}
def sink (lt : α → α → Bool) (l : List α) : Nat → List α
  | 0 => l
  | j + 1 => match l[j + 1]?, l[j]? with
    | some x, some y => if lt x y then sink lt ((l.set (j + 1) y).set j x) j else l
    | _, _ => l
def srtTo (lt : α → α → Bool) (l : List α) : Nat → List α
  | 0 => l
  | i + 1 => sink lt (srtTo lt l i) i
def srt (lt : α → α → Bool) (l : List α) : List α := srtTo lt l l.length
theorem sink_len (lt : α → α → Bool) (l : List α) (j : Nat) : (sink lt l j).length = l.length := by
  induction j generalizing l with
  | zero => rfl
  | succ j ih =>
    unfold sink
    split
    · split
      · rw [ih]; simp
      · rfl
    · rfl
theorem srtTo_len (lt : α → α → Bool) (l : List α) (i : Nat) : (srtTo lt l i).length = l.length := by
  induction i with
  | zero => rfl
  | succ i ih => rw [srtTo, sink_len, ih]
theorem srt_len (lt : α → α → Bool) (l : List α) : (srt lt l).length = l.length := srtTo_len _ _ _
theorem sink_yes {lt : α → α → Bool} {l : List α} {j : Nat} {x y : α} (hx : l[j + 1]? = some x) (hy : l[j]? = some y) (h : lt x y = true) : sink lt l (j + 1) = sink lt ((l.set (j + 1) y).set j x) j := by
  conv => lhs; unfold sink
  rw [hx, hy]
  exact if_pos h
theorem sink_no {lt : α → α → Bool} {l : List α} {j : Nat} {x y : α} (hx : l[j + 1]? = some x) (hy : l[j]? = some y) (h : lt x y = false) : sink lt l (j + 1) = l := by
  conv => lhs; unfold sink
  rw [hx, hy]
  exact if_neg (by rw [h]; decide)
theorem swap_mem {l : List α} {i j : Nat} {x y z : α} (hx : x ∈ l) (hy : y ∈ l) (h : z ∈ (l.set i y).set j x) : z ∈ l := by
  rcases List.mem_or_eq_of_mem_set h with h | rfl
  · rcases List.mem_or_eq_of_mem_set h with h | rfl
    · exact h
    · exact hy
  · exact hx
theorem sink_mem {lt : α → α → Bool} {l : List α} {j : Nat} {z : α} (h : z ∈ sink lt l j) : z ∈ l := by
  induction j generalizing l with
  | zero => exact h
  | succ j ih =>
    unfold sink at h
    split at h
    · rename_i x y hx hy
      split at h
      · exact swap_mem (mem_of_get hx) (mem_of_get hy) (ih h)
      · exact h
    · exact h
theorem srtTo_mem {lt : α → α → Bool} {l : List α} {i : Nat} {z : α} (h : z ∈ srtTo lt l i) : z ∈ l := by
  induction i with
  | zero => exact h
  | succ i ih => exact ih (sink_mem h)
theorem srt_mem {lt : α → α → Bool} {l : List α} {z : α} (h : z ∈ srt lt l) : z ∈ l := srtTo_mem h
theorem sink_map (f : α → β) {lt : α → α → Bool} {lt' : β → β → Bool} {l : List α} {j : Nat} (h : ∀ x ∈ l, ∀ y ∈ l, lt' (f x) (f y) = lt x y) : sink lt' (l.map f) j = (sink lt l j).map f := by
  induction j generalizing l with
  | zero => rfl
  | succ j ih =>
    unfold sink
    rw [List.getElem?_map, List.getElem?_map]
    cases hx : l[j + 1]? with
    | none => rfl
    | some x =>
      cases hy : l[j]? with
      | none => rfl
      | some y =>
        have hlt := h x (mem_of_get hx) y (mem_of_get hy)
        show (if lt' (f x) (f y) then _ else _) = List.map f (if lt x y then _ else _)
        rw [hlt]
        split
        · rw [← List.map_set, ← List.map_set]
          exact ih fun a ha b hb => h a (swap_mem (mem_of_get hx) (mem_of_get hy) ha) b (swap_mem (mem_of_get hx) (mem_of_get hy) hb)
        · rfl
theorem srtTo_map (f : α → β) {lt : α → α → Bool} {lt' : β → β → Bool} {l : List α} {i : Nat} (h : ∀ x ∈ l, ∀ y ∈ l, lt' (f x) (f y) = lt x y) : srtTo lt' (l.map f) i = (srtTo lt l i).map f := by
  induction i with
  | zero => rfl
  | succ i ih => rw [srtTo, ih, srtTo]; exact sink_map f fun x hx y hy => h x (srtTo_mem hx) y (srtTo_mem hy)
theorem srt_map (f : α → β) {lt : α → α → Bool} {lt' : β → β → Bool} {l : List α} (h : ∀ x ∈ l, ∀ y ∈ l, lt' (f x) (f y) = lt x y) : srt lt' (l.map f) = (srt lt l).map f := by
  unfold srt
  rw [List.length_map]
  exact srtTo_map f h
end

/-! Seats, styles, rooms. -/
structure SeV where
  ca : ByteArray
  ag : ByteArray
  how : Int
  beg : Int
  fin : Int
def SeV.row (s : SeV) : List Value := [.string s.ca, .string s.ag, .int .i64 s.how, .int .i64 s.beg, .int .i64 s.fin]
theorem SeV.row_len (s : SeV) : s.row.length = 5 := rfl
def dkRow (d : Int × Int) : List Value := [.int .i64 d.1, .int .i64 d.2]
theorem dkRow_len (d : Int × Int) : (dkRow d).length = 2 := rfl
structure StyV where
  kind : Int
  age : Int
  say : Int
/-- What is known of a room while it is played: for each agent how many calls it had and when the last one ends; for each caller the seat, whether a number was left, whether it is done; the agent called last. -/
structure RoS where
  ds : List (Int × Int)
  se : List SeV
  bk : List Bool
  dn : List Bool
  last : ByteArray
def dAt (ds : List (Int × Int)) (i : Nat) : Int × Int := (ds[i]?).getD (0, 0)
def bAt (l : List Bool) (i : Nat) : Bool := (l[i]?).getD false

/-! Who is free. -/
def freeB (a : AgV) (d : Int × Int) (t : Int) : Bool := presB a t && (decide (d.1 = 0) || decide (d.2 + a.wrap ≤ t))

/-! The moments at which something can come about. -/
def calT (C : List CaV) : Nat → List Int
  | 0 => []
  | k + 1 => calT C k ++ (C[k]?).elim [] fun c => [c.at_, c.at_ + c.pat]
def agT1 (a : AgV) (d : Int × Int) : List Int := a.fr :: (a.ps.map (·.2) ++ if 0 < d.1 then [d.2, d.2 + a.wrap] else [])
def agT (A : List AgV) (ds : List (Int × Int)) : Nat → List Int
  | 0 => []
  | k + 1 => agT A ds k ++ (A[k]?).elim [] fun a => agT1 a (dAt ds k)
def timesR (A : List AgV) (C : List CaV) (ds : List (Int × Int)) : List Int := calT C C.length ++ agT A ds A.length
def nextsR (A : List AgV) (C : List CaV) (ds : List (Int × Int)) (after : Int) : List Int := sortI ((timesR A C ds).filter fun t => decide (after < t))

/-! Who is in line. -/
def rankR (s : StyV) (c : CaV) (t : Int) : Int := if s.age = 0 then c.prio else c.prio + (t - c.at_).tdiv s.age
def rankAt (s : StyV) (C : List CaV) (t : Int) (i : Nat) : Int := (C[i]?).elim 0 fun c => rankR s c t
def lineRaw (C : List CaV) (dn : List Bool) (t : Int) : Nat → List Nat
  | 0 => []
  | k + 1 => lineRaw C dn t k ++ (C[k]?).elim [] fun c => if decide (c.at_ ≤ t) && !bAt dn k then [k] else []
def lineR (s : StyV) (C : List CaV) (dn : List Bool) (t : Int) : List Nat := srt (fun a b => decide (rankAt s C t b < rankAt s C t a)) (lineRaw C dn t C.length)

/-! Who is chosen. -/
def ptsR (kind : Int) (a : AgV) (d : Int × Int) (last skill : ByteArray) : Int :=
  if kind = 1 then (if 0 < d.1 then d.2 else a.fr) else if kind = 2 then d.1 else if kind = 3 then -(lvl a.sk skill) else (if leS a.key last then 1 else 0)
def chooseR (s : StyV) (A : List AgV) (ds : List (Int × Int)) (last : ByteArray) (c : CaV) (t : Int) : Nat → Int × Int
  | 0 => (-1, 0)
  | k + 1 => (A[k]?).elim (chooseR s A ds last c t k) fun a =>
    if ableB a c && freeB a (dAt ds k) t then
      (if decide ((chooseR s A ds last c t k).1 < 0) || decide (ptsR s.kind a (dAt ds k) last c.skill < (chooseR s A ds last c t k).2) then ((k : Int), ptsR s.kind a (dAt ds k) last c.skill) else chooseR s A ds last c t k)
    else chooseR s A ds last c t k
def chosenR (s : StyV) (A : List AgV) (st : RoS) (c : CaV) (t : Int) : Int := (chooseR s A st.ds st.last c t A.length).1

/-! Callers go, or leave their number. -/
def leaveB (c : CaV) (t : Int) (now : Bool) (bk dn : Bool) : Bool := !dn && !bk && decide (c.at_ ≤ t) && decide (c.at_ + c.pat = t) && (now == decide (c.at_ = t))
def leave1 (c : CaV) (i : Nat) (t : Int) (now : Bool) (st : RoS) : RoS :=
  if leaveB c t now (bAt st.bk i) (bAt st.dn i) then
    (if c.back then { st with bk := st.bk.set i true } else { st with dn := st.dn.set i true, se := (st.se[i]?).elim st.se fun s => st.se.set i ⟨s.ca, s.ag, 2, t, t⟩ })
  else st
def leaveR (C : List CaV) (t : Int) (now : Bool) : Nat → RoS → RoS
  | 0, st => st
  | k + 1, st => (C[k]?).elim (leaveR C t now k st) fun c => leave1 c k t now (leaveR C t now k st)

/-! One caller is given to an agent. -/
def givenR (A : List AgV) (C : List CaV) (st : RoS) (t : Int) (i k : Nat) : RoS := (C[i]?).elim st fun c => (A[k]?).elim st fun a =>
  ⟨st.ds.set k ((dAt st.ds k).1 + 1, t + c.talk), st.se.set i ⟨c.id, a.key, if bAt st.bk i then 3 else 1, t, t + c.talk⟩, st.bk, st.dn.set i true, a.key⟩
def giveL (s : StyV) (A : List AgV) (C : List CaV) (st : RoS) (t : Int) : List Nat → Option RoS
  | [] => none
  | i :: l => (C[i]?).elim (giveL s A C st t l) fun c => if chosenR s A st c t < 0 then giveL s A C st t l else some (givenR A C st t i (chosenR s A st c t).toNat)
def giveR (s : StyV) (A : List AgV) (C : List CaV) (st : RoS) (t : Int) : Option RoS := giveL s A C st t (lineR s C st.dn t)
def givesR (s : StyV) (A : List AgV) (C : List CaV) (t : Int) : Nat → RoS → RoS
  | 0, st => st
  | f + 1, st => (giveR s A C st t).elim st (givesR s A C t f)
def stepR (s : StyV) (A : List AgV) (C : List CaV) (st : RoS) (t : Int) : RoS := leaveR C t true C.length (givesR s A C t C.length (leaveR C t false C.length st))
/-! The play. -/
def playR (s : StyV) (A : List AgV) (C : List CaV) : Nat → RoS → Int → RoS
  | 0, st, _ => st
  | f + 1, st, at_ => ((nextsR A C st.ds at_)[0]?).elim st fun t => playR s A C f (stepR s A C st t) t
def newR (A : List AgV) (C : List CaV) : RoS := ⟨List.replicate A.length (0, 0), C.map fun c => ⟨c.id, ⟨#[]⟩, 4, 0, 0⟩, List.replicate C.length false, List.replicate C.length false, ⟨#[]⟩⟩

/-! What holds of a room all the time. -/
structure RoOk (A : List AgV) (C : List CaV) (st : RoS) : Prop where
  d : st.ds.length = A.length
  s : st.se.length = C.length
  b : st.bk.length = C.length
  n : st.dn.length = C.length
  l : st.last.size ≤ 1000
  dv : ∀ d ∈ st.ds, 0 ≤ d.1 ∧ d.1 ≤ st.dn.count true ∧ -1 ≤ d.2 ∧ d.2 ≤ 2000000000000
  sv : ∀ s ∈ st.se, s.ca.size ≤ 1000 ∧ s.ag.size ≤ 1000 ∧ -1 ≤ s.beg ∧ s.beg ≤ 2000000000000 ∧ -1 ≤ s.fin ∧ s.fin ≤ 2000000000000
end
end Go.Proofs.YtnmodobkennklaaGreatDoor
/- Plain laws of a queue that is played: bounds hold all the time, and it ends. Conditions: none. -/
namespace Go.Proofs.YtnmodobkennklaaGreatDoor
section
open Go.RowKit

theorem dAt_some {ds : List (Int × Int)} {i : Nat} {d : Int × Int} (h : ds[i]? = some d) : dAt ds i = d := by unfold dAt; rw [h]; rfl
theorem bAt_some {l : List Bool} {i : Nat} {b : Bool} (h : l[i]? = some b) : bAt l i = b := by unfold bAt; rw [h]; rfl
theorem dAt_mem {ds : List (Int × Int)} {i : Nat} (h : i < ds.length) : dAt ds i ∈ ds := by
  rw [dAt_some (List.getElem?_eq_getElem h)]; exact List.getElem_mem h
theorem get_len {α β : Type} {l : List α} {m : List β} (h : m.length = l.length) {i : Nat} {x : α} (hx : l[i]? = some x) : i < m.length := by
  have := (List.getElem?_eq_some_iff.1 hx).1; omega
section
variable {C : List CaV} {A : List AgV} {dn : List Bool} {t : Int} {k : Nat}
theorem calT_succ {c : CaV} (h : C[k]? = some c) : calT C (k + 1) = calT C k ++ [c.at_, c.at_ + c.pat] := by show _ ++ (C[k]?).elim _ _ = _; rw [h]; rfl
theorem calT_len (hk : k ≤ C.length) : (calT C k).length = 2 * k := by
  induction k with
  | zero => rfl
  | succ k ih => rw [calT_succ (List.getElem?_eq_getElem (show k < C.length by omega)), List.length_append, ih (by omega)]; simp; omega
theorem agT_succ {ds : List (Int × Int)} {a : AgV} (h : A[k]? = some a) : agT A ds (k + 1) = agT A ds k ++ agT1 a (dAt ds k) := by show _ ++ (A[k]?).elim _ _ = _; rw [h]; rfl
theorem lineRaw_succ {c : CaV} (h : C[k]? = some c) : lineRaw C dn t (k + 1) = lineRaw C dn t k ++ (if decide (c.at_ ≤ t) && !bAt dn k then [k] else []) := by show _ ++ (C[k]?).elim _ _ = _; rw [h]; rfl
theorem lineRaw_len (k : Nat) : (lineRaw C dn t k).length ≤ k := by
  induction k with
  | zero => exact Nat.le_refl _
  | succ k ih =>
    show (lineRaw C dn t k ++ (C[k]?).elim [] _).length ≤ _
    rw [List.length_append]
    cases C[k]? with
    | none => simp; omega
    | some c => simp only [Option.elim]; split <;> simp <;> omega
theorem lineRaw_mem {k i : Nat} (h : i ∈ lineRaw C dn t k) : i < k ∧ bAt dn i = false ∧ ∃ c, C[i]? = some c ∧ c.at_ ≤ t := by
  induction k with
  | zero => cases h
  | succ k ih =>
    change i ∈ lineRaw C dn t k ++ (C[k]?).elim [] _ at h
    rcases List.mem_append.1 h with h | h
    · obtain ⟨h1, h2⟩ := ih h; exact ⟨by omega, h2⟩
    · cases hc : C[k]? with
      | none => rw [hc] at h; cases h
      | some c =>
        rw [hc] at h
        simp only [Option.elim] at h
        split at h
        · rename_i q
          obtain rfl := List.mem_singleton.1 h
          rw [Bool.and_eq_true] at q
          exact ⟨by omega, by simpa using q.2, c, hc, by simpa using q.1⟩
        · cases h
theorem lineR_mem {s : StyV} {i : Nat} (h : i ∈ lineR s C dn t) : i < C.length ∧ bAt dn i = false ∧ ∃ c, C[i]? = some c ∧ c.at_ ≤ t := lineRaw_mem (srt_mem h)
theorem lineR_len {s : StyV} : (lineR s C dn t).length ≤ C.length := by unfold lineR; rw [srt_len]; exact lineRaw_len _
theorem leaveR_succ {now : Bool} {st : RoS} {c : CaV} (h : C[k]? = some c) : leaveR C t now (k + 1) st = leave1 c k t now (leaveR C t now k st) := by show (C[k]?).elim _ _ = _; rw [h]; rfl
end
/-! Who is chosen is able and free. -/
section
variable {s : StyV} {A : List AgV} {ds : List (Int × Int)} {last : ByteArray} {c : CaV} {t : Int}
theorem chooseR_zero : chooseR s A ds last c t 0 = (-1, 0) := rfl
theorem chooseR_succ {k : Nat} {a : AgV} (h : A[k]? = some a) : chooseR s A ds last c t (k + 1) = if ableB a c && freeB a (dAt ds k) t then
      (if decide ((chooseR s A ds last c t k).1 < 0) || decide (ptsR s.kind a (dAt ds k) last c.skill < (chooseR s A ds last c t k).2) then ((k : Int), ptsR s.kind a (dAt ds k) last c.skill) else chooseR s A ds last c t k)
    else chooseR s A ds last c t k := by show (A[k]?).elim _ _ = _; rw [h]; rfl
theorem chooseR_ok (k : Nat) : (chooseR s A ds last c t k).1 = -1 ∨ ∃ (i : Nat) (a : AgV), i < k ∧ (chooseR s A ds last c t k).1 = i ∧ A[i]? = some a ∧ ableB a c = true ∧ freeB a (dAt ds i) t = true := by
  induction k with
  | zero => exact .inl rfl
  | succ k ih =>
    have up : (chooseR s A ds last c t k).1 = -1 ∨ ∃ (i : Nat) (a : AgV), i < k + 1 ∧ (chooseR s A ds last c t k).1 = i ∧ A[i]? = some a ∧ ableB a c = true ∧ freeB a (dAt ds i) t = true := by
      rcases ih with h | ⟨i, a, h1, h2⟩
      · exact .inl h
      · exact .inr ⟨i, a, by omega, h2⟩
    cases ha : A[k]? with
    | none => have e : chooseR s A ds last c t (k + 1) = chooseR s A ds last c t k := by { show (A[k]?).elim _ _ = _; rw [ha]; rfl }; rw [e]; exact up
    | some a =>
      rw [chooseR_succ ha]
      split
      · rename_i q
        rw [Bool.and_eq_true] at q
        split
        · exact .inr ⟨k, a, by omega, rfl, ha, q.1, q.2⟩
        · exact up
      · exact up
theorem freeB_til {a : AgV} {d : Int × Int} (h : freeB a d t = true) : a.fr ≤ t ∧ t < a.til := by
  unfold freeB presB inWin at h
  simp only [Bool.and_eq_true, decide_eq_true_eq] at h
  exact h.1.1
end
/-! Bounds. -/
section
variable {A : List AgV} {C : List CaV} {st : RoS} {t : Int}
theorem count_set {l : List Bool} {i : Nat} (h : bAt l i = false) (hi : i < l.length) : (l.set i true).count true = l.count true + 1 := by
  rw [bAt_some (List.getElem?_eq_getElem hi)] at h
  rw [List.count_set hi, h]
  simp
theorem RoOk.leave1 (h : RoOk A C st) {c : CaV} {i : Nat} (hi : i < C.length) (now : Bool) (t0 : -1 ≤ t) (t1 : t ≤ 2000000000000) : RoOk A C (leave1 c i t now st) := by
  unfold Go.Proofs.YtnmodobkennklaaGreatDoor.leave1
  split
  · rename_i q
    unfold leaveB at q
    simp only [Bool.and_eq_true, Bool.not_eq_true'] at q
    split
    · exact ⟨h.d, h.s, by simpa using h.b, h.n, h.l, h.dv, h.sv⟩
    · have hs : i < st.se.length := by rw [h.s]; exact hi
      rw [List.getElem?_eq_getElem hs]
      refine ⟨h.d, by simpa using h.s, h.b, by simpa using h.n, h.l, fun d hd => ?_, fun s hs' => ?_⟩
      · have := h.dv d hd
        have hc := count_set q.1.1.1.1 (show i < st.dn.length by rw [h.n]; exact hi)
        dsimp only
        rw [hc]
        omega
      · rcases List.mem_or_eq_of_mem_set hs' with h1 | rfl
        · exact h.sv s h1
        · have := h.sv _ (List.getElem_mem hs)
          exact ⟨this.1, this.2.1, t0, t1, t0, t1⟩
  · exact h
theorem RoOk.leaveR (h : RoOk A C st) (now : Bool) (t0 : -1 ≤ t) (t1 : t ≤ 2000000000000) (k : Nat) (hk : k ≤ C.length) : RoOk A C (leaveR C t now k st) := by
  induction k with
  | zero => exact h
  | succ k ih => rw [leaveR_succ (List.getElem?_eq_getElem (show k < C.length by omega))]; exact (ih (by omega)).leave1 (by omega) now t0 t1
theorem RoOk.given (h : RoOk A C st) {i k : Nat} {c : CaV} {a : AgV} (hc : C[i]? = some c) (ha : A[k]? = some a) (hcn : CaN c) (han : AgN a) (hco : CaOk c) (hao : a.key.size ≤ 1000) (hd : bAt st.dn i = false) (t0 : -1 ≤ t) (t1 : t < a.til) : RoOk A C (givenR A C st t i k) := by
  have hi := (List.getElem?_eq_some_iff.1 hc).1
  have hk := (List.getElem?_eq_some_iff.1 ha).1
  unfold givenR
  rw [hc, ha]
  simp only [Option.elim]
  obtain ⟨c1, c2, c3, c4, c5, c6, _, _⟩ := hcn
  obtain ⟨a1, a2, a3, a4, a5, _⟩ := han
  have hcs := count_set hd (show i < st.dn.length by rw [h.n]; exact hi)
  refine ⟨by simpa using h.d, by simpa using h.s, h.b, by simpa using h.n, hao, fun d hd' => ?_, fun s hs' => ?_⟩
  · (try dsimp only at hd' ⊢)
    rw [hcs]
    rcases List.mem_or_eq_of_mem_set hd' with h1 | rfl
    · have := h.dv d h1; omega
    · have := h.dv _ (dAt_mem (show k < st.ds.length by rw [h.d]; exact hk))
      refine ⟨?_, ?_, ?_, ?_⟩ <;> (try dsimp only) <;> omega
  · rcases List.mem_or_eq_of_mem_set hs' with h1 | rfl
    · exact h.sv s h1
    · exact ⟨hco.1, hao, t0, (by show t ≤ 2000000000000; omega), (by show -1 ≤ t + c.talk; omega), (by show t + c.talk ≤ 2000000000000; omega)⟩
theorem RoOk.new (hC : ∀ c ∈ C, CaOk c) : RoOk A C (newR A C) := by
  refine ⟨by simp [newR], by simp [newR], by simp [newR], by simp [newR], (by show (⟨#[]⟩ : ByteArray).size ≤ 1000; decide), fun d hd => ?_, fun s hs => ?_⟩
  · rw [List.eq_of_mem_replicate hd]; exact ⟨Int.le_refl _, by simp, by omega, by omega⟩
  · obtain ⟨c, hc, rfl⟩ := List.mem_map.1 hs
    exact ⟨(hC c hc).1, (by show (⟨#[]⟩ : ByteArray).size ≤ 1000; decide), (by show (-1 : Int) ≤ 0; decide), (by show (0 : Int) ≤ 2000000000000; decide), (by show (-1 : Int) ≤ 0; decide), (by show (0 : Int) ≤ 2000000000000; decide)⟩
end
/-! Giving. -/
section
variable {s : StyV} {A : List AgV} {C : List CaV} {st : RoS} {t : Int}
theorem giveL_ok (h : RoOk A C st) (hC : ∀ c ∈ C, CaN c ∧ CaOk c) (hA : ∀ a ∈ A, AgN a ∧ a.key.size ≤ 1000) (t0 : -1 ≤ t) (l : List Nat) (hl : ∀ i ∈ l, bAt st.dn i = false) :
    ∀ st', giveL s A C st t l = some st' → RoOk A C st' ∧ st'.dn.count true = st.dn.count true + 1 ∧ (∀ d ∈ st'.ds, d ∈ st.ds ∨ d.2 ≤ 345686400000 + 86400000) := by
  induction l with
  | nil => intro st' e; cases e
  | cons i l ih =>
    intro st' e
    unfold giveL at e
    cases hc : C[i]? with
    | none => rw [hc] at e; exact ih (fun j hj => hl j (List.mem_cons_of_mem _ hj)) st' e
    | some c =>
      rw [hc] at e
      simp only [Option.elim] at e
      split at e
      · exact ih (fun j hj => hl j (List.mem_cons_of_mem _ hj)) st' e
      · rename_i hn
        injection e with e
        subst e
        rcases chooseR_ok (s := s) (A := A) (ds := st.ds) (last := st.last) (c := c) (t := t) A.length with hx | ⟨k, a, hk, hx, ha, _, hf⟩
        · exfalso; apply hn; unfold chosenR; rw [hx]; decide
        · have hk' : (chosenR s A st c t).toNat = k := by unfold chosenR; rw [hx]; exact Int.toNat_natCast k
          rw [hk']
          have hcm := hC c (mem_of_get hc)
          have ham := hA a (mem_of_get ha)
          have hft := (freeB_til hf).2
          refine ⟨h.given hc ha hcm.1 ham.1 hcm.2 ham.2 (hl i (List.mem_cons_self)) t0 hft, ?_, fun d hd => ?_⟩
          · unfold givenR; rw [hc, ha]; exact count_set (hl i (List.mem_cons_self)) (by rw [h.n]; exact (List.getElem?_eq_some_iff.1 hc).1)
          · unfold givenR at hd
            rw [hc, ha] at hd
            rcases List.mem_or_eq_of_mem_set hd with h1 | rfl
            · exact .inl h1
            · right
              obtain ⟨_, _, _, _, _, c6, _, _⟩ := hcm.1
              obtain ⟨_, _, a3, _⟩ := ham.1
              dsimp only
              omega
theorem giveR_ok (h : RoOk A C st) (hC : ∀ c ∈ C, CaN c ∧ CaOk c) (hA : ∀ a ∈ A, AgN a ∧ a.key.size ≤ 1000) (t0 : -1 ≤ t) {st' : RoS} (e : giveR s A C st t = some st') :
    RoOk A C st' ∧ st'.dn.count true = st.dn.count true + 1 ∧ (∀ d ∈ st'.ds, d ∈ st.ds ∨ d.2 ≤ 345686400000 + 86400000) :=
  giveL_ok h hC hA t0 _ (fun i hi => (lineR_mem hi).2.1) st' e
theorem givesR_some {f : Nat} {st' : RoS} (h : giveR s A C st t = some st') : givesR s A C t (f + 1) st = givesR s A C t f st' := by
  show (giveR s A C st t).elim _ _ = _; rw [h]; rfl
theorem givesR_none {f : Nat} (h : giveR s A C st t = none) : givesR s A C t f st = st := by
  cases f with
  | zero => rfl
  | succ f => show (giveR s A C st t).elim _ _ = _; rw [h]; rfl
/-- Once all callers are done, nobody is given. -/
theorem done_none (h : RoOk A C st) (hd : C.length ≤ st.dn.count true) : giveR s A C st t = none := by
  have hall : ∀ i, i < C.length → bAt st.dn i = true := by
    have hn := h.n
    intro i hi
    have hb : ∀ b ∈ st.dn, true = b := List.count_eq_length.1 (by have := List.count_le_length (a := true) (l := st.dn); omega)
    rw [bAt_some (List.getElem?_eq_getElem (show i < st.dn.length by omega))]
    exact (hb _ (List.getElem_mem _)).symm
  unfold giveR
  have : lineR s C st.dn t = [] := by
    cases hl : lineR s C st.dn t with
    | nil => rfl
    | cons i l =>
      obtain ⟨h1, h2, _⟩ := lineR_mem (s := s) (C := C) (dn := st.dn) (t := t) (i := i) (by rw [hl]; exact List.mem_cons_self)
      rw [hall i h1] at h2
      cases h2
  rw [this]; rfl
/-- Bounds of the ends of calls, of all moments. -/
def DsB (ds : List (Int × Int)) : Prop := ∀ d ∈ ds, d.2 ≤ 345686400000 + 86400000
theorem givesR_ok (f : Nat) (h : RoOk A C st) (hb : DsB st.ds) (hC : ∀ c ∈ C, CaN c ∧ CaOk c) (hA : ∀ a ∈ A, AgN a ∧ a.key.size ≤ 1000) (t0 : -1 ≤ t) : RoOk A C (givesR s A C t f st) ∧ DsB (givesR s A C t f st).ds := by
  induction f generalizing st with
  | zero => exact ⟨h, hb⟩
  | succ f ih =>
    cases e : giveR s A C st t with
    | none => rw [givesR_none e]; exact ⟨h, hb⟩
    | some st' =>
      rw [givesR_some e]
      obtain ⟨h1, _, h2⟩ := giveR_ok h hC hA t0 e
      exact ih h1 fun d hd => by
        rcases h2 d hd with h3 | h3
        · exact hb d h3
        · exact h3
theorem leaveR_ds (now : Bool) (k : Nat) (st : RoS) : (leaveR C t now k st).ds = st.ds := by
  induction k with
  | zero => rfl
  | succ k ih =>
    show ((C[k]?).elim _ _ : RoS).ds = _
    cases C[k]? with
    | none => exact ih
    | some c =>
      show (leave1 c k t now (leaveR C t now k st)).ds = _
      unfold leave1
      split
      · split <;> exact ih
      · exact ih
theorem stepR_ok (h : RoOk A C st) (hb : DsB st.ds) (hC : ∀ c ∈ C, CaN c ∧ CaOk c) (hA : ∀ a ∈ A, AgN a ∧ a.key.size ≤ 1000) (t0 : -1 ≤ t) (t1 : t ≤ 2000000000000) : RoOk A C (stepR s A C st t) ∧ DsB (stepR s A C st t).ds := by
  unfold stepR
  have h1 := h.leaveR false t0 t1 C.length (Nat.le_refl _)
  obtain ⟨h2, h3⟩ := givesR_ok (s := s) C.length h1 (by rw [leaveR_ds]; exact hb) hC hA t0
  exact ⟨h2.leaveR true t0 t1 C.length (Nat.le_refl _), by rw [leaveR_ds]; exact h3⟩
theorem calT_bd (hC : ∀ c ∈ C, CaN c ∧ CaOk c) (k : Nat) : ∀ x ∈ calT C k, 0 ≤ x ∧ x ≤ 345859200000 := by
  induction k with
  | zero => intro x hx; cases hx
  | succ k ih =>
    intro x hx
    change x ∈ calT C k ++ (C[k]?).elim [] _ at hx
    rcases List.mem_append.1 hx with hx | hx
    · exact ih x hx
    · cases hc : C[k]? with
      | none => rw [hc] at hx; cases hx
      | some c =>
        rw [hc] at hx
        obtain ⟨c1, c2, c3, c4, _⟩ := (hC c (mem_of_get hc)).1
        simp only [Option.elim, List.mem_cons, List.not_mem_nil, or_false] at hx
        omega
theorem agT_bd {ds : List (Int × Int)} (hl : ds.length = A.length) (hd : ∀ d ∈ ds, -1 ≤ d.2) (hb : DsB ds) (hA : ∀ a ∈ A, AgN a ∧ a.key.size ≤ 1000) (k : Nat) : ∀ x ∈ agT A ds k, -1 ≤ x ∧ x ≤ 345859200000 := by
  induction k with
  | zero => intro x hx; cases hx
  | succ k ih =>
    intro x hx
    change x ∈ agT A ds k ++ (A[k]?).elim [] _ at hx
    rcases List.mem_append.1 hx with hx | hx
    · exact ih x hx
    · cases ha : A[k]? with
      | none => rw [ha] at hx; cases hx
      | some a =>
        rw [ha] at hx
        obtain ⟨a1, a2, a3, a4, a5, a6, _⟩ := (hA a (mem_of_get ha)).1
        have hk : k < ds.length := by rw [hl]; exact (List.getElem?_eq_some_iff.1 ha).1
        have h1 := hd _ (dAt_mem hk); have h2 := hb _ (dAt_mem hk)
        simp only [Option.elim, agT1, List.mem_cons, List.mem_append, List.mem_map] at hx
        rcases hx with rfl | ⟨p, hp, rfl⟩ | hx
        · omega
        · have := a6 p hp; omega
        · split at hx
          · simp only [List.mem_cons, List.not_mem_nil, or_false] at hx
            omega
          · cases hx
theorem timesR_bd (h : RoOk A C st) (hb : DsB st.ds) (hC : ∀ c ∈ C, CaN c ∧ CaOk c) (hA : ∀ a ∈ A, AgN a ∧ a.key.size ≤ 1000) : ∀ x ∈ timesR A C st.ds, -1 ≤ x ∧ x ≤ 345859200000 := by
  intro x hx
  rcases List.mem_append.1 hx with hx | hx
  · have := calT_bd hC _ x hx; omega
  · exact agT_bd h.d (fun d hd => (h.dv d hd).2.2.1) hb hA _ x hx
theorem nextsR_mem {ds : List (Int × Int)} {after x : Int} : x ∈ nextsR A C ds after ↔ x ∈ timesR A C ds ∧ after < x := by
  unfold nextsR
  rw [sortI_mem, List.mem_filter, decide_eq_true_eq]
/-- A play goes on as long as something can come about, each time later. -/
theorem playR_some {f : Nat} {at_ t : Int} (h : (nextsR A C st.ds at_)[0]? = some t) : playR s A C (f + 1) st at_ = playR s A C f (stepR s A C st t) t := by
  show ((nextsR A C st.ds at_)[0]?).elim _ _ = _; rw [h]; rfl
theorem playR_none {f : Nat} {at_ : Int} (h : (nextsR A C st.ds at_)[0]? = none) : playR s A C f st at_ = st := by
  cases f with
  | zero => rfl
  | succ f => show ((nextsR A C st.ds at_)[0]?).elim _ _ = _; rw [h]; rfl
def playOf (s : StyV) (A : List AgV) (C : List CaV) : RoS := playR s A C 345859200002 (newR A C) (-1)
end
end
end Go.Proofs.YtnmodobkennklaaGreatDoor
/- Plain Lean: what is wrong with seats; which part of those who count. Conditions: none. -/
namespace Go.Proofs.YtnmodobkennklaaGreatDoor
section
open Go.RowKit

def SeOk (s : SeV) : Prop := s.ca.size ≤ 1000 ∧ s.ag.size ≤ 1000 ∧ -1152921504606846976 ≤ s.beg ∧ s.beg ≤ 1152921504606846976 ∧ -1152921504606846976 ≤ s.fin ∧ s.fin ≤ 1152921504606846976
def Ses (w : World) (lo : Nat) (A : Option Addr) (n c : Nat) (l : List SeV) : Prop := Recs SeV.row 5 w lo A n c l ∧ ∀ s ∈ l, SeOk s
theorem Ses.grown {w w' : World} {lo : Nat} {A : Option Addr} {n c : Nat} {l : List SeV} (h : Ses w lo A n c l) {r : Option Nat} (hg : w.grownBy w' r) (hr : ∀ g, r = some g → g < lo) : Ses w' lo A n c l := ⟨h.1.grown hg hr, h.2⟩
def tkB (s : SeV) : Bool := s.how == 1 || s.how == 3
def seE (c : CaV) (s : SeV) : Int :=
  if nb s.ca = nb c.id then (if inB s.how 1 4 then (if tkB s then (if keyOk (nb s.ag) then (if c.at_ ≤ s.beg ∧ s.beg ≤ 691372800000 ∧ s.fin = s.beg + c.talk then 0 else 3) else 5)
    else (if nb s.ag = [] then (if s.how = 2 then (if s.beg = c.at_ + c.pat ∧ s.fin = s.beg then 0 else 3) else (if s.beg = 0 ∧ s.fin = 0 then 0 else 3)) else 3)) else 4) else 3
def seAt (C : List CaV) (l : List SeV) (i : Nat) : Int := (l[i]?).elim 0 fun s => (C[i]?).elim 0 fun c => seE c s
def seatsE (C : List CaV) (l : List SeV) : Int := if l.length = C.length then fstE (seAt C l) l.length else 3
def chkE (C : List CaV) (l : List SeV) : Int := if casE C = 0 then seatsE C l else casE C
theorem seAt_eq {C : List CaV} {l : List SeV} {i : Nat} {c : CaV} {s : SeV} (h1 : l[i]? = some s) (h2 : C[i]? = some c) : seAt C l i = seE c s := by unfold seAt; rw [h1, h2]; rfl

/-! Right callers have numbers in bounds. -/
theorem fstE_ev {f : Nat → Int} {n : Nat} (h : fstE f n = 0) : ∀ i, i < n → f i = 0 := by
  induction n with
  | zero => intro i hi; omega
  | succ n ih =>
    intro i hi
    unfold fstE at h
    by_cases h0 : fstE f n = 0
    · rw [if_pos h0] at h
      rcases Nat.lt_succ_iff_lt_or_eq.1 hi with h1 | h1
      · exact ih h0 i h1
      · subst h1; exact h
    · rw [if_neg h0] at h; exact absurd h h0
theorem casE_num {C : List CaV} (h : casE C = 0) : ∀ c ∈ C, caNum c = true := by
  intro c hc
  unfold casE at h
  split at h
  · cases h
  · obtain ⟨i, hi⟩ := List.mem_iff_getElem?.1 hc
    have hf := fstE_ev h i (List.getElem?_eq_some_iff.1 hi).1
    cases hn : caNum c with
    | true => rfl
    | false =>
      exfalso
      cases hk : keyOk (nb c.id) && keyOk (nb c.skill) with
      | false => rw [caAt_5 hi hk] at hf; cases hf
      | true =>
        cases hm : memS ((C.take i).map (·.id)) c.id with
        | true => rw [caAt_6 hi hk hm] at hf; cases hf
        | false => rw [caAt_1 hi hk hm hn] at hf; cases hf
theorem caNum_n {c : CaV} (h : caNum c = true) : CaN c := by
  unfold caNum momB inB at h
  simp only [Bool.and_eq_true, decide_eq_true_eq] at h
  obtain ⟨⟨⟨⟨h1, h2⟩, h3⟩, h4⟩, h5⟩ := h
  exact ⟨by omega, by omega, by omega, by omega, by omega, by omega, by omega, by omega⟩

/-! Parts. -/
def lowV (a b : Int) : Int × Int := (a / (Nat.gcd a.toNat b.toNat : Int), b / (Nat.gcd a.toNat b.toNat : Int))
/-- Does a caller count, who may have gone after less than 'short'? -/
def ctB (short : Int) (c : CaV) (s : SeV) : Bool := !(s.how == 2 && decide (s.beg - c.at_ < short))
def ctL (short : Int) (C : List CaV) (l : List SeV) : Nat → List Nat
  | 0 => []
  | k + 1 => ctL short C l k ++ (l[k]?).elim [] fun s => (C[k]?).elim [] fun c => if ctB short c s then [k] else []
def soAt (so : CaV → SeV → Bool) (C : List CaV) (l : List SeV) (i : Nat) : Bool := (l[i]?).elim false fun s => (C[i]?).elim false fun c => so c s
def soN (so : CaV → SeV → Bool) (C : List CaV) (l : List SeV) (L : List Nat) : Nat := L.countP (soAt so C l)
def inTime (most : Int) (c : CaV) (s : SeV) : Bool := s.how == 1 && decide (s.beg - c.at_ ≤ most)
def goneB (_c : CaV) (s : SeV) : Bool := s.how == 2
def partL (so : CaV → SeV → Bool) (short : Int) (C : List CaV) (l : List SeV) : List Nat := ctL short C l l.length
section
variable {short : Int} {C : List CaV} {l : List SeV} {so : CaV → SeV → Bool} {k : Nat} {c : CaV} {s : SeV}
theorem ctL_succ (h1 : l[k]? = some s) (h2 : C[k]? = some c) : ctL short C l (k + 1) = ctL short C l k ++ (if ctB short c s then [k] else []) := by
  show _ ++ (l[k]?).elim _ _ = _; rw [h1]; show _ ++ (C[k]?).elim _ _ = _; rw [h2]; rfl
theorem ctL_len (k : Nat) : (ctL short C l k).length ≤ k := by
  induction k with
  | zero => exact Nat.le_refl _
  | succ k ih =>
    show (ctL short C l k ++ (l[k]?).elim [] _).length ≤ _
    rw [List.length_append]
    cases l[k]? with
    | none => simp; omega
    | some s =>
      cases C[k]? with
      | none => simp; omega
      | some c => simp only [Option.elim]; split <;> simp <;> omega
theorem ctL_mem {i : Nat} (h : i ∈ ctL short C l k) : i < k := by
  induction k with
  | zero => cases h
  | succ k ih =>
    change i ∈ ctL short C l k ++ (l[k]?).elim [] _ at h
    rcases List.mem_append.1 h with h | h
    · have := ih h; omega
    · cases h1 : l[k]? with
      | none => rw [h1] at h; cases h
      | some s =>
        rw [h1] at h
        cases h2 : C[k]? with
        | none => rw [h2] at h; cases h
        | some c =>
          rw [h2] at h
          simp only [Option.elim] at h
          split at h
          · rw [List.mem_singleton.1 h]; omega
          · cases h
theorem soAt_eq (h1 : l[k]? = some s) (h2 : C[k]? = some c) : soAt so C l k = so c s := by unfold soAt; rw [h1, h2]; rfl
theorem soN_snoc (L : List Nat) (k : Nat) : soN so C l (L ++ [k]) = soN so C l L + (if soAt so C l k then 1 else 0) := by
  unfold soN; rw [List.countP_append]; cases h : soAt so C l k <;> simp [h]
theorem soN_le (L : List Nat) : soN so C l L ≤ L.length := List.countP_le_length
end
/-- Those who were answered, and how long they waited. -/
def waN (l : List SeV) : Nat → Nat
  | 0 => 0
  | k + 1 => waN l k + (l[k]?).elim 0 fun s => if s.how = 1 then 1 else 0
def waS (C : List CaV) (l : List SeV) : Nat → Int
  | 0 => 0
  | k + 1 => waS C l k + (l[k]?).elim 0 fun s => (C[k]?).elim 0 fun c => if s.how = 1 then s.beg - c.at_ else 0
/-! What the three answer: a fraction and an error. -/
def frV (n d e : Int) : Value := .tuple #[.agg #[.int .i64 n, .int .i64 d], .int .i64 e]
def partV (some_ all : Nat) : Value := if all = 0 then frV 0 0 8 else frV (lowV some_ all).1 (lowV some_ all).2 0
theorem chkE_num {C : List CaV} {l : List SeV} (h : chkE C l = 0) : casE C = 0 ∧ seatsE C l = 0 ∧ l.length = C.length ∧ C.length ≤ 500 := by
  unfold chkE at h
  by_cases c : casE C = 0
  · rw [if_pos c] at h
    refine ⟨c, h, ?_, ?_⟩
    · unfold seatsE at h
      split at h
      · assumption
      · cases h
    · unfold casE at c
      split at c
      · cases c
      · omega
  · rw [if_neg c] at h; exact absurd h c
end
end Go.Proofs.YtnmodobkennklaaGreatDoor
/- A room of the document as it lies in memory: its block, and four slices of the call's own. Conditions: none. -/
namespace Go.Proofs.YtnmodobkennklaaGreatDoor
section
open Go.RowKit

def bRow (b : Bool) : List Value := [.bool b]
theorem bRow_len (b : Bool) : (bRow b).length = 1 := rfl
/-- Where a room and its slices lie. -/
structure RoC where
  g : Nat
  aA : Option Addr
  ac : Nat
  cA : Option Addr
  cc : Nat
  dA : Option Addr
  dc : Nat
  sA : Option Addr
  sc : Nat
  bA : Option Addr
  bc : Nat
  nA : Option Addr
  nc : Nat
def RoAt (w : World) (lo : Nat) (R : RoC) (s : StyV) (m n : Nat) (st : RoS) : Prop :=
  (Blk w R.g 215 #[.int .i64 s.kind, .int .i64 s.age, .int .i64 s.say, .slice R.aA m R.ac, .slice R.cA n R.cc, .slice R.dA m R.dc, .slice R.sA n R.sc, .slice R.bA n R.bc, .slice R.nA n R.nc, .string st.last] ∧ lo ≤ R.g) ∧
  OwnR dkRow 2 w lo 251 R.dA m R.dc st.ds ∧ OwnR SeV.row 5 w lo 58 R.sA n R.sc st.se ∧ OwnR bRow 1 w lo 4 R.bA n R.bc st.bk ∧ OwnR bRow 1 w lo 4 R.nA n R.nc st.dn ∧
  ∀ g, blkOf R.bA = some g → blkOf R.nA ≠ some g
section
variable {w w' : World} {lo m n : Nat} {R : RoC} {s : StyV} {st : RoS}
theorem RoAt.blk (h : RoAt w lo R s m n st) : Blk w R.g 215 #[.int .i64 s.kind, .int .i64 s.age, .int .i64 s.say, .slice R.aA m R.ac, .slice R.cA n R.cc, .slice R.dA m R.dc, .slice R.sA n R.sc, .slice R.bA n R.bc, .slice R.nA n R.nc, .string st.last] := h.1.1
theorem RoAt.kept (h : RoAt w lo R s m n st) (hg : w.grownBy w' none) : RoAt w' lo R s m n st := by
  obtain ⟨⟨hblk, hlo⟩, hd, hs, hb, hn, hap⟩ := h
  exact ⟨⟨hblk.grown hg (by simp), hlo⟩, hd.kept hg (fun g e => by cases e), hs.kept hg (fun g e => by cases e), hb.kept hg (fun g e => by cases e), hn.kept hg (fun g e => by cases e), hap⟩
theorem RoAt.low (h : RoAt w lo R s m n st) {r : Option Nat} (hg : w.grownBy w' r) (hr : ∀ g, r = some g → g < lo) : RoAt w' lo R s m n st := by
  obtain ⟨⟨hblk, hlo⟩, hd, hs, hb, hn, hap⟩ := h
  exact ⟨⟨hblk.grown hg (fun e => by have := hr _ e.symm; omega), hlo⟩, hd.low hg hr, hs.low hg hr, hb.low hg hr, hn.low hg hr, hap⟩
theorem RoAt.putB (h : RoAt w lo R s m n st) (hg : w.grownBy w' (blkOf R.bA)) {bk' : List Bool} (h' : OwnR bRow 1 w' lo 4 R.bA n R.bc bk') : RoAt w' lo R s m n { st with bk := bk' } := by
  obtain ⟨⟨hblk, hlo⟩, hd, hs, hb, hn, hap⟩ := h
  exact ⟨⟨hblk.grown hg (Ne.symm (hb.1.blk_ne hblk (by decide))), hlo⟩, hd.kept hg (fun g e => Own.ne hb.1 hd.1 (by decide) e), hs.kept hg (fun g e => Own.ne hb.1 hs.1 (by decide) e), h', hn.kept hg (fun g e => hap g e), hap⟩
theorem RoAt.putN (h : RoAt w lo R s m n st) (hg : w.grownBy w' (blkOf R.nA)) {dn' : List Bool} (h' : OwnR bRow 1 w' lo 4 R.nA n R.nc dn') : RoAt w' lo R s m n { st with dn := dn' } := by
  obtain ⟨⟨hblk, hlo⟩, hd, hs, hb, hn, hap⟩ := h
  exact ⟨⟨hblk.grown hg (Ne.symm (hn.1.blk_ne hblk (by decide))), hlo⟩, hd.kept hg (fun g e => Own.ne hn.1 hd.1 (by decide) e), hs.kept hg (fun g e => Own.ne hn.1 hs.1 (by decide) e), hb.kept hg (fun g e e' => hap g e' e), h', hap⟩
theorem RoAt.putS (h : RoAt w lo R s m n st) (hg : w.grownBy w' (blkOf R.sA)) {se' : List SeV} (h' : OwnR SeV.row 5 w' lo 58 R.sA n R.sc se') : RoAt w' lo R s m n { st with se := se' } := by
  obtain ⟨⟨hblk, hlo⟩, hd, hs, hb, hn, hap⟩ := h
  exact ⟨⟨hblk.grown hg (Ne.symm (hs.1.blk_ne hblk (by decide))), hlo⟩, hd.kept hg (fun g e => Own.ne hs.1 hd.1 (by decide) e), h', hb.kept hg (fun g e => Own.ne hs.1 hb.1 (by decide) e), hn.kept hg (fun g e => Own.ne hs.1 hn.1 (by decide) e), hap⟩
theorem RoAt.putD (h : RoAt w lo R s m n st) (hg : w.grownBy w' (blkOf R.dA)) {ds' : List (Int × Int)} (h' : OwnR dkRow 2 w' lo 251 R.dA m R.dc ds') : RoAt w' lo R s m n { st with ds := ds' } := by
  obtain ⟨⟨hblk, hlo⟩, hd, hs, hb, hn, hap⟩ := h
  exact ⟨⟨hblk.grown hg (Ne.symm (hd.1.blk_ne hblk (by decide))), hlo⟩, h', hs.kept hg (fun g e => Own.ne hd.1 hs.1 (by decide) e), hb.kept hg (fun g e => Own.ne hd.1 hb.1 (by decide) e), hn.kept hg (fun g e => Own.ne hd.1 hn.1 (by decide) e), hap⟩
theorem RoAt.putL (h : RoAt w lo R s m n st) {last' : ByteArray} : RoAt (w.setCell ⟨R.g, 9, none⟩ (.string last')) lo R s m n { st with last := last' } := by
  obtain ⟨⟨hblk, hlo⟩, hd, hs, hb, hn, hap⟩ := h
  have hg : w.grownBy (w.setCell ⟨R.g, 9, none⟩ (.string last')) (some R.g) := gr_setCell (gr_refl _ _) (.inl rfl) _
  exact ⟨⟨hblk.set_ 9 _, hlo⟩, hd.kept hg (fun g e => by injection e with e; subst e; exact hd.1.blk_ne hblk (by decide)), hs.kept hg (fun g e => by injection e with e; subst e; exact hs.1.blk_ne hblk (by decide)),
    hb.kept hg (fun g e => by injection e with e; subst e; exact hb.1.blk_ne hblk (by decide)), hn.kept hg (fun g e => by injection e with e; subst e; exact hn.1.blk_ne hblk (by decide)), hap⟩
/-- What lies where a room says. -/
theorem RoAt.desk (h : RoAt w lo R s m n st) {k : Nat} (hk : k < m) : ∃ g d, R.dA = some ⟨g, 0, none⟩ ∧ st.ds[k]? = some d ∧ w.cell? ⟨g, k * 2, none⟩ = some (.int .i64 d.1) ∧ w.cell? ⟨g, k * 2 + 1, none⟩ = some (.int .i64 d.2) := by
  obtain ⟨g, hg, _, _⟩ := h.2.1.1.pos (by omega)
  have hl : k < st.ds.length := by rw [h.2.1.2]; exact hk
  have hr := h.2.1.recs
  rw [hg] at hr
  have hc := hr.at_ dkRow_len (List.getElem?_eq_getElem hl)
  refine ⟨g, _, hg, List.getElem?_eq_getElem hl, ?_, ?_⟩
  · have := hc 0 _ rfl; simpa using this
  · have := hc 1 _ rfl; simpa using this
theorem RoAt.back (h : RoAt w lo R s m n st) {k : Nat} (hk : k < n) : ∃ g b, R.bA = some ⟨g, 0, none⟩ ∧ st.bk[k]? = some b ∧ w.cell? ⟨g, k, none⟩ = some (.bool b) := by
  obtain ⟨g, hg, _, _⟩ := h.2.2.2.1.1.pos (by omega)
  have hl : k < st.bk.length := by rw [h.2.2.2.1.2]; exact hk
  have hr := h.2.2.2.1.recs
  rw [hg] at hr
  have hc := hr.at_ bRow_len (List.getElem?_eq_getElem hl)
  refine ⟨g, _, hg, List.getElem?_eq_getElem hl, ?_⟩
  have := hc 0 _ rfl
  simpa using this
theorem RoAt.done (h : RoAt w lo R s m n st) {k : Nat} (hk : k < n) : ∃ g b, R.nA = some ⟨g, 0, none⟩ ∧ st.dn[k]? = some b ∧ w.cell? ⟨g, k, none⟩ = some (.bool b) := by
  obtain ⟨g, hg, _, _⟩ := h.2.2.2.2.1.1.pos (by omega)
  have hl : k < st.dn.length := by rw [h.2.2.2.2.1.2]; exact hk
  have hr := h.2.2.2.2.1.recs
  rw [hg] at hr
  have hc := hr.at_ bRow_len (List.getElem?_eq_getElem hl)
  refine ⟨g, _, hg, List.getElem?_eq_getElem hl, ?_⟩
  have := hc 0 _ rfl
  simpa using this
theorem RoAt.setB (h : RoAt w lo R s m n st) {g i : Nat} (hg : R.bA = some ⟨g, 0, none⟩) (hi : i < n) (u : Bool) : RoAt (w.setCell ⟨g, i, none⟩ (.bool u)) lo R s m n { st with bk := st.bk.set i u } := by
  have h1 := h.2.2.2.1
  have hl : i < st.bk.length := by rw [h1.2]; exact hi
  refine h.putB (by rw [hg]; exact gr_setCell (gr_refl _ _) (.inl rfl) _) ?_
  rw [hg] at h1 ⊢
  exact h1.set1 bRow_len (List.getElem?_eq_getElem hl) (j := 0) (by decide) rfl (by omega)
theorem RoAt.setN (h : RoAt w lo R s m n st) {g i : Nat} (hg : R.nA = some ⟨g, 0, none⟩) (hi : i < n) (u : Bool) : RoAt (w.setCell ⟨g, i, none⟩ (.bool u)) lo R s m n { st with dn := st.dn.set i u } := by
  have h1 := h.2.2.2.2.1
  have hl : i < st.dn.length := by rw [h1.2]; exact hi
  refine h.putN (by rw [hg]; exact gr_setCell (gr_refl _ _) (.inl rfl) _) ?_
  rw [hg] at h1 ⊢
  exact h1.set1 bRow_len (List.getElem?_eq_getElem hl) (j := 0) (by decide) rfl (by omega)
theorem RoAt.setS (h : RoAt w lo R s m n st) {g i j p : Nat} {a a' : SeV} {u : Value} (hg : R.sA = some ⟨g, 0, none⟩) (hi : st.se[i]? = some a) (hj : j < 5) (hr : a'.row = a.row.set j u) (hp : p = i * 5 + j) : RoAt (w.setCell ⟨g, p, none⟩ u) lo R s m n { st with se := st.se.set i a' } := by
  have h1 := h.2.2.1
  refine h.putS (by rw [hg]; exact gr_setCell (gr_refl _ _) (.inl rfl) _) ?_
  rw [hg] at h1 ⊢
  exact h1.set1 SeV.row_len hi hj hr hp
theorem RoAt.storeN (h : RoAt w lo R s m n st) {g i : Nat} (hg : R.nA = some ⟨g, 0, none⟩) (hi : i < n) (u : Bool) :
    (∃ old, w.cell? ⟨g, i, none⟩ = some old) ∧ w.frozen? ⟨g, i, none⟩ = false ∧ RoAt (w.setCell ⟨g, i, none⟩ (.bool u)) lo R s m n { st with dn := st.dn.set i u } ∧ lo ≤ g := by
  have h1 := h.2.2.2.2.1
  obtain ⟨g', b, e, _, hc⟩ := h.done hi
  rw [hg] at e h1
  injection e with e
  injection e with e
  subst e
  exact ⟨⟨_, hc⟩, h1.1.frozen i, h.setN hg hi u, (h1.1.lt rfl).1⟩
theorem RoAt.storeL (h : RoAt w lo R s m n st) (last' : ByteArray) :
    (∃ old, w.cell? ⟨R.g, 9, none⟩ = some old) ∧ w.frozen? ⟨R.g, 9, none⟩ = false ∧ RoAt (w.setCell ⟨R.g, 9, none⟩ (.string last')) lo R s m n { st with last := last' } ∧ lo ≤ R.g :=
  ⟨⟨_, h.blk.cell 9⟩, h.blk.frozen 9, h.putL, h.1.2⟩
/-- One number of a seat is stored. -/
theorem RoAt.store1 (h : RoAt w lo R s m n st) {g i j p : Nat} {a a' : SeV} {u : Value} (hg : R.sA = some ⟨g, 0, none⟩) (hi : st.se[i]? = some a) (hj : j < 5) (hr : a'.row = a.row.set j u) (hp : p = i * 5 + j) :
    (∃ old, w.cell? ⟨g, p, none⟩ = some old) ∧ w.frozen? ⟨g, p, none⟩ = false ∧ RoAt (w.setCell ⟨g, p, none⟩ u) lo R s m n { st with se := st.se.set i a' } ∧ lo ≤ g := by
  have h1 := h.2.2.1
  rw [hg] at h1
  have hjl : j < a.row.length := by rw [SeV.row_len]; exact hj
  refine ⟨⟨a.row[j], ?_⟩, h1.1.frozen p, h.setS hg hi hj hr hp, (h1.1.lt rfl).1⟩
  have := h1.recs.at_ SeV.row_len hi j a.row[j] (List.getElem?_eq_getElem hjl)
  rw [hp]
  simpa using this
end
end
end Go.Proofs.YtnmodobkennklaaGreatDoor
/- Contract of slices.Equal at seats that read as the same list. Conditions: none. -/
namespace Go.Proofs.YtnmodobkennklaaGreatDoor
section
open Go.RowKit
set_option maxHeartbeats 4000000 in
theorem equalSe_same (lo lo' : Nat) (A A' : Option Addr) (n c n' c' : Nat) (l : List SeV) (w : World) (h1 : Recs SeV.row 5 w lo A n c l) (h2 : Recs SeV.row 5 w lo' A' n' c' l) (hn2 : n ≤ 1000000000000) :
    Calls Tryz.prog 30 #[.slice A n c, .slice A' n' c'] w fun e w' => e = .returned (.bool true) ∧ ∃ k, w' = w.drewN k := by
  obtain rfl : n = n' := by rw [← h1.len, ← h2.len]
  have H1 := Lib.hid h1; have H2 := Lib.hid h2; clear h1 h2
  go_enter Tryz.func30, Tryz.ntmps30
  go_wp2_with fail
  go_loopw [5, 13] (fun _ t wr => ∃ i : Nat, i ≤ n ∧ t = .int .i64 i ∧ ∃ k, wr = w.drewN k) (fun _ t _ => n - (intOf t).toNat)
  case atStart => exact ⟨0, Nat.zero_le _, rfl, 0, rfl⟩
  case round =>
    obtain ⟨i, hi, rfl, k, rfl⟩ := hrel
    by_cases hlt : i < n
    · obtain ⟨g, o, z, rfl, _, _, hz, hc⟩ := H1.out.get SeV.row_len hlt
      obtain ⟨g', o', z', rfl, _, _, hz', hc2⟩ := H2.out.get SeV.row_len hlt
      rw [hz] at hz'
      injection hz' with hz'
      subst hz'
      have c0 := hc 0 _ rfl
      have d0 := hc2 0 _ rfl
      have c1 := hc 1 _ rfl
      have d1 := hc2 1 _ rfl
      have c2 := hc 2 _ rfl
      have d2 := hc2 2 _ rfl
      have c3 := hc 3 _ rfl
      have d3 := hc2 3 _ rfl
      have c4 := hc 4 _ rfl
      have d4 := hc2 4 _ rfl
      simp only [Nat.add_zero] at c0 d0
      clear hz hc hc2
      have hi0 : (0 : Int) ≤ (i : Int) := by omega
      have hi1 : (i : Int) < (n : Int) := by omega
      go_wp2_with fail
      go_quiet (fail)
      go_wp2_with fail
      go_roundw
      case rel => exact ⟨i + 1, by omega, by go_num, _, rfl⟩
      case measure => simp [intOf]; omega
    · obtain rfl : i = n := by omega
      go_wp2_with fail
      go_ret
      exact ⟨rfl, _, rfl⟩
end
end Go.Proofs.YtnmodobkennklaaGreatDoor
/- Plain Lean: how callers end in a play: each in one of four ways. Conditions: none. -/
namespace Go.Proofs.YtnmodobkennklaaGreatDoor
section
section
variable {s : StyV} {A : List AgV} {C : List CaV} {st : RoS} {t : Int}
def HowOk (st : RoS) : Prop := ∀ z ∈ st.se, 1 ≤ z.how ∧ z.how ≤ 4
theorem HowOk.set {l : List SeV} (h : ∀ z ∈ l, 1 ≤ z.how ∧ z.how ≤ 4) (i : Nat) (x : SeV) (hx : 1 ≤ x.how ∧ x.how ≤ 4) : ∀ z ∈ l.set i x, 1 ≤ z.how ∧ z.how ≤ 4 := fun z hz => by
  rcases List.mem_or_eq_of_mem_set hz with hz | rfl
  · exact h z hz
  · exact hx
theorem HowOk.leave1 (h : HowOk st) (c : CaV) (i : Nat) (now : Bool) : HowOk (leave1 c i t now st) := by
  unfold Go.Proofs.YtnmodobkennklaaGreatDoor.leave1
  split
  · split
    · exact h
    · show ∀ z ∈ ((st.se[i]?).elim st.se fun s => st.se.set i ⟨s.ca, s.ag, 2, t, t⟩), _
      cases st.se[i]? with
      | none => exact h
      | some x => exact HowOk.set h i _ ⟨by show (1 : Int) ≤ 2; omega, by show (2 : Int) ≤ 4; omega⟩
  · exact h
theorem HowOk.leaveR (h : HowOk st) (now : Bool) (k : Nat) : HowOk (leaveR C t now k st) := by
  induction k with
  | zero => exact h
  | succ k ih =>
    show HowOk ((C[k]?).elim _ _)
    cases C[k]? with
    | none => exact ih
    | some c => exact ih.leave1 c k now
theorem HowOk.given (h : HowOk st) (i k : Nat) : HowOk (givenR A C st t i k) := by
  unfold givenR
  cases C[i]? with
  | none => exact h
  | some c =>
    cases A[k]? with
    | none => exact h
    | some a =>
      refine HowOk.set h i _ ?_
      show (1 : Int) ≤ (if bAt st.bk i then 3 else 1) ∧ (if bAt st.bk i then (3 : Int) else 1) ≤ 4
      split <;> omega
theorem HowOk.giveL (h : HowOk st) (l : List Nat) {st' : RoS} (e : giveL s A C st t l = some st') : HowOk st' := by
  induction l with
  | nil => cases e
  | cons i l ih =>
    change (C[i]?).elim (Go.Proofs.YtnmodobkennklaaGreatDoor.giveL s A C st t l) _ = some st' at e
    cases hc : C[i]? with
    | none => rw [hc] at e; exact ih e
    | some c =>
      rw [hc] at e
      change (if chosenR s A st c t < 0 then Go.Proofs.YtnmodobkennklaaGreatDoor.giveL s A C st t l else some (givenR A C st t i (chosenR s A st c t).toNat)) = some st' at e
      split at e
      · exact ih e
      · injection e with e
        rw [← e]; exact h.given i _
theorem HowOk.gives : ∀ (f : Nat) (st : RoS), HowOk st → HowOk (givesR s A C t f st) := by
  intro f
  induction f with
  | zero => intro st h; exact h
  | succ f ih =>
    intro st h
    cases e : giveR s A C st t with
    | none => rw [givesR_none e]; exact h
    | some st' => rw [givesR_some e]; exact ih st' (h.giveL _ e)
theorem HowOk.step (h : HowOk st) : HowOk (stepR s A C st t) := ((h.leaveR false C.length).gives C.length _).leaveR true C.length
theorem HowOk.play : ∀ (f : Nat) (st : RoS) (at_ : Int), HowOk st → HowOk (playR s A C f st at_) := by
  intro f
  induction f with
  | zero => intro st _ h; exact h
  | succ f ih =>
    intro st at_ h
    cases hx : (nextsR A C st.ds at_)[0]? with
    | none => rw [playR_none hx]; exact h
    | some x => rw [playR_some hx]; exact ih _ _ h.step
theorem playOf_how : HowOk (playOf s A C) := HowOk.play _ _ _ fun z hz => by
  obtain ⟨c, _, rfl⟩ := List.mem_map.1 (show z ∈ C.map fun c => (⟨c.id, ⟨#[]⟩, 4, 0, 0⟩ : SeV) from hz)
  exact ⟨by show (1 : Int) ≤ 4; omega, Int.le_refl _⟩
end
end
end Go.Proofs.YtnmodobkennklaaGreatDoor

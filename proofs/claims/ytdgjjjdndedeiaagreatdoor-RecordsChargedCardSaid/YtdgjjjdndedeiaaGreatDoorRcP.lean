/- Records as they lie in memory, and what is wrong with them; what is charged, in plain Lean. Conditions: none. -/
import Derived.Test.YtdgjjjdndedeiaaGreatDoorTarQ
namespace Go.Proofs.YtdgjjjdndedeiaaGreatDoor
open Go.RowKit

/-- A record. -/
structure RcV where
  id : ByteArray
  frm : ByteArray
  too : ByteArray
  at_ : Int
  ring : Int
  talk : Int
  how : Int
  car : ByteArray
def RcV.row (r : RcV) : List Value := [.string r.id, .string r.frm, .string r.too, .int .i64 r.at_, .int .i64 r.ring, .int .i64 r.talk, .int .i64 r.how, .string r.car]
theorem RcV.row_len (r : RcV) : r.row.length = 8 := rfl
/-- What is known of a record whatever its errors. -/
def RcOk (r : RcV) : Prop := r.id.size ≤ 1000 ∧ r.frm.size ≤ 1000 ∧ r.too.size ≤ 1000 ∧ r.car.size ≤ 1000 ∧ -1152921504606846976 ≤ r.at_ ∧ r.at_ ≤ 1152921504606846976
def Rcs (w : World) (lo : Nat) (A : Option Addr) (n c : Nat) (l : List RcV) : Prop := Recs RcV.row 8 w lo A n c l ∧ ∀ r ∈ l, RcOk r
theorem Rcs.grown {w w' : World} {lo : Nat} {A : Option Addr} {n c : Nat} {l : List RcV} (h : Rcs w lo A n c l) {r : Option Nat} (hg : w.grownBy w' r) (hr : ∀ g, r = some g → g < lo) : Rcs w' lo A n c l := ⟨h.1.grown hg hr, h.2⟩
/-- The order of records. -/
def rcCmp (a b : RcV) : Int := if a.at_ = b.at_ then cmpS a.id b.id else if a.at_ < b.at_ then -1 else 1
def rcNum (r : RcV) : Bool := momB r.at_ && inB r.ring 0 86400000 && inB r.talk 0 86400000
def rcCar (r : RcV) : Bool := decide (nb r.car = []) || keyOk (nb r.car)
def rcAt (l : List RcV) (i : Nat) : Int := (l[i]?).elim 0 fun r =>
  if keyOk (nb r.id) then (if phOk (nb r.frm) && phOk (nb r.too) then (if rcNum r then (if inB r.how 1 4 then (if (r.how == 1) == decide (0 < r.talk) then (if rcCar r then
    (if decide (0 < i) && (l[i - 1]?).elim false (fun b => decide (0 ≤ rcCmp b r)) then 7 else 0) else 5) else 3) else 4) else 1) else 3) else 5
/-- Has one of the first k records an Id that an earlier one has? -/
def dupB (l : List RcV) : Nat → Bool
  | 0 => false
  | k + 1 => dupB l k || (l[k]?).elim false (fun r => memS ((l.take k).map (·.id)) r.id)
def rcsE (l : List RcV) : Int := if 3000 < l.length then 2 else if fstE (rcAt l) l.length = 0 then (if dupB l l.length then 6 else 0) else fstE (rcAt l) l.length
section
variable {l : List RcV} {i : Nat} {z b : RcV}
theorem rcAt_5 (h : l[i]? = some z) (h1 : keyOk (nb z.id) = false) : rcAt l i = 5 := by simp only [rcAt, h, Option.elim, h1]; rfl
theorem rcAt_3 (h : l[i]? = some z) (h1 : keyOk (nb z.id) = true) (h2 : (phOk (nb z.frm) && phOk (nb z.too)) = false) : rcAt l i = 3 := by simp only [rcAt, h, Option.elim, h1, h2]; rfl
theorem rcAt_1 (h : l[i]? = some z) (h1 : keyOk (nb z.id) = true) (h2 : (phOk (nb z.frm) && phOk (nb z.too)) = true) (h3 : rcNum z = false) : rcAt l i = 1 := by simp only [rcAt, h, Option.elim, h1, h2, h3]; rfl
theorem rcAt_4 (h : l[i]? = some z) (h1 : keyOk (nb z.id) = true) (h2 : (phOk (nb z.frm) && phOk (nb z.too)) = true) (h3 : rcNum z = true) (h4 : inB z.how 1 4 = false) : rcAt l i = 4 := by simp only [rcAt, h, Option.elim, h1, h2, h3, h4]; rfl
theorem rcAt_3b (h : l[i]? = some z) (h1 : keyOk (nb z.id) = true) (h2 : (phOk (nb z.frm) && phOk (nb z.too)) = true) (h3 : rcNum z = true) (h4 : inB z.how 1 4 = true) (h5 : ((z.how == 1) == decide (0 < z.talk)) = false) : rcAt l i = 3 := by
  simp only [rcAt, h, Option.elim, h1, h2, h3, h4, h5]; rfl
theorem rcAt_5b (h : l[i]? = some z) (h1 : keyOk (nb z.id) = true) (h2 : (phOk (nb z.frm) && phOk (nb z.too)) = true) (h3 : rcNum z = true) (h4 : inB z.how 1 4 = true) (h5 : ((z.how == 1) == decide (0 < z.talk)) = true) (h6 : rcCar z = false) : rcAt l i = 5 := by
  simp only [rcAt, h, Option.elim, h1, h2, h3, h4, h5, h6]; rfl
theorem rcAt_7 (h : l[i]? = some z) (h1 : keyOk (nb z.id) = true) (h2 : (phOk (nb z.frm) && phOk (nb z.too)) = true) (h3 : rcNum z = true) (h4 : inB z.how 1 4 = true) (h5 : ((z.how == 1) == decide (0 < z.talk)) = true) (h6 : rcCar z = true) (hi : 0 < i) (hb : l[i - 1]? = some b) (h7 : 0 ≤ rcCmp b z) : rcAt l i = 7 := by
  simp only [rcAt, h, Option.elim, h1, h2, h3, h4, h5, h6, hb, decide_eq_true hi, decide_eq_true h7]; rfl
theorem rcAt_e (h : l[i]? = some z) (h1 : keyOk (nb z.id) = true) (h2 : (phOk (nb z.frm) && phOk (nb z.too)) = true) (h3 : rcNum z = true) (h4 : inB z.how 1 4 = true) (h5 : ((z.how == 1) == decide (0 < z.talk)) = true) (h6 : rcCar z = true) (hb : l[i - 1]? = some b) (h7 : ¬ 0 ≤ rcCmp b z) : rcAt l i = 0 := by
  simp only [rcAt, h, Option.elim, h1, h2, h3, h4, h5, h6, hb, decide_eq_false h7, Bool.and_false]; rfl
theorem rcAt_z (h : l[i]? = some z) (h1 : keyOk (nb z.id) = true) (h2 : (phOk (nb z.frm) && phOk (nb z.too)) = true) (h3 : rcNum z = true) (h4 : inB z.how 1 4 = true) (h5 : ((z.how == 1) == decide (0 < z.talk)) = true) (h6 : rcCar z = true) (hi : ¬ 0 < i) : rcAt l i = 0 := by
  simp only [rcAt, h, Option.elim, h1, h2, h3, h4, h5, h6, decide_eq_false hi, Bool.false_and]; rfl
end
/-- How many of the first k records have an Id of their own. -/
def ownC (l : List RcV) : Nat → Nat
  | 0 => 0
  | k + 1 => if (l[k]?).elim false (fun r => memS ((l.take k).map (·.id)) r.id) then ownC l k else ownC l k + 1
theorem ownC_le (l : List RcV) (k : Nat) : ownC l k ≤ k := by
  induction k with
  | zero => exact Nat.le_refl _
  | succ k ih => unfold ownC; split <;> omega
theorem ownC_dup (l : List RcV) (k : Nat) : decide (ownC l k < k) = dupB l k := by
  induction k with
  | zero => rfl
  | succ k ih =>
    unfold ownC dupB
    rw [← ih]
    have := ownC_le l k
    cases (l[k]?).elim false (fun r => memS ((l.take k).map (·.id)) r.id)
    · rw [if_neg (by decide), Bool.or_false, Bool.eq_iff_iff, decide_eq_true_eq, decide_eq_true_eq]; omega
    · rw [if_pos rfl, Bool.or_true, decide_eq_true_eq]; omega

/-! What is charged. -/
/-- A charge. -/
structure ChV where
  rec_ : ByteArray
  pay : ByteArray
  cls : ByteArray
  free : Int
  cost : Int
def ChV.row (c : ChV) : List Value := [.string c.rec_, .string c.pay, .string c.cls, .int .i64 c.free, .int .i64 c.cost]
theorem ChV.row_len (c : ChV) : c.row.length = 5 := rfl
/-- Who pays for a record, and its class; none: nobody, or it was not talked in this month. -/
def paysFor (t : TfV) (p : List PyV) (month : Int) (r : RcV) : Option (ByteArray × ClV) :=
  if r.talk = 0 ∨ r.at_ / 2592000000 ≠ month then none else (payerOf p (nb r.frm)).bind fun y => (clsOf t.cl (nb r.too)).map fun c => (y.key, c)
def freeOf (t : TfV) (used : ByteArray → Int) (who : ByteArray) (c : ClV) (r : RcV) : Int := if t.ins.any (fun x => nb x == nb c.name) then min (t.free - used who) r.talk else 0
def chgOf (t : TfV) (used : ByteArray → Int) (who : ByteArray) (c : ClV) (r : RcV) : ChV := ⟨r.id, who, c.name, freeOf t used who c r, priceOf c (r.talk - freeOf t used who c r)⟩
def addU (used : ByteArray → Int) (who : ByteArray) (n : Int) (k : ByteArray) : Int := if nb who = nb k then used who + n else used k
/-- The charges of the first k records, and what was free till then. -/
def chgTo (t : TfV) (p : List PyV) (month : Int) (l : List RcV) : Nat → List (ChV × RcV) × (ByteArray → Int)
  | 0 => ([], fun _ => 0)
  | k + 1 => match l[k]? with
    | none => chgTo t p month l k
    | some r => match paysFor t p month r with
      | none => chgTo t p month l k
      | some (who, c) => ((chgTo t p month l k).1 ++ [(chgOf t (chgTo t p month l k).2 who c r, r)], addU (chgTo t p month l k).2 who (freeOf t (chgTo t p month l k).2 who c r))
section
variable {t : TfV} {p : List PyV} {month : Int} {l : List RcV} {k : Nat} {r : RcV}
theorem chgTo_skip (h : l[k]? = some r) (hp : paysFor t p month r = none) : chgTo t p month l (k + 1) = chgTo t p month l k := by
  rw [chgTo, h]; simp only [hp]
theorem chgTo_add {who : ByteArray} {c : ClV} (h : l[k]? = some r) (hp : paysFor t p month r = some (who, c)) :
    chgTo t p month l (k + 1) = ((chgTo t p month l k).1 ++ [(chgOf t (chgTo t p month l k).2 who c r, r)], addU (chgTo t p month l k).2 who (freeOf t (chgTo t p month l k).2 who c r)) := by
  rw [chgTo, h]; simp only [hp]
theorem chgTo_mem : ∀ (k : Nat) (x : ChV × RcV), x ∈ (chgTo t p month l k).1 → x.2 ∈ l ∧ x.1.rec_ = x.2.id
  | 0, x, h => by cases h
  | k + 1, x, h => by
    cases hl : l[k]? with
    | none => rw [chgTo, hl] at h; exact chgTo_mem k x h
    | some r =>
      cases hp : paysFor t p month r with
      | none => rw [chgTo_skip hl hp] at h; exact chgTo_mem k x h
      | some q =>
        obtain ⟨who, c⟩ := q
        rw [chgTo_add hl hp] at h
        rcases List.mem_append.1 h with h | h
        · exact chgTo_mem k x h
        · rw [List.mem_singleton.1 h]; exact ⟨mem_of_get hl, rfl⟩
theorem paysFor_some {who : ByteArray} {c : ClV} (h : paysFor t p month r = some (who, c)) : r.talk ≠ 0 ∧ r.at_ / 2592000000 = month ∧ (∃ y, payerOf p (nb r.frm) = some y ∧ y.key = who) ∧ clsOf t.cl (nb r.too) = some c := by
  unfold paysFor at h
  split at h
  · cases h
  · rename_i hn
    cases h1 : payerOf p (nb r.frm) with
    | none => rw [h1] at h; cases h
    | some y =>
      rw [h1] at h
      cases h2 : clsOf t.cl (nb r.too) with
      | none => rw [h2] at h; cases h
      | some c' =>
        rw [h2] at h
        simp only [Option.bind_some, Option.map_some, Option.some.injEq, Prod.mk.injEq] at h
        obtain ⟨rfl, rfl⟩ := h
        exact ⟨fun e => hn (.inl e), by
          rcases Decidable.em (r.at_ / 2592000000 = month) with e | e
          · exact e
          · exact absurd (.inr e) hn, ⟨y, rfl, rfl⟩, rfl⟩
/-- What was free stays within what is free. -/
theorem used_bd (ht : 0 ≤ t.free) (hr : ∀ r ∈ l, 0 ≤ r.talk) : ∀ (k : Nat) (w : ByteArray), 0 ≤ (chgTo t p month l k).2 w ∧ (chgTo t p month l k).2 w ≤ t.free
  | 0, w => ⟨Int.le_refl _, ht⟩
  | k + 1, w => by
    cases hl : l[k]? with
    | none => rw [chgTo, hl]; exact used_bd ht hr k w
    | some r =>
      cases hp : paysFor t p month r with
      | none => rw [chgTo_skip hl hp]; exact used_bd ht hr k w
      | some q =>
        obtain ⟨who, c⟩ := q
        rw [chgTo_add hl hp]
        show 0 ≤ addU _ _ _ w ∧ addU _ _ _ w ≤ t.free
        have h1 := used_bd ht hr k who
        have h2 := used_bd ht hr k w
        have h3 := hr r (mem_of_get hl)
        unfold addU freeOf
        split
        · split <;> omega
        · exact h2
theorem free_bd (ht : 0 ≤ t.free) (hr : ∀ r ∈ l, 0 ≤ r.talk) (k : Nat) (hl : l[k]? = some r) (who : ByteArray) (c : ClV) : 0 ≤ freeOf t (chgTo t p month l k).2 who c r ∧ freeOf t (chgTo t p month l k).2 who c r ≤ r.talk := by
  have h1 := used_bd (p := p) (month := month) ht hr k who
  have h3 := hr r (mem_of_get hl)
  unfold freeOf
  split <;> omega
end
end Go.Proofs.YtdgjjjdndedeiaaGreatDoor

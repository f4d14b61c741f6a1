/- Tariffs and payers as they lie in memory, what is wrong with them, and what a call costs, in plain Lean. Conditions: none. -/
import Derived.Test.YtdgjjjdndedeiaaGreatDoorFst
import Derived.Test.YtdgjjjdndedeiaaGreatDoorSetS
import Derived.Test.YtdgjjjdndedeiaaGreatDoorIdx
namespace Go.Proofs.YtdgjjjdndedeiaaGreatDoor
open Go.RowKit

def digSigns : List Nat := [48, 49, 50, 51, 52, 53, 54, 55, 56, 57]
/-- Has a string digits alone? -/
def digB (l : List Nat) : Bool := l.all (fun b => decide (b ∈ digSigns))
/-- What stands behind a plus; none: there is no plus. -/
def plusOf : List Nat → Option (List Nat)
  | 43 :: l => some l
  | _ => none
def pfOk (l : List Nat) : Bool := decide (l = []) || (plusOf l).elim false (fun d => decide (d.length ≤ 15) && digB d)
def phOk (l : List Nat) : Bool := (plusOf l).elim false (fun d => decide (4 ≤ d.length) && decide (d.length ≤ 15) && digB d && decide (d.getD 0 0 ≠ 48))

/-- A class. -/
structure ClV where
  pre : ByteArray
  name : ByteArray
  setup : Int
  first : Int
  step : Int
  rate : Int
def ClV.row (c : ClV) : List Value := [.string c.pre, .string c.name, .int .i64 c.setup, .int .i64 c.first, .int .i64 c.step, .int .i64 c.rate]
theorem ClV.row_len (c : ClV) : c.row.length = 6 := rfl
def ClOk (c : ClV) : Prop := c.pre.size ≤ 1000 ∧ c.name.size ≤ 1000
def srow (s : ByteArray) : List Value := [.string s]
theorem srow_len (s : ByteArray) : (srow s).length = 1 := rfl
/-- A tariff, as it lies in memory. -/
structure TfV where
  cA : Option Addr
  cn : Nat
  cc : Nat
  free : Int
  iA : Option Addr
  en : Nat
  ic : Nat
  cl : List ClV
  ins : List ByteArray
def TfV.row (t : TfV) : List Value := [.slice t.cA t.cn t.cc, .int .i64 t.free, .slice t.iA t.en t.ic]
def TfOk (w : World) (lo : Nat) (t : TfV) : Prop := ((∀ c ∈ t.cl, ClOk c) ∧ (∀ s ∈ t.ins, s.size ≤ 1000) ∧ t.cn ≤ 1000 ∧ t.en ≤ 1000) ∧ Recs ClV.row 6 w lo t.cA t.cn t.cc t.cl ∧ Recs srow 1 w lo t.iA t.en t.ic t.ins
theorem TfOk.grown {w w' : World} {lo : Nat} {t : TfV} (h : TfOk w lo t) {r : Option Nat} (hg : w.grownBy w' r) (hr : ∀ g, r = some g → g < lo) : TfOk w' lo t := ⟨h.1, h.2.1.grown hg hr, h.2.2.grown hg hr⟩
/-- A payer, as it lies in memory. -/
structure PyV where
  key : ByteArray
  nA : Option Addr
  nn : Nat
  nc : Nat
  nums : List ByteArray
def PyV.row (p : PyV) : List Value := [.string p.key, .slice p.nA p.nn p.nc]
theorem PyV.row_len (p : PyV) : p.row.length = 2 := rfl
def PyOk (w : World) (lo : Nat) (p : PyV) : Prop := (p.key.size ≤ 1000 ∧ (∀ s ∈ p.nums, s.size ≤ 1000) ∧ p.nn ≤ 1000) ∧ Recs srow 1 w lo p.nA p.nn p.nc p.nums
def Pys (w : World) (lo : Nat) (A : Option Addr) (n c : Nat) (l : List PyV) : Prop := Recs PyV.row 2 w lo A n c l ∧ ∀ p ∈ l, PyOk w lo p
theorem PyOk.grown {w w' : World} {lo : Nat} {p : PyV} (h : PyOk w lo p) {r : Option Nat} (hg : w.grownBy w' r) (hr : ∀ g, r = some g → g < lo) : PyOk w' lo p := ⟨h.1, h.2.grown hg hr⟩
theorem Pys.grown {w w' : World} {lo : Nat} {A : Option Addr} {n c : Nat} {l : List PyV} (h : Pys w lo A n c l) {r : Option Nat} (hg : w.grownBy w' r) (hr : ∀ g, r = some g → g < lo) : Pys w' lo A n c l :=
  ⟨h.1.grown hg hr, fun p hp => (h.2 p hp).grown hg hr⟩

/-! What is wrong with a tariff. -/
def clNum (c : ClV) : Bool := inB c.setup 0 1000000 && inB c.rate 0 1000000 && inB c.first 0 86400000 && inB c.step 1 86400000
def clAt (l : List ClV) (i : Nat) : Int := (l[i]?).elim 0 fun c =>
  if pfOk (nb c.pre) then (if keyOk (nb c.name) then (if clNum c then (if decide (0 < i) && (l[i - 1]?).elim false (fun b => leS c.pre b.pre) then 7 else 0) else 1) else 5) else 3
def keyAt (l : List ByteArray) (i : Nat) : Int := (l[i]?).elim 0 fun s =>
  if keyOk (nb s) then (if decide (0 < i) && (l[i - 1]?).elim false (fun b => leS s b) then 7 else 0) else 5
def tarE (t : TfV) : Int :=
  if 200 < t.cn then 2 else if fstE (clAt t.cl) t.cn = 0 then (if inB t.free 0 2592000000 then (if 200 < t.en then 2 else fstE (keyAt t.ins) t.en) else 1) else fstE (clAt t.cl) t.cn
section
variable {l : List ClV} {i : Nat} {z b : ClV}
theorem clAt_3 (h : l[i]? = some z) (h1 : pfOk (nb z.pre) = false) : clAt l i = 3 := by simp only [clAt, h, Option.elim, h1]; rfl
theorem clAt_5 (h : l[i]? = some z) (h1 : pfOk (nb z.pre) = true) (h2 : keyOk (nb z.name) = false) : clAt l i = 5 := by simp only [clAt, h, Option.elim, h1, h2]; rfl
theorem clAt_1 (h : l[i]? = some z) (h1 : pfOk (nb z.pre) = true) (h2 : keyOk (nb z.name) = true) (h3 : clNum z = false) : clAt l i = 1 := by simp only [clAt, h, Option.elim, h1, h2, h3]; rfl
theorem clAt_7 (h : l[i]? = some z) (h1 : pfOk (nb z.pre) = true) (h2 : keyOk (nb z.name) = true) (h3 : clNum z = true) (hi : 0 < i) (hb : l[i - 1]? = some b) (h4 : leS z.pre b.pre = true) : clAt l i = 7 := by
  simp only [clAt, h, Option.elim, h1, h2, h3, hb, decide_eq_true hi, h4]; rfl
theorem clAt_e (h : l[i]? = some z) (h1 : pfOk (nb z.pre) = true) (h2 : keyOk (nb z.name) = true) (h3 : clNum z = true) (hb : l[i - 1]? = some b) (h4 : leS z.pre b.pre = false) : clAt l i = 0 := by
  simp only [clAt, h, Option.elim, h1, h2, h3, hb, h4, Bool.and_false]; rfl
theorem clAt_z (h : l[i]? = some z) (h1 : pfOk (nb z.pre) = true) (h2 : keyOk (nb z.name) = true) (h3 : clNum z = true) (hi : ¬ 0 < i) : clAt l i = 0 := by
  simp only [clAt, h, Option.elim, h1, h2, h3, decide_eq_false hi, Bool.false_and]; rfl
end
section
variable {l : List ByteArray} {i : Nat} {z b : ByteArray}
theorem keyAt_5 (h : l[i]? = some z) (h2 : keyOk (nb z) = false) : keyAt l i = 5 := by simp only [keyAt, h, Option.elim, h2]; rfl
theorem keyAt_7 (h : l[i]? = some z) (h2 : keyOk (nb z) = true) (hi : 0 < i) (hb : l[i - 1]? = some b) (h4 : leS z b = true) : keyAt l i = 7 := by
  simp only [keyAt, h, Option.elim, h2, hb, decide_eq_true hi, h4]; rfl
theorem keyAt_e (h : l[i]? = some z) (h2 : keyOk (nb z) = true) (hb : l[i - 1]? = some b) (h4 : leS z b = false) : keyAt l i = 0 := by
  simp only [keyAt, h, Option.elim, h2, hb, h4, Bool.and_false]; rfl
theorem keyAt_z (h : l[i]? = some z) (h2 : keyOk (nb z) = true) (hi : ¬ 0 < i) : keyAt l i = 0 := by
  simp only [keyAt, h, Option.elim, h2, decide_eq_false hi, Bool.false_and]; rfl
end

/-! What is wrong with payers. -/
def numAt (had ns : List ByteArray) (j : Nat) : Int := (ns[j]?).elim 0 fun s => if phOk (nb s) then (if memS (had ++ ns.take j) s then 6 else 0) else 3
def hadN (l : List PyV) (i : Nat) : List ByteArray := (l.take i).flatMap (·.nums)
def payAt (l : List PyV) (i : Nat) : Int := (l[i]?).elim 0 fun p =>
  if keyOk (nb p.key) then (if decide (0 < i) && (l[i - 1]?).elim false (fun b => leS p.key b.key) then 7 else (if 500 < p.nn then 2 else fstE (numAt (hadN l i) p.nums) p.nn)) else 5
def pysE (l : List PyV) : Int := if 500 < l.length then 2 else fstE (payAt l) l.length
theorem hadN_succ {l : List PyV} {i : Nat} {p : PyV} (h : l[i]? = some p) : hadN l (i + 1) = hadN l i ++ p.nums := by
  unfold hadN; rw [take_snoc' h, List.flatMap_append]; simp
section
variable {had ns : List ByteArray} {j : Nat} {s : ByteArray}
theorem numAt_3 (h : ns[j]? = some s) (h1 : phOk (nb s) = false) : numAt had ns j = 3 := by simp only [numAt, h, Option.elim, h1]; rfl
theorem numAt_6 (h : ns[j]? = some s) (h1 : phOk (nb s) = true) (h2 : memS (had ++ ns.take j) s = true) : numAt had ns j = 6 := by simp only [numAt, h, Option.elim, h1, h2]; rfl
theorem numAt_z (h : ns[j]? = some s) (h1 : phOk (nb s) = true) (h2 : memS (had ++ ns.take j) s = false) : numAt had ns j = 0 := by simp only [numAt, h, Option.elim, h1, h2]; rfl
end
section
variable {l : List PyV} {i : Nat} {z b : PyV}
theorem payAt_5 (h : l[i]? = some z) (h1 : keyOk (nb z.key) = false) : payAt l i = 5 := by simp only [payAt, h, Option.elim, h1]; rfl
theorem payAt_7 (h : l[i]? = some z) (h1 : keyOk (nb z.key) = true) (hi : 0 < i) (hb : l[i - 1]? = some b) (h3 : leS z.key b.key = true) : payAt l i = 7 := by simp only [payAt, h, Option.elim, h1, hb, h3, decide_eq_true hi]; rfl
/-- The key ahead of a place; none: the empty string. -/
def lastP (l : List PyV) (k : Nat) : ByteArray := if k = 0 then ⟨#[]⟩ else (l[k - 1]?).elim ⟨#[]⟩ (·.key)
theorem lastP_succ {l : List PyV} {k : Nat} {z : PyV} (h : l[k]? = some z) : lastP l (k + 1) = z.key := by unfold lastP; rw [if_neg (by omega), Nat.add_sub_cancel, h]; rfl
theorem keyP_pos {s : ByteArray} (h : keyOk (nb s) = true) : s.toList ≠ [] := by
  intro e
  have : nb s = [] := by unfold nb; rw [← ByteArray.toList_eq, e]; rfl
  rw [this] at h
  exact absurd h (by decide)
theorem leS_nil {s : ByteArray} (h : s.toList ≠ []) : leS s ⟨#[]⟩ = false := by
  unfold leS
  have e : (⟨#[]⟩ : ByteArray).toList = [] := by rw [ByteArray.toList_eq]
  rw [e]
  cases hs : s.toList with
  | nil => exact absurd hs h
  | cons a l => rfl
theorem payAt_last (h : l[i]? = some z) (h1 : keyOk (nb z.key) = true) : payAt l i = if leS z.key (lastP l i) then 7 else (if 500 < z.nn then 2 else fstE (numAt (hadN l i) z.nums) z.nn) := by
  simp only [payAt, h, Option.elim, h1, if_true]
  by_cases hi : 0 < i
  · have hl := (List.getElem?_eq_some_iff.1 h).1
    obtain ⟨b, hb⟩ : ∃ b, l[i - 1]? = some b := ⟨_, List.getElem?_eq_getElem (by omega)⟩
    have e : lastP l i = b.key := by unfold lastP; rw [if_neg (by omega), hb]; rfl
    simp only [hb, e, decide_eq_true hi, Bool.true_and]
  · have e : lastP l i = ⟨#[]⟩ := by unfold lastP; rw [if_pos (by omega)]
    rw [decide_eq_false hi, e, leS_nil (keyP_pos h1)]
    simp
theorem payAt_le (h : l[i]? = some z) (h1 : keyOk (nb z.key) = true) (h3 : leS z.key (lastP l i) = false) : payAt l i = if 500 < z.nn then 2 else fstE (numAt (hadN l i) z.nums) z.nn := by
  rw [payAt_last h h1, h3]; rfl
theorem payAt_l7 (h : l[i]? = some z) (h1 : keyOk (nb z.key) = true) (h3 : leS z.key (lastP l i) = true) : payAt l i = 7 := by
  rw [payAt_last h h1, h3]; rfl
end

/-! Classes, prices, payers. -/
def clsAt (l : List ClV) (s : List Nat) : Option ClV := l.find? (fun c => nb c.pre == s)
/-- The class of the longest prefix of at most k bytes. -/
def clsTo (l : List ClV) (s : List Nat) : Nat → Option ClV
  | 0 => clsAt l []
  | k + 1 => (clsAt l (s.take (k + 1))).or (clsTo l s k)
def clsOf (l : List ClV) (s : List Nat) : Option ClV := clsTo l s s.length
def priceOf (c : ClV) (talk : Int) : Int := if talk = 0 then 0 else c.setup + c.rate * ((max 0 (talk - c.first) + c.step - 1) / c.step)
def payerOf (l : List PyV) (s : List Nat) : Option PyV := l.find? (fun p => p.nums.any (fun x => nb x == s))
theorem clsTo_hit {l : List ClV} {s : List Nat} {k : Nat} {c : ClV} (h : clsAt l (s.take k) = some c) : clsTo l s k = some c := by
  cases k with
  | zero => rw [List.take_zero] at h; exact h
  | succ k => unfold clsTo; rw [h]; rfl
theorem clsTo_miss {l : List ClV} {s : List Nat} {k : Nat} (h : clsAt l (s.take (k + 1)) = none) : clsTo l s (k + 1) = clsTo l s k := by
  show (clsAt l (s.take (k + 1))).or (clsTo l s k) = _
  rw [h]; rfl
end Go.Proofs.YtdgjjjdndedeiaaGreatDoor

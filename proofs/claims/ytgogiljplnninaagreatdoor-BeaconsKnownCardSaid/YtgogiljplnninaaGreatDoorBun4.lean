/- Tariffs and payers as they lie in memory, what is wrong with them, and what a call costs, in plain Lean. Conditions: none. -/
import Derived.Test.YtgogiljplnninaaGreatDoorBun1
import Derived.Test.YtgogiljplnninaaGreatDoorFst
import Derived.Test.YtgogiljplnninaaGreatDoorShelfTrim
import Derived.Test.YtgogiljplnninaaGreatDoorBun2
import Derived.WalkKit
import Derived.Deep.QuietTactic
import Derived.BigQuiet
namespace Go.Proofs.YtgogiljplnninaaGreatDoor
section
open Go.RowKit

def digSigns : List Nat := [48, 49, 50, 51, 52, 53, 54, 55, 56, 57]
/-- Has a string digits alone? -/
def digB (l : List Nat) : Bool := l.all (fun b => decide (b ∈ digSigns))
/-- What stands behind a plus; none: there is no plus. -/
def plusOf : List Nat → Option (List Nat)
  | 43 :: l => some l
  | _ => none
def pfOk (l : List Nat) : Bool := decide (l = []) || (plusOf l).elim false (fun d => decide (d.length ≤ 15) && digB d)
def phOk (l : List Nat) : Bool := (plusOf l).elim false (fun d => decide (4 ≤ d.length) && decide (d.length ≤ 15) && digB d && decide (d.getD 0 0 ≠ 48))

/-- A class. -/
structure ClV where
  pre : ByteArray
  name : ByteArray
  setup : Int
  first : Int
  step : Int
  rate : Int
def ClV.row (c : ClV) : List Value := [.string c.pre, .string c.name, .int .i64 c.setup, .int .i64 c.first, .int .i64 c.step, .int .i64 c.rate]
theorem ClV.row_len (c : ClV) : c.row.length = 6 := rfl
def ClOk (c : ClV) : Prop := c.pre.size ≤ 1000 ∧ c.name.size ≤ 1000
/-- A tariff, as it lies in memory. -/
structure TfV where
  cA : Option Addr
  cn : Nat
  cc : Nat
  free : Int
  iA : Option Addr
  en : Nat
  ic : Nat
  cl : List ClV
  ins : List ByteArray
def TfV.row (t : TfV) : List Value := [.slice t.cA t.cn t.cc, .int .i64 t.free, .slice t.iA t.en t.ic]
def TfOk (w : World) (lo : Nat) (t : TfV) : Prop := ((∀ c ∈ t.cl, ClOk c) ∧ (∀ s ∈ t.ins, s.size ≤ 1000) ∧ t.cn ≤ 1000 ∧ t.en ≤ 1000) ∧ Recs ClV.row 6 w lo t.cA t.cn t.cc t.cl ∧ Recs srow 1 w lo t.iA t.en t.ic t.ins
theorem TfOk.grown {w w' : World} {lo : Nat} {t : TfV} (h : TfOk w lo t) {r : Option Nat} (hg : w.grownBy w' r) (hr : ∀ g, r = some g → g < lo) : TfOk w' lo t := ⟨h.1, h.2.1.grown hg hr, h.2.2.grown hg hr⟩
/-- A payer, as it lies in memory. -/
structure PyV where
  key : ByteArray
  nA : Option Addr
  nn : Nat
  nc : Nat
  nums : List ByteArray
def PyV.row (p : PyV) : List Value := [.string p.key, .slice p.nA p.nn p.nc]
theorem PyV.row_len (p : PyV) : p.row.length = 2 := rfl
def PyOk (w : World) (lo : Nat) (p : PyV) : Prop := (p.key.size ≤ 1000 ∧ (∀ s ∈ p.nums, s.size ≤ 1000) ∧ p.nn ≤ 1000) ∧ Recs srow 1 w lo p.nA p.nn p.nc p.nums
def Pys (w : World) (lo : Nat) (A : Option Addr) (n c : Nat) (l : List PyV) : Prop := Recs PyV.row 2 w lo A n c l ∧ ∀ p ∈ l, PyOk w lo p
theorem PyOk.grown {w w' : World} {lo : Nat} {p : PyV} (h : PyOk w lo p) {r : Option Nat} (hg : w.grownBy w' r) (hr : ∀ g, r = some g → g < lo) : PyOk w' lo p := ⟨h.1, h.2.grown hg hr⟩
theorem Pys.grown {w w' : World} {lo : Nat} {A : Option Addr} {n c : Nat} {l : List PyV} (h : Pys w lo A n c l) {r : Option Nat} (hg : w.grownBy w' r) (hr : ∀ g, r = some g → g < lo) : Pys w' lo A n c l :=
  ⟨h.1.grown hg hr, fun p hp => (h.2 p hp).grown hg hr⟩

/-! What is wrong with a tariff. -/
def clNum (c : ClV) : Bool := inB c.setup 0 1000000 && inB c.rate 0 1000000 && inB c.first 0 86400000 && inB c.step 1 86400000
def clAt (l : List ClV) (i : Nat) : Int := (l[i]?).elim 0 fun c =>
  if pfOk (nb c.pre) then (if keyOk (nb c.name) then (if clNum c then (if decide (0 < i) && (l[i - 1]?).elim false (fun b => leS c.pre b.pre) then 7 else 0) else 1) else 5) else 3
def keyAt (l : List ByteArray) (i : Nat) : Int := (l[i]?).elim 0 fun s =>
  if keyOk (nb s) then (if decide (0 < i) && (l[i - 1]?).elim false (fun b => leS s b) then 7 else 0) else 5
def tarE (t : TfV) : Int :=
  if 200 < t.cn then 2 else if fstE (clAt t.cl) t.cn = 0 then (if inB t.free 0 2592000000 then (if 200 < t.en then 2 else fstE (keyAt t.ins) t.en) else 1) else fstE (clAt t.cl) t.cn
section
variable {l : List ClV} {i : Nat} {z b : ClV}
theorem clAt_3 (h : l[i]? = some z) (h1 : pfOk (nb z.pre) = false) : clAt l i = 3 := by simp only [clAt, h, Option.elim, h1]; rfl
theorem clAt_5 (h : l[i]? = some z) (h1 : pfOk (nb z.pre) = true) (h2 : keyOk (nb z.name) = false) : clAt l i = 5 := by simp only [clAt, h, Option.elim, h1, h2]; rfl
theorem clAt_1 (h : l[i]? = some z) (h1 : pfOk (nb z.pre) = true) (h2 : keyOk (nb z.name) = true) (h3 : clNum z = false) : clAt l i = 1 := by simp only [clAt, h, Option.elim, h1, h2, h3]; rfl
theorem clAt_7 (h : l[i]? = some z) (h1 : pfOk (nb z.pre) = true) (h2 : keyOk (nb z.name) = true) (h3 : clNum z = true) (hi : 0 < i) (hb : l[i - 1]? = some b) (h4 : leS z.pre b.pre = true) : clAt l i = 7 := by
  simp only [clAt, h, Option.elim, h1, h2, h3, hb, decide_eq_true hi, h4]; rfl
theorem clAt_e (h : l[i]? = some z) (h1 : pfOk (nb z.pre) = true) (h2 : keyOk (nb z.name) = true) (h3 : clNum z = true) (hb : l[i - 1]? = some b) (h4 : leS z.pre b.pre = false) : clAt l i = 0 := by
  simp only [clAt, h, Option.elim, h1, h2, h3, hb, h4, Bool.and_false]; rfl
theorem clAt_z (h : l[i]? = some z) (h1 : pfOk (nb z.pre) = true) (h2 : keyOk (nb z.name) = true) (h3 : clNum z = true) (hi : ¬ 0 < i) : clAt l i = 0 := by
  simp only [clAt, h, Option.elim, h1, h2, h3, decide_eq_false hi, Bool.false_and]; rfl
end
section
variable {l : List ByteArray} {i : Nat} {z b : ByteArray}
theorem keyAt_5 (h : l[i]? = some z) (h2 : keyOk (nb z) = false) : keyAt l i = 5 := by simp only [keyAt, h, Option.elim, h2]; rfl
theorem keyAt_7 (h : l[i]? = some z) (h2 : keyOk (nb z) = true) (hi : 0 < i) (hb : l[i - 1]? = some b) (h4 : leS z b = true) : keyAt l i = 7 := by
  simp only [keyAt, h, Option.elim, h2, hb, decide_eq_true hi, h4]; rfl
theorem keyAt_e (h : l[i]? = some z) (h2 : keyOk (nb z) = true) (hb : l[i - 1]? = some b) (h4 : leS z b = false) : keyAt l i = 0 := by
  simp only [keyAt, h, Option.elim, h2, hb, h4, Bool.and_false]; rfl
theorem keyAt_z (h : l[i]? = some z) (h2 : keyOk (nb z) = true) (hi : ¬ 0 < i) : keyAt l i = 0 := by
  simp only [keyAt, h, Option.elim, h2, decide_eq_false hi, Bool.false_and]; rfl
end

/-! What is wrong with payers. -/
def numAt (had ns : List ByteArray) (j : Nat) : Int := (ns[j]?).elim 0 fun s => if phOk (nb s) then (if memS (had ++ ns.take j) s then 6 else 0) else 3
def hadN (l : List PyV) (i : Nat) : List ByteArray := (l.take i).flatMap (·.nums)
def payAt (l : List PyV) (i : Nat) : Int := (l[i]?).elim 0 fun p =>
  if keyOk (nb p.key) then (if decide (0 < i) && (l[i - 1]?).elim false (fun b => leS p.key b.key) then 7 else (if 500 < p.nn then 2 else fstE (numAt (hadN l i) p.nums) p.nn)) else 5
def pysE (l : List PyV) : Int := if 500 < l.length then 2 else fstE (payAt l) l.length
theorem hadN_succ {l : List PyV} {i : Nat} {p : PyV} (h : l[i]? = some p) : hadN l (i + 1) = hadN l i ++ p.nums := by
  unfold hadN; rw [take_snoc' h, List.flatMap_append]; simp
section
variable {had ns : List ByteArray} {j : Nat} {s : ByteArray}
theorem numAt_3 (h : ns[j]? = some s) (h1 : phOk (nb s) = false) : numAt had ns j = 3 := by simp only [numAt, h, Option.elim, h1]; rfl
theorem numAt_6 (h : ns[j]? = some s) (h1 : phOk (nb s) = true) (h2 : memS (had ++ ns.take j) s = true) : numAt had ns j = 6 := by simp only [numAt, h, Option.elim, h1, h2]; rfl
theorem numAt_z (h : ns[j]? = some s) (h1 : phOk (nb s) = true) (h2 : memS (had ++ ns.take j) s = false) : numAt had ns j = 0 := by simp only [numAt, h, Option.elim, h1, h2]; rfl
end
section
variable {l : List PyV} {i : Nat} {z b : PyV}
theorem payAt_5 (h : l[i]? = some z) (h1 : keyOk (nb z.key) = false) : payAt l i = 5 := by simp only [payAt, h, Option.elim, h1]; rfl
theorem payAt_7 (h : l[i]? = some z) (h1 : keyOk (nb z.key) = true) (hi : 0 < i) (hb : l[i - 1]? = some b) (h3 : leS z.key b.key = true) : payAt l i = 7 := by simp only [payAt, h, Option.elim, h1, hb, h3, decide_eq_true hi]; rfl
/-- The key ahead of a place; none: the empty string. -/
def lastP (l : List PyV) (k : Nat) : ByteArray := if k = 0 then ⟨#[]⟩ else (l[k - 1]?).elim ⟨#[]⟩ (·.key)
theorem lastP_succ {l : List PyV} {k : Nat} {z : PyV} (h : l[k]? = some z) : lastP l (k + 1) = z.key := by unfold lastP; rw [if_neg (by omega), Nat.add_sub_cancel, h]; rfl
theorem keyP_pos {s : ByteArray} (h : keyOk (nb s) = true) : s.toList ≠ [] := by
  intro e
  have : nb s = [] := by unfold nb; rw [← ByteArray.toList_eq, e]; rfl
  rw [this] at h
  exact absurd h (by decide)
theorem leS_nil {s : ByteArray} (h : s.toList ≠ []) : leS s ⟨#[]⟩ = false := by
  unfold leS
  have e : (⟨#[]⟩ : ByteArray).toList = [] := by rw [ByteArray.toList_eq]
  rw [e]
  cases hs : s.toList with
  | nil => exact absurd hs h
  | cons a l => rfl
theorem payAt_last (h : l[i]? = some z) (h1 : keyOk (nb z.key) = true) : payAt l i = if leS z.key (lastP l i) then 7 else (if 500 < z.nn then 2 else fstE (numAt (hadN l i) z.nums) z.nn) := by
  simp only [payAt, h, Option.elim, h1, if_true]
  by_cases hi : 0 < i
  · have hl := (List.getElem?_eq_some_iff.1 h).1
    obtain ⟨b, hb⟩ : ∃ b, l[i - 1]? = some b := ⟨_, List.getElem?_eq_getElem (by omega)⟩
    have e : lastP l i = b.key := by unfold lastP; rw [if_neg (by omega), hb]; rfl
    simp only [hb, e, decide_eq_true hi, Bool.true_and]
  · have e : lastP l i = ⟨#[]⟩ := by unfold lastP; rw [if_pos (by omega)]
    rw [decide_eq_false hi, e, leS_nil (keyP_pos h1)]
    simp
theorem payAt_le (h : l[i]? = some z) (h1 : keyOk (nb z.key) = true) (h3 : leS z.key (lastP l i) = false) : payAt l i = if 500 < z.nn then 2 else fstE (numAt (hadN l i) z.nums) z.nn := by
  rw [payAt_last h h1, h3]; rfl
theorem payAt_l7 (h : l[i]? = some z) (h1 : keyOk (nb z.key) = true) (h3 : leS z.key (lastP l i) = true) : payAt l i = 7 := by
  rw [payAt_last h h1, h3]; rfl
end

/-! Classes, prices, payers. -/
def clsAt (l : List ClV) (s : List Nat) : Option ClV := l.find? (fun c => nb c.pre == s)
/-- The class of the longest prefix of at most k bytes. -/
def clsTo (l : List ClV) (s : List Nat) : Nat → Option ClV
  | 0 => clsAt l []
  | k + 1 => (clsAt l (s.take (k + 1))).or (clsTo l s k)
def clsOf (l : List ClV) (s : List Nat) : Option ClV := clsTo l s s.length
def priceOf (c : ClV) (talk : Int) : Int := if talk = 0 then 0 else c.setup + c.rate * ((max 0 (talk - c.first) + c.step - 1) / c.step)
def payerOf (l : List PyV) (s : List Nat) : Option PyV := l.find? (fun p => p.nums.any (fun x => nb x == s))
theorem clsTo_hit {l : List ClV} {s : List Nat} {k : Nat} {c : ClV} (h : clsAt l (s.take k) = some c) : clsTo l s k = some c := by
  cases k with
  | zero => rw [List.take_zero] at h; exact h
  | succ k => unfold clsTo; rw [h]; rfl
theorem clsTo_miss {l : List ClV} {s : List Nat} {k : Nat} (h : clsAt l (s.take (k + 1)) = none) : clsTo l s (k + 1) = clsTo l s k := by
  show (clsAt l (s.take (k + 1))).or (clsTo l s k) = _
  rw [h]; rfl
end
end Go.Proofs.YtgogiljplnninaaGreatDoor
/- Tariffs and payers: plain laws: right classes stand in their order, prices agree, right payers have each number once. Conditions: none. -/
namespace Go.Proofs.YtgogiljplnninaaGreatDoor
section

theorem fstE_all {f : Nat → Int} {n : Nat} (h : fstE f n = 0) : ∀ i, i < n → f i = 0 := by
  induction n with
  | zero => intro i hi; omega
  | succ n ih =>
    intro i hi
    unfold fstE at h
    by_cases h0 : fstE f n = 0
    · rw [if_pos h0] at h
      rcases Nat.lt_succ_iff_lt_or_eq.1 hi with h1 | h1
      · exact ih h0 i h1
      · subst h1; exact h
    · rw [if_neg h0] at h; exact absurd h h0

/-! Classes in their order. -/
def Srt (l : List ClV) : Prop := ∀ (i j : Nat) (a b : ClV), i < j → l[i]? = some a → l[j]? = some b → cmpS a.pre b.pre < 0
theorem srt_of {l : List ClV} (h : ∀ (i : Nat) (a b : ClV), l[i]? = some a → l[i + 1]? = some b → cmpS a.pre b.pre < 0) : Srt l := by
  intro i j a b hij ha hb
  induction j generalizing b with
  | zero => omega
  | succ j ih =>
    by_cases e : i = j
    · subst e; exact h i a b ha hb
    · have hj : j + 1 < l.length := (List.getElem?_eq_some_iff.1 hb).1
      have hc : l[j]? = some l[j] := List.getElem?_eq_getElem (by omega)
      exact cmpS_trans (ih l[j] (by omega) hc) (h j _ b hc hb)
theorem clAt_right {l : List ClV} {i : Nat} {c : ClV} (h : l[i]? = some c) (h0 : clAt l i = 0) : pfOk (nb c.pre) = true ∧ keyOk (nb c.name) = true ∧ clNum c = true ∧ ∀ b, 0 < i → l[i - 1]? = some b → leS c.pre b.pre = false := by
  cases h1 : pfOk (nb c.pre)
  · rw [clAt_3 h h1] at h0; exact absurd h0 (by decide)
  · cases h2 : keyOk (nb c.name)
    · rw [clAt_5 h h1 h2] at h0; exact absurd h0 (by decide)
    · cases h3 : clNum c
      · rw [clAt_1 h h1 h2 h3] at h0; exact absurd h0 (by decide)
      · refine ⟨rfl, rfl, rfl, fun b hi hb => ?_⟩
        cases h4 : leS c.pre b.pre
        · rfl
        · rw [clAt_7 h h1 h2 h3 hi hb h4] at h0; exact absurd h0 (by decide)
theorem tar_right {t : TfV} (hc : t.cl.length = t.cn) (h : tarE t = 0) : Srt t.cl ∧ ∀ c ∈ t.cl, clNum c = true := by
  unfold tarE at h
  by_cases h1 : 200 < t.cn
  · rw [if_pos h1] at h; exact absurd h (by decide)
  · rw [if_neg h1] at h
    by_cases h2 : fstE (clAt t.cl) t.cn = 0
    · have hall := fstE_all h2
      refine ⟨srt_of fun i a b ha hb => ?_, fun c hc2 => ?_⟩
      · have hl := (List.getElem?_eq_some_iff.1 hb).1
        obtain ⟨_, _, _, q⟩ := clAt_right hb (hall (i + 1) (by omega))
        have := q a (by omega) (by rw [Nat.add_sub_cancel]; exact ha)
        unfold leS at this
        rw [leS_cmp, decide_eq_false_iff_not] at this
        have e := cmpS_neg a.pre b.pre
        omega
      · obtain ⟨i, hi⟩ := List.mem_iff_getElem?.1 hc2
        have hl := (List.getElem?_eq_some_iff.1 hi).1
        exact (clAt_right hi (hall i (by omega))).2.2.1
    · rw [if_neg h2] at h; exact absurd h h2
theorem clNum_bd {c : ClV} (h : clNum c = true) : (0 ≤ c.setup ∧ c.setup ≤ 1000000) ∧ (0 ≤ c.rate ∧ c.rate ≤ 1000000) ∧ (0 ≤ c.first ∧ c.first ≤ 86400000) ∧ 1 ≤ c.step ∧ c.step ≤ 86400000 := by
  unfold clNum inB at h
  simp only [Bool.and_eq_true, decide_eq_true_eq] at h
  omega
/-- What a search finds in classes that stand in their order. -/
def Found (l : List ClV) (s : ByteArray) (i : Nat) (f : Bool) : Prop := i ≤ l.length ∧ ((f = true ∧ ∃ c, l[i]? = some c ∧ clsAt l (nb s) = some c) ∨ (f = false ∧ clsAt l (nb s) = none))
theorem found_of {l : List ClV} (hs : Srt l) {s : ByteArray} {i : Nat} (h1 : ∀ (j : Nat) (c : ClV), j < i → l[j]? = some c → cmpS c.pre s < 0) (h2 : ∀ (j : Nat) (c : ClV), i ≤ j → l[j]? = some c → ¬ cmpS c.pre s < 0) (hi : i ≤ l.length) :
    Found l s i ((l[i]?).elim false (fun c => cmpS c.pre s == 0)) := by
  refine ⟨hi, ?_⟩
  have low : ∀ (j : Nat) (c : ClV), j < i → l[j]? = some c → ¬ nb c.pre = nb s := fun j c hj hc e => by
    have := h1 j c hj hc
    rw [cmpS_zero.2 e] at this
    exact absurd this (by decide)
  cases hc : l[i]? with
  | none =>
    right
    refine ⟨rfl, ?_⟩
    unfold clsAt
    rw [List.find?_eq_none]
    intro c hm
    obtain ⟨j, hj⟩ := List.mem_iff_getElem?.1 hm
    have hjl := (List.getElem?_eq_some_iff.1 hj).1
    have hil : l.length ≤ i := List.getElem?_eq_none_iff.1 hc
    have := low j c (by omega) hj
    simpa using this
  | some c =>
    show ((cmpS c.pre s == 0) = true ∧ _) ∨ ((cmpS c.pre s == 0) = false ∧ _)
    by_cases e : cmpS c.pre s = 0
    · left
      refine ⟨by simpa using e, c, rfl, ?_⟩
      unfold clsAt
      rw [List.find?_eq_some_iff_getElem]
      obtain ⟨hl, hg⟩ := List.getElem?_eq_some_iff.1 hc
      refine ⟨by simpa using cmpS_zero.1 e, i, hl, hg, fun j hj => ?_⟩
      have := low j l[j] hj (List.getElem?_eq_getElem (by omega))
      simpa using this
    · right
      refine ⟨by simpa using e, ?_⟩
      unfold clsAt
      rw [List.find?_eq_none]
      intro c' hm
      obtain ⟨j, hj⟩ := List.mem_iff_getElem?.1 hm
      have hne : ¬ nb c'.pre = nb s := by
        rcases Nat.lt_trichotomy j i with h | h | h
        · exact low j c' h hj
        · subst h
          rw [hc] at hj
          injection hj with hj
          subst hj
          exact fun e2 => e (cmpS_zero.2 e2)
        · intro e2
          have h3 := hs i j c c' h hc hj
          rw [cmpS_eqr e2] at h3
          exact h2 i c (Nat.le_refl _) hc h3
      simpa using hne

/-! Prices. -/
def stepsOf (c : ClV) (talk : Int) : Int := if 0 < talk - c.first then (if 0 < (talk - c.first) % c.step then (talk - c.first) / c.step + 1 else (talk - c.first) / c.step) else 0
theorem steps_eq {c : ClV} (h : 1 ≤ c.step) (talk : Int) : stepsOf c talk = (max 0 (talk - c.first) + c.step - 1) / c.step := by
  unfold stepsOf
  by_cases h0 : 0 < talk - c.first
  · rw [if_pos h0]
    generalize talk - c.first = v at *
    rw [show max 0 v = v by omega]
    have hd := Int.mul_ediv_add_emod v c.step
    have hm1 := Int.emod_nonneg v (show c.step ≠ 0 by omega)
    have hm2 := Int.emod_lt_of_pos v (show 0 < c.step by omega)
    generalize v / c.step = q at *
    generalize v % c.step = r at *
    by_cases hr : 0 < r
    · rw [if_pos hr]
      symm
      rw [show v + c.step - 1 = (r - 1) + c.step * (q + 1) by rw [Int.mul_add]; omega, Int.add_mul_ediv_left _ _ (by omega), Int.ediv_eq_zero_of_lt (by omega) (by omega)]
      omega
    · rw [if_neg hr]
      symm
      rw [show v + c.step - 1 = (c.step - 1) + c.step * q by omega, Int.add_mul_ediv_left _ _ (by omega), Int.ediv_eq_zero_of_lt (by omega) (by omega)]
      omega
  · rw [if_neg h0, show max 0 (talk - c.first) = 0 by omega]
    symm
    exact Int.ediv_eq_zero_of_lt (by omega) (by omega)
theorem steps_bd {c : ClV} (h : clNum c = true) {talk : Int} (h1 : 0 ≤ talk) (h2 : talk ≤ 86400000) : 0 ≤ stepsOf c talk ∧ stepsOf c talk ≤ 86400000 := by
  obtain ⟨_, _, b3, b4, b5⟩ := clNum_bd h
  rw [steps_eq b4]
  constructor
  · exact Int.ediv_nonneg (by omega) (by omega)
  · have := Int.ediv_lt_of_lt_mul (a := max 0 (talk - c.first) + c.step - 1) (b := 86400001) (c := c.step) (by omega) (by omega)
    omega
theorem price_bd {c : ClV} (h : clNum c = true) {talk : Int} (h1 : 0 ≤ talk) (h2 : talk ≤ 86400000) : 0 ≤ c.rate * stepsOf c talk ∧ c.rate * stepsOf c talk ≤ 86400000000000 := by
  obtain ⟨_, b2, _⟩ := clNum_bd h
  obtain ⟨s1, s2⟩ := steps_bd h h1 h2
  refine ⟨Int.mul_nonneg b2.1 s1, ?_⟩
  have := Int.mul_le_mul b2.2 s2 s1 (by omega)
  omega

/-! Payers. -/
def pairsOf (l : List PyV) : List (ByteArray × ByteArray) := l.flatMap fun p => p.nums.map fun n => (n, p.key)
def lastOf (ps : List (ByteArray × ByteArray)) (k : ByteArray) : Option ByteArray := (ps.reverse.find? fun p => nb p.1 == nb k).map (·.2)
theorem lastOf_nil (k : ByteArray) : lastOf [] k = none := rfl
theorem lastOf_snoc (ps : List (ByteArray × ByteArray)) (n v k : ByteArray) : lastOf (ps ++ [(n, v)]) k = if nb n = nb k then some v else lastOf ps k := by
  unfold lastOf
  rw [List.reverse_append]
  show (List.find? _ ((n, v) :: ps.reverse)).map _ = _
  rw [List.find?_cons]
  by_cases e : nb n = nb k
  · rw [if_pos e]
    have : (nb (n, v).1 == nb k) = true := by simpa using e
    rw [this]; rfl
  · rw [if_neg e]
    have : (nb (n, v).1 == nb k) = false := by simpa using e
    rw [this]
def Dist (l : List ByteArray) : Prop := l.Pairwise fun a b => nb a ≠ nb b
theorem find_one (p : ByteArray × ByteArray) (ps : List (ByteArray × ByteArray)) (k : ByteArray) : (p :: ps).find? (fun p => nb p.1 == nb k) = if nb p.1 = nb k then some p else ps.find? (fun p => nb p.1 == nb k) := by
  rw [List.find?_cons]
  by_cases e : nb p.1 = nb k
  · rw [if_pos e, beq_iff_eq.2 e]
  · rw [if_neg e, beq_eq_false_iff_ne.2 e]
theorem find_rev {ps : List (ByteArray × ByteArray)} (h : Dist (ps.map (·.1))) (k : ByteArray) : ps.reverse.find? (fun p => nb p.1 == nb k) = ps.find? (fun p => nb p.1 == nb k) := by
  induction ps with
  | nil => rfl
  | cons p ps ih =>
    unfold Dist at h
    rw [List.map_cons, List.pairwise_cons] at h
    rw [List.reverse_cons, List.find?_append, ih h.2, find_one, find_one]
    by_cases e : nb p.1 = nb k
    · have e2 : ps.find? (fun p => nb p.1 == nb k) = none := by
        rw [List.find?_eq_none]
        intro q hq
        have := h.1 q.1 (List.mem_map.2 ⟨q, hq, rfl⟩)
        rw [e] at this
        simpa using fun h2 : nb q.1 = nb k => this h2.symm
      rw [e2, if_pos e, if_pos e]
      rfl
    · rw [if_neg e, if_neg e]
      exact Option.or_none
theorem memS_false {L : List ByteArray} {s : ByteArray} (h : memS L s = false) : ∀ x ∈ L, nb x ≠ nb s := by
  intro x hx
  unfold memS at h
  rw [List.any_eq_false] at h
  simpa using h x hx
theorem nums_dist {had : List ByteArray} (hd : Dist had) {ns : List ByteArray} (h : ∀ j, j < ns.length → numAt had ns j = 0) : Dist (had ++ ns) := by
  have step : ∀ k, k ≤ ns.length → Dist (had ++ ns.take k) := by
    intro k
    induction k with
    | zero => intro _; rw [List.take_zero, List.append_nil]; exact hd
    | succ k ih =>
      intro hk
      have hs : ns[k]? = some ns[k] := List.getElem?_eq_getElem (by omega)
      have h0 := h k (by omega)
      cases h1 : phOk (nb ns[k])
      · rw [numAt_3 hs h1] at h0; exact absurd h0 (by decide)
      · cases h2 : memS (had ++ ns.take k) ns[k]
        · rw [take_snoc' hs, ← List.append_assoc]
          unfold Dist
          rw [List.pairwise_append]
          refine ⟨ih (by omega), List.pairwise_singleton _ _, fun a ha b hb => ?_⟩
          rw [List.mem_singleton.1 hb]
          exact memS_false h2 a ha
        · rw [numAt_6 hs h1 h2] at h0; exact absurd h0 (by decide)
  have := step ns.length (Nat.le_refl _)
  rwa [List.take_of_length_le (Nat.le_refl _)] at this
theorem pays_dist {l : List PyV} (hn : ∀ p ∈ l, p.nums.length = p.nn) (h : pysE l = 0) : Dist (l.flatMap (·.nums)) := by
  unfold pysE at h
  by_cases h1 : 500 < l.length
  · rw [if_pos h1] at h; exact absurd h (by decide)
  · rw [if_neg h1] at h
    have hall := fstE_all h
    have step : ∀ k, k ≤ l.length → Dist (hadN l k) := by
      intro k
      induction k with
      | zero => intro _; exact List.Pairwise.nil
      | succ k ih =>
        intro hk
        have hs : l[k]? = some l[k] := List.getElem?_eq_getElem (by omega)
        rw [hadN_succ hs]
        refine nums_dist (ih (by omega)) ?_
        rw [hn _ (List.getElem_mem _)]
        have h0 := hall k (by omega)
        cases h2 : keyOk (nb l[k].key)
        · rw [payAt_5 hs h2] at h0; exact absurd h0 (by decide)
        · rw [payAt_last hs h2] at h0
          split at h0
          · exact absurd h0 (by decide)
          · split at h0
            · exact absurd h0 (by decide)
            · exact fstE_all h0
    have := step l.length (Nat.le_refl _)
    unfold hadN at this
    rwa [List.take_of_length_le (Nat.le_refl _)] at this
theorem pairs_keys (l : List PyV) : (pairsOf l).map (·.1) = l.flatMap (·.nums) := by
  unfold pairsOf
  rw [List.map_flatMap]
  congr 1
  funext p
  rw [List.map_map]
  exact List.map_id _
theorem pairs_find (l : List PyV) (k : ByteArray) : ((pairsOf l).find? (fun p => nb p.1 == nb k)).map (·.2) = (payerOf l (nb k)).map (·.key) := by
  induction l with
  | nil => rfl
  | cons p l ih =>
    have e0 : pairsOf (p :: l) = (p.nums.map fun n => (n, p.key)) ++ pairsOf l := by unfold pairsOf; rw [List.flatMap_cons]
    rw [e0, List.find?_append]
    unfold payerOf at ih ⊢
    rw [List.find?_cons, List.find?_map]
    show (((p.nums.find? (fun n => nb n == nb k)).map fun n => (n, p.key)).or _).map _ = _
    cases h : p.nums.find? (fun n => nb n == nb k) with
    | none =>
      have : p.nums.any (fun x => nb x == nb k) = false := by
        rw [List.any_eq_false]
        intro x hx
        exact List.find?_eq_none.1 h x hx
      rw [this]
      exact ih
    | some n =>
      have : p.nums.any (fun x => nb x == nb k) = true := by
        rw [List.any_eq_true]
        exact ⟨n, List.mem_of_find?_eq_some h, by have := List.find?_some h; exact this⟩
      rw [this]
      rfl
/-- Right payers: who was put last under a number is the first one who has it. -/
theorem payer_last {l : List PyV} (hn : ∀ p ∈ l, p.nums.length = p.nn) (h : pysE l = 0) (k : ByteArray) : lastOf (pairsOf l) k = (payerOf l (nb k)).map (·.key) := by
  unfold lastOf
  rw [find_rev (by rw [pairs_keys]; exact pays_dist hn h), pairs_find]
end
end Go.Proofs.YtgogiljplnninaaGreatDoor
/- Contracts of cmp.Compare and cmp.Or at int. Conditions: none. -/
namespace Go.Proofs.YtgogiljplnninaaGreatDoor
section
open Go.RowKit

def cmpZ (a b : Int) : Int := if a < b then -1 else if b < a then 1 else 0
theorem cmpZ_any (a b : Int) (w : World) : Calls Tryz.prog 121 #[.int .i64 a, .int .i64 b] w (Same (.int .i64 (cmpZ a b)) w) := by
  refine (Tryz.cmp_Compare_int a b w).mono ?_
  rintro e w' ⟨rfl, rfl⟩
  exact ⟨rfl, rfl⟩
/-- The first of two numbers that is not 0. -/
def orZ (a b : Int) : Int := if a = 0 then b else a
set_option maxHeartbeats 2000000 in
theorem orZ_any (a b : Int) (g : Nat) (w : World) (hb : Blk w g 3 #[.int .i64 a, .int .i64 b]) : Calls Tryz.prog 120 #[.slice (some ⟨g, 0, none⟩) 2 2] w (Same (.int .i64 (orZ a b)) w) := by
  have c0 : w.cell? ⟨g, 0, none⟩ = some (.int .i64 a) := hb.cell 0
  have c1 : w.cell? ⟨g, 1, none⟩ = some (.int .i64 b) := hb.cell 1
  clear hb
  go_enter Tryz.func120, Tryz.ntmps120
  go_wp2_with fail
  go_loop [5, 8] (fun _ t => ∃ i : Nat, i ≤ 2 ∧ t = .int .i64 i ∧ (1 ≤ i → a = 0) ∧ (2 ≤ i → b = 0)) (fun _ t => 2 - (intOf t).toNat)
  case atStart => exact ⟨0, by omega, rfl, by omega, by omega⟩
  case round =>
    obtain ⟨i, hi, rfl, h1, h2⟩ := hrel
    have H1 := Lib.hid h1; have H2 := Lib.hid h2
    clear h1 h2
    rcases (by omega : i = 0 ∨ i = 1 ∨ i = 2) with rfl | rfl | rfl
    · by_cases hz : a = 0
      · have q : (a != 0) = false := by simp [hz]
        have HA := Lib.hid hz; clear hz
        go_wp2_with fail
        go_round
        case rel => exact ⟨1, by omega, rfl, fun _ => HA.out, fun h => by omega⟩
        case measure => simp [intOf]
      · have q : (a != 0) = true := by simpa using hz
        have HA := Lib.hid (show orZ a b = a by unfold orZ; rw [if_neg hz]); clear hz
        go_wp2_with fail
        go_ret
        exact ⟨by rw [HA.out]; rfl, rfl⟩
    · have ha := H1.out (by omega)
      have HA := Lib.hid (show orZ a b = b by unfold orZ; rw [if_pos ha])
      have HA0 := Lib.hid ha; clear ha
      by_cases hz : b = 0
      · have q : (b != 0) = false := by simp [hz]
        have HBZ := Lib.hid hz; clear hz
        go_wp2_with fail
        go_round
        case rel => exact ⟨2, by omega, rfl, fun _ => HA0.out, fun _ => HBZ.out⟩
        case measure => simp [intOf]
      · have q : (b != 0) = true := by simpa using hz
        go_wp2_with fail
        go_ret
        exact ⟨by rw [HA.out]; rfl, rfl⟩
    · have HA := Lib.hid (show orZ a b = 0 by unfold orZ; rw [if_pos (H1.out (by omega)), H2.out (by omega)])
      go_wp2_with fail
      go_ret
      exact ⟨by rw [HA.out]; rfl, rfl⟩
end
end Go.Proofs.YtgogiljplnninaaGreatDoor
/- Slices of records that a call makes. Conditions: none. -/
namespace Go.Proofs.YtgogiljplnninaaGreatDoor
section
open Go.RowKit

theorem flat_set1' {α : Type} {row : α → List Value} {k : Nat} (hrow : ∀ a, (row a).length = k) {l : List α} {i : Nat} {a a' : α} (hi : l[i]? = some a) {j : Nat} (hj : j < k) {u : Value} (hr : row a' = (row a).set j u) : (l.flatMap row).set (i * k + j) u = (l.set i a').flatMap row := by
  have h := flat_set (row := row) (k := k) hrow (by omega) hi (a' := a') (ys := [u]) j (by simp; omega) (by
    rw [hr, List.set_eq_take_append_cons_drop, if_pos (by rw [hrow]; exact hj)]; simp)
  have hil := (List.getElem?_eq_some_iff.1 hi).1
  have hle : (i + 1) * k ≤ l.length * k := Nat.mul_le_mul_right k hil
  rw [Nat.succ_mul] at hle
  rw [← h, List.set_eq_take_append_cons_drop, if_pos (by rw [flat_len hrow]; omega)]
  simp

theorem reads_at (w : World) (t : TypeId) (cs : List Value) (size : Nat) (h : cs.length = size) {g : Nat} (hg : w.heap.size = g) : Reads (w.alloc (.cells cs.toArray t)) g size (some ⟨g, 0, none⟩) 1 1 cs := by
  subst hg; exact Reads.one w t cs size h
/-- A slice of records of the call's own. -/
def OwnR {α : Type} (row : α → List Value) (k : Nat) (w : World) (lo : Nat) (e : TypeId) (A : Option Addr) (n c : Nat) (l : List α) : Prop := Own w lo e k A n c (l.flatMap row) ∧ l.length = n
section
variable {α : Type} {row : α → List Value} {k : Nat} {w w' : World} {lo lo' n c : Nat} {e : TypeId} {A : Option Addr} {l : List α}
theorem OwnR.recs (h : OwnR row k w lo e A n c l) : Recs row k w lo A n c l := ⟨h.1.reads, h.2⟩
theorem OwnR.nil (w : World) (lo : Nat) (e : TypeId) : OwnR row k w lo e none 0 0 [] := ⟨Own.nil _ _ _ _, rfl⟩
theorem OwnR.kept (h : OwnR row k w lo e A n c l) {r : Option Nat} (hg : w.grownBy w' r) (hne : ∀ g, r = some g → blkOf A ≠ some g) : OwnR row k w' lo e A n c l := ⟨h.1.kept hg hne, h.2⟩
theorem OwnR.low (h : OwnR row k w lo e A n c l) {r : Option Nat} (hg : w.grownBy w' r) (hr : ∀ g, r = some g → g < lo) : OwnR row k w' lo e A n c l :=
  h.kept hg (fun g e e' => by have := hr g e; have := (h.1.lt e').1; omega)
theorem OwnR.lower (h : OwnR row k w lo e A n c l) (hl : lo' ≤ lo) : OwnR row k w lo' e A n c l := ⟨h.1.lower hl, h.2⟩
theorem OwnR.alloc (h : OwnR row k w lo e A n c l) (o : Obj) : OwnR row k (w.alloc o) lo e A n c l := ⟨h.1.alloc o, h.2⟩
theorem OwnR.app {a : α} (h : OwnR row k w lo e A n c l) {A1 : Option Addr} {c1 n1 : Nat} (hn : n1 = n + 1) (h1 : Appended w lo e k A A1 n1 c1 (l.flatMap row ++ row a) w') : OwnR row k w' lo e A1 n1 c1 (l ++ [a]) := by
  subst hn
  refine ⟨?_, by simp [h.2]⟩
  rw [List.flatMap_append]
  simpa using h1.1
theorem OwnR.set1 {g i j p : Nat} {a a' : α} {u : Value} (hrow : ∀ a, (row a).length = k) (h : OwnR row k w lo e (some ⟨g, 0, none⟩) n c l) (hi : l[i]? = some a) (hj : j < k) (hr : row a' = (row a).set j u) (hp : p = i * k + j) : OwnR row k (w.setCell ⟨g, p, none⟩ u) lo e (some ⟨g, 0, none⟩) n c (l.set i a') := by
  subst hp
  refine ⟨?_, by simp [h.2]⟩
  rw [← flat_set1' hrow hi hj hr]
  exact h.1.stored _ u
end
end
end Go.Proofs.YtgogiljplnninaaGreatDoor
/- Slices of ints: cells, appends; slices.Equal at two that read as the same list. Conditions: none. -/
namespace Go.Proofs.YtgogiljplnninaaGreatDoor
section
open Go.RowKit
/-- A cell that holds a number. -/
def nrow (n : Int) : List Value := [.int .i64 n]
theorem nrow_len (n : Int) : (nrow n).length = 1 := rfl
theorem nrow_map (l : List Int) : l.flatMap nrow = l.map (Value.int .i64) := by
  induction l with
  | nil => rfl
  | cons a l ih => rw [List.flatMap_cons, ih]; rfl
theorem Tryz.inT : ElemT Tryz.prog 22 3 1 8 (.int .i64 0) := elemT_of Tryz.underlying22 (by kernel_rfl) rfl (by decide)
/-- A slice of numbers of the call's own, and an error. -/
def InErr (l : List Int) (E : Int) (w : World) (e : Ending) (w' : World) : Prop := ∃ A n c, e = .returned (.tuple #[.slice A n c, .int .i64 E]) ∧ OwnR nrow 1 w' w.heap.size 3 A n c l ∧ w.grownBy w' none
end
end Go.Proofs.YtgogiljplnninaaGreatDoor
/- Contract of cmp.Or at some ints. Conditions: none. -/
namespace Go.Proofs.YtgogiljplnninaaGreatDoor
section
open Go.RowKit

/-- The first of some numbers that is not 0. -/
def orL : List Int → Int
  | [] => 0
  | a :: l => if a = 0 then orL l else a
theorem orL_at {l : List Int} {i : Nat} {a : Int} (h : l[i]? = some a) : orL (l.drop i) = if a = 0 then orL (l.drop (i + 1)) else a := by
  obtain ⟨h1, rfl⟩ := List.getElem?_eq_some_iff.1 h
  rw [List.drop_eq_getElem_cons h1]; rfl
set_option maxHeartbeats 2000000 in
theorem orL_any (l : List Int) (g n : Nat) (w : World) (hb : Blk w g 3 (l.map (Value.int .i64)).toArray) (hn : l.length = n) (hn2 : n ≤ 1000) : Calls Tryz.prog 120 #[.slice (some ⟨g, 0, none⟩) n n] w (Same (.int .i64 (orL l)) w) := by
  have HB := Lib.hid hb; have HN := Lib.hid hn; clear hb hn
  go_enter Tryz.func120, Tryz.ntmps120
  go_wp2_with fail
  go_loop [5, 8] (fun _ t => ∃ i : Nat, i ≤ n ∧ t = .int .i64 i ∧ orL l = orL (l.drop i)) (fun _ t => n - (intOf t).toNat)
  case atStart => exact ⟨0, Nat.zero_le _, rfl, rfl⟩
  case round =>
    obtain ⟨i, hi, rfl, he⟩ := hrel
    have HE := Lib.hid he; clear he
    by_cases hlt : i < n
    · obtain ⟨a, ha⟩ : ∃ a, l[i]? = some a := ⟨_, List.getElem?_eq_getElem (by rw [HN.out]; exact hlt)⟩
      have kc : w.cell? ⟨g, i, none⟩ = some (.int .i64 a) := by rw [HB.out.cell i]; simp [ha]
      have HA := Lib.hid (orL_at ha); clear ha
      by_cases hz : a = 0
      · have q : (a != 0) = false := by simp [hz]
        have HS := Lib.hid (show orL l = orL (l.drop (i + 1)) by rw [HE.out, HA.out, if_pos hz])
        clear hz
        go_wp2_with fail
        go_round
        case rel => exact ⟨i + 1, by omega, by go_num, HS.out⟩
        case measure => simp [intOf]; omega
      · have q : (a != 0) = true := by simpa using hz
        have HS := Lib.hid (show orL l = a by rw [HE.out, HA.out, if_neg hz])
        clear hz
        go_wp2_with fail
        go_ret
        exact ⟨by rw [HS.out]; rfl, rfl⟩
    · obtain rfl : i = n := by omega
      have HS := Lib.hid (show orL l = 0 by rw [HE.out, List.drop_eq_nil_of_le (by rw [HN.out]; exact Nat.le_refl _)]; rfl)
      go_wp2_with fail
      go_ret
      exact ⟨by rw [HS.out]; rfl, rfl⟩
/-- Two lists, place by place. -/
def cmpLL {α : Type} (f : α → α → Int) : List α → List α → Int
  | [], [] => 0
  | [], _ :: _ => -1
  | _ :: _, [] => 1
  | a :: l, b :: m => if f a b = 0 then cmpLL f l m else f a b
section
variable {α : Type} {f : α → α → Int}
theorem cmpLL_drop {l m : List α} {i : Nat} {a b : α} (hl : l[i]? = some a) (hm : m[i]? = some b) : cmpLL f (l.drop i) (m.drop i) = if f a b = 0 then cmpLL f (l.drop (i + 1)) (m.drop (i + 1)) else f a b := by
  obtain ⟨h1, rfl⟩ := List.getElem?_eq_some_iff.1 hl
  obtain ⟨h2, rfl⟩ := List.getElem?_eq_some_iff.1 hm
  rw [List.drop_eq_getElem_cons h1, List.drop_eq_getElem_cons h2, cmpLL]
theorem cmpLL_gt {l m : List α} {i : Nat} (hl : i < l.length) (hm : m.length ≤ i) : cmpLL f (l.drop i) (m.drop i) = 1 := by
  rw [List.drop_eq_nil_of_le hm, List.drop_eq_getElem_cons hl]; rfl
theorem cmpLL_end {l m : List α} {i : Nat} (hl : l.length = i) : cmpLL f (l.drop i) (m.drop i) = if i < m.length then -1 else 0 := by
  rw [List.drop_eq_nil_of_le (by omega)]
  by_cases h : i < m.length
  · rw [if_pos h, List.drop_eq_getElem_cons h]; rfl
  · rw [if_neg h, List.drop_eq_nil_of_le (by omega)]; rfl
end
end
end Go.Proofs.YtgogiljplnninaaGreatDoor

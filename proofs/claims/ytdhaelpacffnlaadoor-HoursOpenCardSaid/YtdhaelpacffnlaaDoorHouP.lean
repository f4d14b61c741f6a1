/- Hours as they lie in memory, and what is wrong with them, in plain Lean. Conditions: none. -/
import Derived.Test.YtdhaelpacffnlaaDoorFst
import Derived.Test.YtdhaelpacffnlaaDoorTurP
namespace Go.Proofs.YtdhaelpacffnlaaDoor
open Go.RowKit

/-- Hours, as they lie in memory: rows are (days, from, to), holidays are (day, from, to). -/
structure HrV where
  key : ByteArray
  zone : Int
  rA : Option Addr
  rn : Nat
  rc : Nat
  hA : Option Addr
  hn : Nat
  hc : Nat
  rows : List (Int × Int × Int)
  hol : List (Int × Int × Int)
def HrV.row (a : HrV) : List Value := [.string a.key, .int .i64 a.zone, .slice a.rA a.rn a.rc, .slice a.hA a.hn a.hc]
theorem HrV.row_len (a : HrV) : a.row.length = 4 := rfl
def r3Row (p : Int × Int × Int) : List Value := [.int .i64 p.1, .int .i64 p.2.1, .int .i64 p.2.2]
theorem r3Row_len (p : Int × Int × Int) : (r3Row p).length = 3 := rfl
/-- What the slices of hours read as. -/
def HrOk (w : World) (lo : Nat) (a : HrV) : Prop := (a.key.size ≤ 1000 ∧ a.rn ≤ 1000 ∧ a.hn ≤ 1000) ∧ Recs r3Row 3 w lo a.rA a.rn a.rc a.rows ∧ Recs r3Row 3 w lo a.hA a.hn a.hc a.hol
def Hrs (w : World) (lo : Nat) (A : Option Addr) (n c : Nat) (l : List HrV) : Prop := Recs HrV.row 4 w lo A n c l ∧ ∀ a ∈ l, HrOk w lo a
theorem HrOk.grown {w w' : World} {lo : Nat} {a : HrV} (h : HrOk w lo a) {r : Option Nat} (hg : w.grownBy w' r) (hr : ∀ g, r = some g → g < lo) : HrOk w' lo a := ⟨h.1, h.2.1.grown hg hr, h.2.2.grown hg hr⟩
theorem Hrs.grown {w w' : World} {lo : Nat} {A : Option Addr} {n c : Nat} {l : List HrV} (h : Hrs w lo A n c l) {r : Option Nat} (hg : w.grownBy w' r) (hr : ∀ g, r = some g → g < lo) : Hrs w' lo A n c l :=
  ⟨h.1.grown hg hr, fun a ha => (h.2 a ha).grown hg hr⟩

/-! What is wrong with hours. -/
def timB (a b : Int) : Bool := decide (0 ≤ a) && (decide (a < b) && decide (b ≤ 1440))
def rwB (r : Int × Int × Int) : Bool := inB r.1 1 127 && timB r.2.1 r.2.2
def hoB (d : Int × Int × Int) : Bool := inB d.1 0 4000 && ((decide (d.2.1 = 0) && decide (d.2.2 = 0)) || timB d.2.1 d.2.2)
def rwAt (l : List (Int × Int × Int)) (i : Nat) : Int := (l[i]?).elim 0 fun r => if rwB r then 0 else 1
def hoAt (l : List (Int × Int × Int)) (i : Nat) : Int := (l[i]?).elim 0 fun d => if hoB d then (if decide (0 < i) && (l[i - 1]?).elim false (fun p => decide (d.1 ≤ p.1)) then 7 else 0) else 1
def htE (rn : Nat) (rows : List (Int × Int × Int)) (hn : Nat) (hol : List (Int × Int × Int)) : Int :=
  if 50 < rn then 2 else (if fstE (rwAt rows) rn = 0 then (if 200 < hn then 2 else fstE (hoAt hol) hn) else fstE (rwAt rows) rn)
def hrE (a : HrV) : Int := htE a.rn a.rows a.hn a.hol
def hrAt (l : List HrV) (i : Nat) : Int := (l[i]?).elim 0 fun a =>
  if keyOk (nb a.key) then (if decide (0 < i) && (l[i - 1]?).elim false (fun b => leS a.key b.key) then 7 else (if inB a.zone (-1440) 1440 then hrE a else 1)) else 5
def hrsE (l : List HrV) : Int := if 50 < l.length then 2 else fstE (hrAt l) l.length

section
variable {l : List (Int × Int × Int)} {i : Nat} {z b : Int × Int × Int}
theorem rwAt_1 (h : l[i]? = some z) (h1 : rwB z = false) : rwAt l i = 1 := by simp [rwAt, h, h1]
theorem rwAt_0 (h : l[i]? = some z) (h1 : rwB z = true) : rwAt l i = 0 := by simp [rwAt, h, h1]
theorem hoAt_1 (h : l[i]? = some z) (h1 : hoB z = false) : hoAt l i = 1 := by simp [hoAt, h, h1]
theorem hoAt_7 (h : l[i]? = some z) (h1 : hoB z = true) (hi : 0 < i) (hb : l[i - 1]? = some b) (h3 : z.1 ≤ b.1) : hoAt l i = 7 := by simp [hoAt, h, h1, hi, hb, h3]
theorem hoAt_e (h : l[i]? = some z) (h1 : hoB z = true) (hb : l[i - 1]? = some b) (h3 : ¬ z.1 ≤ b.1) : hoAt l i = 0 := by simp only [hoAt, h, Option.elim, h1, hb, decide_eq_false h3, Bool.and_false]; rfl
theorem hoAt_z (h : l[i]? = some z) (h1 : hoB z = true) (hi : ¬ 0 < i) : hoAt l i = 0 := by simp only [hoAt, h, Option.elim, h1, decide_eq_false hi, Bool.false_and]; rfl
end
section
variable {l : List HrV} {i : Nat} {z b : HrV}
theorem hrAt_5 (h : l[i]? = some z) (h1 : keyOk (nb z.key) = false) : hrAt l i = 5 := by simp only [hrAt, h, Option.elim, h1]; rfl
theorem hrAt_7 (h : l[i]? = some z) (h1 : keyOk (nb z.key) = true) (hi : 0 < i) (hb : l[i - 1]? = some b) (h3 : leS z.key b.key = true) : hrAt l i = 7 := by simp only [hrAt, h, Option.elim, h1, hb, h3, decide_eq_true hi]; rfl
theorem hrAt_e (h : l[i]? = some z) (h1 : keyOk (nb z.key) = true) (hb : l[i - 1]? = some b) (h3 : leS z.key b.key = false) : hrAt l i = if inB z.zone (-1440) 1440 then hrE z else 1 := by simp only [hrAt, h, Option.elim, h1, hb, h3, Bool.and_false]; rfl
theorem hrAt_z (h : l[i]? = some z) (h1 : keyOk (nb z.key) = true) (hi : ¬ 0 < i) : hrAt l i = if inB z.zone (-1440) 1440 then hrE z else 1 := by simp only [hrAt, h, Option.elim, h1, decide_eq_false hi, Bool.false_and]; rfl
end
/-- The key ahead of a place; none: the empty string. -/
def lastH (l : List HrV) (k : Nat) : ByteArray := if k = 0 then ⟨#[]⟩ else (l[k - 1]?).elim ⟨#[]⟩ (·.key)
theorem lastH_succ {l : List HrV} {k : Nat} {z : HrV} (h : l[k]? = some z) : lastH l (k + 1) = z.key := by unfold lastH; rw [if_neg (by omega), Nat.add_sub_cancel, h]; rfl
theorem keyOk_full {s : ByteArray} (h : keyOk (nb s) = true) : s.toList ≠ [] := by
  intro e
  have : nb s = [] := by unfold nb; rw [← ByteArray.toList_eq, e]; rfl
  rw [this] at h
  exact absurd h (by decide)
theorem hrAt_last {l : List HrV} {k : Nat} {z : HrV} (h : l[k]? = some z) (h1 : keyOk (nb z.key) = true) : hrAt l k = if leS z.key (lastH l k) then 7 else (if inB z.zone (-1440) 1440 then hrE z else 1) := by
  by_cases hk : 0 < k
  · have hl := (List.getElem?_eq_some_iff.1 h).1
    obtain ⟨b, hb⟩ : ∃ b, l[k - 1]? = some b := ⟨_, List.getElem?_eq_getElem (by omega)⟩
    have e : lastH l k = b.key := by unfold lastH; rw [if_neg (by omega), hb]; rfl
    rw [e]
    cases h3 : leS z.key b.key
    · rw [hrAt_e h h1 hb h3]; rfl
    · rw [hrAt_7 h h1 hk hb h3]; rfl
  · have e : lastH l k = ⟨#[]⟩ := by unfold lastH; rw [if_pos (by omega)]
    have h3 : leS z.key ⟨#[]⟩ = false := by
      unfold leS
      have h4 : (⟨#[]⟩ : ByteArray).toList = [] := by rw [ByteArray.toList_eq]
      rw [h4, Bool.or_eq_false_iff]
      refine ⟨?_, by rw [beq_eq_false_iff_ne]; exact keyOk_full h1⟩
      unfold Op.bytesLess
      cases z.key.toList <;> rfl
    rw [e, h3, hrAt_z h h1 hk]; rfl

/-! Hours that are right. -/
theorem fstE_all {f : Nat → Int} {n i : Nat} (h : fstE f n = 0) (hi : i < n) : f i = 0 := by
  rcases Int.lt_trichotomy (f i) 0 with h1 | h1 | h1
  · by_cases h2 : fstE f i = 0
    · rw [fstE_stop h2 (by omega) hi] at h; omega
    · exfalso
      clear h1
      induction n with
      | zero => omega
      | succ n ih =>
        unfold fstE at h
        by_cases h3 : fstE f n = 0
        · by_cases e : i = n
          · subst e; exact h2 h3
          · exact ih h3 (by omega)
        · rw [if_neg h3] at h; exact h3 h
  · exact h1
  · by_cases h2 : fstE f i = 0
    · rw [fstE_stop h2 (by omega) hi] at h; omega
    · exfalso
      clear h1
      induction n with
      | zero => omega
      | succ n ih =>
        unfold fstE at h
        by_cases h3 : fstE f n = 0
        · by_cases e : i = n
          · subst e; exact h2 h3
          · exact ih h3 (by omega)
        · rw [if_neg h3] at h; exact h3 h
def RightH (zone : Int) (rows hol : List (Int × Int × Int)) : Prop := (-1440 ≤ zone ∧ zone ≤ 1440) ∧ (rows.length ≤ 50 ∧ hol.length ≤ 200) ∧ (∀ r ∈ rows, (1 ≤ r.1 ∧ r.1 ≤ 127) ∧ 0 ≤ r.2.1 ∧ r.2.1 ≤ 1440 ∧ 0 ≤ r.2.2 ∧ r.2.2 ≤ 1440) ∧ ∀ r ∈ hol, 0 ≤ r.2.1 ∧ r.2.1 ≤ 1440 ∧ 0 ≤ r.2.2 ∧ r.2.2 ≤ 1440
theorem right_of {a : HrV} (hr : a.rows.length = a.rn) (hh : a.hol.length = a.hn) (h : hrsE [a] = 0) : RightH a.zone a.rows a.hol := by
  have h1 : hrAt [a] 0 = 0 := fstE_all (n := 1) (show fstE (hrAt [a]) 1 = 0 from h) (by omega)
  have h2 : hrAt [a] 0 = if keyOk (nb a.key) then (if inB a.zone (-1440) 1440 then hrE a else 1) else 5 := rfl
  rw [h2] at h1
  by_cases c1 : keyOk (nb a.key) = true
  · rw [if_pos c1] at h1
    by_cases c2 : inB a.zone (-1440) 1440 = true
    · rw [if_pos c2] at h1
      have c2' : -1440 ≤ a.zone ∧ a.zone ≤ 1440 := by unfold inB at c2; simpa using c2
      unfold hrE htE at h1
      by_cases c3 : 50 < a.rn
      · rw [if_pos c3] at h1; omega
      · rw [if_neg c3] at h1
        by_cases c4 : fstE (rwAt a.rows) a.rn = 0
        · rw [if_pos c4] at h1
          by_cases c5 : 200 < a.hn
          · rw [if_pos c5] at h1; omega
          · rw [if_neg c5] at h1
            refine ⟨c2', ⟨by omega, by omega⟩, fun r hrm => ?_, fun r hrm => ?_⟩
            · obtain ⟨i, hi⟩ := List.mem_iff_getElem?.1 hrm
              have hl := (List.getElem?_eq_some_iff.1 hi).1
              have := fstE_all c4 (show i < a.rn by omega)
              cases c6 : rwB r
              · rw [rwAt_1 hi c6] at this; omega
              · unfold rwB inB timB at c6
                simp only [Bool.and_eq_true, decide_eq_true_eq] at c6
                omega
            · obtain ⟨i, hi⟩ := List.mem_iff_getElem?.1 hrm
              have hl := (List.getElem?_eq_some_iff.1 hi).1
              have := fstE_all h1 (show i < a.hn by omega)
              cases c6 : hoB r
              · rw [hoAt_1 hi c6] at this; omega
              · unfold hoB inB timB at c6
                simp only [Bool.and_eq_true, Bool.or_eq_true, decide_eq_true_eq] at c6
                omega
        · rw [if_neg c4] at h1; exact absurd h1 c4
    · rw [if_neg c2] at h1; omega
  · rw [if_neg c1] at h1; omega
end Go.Proofs.YtdhaelpacffnlaaDoor

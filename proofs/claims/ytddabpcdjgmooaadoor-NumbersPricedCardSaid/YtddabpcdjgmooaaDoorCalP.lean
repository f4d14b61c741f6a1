/- Callers as they lie in memory, and what is wrong with them; who is able, who is present, in plain Lean. Conditions: none. -/
import Derived.Test.YtddabpcdjgmooaaDoorQueP
import Derived.Test.YtddabpcdjgmooaaDoorSetS
namespace Go.Proofs.YtddabpcdjgmooaaDoor
open Go.RowKit

theorem eqS_nb (s t : ByteArray) : (s.toList == t.toList) = (nb s == nb t) := by
  rw [Bool.eq_iff_iff, beq_iff_eq, beq_iff_eq, nb_data, ByteArray.toList_eq, ByteArray.toList_eq]
/-- A caller, as it lies in memory. -/
structure CaV where
  id : ByteArray
  skill : ByteArray
  at_ : Int
  least : Int
  prio : Int
  pat : Int
  talk : Int
  back : Bool
def CaV.row (a : CaV) : List Value := [.string a.id, .string a.skill, .int .i64 a.at_, .int .i64 a.least, .int .i64 a.prio, .int .i64 a.pat, .int .i64 a.talk, .bool a.back]
theorem CaV.row_len (a : CaV) : a.row.length = 8 := rfl
def CaOk (a : CaV) : Prop := a.id.size ≤ 1000 ∧ a.skill.size ≤ 1000
def Cas (w : World) (lo : Nat) (A : Option Addr) (n c : Nat) (l : List CaV) : Prop := Recs CaV.row 8 w lo A n c l ∧ ∀ a ∈ l, CaOk a
theorem Cas.grown {w w' : World} {lo : Nat} {A : Option Addr} {n c : Nat} {l : List CaV} (h : Cas w lo A n c l) {r : Option Nat} (hg : w.grownBy w' r) (hr : ∀ g, r = some g → g < lo) : Cas w' lo A n c l :=
  ⟨h.1.grown hg hr, h.2⟩
/-- Are a caller's numbers in their ranges? -/
def caNum (a : CaV) : Bool := momB a.at_ && inB a.least 1 9 && inB a.prio 0 9 && inB a.pat 0 86400000 && inB a.talk 1 86400000
def caAt (l : List CaV) (i : Nat) : Int := (l[i]?).elim 0 fun a =>
  if keyOk (nb a.id) && keyOk (nb a.skill) then (if memS ((l.take i).map (·.id)) a.id then 6 else (if caNum a then (if decide (0 < i) && (l[i - 1]?).elim false (fun b => decide (a.at_ < b.at_)) then 7 else 0) else 1)) else 5
def casE (l : List CaV) : Int := if 500 < l.length then 2 else fstE (caAt l) l.length
section
variable {l : List CaV} {i : Nat} {z b : CaV}
theorem caAt_5 (h : l[i]? = some z) (h1 : (keyOk (nb z.id) && keyOk (nb z.skill)) = false) : caAt l i = 5 := by simp only [caAt, h, Option.elim, h1]; rfl
theorem caAt_6 (h : l[i]? = some z) (h1 : (keyOk (nb z.id) && keyOk (nb z.skill)) = true) (h2 : memS ((l.take i).map (·.id)) z.id = true) : caAt l i = 6 := by simp only [caAt, h, Option.elim, h1, h2]; rfl
theorem caAt_1 (h : l[i]? = some z) (h1 : (keyOk (nb z.id) && keyOk (nb z.skill)) = true) (h2 : memS ((l.take i).map (·.id)) z.id = false) (h3 : caNum z = false) : caAt l i = 1 := by simp only [caAt, h, Option.elim, h1, h2, h3]; rfl
theorem caAt_7 (h : l[i]? = some z) (h1 : (keyOk (nb z.id) && keyOk (nb z.skill)) = true) (h2 : memS ((l.take i).map (·.id)) z.id = false) (h3 : caNum z = true) (hi : 0 < i) (hb : l[i - 1]? = some b) (h4 : z.at_ < b.at_) : caAt l i = 7 := by
  simp only [caAt, h, Option.elim, h1, h2, h3, hb, decide_eq_true hi, decide_eq_true h4]; rfl
theorem caAt_e (h : l[i]? = some z) (h1 : (keyOk (nb z.id) && keyOk (nb z.skill)) = true) (h2 : memS ((l.take i).map (·.id)) z.id = false) (h3 : caNum z = true) (hb : l[i - 1]? = some b) (h4 : ¬ z.at_ < b.at_) : caAt l i = 0 := by
  simp only [caAt, h, Option.elim, h1, h2, h3, hb, decide_eq_false h4, Bool.and_false]; rfl
theorem caAt_z (h : l[i]? = some z) (h1 : (keyOk (nb z.id) && keyOk (nb z.skill)) = true) (h2 : memS ((l.take i).map (·.id)) z.id = false) (h3 : caNum z = true) (hi : ¬ 0 < i) : caAt l i = 0 := by
  simp only [caAt, h, Option.elim, h1, h2, h3, decide_eq_false hi, Bool.false_and]; rfl
end
/-! Who is able, who is present. -/
def lvl (sk : List (ByteArray × Int)) (s : ByteArray) : Int := ((sk.find? (fun x => nb x.1 == nb s)).map (·.2)).getD 0
theorem lvl_cons (x : ByteArray × Int) (l : List (ByteArray × Int)) (s : ByteArray) : lvl (x :: l) s = if nb x.1 == nb s then x.2 else lvl l s := by
  unfold lvl
  rw [List.find?_cons]
  cases nb x.1 == nb s <;> rfl
theorem lvl_drop {l : List (ByteArray × Int)} {i : Nat} {x : ByteArray × Int} (h : l[i]? = some x) (s : ByteArray) : lvl (l.drop i) s = if nb x.1 == nb s then x.2 else lvl (l.drop (i + 1)) s := by
  obtain ⟨h1, rfl⟩ := List.getElem?_eq_some_iff.1 h
  rw [List.drop_eq_getElem_cons h1, lvl_cons]
def ableB (a : AgV) (c : CaV) : Bool := decide (c.least ≤ lvl a.sk c.skill)
def inWin (t : Int) (p : Int × Int) : Bool := decide (p.1 ≤ t) && decide (t < p.2)
def presB (a : AgV) (t : Int) : Bool := inWin t (a.fr, a.til) && !(a.ps.any (inWin t))
end Go.Proofs.YtddabpcdjgmooaaDoor

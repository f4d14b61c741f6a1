/- Words for the generators of hours: slices of hours that a call makes, with their rows and holidays. Conditions: none. -/
import Derived.Test.YtelpakmiciilgaaGreatDoorBun5
import Derived.Test.YtelpakmiciilgaaGreatDoorStream
import Derived.Test.YtelpakmiciilgaaGreatDoorBun1
import Derived.Test.YtelpakmiciilgaaGreatDoorBun2
import Derived.Test.YtelpakmiciilgaaGreatDoorBun3
import Derived.Test.YtelpakmiciilgaaGreatDoorShelfTrim
namespace Go.Proofs.YtelpakmiciilgaaGreatDoor
section
open Go.RowKit

def HrBd (a : HrV) : Prop := a.key.size ≤ 1000 ∧ a.rn ≤ 1000 ∧ a.hn ≤ 1000
def HrOwn (w : World) (lo : Nat) (a : HrV) : Prop := HrBd a ∧ OwnR r3Row 3 w lo 64 a.rA a.rn a.rc a.rows ∧ OwnR r3Row 3 w lo 67 a.hA a.hn a.hc a.hol
def HrApart (a b : HrV) : Prop := (∀ g, blkOf a.rA = some g → blkOf b.rA ≠ some g) ∧ (∀ g, blkOf a.hA = some g → blkOf b.hA ≠ some g)
def GHrs (w : World) (lo : Nat) (A : Option Addr) (n c : Nat) (l : List HrV) : Prop :=
  OwnR HrV.row 4 w lo 29 A n c l ∧ (∀ a ∈ l, HrOwn w lo a) ∧ ∀ (i j : Nat) (a b : HrV), i ≠ j → l[i]? = some a → l[j]? = some b → HrApart a b
theorem mem_setH {α : Type} {l : List α} {i : Nat} {a x : α} (h : x ∈ l.set i a) : x = a ∨ ∃ j, j ≠ i ∧ l[j]? = some x := by
  obtain ⟨j, hj⟩ := List.mem_iff_getElem?.1 h
  rw [List.getElem?_set] at hj
  split at hj
  · split at hj
    · injection hj with hj; exact .inl hj.symm
    · cases hj
  · rename_i hne
    exact .inr ⟨j, fun e => hne e.symm, hj⟩
section
variable {w w' : World} {lo n c : Nat} {A : Option Addr} {l : List HrV}
theorem HrOwn.ok {a : HrV} (h : HrOwn w lo a) : HrOk w lo a := ⟨h.1, h.2.1.recs, h.2.2.recs⟩
theorem GHrs.hrs (h : GHrs w lo A n c l) : Hrs w lo A n c l := ⟨h.1.recs, fun a ha => (h.2.1 a ha).ok⟩
theorem GHrs.nil (w : World) (lo : Nat) : GHrs w lo none 0 0 [] := ⟨OwnR.nil _ _ _, (fun a ha => by cases ha), fun i j a b _ h => by simp at h⟩
theorem HrOwn.kept {a : HrV} (h : HrOwn w lo a) {r : Option Nat} (hg : w.grownBy w' r) (h1 : ∀ g, r = some g → blkOf a.rA ≠ some g) (h2 : ∀ g, r = some g → blkOf a.hA ≠ some g) : HrOwn w' lo a := ⟨h.1, h.2.1.kept hg h1, h.2.2.kept hg h2⟩
theorem HrOwn.low {a : HrV} (h : HrOwn w lo a) {r : Option Nat} (hg : w.grownBy w' r) (hr : ∀ g, r = some g → g < lo) : HrOwn w' lo a := ⟨h.1, h.2.1.low hg hr, h.2.2.low hg hr⟩
theorem HrOwn.lower {a : HrV} {lo' : Nat} (h : HrOwn w lo a) (hl : lo' ≤ lo) : HrOwn w lo' a := ⟨h.1, h.2.1.lower hl, h.2.2.lower hl⟩
theorem GHrs.low (h : GHrs w lo A n c l) {r : Option Nat} (hg : w.grownBy w' r) (hr : ∀ g, r = some g → g < lo) : GHrs w' lo A n c l := ⟨h.1.low hg hr, fun a ha => (h.2.1 a ha).low hg hr, h.2.2⟩
theorem HrOwn.other {a : HrV} (h : HrOwn w lo a) {lo' n' c' k' : Nat} {A' : Option Addr} {xs : List Value} (ho : Own w lo' 29 k' A' n' c' xs) (hg : w.grownBy w' (blkOf A')) : HrOwn w' lo a :=
  h.kept hg (fun g e => Own.ne ho h.2.1.1 (by decide) e) (fun g e => Own.ne ho h.2.2.1 (by decide) e)
/-- Hours are appended whose slices lie behind those of the others. -/
theorem GHrs.app {a : HrV} {hi : Nat} (h : GHrs w lo A n c l) (ha : HrOwn w hi a) (hlo : lo ≤ hi) (hb : ∀ b ∈ l, (∀ g, blkOf b.rA = some g → g < hi) ∧ (∀ g, blkOf b.hA = some g → g < hi)) {A1 : Option Addr} {c1 n1 : Nat} (hn : n1 = n + 1)
    (h1 : Appended w lo 29 4 A A1 n1 c1 (l.flatMap HrV.row ++ a.row) w') : GHrs w' lo A1 n1 c1 (l ++ [a]) := by
  have ap : ∀ b ∈ l, HrApart a b ∧ HrApart b a := fun b hb1 => by
    obtain ⟨q1, q2⟩ := hb b hb1
    exact ⟨⟨fun g e e' => by have := q1 g e'; have := (ha.2.1.1.lt e).1; omega, fun g e e' => by have := q2 g e'; have := (ha.2.2.1.lt e).1; omega⟩,
      ⟨fun g e e' => by have := q1 g e; have := (ha.2.1.1.lt e').1; omega, fun g e e' => by have := q2 g e; have := (ha.2.2.1.lt e').1; omega⟩⟩
  refine ⟨h.1.app hn h1, fun b hb1 => ?_, fun i j x y hne hx hy => ?_⟩
  · rcases List.mem_append.1 hb1 with hb1 | hb1
    · exact (h.2.1 b hb1).other h.1.1 h1.2.1
    · rw [List.mem_singleton.1 hb1]; exact (ha.lower hlo).other h.1.1 h1.2.1
  · rw [List.getElem?_append] at hx hy
    split at hx <;> split at hy
    · exact h.2.2 i j x y hne hx hy
    · rename_i q1 q2
      have : y = a := by
        cases hj : j - l.length with
        | zero => rw [hj] at hy; simpa using hy.symm
        | succ q => rw [hj] at hy; simp at hy
      subst this
      exact (ap x (mem_of_get hx)).2
    · rename_i q1 q2
      have : x = a := by
        cases hj : i - l.length with
        | zero => rw [hj] at hx; simpa using hx.symm
        | succ q => rw [hj] at hx; simp at hx
      subst this
      exact (ap y (mem_of_get hy)).1
    · exfalso
      rename_i q1 q2
      have h3 : i - l.length = 0 := by
        cases hj : i - l.length with
        | zero => rfl
        | succ q => rw [hj] at hx; simp at hx
      have h4 : j - l.length = 0 := by
        cases hj : j - l.length with
        | zero => rfl
        | succ q => rw [hj] at hy; simp at hy
      omega
/-- One cell of some hours is stored anew: not one of its slices. -/
theorem GHrs.set1 {g i j p : Nat} {a a' : HrV} {u : Value} (h : GHrs w lo (some ⟨g, 0, none⟩) n c l) (hi : l[i]? = some a) (hj : j < 4) (hr : a'.row = a.row.set j u) (hb : HrBd a') (hs : a'.rA = a.rA ∧ a'.rn = a.rn ∧ a'.rc = a.rc ∧ a'.rows = a.rows ∧ a'.hA = a.hA ∧ a'.hn = a.hn ∧ a'.hc = a.hc ∧ a'.hol = a.hol) (hp : p = i * 4 + j) :
    GHrs (w.setCell ⟨g, p, none⟩ u) lo (some ⟨g, 0, none⟩) n c (l.set i a') := by
  have hg : w.grownBy (w.setCell ⟨g, p, none⟩ u) (blkOf (some ⟨g, 0, none⟩)) := gr_setCell (gr_refl _ _) (.inl rfl) _
  obtain ⟨s1, s2, s3, s4, s5, s6, s7, s8⟩ := hs
  refine ⟨h.1.set1 HrV.row_len hi hj hr hp, fun x hx => ?_, fun i1 j1 x y hne hx hy => ?_⟩
  · rcases mem_setH hx with rfl | ⟨q, _, hx⟩
    · have h1 := (h.2.1 a (mem_of_get hi)).other h.1.1 hg
      refine ⟨hb, ?_, ?_⟩
      · rw [s1, s2, s3, s4]; exact h1.2.1
      · rw [s5, s6, s7, s8]; exact h1.2.2
    · exact (h.2.1 x (mem_of_get hx)).other h.1.1 hg
  · have e1 : ∀ (q : Nat) (x : HrV), (l.set i a')[q]? = some x → ∃ z : HrV, l[q]? = some z ∧ x.rA = z.rA ∧ x.hA = z.hA := fun q x hx => by
      rw [List.getElem?_set] at hx
      split at hx
      · split at hx
        · rename_i e _
          injection hx with hx
          subst hx; subst e
          exact ⟨a, hi, s1, s5⟩
        · cases hx
      · exact ⟨x, hx, rfl, rfl⟩
    obtain ⟨z1, q1, q2, q3⟩ := e1 _ _ hx
    obtain ⟨z2, q4, q5, q6⟩ := e1 _ _ hy
    have := h.2.2 _ _ _ _ hne q1 q4
    unfold HrApart
    rw [q2, q3, q5, q6]
    exact this
/-- The rows of some hours are put anew, grown by an append. -/
theorem GHrs.rows {g i p : Nat} {a : HrV} {w1 : World} (h : GHrs w lo (some ⟨g, 0, none⟩) n c l) (hi : l[i]? = some a) {s : Int × Int × Int} {A1 : Option Addr} {c1 n1 : Nat} (hn : n1 = a.rn + 1) (hb : n1 ≤ 1000)
    (h1 : Appended w lo 64 3 a.rA A1 n1 c1 (a.rows.flatMap r3Row ++ r3Row s) w1) (hp : p = i * 4 + 2) :
    Hrs (w1.setCell ⟨g, p, none⟩ (.slice A1 n1 c1)) lo (some ⟨g, 0, none⟩) n c (l.set i { a with rA := A1, rn := n1, rc := c1, rows := a.rows ++ [s] }) := by
  have ho := h.2.1 a (mem_of_get hi)
  have hm : OwnR HrV.row 4 w1 lo 29 (some ⟨g, 0, none⟩) n c l := h.1.kept h1.2.1 (fun g' e => Own.ne ho.2.1.1 h.1.1 (by decide) e)
  have hg : w1.grownBy (w1.setCell ⟨g, p, none⟩ (.slice A1 n1 c1)) (blkOf (some ⟨g, 0, none⟩)) := gr_setCell (gr_refl _ _) (.inl rfl) _
  refine ⟨(hm.set1 (a' := { a with rA := A1, rn := n1, rc := c1, rows := a.rows ++ [s] }) HrV.row_len hi (j := 2) (by omega) rfl hp).recs, fun x hx => ?_⟩
  rcases mem_setH hx with rfl | ⟨q, hq, hx⟩
  · refine HrOwn.ok (HrOwn.other (w := w1) ⟨⟨ho.1.1, hb, ho.1.2.2⟩, ho.2.1.app hn h1, ?_⟩ hm.1 hg)
    exact ho.2.2.kept h1.2.1 (fun g' e => Own.ne ho.2.1.1 ho.2.2.1 (by decide) e)
  · have hx1 := h.2.1 x (mem_of_get hx)
    have hap := h.2.2 _ _ _ _ (fun e => hq e.symm) hi hx
    exact HrOwn.ok (HrOwn.other (hx1.kept h1.2.1 (fun g' e => hap.1 g' e) (fun g' e => Own.ne ho.2.1.1 hx1.2.2.1 (by decide) e)) hm.1 hg)
/-- The holidays of some hours are put anew, grown by an append. -/
theorem GHrs.hols {g i p : Nat} {a : HrV} {w1 : World} (h : GHrs w lo (some ⟨g, 0, none⟩) n c l) (hi : l[i]? = some a) {s : Int × Int × Int} {A1 : Option Addr} {c1 n1 : Nat} (hn : n1 = a.hn + 1) (hb : n1 ≤ 1000)
    (h1 : Appended w lo 67 3 a.hA A1 n1 c1 (a.hol.flatMap r3Row ++ r3Row s) w1) (hp : p = i * 4 + 3) :
    Hrs (w1.setCell ⟨g, p, none⟩ (.slice A1 n1 c1)) lo (some ⟨g, 0, none⟩) n c (l.set i { a with hA := A1, hn := n1, hc := c1, hol := a.hol ++ [s] }) := by
  have ho := h.2.1 a (mem_of_get hi)
  have hm : OwnR HrV.row 4 w1 lo 29 (some ⟨g, 0, none⟩) n c l := h.1.kept h1.2.1 (fun g' e => Own.ne ho.2.2.1 h.1.1 (by decide) e)
  have hg : w1.grownBy (w1.setCell ⟨g, p, none⟩ (.slice A1 n1 c1)) (blkOf (some ⟨g, 0, none⟩)) := gr_setCell (gr_refl _ _) (.inl rfl) _
  refine ⟨(hm.set1 (a' := { a with hA := A1, hn := n1, hc := c1, hol := a.hol ++ [s] }) HrV.row_len hi (j := 3) (by omega) rfl hp).recs, fun x hx => ?_⟩
  rcases mem_setH hx with rfl | ⟨q, hq, hx⟩
  · refine HrOwn.ok (HrOwn.other (w := w1) ⟨⟨ho.1.1, ho.1.2.1, hb⟩, ?_, ho.2.2.app hn h1⟩ hm.1 hg)
    exact ho.2.1.kept h1.2.1 (fun g' e => Own.ne ho.2.2.1 ho.2.1.1 (by decide) e)
  · have hx1 := h.2.1 x (mem_of_get hx)
    have hap := h.2.2 _ _ _ _ (fun e => hq e.symm) hi hx
    exact HrOwn.ok (HrOwn.other (hx1.kept h1.2.1 (fun g' e => Own.ne ho.2.2.1 hx1.2.1.1 (by decide) e) (fun g' e => hap.2 g' e)) hm.1 hg)
end
/-- The answer of the generators of hours. -/
def IsHrs (lo most : Nat) (v : Value) (w : World) : Prop := ∃ (A : Option Addr) (c : Nat) (l : List HrV), v = .slice A most c ∧ Hrs w lo A most c l
def IsGHrs (lo most : Nat) (v : Value) (w : World) : Prop := ∃ (A : Option Addr) (c : Nat) (l : List HrV), v = .slice A most c ∧ GHrs w lo A most c l ∧ ∀ a ∈ l, a.rn ≤ 2 ∧ a.hn ≤ 3

/-! Hours that are being made: they lie in block ab, their slices are the call's own. -/
def HrB (w : World) (sb ab : Nat) (m : Int) (a : HrV) (wr : World) : Prop :=
  Str wr sb m ∧ w.grownBy wr (some sb) ∧ w.heap.size ≤ ab ∧ Blk wr ab 29 #[.string a.key, .int .i64 a.zone, .slice a.rA a.rn a.rc, .slice a.hA a.hn a.hc] ∧ HrOwn wr w.heap.size a
section
variable {w wr wx w8 : World} {sb ab : Nat} {m m' : Int} {a : HrV}
theorem HrB.row1 (h : HrB w sb ab m a wr) (hsb : sb < w.heap.size) {s : Int × Int × Int} {n1 : Nat} (hn : n1 = a.rn + 1) (hb : n1 ≤ 1000) (hsx : Str wx sb m') (hgx : wr.grownBy wx (some sb)) {A1 : Option Addr} {c1 : Nat}
    (h8 : Appended wx w.heap.size 64 3 a.rA A1 n1 c1 (a.rows.flatMap r3Row ++ r3Row s) w8) :
    HrB w sb ab m' { a with rA := A1, rn := n1, rc := c1, rows := a.rows ++ [s] } (w8.setCell ⟨ab, 2, none⟩ (.slice A1 n1 c1)) := by
  obtain ⟨_, hg, hp, hbk, ho⟩ := h
  have hox : HrOwn wx w.heap.size a := ho.low hgx (fun g e => by injection e with e; omega)
  have hbx := hbk.grown hgx (by simp; omega)
  have hb8 := hbx.grown h8.2.1 (Ne.symm (hox.2.1.1.blk_ne hbx (by decide)))
  have hg8 : w.grownBy w8 (some sb) := gr_own (gr_same hg hgx) hox.2.1.1 (Nat.le_refl _) h8.2.1
  have hz := hg8.size
  have hs8 : Str w8 sb m' := hsx.grown h8.2.1 (fun g e => by have := (hox.2.1.1.lt e).1; omega)
  refine ⟨hs8.setCell (by simp; omega) _, gr_setCell hg8 (.inr (by simp; omega)) _, hp, hb8.set_ 2 _, ⟨hox.1.1, hb, hox.1.2.2⟩, ?_, ?_⟩
  · have h9 := hox.2.1.app hn h8
    exact ⟨h9.1.far (h9.1.blk_ne hb8 (by decide)) _, h9.2⟩
  · have h9 := hox.2.2.kept h8.2.1 (fun g' e => Own.ne hox.2.1.1 hox.2.2.1 (by decide) e)
    exact ⟨h9.1.far (h9.1.blk_ne hb8 (by decide)) _, h9.2⟩
theorem HrB.hol1 (h : HrB w sb ab m a wr) (hsb : sb < w.heap.size) {s : Int × Int × Int} {n1 : Nat} (hn : n1 = a.hn + 1) (hb : n1 ≤ 1000) (hsx : Str wx sb m') (hgx : wr.grownBy wx (some sb)) {A1 : Option Addr} {c1 : Nat}
    (h8 : Appended wx w.heap.size 67 3 a.hA A1 n1 c1 (a.hol.flatMap r3Row ++ r3Row s) w8) :
    HrB w sb ab m' { a with hA := A1, hn := n1, hc := c1, hol := a.hol ++ [s] } (w8.setCell ⟨ab, 3, none⟩ (.slice A1 n1 c1)) := by
  obtain ⟨_, hg, hp, hbk, ho⟩ := h
  have hox : HrOwn wx w.heap.size a := ho.low hgx (fun g e => by injection e with e; omega)
  have hbx := hbk.grown hgx (by simp; omega)
  have hb8 := hbx.grown h8.2.1 (Ne.symm (hox.2.2.1.blk_ne hbx (by decide)))
  have hg8 : w.grownBy w8 (some sb) := gr_own (gr_same hg hgx) hox.2.2.1 (Nat.le_refl _) h8.2.1
  have hz := hg8.size
  have hs8 : Str w8 sb m' := hsx.grown h8.2.1 (fun g e => by have := (hox.2.2.1.lt e).1; omega)
  refine ⟨hs8.setCell (by simp; omega) _, gr_setCell hg8 (.inr (by simp; omega)) _, hp, hb8.set_ 3 _, ⟨hox.1.1, hox.1.2.1, hb⟩, ?_, ?_⟩
  · have h9 := hox.2.1.kept h8.2.1 (fun g' e => Own.ne hox.2.2.1 hox.2.1.1 (by decide) e)
    exact ⟨h9.1.far (h9.1.blk_ne hb8 (by decide)) _, h9.2⟩
  · have h9 := hox.2.2.app hn h8
    exact ⟨h9.1.far (h9.1.blk_ne hb8 (by decide)) _, h9.2⟩
theorem HrB.step (h : HrB w sb ab m a wr) (hsb : sb < w.heap.size) (hsx : Str wx sb m') (hgx : wr.grownBy wx (some sb)) : HrB w sb ab m' a wx :=
  ⟨hsx, gr_same h.2.1 hgx, h.2.2.1, h.2.2.2.1.grown hgx (by have := h.2.2.1; simp; omega), h.2.2.2.2.low hgx (fun g e => by injection e with e; omega)⟩
end
/-- A block that the making of some hours' slices leaves alone. -/
theorem HrB.blk {w wr wx w8 : World} {sb ab : Nat} {m : Int} {a : HrV} (_h : HrB w sb ab m a wr) {e t : TypeId} {A A1 : Option Addr} {n c n1 c1 g j : Nat} {xs ys : List Value} {cs : Array Value} {v : Value} (hb : Blk wr g t cs) (hgx : wr.grownBy wx (some sb)) (hs : g ≠ sb) (hg : g ≠ ab)
    (ho : Own wx w.heap.size e 3 A n c xs) (hne : e ≠ t) (h8 : Appended wx w.heap.size e 3 A A1 n1 c1 ys w8) : Blk (w8.setCell ⟨ab, j, none⟩ v) g t cs := by
  have hbx := hb.grown hgx (by simpa using hs)
  exact (hbx.grown h8.2.1 (Ne.symm (ho.blk_ne hbx hne))).far (by simpa using hg) v
theorem Tryz.hrsT : ElemT Tryz.prog 30 29 4 72 (.agg #[.string ⟨#[]⟩, .int .i64 0, .slice none 0 0, .slice none 0 0]) := elemT_of Tryz.underlying30 (by kernel_rfl) rfl (by decide)
theorem Tryz.rwsT : ElemT Tryz.prog 26 64 3 24 (.agg #[.int .i64 0, .int .i64 0, .int .i64 0]) := elemT_of Tryz.underlying26 (by kernel_rfl) rfl (by decide)
theorem Tryz.hosT : ElemT Tryz.prog 27 67 3 24 (.agg #[.int .i64 0, .int .i64 0, .int .i64 0]) := elemT_of Tryz.underlying27 (by kernel_rfl) rfl (by decide)
end
end Go.Proofs.YtelpakmiciilgaaGreatDoor
/- Contracts of the statements' when and momentFault. Conditions: none. -/
namespace Go.Proofs.YtelpakmiciilgaaGreatDoor
section
open Go.RowKit
def momF (t : Int) : Int := if momB t then 0 else 1
end
end Go.Proofs.YtelpakmiciilgaaGreatDoor
/- Plain Lean: a queue as the program plays it: desks, waiters, moments. Conditions: none. -/
namespace Go.Proofs.YtelpakmiciilgaaGreatDoor
section
open Go.RowKit

/-! Desks, waiters, what is known while a play goes on. -/
structure DkV where
  tk : Int
  en : Int
  n : Int
structure WtV where
  how : Int
  seat : SeV
structure PlS where
  dk : List DkV
  wt : List WtV
  last : ByteArray
def dkAt (l : List DkV) (i : Nat) : DkV := (l[i]?).getD ⟨0, 0, 0⟩
def wtAt (l : List WtV) (i : Nat) : WtV := (l[i]?).getD ⟨0, ⟨⟨#[]⟩, ⟨#[]⟩, 0, 0, 0⟩⟩
theorem dkAt_some {l : List DkV} {i : Nat} {d : DkV} (h : l[i]? = some d) : dkAt l i = d := by unfold dkAt; rw [h]; rfl
theorem wtAt_some {l : List WtV} {i : Nat} {d : WtV} (h : l[i]? = some d) : wtAt l i = d := by unfold wtAt; rw [h]; rfl
/-! A change of one after the other. -/
section
variable {α β : Type}
def updN (f : α → β → β) (C : List α) : Nat → List β → List β
  | 0, l => l
  | k + 1, l => (C[k]?).elim (updN f C k l) fun c => ((updN f C k l)[k]?).elim (updN f C k l) fun x => (updN f C k l).set k (f c x)
theorem updN_succ {f : α → β → β} {C : List α} {k : Nat} {l : List β} {c : α} {x : β} (hc : C[k]? = some c) (hx : (updN f C k l)[k]? = some x) : updN f C (k + 1) l = (updN f C k l).set k (f c x) := by
  show (C[k]?).elim _ _ = _; rw [hc]; show ((updN f C k l)[k]?).elim _ _ = _; rw [hx]; rfl
theorem updN_len (f : α → β → β) (C : List α) (k : Nat) (l : List β) : (updN f C k l).length = l.length := by
  induction k with
  | zero => rfl
  | succ k ih =>
    show ((C[k]?).elim (updN f C k l) _ : List β).length = _
    cases C[k]? with
    | none => exact ih
    | some c =>
      show (((updN f C k l)[k]?).elim (updN f C k l) _ : List β).length = _
      cases (updN f C k l)[k]? with
      | none => exact ih
      | some x => show ((updN f C k l).set k _).length = _; rw [List.length_set]; exact ih
theorem updN_get (f : α → β → β) (C : List α) (k : Nat) (l : List β) (i : Nat) : (updN f C k l)[i]? = if i < k then (l[i]?).map (fun x => (C[i]?).elim x fun c => f c x) else l[i]? := by
  induction k with
  | zero => simp [updN]
  | succ k ih =>
    by_cases hik : i = k
    · subst hik
      rw [if_pos (by omega)]
      rw [if_neg (by omega)] at ih
      show ((C[i]?).elim (updN f C i l) _)[i]? = _
      cases hc : C[i]? with
      | none => show (updN f C i l)[i]? = _; rw [ih]; cases l[i]? <;> rfl
      | some c =>
        show (((updN f C i l)[i]?).elim (updN f C i l) _)[i]? = _
        cases hx : (updN f C i l)[i]? with
        | none => show (updN f C i l)[i]? = _; rw [hx, ← ih, hx]; rfl
        | some x =>
          show ((updN f C i l).set i (f c x))[i]? = _
          rw [List.getElem?_set_self (List.getElem?_eq_some_iff.1 hx).1, ← ih, hx]; rfl
    · have e : (updN f C (k + 1) l)[i]? = (updN f C k l)[i]? := by
        show ((C[k]?).elim (updN f C k l) _)[i]? = _
        cases C[k]? with
        | none => rfl
        | some c =>
          show (((updN f C k l)[k]?).elim (updN f C k l) _)[i]? = _
          cases (updN f C k l)[k]? with
          | none => rfl
          | some x => show ((updN f C k l).set k (f c x))[i]? = _; rw [List.getElem?_set_ne (by omega)]
      rw [e, ih]
      by_cases h1 : i < k
      · rw [if_pos h1, if_pos (by omega)]
      · rw [if_neg h1, if_neg (by omega)]
end
def updA {α β : Type} (f : α → β → β) (C : List α) (l : List β) : List β := updN f C C.length l
theorem updA_get {α β : Type} (f : α → β → β) {C : List α} {l : List β} {i : Nat} {c : α} {x : β} (hc : C[i]? = some c) (hx : l[i]? = some x) : (updA f C l)[i]? = some (f c x) := by
  unfold updA
  rw [updN_get, if_pos (List.getElem?_eq_some_iff.1 hc).1, hx, hc]; rfl
theorem updA_len {α β : Type} (f : α → β → β) (C : List α) (l : List β) : (updA f C l).length = l.length := updN_len _ _ _ _

/-! What comes about at a moment. -/
def endP (t : Int) (_ : AgV) (d : DkV) : DkV := if decide (d.tk = t) && decide (0 < t) then ⟨0, t, d.n⟩ else d
def leaveP (t : Int) (c : CaV) (x : WtV) : WtV := if decide (x.how = 1) && decide (c.at_ + c.pat = t) then (if c.back then { x with how := 2 } else ⟨3, ⟨c.id, ⟨#[]⟩, 2, t, t⟩⟩) else x
def comeP (t : Int) (c : CaV) (x : WtV) : WtV := if decide (x.how = 0) && decide (c.at_ = t) then { x with how := 1 } else x
def freeP (a : AgV) (d : DkV) (t : Int) : Bool := decide (d.tk = 0) && (presB a t && (decide (d.n = 0) || decide (d.en + a.wrap ≤ t)))
def inL (x : WtV) : Bool := decide (x.how = 1) || decide (x.how = 2)
def rawP (wt : List WtV) : Nat → List Nat
  | 0 => []
  | k + 1 => rawP wt k ++ (wt[k]?).elim [] fun x => if inL x then [k] else []
theorem rawP_succ {wt : List WtV} {k : Nat} {x : WtV} (h : wt[k]? = some x) : rawP wt (k + 1) = rawP wt k ++ if inL x then [k] else [] := by
  show _ ++ (wt[k]?).elim _ _ = _; rw [h]; rfl
def lineP (s : StyV) (C : List CaV) (wt : List WtV) (t : Int) : List Nat := srt (fun a b => decide (rankAt s C t b < rankAt s C t a)) (rawP wt wt.length)
def sinceP (a : AgV) (d : DkV) : Int := if d.n = 0 then a.fr else d.en
def betterP (kind : Int) (a : AgV) (d : DkV) (b : AgV) (e : DkV) (last skill : ByteArray) : Bool :=
  if kind = 1 then decide (sinceP a d < sinceP b e) else if kind = 2 then decide (d.n < e.n) else if kind = 3 then decide (lvl b.sk skill < lvl a.sk skill) else !(leS a.key last) && leS b.key last
/-- The desk that is chosen; -1: none. -/
def deskP (s : StyV) (A : List AgV) (dk : List DkV) (last : ByteArray) (c : CaV) (t : Int) : Nat → Int
  | 0 => -1
  | k + 1 => (A[k]?).elim (deskP s A dk last c t k) fun a =>
    if freeP a (dkAt dk k) t && ableB a c then
      (if decide (deskP s A dk last c t k < 0) || (A[(deskP s A dk last c t k).toNat]?).elim false (fun b => betterP s.kind a (dkAt dk k) b (dkAt dk (deskP s A dk last c t k).toNat) last c.skill) then (k : Int) else deskP s A dk last c t k)
    else deskP s A dk last c t k
theorem deskP_succ {s : StyV} {A : List AgV} {dk : List DkV} {last : ByteArray} {c : CaV} {t : Int} {k : Nat} {a : AgV} (h : A[k]? = some a) : deskP s A dk last c t (k + 1) = if freeP a (dkAt dk k) t && ableB a c then
      (if decide (deskP s A dk last c t k < 0) || (A[(deskP s A dk last c t k).toNat]?).elim false (fun b => betterP s.kind a (dkAt dk k) b (dkAt dk (deskP s A dk last c t k).toNat) last c.skill) then (k : Int) else deskP s A dk last c t k)
    else deskP s A dk last c t k := by
  show (A[k]?).elim _ _ = _; rw [h]; rfl
def chosenP (s : StyV) (A : List AgV) (p : PlS) (c : CaV) (t : Int) : Int := deskP s A p.dk p.last c t A.length
def givenP (A : List AgV) (C : List CaV) (p : PlS) (t : Int) (i k : Nat) : PlS := (C[i]?).elim p fun c => (A[k]?).elim p fun a =>
  ⟨p.dk.set k ⟨t + c.talk, (dkAt p.dk k).en, (dkAt p.dk k).n + 1⟩, p.wt.set i ⟨3, ⟨c.id, a.key, if (wtAt p.wt i).how = 2 then 3 else 1, t, t + c.talk⟩⟩, a.key⟩
def givePL (s : StyV) (A : List AgV) (C : List CaV) (p : PlS) (t : Int) : List Nat → Option PlS
  | [] => none
  | i :: l => (C[i]?).elim (givePL s A C p t l) fun c => if chosenP s A p c t < 0 then givePL s A C p t l else some (givenP A C p t i (chosenP s A p c t).toNat)
def giveP (s : StyV) (A : List AgV) (C : List CaV) (p : PlS) (t : Int) : Option PlS := givePL s A C p t (lineP s C p.wt t)
def givesP (s : StyV) (A : List AgV) (C : List CaV) (t : Int) : Nat → PlS → PlS
  | 0, p => p
  | f + 1, p => (giveP s A C p t).elim p (givesP s A C t f)
theorem givesP_some {s : StyV} {A : List AgV} {C : List CaV} {t : Int} {f : Nat} {p p' : PlS} (h : giveP s A C p t = some p') : givesP s A C t (f + 1) p = givesP s A C t f p' := by
  show (giveP s A C p t).elim _ _ = _; rw [h]; rfl
theorem givesP_none {s : StyV} {A : List AgV} {C : List CaV} {t : Int} {f : Nat} {p : PlS} (h : giveP s A C p t = none) : givesP s A C t f p = p := by
  cases f with
  | zero => rfl
  | succ f => show (giveP s A C p t).elim _ _ = _; rw [h]; rfl
def momP (s : StyV) (A : List AgV) (C : List CaV) (p : PlS) (t : Int) : PlS :=
  let p1 : PlS := ⟨updA (endP t) A p.dk, updA (comeP t) C (updA (leaveP t) C p.wt), p.last⟩
  let p2 := givesP s A C t C.length p1
  ⟨p2.dk, updA (leaveP t) C p2.wt, p2.last⟩

/-! The next moment. -/
def minP (at_ : Int) (o : Option Int) (x : Int) : Option Int := if decide (at_ < x) && (o.elim true fun b => decide (x < b)) then some x else o
def waT1 (c : CaV) (x : WtV) : List Int := if x.how = 0 then [c.at_] else if x.how = 1 then [c.at_ + c.pat] else []
def waT (C : List CaV) (wt : List WtV) : Nat → List Int
  | 0 => []
  | k + 1 => waT C wt k ++ (C[k]?).elim [] fun c => waT1 c (wtAt wt k)
def waB (wt : List WtV) : Nat → Bool
  | 0 => false
  | k + 1 => waB wt k || (decide ((wtAt wt k).how = 0) || inL (wtAt wt k))
def dkT1 (a : AgV) (d : DkV) : List Int := (if 0 < d.tk then [d.tk] else []) ++ ((if 0 < d.n then [max d.tk d.en + a.wrap] else []) ++ (a.fr :: a.ps.map (·.2)))
def dkT (A : List AgV) (dk : List DkV) : Nat → List Int
  | 0 => []
  | k + 1 => dkT A dk k ++ (A[k]?).elim [] fun a => dkT1 a (dkAt dk k)
theorem waT_succ {C : List CaV} {wt : List WtV} {k : Nat} {c : CaV} (h : C[k]? = some c) : waT C wt (k + 1) = waT C wt k ++ waT1 c (wtAt wt k) := by
  show _ ++ (C[k]?).elim _ _ = _; rw [h]; rfl
theorem dkT_succ {A : List AgV} {dk : List DkV} {k : Nat} {a : AgV} (h : A[k]? = some a) : dkT A dk (k + 1) = dkT A dk k ++ dkT1 a (dkAt dk k) := by
  show _ ++ (A[k]?).elim _ _ = _; rw [h]; rfl
def minL (at_ : Int) (l : List Int) : Option Int := l.foldl (minP at_) none
theorem minL_app (at_ : Int) (l m : List Int) : minL at_ (l ++ m) = m.foldl (minP at_) (minL at_ l) := by unfold minL; rw [List.foldl_append]
def nextP (A : List AgV) (C : List CaV) (p : PlS) (at_ : Int) : Option Int := if waB p.wt C.length then minL at_ (waT C p.wt C.length ++ dkT A p.dk A.length) else none
theorem fold_min (at_ : Int) (l : List Int) : ∀ o : Option Int, (∀ b, o = some b → at_ < b) →
    (∀ b, l.foldl (minP at_) o = some b → at_ < b ∧ (o = some b ∨ b ∈ l) ∧ (∀ x ∈ l, at_ < x → b ≤ x) ∧ ∀ x, o = some x → b ≤ x) ∧ (l.foldl (minP at_) o = none → o = none ∧ ∀ x ∈ l, ¬ at_ < x) := by
  induction l with
  | nil =>
    intro o ho
    refine ⟨fun b hb => ⟨ho b hb, .inl hb, (fun x hx => by cases hx), fun x hx => ?_⟩, fun h => ⟨h, fun x hx => by cases hx⟩⟩
    change o = some b at hb
    rw [hb] at hx
    injection hx with hx
    omega
  | cons y l ih =>
    intro o ho
    show (∀ b, l.foldl (minP at_) (minP at_ o y) = some b → _) ∧ (l.foldl (minP at_) (minP at_ o y) = none → _)
    by_cases hy : at_ < y ∧ ∀ b, o = some b → y < b
    · have e : minP at_ o y = some y := by
        unfold minP
        rw [decide_eq_true hy.1, Bool.true_and]
        cases o with
        | none => rfl
        | some b => show (if decide (y < b) = true then _ else _) = _; rw [decide_eq_true (hy.2 b rfl)]; rfl
      rw [e]
      obtain ⟨h1, h2⟩ := ih (some y) (fun b hb => by injection hb with hb; subst hb; exact hy.1)
      refine ⟨fun b hb => ?_, fun hn => ?_⟩
      · obtain ⟨q1, q2, q3, q4⟩ := h1 b hb
        have q5 := q4 y rfl
        refine ⟨q1, ?_, ?_, ?_⟩
        · rcases q2 with q2 | q2
          · injection q2 with q2; subst q2; exact .inr (List.mem_cons_self ..)
          · exact .inr (List.mem_cons_of_mem _ q2)
        · intro x hx hl
          rcases List.mem_cons.1 hx with rfl | hx
          · exact q5
          · exact q3 x hx hl
        · intro x hx
          have := hy.2 x hx
          omega
      · have := (h2 hn).1
        cases this
    · have e : minP at_ o y = o := by
        unfold minP
        cases h3 : decide (at_ < y) with
        | false => rfl
        | true =>
          have h4 := of_decide_eq_true h3
          cases o with
          | none => exact absurd ⟨h4, fun b hb => by cases hb⟩ hy
          | some b =>
            show (if (true && decide (y < b)) = true then _ else _) = _
            cases h5 : decide (y < b) with
            | false => rfl
            | true => exact absurd ⟨h4, fun b' hb => by injection hb with hb; subst hb; exact of_decide_eq_true h5⟩ hy
      rw [e]
      obtain ⟨h1, h2⟩ := ih o ho
      refine ⟨fun b hb => ?_, fun hn => ?_⟩
      · obtain ⟨q1, q2, q3, q4⟩ := h1 b hb
        refine ⟨q1, ?_, ?_, q4⟩
        · rcases q2 with q2 | q2
          · exact .inl q2
          · exact .inr (List.mem_cons_of_mem _ q2)
        · intro x hx hl
          rcases List.mem_cons.1 hx with rfl | hx
          · cases o with
            | none => exact absurd ⟨hl, fun b hb => by cases hb⟩ hy
            | some b' =>
              have h6 := q4 b' rfl
              have h7 : ¬ x < b' := fun h => hy ⟨hl, fun b2 hb => by injection hb with hb; subst hb; exact h⟩
              omega
          · exact q3 x hx hl
      · obtain ⟨q1, q2⟩ := h2 hn
        refine ⟨q1, fun x hx hl => ?_⟩
        rcases List.mem_cons.1 hx with rfl | hx
        · subst q1; exact hy ⟨hl, fun b hb => by cases hb⟩
        · exact q2 x hx hl
theorem minL_some {at_ b : Int} {l : List Int} (h : minL at_ l = some b) : at_ < b ∧ b ∈ l ∧ ∀ x ∈ l, at_ < x → b ≤ x := by
  obtain ⟨q1, q2, q3, _⟩ := (fold_min at_ l none (fun b hb => by cases hb)).1 b h
  exact ⟨q1, q2.elim (fun e => by cases e) id, q3⟩
theorem minL_none {at_ : Int} {l : List Int} (h : minL at_ l = none) : ∀ x ∈ l, ¬ at_ < x := ((fold_min at_ l none (fun b hb => by cases hb)).2 h).2

/-! The play up to a moment. -/
def plyP (s : StyV) (A : List AgV) (C : List CaV) (upto : Int) : Nat → PlS → Int → PlS
  | 0, p, _ => p
  | f + 1, p, at_ => (nextP A C p at_).elim p fun t => if t ≤ upto then plyP s A C upto f (momP s A C p t) t else p
def newP (A : List AgV) (C : List CaV) : PlS := ⟨List.replicate A.length ⟨0, 0, 0⟩, C.map fun c => ⟨0, ⟨c.id, ⟨#[]⟩, 4, 0, 0⟩⟩, ⟨#[]⟩⟩
end
end Go.Proofs.YtelpakmiciilgaaGreatDoor
/- Plain Lean: what is wrong with seats; which part of those who count. Conditions: none. -/
namespace Go.Proofs.YtelpakmiciilgaaGreatDoor
section
open Go.RowKit

def SeOk (s : SeV) : Prop := s.ca.size ≤ 1000 ∧ s.ag.size ≤ 1000 ∧ -1152921504606846976 ≤ s.beg ∧ s.beg ≤ 1152921504606846976 ∧ -1152921504606846976 ≤ s.fin ∧ s.fin ≤ 1152921504606846976
def Ses (w : World) (lo : Nat) (A : Option Addr) (n c : Nat) (l : List SeV) : Prop := Recs SeV.row 5 w lo A n c l ∧ ∀ s ∈ l, SeOk s
theorem Ses.grown {w w' : World} {lo : Nat} {A : Option Addr} {n c : Nat} {l : List SeV} (h : Ses w lo A n c l) {r : Option Nat} (hg : w.grownBy w' r) (hr : ∀ g, r = some g → g < lo) : Ses w' lo A n c l := ⟨h.1.grown hg hr, h.2⟩
def tkB (s : SeV) : Bool := s.how == 1 || s.how == 3
def seE (c : CaV) (s : SeV) : Int :=
  if nb s.ca = nb c.id then (if inB s.how 1 4 then (if tkB s then (if keyOk (nb s.ag) then (if c.at_ ≤ s.beg ∧ s.beg ≤ 691372800000 ∧ s.fin = s.beg + c.talk then 0 else 3) else 5)
    else (if nb s.ag = [] then (if s.how = 2 then (if s.beg = c.at_ + c.pat ∧ s.fin = s.beg then 0 else 3) else (if s.beg = 0 ∧ s.fin = 0 then 0 else 3)) else 3)) else 4) else 3
def seAt (C : List CaV) (l : List SeV) (i : Nat) : Int := (l[i]?).elim 0 fun s => (C[i]?).elim 0 fun c => seE c s
def seatsE (C : List CaV) (l : List SeV) : Int := if l.length = C.length then fstE (seAt C l) l.length else 3
def chkE (C : List CaV) (l : List SeV) : Int := if casE C = 0 then seatsE C l else casE C
theorem seAt_eq {C : List CaV} {l : List SeV} {i : Nat} {c : CaV} {s : SeV} (h1 : l[i]? = some s) (h2 : C[i]? = some c) : seAt C l i = seE c s := by unfold seAt; rw [h1, h2]; rfl

/-! Right callers have numbers in bounds. -/
theorem casE_num {C : List CaV} (h : casE C = 0) : ∀ c ∈ C, caNum c = true := by
  intro c hc
  unfold casE at h
  split at h
  · cases h
  · obtain ⟨i, hi⟩ := List.mem_iff_getElem?.1 hc
    have hf := fstE_ev h i (List.getElem?_eq_some_iff.1 hi).1
    cases hn : caNum c with
    | true => rfl
    | false =>
      exfalso
      cases hk : keyOk (nb c.id) && keyOk (nb c.skill) with
      | false => rw [caAt_5 hi hk] at hf; cases hf
      | true =>
        cases hm : memS ((C.take i).map (·.id)) c.id with
        | true => rw [caAt_6 hi hk hm] at hf; cases hf
        | false => rw [caAt_1 hi hk hm hn] at hf; cases hf
theorem caNum_n {c : CaV} (h : caNum c = true) : CaN c := by
  unfold caNum momB inB at h
  simp only [Bool.and_eq_true, decide_eq_true_eq] at h
  obtain ⟨⟨⟨⟨h1, h2⟩, h3⟩, h4⟩, h5⟩ := h
  exact ⟨by omega, by omega, by omega, by omega, by omega, by omega, by omega, by omega⟩

/-! Parts. -/
def lowV (a b : Int) : Int × Int := (a / (Nat.gcd a.toNat b.toNat : Int), b / (Nat.gcd a.toNat b.toNat : Int))
/-- Does a caller count, who may have gone after less than 'short'? -/
def ctB (short : Int) (c : CaV) (s : SeV) : Bool := !(s.how == 2 && decide (s.beg - c.at_ < short))
def ctL (short : Int) (C : List CaV) (l : List SeV) : Nat → List Nat
  | 0 => []
  | k + 1 => ctL short C l k ++ (l[k]?).elim [] fun s => (C[k]?).elim [] fun c => if ctB short c s then [k] else []
def soAt (so : CaV → SeV → Bool) (C : List CaV) (l : List SeV) (i : Nat) : Bool := (l[i]?).elim false fun s => (C[i]?).elim false fun c => so c s
def soN (so : CaV → SeV → Bool) (C : List CaV) (l : List SeV) (L : List Nat) : Nat := L.countP (soAt so C l)
def inTime (most : Int) (c : CaV) (s : SeV) : Bool := s.how == 1 && decide (s.beg - c.at_ ≤ most)
def goneB (_c : CaV) (s : SeV) : Bool := s.how == 2
def partL (so : CaV → SeV → Bool) (short : Int) (C : List CaV) (l : List SeV) : List Nat := ctL short C l l.length
section
variable {short : Int} {C : List CaV} {l : List SeV} {so : CaV → SeV → Bool} {k : Nat} {c : CaV} {s : SeV}
theorem ctL_succ (h1 : l[k]? = some s) (h2 : C[k]? = some c) : ctL short C l (k + 1) = ctL short C l k ++ (if ctB short c s then [k] else []) := by
  show _ ++ (l[k]?).elim _ _ = _; rw [h1]; show _ ++ (C[k]?).elim _ _ = _; rw [h2]; rfl
theorem ctL_len (k : Nat) : (ctL short C l k).length ≤ k := by
  induction k with
  | zero => exact Nat.le_refl _
  | succ k ih =>
    show (ctL short C l k ++ (l[k]?).elim [] _).length ≤ _
    rw [List.length_append]
    cases l[k]? with
    | none => simp; omega
    | some s =>
      cases C[k]? with
      | none => simp; omega
      | some c => simp only [Option.elim]; split <;> simp <;> omega
theorem ctL_mem {i : Nat} (h : i ∈ ctL short C l k) : i < k := by
  induction k with
  | zero => cases h
  | succ k ih =>
    change i ∈ ctL short C l k ++ (l[k]?).elim [] _ at h
    rcases List.mem_append.1 h with h | h
    · have := ih h; omega
    · cases h1 : l[k]? with
      | none => rw [h1] at h; cases h
      | some s =>
        rw [h1] at h
        cases h2 : C[k]? with
        | none => rw [h2] at h; cases h
        | some c =>
          rw [h2] at h
          simp only [Option.elim] at h
          split at h
          · rw [List.mem_singleton.1 h]; omega
          · cases h
theorem soAt_eq (h1 : l[k]? = some s) (h2 : C[k]? = some c) : soAt so C l k = so c s := by unfold soAt; rw [h1, h2]; rfl
theorem soN_snoc (L : List Nat) (k : Nat) : soN so C l (L ++ [k]) = soN so C l L + (if soAt so C l k then 1 else 0) := by
  unfold soN; rw [List.countP_append]; cases h : soAt so C l k <;> simp [h]
theorem soN_le (L : List Nat) : soN so C l L ≤ L.length := List.countP_le_length
end
/-- Those who were answered, and how long they waited. -/
def waN (l : List SeV) : Nat → Nat
  | 0 => 0
  | k + 1 => waN l k + (l[k]?).elim 0 fun s => if s.how = 1 then 1 else 0
def waS (C : List CaV) (l : List SeV) : Nat → Int
  | 0 => 0
  | k + 1 => waS C l k + (l[k]?).elim 0 fun s => (C[k]?).elim 0 fun c => if s.how = 1 then s.beg - c.at_ else 0
/-! What the three answer: a fraction and an error. -/
def frV (n d e : Int) : Value := .tuple #[.agg #[.int .i64 n, .int .i64 d], .int .i64 e]
def partV (some_ all : Nat) : Value := if all = 0 then frV 0 0 8 else frV (lowV some_ all).1 (lowV some_ all).2 0
theorem chkE_num {C : List CaV} {l : List SeV} (h : chkE C l = 0) : casE C = 0 ∧ seatsE C l = 0 ∧ l.length = C.length ∧ C.length ≤ 500 := by
  unfold chkE at h
  by_cases c : casE C = 0
  · rw [if_pos c] at h
    refine ⟨c, h, ?_, ?_⟩
    · unfold seatsE at h
      split at h
      · assumption
      · cases h
    · unfold casE at c
      split at c
      · cases c
      · omega
  · rw [if_neg c] at h; exact absurd h c
end
end Go.Proofs.YtelpakmiciilgaaGreatDoor
/- A room of the document as it lies in memory: its block, and four slices of the call's own. Conditions: none. -/
namespace Go.Proofs.YtelpakmiciilgaaGreatDoor
section
open Go.RowKit

def bRow (b : Bool) : List Value := [.bool b]
theorem bRow_len (b : Bool) : (bRow b).length = 1 := rfl
/-- Where a room and its slices lie. -/
structure RoC where
  g : Nat
  aA : Option Addr
  ac : Nat
  cA : Option Addr
  cc : Nat
  dA : Option Addr
  dc : Nat
  sA : Option Addr
  sc : Nat
  bA : Option Addr
  bc : Nat
  nA : Option Addr
  nc : Nat
section
variable {w w' : World} {lo m n : Nat} {R : RoC} {s : StyV} {st : RoS}
end
end
end Go.Proofs.YtelpakmiciilgaaGreatDoor
/- A place of an own slice of one-cell elements is stored; the places behind one are cleared. Over any program. Conditions: none. -/
namespace Go.Proofs.YtelpakmiciilgaaGreatDoor
section
open Go.RowKit

section
variable {P : Program} {lo n c g : Nat} {e : TypeId} {w : World} {o : Oper} {a : Act} {K : Act → World → Prop} {Q : Exit → Act → World → Prop} {α : Type} {row : α → List Value} {l : List α}
theorem flat_one (hrow : ∀ a, (row a).length = 1) {i : Nat} (hi : i < l.length) {z : α} {v : Value} (hz : row z = [v]) : (l.flatMap row).take i ++ [v] ++ (l.flatMap row).drop (i + 1) = (l.set i z).flatMap row := by
  have h := flat_set hrow (by decide) (List.getElem?_eq_getElem hi) (a' := z) (ys := [v]) 0 (by simp) (by rw [hz, List.take_zero, List.nil_append, List.drop_of_length_le (by rw [hrow]; simp), List.append_nil])
  simpa [Nat.mul_one] using h
theorem wp_store_one {ty : TypeId} (hsz : (P.info? ty).map (·.size) = some 1) (hrow : ∀ a, (row a).length = 1) (x y : Operand) (ho : o.op = .store ty x y) (i : Nat) (hx : a.eval x = .pointer (some ⟨g, i, none⟩)) (z : α) (v : Value) (hy : a.eval y = v) (hv : v.cells = #[v]) (hz : row z = [v])
    (h : OwnR row 1 w lo e (some ⟨g, 0, none⟩) n c l) (hi : i < n) (h1 : v.oneCell' = true)
    (hK : ∀ w', OwnR row 1 w' lo e (some ⟨g, 0, none⟩) n c (l.set i z) → w.grownBy w' (some g) → K (a.put o.dst undef) w') : o.wp P a w K Q := by
  obtain ⟨w', hrun, h2, hg⟩ := run_storeCells_own (P := P) [v] i 0 w _ h.1 (by intro u hu; rw [List.mem_singleton.1 hu]; exact h1) (by simp; omega)
  have hf := flat_one hrow (l := l) (by rw [h.2]; exact hi) hz
  have h3 : Own w' lo e 1 (some ⟨g, 0, none⟩) n c ((l.set i z).flatMap row) := by rw [← hf]; simpa using h2
  cases hq : P.info? ty with
  | none => simp [hq] at hsz
  | some inf =>
    have hs : inf.size = 1 := by simpa [hq] using hsz
    unfold Oper.wp execOp
    have hst : (Instr.storeAt ty (.pointer (some ⟨g, i, none⟩)) v).run P w = .ok () w' := by
      simp [Instr.storeAt, Instr.sureAddr, storeVar, sizeOf, typeInfo, hq, hs, hv, hrun]
    simp only [ho, hx, hy, Sem.run_bind, Sem.run_pure, Result.andThen_ok, hst]
    exact hK w' ⟨h3, by rw [List.length_set]; exact h.2⟩ hg
theorem wpl_store_one {ops : Array Oper} {rest : List Oper} {ty : TypeId} (hgd : o.guard = none) (hsz : (P.info? ty).map (·.size) = some 1) (hrow : ∀ a, (row a).length = 1) (x y : Operand) (ho : o.op = .store ty x y) (i : Nat) (hx : a.eval x = .pointer (some ⟨g, i, none⟩)) (z : α) (v : Value) (hy : a.eval y = v) (hv : v.cells = #[v]) (hz : row z = [v])
    (h : OwnR row 1 w lo e (some ⟨g, 0, none⟩) n c l) (hi : i < n) (h1 : v.oneCell' = true)
    (hK : ∀ w', OwnR row 1 w' lo e (some ⟨g, 0, none⟩) n c (l.set i z) → w.grownBy w' (some g) → wpList P ops Q rest (a.put o.dst undef) w') : wpList P ops Q (o :: rest) a w :=
  wpList_plain hgd fun _ hk => wp_store_one hsz hrow x y ho i hx z v hy hv hz h hi h1 fun w' h2 hg => hk _ _ (hK w' h2 hg)
theorem wp_store_cell {ty : TypeId} (hsz : (P.info? ty).map (·.size) = some 1) (x y : Operand) (ho : o.op = .store ty x y) (b i : Nat) (hx : a.eval x = .pointer (some ⟨b, i, none⟩)) (v : Value) (hy : a.eval y = v) (hv : v.cells = #[v]) (h1 : v.oneCell' = true)
    (u : Value) (hc : w.cell? ⟨b, i, none⟩ = some u) (hf : w.frozen? ⟨b, i, none⟩ = false) (hK : K (a.put o.dst undef) (w.setCell ⟨b, i, none⟩ v)) : o.wp P a w K Q := by
  cases hq : P.info? ty with
  | none => simp [hq] at hsz
  | some inf =>
    have hs : inf.size = 1 := by simpa [hq] using hsz
    have hrun : (storeCells ⟨b, i, none⟩ [v] 0).run P w = .ok () (w.setCell ⟨b, i, none⟩ v) := by
      have hst : (store ((⟨b, i, none⟩ : Addr).add 0) v).run P w = .ok () (w.setCell ⟨b, i, none⟩ v) := by
        rw [add_mk, Nat.add_zero, run_store P w _ v _ h1, hc]
        simp [hf]
      simp only [storeCells, Sem.run_bind, hst, Result.andThen_ok]
      rfl
    unfold Oper.wp execOp
    have hst : (Instr.storeAt ty (.pointer (some ⟨b, i, none⟩)) v).run P w = .ok () (w.setCell ⟨b, i, none⟩ v) := by
      simp [Instr.storeAt, Instr.sureAddr, storeVar, sizeOf, typeInfo, hq, hs, hv, hrun]
    simp only [ho, hx, hy, Sem.run_bind, Sem.run_pure, Result.andThen_ok, hst]
    exact hK
/-- The places from i on are cleared. -/
theorem run_clear_own {t ty : TypeId} {z : Value} (ht : P.underlying t = some (.slice e)) (hv : ∀ w, (zeroValue e).run P w = .ok z w) (hz : z.cells = #[z]) (h1 : z.oneCell' = true) {xs : List Value} (h : Own w lo e 1 (some ⟨g, 0, none⟩) n c xs) (i : Nat) (hi : i ≤ n) (A : Option Addr) (hA : i < n → A = some ⟨g, i, none⟩) (m cc : Nat) (hm : m = n - i) :
    ∃ w', (Builtin.clear_ #[t] ty #[.slice A m cc]).run P w = .ok (.tuple #[]) w' ∧ Own w' lo e 1 (some ⟨g, 0, none⟩) n c (xs.take i ++ List.replicate m z) ∧ w.grownBy w' (some g) := by
  subst hm
  by_cases hlt : i < n
  · rw [hA hlt]
    have hzc : (Builtin.zeroCells z.cells (n - i)).toList = List.replicate (n - i) z := by rw [hz, zeroCells_one]; simp
    obtain ⟨w', hrun, h2, hg⟩ := run_storeCells_own (P := P) (List.replicate (n - i) z) i 0 w xs h (fun v hv' => by rw [List.eq_of_mem_replicate hv']; exact h1) (by simp; omega)
    refine ⟨w', ?_, ?_, hg⟩
    · obtain ⟨k, hk⟩ : ∃ k, n - i = k + 1 := ⟨n - i - 1, by omega⟩
      rw [hk] at hzc hrun ⊢
      simp [Builtin.clear_, run_underlying ht, hv, hzc, hrun]
    · have hl := h.len
      rw [List.drop_of_length_le (by simp; omega), List.append_nil] at h2
      simpa using h2
  · have h0 : n - i = 0 := by omega
    rw [h0]
    refine ⟨w, ?_, ?_, gr_refl _ _⟩
    · cases A <;> simp [Builtin.clear_, run_underlying ht]
    · have hl := h.len
      rw [List.take_of_length_le (by omega)]; simpa using h
end
end
end Go.Proofs.YtelpakmiciilgaaGreatDoor
/- Moves in drawn regions: two or three operations that come up in any order; whole loads. Conditions: none. -/
namespace Go.Proofs.YtelpakmiciilgaaGreatDoor
section
open Go.RowKit

theorem exec_ldr {P : Program} {w : World} {o : Oper} {ev : Operand → Value} {ty : TypeId} {n : Nat} (T : StructT P ty n) (x : Operand) (ho : o.op = .load ty x) (a : Addr) (hx : ev x = .pointer (some a)) (cs : List Value) (hb : ∀ (j : Nat) (u : Value), cs[j]? = some u → w.cell? (a.add j) = some u) (hn : cs.length = n) :
    (execOp ev o).run P w = .ok (.value (.agg cs.toArray)) w := by
  unfold execOp
  simp only [ho, hx, Instr.loadAt, Instr.sureAddr, Sem.run_bind, Sem.run_pure, Result.andThen_ok, run_load_at T hn hb]
theorem exec_ldb {P : Program} {w : World} {o : Oper} {ev : Operand → Value} {ty : TypeId} {n : Nat} (T : StructT P ty n) (x : Operand) (ho : o.op = .load ty x) (g : Nat) (hx : ev x = .pointer (some ⟨g, 0, none⟩)) (t : TypeId) (cs : List Value) (hb : Blk w g t cs.toArray) (hn : cs.length = n) :
    (execOp ev o).run P w = .ok (.value (.agg cs.toArray)) w := by
  unfold execOp
  simp only [ho, hx, Instr.loadAt, Instr.sureAddr, Sem.run_bind, Sem.run_pure, Result.andThen_ok, run_load_at T hn (fun j u hu => by rw [add_mk, Nat.zero_add, hb.cell]; simpa using hu)]
theorem H_runTwo {P : Program} {ls : List Oper} {md : Region.Mode} {Q : Exit → Act → World → Prop} {S : World → Prop} {fuel k1 k2 : Nat} {listed : Array Bool} {o1 o2 : Oper} {a : Act} {w : World} (ho1 : opAt ls k1 = some o1) (ho2 : opAt ls k2 = some o2) (hr : Region.ready md ls.toArray listed = [k1, k2]) (hw1 : Region.wanted o1 (yielded ls.toArray a.tmps) = true) (hw2 : Region.wanted o2 (yielded ls.toArray a.tmps) = true)
    (h1 : ∀ K : Act → World → Prop, (∀ a' w', S w' → wpAnyH P md ls.toArray Q S fuel (listed.setIfInBounds k1 true) a' w' → K a' w') → o1.wp P a w K Q)
    (h2 : ∀ K : Act → World → Prop, (∀ a' w', S w' → wpAnyH P md ls.toArray Q S fuel (listed.setIfInBounds k2 true) a' w' → K a' w') → o2.wp P a w K Q) : wpAnyH P md ls.toArray Q S (fuel + 1) listed a w := by
  refine ⟨fun h => (by rw [hr] at h; cases h), fun i hi => ?_⟩
  rw [hr] at hi
  have hik : i = k1 ∨ i = k2 := by simpa using hi
  rcases hik with rfl | rfl
  · rw [opAt_eq] at ho1
    unfold wpOp
    simp only [ho1, hw1, if_true]
    exact .inl (h1 _ fun a' w' hs h => ⟨hs, h⟩)
  · rw [opAt_eq] at ho2
    unfold wpOp
    simp only [ho2, hw2, if_true]
    exact .inl (h2 _ fun a' w' hs h => ⟨hs, h⟩)
theorem H_runThree {P : Program} {ls : List Oper} {md : Region.Mode} {Q : Exit → Act → World → Prop} {S : World → Prop} {fuel k1 k2 k3 : Nat} {listed : Array Bool} {o1 o2 o3 : Oper} {a : Act} {w : World} (ho1 : opAt ls k1 = some o1) (ho2 : opAt ls k2 = some o2) (ho3 : opAt ls k3 = some o3) (hr : Region.ready md ls.toArray listed = [k1, k2, k3])
    (hw1 : Region.wanted o1 (yielded ls.toArray a.tmps) = true) (hw2 : Region.wanted o2 (yielded ls.toArray a.tmps) = true) (hw3 : Region.wanted o3 (yielded ls.toArray a.tmps) = true)
    (h1 : ∀ K : Act → World → Prop, (∀ a' w', S w' → wpAnyH P md ls.toArray Q S fuel (listed.setIfInBounds k1 true) a' w' → K a' w') → o1.wp P a w K Q)
    (h2 : ∀ K : Act → World → Prop, (∀ a' w', S w' → wpAnyH P md ls.toArray Q S fuel (listed.setIfInBounds k2 true) a' w' → K a' w') → o2.wp P a w K Q)
    (h3 : ∀ K : Act → World → Prop, (∀ a' w', S w' → wpAnyH P md ls.toArray Q S fuel (listed.setIfInBounds k3 true) a' w' → K a' w') → o3.wp P a w K Q) : wpAnyH P md ls.toArray Q S (fuel + 1) listed a w := by
  refine ⟨fun h => (by rw [hr] at h; cases h), fun i hi => ?_⟩
  rw [hr] at hi
  have hik : i = k1 ∨ i = k2 ∨ i = k3 := by simpa using hi
  rcases hik with rfl | rfl | rfl
  · rw [opAt_eq] at ho1
    unfold wpOp
    simp only [ho1, hw1, if_true]
    exact .inl (h1 _ fun a' w' hs h => ⟨hs, h⟩)
  · rw [opAt_eq] at ho2
    unfold wpOp
    simp only [ho2, hw2, if_true]
    exact .inl (h2 _ fun a' w' hs h => ⟨hs, h⟩)
  · rw [opAt_eq] at ho3
    unfold wpOp
    simp only [ho3, hw3, if_true]
    exact .inl (h3 _ fun a' w' hs h => ⟨hs, h⟩)
section
variable {P : Program} {ls : List Oper} {md : Region.Mode} {Q : Exit → Act → World → Prop} {S : World → Prop} {b : Nat}
/-- Two that can come up, either first. -/
theorem B_runTwo {fuel k1 k2 : Nat} {listed : Array Bool} {o1 o2 : Oper} {a : Act} {w : World} (ho1 : opAt ls k1 = some o1) (ho2 : opAt ls k2 = some o2) (hr : Region.ready md ls.toArray listed = [k1, k2]) (hw1 : Region.wanted o1 (yielded ls.toArray a.tmps) = true) (hw2 : Region.wanted o2 (yielded ls.toArray a.tmps) = true)
    (h1 : ∀ K : Act → World → Prop, (∀ a' w', ((listed.setIfInBounds k1 true).getD b false = true ∨ S w') → wpAnyB P md ls.toArray Q S b fuel (listed.setIfInBounds k1 true) a' w' → K a' w') → o1.wp P a w K Q)
    (h2 : ∀ K : Act → World → Prop, (∀ a' w', ((listed.setIfInBounds k2 true).getD b false = true ∨ S w') → wpAnyB P md ls.toArray Q S b fuel (listed.setIfInBounds k2 true) a' w' → K a' w') → o2.wp P a w K Q) : wpAnyB P md ls.toArray Q S b (fuel + 1) listed a w := by
  refine ⟨fun h => (by rw [hr] at h; cases h), fun i hi => ?_⟩
  rw [hr] at hi
  have hik : i = k1 ∨ i = k2 := by simpa using hi
  rcases hik with rfl | rfl
  · rw [opAt_eq] at ho1
    unfold wpOp
    simp only [ho1, hw1, if_true]
    exact .inl (h1 _ fun a' w' hs h => ⟨hs, h⟩)
  · rw [opAt_eq] at ho2
    unfold wpOp
    simp only [ho2, hw2, if_true]
    exact .inl (h2 _ fun a' w' hs h => ⟨hs, h⟩)
end
end
end Go.Proofs.YtelpakmiciilgaaGreatDoor
/- Plain Lean: which part of an agent's presence is work: windows without windows (the document), works in order (the program). Conditions: none. -/
namespace Go.Proofs.YtelpakmiciilgaaGreatDoor
section
open Go.RowKit

/-! Sums over moments. -/
def sumTo (f : Int → Int) : Nat → Int
  | 0 => 0
  | n + 1 => sumTo f n + f n
theorem sumTo_congr {f g : Int → Int} {n : Nat} (h : ∀ x : Int, 0 ≤ x → x < n → f x = g x) : sumTo f n = sumTo g n := by
  induction n with
  | zero => rfl
  | succ n ih =>
    show sumTo f n + f n = sumTo g n + g n
    rw [ih fun x h0 h1 => h x h0 (by omega), h n (by omega) (by omega)]
theorem sumTo_add (f g : Int → Int) (n : Nat) : sumTo (fun x => f x + g x) n = sumTo f n + sumTo g n := by
  induction n with
  | zero => rfl
  | succ n ih =>
    show sumTo _ n + (f n + g n) = (sumTo f n + f n) + (sumTo g n + g n)
    rw [ih]; omega
theorem sumTo_le {f g : Int → Int} (h : ∀ x, f x ≤ g x) (n : Nat) : sumTo f n ≤ sumTo g n := by
  induction n with
  | zero => exact Int.le_refl _
  | succ n ih =>
    show sumTo f n + f n ≤ sumTo g n + g n
    have := h n
    omega
theorem sumTo_const (c : Int) (n : Nat) : sumTo (fun _ => c) n = c * n := by
  induction n with
  | zero => simp [sumTo]
  | succ n ih =>
    show sumTo _ n + c = _
    rw [ih, Int.natCast_add, Int.mul_add]; simp
def inW (w : Int × Int) (x : Int) : Bool := decide (w.1 ≤ x) && decide (x < w.2)
def iB (b : Bool) : Int := if b then 1 else 0
theorem iB_0 (b : Bool) : 0 ≤ iB b ∧ iB b ≤ 1 := by cases b <;> decide
theorem inW_iff {w : Int × Int} {x : Int} : inW w x = true ↔ w.1 ≤ x ∧ x < w.2 := by unfold inW; simp
theorem sumTo_win {a b : Int} (h0 : 0 ≤ a) (n : Nat) (hb : b ≤ n) : sumTo (fun x => iB (inW (a, b) x)) n = max 0 (b - a) := by
  have key : ∀ k : Nat, sumTo (fun x => iB (inW (a, b) x)) k = max 0 (min b k - a) := by
    intro k
    induction k with
    | zero => show (0 : Int) = _; omega
    | succ k ih =>
      show sumTo _ k + iB (inW (a, b) k) = _
      rw [ih]
      by_cases h : a ≤ (k : Int) ∧ (k : Int) < b
      · have e : inW (a, b) k = true := inW_iff.2 h
        rw [e]; show _ + (1 : Int) = _
        omega
      · have e : inW (a, b) k = false := by
          cases hq : inW (a, b) (k : Int) with
          | false => rfl
          | true => exact absurd (inW_iff.1 hq) h
        rw [e]; show _ + (0 : Int) = _
        omega
  rw [key n]
  omega

/-! Windows: how many hold a moment, how long they are together. -/
def multW : List (Int × Int) → Int → Int
  | [], _ => 0
  | w :: l, x => iB (inW w x) + multW l x
def longW : List (Int × Int) → Int
  | [] => 0
  | w :: l => (w.2 - w.1) + longW l
def less1 (w x : Int × Int) : List (Int × Int) := (if x.1 < min x.2 w.1 then [(x.1, min x.2 w.1)] else []) ++ (if max x.1 w.2 < x.2 then [(max x.1 w.2, x.2)] else [])
def lessW (l : List (Int × Int)) (w : Int × Int) : List (Int × Int) := l.flatMap (less1 w)
theorem take_snoc {α : Type} {l : List α} {k : Nat} {z : α} (h : l[k]? = some z) : l.take (k + 1) = l.take k ++ [z] := by
  rw [List.take_add_one, h]; rfl
theorem multW_app (l m : List (Int × Int)) (x : Int) : multW (l ++ m) x = multW l x + multW m x := by
  induction l with
  | nil => show multW m x = 0 + _; omega
  | cons w l ih => show _ + multW (l ++ m) x = (_ + _) + _; rw [ih]; omega
theorem longW_app (l m : List (Int × Int)) : longW (l ++ m) = longW l + longW m := by
  induction l with
  | nil => show longW m = 0 + _; omega
  | cons w l ih => show _ + longW (l ++ m) = (_ + _) + _; rw [ih]; omega
theorem multW_0 (l : List (Int × Int)) (x : Int) : 0 ≤ multW l x := by
  induction l with
  | nil => exact Int.le_refl _
  | cons w l ih => have := (iB_0 (inW w x)).1; show 0 ≤ _ + _; omega
theorem less1_mult {w : Int × Int} (hw : w.1 ≤ w.2) (y : Int × Int) (x : Int) : multW (less1 w y) x = if inW w x then 0 else iB (inW y x) := by
  obtain ⟨a, b⟩ := w
  obtain ⟨c, d⟩ := y
  unfold less1
  rw [multW_app]
  have e1 : multW (if c < min d a then [(c, min d a)] else []) x = iB (decide (c ≤ x ∧ x < d ∧ x < a)) := by
    split
    · show iB (inW (c, min d a) x) + 0 = _
      rw [Int.add_zero]; congr 1
      rw [Bool.eq_iff_iff, inW_iff, decide_eq_true_eq]
      show c ≤ x ∧ x < min d a ↔ _
      omega
    · have : ¬ (c ≤ x ∧ x < d ∧ x < a) := by omega
      rw [decide_eq_false this]; rfl
  have e2 : multW (if max c b < d then [(max c b, d)] else []) x = iB (decide (c ≤ x ∧ x < d ∧ b ≤ x)) := by
    split
    · show iB (inW (max c b, d) x) + 0 = _
      rw [Int.add_zero]; congr 1
      rw [Bool.eq_iff_iff, inW_iff, decide_eq_true_eq]
      show max c b ≤ x ∧ x < d ↔ _
      omega
    · have : ¬ (c ≤ x ∧ x < d ∧ b ≤ x) := by omega
      rw [decide_eq_false this]; rfl
  show multW (if c < min d a then [(c, min d a)] else []) x + multW (if max c b < d then [(max c b, d)] else []) x = _
  rw [e1, e2]
  have hw' : a ≤ b := hw
  by_cases h1 : inW (a, b) x = true
  · rw [if_pos h1]
    have h2 := inW_iff.1 h1
    have h3 : a ≤ x ∧ x < b := h2
    rw [decide_eq_false (by omega), decide_eq_false (by omega)]; rfl
  · rw [if_neg h1]
    have h3 : ¬ (a ≤ x ∧ x < b) := fun h => h1 (inW_iff.2 h)
    by_cases h4 : inW (c, d) x = true
    · rw [h4]
      have h5 : c ≤ x ∧ x < d := inW_iff.1 h4
      by_cases h6 : x < a
      · rw [decide_eq_true (by omega), decide_eq_false (by omega)]; rfl
      · rw [decide_eq_false (by omega), decide_eq_true (by omega)]; rfl
    · have h5 : ¬ (c ≤ x ∧ x < d) := fun h => h4 (inW_iff.2 h)
      have h6 : inW (c, d) x = false := by simpa using h4
      rw [h6, decide_eq_false (by omega), decide_eq_false (by omega)]; rfl
theorem lessW_mult {w : Int × Int} (hw : w.1 ≤ w.2) (l : List (Int × Int)) (x : Int) : multW (lessW l w) x = if inW w x then 0 else multW l x := by
  induction l with
  | nil => unfold lessW; show (0 : Int) = if inW w x then 0 else 0; split <;> rfl
  | cons y l ih =>
    show multW (less1 w y ++ lessW l w) x = if inW w x then 0 else iB (inW y x) + multW l x
    rw [multW_app, less1_mult hw, ih]
    split <;> omega
/-- Windows that lie in 0 .. n, none of them turned round. -/
def GoodW (n : Nat) (l : List (Int × Int)) : Prop := ∀ w ∈ l, 0 ≤ w.1 ∧ w.1 ≤ w.2 ∧ w.2 ≤ n
theorem GoodW.app {n : Nat} {l m : List (Int × Int)} (h : GoodW n l) (h2 : GoodW n m) : GoodW n (l ++ m) := fun w hw => (List.mem_append.1 hw).elim (h w) (h2 w)
theorem GoodW.take {n : Nat} {l : List (Int × Int)} (h : GoodW n l) (k : Nat) : GoodW n (l.take k) := fun w hw => h w (List.mem_of_mem_take hw)
theorem less1_good {n : Nat} {w y : Int × Int} (h : 0 ≤ y.1 ∧ y.1 ≤ y.2 ∧ y.2 ≤ n) : ∀ z ∈ less1 w y, 0 ≤ z.1 ∧ z.1 < z.2 ∧ z.2 ≤ n := by
  intro z hz
  unfold less1 at hz
  rcases List.mem_append.1 hz with h1 | h1
  · split at h1
    · rw [List.mem_singleton.1 h1]
      refine ⟨h.1, by assumption, ?_⟩
      show min y.2 w.1 ≤ n
      omega
    · cases h1
  · split at h1
    · rw [List.mem_singleton.1 h1]
      refine ⟨?_, by assumption, h.2.2⟩
      show 0 ≤ max y.1 w.2
      omega
    · cases h1
theorem lessW_pos {n : Nat} {w : Int × Int} {l : List (Int × Int)} (h : GoodW n l) : ∀ z ∈ lessW l w, 0 ≤ z.1 ∧ z.1 < z.2 ∧ z.2 ≤ n := by
  intro z hz
  obtain ⟨y, hy, hz⟩ := List.mem_flatMap.1 hz
  exact less1_good (h y hy) z hz
theorem lessW_good {n : Nat} {w : Int × Int} {l : List (Int × Int)} (h : GoodW n l) : GoodW n (lessW l w) := fun z hz => by
  obtain ⟨a, b, c⟩ := lessW_pos h z hz
  exact ⟨a, by omega, c⟩
theorem longW_sum {n : Nat} {l : List (Int × Int)} (h : GoodW n l) : longW l = sumTo (multW l) n := by
  induction l with
  | nil =>
    show (0 : Int) = sumTo (fun _ => 0) n
    rw [sumTo_const]; simp
  | cons w l ih =>
    obtain ⟨a, b, c⟩ := h w (List.mem_cons_self ..)
    show (w.2 - w.1) + longW l = sumTo (fun x => iB (inW w x) + multW l x) n
    rw [sumTo_add, ih fun z hz => h z (List.mem_cons_of_mem _ hz), sumTo_win a n c]
    omega
theorem long_len {l : List (Int × Int)} (h : ∀ w ∈ l, w.1 < w.2) : (l.length : Int) ≤ longW l := by
  induction l with
  | nil => exact Int.le_refl _
  | cons w l ih =>
    have h1 := h w (List.mem_cons_self ..)
    have h2 := ih fun z hz => h z (List.mem_cons_of_mem _ hz)
    show ((l.length + 1 : Nat) : Int) ≤ (w.2 - w.1) + longW l
    omega
/-- Windows of a presence: no moment lies in two of them. -/
structure WinOk (n : Nat) (l : List (Int × Int)) : Prop where
  good : GoodW n l
  one : ∀ x, multW l x ≤ 1
  len : l.length ≤ n + 1
theorem mult_take {l : List (Int × Int)} (k : Nat) (x : Int) : multW (l.take k) x ≤ multW l x := by
  have h := multW_app (l.take k) (l.drop k) x
  rw [List.take_append_drop] at h
  have := multW_0 (l.drop k) x
  omega
theorem long_bd {n : Nat} {l : List (Int × Int)} (h : GoodW n l) (h1 : ∀ x, multW l x ≤ 1) : 0 ≤ longW l ∧ longW l ≤ n := by
  rw [longW_sum h]
  have e1 := sumTo_le (f := fun _ => 0) (g := multW l) (multW_0 l) n
  have e2 := sumTo_le (f := multW l) (g := fun _ => 1) h1 n
  rw [sumTo_const] at e1 e2
  constructor <;> omega
theorem WinOk.long {n : Nat} {l : List (Int × Int)} (h : WinOk n l) (k : Nat) : 0 ≤ longW (l.take k) ∧ longW (l.take k) ≤ n :=
  long_bd (h.good.take k) fun x => Int.le_trans (mult_take k x) (h.one x)
theorem WinOk.less {n : Nat} {l : List (Int × Int)} (h : WinOk n l) {w : Int × Int} (hw : w.1 ≤ w.2) : WinOk n (lessW l w) := by
  have hm : ∀ x, multW (lessW l w) x ≤ 1 := by
    intro x
    rw [lessW_mult hw]
    have := h.one x
    split <;> omega
  refine ⟨lessW_good h.good, hm, ?_⟩
  have h1 := long_len fun z hz => (lessW_pos (w := w) h.good z hz).2.1
  have h2 := (long_bd (lessW_good (w := w) h.good) hm).2
  omega
theorem winOk_one {n : Nat} {t : Int × Int} (h0 : 0 ≤ t.1) (h1 : t.1 ≤ t.2) (h2 : t.2 ≤ n) : WinOk n [t] := by
  refine ⟨?_, ?_, by simp⟩
  · intro w hw
    rw [List.mem_singleton.1 hw]
    exact ⟨h0, h1, h2⟩
  · intro x
    show iB _ + 0 ≤ 1
    have := (iB_0 (inW t x)).2
    omega
/-- What windows are left behind others. -/
def offW (ps : List (Int × Int)) (x : Int) : Bool := ps.all fun p => !inW p x
def leftW (l ps : List (Int × Int)) : List (Int × Int) := ps.foldl lessW l
theorem leftW_snoc (l ps : List (Int × Int)) (p : Int × Int) : leftW l (ps ++ [p]) = lessW (leftW l ps) p := by unfold leftW; rw [List.foldl_append]; rfl
theorem leftW_ok {n : Nat} {ps : List (Int × Int)} (hp : ∀ p ∈ ps, p.1 ≤ p.2) : ∀ {l : List (Int × Int)}, WinOk n l → WinOk n (leftW l ps) := by
  induction ps with
  | nil => intro l h; exact h
  | cons p ps ih => intro l h; exact ih (fun q hq => hp q (List.mem_cons_of_mem _ hq)) (h.less (hp p (List.mem_cons_self ..)))
theorem leftW_mult {ps : List (Int × Int)} (hp : ∀ p ∈ ps, p.1 ≤ p.2) (x : Int) : ∀ l, multW (leftW l ps) x = if offW ps x then multW l x else 0 := by
  induction ps with
  | nil => intro l; rfl
  | cons p ps ih =>
    intro l
    show multW (leftW (lessW l p) ps) x = _
    rw [ih (fun q hq => hp q (List.mem_cons_of_mem _ hq)), lessW_mult (hp p (List.mem_cons_self ..))]
    show _ = if (!inW p x && offW ps x) then multW l x else 0
    cases inW p x <;> cases offW ps x <;> rfl

/-! The times in which an agent is present, as the program makes them. -/
def timesSt (tm : Int × Int) (ps : List (Int × Int)) : List (Int × Int) × Int := ps.foldl (fun o p => (o.1 ++ [(o.2, min p.1 tm.2)], max o.2 p.2)) ([], tm.1)
def timesW (tm : Int × Int) (ps : List (Int × Int)) : List (Int × Int) := (timesSt tm ps).1 ++ [((timesSt tm ps).2, tm.2)]
theorem timesSt_snoc (tm : Int × Int) (ps : List (Int × Int)) (p : Int × Int) : timesSt tm (ps ++ [p]) = ((timesSt tm ps).1 ++ [((timesSt tm ps).2, min p.1 tm.2)], max (timesSt tm ps).2 p.2) := by unfold timesSt; rw [List.foldl_append]; rfl
structure PausesOk (n : Nat) (ps : List (Int × Int)) : Prop where
  w : ∀ p ∈ ps, 0 ≤ p.1 ∧ p.1 < p.2 ∧ p.2 ≤ n
  o : ∀ i p q, ps[i]? = some p → ps[i + 1]? = some q → p.2 ≤ q.1
theorem offW_snoc (ps : List (Int × Int)) (p : Int × Int) (x : Int) : offW (ps ++ [p]) x = (offW ps x && !inW p x) := by unfold offW; rw [List.all_append]; simp
theorem offW_far {ps : List (Int × Int)} {x f : Int} (h : ∀ p ∈ ps, p.2 ≤ f) (hx : f ≤ x) : offW ps x = true := by
  unfold offW
  rw [List.all_eq_true]
  intro p hp
  have := h p hp
  cases hq : inW p x with
  | false => rfl
  | true => have := inW_iff.1 hq; omega
theorem timesSt_is {n : Nat} {tm : Int × Int} {ps : List (Int × Int)} (ht : 0 ≤ tm.1 ∧ tm.1 ≤ tm.2 ∧ tm.2 ≤ n) (h : PausesOk n ps) : ∀ k, k ≤ ps.length →
    (∀ x, multW (timesSt tm (ps.take k)).1 x = iB (inW tm x && (decide (x < (timesSt tm (ps.take k)).2) && offW (ps.take k) x))) ∧
    tm.1 ≤ (timesSt tm (ps.take k)).2 ∧ (timesSt tm (ps.take k)).2 ≤ n ∧ (∀ p ∈ ps.take k, p.2 ≤ (timesSt tm (ps.take k)).2) ∧
    ((timesSt tm (ps.take k)).2 = tm.1 ∨ ∃ i q, k = i + 1 ∧ ps[i]? = some q ∧ (timesSt tm (ps.take k)).2 = q.2) ∧
    (timesSt tm (ps.take k)).1.length = k ∧ (∀ t ∈ (timesSt tm (ps.take k)).1, 0 ≤ t.1 ∧ t.1 ≤ n ∧ 0 ≤ t.2 ∧ t.2 ≤ n) := by
  intro k
  induction k with
  | zero =>
    intro _
    refine ⟨?_, Int.le_refl _, (show tm.1 ≤ n by omega), ?_, .inl rfl, rfl, ?_⟩
    · intro x
      show (0 : Int) = iB (inW tm x && (decide (x < tm.1) && true))
      cases hq : inW tm x with
      | false => rfl
      | true => have h1 := inW_iff.1 hq; rw [decide_eq_false (by omega)]; rfl
    · intro p hp; rw [List.take_zero] at hp; cases hp
    · intro t ht; cases ht
  | succ k ih =>
    intro hk
    obtain ⟨p, hp⟩ : ∃ p, ps[k]? = some p := ⟨_, List.getElem?_eq_getElem (by omega)⟩
    obtain ⟨p1, p2, p3⟩ := h.w p (mem_of_get hp)
    obtain ⟨h1, h2, h3, h4, h5, h6, h7⟩ := ih (by omega)
    rw [take_snoc hp, timesSt_snoc]
    revert h1 h2 h3 h4 h5 h6 h7
    generalize timesSt tm (ps.take k) = st
    obtain ⟨o, f⟩ := st
    intro h1 h2 h3 h4 h5 h6 h7
    have h2 : tm.1 ≤ f := h2
    have h3 : f ≤ n := h3
    have h4 : ∀ p ∈ ps.take k, p.2 ≤ f := h4
    have hf : f = tm.1 ∨ f ≤ p.1 := by
      rcases h5 with h5 | ⟨i, q, hi, hq, h5⟩
      · exact .inl h5
      · right
        subst hi
        have h6 := h.o i q p hq hp
        have h7 : f = q.2 := h5
        omega
    refine ⟨?_, ?_, ?_, ?_, ?_, ?_, ?_⟩
    · intro x
      show multW (o ++ [(f, min p.1 tm.2)]) x = iB (inW tm x && (decide (x < max f p.2) && offW (ps.take k ++ [p]) x))
      have e := h1 x
      change multW o x = iB (inW tm x && (decide (x < f) && offW (ps.take k) x)) at e
      rw [multW_app, e, offW_snoc]
      show _ + (iB (inW (f, min p.1 tm.2) x) + 0) = _
      rw [Int.add_zero]
      by_cases hx : x < f
      · have a1 : inW (f, min p.1 tm.2) x = false := by
          cases hq : inW (f, min p.1 tm.2) x with
          | false => rfl
          | true => have := (inW_iff.1 hq).1; change f ≤ x at this; omega
        rw [a1, decide_eq_true hx, decide_eq_true (show x < max f p.2 by omega)]
        show iB _ + 0 = _
        rw [Int.add_zero]
        cases hq : inW tm x with
        | false => rfl
        | true =>
          have a2 : inW p x = false := by
            cases hq2 : inW p x with
            | false => rfl
            | true =>
              have b1 := inW_iff.1 hq
              have b2 := inW_iff.1 hq2
              rcases hf with hf | hf <;> omega
          rw [a2]
          simp
      · rw [decide_eq_false hx, offW_far h4 (by omega)]
        have a0 : iB (inW tm x && (false && true)) = 0 := by cases inW tm x <;> rfl
        rw [a0, Int.zero_add]
        congr 1
        rw [Bool.eq_iff_iff, inW_iff]
        simp only [Bool.and_eq_true, inW_iff, decide_eq_true_eq, Bool.not_eq_true', Bool.eq_false_iff, ne_eq, Bool.true_and]
        show f ≤ x ∧ x < min p.1 tm.2 ↔ _
        constructor
        · intro ⟨b1, b2⟩
          exact ⟨⟨by omega, by omega⟩, by omega, by omega⟩
        · intro ⟨⟨b1, b2⟩, b3, b4⟩
          exact ⟨by omega, by omega⟩
    · show tm.1 ≤ max f p.2; omega
    · show max f p.2 ≤ n; omega
    · intro q hq
      show q.2 ≤ max f p.2
      rcases List.mem_append.1 hq with hq | hq
      · have := h4 q hq; omega
      · rw [List.mem_singleton.1 hq]; omega
    · show max f p.2 = tm.1 ∨ ∃ i q, k + 1 = i + 1 ∧ ps[i]? = some q ∧ max f p.2 = q.2
      rcases hf with hf | hf
      · by_cases h8 : p.2 ≤ f
        · exact .inl (by omega)
        · exact .inr ⟨k, p, rfl, hp, by omega⟩
      · exact .inr ⟨k, p, rfl, hp, by omega⟩
    · show (o ++ [(f, min p.1 tm.2)]).length = k + 1
      rw [List.length_append]
      have h8 : o.length = k := h6
      rw [h8]; rfl
    · intro t ht2
      have h8 : ∀ t ∈ o, 0 ≤ t.1 ∧ t.1 ≤ n ∧ 0 ≤ t.2 ∧ t.2 ≤ n := h7
      rcases List.mem_append.1 ht2 with h9 | h9
      · exact h8 t h9
      · rw [List.mem_singleton.1 h9]
        refine ⟨?_, h3, ?_, ?_⟩
        · show 0 ≤ f; omega
        · show 0 ≤ min p.1 tm.2; omega
        · show min p.1 tm.2 ≤ n; omega
theorem timesW_mult {n : Nat} {tm : Int × Int} {ps : List (Int × Int)} (ht : 0 ≤ tm.1 ∧ tm.1 ≤ tm.2 ∧ tm.2 ≤ n) (h : PausesOk n ps) :
    (∀ x, multW (timesW tm ps) x = iB (inW tm x && offW ps x)) ∧ (timesW tm ps).length = ps.length + 1 ∧ (∀ t ∈ timesW tm ps, 0 ≤ t.1 ∧ t.1 ≤ n ∧ 0 ≤ t.2 ∧ t.2 ≤ n) := by
  obtain ⟨h1, h2, h3, h4, h5, h6, h7⟩ := timesSt_is ht h ps.length (Nat.le_refl _)
  rw [List.take_length] at h1 h2 h3 h4 h6 h7
  refine ⟨?_, ?_, ?_⟩
  · intro x
    unfold timesW
    rw [multW_app, h1 x]
    generalize (timesSt tm ps).2 = f at *
    show _ + (iB (inW (f, tm.2) x) + 0) = _
    rw [Int.add_zero]
    by_cases hx : x < f
    · have a1 : inW (f, tm.2) x = false := by
        cases hq : inW (f, tm.2) x with
        | false => rfl
        | true => have := (inW_iff.1 hq).1; change f ≤ x at this; omega
      rw [a1, decide_eq_true hx]
      show iB _ + 0 = _
      rw [Int.add_zero]; simp
    · rw [decide_eq_false hx, offW_far h4 (by omega)]
      have a0 : iB (inW tm x && (false && true)) = 0 := by cases inW tm x <;> rfl
      rw [a0, Int.zero_add, Bool.and_true]
      congr 1
      rw [Bool.eq_iff_iff, inW_iff, inW_iff]
      show f ≤ x ∧ x < tm.2 ↔ _
      omega
  · unfold timesW
    rw [List.length_append, h6]; rfl
  · intro t ht2
    rcases List.mem_append.1 ht2 with h9 | h9
    · exact h7 t h9
    · rw [List.mem_singleton.1 h9]
      refine ⟨?_, h3, ?_, ht.2.2⟩
      · show 0 ≤ (timesSt tm ps).2; omega
      · show 0 ≤ tm.2; omega

/-! Works in order, time by time. -/
def busy1 (t : Int × Int) (o : Int × Int) (x : Int × Int) : Int × Int := if max x.1 o.2 < min x.2 t.2 then (o.1 + (min x.2 t.2 - max x.1 o.2), min x.2 t.2) else o
def busyT (b : Int) (t : Int × Int) (ws : List (Int × Int)) : Int × Int := ws.foldl (busy1 t) (b, t.1)
theorem busyT_snoc (b : Int) (t : Int × Int) (ws : List (Int × Int)) (x : Int × Int) : busyT b t (ws ++ [x]) = busy1 t (busyT b t ws) x := by unfold busyT; rw [List.foldl_append]; rfl
def anyW (ws : List (Int × Int)) (x : Int) : Bool := ws.any fun w => inW w x
theorem anyW_snoc (ws : List (Int × Int)) (w : Int × Int) (x : Int) : anyW (ws ++ [w]) x = (anyW ws x || inW w x) := by unfold anyW; rw [List.any_append]; simp
theorem anyW_iff {ws : List (Int × Int)} {x : Int} : anyW ws x = true ↔ ∃ w ∈ ws, w.1 ≤ x ∧ x < w.2 := by
  unfold anyW
  rw [List.any_eq_true]
  constructor
  · rintro ⟨w, h1, h2⟩; exact ⟨w, h1, inW_iff.1 h2⟩
  · rintro ⟨w, h1, h2⟩; exact ⟨w, h1, inW_iff.2 h2⟩
def InOrder (ws : List (Int × Int)) : Prop := ∀ (i j : Nat) (p q : Int × Int), i ≤ j → ws[i]? = some p → ws[j]? = some q → p.1 ≤ q.1
theorem busyT_is {n : Nat} {t : Int × Int} {ws : List (Int × Int)} (b : Int) (ht : 0 ≤ t.1 ∧ t.2 ≤ n) (hw : InOrder ws) : ∀ k, k ≤ ws.length →
    (busyT b t (ws.take k)).1 = b + sumTo (fun x => iB (inW t x && anyW (ws.take k) x)) n ∧ t.1 ≤ (busyT b t (ws.take k)).2 ∧
    (∀ x, inW t x = true → anyW (ws.take k) x = true → x < (busyT b t (ws.take k)).2) ∧
    ((busyT b t (ws.take k)).2 = t.1 ∨ ∃ z ∈ ws.take k, (busyT b t (ws.take k)).2 ≤ z.2) := by
  intro k
  induction k with
  | zero =>
    intro _
    refine ⟨?_, Int.le_refl _, ?_, .inl rfl⟩
    · show b = b + sumTo (fun x => iB (inW t x && false)) n
      have : sumTo (fun x => iB (inW t x && false)) n = sumTo (fun _ => 0) n := sumTo_congr fun x _ _ => by rw [Bool.and_false]; rfl
      rw [this, sumTo_const]; simp
    · intro x _ h; rw [List.take_zero] at h; cases h
  | succ k ih =>
    intro hk
    obtain ⟨w, hwk⟩ : ∃ p, ws[k]? = some p := ⟨_, List.getElem?_eq_getElem (by omega)⟩
    obtain ⟨h1, h2, h3, h4⟩ := ih (by omega)
    rw [take_snoc hwk, busyT_snoc]
    have hle : ∀ z ∈ ws.take k, z.1 ≤ w.1 := by
      intro z hz
      obtain ⟨i, hi⟩ := List.mem_iff_getElem?.1 hz
      rw [List.getElem?_take] at hi
      split at hi
      · exact hw i k z w (by omega) hi hwk
      · cases hi
    revert h1 h2 h3 h4 hle
    generalize ws.take k = L
    generalize busyT b t L = st
    obtain ⟨s, u⟩ := st
    intro h1 h2 h3 h4 hle
    have h1 : s = b + sumTo (fun x => iB (inW t x && anyW L x)) n := h1
    have h2 : t.1 ≤ u := h2
    have h3 : ∀ x, inW t x = true → anyW L x = true → x < u := h3
    have h4 : u = t.1 ∨ ∃ z ∈ L, u ≤ z.2 := h4
    have hin : ∀ x, inW t x = true → inW w x = true → x < u → anyW L x = true := by
      intro x a1 a2 a3
      have b1 := inW_iff.1 a1
      have b2 := inW_iff.1 a2
      rcases h4 with h4 | ⟨z, hz, h4⟩
      · omega
      · have := hle z hz
        exact anyW_iff.2 ⟨z, hz, by omega, by omega⟩
    have hsum : sumTo (fun x => iB (inW t x && anyW (L ++ [w]) x)) n = sumTo (fun x => iB (inW t x && anyW L x)) n + max 0 (min w.2 t.2 - max w.1 u) := by
      rw [← sumTo_win (a := max w.1 u) (b := min w.2 t.2) (by omega) n (by omega), ← sumTo_add]
      refine sumTo_congr fun x _ _ => ?_
      rw [anyW_snoc]
      cases ht2 : inW t x with
      | false =>
        have a1 : inW (max w.1 u, min w.2 t.2) x = false := by
          cases hq : inW (max w.1 u, min w.2 t.2) x with
          | false => rfl
          | true =>
            have b1 := inW_iff.1 hq
            have b2 : max w.1 u ≤ x ∧ x < min w.2 t.2 := b1
            have b3 : inW t x = true := inW_iff.2 ⟨by omega, by omega⟩
            rw [b3] at ht2; cases ht2
        rw [a1]; rfl
      | true =>
        have c1 := inW_iff.1 ht2
        cases ha : anyW L x with
        | true =>
          have c2 := h3 x ht2 ha
          have a1 : inW (max w.1 u, min w.2 t.2) x = false := by
            cases hq : inW (max w.1 u, min w.2 t.2) x with
            | false => rfl
            | true =>
              have b2 : max w.1 u ≤ x ∧ x < min w.2 t.2 := inW_iff.1 hq
              omega
          rw [a1]; rfl
        | false =>
          have e : inW w x = inW (max w.1 u, min w.2 t.2) x := by
            rw [Bool.eq_iff_iff, inW_iff]
            constructor
            · intro hq
              refine inW_iff.2 ?_
              show max w.1 u ≤ x ∧ x < min w.2 t.2
              have c3 : ¬ x < u := fun hlt => by
                have := hin x ht2 (inW_iff.2 hq) hlt
                rw [ha] at this; cases this
              omega
            · intro hq
              have b2 : max w.1 u ≤ x ∧ x < min w.2 t.2 := inW_iff.1 hq
              omega
          rw [e]
          cases inW (max w.1 u, min w.2 t.2) x <;> rfl
    show (busy1 t (s, u) w).1 = _ ∧ t.1 ≤ (busy1 t (s, u) w).2 ∧ _
    unfold busy1
    by_cases hc : max w.1 u < min w.2 t.2
    · rw [if_pos hc]
      refine ⟨?_, ?_, ?_, .inr ⟨w, List.mem_append.2 (.inr (List.mem_singleton.2 rfl)), ?_⟩⟩
      · show s + (min w.2 t.2 - max w.1 u) = _
        rw [hsum, h1]; omega
      · show t.1 ≤ min w.2 t.2; omega
      · intro x a1 a2
        show x < min w.2 t.2
        have c1 := inW_iff.1 a1
        rw [anyW_snoc] at a2
        cases ha : anyW L x with
        | true => have := h3 x a1 ha; omega
        | false =>
          rw [ha] at a2
          have c2 : inW w x = true := a2
          have c3 := inW_iff.1 c2
          omega
      · show min w.2 t.2 ≤ w.2; omega
    · rw [if_neg hc]
      refine ⟨?_, h2, ?_, ?_⟩
      · show s = _
        rw [hsum, h1]; omega
      · intro x a1 a2
        show x < u
        have c1 := inW_iff.1 a1
        rw [anyW_snoc] at a2
        cases ha : anyW L x with
        | true => exact h3 x a1 ha
        | false =>
          rw [ha] at a2
          have c2 : inW w x = true := a2
          have c3 := inW_iff.1 c2
          omega
      · rcases h4 with h4 | ⟨z, hz, h4⟩
        · exact .inl h4
        · exact .inr ⟨z, List.mem_append.2 (.inl hz), h4⟩
def busyL (ts ws : List (Int × Int)) : Int := ts.foldl (fun b t => (busyT b t ws).1) 0
def allL (ts : List (Int × Int)) : Int := ts.foldl (fun b t => b + max 0 (t.2 - t.1)) 0
theorem busyL_snoc (ts ws : List (Int × Int)) (t : Int × Int) : busyL (ts ++ [t]) ws = (busyT (busyL ts ws) t ws).1 := by unfold busyL; rw [List.foldl_append]; rfl
theorem allL_snoc (ts : List (Int × Int)) (t : Int × Int) : allL (ts ++ [t]) = allL ts + max 0 (t.2 - t.1) := by unfold allL; rw [List.foldl_append]; rfl
theorem fold_is {f : Int → Int} {n : Nat} {g : Int → Int × Int → Int} (hg : ∀ (b : Int) (t : Int × Int), 0 ≤ t.1 ∧ t.2 ≤ (n : Int) → g b t = b + sumTo (fun x => iB (inW t x) * f x) n) :
    ∀ (ts : List (Int × Int)) (b : Int), (∀ t ∈ ts, 0 ≤ t.1 ∧ t.2 ≤ (n : Int)) → ts.foldl g b = b + sumTo (fun x => multW ts x * f x) n := by
  intro ts
  induction ts with
  | nil =>
    intro b _
    show b = b + sumTo (fun x => 0 * f x) n
    have : sumTo (fun x => 0 * f x) n = sumTo (fun _ => 0) n := sumTo_congr fun x _ _ => Int.zero_mul _
    rw [this, sumTo_const]; simp
  | cons t ts ih =>
    intro b h
    show ts.foldl g (g b t) = _
    rw [ih _ fun z hz => h z (List.mem_cons_of_mem _ hz), hg b t (h t (List.mem_cons_self ..)), Int.add_assoc, ← sumTo_add]
    congr 1
    refine sumTo_congr fun x _ _ => ?_
    show _ = (iB (inW t x) + multW ts x) * f x
    rw [Int.add_mul]
theorem busyL_is {n : Nat} {ts ws : List (Int × Int)} (ht : ∀ t ∈ ts, 0 ≤ t.1 ∧ t.2 ≤ n) (hw : InOrder ws) : busyL ts ws = sumTo (fun x => multW ts x * iB (anyW ws x)) n := by
  unfold busyL
  rw [fold_is (f := fun x => iB (anyW ws x)) (n := n) _ ts 0 ht, Int.zero_add]
  intro b t h
  have h1 := (busyT_is b h hw ws.length (Nat.le_refl _)).1
  rw [List.take_length] at h1
  rw [h1]
  congr 1
  refine sumTo_congr fun x _ _ => ?_
  cases inW t x <;> cases anyW ws x <;> rfl
theorem allL_is {n : Nat} {ts : List (Int × Int)} (ht : ∀ t ∈ ts, 0 ≤ t.1 ∧ t.2 ≤ n) : allL ts = sumTo (multW ts) n := by
  unfold allL
  rw [fold_is (f := fun _ => 1) (n := n) _ ts 0 ht, Int.zero_add]
  · exact sumTo_congr fun x _ _ => Int.mul_one _
  · intro b t h
    have e : sumTo (fun x => iB (inW t x) * 1) n = sumTo (fun x => iB (inW (t.1, t.2) x)) n := sumTo_congr fun x _ _ => Int.mul_one _
    rw [e, sumTo_win h.1 n h.2]

/-! Both ways lead to the same numbers. -/
theorem busy_law {n : Nat} {tm : Int × Int} {ps wd wp : List (Int × Int)} (ht : 0 ≤ tm.1 ∧ tm.1 ≤ tm.2 ∧ tm.2 ≤ n) (h : PausesOk n ps) (hd : ∀ w ∈ wd, w.1 ≤ w.2) (ho : InOrder wp)
    (hw : ∀ x : Int, x < n → (anyW wp x = true ↔ ∃ w ∈ wd, w.1 ≤ x ∧ x < w.2)) :
    allL (timesW tm ps) = longW (leftW [tm] ps) ∧ busyL (timesW tm ps) wp = longW (leftW [tm] ps) - longW (leftW (leftW [tm] ps) wd) ∧ 0 ≤ busyL (timesW tm ps) wp ∧ 0 ≤ allL (timesW tm ps) ∧ allL (timesW tm ps) ≤ n := by
  obtain ⟨h1, h2, h3⟩ := timesW_mult ht h
  have h3' : ∀ t ∈ timesW tm ps, 0 ≤ t.1 ∧ t.2 ≤ n := fun t hq => ⟨(h3 t hq).1, (h3 t hq).2.2.2⟩
  have hp : ∀ p ∈ ps, p.1 ≤ p.2 := fun p hq => by have := h.w p hq; omega
  have o1 := leftW_ok hp (winOk_one ht.1 ht.2.1 ht.2.2)
  have o2 := leftW_ok hd o1
  have m1 : ∀ x, multW (leftW [tm] ps) x = iB (inW tm x && offW ps x) := by
    intro x
    rw [leftW_mult hp]
    show (if _ then iB (inW tm x) + 0 else 0) = _
    cases inW tm x <;> cases offW ps x <;> rfl
  have e1 : longW (leftW [tm] ps) = sumTo (multW (timesW tm ps)) n := by
    rw [longW_sum o1.good]
    exact sumTo_congr fun x _ _ => by rw [m1, h1]
  have e2 : longW (leftW [tm] ps) = longW (leftW (leftW [tm] ps) wd) + sumTo (fun x => multW (timesW tm ps) x * iB (anyW wp x)) n := by
    rw [longW_sum o1.good, longW_sum o2.good, ← sumTo_add]
    refine sumTo_congr fun x h0 hx => ?_
    rw [leftW_mult hd, m1, h1]
    have hq : anyW wp x = !offW wd x := by
      rw [Bool.eq_iff_iff, hw x hx]
      unfold offW
      simp only [Bool.not_eq_true', List.all_eq_false]
      constructor
      · rintro ⟨w, a, b⟩; exact ⟨w, a, by rw [inW_iff.2 b]; decide⟩
      · rintro ⟨w, a, b⟩; exact ⟨w, a, inW_iff.1 (by simpa using b)⟩
    rw [hq]
    cases offW wd x <;> cases (inW tm x && offW ps x) <;> rfl
  have e3 := busyL_is h3' ho
  have e4 := allL_is h3'
  have e5 := (long_bd o2.good o2.one).1
  have e6 := long_bd o1.good o1.one
  have e7 : 0 ≤ sumTo (fun x => multW (timesW tm ps) x * iB (anyW wp x)) n := by
    have := sumTo_le (f := fun _ => 0) (g := fun x => multW (timesW tm ps) x * iB (anyW wp x)) (fun x => Int.mul_nonneg (multW_0 _ _) (iB_0 _).1) n
    rw [sumTo_const] at this
    omega
  refine ⟨by omega, by omega, by omega, by omega, by omega⟩
end
end Go.Proofs.YtelpakmiciilgaaGreatDoor
/- Plain Lean: works sorted; what Longest, Busy and Most answer. Conditions: none. -/
namespace Go.Proofs.YtelpakmiciilgaaGreatDoor
section
open Go.RowKit

/-! The sort keeps what is there, and brings it in order. -/
section
variable {α : Type} {lt : α → α → Bool}
theorem swap_has {l : List α} {j : Nat} {x y z : α} (hx : l[j + 1]? = some x) (hy : l[j]? = some y) (h : z ∈ l) : z ∈ (l.set (j + 1) y).set j x := by
  obtain ⟨k, hk⟩ := List.mem_iff_getElem?.1 h
  have l1 := (List.getElem?_eq_some_iff.1 hx).1
  by_cases h1 : k = j
  · subst h1
    rw [hy] at hk
    injection hk with hk
    subst hk
    refine List.mem_iff_getElem?.2 ⟨k + 1, ?_⟩
    rw [List.getElem?_set_ne (by omega), List.getElem?_set_self l1]
  · by_cases h2 : k = j + 1
    · subst h2
      rw [hx] at hk
      injection hk with hk
      subst hk
      refine List.mem_iff_getElem?.2 ⟨j, ?_⟩
      rw [List.getElem?_set_self (by rw [List.length_set]; omega)]
    · refine List.mem_iff_getElem?.2 ⟨k, ?_⟩
      rw [List.getElem?_set_ne (by omega), List.getElem?_set_ne (by omega), hk]
theorem sink_has {l : List α} {j : Nat} {z : α} (h : z ∈ l) : z ∈ sink lt l j := by
  induction j generalizing l with
  | zero => exact h
  | succ j ih =>
    unfold sink
    split
    · rename_i x y hx hy
      split
      · exact ih (swap_has hx hy h)
      · exact h
    · exact h
theorem srtTo_has {l : List α} {i : Nat} {z : α} (h : z ∈ l) : z ∈ srtTo lt l i := by
  induction i with
  | zero => exact h
  | succ i ih => exact sink_has ih
theorem srt_has {l : List α} {z : α} (h : z ∈ l) : z ∈ srt lt l := srtTo_has h
end
def ltW (x y : Int × Int) : Bool := decide (x.1 < y.1)
def OrdTo (l : List (Int × Int)) (i : Nat) : Prop := ∀ a b p q, a ≤ b → b ≤ i → l[a]? = some p → l[b]? = some q → p.1 ≤ q.1
structure HoleAt (l : List (Int × Int)) (i j : Nat) : Prop where
  o : ∀ a b p q, a ≤ b → b ≤ i → a ≠ j → b ≠ j → l[a]? = some p → l[b]? = some q → p.1 ≤ q.1
  h : ∀ b p q, j ≤ b → b ≤ i → l[j]? = some p → l[b]? = some q → p.1 ≤ q.1
theorem HoleAt.all {l : List (Int × Int)} {i j : Nat} (h : HoleAt l i j) (hb : ∀ a p q, a < j → l[a]? = some p → l[j]? = some q → p.1 ≤ q.1) : OrdTo l i := by
  intro a b p q hab hbi hp hq
  by_cases h1 : a = j
  · subst h1; exact h.h b p q hab hbi hp hq
  · by_cases h2 : b = j
    · subst h2; exact hb a p q (by omega) hp hq
    · exact h.o a b p q hab hbi h1 h2 hp hq
theorem sink_ord {l : List (Int × Int)} {i j : Nat} (h : HoleAt l i j) (hj : j ≤ i) : OrdTo (sink ltW l j) i := by
  induction j generalizing l with
  | zero => exact h.all fun a p q ha => by omega
  | succ j ih =>
    cases hx : l[j + 1]? with
    | none =>
      have e : sink ltW l (j + 1) = l := by unfold sink; rw [hx]
      rw [e]
      exact h.all fun a p q _ _ hq => by rw [hx] at hq; cases hq
    | some x =>
      have l1 := (List.getElem?_eq_some_iff.1 hx).1
      obtain ⟨y, hy⟩ : ∃ y, l[j]? = some y := ⟨_, List.getElem?_eq_getElem (by omega)⟩
      cases hc : ltW x y with
      | false =>
        rw [sink_no hx hy hc]
        have hc2 : y.1 ≤ x.1 := by
          have : ¬ x.1 < y.1 := of_decide_eq_false hc
          omega
        refine h.all fun a p q ha hp hq => ?_
        rw [hx] at hq
        injection hq with hq
        subst hq
        have := h.o a j p y (by omega) (by omega) (by omega) (by omega) hp hy
        omega
      | true =>
        rw [sink_yes hx hy hc]
        have hc2 : x.1 < y.1 := of_decide_eq_true hc
        have gj : ((l.set (j + 1) y).set j x)[j]? = some x := by rw [List.getElem?_set_self (by rw [List.length_set]; omega)]
        have gj1 : ((l.set (j + 1) y).set j x)[j + 1]? = some y := by rw [List.getElem?_set_ne (by omega), List.getElem?_set_self l1]
        have go : ∀ k, k ≠ j → k ≠ j + 1 → ((l.set (j + 1) y).set j x)[k]? = l[k]? := fun k h1 h2 => by
          rw [List.getElem?_set_ne (by omega), List.getElem?_set_ne (by omega)]
        refine ih ⟨?_, ?_⟩ (by omega)
        · intro a b p q hab hbi ha hb hp hq
          by_cases h1 : a = j + 1
          · subst h1
            rw [gj1] at hp
            injection hp with hp
            subst hp
            by_cases h2 : b = j + 1
            · subst h2
              rw [gj1] at hq
              injection hq with hq
              subst hq
              exact Int.le_refl _
            · rw [go b hb h2] at hq
              exact h.o j b y q (by omega) hbi (by omega) h2 hy hq
          · rw [go a ha h1] at hp
            by_cases h2 : b = j + 1
            · subst h2
              rw [gj1] at hq
              injection hq with hq
              subst hq
              exact h.o a j p y (by omega) (by omega) h1 (by omega) hp hy
            · rw [go b hb h2] at hq
              exact h.o a b p q hab hbi h1 h2 hp hq
        · intro b p q hjb hbi hp hq
          rw [gj] at hp
          injection hp with hp
          subst hp
          by_cases h1 : b = j
          · subst h1
            rw [gj] at hq
            injection hq with hq
            subst hq
            exact Int.le_refl _
          · by_cases h2 : b = j + 1
            · subst h2
              rw [gj1] at hq
              injection hq with hq
              subst hq
              omega
            · rw [go b h1 h2] at hq
              exact h.h b x q (by omega) hbi hx hq
theorem srtTo_ord (l : List (Int × Int)) : ∀ i a b p q, a ≤ b → b < i → (srtTo ltW l i)[a]? = some p → (srtTo ltW l i)[b]? = some q → p.1 ≤ q.1
  | 0, a, b, p, q, _, h, _, _ => by omega
  | i + 1, a, b, p, q, h1, h2, hp, hq => by
    refine sink_ord (l := srtTo ltW l i) (i := i) (j := i) ⟨?_, ?_⟩ (Nat.le_refl _) a b p q h1 (by omega) hp hq
    · intro a b p q h1 h2 h3 h4 hp hq
      exact srtTo_ord l i a b p q h1 (by omega) hp hq
    · intro b p q h1 h2 hp hq
      obtain rfl : b = i := by omega
      rw [hp] at hq
      injection hq with hq
      subst hq
      exact Int.le_refl _
theorem srt_order (l : List (Int × Int)) : InOrder (srt ltW l) := by
  intro i j p q h hp hq
  have hj := (List.getElem?_eq_some_iff.1 hq).1
  rw [srt_len] at hj
  exact srtTo_ord l l.length i j p q h hj hp hq
theorem srt_any (l : List (Int × Int)) (x : Int) : anyW (srt ltW l) x = anyW l x := by
  rw [Bool.eq_iff_iff, anyW_iff, anyW_iff]
  exact ⟨fun ⟨w, h, q⟩ => ⟨w, srt_mem h, q⟩, fun ⟨w, h, q⟩ => ⟨w, srt_has h, q⟩⟩

/-! When a caller waits no more; the longest wait; the most who wait. -/
def enV (s : SeV) : Int := if s.how = 4 then 345686400000 else s.beg
def lng1 (f t : Int) (c : CaV) (s : SeV) (b : Int) : Int := if max c.at_ f < min (enV s) t then max b (min (enV s) t - c.at_) else b
def lngN (f t : Int) (C : List CaV) (l : List SeV) : Nat → Int
  | 0 => 0
  | k + 1 => (l[k]?).elim (lngN f t C l k) fun s => (C[k]?).elim (lngN f t C l k) fun c => lng1 f t c s (lngN f t C l k)
def wtB (x : Int) (c : CaV) (s : SeV) : Bool := decide (c.at_ ≤ x) && decide (x < enV s)
def wtN (x : Int) (C : List CaV) (l : List SeV) : Nat → Nat
  | 0 => 0
  | k + 1 => wtN x C l k + (l[k]?).elim 0 fun s => (C[k]?).elim 0 fun c => if wtB x c s then 1 else 0
def mstN (C : List CaV) (l : List SeV) : Nat → Nat
  | 0 => 0
  | k + 1 => max (mstN C l k) ((C[k]?).elim 0 fun c => wtN c.at_ C l l.length)
section
variable {C : List CaV} {l : List SeV} {k : Nat} {c : CaV} {s : SeV}
theorem lngN_succ {f t : Int} (h1 : l[k]? = some s) (h2 : C[k]? = some c) : lngN f t C l (k + 1) = lng1 f t c s (lngN f t C l k) := by
  show (l[k]?).elim _ _ = _; rw [h1]; show (C[k]?).elim _ _ = _; rw [h2]; rfl
theorem wtN_succ {x : Int} (h1 : l[k]? = some s) (h2 : C[k]? = some c) : wtN x C l (k + 1) = wtN x C l k + if wtB x c s then 1 else 0 := by
  show _ + (l[k]?).elim _ _ = _; rw [h1]; show _ + (C[k]?).elim _ _ = _; rw [h2]; rfl
theorem wtN_le (x : Int) (k : Nat) : wtN x C l k ≤ k := by
  induction k with
  | zero => exact Nat.le_refl _
  | succ k ih =>
    show wtN x C l k + (l[k]?).elim 0 _ ≤ _
    cases l[k]? with
    | none => show _ + 0 ≤ _; omega
    | some s =>
      show _ + (C[k]?).elim 0 _ ≤ _
      cases C[k]? with
      | none => show _ + 0 ≤ _; omega
      | some c => show _ + (if _ then 1 else 0) ≤ _; split <;> omega
theorem mstN_succ (h2 : C[k]? = some c) : mstN C l (k + 1) = max (mstN C l k) (wtN c.at_ C l l.length) := by
  show max _ ((C[k]?).elim _ _) = _; rw [h2]; rfl
theorem mstN_le (k : Nat) : mstN C l k ≤ l.length := by
  induction k with
  | zero => exact Nat.zero_le _
  | succ k ih =>
    show max _ ((C[k]?).elim 0 _) ≤ _
    cases C[k]? with
    | none => show max _ 0 ≤ _; omega
    | some c => have := wtN_le (C := C) (l := l) c.at_ l.length; show max _ (wtN _ _ _ _) ≤ _; omega
end

/-! Works, and an agent's part of talk. -/
def ofA (key : ByteArray) (s : SeV) : Bool := decide (nb s.ag = nb key)
def wkD (a : AgV) (L : List SeV) : List (Int × Int) := (L.filter (ofA a.key)).map fun s => (s.beg, s.fin + a.wrap)
def wkP (a : AgV) (L : List SeV) : List (Int × Int) := (L.filter fun s => tkB s && ofA a.key s).map fun s => (s.beg, min s.fin 345686400000 + a.wrap)
theorem wkD_snoc (a : AgV) (L : List SeV) (s : SeV) : wkD a (L ++ [s]) = wkD a L ++ if ofA a.key s then [(s.beg, s.fin + a.wrap)] else [] := by
  unfold wkD; rw [List.filter_append, List.map_append]; cases h : ofA a.key s <;> simp [h]
theorem wkP_snoc (a : AgV) (L : List SeV) (s : SeV) : wkP a (L ++ [s]) = wkP a L ++ if tkB s && ofA a.key s then [(s.beg, min s.fin 345686400000 + a.wrap)] else [] := by
  unfold wkP; rw [List.filter_append, List.map_append]; cases h : (tkB s && ofA a.key s) <;> simp [h]
def preW (a : AgV) : List (Int × Int) := leftW [(a.fr, a.til)] a.ps
def idlW (a : AgV) (l : List SeV) : List (Int × Int) := leftW (preW a) (wkD a l)
def busyI (a : AgV) (l : List SeV) : Int := longW (preW a) - longW (idlW a l)
def busyV (a : AgV) (C : List CaV) (l : List SeV) : Value := if agsE [a] = 0 then (if chkE C l = 0 then (if longW (preW a) = 0 then frV 0 0 8 else frV (lowV (busyI a l) (longW (preW a))).1 (lowV (busyI a l) (longW (preW a))).2 0) else frV 0 0 (chkE C l)) else frV 0 0 (agsE [a])

/-! What is right about an agent that is right, and about its works. -/
structure AgR (a : AgV) : Prop where
  key : keyOk (nb a.key) = true
  tm : 0 ≤ a.fr ∧ a.fr ≤ a.til ∧ a.til ≤ (345686400000 : Nat)
  ps : PausesOk 345686400000 a.ps
  pn : a.pn ≤ 50
  wr : 0 ≤ a.wrap ∧ a.wrap ≤ 86400000
theorem agR_of {a : AgV} (hp : a.ps.length = a.pn) (h : agsE [a] = 0) : AgR a := by
  have h1 : agAt [a] 0 = 0 := by
    unfold agsE at h
    rw [if_neg (by simp)] at h
    exact fstE_ev h 0 (by simp)
  have h2 : (if keyOk (nb a.key) then (if decide (0 < 0) && ([a][0 - 1]?).elim false (fun b => leS a.key b.key) then 7 else agE a) else (5 : Int)) = 0 := h1
  cases hk : keyOk (nb a.key) with
  | false => rw [hk] at h2; cases h2
  | true =>
    rw [hk] at h2
    have h3 : agE a = 0 := h2
    unfold agE at h3
    split at h3
    · cases h3
    · split at h3
      · unfold timE tmE at h3
        split at h3
        · cases h3
        · rename_i ht
          split at h3
          · cases h3
          · rename_i hn
            split at h3
            · rename_i hps
              have hev := fstE_ev hps
              split at h3
              · rename_i hw
                unfold inB at hw
                simp only [Bool.and_eq_true, decide_eq_true_eq] at hw
                have hat : ∀ (i : Nat) (p : Int × Int), a.ps[i]? = some p → ¬ (p.1 < 0 ∨ p.2 ≤ p.1 ∨ 345686400000 < p.2) ∧ (decide (0 < i) && (a.ps[i - 1]?).elim false (fun q => decide (p.1 < q.2))) = false := by
                  intro i p hi
                  have hl := (List.getElem?_eq_some_iff.1 hi).1
                  have h4 := hev i (by omega)
                  unfold pwAt at h4
                  rw [hi] at h4
                  change (if p.1 < 0 ∨ p.2 ≤ p.1 ∨ 345686400000 < p.2 then (1 : Int) else (if (decide (0 < i) && (a.ps[i - 1]?).elim false (fun q => decide (p.1 < q.2))) = true then 7 else 0)) = 0 at h4
                  split at h4
                  · cases h4
                  · rename_i h5
                    refine ⟨h5, ?_⟩
                    cases h6 : (decide (0 < i) && (a.ps[i - 1]?).elim false (fun q => decide (p.1 < q.2))) with
                    | false => rfl
                    | true => rw [h6] at h4; cases h4
                refine ⟨hk, by omega, ⟨?_, ?_⟩, by omega, hw⟩
                · intro p hp2
                  obtain ⟨i, hi⟩ := List.mem_iff_getElem?.1 hp2
                  have := (hat i p hi).1
                  omega
                · intro i p q hp2 hq
                  have h5 := (hat (i + 1) q hq).2
                  rw [decide_eq_true (by omega), Bool.true_and] at h5
                  have e : i + 1 - 1 = i := by omega
                  rw [e, hp2] at h5
                  have h6 : ¬ q.1 < p.2 := of_decide_eq_false h5
                  omega
              · cases h3
            · contradiction
      · contradiction
/-- A seat that is right: who talked has an agent, and lies in its time. -/
theorem seE_r {c : CaV} {s : SeV} (hc : CaN c) (h : seE c s = 0) : (tkB s = true → 0 ≤ s.beg ∧ s.beg ≤ 691372800000 ∧ s.fin = s.beg + c.talk) ∧ (tkB s = false → nb s.ag = []) := by
  unfold seE at h
  split at h
  · split at h
    · cases ht : tkB s with
      | true =>
        rw [ht, if_pos rfl] at h
        refine ⟨fun _ => ?_, (fun q => by cases q)⟩
        split at h
        · split at h
          · rename_i q
            have := hc.1
            omega
          · cases h
        · cases h
      | false =>
        rw [ht] at h
        refine ⟨(fun q => by cases q), fun _ => ?_⟩
        rw [if_neg (by decide)] at h
        split at h
        · assumption
        · cases h
    · cases h
  · cases h
theorem keyOk_ne {l : List Nat} (h : keyOk l = true) : l ≠ [] := by
  intro e
  rw [e] at h
  revert h
  decide
structure SeatsR (l : List SeV) : Prop where
  tk : ∀ s ∈ l, tkB s = true → 0 ≤ s.beg ∧ s.beg ≤ 691372800000 ∧ s.beg ≤ s.fin ∧ s.fin ≤ 2000000000000
  no : ∀ s ∈ l, tkB s = false → nb s.ag = []
theorem seatsR_of {C : List CaV} {l : List SeV} (h : chkE C l = 0) : SeatsR l := by
  unfold chkE at h
  split at h
  · rename_i hC
    have hnum := casE_num hC
    unfold seatsE at h
    split at h
    · rename_i hl
      have hev := fstE_ev h
      have hat : ∀ s ∈ l, ∃ c ∈ C, seE c s = 0 := by
        intro s hs
        obtain ⟨i, hi⟩ := List.mem_iff_getElem?.1 hs
        have hlt := (List.getElem?_eq_some_iff.1 hi).1
        obtain ⟨c, hc⟩ : ∃ c, C[i]? = some c := ⟨_, List.getElem?_eq_getElem (by omega)⟩
        exact ⟨c, mem_of_get hc, by rw [← seAt_eq hi hc]; exact hev i hlt⟩
      constructor
      · intro s hs ht
        obtain ⟨c, hc, he⟩ := hat s hs
        have hcn := caNum_n (hnum c hc)
        obtain ⟨q1, q2, q3⟩ := (seE_r hcn he).1 ht
        obtain ⟨_, _, _, _, _, _, _, _⟩ := hcn
        refine ⟨q1, q2, by omega, by omega⟩
      · intro s hs ht
        obtain ⟨c, hc, he⟩ := hat s hs
        exact (seE_r (caNum_n (hnum c hc)) he).2 ht
    · cases h
  · contradiction
theorem wkD_ok {a : AgV} {l : List SeV} (ha : AgR a) (hl : SeatsR l) : ∀ w ∈ wkD a l, w.1 ≤ w.2 := by
  intro w hw
  obtain ⟨s, hs, rfl⟩ := List.mem_map.1 hw
  obtain ⟨hs, ho⟩ := List.mem_filter.1 hs
  have ho := of_decide_eq_true ho
  have := ha.wr.1
  cases ht : tkB s with
  | true =>
    have := hl.tk s hs ht
    show s.beg ≤ s.fin + a.wrap
    omega
  | false =>
    have h1 := hl.no s hs ht
    exact absurd (ho.symm.trans h1) (keyOk_ne ha.key)
theorem wk_any {a : AgV} {l : List SeV} (ha : AgR a) (hl : SeatsR l) (x : Int) (hx : x < (345686400000 : Nat)) : anyW (srt ltW (wkP a l)) x = true ↔ ∃ w ∈ wkD a l, w.1 ≤ x ∧ x < w.2 := by
  rw [srt_any, anyW_iff]
  have hw := ha.wr.1
  constructor
  · rintro ⟨w, hm, h1, h2⟩
    obtain ⟨s, hs, rfl⟩ := List.mem_map.1 hm
    obtain ⟨hs, ho⟩ := List.mem_filter.1 hs
    rw [Bool.and_eq_true] at ho
    refine ⟨_, List.mem_map.2 ⟨s, List.mem_filter.2 ⟨hs, ho.2⟩, rfl⟩, h1, ?_⟩
    change x < min s.fin 345686400000 + a.wrap at h2
    show x < s.fin + a.wrap
    omega
  · rintro ⟨w, hm, h1, h2⟩
    obtain ⟨s, hs, rfl⟩ := List.mem_map.1 hm
    obtain ⟨hs, ho⟩ := List.mem_filter.1 hs
    have ht : tkB s = true := by
      cases ht : tkB s with
      | true => rfl
      | false => exact absurd ((of_decide_eq_true ho).symm.trans (hl.no s hs ht)) (keyOk_ne ha.key)
    refine ⟨_, List.mem_map.2 ⟨s, List.mem_filter.2 ⟨hs, by rw [ht, ho]; rfl⟩, rfl⟩, h1, ?_⟩
    change x < s.fin + a.wrap at h2
    show x < min s.fin 345686400000 + a.wrap
    omega
theorem busy_same {a : AgV} {l : List SeV} (ha : AgR a) (hl : SeatsR l) :
    allL (timesW (a.fr, a.til) a.ps) = longW (preW a) ∧ busyL (timesW (a.fr, a.til) a.ps) (srt ltW (wkP a l)) = busyI a l ∧ 0 ≤ busyI a l ∧ 0 ≤ longW (preW a) ∧ longW (preW a) ≤ 345686400000 ∧ busyI a l ≤ 345686400000 := by
  obtain ⟨h1, h2, h3, h4, h5⟩ := busy_law (n := 345686400000) (tm := (a.fr, a.til)) (wd := wkD a l) (wp := srt ltW (wkP a l)) ha.tm ha.ps (wkD_ok ha hl) (srt_order _) (wk_any ha hl)
  have hp : ∀ p ∈ a.ps, p.1 ≤ p.2 := fun p hq => by have := ha.ps.w p hq; omega
  have o1 : WinOk 345686400000 (preW a) := leftW_ok hp (winOk_one (t := (a.fr, a.til)) ha.tm.1 ha.tm.2.1 ha.tm.2.2)
  have o2 : WinOk 345686400000 (idlW a l) := leftW_ok (wkD_ok ha hl) o1
  have e5 := (long_bd o2.good o2.one).1
  have e6 := long_bd o1.good o1.one
  refine ⟨h1, h2, ?_, e6.1, e6.2, ?_⟩
  · unfold busyI preW idlW; unfold preW; rw [← h2]; exact h3
  · unfold busyI; omega
end
end Go.Proofs.YtelpakmiciilgaaGreatDoor
/- Plain Lean: the queue that the program plays is the one that the document plays. Conditions: none. -/
namespace Go.Proofs.YtelpakmiciilgaaGreatDoor
section
open Go.RowKit

def seat0 (c : CaV) : SeV := ⟨c.id, ⟨#[]⟩, 4, 0, 0⟩
structure DkSim (t : Int) (x : DkV) (d : Int × Int) : Prop where
  n : d.1 = x.n
  n0 : 0 ≤ x.n
  k0 : 0 ≤ x.tk
  e0 : 0 ≤ x.en
  e1 : x.en ≤ max t 0
  fr : x.tk = 0 → 0 < x.n → d.2 = x.en ∧ x.en ≤ t
  tk : x.tk ≠ 0 → 0 < x.n ∧ d.2 = x.tk ∧ t < x.tk ∧ x.en ≤ x.tk
structure WtSim (t : Int) (c : CaV) (x : WtV) (bk dn : Bool) (se : SeV) : Prop where
  h : x.how = 0 ∨ x.how = 1 ∨ x.how = 2 ∨ x.how = 3
  se : se = x.seat
  c0 : x.how = 0 → t < c.at_ ∧ bk = false ∧ dn = false
  c1 : x.how = 1 → c.at_ ≤ t ∧ t < c.at_ + c.pat ∧ bk = false ∧ dn = false
  c2 : x.how = 2 → c.at_ ≤ t ∧ bk = true ∧ dn = false
  c3 : x.how = 3 → dn = true
  i : dn = false → x.seat = seat0 c
/-- Within a moment, behind those who come. -/
structure WtMid (t : Int) (c : CaV) (x : WtV) (bk dn : Bool) (se : SeV) : Prop where
  h : x.how = 0 ∨ x.how = 1 ∨ x.how = 2 ∨ x.how = 3
  se : se = x.seat
  c0 : x.how = 0 → t < c.at_ ∧ bk = false ∧ dn = false
  c1 : x.how = 1 → c.at_ ≤ t ∧ (t = c.at_ + c.pat → c.at_ = t) ∧ t ≤ c.at_ + c.pat ∧ bk = false ∧ dn = false
  c2 : x.how = 2 → c.at_ ≤ t ∧ bk = true ∧ dn = false
  c3 : x.how = 3 → dn = true
  i : dn = false → x.seat = seat0 c
def seAtR (l : List SeV) (i : Nat) : SeV := (l[i]?).getD ⟨⟨#[]⟩, ⟨#[]⟩, 0, 0, 0⟩
theorem seAtR_some {l : List SeV} {i : Nat} {x : SeV} (h : l[i]? = some x) : seAtR l i = x := by unfold seAtR; rw [h]; rfl
/-- Both know the same: W says what holds of a waiter. -/
structure Like (W : CaV → WtV → Bool → Bool → SeV → Prop) (A : List AgV) (C : List CaV) (p : PlS) (r : RoS) (t : Int) : Prop where
  dl : p.dk.length = A.length
  rl : r.ds.length = A.length
  wl : p.wt.length = C.length
  sl : r.se.length = C.length
  bl : r.bk.length = C.length
  nl : r.dn.length = C.length
  l : r.last = p.last
  d : ∀ i x, p.dk[i]? = some x → DkSim t x (dAt r.ds i)
  w : ∀ i c x, C[i]? = some c → p.wt[i]? = some x → W c x (bAt r.bk i) (bAt r.dn i) (seAtR r.se i)
abbrev Sim (A : List AgV) (C : List CaV) (p : PlS) (r : RoS) (t : Int) : Prop := Like (WtSim t) A C p r t
abbrev Mid (A : List AgV) (C : List CaV) (p : PlS) (r : RoS) (t : Int) : Prop := Like (WtMid t) A C p r t
def Quiet (A : List AgV) (C : List CaV) (r : RoS) (t : Int) : Prop := ∀ i k c a, C[i]? = some c → bAt r.dn i = false → c.at_ ≤ t → A[k]? = some a → ableB a c = true → freeB a (dAt r.ds k) t = false
section
variable {s : StyV} {A : List AgV} {C : List CaV} {p : PlS} {r : RoS} {t t' : Int}
def progT (A : List AgV) (C : List CaV) (p : PlS) : List Int := waT C p.wt C.length ++ dkT A p.dk A.length
theorem mem_waT {wt : List WtV} {i k : Nat} {c : CaV} {x : Int} (hc : C[i]? = some c) (hi : i < k) (hx : x ∈ waT1 c (wtAt wt i)) : x ∈ waT C wt k := by
  induction k with
  | zero => omega
  | succ k ih =>
    by_cases h : i = k
    · subst h; rw [waT_succ hc]; exact List.mem_append_right _ hx
    · exact List.mem_append_left _ (ih (by omega))
theorem mem_dkT {dk : List DkV} {i k : Nat} {a : AgV} {x : Int} (ha : A[i]? = some a) (hi : i < k) (hx : x ∈ dkT1 a (dkAt dk i)) : x ∈ dkT A dk k := by
  induction k with
  | zero => omega
  | succ k ih =>
    by_cases h : i = k
    · subst h; rw [dkT_succ ha]; exact List.mem_append_right _ hx
    · exact List.mem_append_left _ (ih (by omega))
theorem waT_mem {wt : List WtV} {k : Nat} {x : Int} (h : x ∈ waT C wt k) : ∃ i c, i < k ∧ C[i]? = some c ∧ x ∈ waT1 c (wtAt wt i) := by
  induction k with
  | zero => cases h
  | succ k ih =>
    rcases List.mem_append.1 h with h | h
    · obtain ⟨i, c, h1, h2⟩ := ih h; exact ⟨i, c, by omega, h2⟩
    · cases hc : C[k]? with
      | none => rw [hc] at h; cases h
      | some c => rw [hc] at h; exact ⟨k, c, by omega, hc, h⟩
theorem dkT_mem {dk : List DkV} {k : Nat} {x : Int} (h : x ∈ dkT A dk k) : ∃ i a, i < k ∧ A[i]? = some a ∧ x ∈ dkT1 a (dkAt dk i) := by
  induction k with
  | zero => cases h
  | succ k ih =>
    rcases List.mem_append.1 h with h | h
    · obtain ⟨i, c, h1, h2⟩ := ih h; exact ⟨i, c, by omega, h2⟩
    · cases hc : A[k]? with
      | none => rw [hc] at h; cases h
      | some c => rw [hc] at h; exact ⟨k, c, by omega, hc, h⟩
theorem calT_has {i k : Nat} {c : CaV} {x : Int} (hc : C[i]? = some c) (hi : i < k) (hx : x = c.at_ ∨ x = c.at_ + c.pat) : x ∈ calT C k := by
  induction k with
  | zero => omega
  | succ k ih =>
    by_cases h : i = k
    · subst h; rw [calT_succ hc]; exact List.mem_append_right _ (by simp; exact hx)
    · exact List.mem_append_left _ (ih (by omega))
theorem agT_has {ds : List (Int × Int)} {i k : Nat} {a : AgV} {x : Int} (ha : A[i]? = some a) (hi : i < k) (hx : x ∈ agT1 a (dAt ds i)) : x ∈ agT A ds k := by
  induction k with
  | zero => omega
  | succ k ih =>
    by_cases h : i = k
    · subst h; rw [agT_succ ha]; exact List.mem_append_right _ hx
    · exact List.mem_append_left _ (ih (by omega))
theorem waB_mem {wt : List WtV} {i k : Nat} (hi : i < k) (h : (wtAt wt i).how = 0 ∨ inL (wtAt wt i) = true) : waB wt k = true := by
  induction k with
  | zero => omega
  | succ k ih =>
    show (waB wt k || _) = true
    by_cases e : i = k
    · subst e
      rcases h with h | h
      · rw [decide_eq_true h]; simp
      · rw [h]; simp
    · rw [ih (by omega)]; rfl
theorem Like.dk {W : CaV → WtV → Bool → Bool → SeV → Prop} (h : Like W A C p r t) {i : Nat} (hi : i < A.length) : p.dk[i]? = some (dkAt p.dk i) ∧ DkSim t (dkAt p.dk i) (dAt r.ds i) := by
  obtain ⟨x, hx⟩ : ∃ x, p.dk[i]? = some x := ⟨_, List.getElem?_eq_getElem (by rw [h.dl]; exact hi)⟩
  rw [dkAt_some hx]
  exact ⟨hx, h.d i x hx⟩
theorem Like.wt {W : CaV → WtV → Bool → Bool → SeV → Prop} (h : Like W A C p r t) {i : Nat} {c : CaV} (hc : C[i]? = some c) : p.wt[i]? = some (wtAt p.wt i) ∧ W c (wtAt p.wt i) (bAt r.bk i) (bAt r.dn i) (seAtR r.se i) := by
  obtain ⟨x, hx⟩ : ∃ x, p.wt[i]? = some x := ⟨_, List.getElem?_eq_getElem (by rw [h.wl]; exact (List.getElem?_eq_some_iff.1 hc).1)⟩
  rw [wtAt_some hx]
  exact ⟨hx, h.w i c x hc hx⟩
/-- Time goes on, and nothing comes about. -/
theorem Sim.adv (h : Sim A C p r t) (htt : t ≤ t') (hn : ∀ x ∈ progT A C p, t < x → ¬ x ≤ t') : Sim A C p r t' := by
  refine ⟨h.dl, h.rl, h.wl, h.sl, h.bl, h.nl, h.l, fun i x hx => ?_, fun i c x hc hx => ?_⟩
  · have q := h.d i x hx
    have hi : i < A.length := by rw [← h.dl]; exact (List.getElem?_eq_some_iff.1 hx).1
    obtain ⟨a, ha⟩ : ∃ a, A[i]? = some a := ⟨_, List.getElem?_eq_getElem hi⟩
    refine ⟨q.n, q.n0, q.k0, q.e0, by have := q.e1; omega, fun h1 h2 => ?_, fun h1 => ?_⟩
    · have := q.fr h1 h2; exact ⟨this.1, by omega⟩
    · obtain ⟨b1, b2, b3, b4⟩ := q.tk h1
      have hm : x.tk ∈ progT A C p := List.mem_append_right _ (mem_dkT ha hi (by
        rw [dkAt_some hx]
        unfold dkT1
        rw [if_pos (by have := q.k0; omega)]
        exact List.mem_append_left _ (by simp)))
      have := hn _ hm b3
      exact ⟨b1, b2, by omega, b4⟩
  · have q := h.w i c x hc hx
    have hi : i < C.length := (List.getElem?_eq_some_iff.1 hc).1
    refine ⟨q.h, q.se, fun h1 => ?_, fun h1 => ?_, fun h1 => ?_, q.c3, q.i⟩
    · obtain ⟨b1, b2, b3⟩ := q.c0 h1
      have := hn c.at_ (List.mem_append_left _ (mem_waT hc hi (by rw [wtAt_some hx]; unfold waT1; rw [if_pos h1]; simp))) b1
      exact ⟨by omega, b2, b3⟩
    · obtain ⟨b1, b2, b3, b4⟩ := q.c1 h1
      have := hn (c.at_ + c.pat) (List.mem_append_left _ (mem_waT hc hi (by rw [wtAt_some hx]; unfold waT1; rw [if_neg (by omega), if_pos h1]; simp))) b2
      exact ⟨by omega, by omega, b3, b4⟩
    · obtain ⟨b1, b2, b3⟩ := q.c2 h1
      exact ⟨by omega, b2, b3⟩
theorem pres_turn {a : AgV} (h1 : presB a t = false) (h2 : presB a t' = true) (htt : t ≤ t') : ∃ x ∈ a.fr :: a.ps.map (·.2), t < x ∧ x ≤ t' := by
  unfold presB at h1 h2
  rw [Bool.and_eq_true, Bool.not_eq_true'] at h2
  obtain ⟨b1, b2⟩ := h2
  unfold inWin at b1
  rw [Bool.and_eq_true, decide_eq_true_eq, decide_eq_true_eq] at b1
  change a.fr ≤ t' ∧ t' < a.til at b1
  by_cases hf : t < a.fr
  · exact ⟨a.fr, List.mem_cons_self .., hf, b1.1⟩
  · have e : inWin t (a.fr, a.til) = true := by
      unfold inWin
      rw [Bool.and_eq_true, decide_eq_true_eq, decide_eq_true_eq]
      show a.fr ≤ t ∧ t < a.til
      omega
    rw [e, Bool.true_and, Bool.not_eq_false'] at h1
    obtain ⟨q, hq, hw⟩ := List.any_eq_true.1 h1
    have hw2 : ¬ inWin t' q = true := by
      intro e2
      rw [List.any_eq_true.2 ⟨q, hq, e2⟩] at b2
      cases b2
    unfold inWin at hw hw2
    rw [Bool.and_eq_true, decide_eq_true_eq, decide_eq_true_eq] at hw hw2
    exact ⟨q.2, List.mem_cons_of_mem _ (List.mem_map.2 ⟨q, hq, rfl⟩), by omega, by omega⟩
theorem Sim.max {i : Nat} (h : Sim A C p r t) (hi : i < A.length) (hn : (dAt r.ds i).1 ≠ 0) : 0 < (dkAt p.dk i).n ∧ (dAt r.ds i).2 = max (dkAt p.dk i).tk (dkAt p.dk i).en := by
  obtain ⟨_, q⟩ := h.dk hi
  have h1 := q.n; have h2 := q.n0; have h3 := q.k0; have h4 := q.e0
  by_cases hk : (dkAt p.dk i).tk = 0
  · have := q.fr hk (by omega); omega
  · have := q.tk hk; omega
theorem Quiet.adv (hq : Quiet A C r t) (h : Sim A C p r t) (htt : t ≤ t') (hn : ∀ x ∈ progT A C p, t < x → ¬ x ≤ t') : Quiet A C r t' := by
  intro i k c a hc hd hat ha hab
  have hi : i < C.length := (List.getElem?_eq_some_iff.1 hc).1
  have hk : k < A.length := (List.getElem?_eq_some_iff.1 ha).1
  have hat2 : c.at_ ≤ t := by
    obtain ⟨hx, q⟩ := h.wt hc
    rcases q.h with e | e | e | e
    · have b1 := (q.c0 e).1
      exact absurd hat (hn c.at_ (List.mem_append_left _ (mem_waT hc hi (by unfold waT1; rw [if_pos e]; simp))) b1)
    · exact (q.c1 e).1
    · exact (q.c2 e).1
    · rw [q.c3 e] at hd; cases hd
  have h1 := hq i k c a hc hd hat2 ha hab
  cases h2 : freeB a (dAt r.ds k) t' with
  | false => rfl
  | true =>
    exfalso
    unfold freeB at h1 h2
    rw [Bool.and_eq_true] at h2
    cases h3 : presB a t with
    | false =>
      obtain ⟨x, hx, b1, b2⟩ := pres_turn h3 h2.1 htt
      exact hn x (List.mem_append_right _ (mem_dkT ha hk (by unfold dkT1; exact List.mem_append_right _ (List.mem_append_right _ hx)))) b1 b2
    | true =>
      rw [h3, Bool.true_and, Bool.or_eq_false_iff] at h1
      have b1 := of_decide_eq_false h1.1
      have b2 := of_decide_eq_false h1.2
      have h4 := h2.2
      rw [Bool.or_eq_true, decide_eq_true_eq, decide_eq_true_eq] at h4
      have b3 : (dAt r.ds k).2 + a.wrap ≤ t' := h4.resolve_left b1
      obtain ⟨m1, m2⟩ := h.max hk b1
      exact hn ((dAt r.ds k).2 + a.wrap) (List.mem_append_right _ (mem_dkT ha hk (by
        unfold dkT1
        rw [if_pos m1, m2]
        exact List.mem_append_right _ (List.mem_append_left _ (by simp))))) (by omega) b3
end
end
end Go.Proofs.YtelpakmiciilgaaGreatDoor
/- Plain Lean: a moment of the program's play is one of the document's. Conditions: none. -/
namespace Go.Proofs.YtelpakmiciilgaaGreatDoor
section
open Go.RowKit
section
variable {s : StyV} {A : List AgV} {C : List CaV} {p : PlS} {r : RoS} {t t' : Int}
/-! Callers leave: what becomes of each. -/
theorem bAt_set (l : List Bool) (i j : Nat) (b : Bool) (h : i < l.length) : bAt (l.set i b) j = if i = j then b else bAt l j := by
  unfold bAt
  by_cases e : i = j
  · subst e; rw [List.getElem?_set_self h, if_pos rfl]; rfl
  · rw [List.getElem?_set_ne e, if_neg e]
structure LvGet (C : List CaV) (t : Int) (now : Bool) (k : Nat) (st st' : RoS) : Prop where
  ds : st'.ds = st.ds
  last : st'.last = st.last
  sl : st'.se.length = st.se.length
  bl : st'.bk.length = st.bk.length
  nl : st'.dn.length = st.dn.length
  bk : ∀ i c, C[i]? = some c → bAt st'.bk i = (bAt st.bk i || (decide (i < k) && (leaveB c t now (bAt st.bk i) (bAt st.dn i) && c.back)))
  dn : ∀ i c, C[i]? = some c → bAt st'.dn i = (bAt st.dn i || (decide (i < k) && (leaveB c t now (bAt st.bk i) (bAt st.dn i) && !c.back)))
  se : ∀ i c, C[i]? = some c → seAtR st'.se i = if (decide (i < k) && (leaveB c t now (bAt st.bk i) (bAt st.dn i) && !c.back)) = true then ⟨(seAtR st.se i).ca, (seAtR st.se i).ag, 2, t, t⟩ else seAtR st.se i
theorem seAtR_set (l : List SeV) (i j : Nat) (x : SeV) (h : i < l.length) : seAtR (l.set i x) j = if i = j then x else seAtR l j := by
  unfold seAtR
  by_cases e : i = j
  · subst e; rw [List.getElem?_set_self h, if_pos rfl]; rfl
  · rw [List.getElem?_set_ne e, if_neg e]
theorem leaveR_get (now : Bool) (st : RoS) (h1 : st.se.length = C.length) (h2 : st.bk.length = C.length) (h3 : st.dn.length = C.length) : ∀ k, k ≤ C.length → LvGet C t now k st (leaveR C t now k st) := by
  intro k
  induction k with
  | zero => intro _; exact ⟨rfl, rfl, rfl, rfl, rfl, fun i c _ => by simp [leaveR], fun i c _ => by simp [leaveR], fun i c _ => by simp [leaveR]⟩
  | succ k ih =>
    intro hk
    have g := ih (by omega)
    obtain ⟨c, hc⟩ : ∃ c, C[k]? = some c := ⟨_, List.getElem?_eq_getElem (by omega)⟩
    rw [leaveR_succ hc]
    revert g
    generalize leaveR C t now k st = st1
    intro g
    have eb : bAt st1.bk k = bAt st.bk k := by rw [g.bk k c hc]; simp
    have en : bAt st1.dn k = bAt st.dn k := by rw [g.dn k c hc]; simp
    have es : seAtR st1.se k = seAtR st.se k := by rw [g.se k c hc]; simp
    have l1 : k < st1.se.length := by rw [g.sl]; omega
    have l2 : k < st1.bk.length := by rw [g.bl]; omega
    have l3 : k < st1.dn.length := by rw [g.nl]; omega
    unfold leave1
    rw [eb, en]
    have lt : ∀ i, i ≠ k → decide (i < k + 1) = decide (i < k) := fun i hi => by
      by_cases h : i < k
      · rw [decide_eq_true h, decide_eq_true (by omega)]
      · rw [decide_eq_false h, decide_eq_false (by omega)]
    have lk : decide (k < k + 1) = true := decide_eq_true (by omega)
    cases hb : leaveB c t now (bAt st.bk k) (bAt st.dn k) with
    | false =>
      rw [if_neg (by decide)]
      refine ⟨g.ds, g.last, g.sl, g.bl, g.nl, fun i c' hc' => ?_, fun i c' hc' => ?_, fun i c' hc' => ?_⟩
      all_goals
        by_cases hi : i = k
        · subst hi
          rw [hc] at hc'
          injection hc' with hc'
          subst hc'
          first | rw [eb] | rw [en] | rw [es]
          rw [hb]
          simp
        · rw [lt i hi]
          first | exact g.bk i c' hc' | exact g.dn i c' hc' | exact g.se i c' hc'
    | true =>
      rw [if_pos rfl]
      cases hback : c.back with
      | true =>
        rw [if_pos rfl]
        refine ⟨g.ds, g.last, g.sl, by rw [← g.bl]; exact List.length_set .., g.nl, fun i c' hc' => ?_, fun i c' hc' => ?_, fun i c' hc' => ?_⟩
        · show bAt (st1.bk.set k true) i = _
          rw [bAt_set _ _ _ _ l2]
          by_cases hi : k = i
          · subst hi
            rw [hc] at hc'
            injection hc' with hc'
            subst hc'
            rw [if_pos rfl, lk, hb, hback]
            simp
          · rw [if_neg hi, lt i (by omega)]; exact g.bk i c' hc'
        · by_cases hi : i = k
          · subst hi
            rw [hc] at hc'
            injection hc' with hc'
            subst hc'
            rw [hback]
            show bAt st1.dn i = _
            rw [en]; simp
          · rw [lt i hi]; exact g.dn i c' hc'
        · by_cases hi : i = k
          · subst hi
            rw [hc] at hc'
            injection hc' with hc'
            subst hc'
            rw [hback]
            show seAtR st1.se i = _
            rw [es]; simp
          · rw [lt i hi]; exact g.se i c' hc'
      | false =>
        rw [if_neg (by decide)]
        obtain ⟨z, hz⟩ : ∃ z, st1.se[k]? = some z := ⟨_, List.getElem?_eq_getElem l1⟩
        have ez : seAtR st1.se k = z := seAtR_some hz
        rw [hz]
        refine ⟨g.ds, g.last, ?_, g.bl, by rw [← g.nl]; exact List.length_set .., fun i c' hc' => ?_, fun i c' hc' => ?_, fun i c' hc' => ?_⟩
        · show (st1.se.set k _).length = _
          rw [List.length_set, g.sl]
        · by_cases hi : i = k
          · subst hi
            rw [hc] at hc'
            injection hc' with hc'
            subst hc'
            rw [hback]
            show bAt st1.bk i = _
            rw [eb]; simp
          · rw [lt i hi]; exact g.bk i c' hc'
        · show bAt (st1.dn.set k true) i = _
          rw [bAt_set _ _ _ _ l3]
          by_cases hi : k = i
          · subst hi
            rw [hc] at hc'
            injection hc' with hc'
            subst hc'
            rw [if_pos rfl, lk, hb, hback]
            simp
          · rw [if_neg hi, lt i (by omega)]; exact g.dn i c' hc'
        · show seAtR (st1.se.set k ⟨z.ca, z.ag, 2, t, t⟩) i = _
          rw [seAtR_set _ _ _ _ l1]
          by_cases hi : k = i
          · subst hi
            rw [hc] at hc'
            injection hc' with hc'
            subst hc'
            rw [if_pos rfl, lk, hb, hback, ← ez, es]
            simp
          · rw [if_neg hi, lt i (by omega)]; exact g.se i c' hc'

/-! Nothing comes about where the program sees no moment. -/
theorem leave1_none {c : CaV} {i : Nat} {now : Bool} {st : RoS} (h : leaveB c t now (bAt st.bk i) (bAt st.dn i) = false) : leave1 c i t now st = st := by
  unfold leave1; rw [h]; rfl
theorem leaveR_none {now : Bool} {st : RoS} (h : ∀ i c, C[i]? = some c → leaveB c t now (bAt st.bk i) (bAt st.dn i) = false) (k : Nat) : leaveR C t now k st = st := by
  induction k with
  | zero => rfl
  | succ k ih =>
    cases hc : C[k]? with
    | none => show (C[k]?).elim _ _ = _; rw [hc]; exact ih
    | some c => rw [leaveR_succ hc, ih]; exact leave1_none (h k c hc)
theorem giveL_none {st : RoS} {l : List Nat} (h : ∀ i ∈ l, ∀ c, C[i]? = some c → chosenR s A st c t < 0) : giveL s A C st t l = none := by
  induction l with
  | nil => rfl
  | cons i l ih =>
    have h2 := ih fun j hj => h j (List.mem_cons_of_mem _ hj)
    show (C[i]?).elim (giveL s A C st t l) _ = none
    cases hc : C[i]? with
    | none => exact h2
    | some c =>
      show (if chosenR s A st c t < 0 then _ else _) = none
      rw [if_pos (h i (List.mem_cons_self ..) c hc)]
      exact h2
theorem none_giveL {st : RoS} {l : List Nat} (h : giveL s A C st t l = none) : ∀ i ∈ l, ∀ c, C[i]? = some c → chosenR s A st c t < 0 := by
  induction l with
  | nil => intro i hi; cases hi
  | cons j l ih =>
    intro i hi c hc
    change (C[j]?).elim (giveL s A C st t l) _ = none at h
    cases hj : C[j]? with
    | none =>
      rw [hj] at h
      rcases List.mem_cons.1 hi with rfl | hi
      · rw [hj] at hc; cases hc
      · exact ih h i hi c hc
    | some d =>
      rw [hj] at h
      change (if chosenR s A st d t < 0 then giveL s A C st t l else _) = none at h
      by_cases hd : chosenR s A st d t < 0
      · rw [if_pos hd] at h
        rcases List.mem_cons.1 hi with rfl | hi
        · rw [hj] at hc; injection hc with hc; subst hc; exact hd
        · exact ih h i hi c hc
      · rw [if_neg hd] at h; cases h
theorem chosen_none {st : RoS} {c : CaV} (h : ∀ k a, A[k]? = some a → ableB a c = true → freeB a (dAt st.ds k) t = false) : chosenR s A st c t < 0 := by
  unfold chosenR
  rcases chooseR_ok (s := s) (A := A) (ds := st.ds) (last := st.last) (c := c) (t := t) A.length with e | ⟨i, a, _, _, ha, hb, hf⟩
  · omega
  · rw [h i a ha hb] at hf; cases hf
theorem none_chosen {ds : List (Int × Int)} {last : ByteArray} {c : CaV} : ∀ n, (chooseR s A ds last c t n).1 < 0 → ∀ k a, k < n → A[k]? = some a → ableB a c = true → freeB a (dAt ds k) t = false := by
  intro n
  induction n with
  | zero => intro _ k a hk; omega
  | succ n ih =>
    intro h k a hk ha hab
    cases hn : A[n]? with
    | none =>
      have e : chooseR s A ds last c t (n + 1) = chooseR s A ds last c t n := by show (A[n]?).elim _ _ = _; rw [hn]; rfl
      rw [e] at h
      by_cases hkn : k = n
      · subst hkn; rw [hn] at ha; cases ha
      · exact ih h k a (by omega) ha hab
    | some b =>
      rw [chooseR_succ hn] at h
      by_cases hf : (ableB b c && freeB b (dAt ds n) t) = true
      · rw [if_pos hf] at h
        split at h
        · change (n : Int) < 0 at h; omega
        · rename_i hc
          exfalso
          apply hc
          rw [decide_eq_true h]; rfl
      · rw [if_neg hf] at h
        by_cases hkn : k = n
        · subst hkn
          rw [hn] at ha
          injection ha with ha
          subst ha
          rw [hab, Bool.true_and] at hf
          simpa using hf
        · exact ih h k a (by omega) ha hab
theorem lineRaw_has {dn : List Bool} {k i : Nat} {c : CaV} (hc : C[i]? = some c) (hi : i < k) (hat : c.at_ ≤ t) (hd : bAt dn i = false) : i ∈ lineRaw C dn t k := by
  induction k with
  | zero => omega
  | succ k ih =>
    by_cases h : i = k
    · subst h
      rw [lineRaw_succ hc, decide_eq_true hat, hd]
      exact List.mem_append_right _ (by simp)
    · exact List.mem_append_left _ (ih (by omega))
theorem quiet_of {st : RoS} (h : giveR s A C st t = none) : Quiet A C st t := by
  intro i k c a hc hd hat ha hab
  have h1 := none_giveL h i (srt_has (lineRaw_has hc (List.getElem?_eq_some_iff.1 hc).1 hat hd)) c hc
  exact none_chosen A.length h1 k a (List.getElem?_eq_some_iff.1 ha).1 ha hab
theorem none_of_quiet {st : RoS} (h : Quiet A C st t) : giveR s A C st t = none := by
  refine giveL_none fun i hi c hc => ?_
  obtain ⟨_, h2, c', hc', hat⟩ := lineR_mem hi
  rw [hc] at hc'
  injection hc' with hc'
  subst hc'
  exact chosen_none fun k a ha hab => h i k c a hc h2 hat ha hab
theorem Sim.noop (h : Sim A C p r t) (hq : Quiet A C r t) : stepR s A C r t = r := by
  have hl : ∀ now i c, C[i]? = some c → leaveB c t now (bAt r.bk i) (bAt r.dn i) = false := by
    intro now i c hc
    obtain ⟨_, q⟩ := h.wt hc
    unfold leaveB
    rcases q.h with e | e | e | e
    · rw [decide_eq_false (show ¬ c.at_ ≤ t by have := (q.c0 e).1; omega)]; simp
    · rw [decide_eq_false (show ¬ c.at_ + c.pat = t by have := (q.c1 e).2.1; omega)]; simp
    · rw [(q.c2 e).2.1]; simp
    · rw [q.c3 e]; simp
  unfold stepR
  rw [leaveR_none (hl false), givesR_none (none_of_quiet hq), leaveR_none (hl true)]
/-- Once all are done, nothing comes about. -/
theorem step_done (h : RoOk A C r) (hd : ∀ i, i < C.length → bAt r.dn i = true) : stepR s A C r t = r := by
  have hl : ∀ now i c, C[i]? = some c → leaveB c t now (bAt r.bk i) (bAt r.dn i) = false := by
    intro now i c hc
    unfold leaveB
    rw [hd i (List.getElem?_eq_some_iff.1 hc).1]; rfl
  have hg : giveR s A C r t = none := by
    refine giveL_none fun i hi c hc => ?_
    obtain ⟨_, h2, _⟩ := lineR_mem hi
    rw [hd i (List.getElem?_eq_some_iff.1 hc).1] at h2
    cases h2
  unfold stepR
  rw [leaveR_none (hl false), givesR_none hg, leaveR_none (hl true)]
end
end
end Go.Proofs.YtelpakmiciilgaaGreatDoor
/- Plain Lean: a moment of the program's play keeps both plays alike. Conditions: none. -/
namespace Go.Proofs.YtelpakmiciilgaaGreatDoor
section
open Go.RowKit
section
variable {s : StyV} {A : List AgV} {C : List CaV} {p : PlS} {r : RoS} {t t' : Int}
theorem wt_in {c : CaV} {x : WtV} {bk dn : Bool} {se : SeV} (hc : CaN c) (q : WtSim (t - 1) c x bk dn se) :
    WtMid t c (comeP t c (leaveP t c x)) (bk || (leaveB c t false bk dn && c.back)) (dn || (leaveB c t false bk dn && !c.back)) (if (leaveB c t false bk dn && !c.back) = true then ⟨se.ca, se.ag, 2, t, t⟩ else se) := by
  have hp := hc.2.2.1
  rcases q.h with e | e | e | e
  · obtain ⟨b1, rfl, rfl⟩ := q.c0 e
    have e1 : leaveP t c x = x := by unfold leaveP; rw [decide_eq_false (by omega)]; rfl
    have e2 : leaveB c t false false false = false := by
      unfold leaveB
      by_cases h : c.at_ = t
      · rw [decide_eq_true h]; simp
      · rw [decide_eq_false (show ¬ c.at_ ≤ t by omega)]; simp
    rw [e1, e2]
    by_cases h : c.at_ = t
    · have e3 : comeP t c x = ⟨1, x.seat⟩ := by unfold comeP; rw [decide_eq_true e, decide_eq_true h]; rfl
      rw [e3]
      exact ⟨.inr (.inl rfl), q.se, (fun h => by cases h), (fun _ => ⟨by omega, fun _ => h, by omega, rfl, rfl⟩), (fun h => by cases h), (fun h => by cases h), fun _ => q.i rfl⟩
    · have e3 : comeP t c x = x := by unfold comeP; rw [decide_eq_false h, Bool.and_false]; rfl
      rw [e3]
      exact ⟨q.h, q.se, (fun _ => ⟨by omega, rfl, rfl⟩), (fun h => by omega), (fun h => by omega), (fun h => by omega), q.i⟩
  · obtain ⟨b1, b2, rfl, rfl⟩ := q.c1 e
    have e2 : leaveB c t false false false = decide (c.at_ + c.pat = t) := by
      unfold leaveB
      rw [decide_eq_true (show c.at_ ≤ t by omega), decide_eq_false (show ¬ c.at_ = t by omega)]; simp
    rw [e2]
    by_cases h : c.at_ + c.pat = t
    · rw [decide_eq_true h]
      cases hb : c.back with
      | true =>
        have e1 : leaveP t c x = ⟨2, x.seat⟩ := by unfold leaveP; rw [decide_eq_true e, decide_eq_true h, hb]; rfl
        have e3 : comeP t c ⟨2, x.seat⟩ = ⟨2, x.seat⟩ := rfl
        rw [e1, e3]
        exact ⟨.inr (.inr (.inl rfl)), q.se, (fun h => by cases h), (fun h => by cases h), (fun _ => ⟨by omega, rfl, rfl⟩), (fun h => by cases h), fun _ => q.i rfl⟩
      | false =>
        have e1 : leaveP t c x = ⟨3, ⟨c.id, ⟨#[]⟩, 2, t, t⟩⟩ := by unfold leaveP; rw [decide_eq_true e, decide_eq_true h, hb]; rfl
        have e3 : comeP t c ⟨3, ⟨c.id, ⟨#[]⟩, 2, t, t⟩⟩ = ⟨3, ⟨c.id, ⟨#[]⟩, 2, t, t⟩⟩ := rfl
        rw [e1, e3]
        refine ⟨.inr (.inr (.inr rfl)), ?_, (fun h => by cases h), (fun h => by cases h), (fun h => by cases h), (fun _ => rfl), fun h => by cases h⟩
        show (⟨se.ca, se.ag, 2, t, t⟩ : SeV) = ⟨c.id, ⟨#[]⟩, 2, t, t⟩
        rw [q.se, q.i rfl]; rfl
    · rw [decide_eq_false h]
      have e1 : leaveP t c x = x := by unfold leaveP; rw [decide_eq_false h, Bool.and_false]; rfl
      have e3 : comeP t c x = x := by unfold comeP; rw [decide_eq_false (by omega)]; rfl
      rw [e1, e3]
      exact ⟨q.h, q.se, (fun h => by omega), (fun _ => ⟨by omega, (fun h2 => by omega), by omega, rfl, rfl⟩), (fun h => by omega), (fun h => by omega), q.i⟩
  · obtain ⟨b1, rfl, rfl⟩ := q.c2 e
    have e1 : leaveP t c x = x := by unfold leaveP; rw [decide_eq_false (by omega)]; rfl
    have e3 : comeP t c x = x := by unfold comeP; rw [decide_eq_false (by omega)]; rfl
    have e2 : leaveB c t false true false = false := rfl
    rw [e1, e3, e2]
    exact ⟨q.h, q.se, (fun h => by omega), (fun h => by omega), (fun _ => ⟨by omega, rfl, rfl⟩), (fun h => by omega), q.i⟩
  · have hd := q.c3 e
    subst hd
    have e1 : leaveP t c x = x := by unfold leaveP; rw [decide_eq_false (by omega)]; rfl
    have e3 : comeP t c x = x := by unfold comeP; rw [decide_eq_false (by omega)]; rfl
    have e2 : leaveB c t false bk true = false := rfl
    rw [e1, e3, e2]
    exact ⟨q.h, q.se, (fun h => by omega), (fun h => by omega), (fun h => by omega), (fun _ => rfl), fun h => by cases h⟩
theorem wt_out {c : CaV} {x : WtV} {bk dn : Bool} {se : SeV} (q : WtMid t c x bk dn se) :
    WtSim t c (leaveP t c x) (bk || (leaveB c t true bk dn && c.back)) (dn || (leaveB c t true bk dn && !c.back)) (if (leaveB c t true bk dn && !c.back) = true then ⟨se.ca, se.ag, 2, t, t⟩ else se) := by
  rcases q.h with e | e | e | e
  · obtain ⟨b1, rfl, rfl⟩ := q.c0 e
    have e1 : leaveP t c x = x := by unfold leaveP; rw [decide_eq_false (by omega)]; rfl
    have e2 : leaveB c t true false false = false := by
      unfold leaveB
      rw [decide_eq_false (show ¬ c.at_ ≤ t by omega)]; simp
    rw [e1, e2]
    exact ⟨q.h, q.se, (fun _ => ⟨b1, rfl, rfl⟩), (fun h => by omega), (fun h => by omega), (fun h => by omega), q.i⟩
  · obtain ⟨b1, b2, b3, rfl, rfl⟩ := q.c1 e
    have e2 : leaveB c t true false false = decide (c.at_ + c.pat = t) := by
      unfold leaveB
      rw [decide_eq_true b1]
      by_cases h : c.at_ + c.pat = t
      · rw [decide_eq_true h, decide_eq_true (b2 h.symm)]; rfl
      · rw [decide_eq_false h]; simp
    rw [e2]
    by_cases h : c.at_ + c.pat = t
    · rw [decide_eq_true h]
      cases hb : c.back with
      | true =>
        have e1 : leaveP t c x = ⟨2, x.seat⟩ := by unfold leaveP; rw [decide_eq_true e, decide_eq_true h, hb]; rfl
        rw [e1]
        exact ⟨.inr (.inr (.inl rfl)), q.se, (fun h => by cases h), (fun h => by cases h), (fun _ => ⟨b1, rfl, rfl⟩), (fun h => by cases h), fun _ => q.i rfl⟩
      | false =>
        have e1 : leaveP t c x = ⟨3, ⟨c.id, ⟨#[]⟩, 2, t, t⟩⟩ := by unfold leaveP; rw [decide_eq_true e, decide_eq_true h, hb]; rfl
        rw [e1]
        refine ⟨.inr (.inr (.inr rfl)), ?_, (fun h => by cases h), (fun h => by cases h), (fun h => by cases h), (fun _ => rfl), fun h => by cases h⟩
        show (⟨se.ca, se.ag, 2, t, t⟩ : SeV) = ⟨c.id, ⟨#[]⟩, 2, t, t⟩
        rw [q.se, q.i rfl]; rfl
    · rw [decide_eq_false h]
      have e1 : leaveP t c x = x := by unfold leaveP; rw [decide_eq_false h, Bool.and_false]; rfl
      rw [e1]
      exact ⟨q.h, q.se, (fun h => by omega), (fun _ => ⟨b1, by omega, rfl, rfl⟩), (fun h => by omega), (fun h => by omega), q.i⟩
  · obtain ⟨b1, rfl, rfl⟩ := q.c2 e
    have e1 : leaveP t c x = x := by unfold leaveP; rw [decide_eq_false (by omega)]; rfl
    have e2 : leaveB c t true true false = false := rfl
    rw [e1, e2]
    exact ⟨q.h, q.se, (fun h => by omega), (fun h => by omega), (fun _ => ⟨b1, rfl, rfl⟩), (fun h => by omega), q.i⟩
  · have hd := q.c3 e
    subst hd
    have e1 : leaveP t c x = x := by unfold leaveP; rw [decide_eq_false (by omega)]; rfl
    have e2 : leaveB c t true bk true = false := by cases bk <;> rfl
    rw [e1, e2]
    exact ⟨q.h, q.se, (fun h => by omega), (fun h => by omega), (fun h => by omega), (fun _ => rfl), fun h => by cases h⟩
theorem dk_in {a : AgV} {x : DkV} {d : Int × Int} (q : DkSim (t - 1) x d) : DkSim t (endP t a x) d := by
  have h1 := q.k0; have h2 := q.e1
  unfold endP
  by_cases h : x.tk = t ∧ 0 < t
  · obtain ⟨e1, e2⟩ := h
    rw [decide_eq_true e1, decide_eq_true e2, if_pos (show (true && true) = true from rfl)]
    obtain ⟨b1, b2, b3, b4⟩ := q.tk (by omega)
    exact ⟨q.n, q.n0, Int.le_refl _, (show 0 ≤ t by omega), (show t ≤ max t 0 by omega), (fun _ _ => ⟨b2.trans e1, Int.le_refl _⟩), fun e => absurd rfl e⟩
  · rw [if_neg (by
      rw [Bool.and_eq_true, decide_eq_true_eq, decide_eq_true_eq]; exact h)]
    refine ⟨q.n, q.n0, q.k0, q.e0, by omega, (fun e1 e2 => ?_), fun e => ?_⟩
    · have := q.fr e1 e2; exact ⟨this.1, by omega⟩
    · obtain ⟨b1, b2, b3, b4⟩ := q.tk e; exact ⟨b1, b2, by omega, b4⟩
theorem Sim.mid (h : Sim A C p r (t - 1)) (hC : ∀ c ∈ C, CaN c ∧ CaOk c) : Mid A C ⟨updA (endP t) A p.dk, updA (comeP t) C (updA (leaveP t) C p.wt), p.last⟩ (leaveR C t false C.length r) t := by
  have g := leaveR_get (C := C) (t := t) false r h.sl h.bl h.nl C.length (Nat.le_refl _)
  refine ⟨by rw [updA_len]; exact h.dl, by rw [g.ds]; exact h.rl, by rw [updA_len, updA_len]; exact h.wl, g.sl.trans h.sl, g.bl.trans h.bl, g.nl.trans h.nl, g.last.trans h.l, fun i x hx => ?_, fun i c x hc hx => ?_⟩
  · have hi : i < A.length := by have := (List.getElem?_eq_some_iff.1 hx).1; rw [updA_len, h.dl] at this; exact this
    obtain ⟨a, ha⟩ : ∃ a, A[i]? = some a := ⟨_, List.getElem?_eq_getElem hi⟩
    obtain ⟨hy, q⟩ := h.dk hi
    change (updA (endP t) A p.dk)[i]? = some x at hx
    rw [updA_get _ ha hy] at hx
    injection hx with hx
    subst hx
    rw [g.ds]
    exact dk_in q
  · have hi : i < C.length := (List.getElem?_eq_some_iff.1 hc).1
    obtain ⟨hy, q⟩ := h.wt hc
    change (updA (comeP t) C (updA (leaveP t) C p.wt))[i]? = some x at hx
    rw [updA_get _ hc (updA_get _ hc hy)] at hx
    injection hx with hx
    subst hx
    rw [g.bk i c hc, g.dn i c hc, g.se i c hc, decide_eq_true hi, Bool.true_and, Bool.true_and]
    exact wt_in (hC c (mem_of_get hc)).1 q
theorem Mid.sim (h : Mid A C p r t) : Sim A C ⟨p.dk, updA (leaveP t) C p.wt, p.last⟩ (leaveR C t true C.length r) t := by
  have g := leaveR_get (C := C) (t := t) true r h.sl h.bl h.nl C.length (Nat.le_refl _)
  refine ⟨h.dl, by rw [g.ds]; exact h.rl, by rw [updA_len]; exact h.wl, g.sl.trans h.sl, g.bl.trans h.bl, g.nl.trans h.nl, g.last.trans h.l, fun i x hx => by rw [g.ds]; exact h.d i x hx, fun i c x hc hx => ?_⟩
  have hi : i < C.length := (List.getElem?_eq_some_iff.1 hc).1
  obtain ⟨hy, q⟩ := h.wt hc
  change (updA (leaveP t) C p.wt)[i]? = some x at hx
  rw [updA_get _ hc hy] at hx
  injection hx with hx
  subst hx
  rw [g.bk i c hc, g.dn i c hc, g.se i c hc, decide_eq_true hi, Bool.true_and, Bool.true_and]
  exact wt_out q
/-! Who is in line, who is chosen. -/
theorem mid_inL {c : CaV} {x : WtV} {bk dn : Bool} {se : SeV} (q : WtMid t c x bk dn se) : inL x = (decide (c.at_ ≤ t) && !dn) := by
  unfold inL
  rcases q.h with e | e | e | e
  · obtain ⟨b1, _, rfl⟩ := q.c0 e
    rw [decide_eq_false (show ¬ x.how = 1 by omega), decide_eq_false (show ¬ x.how = 2 by omega), decide_eq_false (show ¬ c.at_ ≤ t by omega)]; rfl
  · obtain ⟨b1, _, _, _, rfl⟩ := q.c1 e
    rw [decide_eq_true e, decide_eq_true b1]; rfl
  · obtain ⟨b1, _, rfl⟩ := q.c2 e
    rw [decide_eq_true e, decide_eq_true b1, Bool.or_true]; rfl
  · rw [q.c3 e, decide_eq_false (show ¬ x.how = 1 by omega), decide_eq_false (show ¬ x.how = 2 by omega)]; simp
theorem sim_inL {c : CaV} {x : WtV} {bk dn : Bool} {se : SeV} (q : WtSim t c x bk dn se) : inL x = (decide (c.at_ ≤ t) && !dn) := by
  unfold inL
  rcases q.h with e | e | e | e
  · obtain ⟨b1, _, rfl⟩ := q.c0 e
    rw [decide_eq_false (show ¬ x.how = 1 by omega), decide_eq_false (show ¬ x.how = 2 by omega), decide_eq_false (show ¬ c.at_ ≤ t by omega)]; rfl
  · obtain ⟨b1, _, _, rfl⟩ := q.c1 e
    rw [decide_eq_true e, decide_eq_true b1]; rfl
  · obtain ⟨b1, _, rfl⟩ := q.c2 e
    rw [decide_eq_true e, decide_eq_true b1, Bool.or_true]; rfl
  · rw [q.c3 e, decide_eq_false (show ¬ x.how = 1 by omega), decide_eq_false (show ¬ x.how = 2 by omega)]; simp
theorem line_of {W : CaV → WtV → Bool → Bool → SeV → Prop} (h : Like W A C p r t) (hW : ∀ c x bk dn se, W c x bk dn se → inL x = (decide (c.at_ ≤ t) && !dn)) : lineP s C p.wt t = lineR s C r.dn t := by
  have key : ∀ k, k ≤ C.length → rawP p.wt k = lineRaw C r.dn t k := by
    intro k
    induction k with
    | zero => intro _; rfl
    | succ k ih =>
      intro hk
      obtain ⟨c, hc⟩ : ∃ c, C[k]? = some c := ⟨_, List.getElem?_eq_getElem (by omega)⟩
      obtain ⟨hx, q⟩ := h.wt hc
      rw [rawP_succ hx, lineRaw_succ hc, ih (by omega), hW _ _ _ _ _ q]
  unfold lineP lineR
  rw [h.wl, key _ (Nat.le_refl _)]
theorem free_same {a : AgV} {x : DkV} {d : Int × Int} (q : DkSim t x d) (hw : 0 ≤ a.wrap) : freeP a x t = freeB a d t := by
  have h1 := q.n; have h2 := q.n0
  unfold freeP freeB
  by_cases hk : x.tk = 0
  · rw [decide_eq_true hk, Bool.true_and]
    by_cases hn : x.n = 0
    · rw [decide_eq_true hn, decide_eq_true (show d.1 = 0 by omega)]; rfl
    · rw [decide_eq_false hn, decide_eq_false (show ¬ d.1 = 0 by omega), (q.fr hk (by omega)).1]
  · obtain ⟨b1, b2, b3, b4⟩ := q.tk hk
    rw [decide_eq_false hk, Bool.false_and, decide_eq_false (show ¬ d.1 = 0 by omega), decide_eq_false (show ¬ d.2 + a.wrap ≤ t by omega)]; simp
theorem since_same {a : AgV} {x : DkV} {d : Int × Int} (q : DkSim t x d) (hk : x.tk = 0) : sinceP a x = if 0 < d.1 then d.2 else a.fr := by
  have h1 := q.n; have h2 := q.n0
  unfold sinceP
  by_cases hn : x.n = 0
  · rw [if_pos hn, if_neg (by omega)]
  · rw [if_neg hn, if_pos (by omega), (q.fr hk (by omega)).1]
theorem better_same {kind : Int} {a b : AgV} {x y : DkV} {d e : Int × Int} {last skill : ByteArray} (q : DkSim t x d) (q2 : DkSim t y e) (hx : x.tk = 0) (hy : y.tk = 0) :
    betterP kind a x b y last skill = decide (ptsR kind a d last skill < ptsR kind b e last skill) := by
  unfold betterP ptsR
  by_cases k1 : kind = 1
  · rw [if_pos k1, if_pos k1, if_pos k1, since_same q hx, since_same q2 hy]
  · rw [if_neg k1, if_neg k1, if_neg k1]
    by_cases k2 : kind = 2
    · rw [if_pos k2, if_pos k2, if_pos k2, q.n, q2.n]
    · rw [if_neg k2, if_neg k2, if_neg k2]
      by_cases k3 : kind = 3
      · rw [if_pos k3, if_pos k3, if_pos k3]
        by_cases h : lvl b.sk skill < lvl a.sk skill
        · rw [decide_eq_true h, decide_eq_true (by omega)]
        · rw [decide_eq_false h, decide_eq_false (by omega)]
      · rw [if_neg k3, if_neg k3, if_neg k3]
        cases leS a.key last <;> cases leS b.key last <;> rfl
theorem desk_same {W : CaV → WtV → Bool → Bool → SeV → Prop} (h : Like W A C p r t) (hA : ∀ a ∈ A, AgN a ∧ a.key.size ≤ 1000) (c : CaV) : ∀ k, k ≤ A.length →
    deskP s A p.dk p.last c t k = (chooseR s A r.ds r.last c t k).1 ∧ ((chooseR s A r.ds r.last c t k).1 = -1 ∨ ∃ (i : Nat) (b : AgV), i < k ∧ (chooseR s A r.ds r.last c t k).1 = (i : Int) ∧ A[i]? = some b ∧ (dkAt p.dk i).tk = 0 ∧ (chooseR s A r.ds r.last c t k).2 = ptsR s.kind b (dAt r.ds i) r.last c.skill) := by
  intro k
  induction k with
  | zero => intro _; exact ⟨rfl, .inl rfl⟩
  | succ k ih =>
    intro hk
    obtain ⟨h1, h2⟩ := ih (by omega)
    obtain ⟨a, ha⟩ : ∃ a, A[k]? = some a := ⟨_, List.getElem?_eq_getElem (by omega)⟩
    obtain ⟨hx, q⟩ := h.dk (show k < A.length by omega)
    have hw := (hA a (mem_of_get ha)).1.2.2.2.1
    rw [deskP_succ ha, chooseR_succ ha, free_same q hw, h1]
    rw [Bool.and_comm (freeB a (dAt r.ds k) t)]
    by_cases hf : (ableB a c && freeB a (dAt r.ds k) t) = true
    · rw [if_pos hf, if_pos hf]
      have hk0 : (dkAt p.dk k).tk = 0 := by
        rw [Bool.and_eq_true] at hf
        have h3 := hf.2
        rw [← free_same q hw] at h3
        unfold freeP at h3
        rw [Bool.and_eq_true] at h3
        exact of_decide_eq_true h3.1
      have hb : (decide ((chooseR s A r.ds r.last c t k).1 < 0) || (A[((chooseR s A r.ds r.last c t k).1).toNat]?).elim false (fun b => betterP s.kind a (dkAt p.dk k) b (dkAt p.dk ((chooseR s A r.ds r.last c t k).1).toNat) p.last c.skill)) = (decide ((chooseR s A r.ds r.last c t k).1 < 0) || decide (ptsR s.kind a (dAt r.ds k) r.last c.skill < (chooseR s A r.ds r.last c t k).2)) := by
        rcases h2 with e | ⟨i, b, e1, e2, e3, e4, e5⟩
        · rw [decide_eq_true (show (chooseR s A r.ds r.last c t k).1 < 0 by omega)]; rfl
        · rw [e2, decide_eq_false (show ¬ ((i : Int) < 0) by omega), Int.toNat_natCast, e3, e5]
          show (false || betterP s.kind a (dkAt p.dk k) b (dkAt p.dk i) p.last c.skill) = _
          rw [← h.l, better_same q (h.dk (show i < A.length by omega)).2 hk0 e4]
      rw [hb]
      split
      · exact ⟨rfl, .inr ⟨k, a, by omega, rfl, ha, hk0, rfl⟩⟩
      · refine ⟨rfl, h2.elim Or.inl fun e => Or.inr ?_⟩
        obtain ⟨i, b, e1, e2⟩ := e
        exact ⟨i, b, by omega, e2⟩
    · rw [if_neg hf, if_neg hf]
      refine ⟨rfl, h2.elim Or.inl fun e => Or.inr ?_⟩
      obtain ⟨i, b, e1, e2⟩ := e
      exact ⟨i, b, by omega, e2⟩
end
end
end Go.Proofs.YtelpakmiciilgaaGreatDoor
/- Plain Lean: the program's whole play is the document's. Conditions: none. -/
namespace Go.Proofs.YtelpakmiciilgaaGreatDoor
section
open Go.RowKit
section
variable {s : StyV} {A : List AgV} {C : List CaV} {p : PlS} {r : RoS} {t t' : Int}
theorem dAt_set (l : List (Int × Int)) (i j : Nat) (x : Int × Int) (h : i < l.length) : dAt (l.set i x) j = if i = j then x else dAt l j := by
  unfold dAt
  by_cases e : i = j
  · subst e; rw [List.getElem?_set_self h, if_pos rfl]; rfl
  · rw [List.getElem?_set_ne e, if_neg e]
/-- A caller is given to a desk that is free. -/
theorem Mid.given (h : Mid A C p r t) {i k : Nat} {c : CaV} {a : AgV} (hc : C[i]? = some c) (ha : A[k]? = some a) (hcn : CaN c) (hd : bAt r.dn i = false) (hat : c.at_ ≤ t) (hk0 : (dkAt p.dk k).tk = 0) (t0 : 0 ≤ t) : Mid A C (givenP A C p t i k) (givenR A C r t i k) t := by
  have hi : i < C.length := (List.getElem?_eq_some_iff.1 hc).1
  have hk : k < A.length := (List.getElem?_eq_some_iff.1 ha).1
  obtain ⟨hx, qx⟩ := h.dk hk
  obtain ⟨hy, qy⟩ := h.wt hc
  have htalk := hcn.2.2.2.2.1
  have eP : givenP A C p t i k = ⟨p.dk.set k ⟨t + c.talk, (dkAt p.dk k).en, (dkAt p.dk k).n + 1⟩, p.wt.set i ⟨3, ⟨c.id, a.key, if (wtAt p.wt i).how = 2 then 3 else 1, t, t + c.talk⟩⟩, a.key⟩ := by
    unfold givenP; rw [hc, ha]; rfl
  have eR : givenR A C r t i k = ⟨r.ds.set k ((dAt r.ds k).1 + 1, t + c.talk), r.se.set i ⟨c.id, a.key, if bAt r.bk i then 3 else 1, t, t + c.talk⟩, r.bk, r.dn.set i true, a.key⟩ := by
    unfold givenR; rw [hc, ha]; rfl
  rw [eP, eR]
  refine ⟨by show (p.dk.set _ _).length = _; rw [List.length_set]; exact h.dl, by show (r.ds.set _ _).length = _; rw [List.length_set]; exact h.rl, by show (p.wt.set _ _).length = _; rw [List.length_set]; exact h.wl, by show (r.se.set _ _).length = _; rw [List.length_set]; exact h.sl, h.bl, by show (r.dn.set _ _).length = _; rw [List.length_set]; exact h.nl, rfl, fun j x hj => ?_, fun j d x hdj hj => ?_⟩
  · show DkSim t x (dAt (r.ds.set k ((dAt r.ds k).1 + 1, t + c.talk)) j)
    change (p.dk.set k _)[j]? = some x at hj
    rw [dAt_set _ _ _ _ (by rw [h.rl]; exact hk)]
    by_cases e : k = j
    · subst e
      rw [List.getElem?_set_self (by rw [h.dl]; exact hk)] at hj
      injection hj with hj
      subst hj
      rw [if_pos rfl]
      have e1 := qx.e1
      have n1 := qx.n; have n0 := qx.n0
      refine ⟨(show (dAt r.ds k).1 + 1 = (dkAt p.dk k).n + 1 by omega), (show 0 ≤ (dkAt p.dk k).n + 1 by omega), (show 0 ≤ t + c.talk by omega), qx.e0, qx.e1, (fun e _ => ?_), fun _ => ⟨(show 0 < (dkAt p.dk k).n + 1 by omega), rfl, (show t < t + c.talk by omega), (show (dkAt p.dk k).en ≤ t + c.talk by omega)⟩⟩
      change t + c.talk = 0 at e
      omega
    · rw [List.getElem?_set_ne e] at hj
      rw [if_neg e]
      exact h.d j x hj
  · change (p.wt.set i _)[j]? = some x at hj
    show WtMid t d x (bAt r.bk j) (bAt (r.dn.set i true) j) (seAtR (r.se.set i ⟨c.id, a.key, if bAt r.bk i then 3 else 1, t, t + c.talk⟩) j)
    rw [bAt_set _ _ _ _ (by rw [h.nl]; exact hi), seAtR_set _ _ _ _ (by rw [h.sl]; exact hi)]
    by_cases e : i = j
    · subst e
      rw [hc] at hdj
      injection hdj with hdj
      subst hdj
      rw [List.getElem?_set_self (by rw [h.wl]; exact hi)] at hj
      injection hj with hj
      subst hj
      rw [if_pos rfl, if_pos rfl]
      have hb : (if bAt r.bk i then (3 : Int) else 1) = if (wtAt p.wt i).how = 2 then 3 else 1 := by
        rcases qy.h with e | e | e | e
        · rw [(qy.c0 e).2.1, if_neg (show ¬ (wtAt p.wt i).how = 2 by omega)]; rfl
        · rw [(qy.c1 e).2.2.2.1, if_neg (show ¬ (wtAt p.wt i).how = 2 by omega)]; rfl
        · rw [(qy.c2 e).2.1, if_pos e]; rfl
        · rw [qy.c3 e] at hd; cases hd
      refine ⟨.inr (.inr (.inr rfl)), ?_, (fun h => by cases h), (fun h => by cases h), (fun h => by cases h), (fun _ => rfl), fun h => by cases h⟩
      show (⟨c.id, a.key, if bAt r.bk i then 3 else 1, t, t + c.talk⟩ : SeV) = ⟨c.id, a.key, if (wtAt p.wt i).how = 2 then 3 else 1, t, t + c.talk⟩
      rw [hb]
    · rw [List.getElem?_set_ne e] at hj
      rw [if_neg e, if_neg e]
      exact h.w j d x hdj hj
theorem Mid.giveL (h : Mid A C p r t) (hC : ∀ c ∈ C, CaN c ∧ CaOk c) (hA : ∀ a ∈ A, AgN a ∧ a.key.size ≤ 1000) (t0 : 0 ≤ t) (l : List Nat) (hl : ∀ i ∈ l, bAt r.dn i = false ∧ ∃ c, C[i]? = some c ∧ c.at_ ≤ t) :
    (givePL s A C p t l = none ∧ giveL s A C r t l = none) ∨ ∃ p' r', givePL s A C p t l = some p' ∧ giveL s A C r t l = some r' ∧ Mid A C p' r' t := by
  induction l with
  | nil => exact .inl ⟨rfl, rfl⟩
  | cons i l ih =>
    obtain ⟨hd, c, hc, hat⟩ := hl i (List.mem_cons_self ..)
    have h2 := ih fun j hj => hl j (List.mem_cons_of_mem _ hj)
    obtain ⟨e1, e2⟩ := desk_same (s := s) h hA c A.length (Nat.le_refl _)
    have eP : givePL s A C p t (i :: l) = if chosenP s A p c t < 0 then givePL s A C p t l else some (givenP A C p t i (chosenP s A p c t).toNat) := by
      show (C[i]?).elim _ _ = _; rw [hc]; rfl
    have eR : RoS → True := fun _ => trivial
    have eR : Go.Proofs.YtelpakmiciilgaaGreatDoor.giveL s A C r t (i :: l) = if chosenR s A r c t < 0 then Go.Proofs.YtelpakmiciilgaaGreatDoor.giveL s A C r t l else some (givenR A C r t i (chosenR s A r c t).toNat) := by
      show (C[i]?).elim _ _ = _; rw [hc]; rfl
    have ec : chosenP s A p c t = chosenR s A r c t := e1
    rw [eP, eR, ec]
    by_cases hneg : chosenR s A r c t < 0
    · rw [if_pos hneg, if_pos hneg]; exact h2
    · rw [if_neg hneg, if_neg hneg]
      right
      refine ⟨_, _, rfl, rfl, ?_⟩
      rcases e2 with e | ⟨k, a, f1, f2, f3, f4, f5⟩
      · change chosenR s A r c t = -1 at e; omega
      · have f6 : chosenR s A r c t = (k : Int) := f2
        rw [f6, Int.toNat_natCast]
        exact h.given hc f3 (hC c (mem_of_get hc)).1 hd hat f4 t0
theorem Mid.gives (hC : ∀ c ∈ C, CaN c ∧ CaOk c) (hA : ∀ a ∈ A, AgN a ∧ a.key.size ≤ 1000) (t0 : 0 ≤ t) : ∀ (f : Nat) (p : PlS) (r : RoS), Mid A C p r t → Mid A C (givesP s A C t f p) (givesR s A C t f r) t := by
  intro f
  induction f with
  | zero => intro p r h; exact h
  | succ f ih =>
    intro p r h
    have hline : lineP s C p.wt t = lineR s C r.dn t := line_of h fun _ _ _ _ _ q => mid_inL q
    have h2 := h.giveL (s := s) hC hA t0 (lineR s C r.dn t) (fun i hi => by obtain ⟨_, b2, c, hc, hat⟩ := lineR_mem hi; exact ⟨b2, c, hc, hat⟩)
    rcases h2 with ⟨e1, e2⟩ | ⟨p', r', e1, e2, e3⟩
    · have g1 : giveP s A C p t = none := by unfold giveP; rw [hline]; exact e1
      have g2 : giveR s A C r t = none := e2
      rw [givesP_none g1, givesR_none g2]; exact h
    · have g1 : giveP s A C p t = some p' := by unfold giveP; rw [hline]; exact e1
      have g2 : giveR s A C r t = some r' := e2
      rw [givesP_some g1, givesR_some g2]; exact ih p' r' e3
theorem gives_end (hC : ∀ c ∈ C, CaN c ∧ CaOk c) (hA : ∀ a ∈ A, AgN a ∧ a.key.size ≤ 1000) (t0 : -1 ≤ t) : ∀ (f : Nat) (r : RoS), RoOk A C r → C.length ≤ f + r.dn.count true → giveR s A C (givesR s A C t f r) t = none := by
  intro f
  induction f with
  | zero =>
    intro r h hc
    rw [Nat.zero_add] at hc
    exact done_none h hc
  | succ f ih =>
    intro r h hc
    cases e : giveR s A C r t with
    | none => rw [givesR_none e]; exact e
    | some r' =>
      obtain ⟨h1, h2, _⟩ := giveR_ok h hC hA t0 e
      rw [givesR_some e]
      exact ih r' h1 (by omega)
theorem Sim.step (h : Sim A C p r (t - 1)) (hok : RoOk A C r) (hC : ∀ c ∈ C, CaN c ∧ CaOk c) (hA : ∀ a ∈ A, AgN a ∧ a.key.size ≤ 1000) (t0 : 0 ≤ t) (t1 : t ≤ 2000000000000) : Sim A C (momP s A C p t) (stepR s A C r t) t ∧ Quiet A C (stepR s A C r t) t := by
  have m1 := h.mid hC
  have m2 := Mid.gives (s := s) hC hA t0 C.length _ _ m1
  have ok1 := hok.leaveR (t := t) false (show -1 ≤ t by omega) t1 C.length (Nat.le_refl _)
  have e1 := gives_end (s := s) hC hA (show -1 ≤ t by omega) C.length _ ok1 (Nat.le_add_right _ _)
  refine ⟨m2.sim, ?_⟩
  have q := quiet_of e1
  have g := leaveR_get (C := C) (t := t) true (givesR s A C t C.length (Go.Proofs.YtelpakmiciilgaaGreatDoor.leaveR C t false C.length r)) m2.sl m2.bl m2.nl C.length (Nat.le_refl _)
  intro i k c a hc hd hat ha hab
  have ed : (stepR s A C r t).ds = (givesR s A C t C.length (Go.Proofs.YtelpakmiciilgaaGreatDoor.leaveR C t false C.length r)).ds := g.ds
  rw [ed]
  refine q i k c a hc ?_ hat ha hab
  have e2 := g.dn i c hc
  change bAt (stepR s A C r t).dn i = _ at e2
  rw [hd] at e2
  cases hb : bAt (givesR s A C t C.length (Go.Proofs.YtelpakmiciilgaaGreatDoor.leaveR C t false C.length r)).dn i with
  | false => rfl
  | true => rw [hb] at e2; simp at e2
/-! The document's play up to a moment. -/
def playU (s : StyV) (A : List AgV) (C : List CaV) (upto : Int) : Nat → RoS → Int → RoS
  | 0, st, _ => st
  | f + 1, st, at_ => ((nextsR A C st.ds at_)[0]?).elim st fun t => if t ≤ upto then playU s A C upto f (stepR s A C st t) t else st
theorem nexts_some {ds : List (Int × Int)} {after x : Int} (h : (nextsR A C ds after)[0]? = some x) : x ∈ timesR A C ds ∧ after < x ∧ ∀ y ∈ timesR A C ds, after < y → x ≤ y := by
  have h1 := nextsR_mem.1 (mem_of_get h)
  refine ⟨h1.1, h1.2, fun y hy hlt => ?_⟩
  have hm := nextsR_mem.2 ⟨hy, hlt⟩
  have hr : (nextsR A C ds after).Pairwise (· ≤ ·) := sortI_rise _
  revert h hm hr
  generalize nextsR A C ds after = l
  intro h hm hr
  cases l with
  | nil => cases h
  | cons z l =>
    injection h with h
    subst h
    rcases List.mem_cons.1 hm with rfl | hm
    · exact Int.le_refl _
    · exact (List.pairwise_cons.1 hr).1 y hm
theorem nexts_none {ds : List (Int × Int)} {after : Int} (h : (nextsR A C ds after)[0]? = none) : ∀ y ∈ timesR A C ds, ¬ after < y := by
  intro y hy hlt
  have hm := nextsR_mem.2 ⟨hy, hlt⟩
  revert h hm
  generalize nextsR A C ds after = l
  intro h hm
  cases l with
  | nil => cases hm
  | cons z l => cases h
theorem Sim.progIn (h : Sim A C p r t) {x : Int} (hx : x ∈ progT A C p) : x ∈ timesR A C r.ds := by
  rcases List.mem_append.1 hx with hx | hx
  · obtain ⟨i, c, hi, hc, hx⟩ := waT_mem hx
    refine List.mem_append_left _ (calT_has hc hi ?_)
    unfold waT1 at hx
    split at hx
    · exact .inl (by simpa using hx)
    · split at hx
      · exact .inr (by simpa using hx)
      · cases hx
  · obtain ⟨i, a, hi, ha, hx⟩ := dkT_mem hx
    refine List.mem_append_right _ (agT_has ha hi ?_)
    obtain ⟨_, q⟩ := h.dk hi
    have h1 := q.n; have h2 := q.n0; have h3 := q.k0
    unfold dkT1 at hx
    unfold agT1
    rcases List.mem_append.1 hx with hx | hx
    · split at hx
      · rename_i hk
        obtain ⟨b1, b2, _, _⟩ := q.tk (by omega)
        rw [if_pos (show 0 < (dAt r.ds i).1 by omega)]
        refine List.mem_cons_of_mem _ (List.mem_append_right _ ?_)
        rw [List.mem_singleton.1 hx, b2]
        exact List.mem_cons_self ..
      · cases hx
    · rcases List.mem_append.1 hx with hx | hx
      · split at hx
        · obtain ⟨m1, m2⟩ := h.max hi (show (dAt r.ds i).1 ≠ 0 by omega)
          rw [if_pos (show 0 < (dAt r.ds i).1 by omega)]
          refine List.mem_cons_of_mem _ (List.mem_append_right _ ?_)
          rw [List.mem_singleton.1 hx, ← m2]
          exact List.mem_cons_of_mem _ (List.mem_cons_self ..)
        · cases hx
      · rcases List.mem_cons.1 hx with rfl | hx
        · exact List.mem_cons_self ..
        · exact List.mem_cons_of_mem _ (List.mem_append_left _ hx)
/-- What both know at the end: the seats, and who is in line at the last moment. -/
def FinS (s : StyV) (C : List CaV) (u : Int) (p : PlS) (r : RoS) : Prop := r.se = p.wt.map (·.seat) ∧ lineP s C p.wt u = lineR s C r.dn u
theorem Like.seats {W : CaV → WtV → Bool → Bool → SeV → Prop} (h : Like W A C p r t) (hW : ∀ c x bk dn se, W c x bk dn se → se = x.seat) : r.se = p.wt.map (·.seat) := by
  apply List.ext_getElem?
  intro i
  rw [List.getElem?_map]
  by_cases hi : i < C.length
  · obtain ⟨c, hc⟩ : ∃ c, C[i]? = some c := ⟨_, List.getElem?_eq_getElem hi⟩
    obtain ⟨hx, q⟩ := h.wt hc
    obtain ⟨z, hz⟩ : ∃ z, r.se[i]? = some z := ⟨_, List.getElem?_eq_getElem (by rw [h.sl]; exact hi)⟩
    have e := hW _ _ _ _ _ q
    rw [seAtR_some hz] at e
    rw [hx, hz, e]; rfl
  · rw [List.getElem?_eq_none (by rw [h.sl]; omega), List.getElem?_eq_none (by rw [h.wl]; omega)]; rfl
theorem Sim.fin {u : Int} (h : Sim A C p r t) (htu : t ≤ u) (hn : ∀ x ∈ progT A C p, t < x → ¬ x ≤ u) : FinS s C u p r :=
  ⟨h.seats fun _ _ _ _ _ q => q.se, line_of (h.adv htu hn) fun _ _ _ _ _ q => sim_inL q⟩
theorem waB_false {wt : List WtV} {k : Nat} (h : waB wt k = false) {i : Nat} (hi : i < k) : (wtAt wt i).how ≠ 0 ∧ inL (wtAt wt i) = false := by
  refine ⟨fun e => ?_, ?_⟩
  · rw [waB_mem hi (.inl e)] at h; cases h
  · cases e : inL (wtAt wt i) with
    | false => rfl
    | true => rw [waB_mem hi (.inr e)] at h; cases h
theorem play_done {u : Int} (h : RoOk A C r) (hd : ∀ i, i < C.length → bAt r.dn i = true) : ∀ f t, playU s A C u f r t = r := by
  intro f
  induction f with
  | zero => intro t; rfl
  | succ f ih =>
    intro t
    show ((nextsR A C r.ds t)[0]?).elim r _ = r
    cases (nextsR A C r.ds t)[0]? with
    | none => rfl
    | some x =>
      show (if x ≤ u then _ else r) = r
      split
      · rw [step_done h hd]; exact ih x
      · rfl
theorem Sim.over {u : Int} (h : Sim A C p r t) (hw : waB p.wt C.length = false) : (∀ i, i < C.length → bAt r.dn i = true) ∧ FinS s C u p r := by
  have hd : ∀ i c, C[i]? = some c → (wtAt p.wt i).how = 3 ∧ bAt r.dn i = true := by
    intro i c hc
    obtain ⟨_, q⟩ := h.wt hc
    obtain ⟨h1, h2⟩ := waB_false hw (List.getElem?_eq_some_iff.1 hc).1
    unfold inL at h2
    rw [Bool.or_eq_false_iff] at h2
    have h3 := of_decide_eq_false h2.1
    have h4 := of_decide_eq_false h2.2
    have h5 : (wtAt p.wt i).how = 3 := by rcases q.h with e | e | e | e <;> omega
    exact ⟨h5, q.c3 h5⟩
  refine ⟨fun i hi => (hd i _ (List.getElem?_eq_getElem hi)).2, h.seats fun _ _ _ _ _ q => q.se, ?_⟩
  have e1 : ∀ k, k ≤ C.length → rawP p.wt k = [] ∧ lineRaw C r.dn u k = [] := by
    intro k
    induction k with
    | zero => intro _; exact ⟨rfl, rfl⟩
    | succ k ih =>
      intro hk
      obtain ⟨c, hc⟩ : ∃ c, C[k]? = some c := ⟨_, List.getElem?_eq_getElem (by omega)⟩
      obtain ⟨hx, _⟩ := h.wt hc
      obtain ⟨b1, b2⟩ := hd k c hc
      obtain ⟨i1, i2⟩ := ih (by omega)
      have e2 : inL (wtAt p.wt k) = false := by unfold inL; rw [b1]; rfl
      rw [rawP_succ hx, lineRaw_succ hc, i1, i2, e2, b2]
      simp
  unfold lineP lineR
  rw [h.wl, (e1 _ (Nat.le_refl _)).1, (e1 _ (Nat.le_refl _)).2]
theorem play_still {u : Int} (h : Sim A C p r t) (hq : Quiet A C r t) (hn : ∀ x ∈ progT A C p, t < x → ¬ x ≤ u) : ∀ f t', t ≤ t' → t' ≤ u → playU s A C u f r t' = r := by
  intro f
  induction f with
  | zero => intro t' _ _; rfl
  | succ f ih =>
    intro t' h1 h2
    show ((nextsR A C r.ds t')[0]?).elim r _ = r
    cases hx : (nextsR A C r.ds t')[0]? with
    | none => rfl
    | some x =>
      show (if x ≤ u then _ else r) = r
      split
      · rename_i hxu
        have hlt := (nexts_some hx).2.1
        have hn2 : ∀ y ∈ progT A C p, t < y → ¬ y ≤ x := fun y hy hl hyx => hn y hy hl (by omega)
        rw [(h.adv (show t ≤ x by omega) hn2).noop (hq.adv h (show t ≤ x by omega) hn2)]
        exact ih x (by omega) hxu
      · rfl
theorem ply_same {u : Int} (hC : ∀ c ∈ C, CaN c ∧ CaOk c) (hA : ∀ a ∈ A, AgN a ∧ a.key.size ≤ 1000) : ∀ (f F : Nat) (p : PlS) (r : RoS) (tp t : Int), Sim A C p r t → Quiet A C r t → RoOk A C r → DsB r.ds →
    tp ≤ t → -1 ≤ tp → t ≤ u → (∀ x ∈ progT A C p, tp < x → ¬ x ≤ t) → (345859200000 - t).toNat < f → (345859200000 - tp).toNat < F → FinS s C u (plyP s A C u F p tp) (playU s A C u f r t) := by
  intro f
  induction f with
  | zero => intro F p r tp t _ _ _ _ _ _ _ _ h; omega
  | succ f ih =>
    intro F p r tp t h hq hok hb htp h1 htu hno hf hF
    obtain ⟨F, rfl⟩ : ∃ F', F = F' + 1 := ⟨F - 1, by omega⟩
    have eP : plyP s A C u (F + 1) p tp = (nextP A C p tp).elim p fun x => if x ≤ u then plyP s A C u F (momP s A C p x) x else p := rfl
    cases hw : waB p.wt C.length with
    | false =>
      have e : plyP s A C u (F + 1) p tp = p := by
        rw [eP]; unfold nextP; rw [hw]; rfl
      obtain ⟨g1, g2⟩ := h.over (s := s) (u := u) hw
      rw [e, play_done hok g1]; exact g2
    | true =>
      have e0 : nextP A C p tp = minL tp (progT A C p) := by unfold nextP; rw [hw]; rfl
      rw [e0] at eP
      by_cases hex : ∃ t2, minL tp (progT A C p) = some t2 ∧ t2 ≤ u
      · obtain ⟨t2, hm, ht2⟩ := hex
        obtain ⟨g1, g2, g3⟩ := minL_some hm
        have ht : t < t2 := by
          have := hno t2 g2 g1
          omega
        have hin := h.progIn g2
        have eR : playU s A C u (f + 1) r t = ((nextsR A C r.ds t)[0]?).elim r fun x => if x ≤ u then playU s A C u f (stepR s A C r x) x else r := rfl
        cases hx : (nextsR A C r.ds t)[0]? with
        | none => exact absurd ht (nexts_none hx t2 hin)
        | some t1 =>
          obtain ⟨k1, k2, k3⟩ := nexts_some hx
          have hle := k3 t2 hin ht
          rw [hx] at eR
          have eR2 : playU s A C u (f + 1) r t = playU s A C u f (stepR s A C r t1) t1 := by
            rw [eR]
            show (if t1 ≤ u then _ else r) = _
            rw [if_pos (show t1 ≤ u by omega)]
          rw [eR2]
          have hbd := (timesR_bd hok hb hC hA t1 k1)
          by_cases heq : t1 = t2
          · subst heq
            have eP2 : plyP s A C u (F + 1) p tp = plyP s A C u F (momP s A C p t1) t1 := by
              rw [eP, hm]
              show (if t1 ≤ u then _ else p) = _
              rw [if_pos ht2]
            rw [eP2]
            have hadv : Sim A C p r (t1 - 1) := h.adv (show t ≤ t1 - 1 by omega) fun y hy hl hy2 => by
              have := g3 y hy (by omega)
              omega
            have t0 : 0 ≤ t1 := by omega
            obtain ⟨s1, s2⟩ := hadv.step (s := s) hok hC hA t0 (by omega)
            obtain ⟨o1, o2⟩ := stepR_ok (s := s) hok hb hC hA (show -1 ≤ t1 by omega) (show t1 ≤ 2000000000000 by omega)
            exact ih F _ _ t1 t1 s1 s2 o1 o2 (Int.le_refl _) (by omega) (by omega) (fun x _ a b => by omega) (by omega) (by omega)
          · have hn2 : ∀ y ∈ progT A C p, t < y → ¬ y ≤ t1 := fun y hy hl hy2 => by
              have := g3 y hy (by omega)
              omega
            rw [(h.adv (show t ≤ t1 by omega) hn2).noop (hq.adv h (show t ≤ t1 by omega) hn2)]
            exact ih (F + 1) p r tp t1 (h.adv (show t ≤ t1 by omega) hn2) (hq.adv h (show t ≤ t1 by omega) hn2) hok hb (by omega) h1 (by omega) (fun y hy hl hy2 => by
              have := g3 y hy hl
              omega) (by omega) hF
      · have hstop : ∀ x ∈ progT A C p, tp < x → ¬ x ≤ u := by
          intro x hx hl hxu
          cases hm : minL tp (progT A C p) with
          | none => exact minL_none hm x hx hl
          | some t2 =>
            obtain ⟨g1, g2, g3⟩ := minL_some hm
            have := g3 x hx hl
            exact hex ⟨t2, hm, by omega⟩
        have e : plyP s A C u (F + 1) p tp = p := by
          rw [eP]
          cases hm : minL tp (progT A C p) with
          | none => rfl
          | some t2 =>
            show (if t2 ≤ u then _ else p) = p
            rw [if_neg fun h => hex ⟨t2, hm, h⟩]
        have hn : ∀ x ∈ progT A C p, t < x → ¬ x ≤ u := fun x hx hl => hstop x hx (by omega)
        rw [e, play_still h hq hn _ t (Int.le_refl _) htu]
        exact h.fin htu hn
theorem sim_new (hC : ∀ c ∈ C, CaN c ∧ CaOk c) : Sim A C (newP A C) (newR A C) (-1) ∧ Quiet A C (newR A C) (-1) := by
  refine ⟨⟨by simp [newP], by simp [newR], by simp [newP], by simp [newR], by simp [newR], by simp [newR], rfl, fun i x hx => ?_, fun i c x hc hx => ?_⟩, fun i k c a hc _ hat _ _ => ?_⟩
  · change (List.replicate A.length _)[i]? = some x at hx
    have hi := (List.getElem?_eq_some_iff.1 hx).1
    rw [List.length_replicate] at hi
    rw [List.getElem?_replicate, if_pos hi] at hx
    injection hx with hx
    subst hx
    have e : dAt (newR A C).ds i = (0, 0) := dAt_some (by show (List.replicate A.length _)[i]? = _; rw [List.getElem?_replicate, if_pos hi])
    rw [e]
    exact ⟨rfl, by decide, by decide, by decide, by decide, (fun _ h => by cases h), fun h => absurd rfl h⟩
  · have hi := (List.getElem?_eq_some_iff.1 hc).1
    change (C.map _)[i]? = some x at hx
    rw [List.getElem?_map, hc] at hx
    injection hx with hx
    subst hx
    have e1 : bAt (newR A C).bk i = false := bAt_some (by show (List.replicate C.length false)[i]? = _; rw [List.getElem?_replicate, if_pos hi])
    have e2 : bAt (newR A C).dn i = false := bAt_some (by show (List.replicate C.length false)[i]? = _; rw [List.getElem?_replicate, if_pos hi])
    have e3 : seAtR (newR A C).se i = seat0 c := seAtR_some (by show (C.map _)[i]? = _; rw [List.getElem?_map, hc]; rfl)
    rw [e1, e2, e3]
    have := (hC c (mem_of_get hc)).1.1
    exact ⟨.inl rfl, rfl, (fun _ => ⟨by omega, rfl, rfl⟩), (fun h => by cases h), (fun h => by cases h), (fun h => by cases h), fun _ => rfl⟩
  · have := (hC c (mem_of_get hc)).1.1
    omega
/-- The program's play up to a moment is the document's. -/
theorem plyU_new {u : Int} (hu : -1 ≤ u) (hC : ∀ c ∈ C, CaN c ∧ CaOk c) (hA : ∀ a ∈ A, AgN a ∧ a.key.size ≤ 1000) : FinS s C u (plyP s A C u 345859200002 (newP A C) (-1)) (playU s A C u 345859200002 (newR A C) (-1)) := by
  obtain ⟨h1, h2⟩ := sim_new (A := A) hC
  exact ply_same hC hA _ _ _ _ _ _ h1 h2 (RoOk.new fun c hc => (hC c hc).2) (fun d hd => by
    have := List.eq_of_mem_replicate (show d ∈ List.replicate A.length ((0 : Int), (0 : Int)) from hd)
    rw [this]; show (0 : Int) ≤ _; omega) (Int.le_refl _) (Int.le_refl _) hu (fun x _ a b => by omega) (by omega) (by omega)
theorem playU_all {u : Int} (hu : 345859200000 ≤ u) (hC : ∀ c ∈ C, CaN c ∧ CaOk c) (hA : ∀ a ∈ A, AgN a ∧ a.key.size ≤ 1000) : ∀ (f : Nat) (r : RoS) (t : Int), RoOk A C r → DsB r.ds → playU s A C u f r t = playR s A C f r t := by
  intro f
  induction f with
  | zero => intro r t _ _; rfl
  | succ f ih =>
    intro r t hok hb
    show ((nextsR A C r.ds t)[0]?).elim r _ = ((nextsR A C r.ds t)[0]?).elim r _
    cases hx : (nextsR A C r.ds t)[0]? with
    | none => rfl
    | some x =>
      have hbd := timesR_bd hok hb hC hA x (nexts_some hx).1
      show (if x ≤ u then _ else r) = playR s A C f (stepR s A C r x) x
      rw [if_pos (by omega)]
      obtain ⟨o1, o2⟩ := stepR_ok (s := s) hok hb hC hA (show -1 ≤ x by omega) (show x ≤ 2000000000000 by omega)
      exact ih _ _ o1 o2
theorem ply_all {u : Int} (hu : 345859200000 ≤ u) (hC : ∀ c ∈ C, CaN c ∧ CaOk c) (hA : ∀ a ∈ A, AgN a ∧ a.key.size ≤ 1000) : (plyP s A C u 345859200002 (newP A C) (-1)).wt.map (·.seat) = (playOf s A C).se := by
  have h := (plyU_new (s := s) (u := u) (by omega) hC hA).1
  rw [← h]
  unfold playOf
  rw [playU_all hu hC hA _ _ _ (RoOk.new fun c hc => (hC c hc).2) (fun d hd => by
    have := List.eq_of_mem_replicate (show d ∈ List.replicate A.length ((0 : Int), (0 : Int)) from hd)
    rw [this]; show (0 : Int) ≤ _; omega)]
end
end
end Go.Proofs.YtelpakmiciilgaaGreatDoor
/- Tariffs and payers as they lie in memory, what is wrong with them, and what a call costs, in plain Lean. Conditions: none. -/
namespace Go.Proofs.YtelpakmiciilgaaGreatDoor
section
open Go.RowKit

def digSigns : List Nat := [48, 49, 50, 51, 52, 53, 54, 55, 56, 57]
/-- Has a string digits alone? -/
def digB (l : List Nat) : Bool := l.all (fun b => decide (b ∈ digSigns))
/-- What stands behind a plus; none: there is no plus. -/
def plusOf : List Nat → Option (List Nat)
  | 43 :: l => some l
  | _ => none
def pfOk (l : List Nat) : Bool := decide (l = []) || (plusOf l).elim false (fun d => decide (d.length ≤ 15) && digB d)
def phOk (l : List Nat) : Bool := (plusOf l).elim false (fun d => decide (4 ≤ d.length) && decide (d.length ≤ 15) && digB d && decide (d.getD 0 0 ≠ 48))

/-- A class. -/
structure ClV where
  pre : ByteArray
  name : ByteArray
  setup : Int
  first : Int
  step : Int
  rate : Int
def ClV.row (c : ClV) : List Value := [.string c.pre, .string c.name, .int .i64 c.setup, .int .i64 c.first, .int .i64 c.step, .int .i64 c.rate]
theorem ClV.row_len (c : ClV) : c.row.length = 6 := rfl
def ClOk (c : ClV) : Prop := c.pre.size ≤ 1000 ∧ c.name.size ≤ 1000
/-- A tariff, as it lies in memory. -/
structure TfV where
  cA : Option Addr
  cn : Nat
  cc : Nat
  free : Int
  iA : Option Addr
  en : Nat
  ic : Nat
  cl : List ClV
  ins : List ByteArray
def TfV.row (t : TfV) : List Value := [.slice t.cA t.cn t.cc, .int .i64 t.free, .slice t.iA t.en t.ic]
def TfOk (w : World) (lo : Nat) (t : TfV) : Prop := ((∀ c ∈ t.cl, ClOk c) ∧ (∀ s ∈ t.ins, s.size ≤ 1000) ∧ t.cn ≤ 1000 ∧ t.en ≤ 1000) ∧ Recs ClV.row 6 w lo t.cA t.cn t.cc t.cl ∧ Recs srow 1 w lo t.iA t.en t.ic t.ins
theorem TfOk.grown {w w' : World} {lo : Nat} {t : TfV} (h : TfOk w lo t) {r : Option Nat} (hg : w.grownBy w' r) (hr : ∀ g, r = some g → g < lo) : TfOk w' lo t := ⟨h.1, h.2.1.grown hg hr, h.2.2.grown hg hr⟩
/-- A payer, as it lies in memory. -/
structure PyV where
  key : ByteArray
  nA : Option Addr
  nn : Nat
  nc : Nat
  nums : List ByteArray
def PyV.row (p : PyV) : List Value := [.string p.key, .slice p.nA p.nn p.nc]
theorem PyV.row_len (p : PyV) : p.row.length = 2 := rfl
def PyOk (w : World) (lo : Nat) (p : PyV) : Prop := (p.key.size ≤ 1000 ∧ (∀ s ∈ p.nums, s.size ≤ 1000) ∧ p.nn ≤ 1000) ∧ Recs srow 1 w lo p.nA p.nn p.nc p.nums
def Pys (w : World) (lo : Nat) (A : Option Addr) (n c : Nat) (l : List PyV) : Prop := Recs PyV.row 2 w lo A n c l ∧ ∀ p ∈ l, PyOk w lo p
theorem PyOk.grown {w w' : World} {lo : Nat} {p : PyV} (h : PyOk w lo p) {r : Option Nat} (hg : w.grownBy w' r) (hr : ∀ g, r = some g → g < lo) : PyOk w' lo p := ⟨h.1, h.2.grown hg hr⟩
theorem Pys.grown {w w' : World} {lo : Nat} {A : Option Addr} {n c : Nat} {l : List PyV} (h : Pys w lo A n c l) {r : Option Nat} (hg : w.grownBy w' r) (hr : ∀ g, r = some g → g < lo) : Pys w' lo A n c l :=
  ⟨h.1.grown hg hr, fun p hp => (h.2 p hp).grown hg hr⟩

/-! What is wrong with a tariff. -/
def clNum (c : ClV) : Bool := inB c.setup 0 1000000 && inB c.rate 0 1000000 && inB c.first 0 86400000 && inB c.step 1 86400000
def clAt (l : List ClV) (i : Nat) : Int := (l[i]?).elim 0 fun c =>
  if pfOk (nb c.pre) then (if keyOk (nb c.name) then (if clNum c then (if decide (0 < i) && (l[i - 1]?).elim false (fun b => leS c.pre b.pre) then 7 else 0) else 1) else 5) else 3
def keyAt (l : List ByteArray) (i : Nat) : Int := (l[i]?).elim 0 fun s =>
  if keyOk (nb s) then (if decide (0 < i) && (l[i - 1]?).elim false (fun b => leS s b) then 7 else 0) else 5
def tarE (t : TfV) : Int :=
  if 200 < t.cn then 2 else if fstE (clAt t.cl) t.cn = 0 then (if inB t.free 0 2592000000 then (if 200 < t.en then 2 else fstE (keyAt t.ins) t.en) else 1) else fstE (clAt t.cl) t.cn
section
variable {l : List ClV} {i : Nat} {z b : ClV}
theorem clAt_3 (h : l[i]? = some z) (h1 : pfOk (nb z.pre) = false) : clAt l i = 3 := by simp only [clAt, h, Option.elim, h1]; rfl
theorem clAt_5 (h : l[i]? = some z) (h1 : pfOk (nb z.pre) = true) (h2 : keyOk (nb z.name) = false) : clAt l i = 5 := by simp only [clAt, h, Option.elim, h1, h2]; rfl
theorem clAt_1 (h : l[i]? = some z) (h1 : pfOk (nb z.pre) = true) (h2 : keyOk (nb z.name) = true) (h3 : clNum z = false) : clAt l i = 1 := by simp only [clAt, h, Option.elim, h1, h2, h3]; rfl
theorem clAt_7 (h : l[i]? = some z) (h1 : pfOk (nb z.pre) = true) (h2 : keyOk (nb z.name) = true) (h3 : clNum z = true) (hi : 0 < i) (hb : l[i - 1]? = some b) (h4 : leS z.pre b.pre = true) : clAt l i = 7 := by
  simp only [clAt, h, Option.elim, h1, h2, h3, hb, decide_eq_true hi, h4]; rfl
theorem clAt_e (h : l[i]? = some z) (h1 : pfOk (nb z.pre) = true) (h2 : keyOk (nb z.name) = true) (h3 : clNum z = true) (hb : l[i - 1]? = some b) (h4 : leS z.pre b.pre = false) : clAt l i = 0 := by
  simp only [clAt, h, Option.elim, h1, h2, h3, hb, h4, Bool.and_false]; rfl
theorem clAt_z (h : l[i]? = some z) (h1 : pfOk (nb z.pre) = true) (h2 : keyOk (nb z.name) = true) (h3 : clNum z = true) (hi : ¬ 0 < i) : clAt l i = 0 := by
  simp only [clAt, h, Option.elim, h1, h2, h3, decide_eq_false hi, Bool.false_and]; rfl
end
section
variable {l : List ByteArray} {i : Nat} {z b : ByteArray}
theorem keyAt_5 (h : l[i]? = some z) (h2 : keyOk (nb z) = false) : keyAt l i = 5 := by simp only [keyAt, h, Option.elim, h2]; rfl
theorem keyAt_7 (h : l[i]? = some z) (h2 : keyOk (nb z) = true) (hi : 0 < i) (hb : l[i - 1]? = some b) (h4 : leS z b = true) : keyAt l i = 7 := by
  simp only [keyAt, h, Option.elim, h2, hb, decide_eq_true hi, h4]; rfl
theorem keyAt_e (h : l[i]? = some z) (h2 : keyOk (nb z) = true) (hb : l[i - 1]? = some b) (h4 : leS z b = false) : keyAt l i = 0 := by
  simp only [keyAt, h, Option.elim, h2, hb, h4, Bool.and_false]; rfl
theorem keyAt_z (h : l[i]? = some z) (h2 : keyOk (nb z) = true) (hi : ¬ 0 < i) : keyAt l i = 0 := by
  simp only [keyAt, h, Option.elim, h2, decide_eq_false hi, Bool.false_and]; rfl
end

/-! What is wrong with payers. -/
def numAt (had ns : List ByteArray) (j : Nat) : Int := (ns[j]?).elim 0 fun s => if phOk (nb s) then (if memS (had ++ ns.take j) s then 6 else 0) else 3
def hadN (l : List PyV) (i : Nat) : List ByteArray := (l.take i).flatMap (·.nums)
def payAt (l : List PyV) (i : Nat) : Int := (l[i]?).elim 0 fun p =>
  if keyOk (nb p.key) then (if decide (0 < i) && (l[i - 1]?).elim false (fun b => leS p.key b.key) then 7 else (if 500 < p.nn then 2 else fstE (numAt (hadN l i) p.nums) p.nn)) else 5
def pysE (l : List PyV) : Int := if 500 < l.length then 2 else fstE (payAt l) l.length
theorem hadN_succ {l : List PyV} {i : Nat} {p : PyV} (h : l[i]? = some p) : hadN l (i + 1) = hadN l i ++ p.nums := by
  unfold hadN; rw [take_snoc' h, List.flatMap_append]; simp
section
variable {had ns : List ByteArray} {j : Nat} {s : ByteArray}
theorem numAt_3 (h : ns[j]? = some s) (h1 : phOk (nb s) = false) : numAt had ns j = 3 := by simp only [numAt, h, Option.elim, h1]; rfl
theorem numAt_6 (h : ns[j]? = some s) (h1 : phOk (nb s) = true) (h2 : memS (had ++ ns.take j) s = true) : numAt had ns j = 6 := by simp only [numAt, h, Option.elim, h1, h2]; rfl
theorem numAt_z (h : ns[j]? = some s) (h1 : phOk (nb s) = true) (h2 : memS (had ++ ns.take j) s = false) : numAt had ns j = 0 := by simp only [numAt, h, Option.elim, h1, h2]; rfl
end
section
variable {l : List PyV} {i : Nat} {z b : PyV}
theorem payAt_5 (h : l[i]? = some z) (h1 : keyOk (nb z.key) = false) : payAt l i = 5 := by simp only [payAt, h, Option.elim, h1]; rfl
theorem payAt_7 (h : l[i]? = some z) (h1 : keyOk (nb z.key) = true) (hi : 0 < i) (hb : l[i - 1]? = some b) (h3 : leS z.key b.key = true) : payAt l i = 7 := by simp only [payAt, h, Option.elim, h1, hb, h3, decide_eq_true hi]; rfl
/-- The key ahead of a place; none: the empty string. -/
def lastP (l : List PyV) (k : Nat) : ByteArray := if k = 0 then ⟨#[]⟩ else (l[k - 1]?).elim ⟨#[]⟩ (·.key)
theorem lastP_succ {l : List PyV} {k : Nat} {z : PyV} (h : l[k]? = some z) : lastP l (k + 1) = z.key := by unfold lastP; rw [if_neg (by omega), Nat.add_sub_cancel, h]; rfl
theorem keyP_pos {s : ByteArray} (h : keyOk (nb s) = true) : s.toList ≠ [] := by
  intro e
  have : nb s = [] := by unfold nb; rw [← ByteArray.toList_eq, e]; rfl
  rw [this] at h
  exact absurd h (by decide)
theorem leS_nil {s : ByteArray} (h : s.toList ≠ []) : leS s ⟨#[]⟩ = false := by
  unfold leS
  have e : (⟨#[]⟩ : ByteArray).toList = [] := by rw [ByteArray.toList_eq]
  rw [e]
  cases hs : s.toList with
  | nil => exact absurd hs h
  | cons a l => rfl
theorem payAt_last (h : l[i]? = some z) (h1 : keyOk (nb z.key) = true) : payAt l i = if leS z.key (lastP l i) then 7 else (if 500 < z.nn then 2 else fstE (numAt (hadN l i) z.nums) z.nn) := by
  simp only [payAt, h, Option.elim, h1, if_true]
  by_cases hi : 0 < i
  · have hl := (List.getElem?_eq_some_iff.1 h).1
    obtain ⟨b, hb⟩ : ∃ b, l[i - 1]? = some b := ⟨_, List.getElem?_eq_getElem (by omega)⟩
    have e : lastP l i = b.key := by unfold lastP; rw [if_neg (by omega), hb]; rfl
    simp only [hb, e, decide_eq_true hi, Bool.true_and]
  · have e : lastP l i = ⟨#[]⟩ := by unfold lastP; rw [if_pos (by omega)]
    rw [decide_eq_false hi, e, leS_nil (keyP_pos h1)]
    simp
theorem payAt_le (h : l[i]? = some z) (h1 : keyOk (nb z.key) = true) (h3 : leS z.key (lastP l i) = false) : payAt l i = if 500 < z.nn then 2 else fstE (numAt (hadN l i) z.nums) z.nn := by
  rw [payAt_last h h1, h3]; rfl
theorem payAt_l7 (h : l[i]? = some z) (h1 : keyOk (nb z.key) = true) (h3 : leS z.key (lastP l i) = true) : payAt l i = 7 := by
  rw [payAt_last h h1, h3]; rfl
end

/-! Classes, prices, payers. -/
def clsAt (l : List ClV) (s : List Nat) : Option ClV := l.find? (fun c => nb c.pre == s)
/-- The class of the longest prefix of at most k bytes. -/
def clsTo (l : List ClV) (s : List Nat) : Nat → Option ClV
  | 0 => clsAt l []
  | k + 1 => (clsAt l (s.take (k + 1))).or (clsTo l s k)
def clsOf (l : List ClV) (s : List Nat) : Option ClV := clsTo l s s.length
def priceOf (c : ClV) (talk : Int) : Int := if talk = 0 then 0 else c.setup + c.rate * ((max 0 (talk - c.first) + c.step - 1) / c.step)
def payerOf (l : List PyV) (s : List Nat) : Option PyV := l.find? (fun p => p.nums.any (fun x => nb x == s))
theorem clsTo_hit {l : List ClV} {s : List Nat} {k : Nat} {c : ClV} (h : clsAt l (s.take k) = some c) : clsTo l s k = some c := by
  cases k with
  | zero => rw [List.take_zero] at h; exact h
  | succ k => unfold clsTo; rw [h]; rfl
theorem clsTo_miss {l : List ClV} {s : List Nat} {k : Nat} (h : clsAt l (s.take (k + 1)) = none) : clsTo l s (k + 1) = clsTo l s k := by
  show (clsAt l (s.take (k + 1))).or (clsTo l s k) = _
  rw [h]; rfl
end
end Go.Proofs.YtelpakmiciilgaaGreatDoor
/- Tariffs and payers: plain laws: right classes stand in their order, prices agree, right payers have each number once. Conditions: none. -/
namespace Go.Proofs.YtelpakmiciilgaaGreatDoor
section

theorem fstE_all {f : Nat → Int} {n : Nat} (h : fstE f n = 0) : ∀ i, i < n → f i = 0 := by
  induction n with
  | zero => intro i hi; omega
  | succ n ih =>
    intro i hi
    unfold fstE at h
    by_cases h0 : fstE f n = 0
    · rw [if_pos h0] at h
      rcases Nat.lt_succ_iff_lt_or_eq.1 hi with h1 | h1
      · exact ih h0 i h1
      · subst h1; exact h
    · rw [if_neg h0] at h; exact absurd h h0

/-! Classes in their order. -/
def Srt (l : List ClV) : Prop := ∀ (i j : Nat) (a b : ClV), i < j → l[i]? = some a → l[j]? = some b → cmpS a.pre b.pre < 0
theorem srt_of {l : List ClV} (h : ∀ (i : Nat) (a b : ClV), l[i]? = some a → l[i + 1]? = some b → cmpS a.pre b.pre < 0) : Srt l := by
  intro i j a b hij ha hb
  induction j generalizing b with
  | zero => omega
  | succ j ih =>
    by_cases e : i = j
    · subst e; exact h i a b ha hb
    · have hj : j + 1 < l.length := (List.getElem?_eq_some_iff.1 hb).1
      have hc : l[j]? = some l[j] := List.getElem?_eq_getElem (by omega)
      exact cmpS_trans (ih l[j] (by omega) hc) (h j _ b hc hb)
theorem clAt_right {l : List ClV} {i : Nat} {c : ClV} (h : l[i]? = some c) (h0 : clAt l i = 0) : pfOk (nb c.pre) = true ∧ keyOk (nb c.name) = true ∧ clNum c = true ∧ ∀ b, 0 < i → l[i - 1]? = some b → leS c.pre b.pre = false := by
  cases h1 : pfOk (nb c.pre)
  · rw [clAt_3 h h1] at h0; exact absurd h0 (by decide)
  · cases h2 : keyOk (nb c.name)
    · rw [clAt_5 h h1 h2] at h0; exact absurd h0 (by decide)
    · cases h3 : clNum c
      · rw [clAt_1 h h1 h2 h3] at h0; exact absurd h0 (by decide)
      · refine ⟨rfl, rfl, rfl, fun b hi hb => ?_⟩
        cases h4 : leS c.pre b.pre
        · rfl
        · rw [clAt_7 h h1 h2 h3 hi hb h4] at h0; exact absurd h0 (by decide)
theorem tar_right {t : TfV} (hc : t.cl.length = t.cn) (h : tarE t = 0) : Srt t.cl ∧ ∀ c ∈ t.cl, clNum c = true := by
  unfold tarE at h
  by_cases h1 : 200 < t.cn
  · rw [if_pos h1] at h; exact absurd h (by decide)
  · rw [if_neg h1] at h
    by_cases h2 : fstE (clAt t.cl) t.cn = 0
    · have hall := fstE_all h2
      refine ⟨srt_of fun i a b ha hb => ?_, fun c hc2 => ?_⟩
      · have hl := (List.getElem?_eq_some_iff.1 hb).1
        obtain ⟨_, _, _, q⟩ := clAt_right hb (hall (i + 1) (by omega))
        have := q a (by omega) (by rw [Nat.add_sub_cancel]; exact ha)
        unfold leS at this
        rw [leS_cmp, decide_eq_false_iff_not] at this
        have e := cmpS_neg a.pre b.pre
        omega
      · obtain ⟨i, hi⟩ := List.mem_iff_getElem?.1 hc2
        have hl := (List.getElem?_eq_some_iff.1 hi).1
        exact (clAt_right hi (hall i (by omega))).2.2.1
    · rw [if_neg h2] at h; exact absurd h h2
theorem clNum_bd {c : ClV} (h : clNum c = true) : (0 ≤ c.setup ∧ c.setup ≤ 1000000) ∧ (0 ≤ c.rate ∧ c.rate ≤ 1000000) ∧ (0 ≤ c.first ∧ c.first ≤ 86400000) ∧ 1 ≤ c.step ∧ c.step ≤ 86400000 := by
  unfold clNum inB at h
  simp only [Bool.and_eq_true, decide_eq_true_eq] at h
  omega
/-- What a search finds in classes that stand in their order. -/
def Found (l : List ClV) (s : ByteArray) (i : Nat) (f : Bool) : Prop := i ≤ l.length ∧ ((f = true ∧ ∃ c, l[i]? = some c ∧ clsAt l (nb s) = some c) ∨ (f = false ∧ clsAt l (nb s) = none))
theorem found_of {l : List ClV} (hs : Srt l) {s : ByteArray} {i : Nat} (h1 : ∀ (j : Nat) (c : ClV), j < i → l[j]? = some c → cmpS c.pre s < 0) (h2 : ∀ (j : Nat) (c : ClV), i ≤ j → l[j]? = some c → ¬ cmpS c.pre s < 0) (hi : i ≤ l.length) :
    Found l s i ((l[i]?).elim false (fun c => cmpS c.pre s == 0)) := by
  refine ⟨hi, ?_⟩
  have low : ∀ (j : Nat) (c : ClV), j < i → l[j]? = some c → ¬ nb c.pre = nb s := fun j c hj hc e => by
    have := h1 j c hj hc
    rw [cmpS_zero.2 e] at this
    exact absurd this (by decide)
  cases hc : l[i]? with
  | none =>
    right
    refine ⟨rfl, ?_⟩
    unfold clsAt
    rw [List.find?_eq_none]
    intro c hm
    obtain ⟨j, hj⟩ := List.mem_iff_getElem?.1 hm
    have hjl := (List.getElem?_eq_some_iff.1 hj).1
    have hil : l.length ≤ i := List.getElem?_eq_none_iff.1 hc
    have := low j c (by omega) hj
    simpa using this
  | some c =>
    show ((cmpS c.pre s == 0) = true ∧ _) ∨ ((cmpS c.pre s == 0) = false ∧ _)
    by_cases e : cmpS c.pre s = 0
    · left
      refine ⟨by simpa using e, c, rfl, ?_⟩
      unfold clsAt
      rw [List.find?_eq_some_iff_getElem]
      obtain ⟨hl, hg⟩ := List.getElem?_eq_some_iff.1 hc
      refine ⟨by simpa using cmpS_zero.1 e, i, hl, hg, fun j hj => ?_⟩
      have := low j l[j] hj (List.getElem?_eq_getElem (by omega))
      simpa using this
    · right
      refine ⟨by simpa using e, ?_⟩
      unfold clsAt
      rw [List.find?_eq_none]
      intro c' hm
      obtain ⟨j, hj⟩ := List.mem_iff_getElem?.1 hm
      have hne : ¬ nb c'.pre = nb s := by
        rcases Nat.lt_trichotomy j i with h | h | h
        · exact low j c' h hj
        · subst h
          rw [hc] at hj
          injection hj with hj
          subst hj
          exact fun e2 => e (cmpS_zero.2 e2)
        · intro e2
          have h3 := hs i j c c' h hc hj
          rw [cmpS_eqr e2] at h3
          exact h2 i c (Nat.le_refl _) hc h3
      simpa using hne

/-! Prices. -/
def stepsOf (c : ClV) (talk : Int) : Int := if 0 < talk - c.first then (if 0 < (talk - c.first) % c.step then (talk - c.first) / c.step + 1 else (talk - c.first) / c.step) else 0
theorem steps_eq {c : ClV} (h : 1 ≤ c.step) (talk : Int) : stepsOf c talk = (max 0 (talk - c.first) + c.step - 1) / c.step := by
  unfold stepsOf
  by_cases h0 : 0 < talk - c.first
  · rw [if_pos h0]
    generalize talk - c.first = v at *
    rw [show max 0 v = v by omega]
    have hd := Int.mul_ediv_add_emod v c.step
    have hm1 := Int.emod_nonneg v (show c.step ≠ 0 by omega)
    have hm2 := Int.emod_lt_of_pos v (show 0 < c.step by omega)
    generalize v / c.step = q at *
    generalize v % c.step = r at *
    by_cases hr : 0 < r
    · rw [if_pos hr]
      symm
      rw [show v + c.step - 1 = (r - 1) + c.step * (q + 1) by rw [Int.mul_add]; omega, Int.add_mul_ediv_left _ _ (by omega), Int.ediv_eq_zero_of_lt (by omega) (by omega)]
      omega
    · rw [if_neg hr]
      symm
      rw [show v + c.step - 1 = (c.step - 1) + c.step * q by omega, Int.add_mul_ediv_left _ _ (by omega), Int.ediv_eq_zero_of_lt (by omega) (by omega)]
      omega
  · rw [if_neg h0, show max 0 (talk - c.first) = 0 by omega]
    symm
    exact Int.ediv_eq_zero_of_lt (by omega) (by omega)
theorem steps_bd {c : ClV} (h : clNum c = true) {talk : Int} (h1 : 0 ≤ talk) (h2 : talk ≤ 86400000) : 0 ≤ stepsOf c talk ∧ stepsOf c talk ≤ 86400000 := by
  obtain ⟨_, _, b3, b4, b5⟩ := clNum_bd h
  rw [steps_eq b4]
  constructor
  · exact Int.ediv_nonneg (by omega) (by omega)
  · have := Int.ediv_lt_of_lt_mul (a := max 0 (talk - c.first) + c.step - 1) (b := 86400001) (c := c.step) (by omega) (by omega)
    omega
theorem price_bd {c : ClV} (h : clNum c = true) {talk : Int} (h1 : 0 ≤ talk) (h2 : talk ≤ 86400000) : 0 ≤ c.rate * stepsOf c talk ∧ c.rate * stepsOf c talk ≤ 86400000000000 := by
  obtain ⟨_, b2, _⟩ := clNum_bd h
  obtain ⟨s1, s2⟩ := steps_bd h h1 h2
  refine ⟨Int.mul_nonneg b2.1 s1, ?_⟩
  have := Int.mul_le_mul b2.2 s2 s1 (by omega)
  omega

/-! Payers. -/
def pairsOf (l : List PyV) : List (ByteArray × ByteArray) := l.flatMap fun p => p.nums.map fun n => (n, p.key)
def lastOf (ps : List (ByteArray × ByteArray)) (k : ByteArray) : Option ByteArray := (ps.reverse.find? fun p => nb p.1 == nb k).map (·.2)
theorem lastOf_nil (k : ByteArray) : lastOf [] k = none := rfl
theorem lastOf_snoc (ps : List (ByteArray × ByteArray)) (n v k : ByteArray) : lastOf (ps ++ [(n, v)]) k = if nb n = nb k then some v else lastOf ps k := by
  unfold lastOf
  rw [List.reverse_append]
  show (List.find? _ ((n, v) :: ps.reverse)).map _ = _
  rw [List.find?_cons]
  by_cases e : nb n = nb k
  · rw [if_pos e]
    have : (nb (n, v).1 == nb k) = true := by simpa using e
    rw [this]; rfl
  · rw [if_neg e]
    have : (nb (n, v).1 == nb k) = false := by simpa using e
    rw [this]
def Dist (l : List ByteArray) : Prop := l.Pairwise fun a b => nb a ≠ nb b
theorem find_one (p : ByteArray × ByteArray) (ps : List (ByteArray × ByteArray)) (k : ByteArray) : (p :: ps).find? (fun p => nb p.1 == nb k) = if nb p.1 = nb k then some p else ps.find? (fun p => nb p.1 == nb k) := by
  rw [List.find?_cons]
  by_cases e : nb p.1 = nb k
  · rw [if_pos e, beq_iff_eq.2 e]
  · rw [if_neg e, beq_eq_false_iff_ne.2 e]
theorem find_rev {ps : List (ByteArray × ByteArray)} (h : Dist (ps.map (·.1))) (k : ByteArray) : ps.reverse.find? (fun p => nb p.1 == nb k) = ps.find? (fun p => nb p.1 == nb k) := by
  induction ps with
  | nil => rfl
  | cons p ps ih =>
    unfold Dist at h
    rw [List.map_cons, List.pairwise_cons] at h
    rw [List.reverse_cons, List.find?_append, ih h.2, find_one, find_one]
    by_cases e : nb p.1 = nb k
    · have e2 : ps.find? (fun p => nb p.1 == nb k) = none := by
        rw [List.find?_eq_none]
        intro q hq
        have := h.1 q.1 (List.mem_map.2 ⟨q, hq, rfl⟩)
        rw [e] at this
        simpa using fun h2 : nb q.1 = nb k => this h2.symm
      rw [e2, if_pos e, if_pos e]
      rfl
    · rw [if_neg e, if_neg e]
      exact Option.or_none
theorem memS_false {L : List ByteArray} {s : ByteArray} (h : memS L s = false) : ∀ x ∈ L, nb x ≠ nb s := by
  intro x hx
  unfold memS at h
  rw [List.any_eq_false] at h
  simpa using h x hx
theorem nums_dist {had : List ByteArray} (hd : Dist had) {ns : List ByteArray} (h : ∀ j, j < ns.length → numAt had ns j = 0) : Dist (had ++ ns) := by
  have step : ∀ k, k ≤ ns.length → Dist (had ++ ns.take k) := by
    intro k
    induction k with
    | zero => intro _; rw [List.take_zero, List.append_nil]; exact hd
    | succ k ih =>
      intro hk
      have hs : ns[k]? = some ns[k] := List.getElem?_eq_getElem (by omega)
      have h0 := h k (by omega)
      cases h1 : phOk (nb ns[k])
      · rw [numAt_3 hs h1] at h0; exact absurd h0 (by decide)
      · cases h2 : memS (had ++ ns.take k) ns[k]
        · rw [take_snoc' hs, ← List.append_assoc]
          unfold Dist
          rw [List.pairwise_append]
          refine ⟨ih (by omega), List.pairwise_singleton _ _, fun a ha b hb => ?_⟩
          rw [List.mem_singleton.1 hb]
          exact memS_false h2 a ha
        · rw [numAt_6 hs h1 h2] at h0; exact absurd h0 (by decide)
  have := step ns.length (Nat.le_refl _)
  rwa [List.take_of_length_le (Nat.le_refl _)] at this
theorem pays_dist {l : List PyV} (hn : ∀ p ∈ l, p.nums.length = p.nn) (h : pysE l = 0) : Dist (l.flatMap (·.nums)) := by
  unfold pysE at h
  by_cases h1 : 500 < l.length
  · rw [if_pos h1] at h; exact absurd h (by decide)
  · rw [if_neg h1] at h
    have hall := fstE_all h
    have step : ∀ k, k ≤ l.length → Dist (hadN l k) := by
      intro k
      induction k with
      | zero => intro _; exact List.Pairwise.nil
      | succ k ih =>
        intro hk
        have hs : l[k]? = some l[k] := List.getElem?_eq_getElem (by omega)
        rw [hadN_succ hs]
        refine nums_dist (ih (by omega)) ?_
        rw [hn _ (List.getElem_mem _)]
        have h0 := hall k (by omega)
        cases h2 : keyOk (nb l[k].key)
        · rw [payAt_5 hs h2] at h0; exact absurd h0 (by decide)
        · rw [payAt_last hs h2] at h0
          split at h0
          · exact absurd h0 (by decide)
          · split at h0
            · exact absurd h0 (by decide)
            · exact fstE_all h0
    have := step l.length (Nat.le_refl _)
    unfold hadN at this
    rwa [List.take_of_length_le (Nat.le_refl _)] at this
theorem pairs_keys (l : List PyV) : (pairsOf l).map (·.1) = l.flatMap (·.nums) := by
  unfold pairsOf
  rw [List.map_flatMap]
  congr 1
  funext p
  rw [List.map_map]
  exact List.map_id _
theorem pairs_find (l : List PyV) (k : ByteArray) : ((pairsOf l).find? (fun p => nb p.1 == nb k)).map (·.2) = (payerOf l (nb k)).map (·.key) := by
  induction l with
  | nil => rfl
  | cons p l ih =>
    have e0 : pairsOf (p :: l) = (p.nums.map fun n => (n, p.key)) ++ pairsOf l := by unfold pairsOf; rw [List.flatMap_cons]
    rw [e0, List.find?_append]
    unfold payerOf at ih ⊢
    rw [List.find?_cons, List.find?_map]
    show (((p.nums.find? (fun n => nb n == nb k)).map fun n => (n, p.key)).or _).map _ = _
    cases h : p.nums.find? (fun n => nb n == nb k) with
    | none =>
      have : p.nums.any (fun x => nb x == nb k) = false := by
        rw [List.any_eq_false]
        intro x hx
        exact List.find?_eq_none.1 h x hx
      rw [this]
      exact ih
    | some n =>
      have : p.nums.any (fun x => nb x == nb k) = true := by
        rw [List.any_eq_true]
        exact ⟨n, List.mem_of_find?_eq_some h, by have := List.find?_some h; exact this⟩
      rw [this]
      rfl
/-- Right payers: who was put last under a number is the first one who has it. -/
theorem payer_last {l : List PyV} (hn : ∀ p ∈ l, p.nums.length = p.nn) (h : pysE l = 0) (k : ByteArray) : lastOf (pairsOf l) k = (payerOf l (nb k)).map (·.key) := by
  unfold lastOf
  rw [find_rev (by rw [pairs_keys]; exact pays_dist hn h), pairs_find]
end
end Go.Proofs.YtelpakmiciilgaaGreatDoor
/- Contracts of cmp.Compare and cmp.Or at int. Conditions: none. -/
namespace Go.Proofs.YtelpakmiciilgaaGreatDoor
section
open Go.RowKit

def cmpZ (a b : Int) : Int := if a < b then -1 else if b < a then 1 else 0
/-- The first of two numbers that is not 0. -/
def orZ (a b : Int) : Int := if a = 0 then b else a
end
end Go.Proofs.YtelpakmiciilgaaGreatDoor

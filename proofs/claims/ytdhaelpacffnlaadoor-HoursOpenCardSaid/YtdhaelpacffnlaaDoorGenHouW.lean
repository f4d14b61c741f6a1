/- Words for the generators of hours: slices of hours that a call makes, with their rows and holidays. Conditions: none. -/
import Derived.Test.YtdhaelpacffnlaaDoorHouP
import Derived.Test.YtdhaelpacffnlaaDoorOwnR
import Derived.Test.YtdhaelpacffnlaaDoorStream
namespace Go.Proofs.YtdhaelpacffnlaaDoor
open Go.RowKit

def HrBd (a : HrV) : Prop := a.key.size ≤ 1000 ∧ a.rn ≤ 1000 ∧ a.hn ≤ 1000
def HrOwn (w : World) (lo : Nat) (a : HrV) : Prop := HrBd a ∧ OwnR r3Row 3 w lo 56 a.rA a.rn a.rc a.rows ∧ OwnR r3Row 3 w lo 58 a.hA a.hn a.hc a.hol
def HrApart (a b : HrV) : Prop := (∀ g, blkOf a.rA = some g → blkOf b.rA ≠ some g) ∧ (∀ g, blkOf a.hA = some g → blkOf b.hA ≠ some g)
def GHrs (w : World) (lo : Nat) (A : Option Addr) (n c : Nat) (l : List HrV) : Prop :=
  OwnR HrV.row 4 w lo 37 A n c l ∧ (∀ a ∈ l, HrOwn w lo a) ∧ ∀ (i j : Nat) (a b : HrV), i ≠ j → l[i]? = some a → l[j]? = some b → HrApart a b
theorem mem_setH {α : Type} {l : List α} {i : Nat} {a x : α} (h : x ∈ l.set i a) : x = a ∨ ∃ j, j ≠ i ∧ l[j]? = some x := by
  obtain ⟨j, hj⟩ := List.mem_iff_getElem?.1 h
  rw [List.getElem?_set] at hj
  split at hj
  · split at hj
    · injection hj with hj; exact .inl hj.symm
    · cases hj
  · rename_i hne
    exact .inr ⟨j, fun e => hne e.symm, hj⟩
section
variable {w w' : World} {lo n c : Nat} {A : Option Addr} {l : List HrV}
theorem HrOwn.ok {a : HrV} (h : HrOwn w lo a) : HrOk w lo a := ⟨h.1, h.2.1.recs, h.2.2.recs⟩
theorem GHrs.hrs (h : GHrs w lo A n c l) : Hrs w lo A n c l := ⟨h.1.recs, fun a ha => (h.2.1 a ha).ok⟩
theorem GHrs.nil (w : World) (lo : Nat) : GHrs w lo none 0 0 [] := ⟨OwnR.nil _ _ _, (fun a ha => by cases ha), fun i j a b _ h => by simp at h⟩
theorem HrOwn.kept {a : HrV} (h : HrOwn w lo a) {r : Option Nat} (hg : w.grownBy w' r) (h1 : ∀ g, r = some g → blkOf a.rA ≠ some g) (h2 : ∀ g, r = some g → blkOf a.hA ≠ some g) : HrOwn w' lo a := ⟨h.1, h.2.1.kept hg h1, h.2.2.kept hg h2⟩
theorem HrOwn.low {a : HrV} (h : HrOwn w lo a) {r : Option Nat} (hg : w.grownBy w' r) (hr : ∀ g, r = some g → g < lo) : HrOwn w' lo a := ⟨h.1, h.2.1.low hg hr, h.2.2.low hg hr⟩
theorem HrOwn.lower {a : HrV} {lo' : Nat} (h : HrOwn w lo a) (hl : lo' ≤ lo) : HrOwn w lo' a := ⟨h.1, h.2.1.lower hl, h.2.2.lower hl⟩
theorem GHrs.low (h : GHrs w lo A n c l) {r : Option Nat} (hg : w.grownBy w' r) (hr : ∀ g, r = some g → g < lo) : GHrs w' lo A n c l := ⟨h.1.low hg hr, fun a ha => (h.2.1 a ha).low hg hr, h.2.2⟩
theorem HrOwn.other {a : HrV} (h : HrOwn w lo a) {lo' n' c' k' : Nat} {A' : Option Addr} {xs : List Value} (ho : Own w lo' 37 k' A' n' c' xs) (hg : w.grownBy w' (blkOf A')) : HrOwn w' lo a :=
  h.kept hg (fun g e => Own.ne ho h.2.1.1 (by decide) e) (fun g e => Own.ne ho h.2.2.1 (by decide) e)
/-- Hours are appended whose slices lie behind those of the others. -/
theorem GHrs.app {a : HrV} {hi : Nat} (h : GHrs w lo A n c l) (ha : HrOwn w hi a) (hlo : lo ≤ hi) (hb : ∀ b ∈ l, (∀ g, blkOf b.rA = some g → g < hi) ∧ (∀ g, blkOf b.hA = some g → g < hi)) {A1 : Option Addr} {c1 n1 : Nat} (hn : n1 = n + 1)
    (h1 : Appended w lo 37 4 A A1 n1 c1 (l.flatMap HrV.row ++ a.row) w') : GHrs w' lo A1 n1 c1 (l ++ [a]) := by
  have ap : ∀ b ∈ l, HrApart a b ∧ HrApart b a := fun b hb1 => by
    obtain ⟨q1, q2⟩ := hb b hb1
    exact ⟨⟨fun g e e' => by have := q1 g e'; have := (ha.2.1.1.lt e).1; omega, fun g e e' => by have := q2 g e'; have := (ha.2.2.1.lt e).1; omega⟩,
      ⟨fun g e e' => by have := q1 g e; have := (ha.2.1.1.lt e').1; omega, fun g e e' => by have := q2 g e; have := (ha.2.2.1.lt e').1; omega⟩⟩
  refine ⟨h.1.app hn h1, fun b hb1 => ?_, fun i j x y hne hx hy => ?_⟩
  · rcases List.mem_append.1 hb1 with hb1 | hb1
    · exact (h.2.1 b hb1).other h.1.1 h1.2.1
    · rw [List.mem_singleton.1 hb1]; exact (ha.lower hlo).other h.1.1 h1.2.1
  · rw [List.getElem?_append] at hx hy
    split at hx <;> split at hy
    · exact h.2.2 i j x y hne hx hy
    · rename_i q1 q2
      have : y = a := by
        cases hj : j - l.length with
        | zero => rw [hj] at hy; simpa using hy.symm
        | succ q => rw [hj] at hy; simp at hy
      subst this
      exact (ap x (mem_of_get hx)).2
    · rename_i q1 q2
      have : x = a := by
        cases hj : i - l.length with
        | zero => rw [hj] at hx; simpa using hx.symm
        | succ q => rw [hj] at hx; simp at hx
      subst this
      exact (ap y (mem_of_get hy)).1
    · exfalso
      rename_i q1 q2
      have h3 : i - l.length = 0 := by
        cases hj : i - l.length with
        | zero => rfl
        | succ q => rw [hj] at hx; simp at hx
      have h4 : j - l.length = 0 := by
        cases hj : j - l.length with
        | zero => rfl
        | succ q => rw [hj] at hy; simp at hy
      omega
/-- One cell of some hours is stored anew: not one of its slices. -/
theorem GHrs.set1 {g i j p : Nat} {a a' : HrV} {u : Value} (h : GHrs w lo (some ⟨g, 0, none⟩) n c l) (hi : l[i]? = some a) (hj : j < 4) (hr : a'.row = a.row.set j u) (hb : HrBd a') (hs : a'.rA = a.rA ∧ a'.rn = a.rn ∧ a'.rc = a.rc ∧ a'.rows = a.rows ∧ a'.hA = a.hA ∧ a'.hn = a.hn ∧ a'.hc = a.hc ∧ a'.hol = a.hol) (hp : p = i * 4 + j) :
    GHrs (w.setCell ⟨g, p, none⟩ u) lo (some ⟨g, 0, none⟩) n c (l.set i a') := by
  have hg : w.grownBy (w.setCell ⟨g, p, none⟩ u) (blkOf (some ⟨g, 0, none⟩)) := gr_setCell (gr_refl _ _) (.inl rfl) _
  obtain ⟨s1, s2, s3, s4, s5, s6, s7, s8⟩ := hs
  refine ⟨h.1.set1 HrV.row_len hi hj hr hp, fun x hx => ?_, fun i1 j1 x y hne hx hy => ?_⟩
  · rcases mem_setH hx with rfl | ⟨q, _, hx⟩
    · have h1 := (h.2.1 a (mem_of_get hi)).other h.1.1 hg
      refine ⟨hb, ?_, ?_⟩
      · rw [s1, s2, s3, s4]; exact h1.2.1
      · rw [s5, s6, s7, s8]; exact h1.2.2
    · exact (h.2.1 x (mem_of_get hx)).other h.1.1 hg
  · have e1 : ∀ (q : Nat) (x : HrV), (l.set i a')[q]? = some x → ∃ z : HrV, l[q]? = some z ∧ x.rA = z.rA ∧ x.hA = z.hA := fun q x hx => by
      rw [List.getElem?_set] at hx
      split at hx
      · split at hx
        · rename_i e _
          injection hx with hx
          subst hx; subst e
          exact ⟨a, hi, s1, s5⟩
        · cases hx
      · exact ⟨x, hx, rfl, rfl⟩
    obtain ⟨z1, q1, q2, q3⟩ := e1 _ _ hx
    obtain ⟨z2, q4, q5, q6⟩ := e1 _ _ hy
    have := h.2.2 _ _ _ _ hne q1 q4
    unfold HrApart
    rw [q2, q3, q5, q6]
    exact this
/-- The rows of some hours are put anew, grown by an append. -/
theorem GHrs.rows {g i p : Nat} {a : HrV} {w1 : World} (h : GHrs w lo (some ⟨g, 0, none⟩) n c l) (hi : l[i]? = some a) {s : Int × Int × Int} {A1 : Option Addr} {c1 n1 : Nat} (hn : n1 = a.rn + 1) (hb : n1 ≤ 1000)
    (h1 : Appended w lo 56 3 a.rA A1 n1 c1 (a.rows.flatMap r3Row ++ r3Row s) w1) (hp : p = i * 4 + 2) :
    Hrs (w1.setCell ⟨g, p, none⟩ (.slice A1 n1 c1)) lo (some ⟨g, 0, none⟩) n c (l.set i { a with rA := A1, rn := n1, rc := c1, rows := a.rows ++ [s] }) := by
  have ho := h.2.1 a (mem_of_get hi)
  have hm : OwnR HrV.row 4 w1 lo 37 (some ⟨g, 0, none⟩) n c l := h.1.kept h1.2.1 (fun g' e => Own.ne ho.2.1.1 h.1.1 (by decide) e)
  have hg : w1.grownBy (w1.setCell ⟨g, p, none⟩ (.slice A1 n1 c1)) (blkOf (some ⟨g, 0, none⟩)) := gr_setCell (gr_refl _ _) (.inl rfl) _
  refine ⟨(hm.set1 (a' := { a with rA := A1, rn := n1, rc := c1, rows := a.rows ++ [s] }) HrV.row_len hi (j := 2) (by omega) rfl hp).recs, fun x hx => ?_⟩
  rcases mem_setH hx with rfl | ⟨q, hq, hx⟩
  · refine HrOwn.ok (HrOwn.other (w := w1) ⟨⟨ho.1.1, hb, ho.1.2.2⟩, ho.2.1.app hn h1, ?_⟩ hm.1 hg)
    exact ho.2.2.kept h1.2.1 (fun g' e => Own.ne ho.2.1.1 ho.2.2.1 (by decide) e)
  · have hx1 := h.2.1 x (mem_of_get hx)
    have hap := h.2.2 _ _ _ _ (fun e => hq e.symm) hi hx
    exact HrOwn.ok (HrOwn.other (hx1.kept h1.2.1 (fun g' e => hap.1 g' e) (fun g' e => Own.ne ho.2.1.1 hx1.2.2.1 (by decide) e)) hm.1 hg)
/-- The holidays of some hours are put anew, grown by an append. -/
theorem GHrs.hols {g i p : Nat} {a : HrV} {w1 : World} (h : GHrs w lo (some ⟨g, 0, none⟩) n c l) (hi : l[i]? = some a) {s : Int × Int × Int} {A1 : Option Addr} {c1 n1 : Nat} (hn : n1 = a.hn + 1) (hb : n1 ≤ 1000)
    (h1 : Appended w lo 58 3 a.hA A1 n1 c1 (a.hol.flatMap r3Row ++ r3Row s) w1) (hp : p = i * 4 + 3) :
    Hrs (w1.setCell ⟨g, p, none⟩ (.slice A1 n1 c1)) lo (some ⟨g, 0, none⟩) n c (l.set i { a with hA := A1, hn := n1, hc := c1, hol := a.hol ++ [s] }) := by
  have ho := h.2.1 a (mem_of_get hi)
  have hm : OwnR HrV.row 4 w1 lo 37 (some ⟨g, 0, none⟩) n c l := h.1.kept h1.2.1 (fun g' e => Own.ne ho.2.2.1 h.1.1 (by decide) e)
  have hg : w1.grownBy (w1.setCell ⟨g, p, none⟩ (.slice A1 n1 c1)) (blkOf (some ⟨g, 0, none⟩)) := gr_setCell (gr_refl _ _) (.inl rfl) _
  refine ⟨(hm.set1 (a' := { a with hA := A1, hn := n1, hc := c1, hol := a.hol ++ [s] }) HrV.row_len hi (j := 3) (by omega) rfl hp).recs, fun x hx => ?_⟩
  rcases mem_setH hx with rfl | ⟨q, hq, hx⟩
  · refine HrOwn.ok (HrOwn.other (w := w1) ⟨⟨ho.1.1, ho.1.2.1, hb⟩, ?_, ho.2.2.app hn h1⟩ hm.1 hg)
    exact ho.2.1.kept h1.2.1 (fun g' e => Own.ne ho.2.2.1 ho.2.1.1 (by decide) e)
  · have hx1 := h.2.1 x (mem_of_get hx)
    have hap := h.2.2 _ _ _ _ (fun e => hq e.symm) hi hx
    exact HrOwn.ok (HrOwn.other (hx1.kept h1.2.1 (fun g' e => Own.ne ho.2.2.1 hx1.2.1.1 (by decide) e) (fun g' e => hap.2 g' e)) hm.1 hg)
end
/-- The answer of the generators of hours. -/
def IsHrs (lo most : Nat) (v : Value) (w : World) : Prop := ∃ (A : Option Addr) (c : Nat) (l : List HrV), v = .slice A most c ∧ Hrs w lo A most c l
def IsGHrs (lo most : Nat) (v : Value) (w : World) : Prop := ∃ (A : Option Addr) (c : Nat) (l : List HrV), v = .slice A most c ∧ GHrs w lo A most c l ∧ ∀ a ∈ l, a.rn ≤ 2 ∧ a.hn ≤ 3

/-! Hours that are being made: they lie in block ab, their slices are the call's own. -/
def HrB (w : World) (sb ab : Nat) (m : Int) (a : HrV) (wr : World) : Prop :=
  Str wr sb m ∧ w.grownBy wr (some sb) ∧ w.heap.size ≤ ab ∧ Blk wr ab 37 #[.string a.key, .int .i64 a.zone, .slice a.rA a.rn a.rc, .slice a.hA a.hn a.hc] ∧ HrOwn wr w.heap.size a
section
variable {w wr wx w8 : World} {sb ab : Nat} {m m' : Int} {a : HrV}
theorem HrB.row1 (h : HrB w sb ab m a wr) (hsb : sb < w.heap.size) {s : Int × Int × Int} {n1 : Nat} (hn : n1 = a.rn + 1) (hb : n1 ≤ 1000) (hsx : Str wx sb m') (hgx : wr.grownBy wx (some sb)) {A1 : Option Addr} {c1 : Nat}
    (h8 : Appended wx w.heap.size 56 3 a.rA A1 n1 c1 (a.rows.flatMap r3Row ++ r3Row s) w8) :
    HrB w sb ab m' { a with rA := A1, rn := n1, rc := c1, rows := a.rows ++ [s] } (w8.setCell ⟨ab, 2, none⟩ (.slice A1 n1 c1)) := by
  obtain ⟨_, hg, hp, hbk, ho⟩ := h
  have hox : HrOwn wx w.heap.size a := ho.low hgx (fun g e => by injection e with e; omega)
  have hbx := hbk.grown hgx (by simp; omega)
  have hb8 := hbx.grown h8.2.1 (Ne.symm (hox.2.1.1.blk_ne hbx (by decide)))
  have hg8 : w.grownBy w8 (some sb) := gr_own (gr_same hg hgx) hox.2.1.1 (Nat.le_refl _) h8.2.1
  have hz := hg8.size
  have hs8 : Str w8 sb m' := hsx.grown h8.2.1 (fun g e => by have := (hox.2.1.1.lt e).1; omega)
  refine ⟨hs8.setCell (by simp; omega) _, gr_setCell hg8 (.inr (by simp; omega)) _, hp, hb8.set_ 2 _, ⟨hox.1.1, hb, hox.1.2.2⟩, ?_, ?_⟩
  · have h9 := hox.2.1.app hn h8
    exact ⟨h9.1.far (h9.1.blk_ne hb8 (by decide)) _, h9.2⟩
  · have h9 := hox.2.2.kept h8.2.1 (fun g' e => Own.ne hox.2.1.1 hox.2.2.1 (by decide) e)
    exact ⟨h9.1.far (h9.1.blk_ne hb8 (by decide)) _, h9.2⟩
theorem HrB.hol1 (h : HrB w sb ab m a wr) (hsb : sb < w.heap.size) {s : Int × Int × Int} {n1 : Nat} (hn : n1 = a.hn + 1) (hb : n1 ≤ 1000) (hsx : Str wx sb m') (hgx : wr.grownBy wx (some sb)) {A1 : Option Addr} {c1 : Nat}
    (h8 : Appended wx w.heap.size 58 3 a.hA A1 n1 c1 (a.hol.flatMap r3Row ++ r3Row s) w8) :
    HrB w sb ab m' { a with hA := A1, hn := n1, hc := c1, hol := a.hol ++ [s] } (w8.setCell ⟨ab, 3, none⟩ (.slice A1 n1 c1)) := by
  obtain ⟨_, hg, hp, hbk, ho⟩ := h
  have hox : HrOwn wx w.heap.size a := ho.low hgx (fun g e => by injection e with e; omega)
  have hbx := hbk.grown hgx (by simp; omega)
  have hb8 := hbx.grown h8.2.1 (Ne.symm (hox.2.2.1.blk_ne hbx (by decide)))
  have hg8 : w.grownBy w8 (some sb) := gr_own (gr_same hg hgx) hox.2.2.1 (Nat.le_refl _) h8.2.1
  have hz := hg8.size
  have hs8 : Str w8 sb m' := hsx.grown h8.2.1 (fun g e => by have := (hox.2.2.1.lt e).1; omega)
  refine ⟨hs8.setCell (by simp; omega) _, gr_setCell hg8 (.inr (by simp; omega)) _, hp, hb8.set_ 3 _, ⟨hox.1.1, hox.1.2.1, hb⟩, ?_, ?_⟩
  · have h9 := hox.2.1.kept h8.2.1 (fun g' e => Own.ne hox.2.2.1 hox.2.1.1 (by decide) e)
    exact ⟨h9.1.far (h9.1.blk_ne hb8 (by decide)) _, h9.2⟩
  · have h9 := hox.2.2.app hn h8
    exact ⟨h9.1.far (h9.1.blk_ne hb8 (by decide)) _, h9.2⟩
theorem HrB.step (h : HrB w sb ab m a wr) (hsb : sb < w.heap.size) (hsx : Str wx sb m') (hgx : wr.grownBy wx (some sb)) : HrB w sb ab m' a wx :=
  ⟨hsx, gr_same h.2.1 hgx, h.2.2.1, h.2.2.2.1.grown hgx (by have := h.2.2.1; simp; omega), h.2.2.2.2.low hgx (fun g e => by injection e with e; omega)⟩
end
/-- A block that the making of some hours' slices leaves alone. -/
theorem HrB.blk {w wr wx w8 : World} {sb ab : Nat} {m : Int} {a : HrV} (_h : HrB w sb ab m a wr) {e t : TypeId} {A A1 : Option Addr} {n c n1 c1 g j : Nat} {xs ys : List Value} {cs : Array Value} {v : Value} (hb : Blk wr g t cs) (hgx : wr.grownBy wx (some sb)) (hs : g ≠ sb) (hg : g ≠ ab)
    (ho : Own wx w.heap.size e 3 A n c xs) (hne : e ≠ t) (h8 : Appended wx w.heap.size e 3 A A1 n1 c1 ys w8) : Blk (w8.setCell ⟨ab, j, none⟩ v) g t cs := by
  have hbx := hb.grown hgx (by simpa using hs)
  exact (hbx.grown h8.2.1 (Ne.symm (ho.blk_ne hbx hne))).far (by simpa using hg) v
theorem Tryd.hrsT : ElemT Tryd.prog 26 37 4 72 (.agg #[.string ⟨#[]⟩, .int .i64 0, .slice none 0 0, .slice none 0 0]) := elemT_of Tryd.underlying26 (by kernel_rfl) rfl (by decide)
theorem Tryd.rwsT : ElemT Tryd.prog 34 56 3 24 (.agg #[.int .i64 0, .int .i64 0, .int .i64 0]) := elemT_of Tryd.underlying34 (by kernel_rfl) rfl (by decide)
theorem Tryd.hosT : ElemT Tryd.prog 35 58 3 24 (.agg #[.int .i64 0, .int .i64 0, .int .i64 0]) := elemT_of Tryd.underlying35 (by kernel_rfl) rfl (by decide)
end Go.Proofs.YtdhaelpacffnlaaDoor

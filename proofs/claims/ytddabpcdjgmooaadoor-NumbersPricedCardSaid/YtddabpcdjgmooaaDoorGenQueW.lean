/- Words for the generators of agents and callers: slices of records that a call makes. Conditions: none. -/
import Derived.Test.YtddabpcdjgmooaaDoorCalP
import Derived.Test.YtddabpcdjgmooaaDoorStream
namespace Go.Proofs.YtddabpcdjgmooaaDoor
open Go.RowKit

theorem flat_set1' {α : Type} {row : α → List Value} {k : Nat} (hrow : ∀ a, (row a).length = k) {l : List α} {i : Nat} {a a' : α} (hi : l[i]? = some a) {j : Nat} (hj : j < k) {u : Value} (hr : row a' = (row a).set j u) : (l.flatMap row).set (i * k + j) u = (l.set i a').flatMap row := by
  have h := flat_set (row := row) (k := k) hrow (by omega) hi (a' := a') (ys := [u]) j (by simp; omega) (by
    rw [hr, List.set_eq_take_append_cons_drop, if_pos (by rw [hrow]; exact hj)]; simp)
  have hil := (List.getElem?_eq_some_iff.1 hi).1
  have hle : (i + 1) * k ≤ l.length * k := Nat.mul_le_mul_right k hil
  rw [Nat.succ_mul] at hle
  rw [← h, List.set_eq_take_append_cons_drop, if_pos (by rw [flat_len hrow]; omega)]
  simp

theorem reads_at (w : World) (t : TypeId) (cs : List Value) (size : Nat) (h : cs.length = size) {g : Nat} (hg : w.heap.size = g) : Reads (w.alloc (.cells cs.toArray t)) g size (some ⟨g, 0, none⟩) 1 1 cs := by
  subst hg; exact Reads.one w t cs size h
/-- A slice of records of the call's own. -/
def OwnR {α : Type} (row : α → List Value) (k : Nat) (w : World) (lo : Nat) (e : TypeId) (A : Option Addr) (n c : Nat) (l : List α) : Prop := Own w lo e k A n c (l.flatMap row) ∧ l.length = n
section
variable {α : Type} {row : α → List Value} {k : Nat} {w w' : World} {lo lo' n c : Nat} {e : TypeId} {A : Option Addr} {l : List α}
theorem OwnR.recs (h : OwnR row k w lo e A n c l) : Recs row k w lo A n c l := ⟨h.1.reads, h.2⟩
theorem OwnR.nil (w : World) (lo : Nat) (e : TypeId) : OwnR row k w lo e none 0 0 [] := ⟨Own.nil _ _ _ _, rfl⟩
theorem OwnR.kept (h : OwnR row k w lo e A n c l) {r : Option Nat} (hg : w.grownBy w' r) (hne : ∀ g, r = some g → blkOf A ≠ some g) : OwnR row k w' lo e A n c l := ⟨h.1.kept hg hne, h.2⟩
theorem OwnR.low (h : OwnR row k w lo e A n c l) {r : Option Nat} (hg : w.grownBy w' r) (hr : ∀ g, r = some g → g < lo) : OwnR row k w' lo e A n c l :=
  h.kept hg (fun g e e' => by have := hr g e; have := (h.1.lt e').1; omega)
theorem OwnR.lower (h : OwnR row k w lo e A n c l) (hl : lo' ≤ lo) : OwnR row k w lo' e A n c l := ⟨h.1.lower hl, h.2⟩
theorem OwnR.alloc (h : OwnR row k w lo e A n c l) (o : Obj) : OwnR row k (w.alloc o) lo e A n c l := ⟨h.1.alloc o, h.2⟩
theorem OwnR.app {a : α} (h : OwnR row k w lo e A n c l) {A1 : Option Addr} {c1 n1 : Nat} (hn : n1 = n + 1) (h1 : Appended w lo e k A A1 n1 c1 (l.flatMap row ++ row a) w') : OwnR row k w' lo e A1 n1 c1 (l ++ [a]) := by
  subst hn
  refine ⟨?_, by simp [h.2]⟩
  rw [List.flatMap_append]
  simpa using h1.1
theorem OwnR.set1 {g i j p : Nat} {a a' : α} {u : Value} (hrow : ∀ a, (row a).length = k) (h : OwnR row k w lo e (some ⟨g, 0, none⟩) n c l) (hi : l[i]? = some a) (hj : j < k) (hr : row a' = (row a).set j u) (hp : p = i * k + j) : OwnR row k (w.setCell ⟨g, p, none⟩ u) lo e (some ⟨g, 0, none⟩) n c (l.set i a') := by
  subst hp
  refine ⟨?_, by simp [h.2]⟩
  rw [← flat_set1' hrow hi hj hr]
  exact h.1.stored _ u
end

/-! Agents. -/
def AgBd (a : AgV) : Prop := a.key.size ≤ 1000 ∧ (∀ s ∈ a.sk, s.1.size ≤ 1000) ∧ a.sn ≤ 1000 ∧ a.pn ≤ 1000
def AgOwn (w : World) (lo : Nat) (a : AgV) : Prop := AgBd a ∧ OwnR skRow 2 w lo 102 a.sA a.sn a.sc a.sk ∧ OwnR pwRow 2 w lo 40 a.pA a.pn a.pc a.ps
def AgApart (a b : AgV) : Prop := (∀ g, blkOf a.sA = some g → blkOf b.sA ≠ some g) ∧ (∀ g, blkOf a.pA = some g → blkOf b.pA ≠ some g)
def GAgs (w : World) (lo : Nat) (A : Option Addr) (n c : Nat) (l : List AgV) : Prop :=
  OwnR AgV.row 6 w lo 43 A n c l ∧ (∀ a ∈ l, AgOwn w lo a) ∧ ∀ (i j : Nat) (a b : AgV), i ≠ j → l[i]? = some a → l[j]? = some b → AgApart a b
section
variable {w w' : World} {lo n c : Nat} {A : Option Addr} {l : List AgV}
theorem AgOwn.ok {a : AgV} (h : AgOwn w lo a) : AgOk w lo a := ⟨h.1, h.2.1.recs, h.2.2.recs⟩
theorem GAgs.ags (h : GAgs w lo A n c l) : Ags w lo A n c l := ⟨h.1.recs, fun a ha => (h.2.1 a ha).ok⟩
theorem GAgs.nil (w : World) (lo : Nat) : GAgs w lo none 0 0 [] := ⟨OwnR.nil _ _ _, (fun a ha => by cases ha), fun i j a b _ h => by simp at h⟩
theorem AgOwn.kept {a : AgV} (h : AgOwn w lo a) {r : Option Nat} (hg : w.grownBy w' r) (h1 : ∀ g, r = some g → blkOf a.sA ≠ some g) (h2 : ∀ g, r = some g → blkOf a.pA ≠ some g) : AgOwn w' lo a := ⟨h.1, h.2.1.kept hg h1, h.2.2.kept hg h2⟩
theorem AgOwn.low {a : AgV} (h : AgOwn w lo a) {r : Option Nat} (hg : w.grownBy w' r) (hr : ∀ g, r = some g → g < lo) : AgOwn w' lo a := ⟨h.1, h.2.1.low hg hr, h.2.2.low hg hr⟩
theorem AgOwn.lower {a : AgV} {lo' : Nat} (h : AgOwn w lo a) (hl : lo' ≤ lo) : AgOwn w lo' a := ⟨h.1, h.2.1.lower hl, h.2.2.lower hl⟩
theorem GAgs.low (h : GAgs w lo A n c l) {r : Option Nat} (hg : w.grownBy w' r) (hr : ∀ g, r = some g → g < lo) : GAgs w' lo A n c l := ⟨h.1.low hg hr, fun a ha => (h.2.1 a ha).low hg hr, h.2.2⟩
theorem AgOwn.other {a : AgV} (h : AgOwn w lo a) {lo' n' c' k' : Nat} {A' : Option Addr} {xs : List Value} (ho : Own w lo' 43 k' A' n' c' xs) (hg : w.grownBy w' (blkOf A')) : AgOwn w' lo a :=
  h.kept hg (fun g e => Own.ne ho h.2.1.1 (by decide) e) (fun g e => Own.ne ho h.2.2.1 (by decide) e)
/-- An agent is appended whose slices lie behind those of the others. -/
theorem GAgs.app {a : AgV} {hi : Nat} (h : GAgs w lo A n c l) (ha : AgOwn w hi a) (hlo : lo ≤ hi) (hb : ∀ b ∈ l, (∀ g, blkOf b.sA = some g → g < hi) ∧ (∀ g, blkOf b.pA = some g → g < hi)) {A1 : Option Addr} {c1 n1 : Nat} (hn : n1 = n + 1)
    (h1 : Appended w lo 43 6 A A1 n1 c1 (l.flatMap AgV.row ++ a.row) w') : GAgs w' lo A1 n1 c1 (l ++ [a]) := by
  have ap : ∀ b ∈ l, AgApart a b ∧ AgApart b a := fun b hb1 => by
    obtain ⟨q1, q2⟩ := hb b hb1
    exact ⟨⟨fun g e e' => by have := q1 g e'; have := (ha.2.1.1.lt e).1; omega, fun g e e' => by have := q2 g e'; have := (ha.2.2.1.lt e).1; omega⟩,
      ⟨fun g e e' => by have := q1 g e; have := (ha.2.1.1.lt e').1; omega, fun g e e' => by have := q2 g e; have := (ha.2.2.1.lt e').1; omega⟩⟩
  refine ⟨h.1.app hn h1, fun b hb1 => ?_, fun i j x y hne hx hy => ?_⟩
  · rcases List.mem_append.1 hb1 with hb1 | hb1
    · exact (h.2.1 b hb1).other h.1.1 h1.2.1
    · rw [List.mem_singleton.1 hb1]; exact (ha.lower hlo).other h.1.1 h1.2.1
  · rw [List.getElem?_append] at hx hy
    split at hx <;> split at hy
    · exact h.2.2 i j x y hne hx hy
    · rename_i q1 q2
      have : y = a := by
        cases hj : j - l.length with
        | zero => rw [hj] at hy; simpa using hy.symm
        | succ q => rw [hj] at hy; simp at hy
      subst this
      exact (ap x (mem_of_get hx)).2
    · rename_i q1 q2
      have : x = a := by
        cases hj : i - l.length with
        | zero => rw [hj] at hx; simpa using hx.symm
        | succ q => rw [hj] at hx; simp at hx
      subst this
      exact (ap y (mem_of_get hy)).1
    · exfalso
      rename_i q1 q2
      have h3 : i - l.length = 0 := by
        cases hj : i - l.length with
        | zero => rfl
        | succ q => rw [hj] at hx; simp at hx
      have h4 : j - l.length = 0 := by
        cases hj : j - l.length with
        | zero => rfl
        | succ q => rw [hj] at hy; simp at hy
      omega
theorem mem_set_ne {α : Type} {l : List α} {i : Nat} {a x : α} (h : x ∈ l.set i a) : x = a ∨ ∃ j, j ≠ i ∧ l[j]? = some x := by
  obtain ⟨j, hj⟩ := List.mem_iff_getElem?.1 h
  rw [List.getElem?_set] at hj
  split at hj
  · split at hj
    · injection hj with hj; exact .inl hj.symm
    · cases hj
  · rename_i hne
    exact .inr ⟨j, fun e => hne e.symm, hj⟩
/-- One cell of an agent is stored anew: not one of its slices. -/
theorem GAgs.set1 {g i j p : Nat} {a a' : AgV} {u : Value} (h : GAgs w lo (some ⟨g, 0, none⟩) n c l) (hi : l[i]? = some a) (hj : j < 6) (hr : a'.row = a.row.set j u) (hb : AgBd a') (hs : a'.sA = a.sA ∧ a'.sn = a.sn ∧ a'.sc = a.sc ∧ a'.sk = a.sk ∧ a'.pA = a.pA ∧ a'.pn = a.pn ∧ a'.pc = a.pc ∧ a'.ps = a.ps) (hp : p = i * 6 + j) :
    GAgs (w.setCell ⟨g, p, none⟩ u) lo (some ⟨g, 0, none⟩) n c (l.set i a') := by
  have hg : w.grownBy (w.setCell ⟨g, p, none⟩ u) (blkOf (some ⟨g, 0, none⟩)) := gr_setCell (gr_refl _ _) (.inl rfl) _
  obtain ⟨s1, s2, s3, s4, s5, s6, s7, s8⟩ := hs
  refine ⟨h.1.set1 AgV.row_len hi hj hr hp, fun x hx => ?_, fun i1 j1 x y hne hx hy => ?_⟩
  · rcases mem_set_ne hx with rfl | ⟨q, _, hx⟩
    · have h1 := (h.2.1 a (mem_of_get hi)).other h.1.1 hg
      refine ⟨hb, ?_, ?_⟩
      · rw [s1, s2, s3, s4]; exact h1.2.1
      · rw [s5, s6, s7, s8]; exact h1.2.2
    · exact (h.2.1 x (mem_of_get hx)).other h.1.1 hg
  · have e1 : ∀ (q : Nat) (x : AgV), (l.set i a')[q]? = some x → ∃ z : AgV, l[q]? = some z ∧ x.sA = z.sA ∧ x.pA = z.pA := fun q x hx => by
      rw [List.getElem?_set] at hx
      split at hx
      · split at hx
        · rename_i e _
          injection hx with hx
          subst hx; subst e
          exact ⟨a, hi, s1, s5⟩
        · cases hx
      · exact ⟨x, hx, rfl, rfl⟩
    obtain ⟨z1, q1, q2, q3⟩ := e1 _ _ hx
    obtain ⟨z2, q4, q5, q6⟩ := e1 _ _ hy
    have := h.2.2 _ _ _ _ hne q1 q4
    unfold AgApart
    rw [q2, q3, q5, q6]
    exact this
/-- The skills of an agent are put anew, grown by an append. -/
theorem GAgs.skills {g i p : Nat} {a : AgV} {w1 : World} (h : GAgs w lo (some ⟨g, 0, none⟩) n c l) (hi : l[i]? = some a) {s : ByteArray × Int} {A1 : Option Addr} {c1 n1 : Nat} (hn : n1 = a.sn + 1) (hs : s.1.size ≤ 1000) (hb : n1 ≤ 1000)
    (h1 : Appended w lo 102 2 a.sA A1 n1 c1 (a.sk.flatMap skRow ++ skRow s) w1) (hp : p = i * 6 + 1) :
    Ags (w1.setCell ⟨g, p, none⟩ (.slice A1 n1 c1)) lo (some ⟨g, 0, none⟩) n c (l.set i { a with sA := A1, sn := n1, sc := c1, sk := a.sk ++ [s] }) := by
  have ho := h.2.1 a (mem_of_get hi)
  have hm : OwnR AgV.row 6 w1 lo 43 (some ⟨g, 0, none⟩) n c l := h.1.kept h1.2.1 (fun g' e => Own.ne ho.2.1.1 h.1.1 (by decide) e)
  have hg : w1.grownBy (w1.setCell ⟨g, p, none⟩ (.slice A1 n1 c1)) (blkOf (some ⟨g, 0, none⟩)) := gr_setCell (gr_refl _ _) (.inl rfl) _
  refine ⟨(hm.set1 (a' := { a with sA := A1, sn := n1, sc := c1, sk := a.sk ++ [s] }) AgV.row_len hi (j := 1) (by omega) rfl hp).recs, fun x hx => ?_⟩
  rcases mem_set_ne hx with rfl | ⟨q, hq, hx⟩
  · refine AgOwn.ok (AgOwn.other (w := w1) ⟨⟨ho.1.1, fun t ht => ?_, hb, ho.1.2.2.2⟩, ho.2.1.app hn h1, ?_⟩ hm.1 hg)
    · rcases List.mem_append.1 ht with ht | ht
      · exact ho.1.2.1 t ht
      · rw [List.mem_singleton.1 ht]; exact hs
    · exact ho.2.2.kept h1.2.1 (fun g' e => Own.ne ho.2.1.1 ho.2.2.1 (by decide) e)
  · have hx1 := h.2.1 x (mem_of_get hx)
    have hap := h.2.2 _ _ _ _ (fun e => hq e.symm) hi hx
    exact AgOwn.ok (AgOwn.other (hx1.kept h1.2.1 (fun g' e => hap.1 g' e) (fun g' e => Own.ne ho.2.1.1 hx1.2.2.1 (by decide) e)) hm.1 hg)
/-- The pauses of an agent are put anew, grown by an append. -/
theorem GAgs.pauses {g i p : Nat} {a : AgV} {w1 : World} (h : GAgs w lo (some ⟨g, 0, none⟩) n c l) (hi : l[i]? = some a) {s : Int × Int} {A1 : Option Addr} {c1 n1 : Nat} (hn : n1 = a.pn + 1) (hb : n1 ≤ 1000)
    (h1 : Appended w lo 40 2 a.pA A1 n1 c1 (a.ps.flatMap pwRow ++ pwRow s) w1) (hp : p = i * 6 + 4) :
    Ags (w1.setCell ⟨g, p, none⟩ (.slice A1 n1 c1)) lo (some ⟨g, 0, none⟩) n c (l.set i { a with pA := A1, pn := n1, pc := c1, ps := a.ps ++ [s] }) := by
  have ho := h.2.1 a (mem_of_get hi)
  have hm : OwnR AgV.row 6 w1 lo 43 (some ⟨g, 0, none⟩) n c l := h.1.kept h1.2.1 (fun g' e => Own.ne ho.2.2.1 h.1.1 (by decide) e)
  have hg : w1.grownBy (w1.setCell ⟨g, p, none⟩ (.slice A1 n1 c1)) (blkOf (some ⟨g, 0, none⟩)) := gr_setCell (gr_refl _ _) (.inl rfl) _
  refine ⟨(hm.set1 (a' := { a with pA := A1, pn := n1, pc := c1, ps := a.ps ++ [s] }) AgV.row_len hi (j := 4) (by omega) rfl hp).recs, fun x hx => ?_⟩
  rcases mem_set_ne hx with rfl | ⟨q, hq, hx⟩
  · refine AgOwn.ok (AgOwn.other (w := w1) ⟨⟨ho.1.1, ho.1.2.1, ho.1.2.2.1, hb⟩, ?_, ho.2.2.app hn h1⟩ hm.1 hg)
    exact ho.2.1.kept h1.2.1 (fun g' e => Own.ne ho.2.2.1 ho.2.1.1 (by decide) e)
  · have hx1 := h.2.1 x (mem_of_get hx)
    have hap := h.2.2 _ _ _ _ (fun e => hq e.symm) hi hx
    exact AgOwn.ok (AgOwn.other (hx1.kept h1.2.1 (fun g' e => Own.ne ho.2.2.1 hx1.2.1.1 (by decide) e) (fun g' e => hap.2 g' e)) hm.1 hg)
end
/-- The answer of the generators of agents. -/
def IsAgs (lo most : Nat) (v : Value) (w : World) : Prop := ∃ (A : Option Addr) (n c : Nat) (l : List AgV), v = .slice A n c ∧ Ags w lo A n c l ∧ n ≤ most
def IsGAgs (lo most : Nat) (v : Value) (w : World) : Prop := ∃ (A : Option Addr) (n c : Nat) (l : List AgV), v = .slice A n c ∧ GAgs w lo A n c l ∧ n ≤ most ∧ ∀ a ∈ l, a.sn ≤ 2 ∧ a.pn ≤ 2

/-! An agent that is being made: it lies in block ab, its slices are the call's own. -/
def AgB (w : World) (sb ab : Nat) (m : Int) (a : AgV) (wr : World) : Prop :=
  Str wr sb m ∧ w.grownBy wr (some sb) ∧ w.heap.size ≤ ab ∧ Blk wr ab 43 #[.string a.key, .slice a.sA a.sn a.sc, .int .i64 a.fr, .int .i64 a.til, .slice a.pA a.pn a.pc, .int .i64 a.wrap] ∧ AgOwn wr w.heap.size a
section
variable {w wr wx w8 : World} {sb ab : Nat} {m m' : Int} {a : AgV}
theorem AgB.skill (h : AgB w sb ab m a wr) (hsb : sb < w.heap.size) {s : ByteArray × Int} (hs : s.1.size ≤ 1000) {n1 : Nat} (hn : n1 = a.sn + 1) (hb : n1 ≤ 1000) (hsx : Str wx sb m') (hgx : wr.grownBy wx (some sb)) {A1 : Option Addr} {c1 : Nat}
    (h8 : Appended wx w.heap.size 102 2 a.sA A1 n1 c1 (a.sk.flatMap skRow ++ skRow s) w8) :
    AgB w sb ab m' { a with sA := A1, sn := n1, sc := c1, sk := a.sk ++ [s] } (w8.setCell ⟨ab, 1, none⟩ (.slice A1 n1 c1)) := by
  obtain ⟨_, hg, hp, hbk, ho⟩ := h
  have hox : AgOwn wx w.heap.size a := ho.low hgx (fun g e => by injection e with e; omega)
  have hbx := hbk.grown hgx (by simp; omega)
  have hb8 := hbx.grown h8.2.1 (Ne.symm (hox.2.1.1.blk_ne hbx (by decide)))
  have hg8 : w.grownBy w8 (some sb) := gr_own (gr_same hg hgx) hox.2.1.1 (Nat.le_refl _) h8.2.1
  have hz := hg8.size
  have hs8 : Str w8 sb m' := hsx.grown h8.2.1 (fun g e => by have := (hox.2.1.1.lt e).1; omega)
  refine ⟨hs8.setCell (by simp; omega) _, gr_setCell hg8 (.inr (by simp; omega)) _, hp, hb8.set_ 1 _, ⟨hox.1.1, fun t ht => ?_, hb, hox.1.2.2.2⟩, ?_, ?_⟩
  · rcases List.mem_append.1 ht with ht | ht
    · exact hox.1.2.1 t ht
    · rw [List.mem_singleton.1 ht]; exact hs
  · have h9 := hox.2.1.app hn h8
    exact ⟨h9.1.far (h9.1.blk_ne hb8 (by decide)) _, h9.2⟩
  · have h9 := hox.2.2.kept h8.2.1 (fun g' e => Own.ne hox.2.1.1 hox.2.2.1 (by decide) e)
    exact ⟨h9.1.far (h9.1.blk_ne hb8 (by decide)) _, h9.2⟩
theorem AgB.pause (h : AgB w sb ab m a wr) (hsb : sb < w.heap.size) {s : Int × Int} {n1 : Nat} (hn : n1 = a.pn + 1) (hb : n1 ≤ 1000) (hsx : Str wx sb m') (hgx : wr.grownBy wx (some sb)) {A1 : Option Addr} {c1 : Nat}
    (h8 : Appended wx w.heap.size 40 2 a.pA A1 n1 c1 (a.ps.flatMap pwRow ++ pwRow s) w8) :
    AgB w sb ab m' { a with pA := A1, pn := n1, pc := c1, ps := a.ps ++ [s] } (w8.setCell ⟨ab, 4, none⟩ (.slice A1 n1 c1)) := by
  obtain ⟨_, hg, hp, hbk, ho⟩ := h
  have hox : AgOwn wx w.heap.size a := ho.low hgx (fun g e => by injection e with e; omega)
  have hbx := hbk.grown hgx (by simp; omega)
  have hb8 := hbx.grown h8.2.1 (Ne.symm (hox.2.2.1.blk_ne hbx (by decide)))
  have hg8 : w.grownBy w8 (some sb) := gr_own (gr_same hg hgx) hox.2.2.1 (Nat.le_refl _) h8.2.1
  have hz := hg8.size
  have hs8 : Str w8 sb m' := hsx.grown h8.2.1 (fun g e => by have := (hox.2.2.1.lt e).1; omega)
  refine ⟨hs8.setCell (by simp; omega) _, gr_setCell hg8 (.inr (by simp; omega)) _, hp, hb8.set_ 4 _, ⟨hox.1.1, hox.1.2.1, hox.1.2.2.1, hb⟩, ?_, ?_⟩
  · have h9 := hox.2.1.kept h8.2.1 (fun g' e => Own.ne hox.2.2.1 hox.2.1.1 (by decide) e)
    exact ⟨h9.1.far (h9.1.blk_ne hb8 (by decide)) _, h9.2⟩
  · have h9 := hox.2.2.app hn h8
    exact ⟨h9.1.far (h9.1.blk_ne hb8 (by decide)) _, h9.2⟩
theorem AgB.step (h : AgB w sb ab m a wr) (hsb : sb < w.heap.size) (hsx : Str wx sb m') (hgx : wr.grownBy wx (some sb)) : AgB w sb ab m' a wx :=
  ⟨hsx, gr_same h.2.1 hgx, h.2.2.1, h.2.2.2.1.grown hgx (by have := h.2.2.1; simp; omega), h.2.2.2.2.low hgx (fun g e => by injection e with e; omega)⟩
end
/-- A block that the making of an agent's slices leaves alone. -/
theorem AgB.blk {w wr wx w8 : World} {sb ab : Nat} {m : Int} {a : AgV} (h : AgB w sb ab m a wr) {e t : TypeId} {A A1 : Option Addr} {n c n1 c1 g j : Nat} {xs ys : List Value} {cs : Array Value} {v : Value} (hb : Blk wr g t cs) (hgx : wr.grownBy wx (some sb)) (hs : g ≠ sb) (hg : g ≠ ab)
    (ho : Own wx w.heap.size e 2 A n c xs) (hne : e ≠ t) (h8 : Appended wx w.heap.size e 2 A A1 n1 c1 ys w8) : Blk (w8.setCell ⟨ab, j, none⟩ v) g t cs := by
  have hbx := hb.grown hgx (by simpa using hs)
  exact (hbx.grown h8.2.1 (Ne.symm (ho.blk_ne hbx hne))).far (by simpa using hg) v
theorem Tryd.agsT : ElemT Tryd.prog 26 43 6 88 (.agg #[.string ⟨#[]⟩, .slice none 0 0, .int .i64 0, .int .i64 0, .slice none 0 0, .int .i64 0]) := elemT_of Tryd.underlying26 (by kernel_rfl) rfl (by decide)
theorem Tryd.sksT : ElemT Tryd.prog 38 102 2 24 (.agg #[.string ⟨#[]⟩, .int .i64 0]) := elemT_of Tryd.underlying38 (by kernel_rfl) rfl (by decide)
theorem Tryd.winsT : ElemT Tryd.prog 41 40 2 16 (.agg #[.int .i64 0, .int .i64 0]) := elemT_of Tryd.underlying41 (by kernel_rfl) rfl (by decide)
theorem Tryd.casT : ElemT Tryd.prog 28 50 8 80 (.agg #[.string ⟨#[]⟩, .string ⟨#[]⟩, .int .i64 0, .int .i64 0, .int .i64 0, .int .i64 0, .int .i64 0, .bool false]) := elemT_of Tryd.underlying28 (by kernel_rfl) rfl (by decide)
end Go.Proofs.YtddabpcdjgmooaaDoor

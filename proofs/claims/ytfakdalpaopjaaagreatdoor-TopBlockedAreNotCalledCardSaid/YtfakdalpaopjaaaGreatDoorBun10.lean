/- Contracts of the document's after and PlanFault. Conditions: none. -/
import Derived.Test.YtfakdalpaopjaaaGreatDoorPlan3
import Derived.Test.YtfakdalpaopjaaaGreatDoorBun1
import Derived.Test.YtfakdalpaopjaaaGreatDoorBun5
import Derived.Test.YtfakdalpaopjaaaGreatDoorBun9
import Derived.Test.YtfakdalpaopjaaaGreatDoorBun8
namespace Go.Proofs.YtfakdalpaopjaaaGreatDoor
section
open Go.RowKit

/-! Plain words on keys. -/
def lenV : Value → Nat
  | .slice _ n _ => n
  | _ => 0
theorem Tryz.stT : ElemT Tryz.prog 27 9 1 16 (.string ⟨#[]⟩) := elemT_of Tryz.underlying27 (by kernel_rfl) rfl (by decide)
end
end Go.Proofs.YtfakdalpaopjaaaGreatDoor
/- Words for the generators of plans: slices of contexts that a call makes, with their rules and includes. Conditions: none. -/
namespace Go.Proofs.YtfakdalpaopjaaaGreatDoor
section
open Go.RowKit

theorem Tryz.rusT : ElemT Tryz.prog 87 92 6 80 (.agg #[.string ⟨#[]⟩, .int .i64 0, .string ⟨#[]⟩, .int .i64 0, .string ⟨#[]⟩, .string ⟨#[]⟩]) := elemT_of Tryz.underlying87 (by kernel_rfl) rfl (by decide)
def CxBd (c : CxV) : Prop := (c.key.size ≤ 1000000 ∧ c.rn ≤ 1000000 ∧ c.en ≤ 1000000) ∧ (∀ r ∈ c.rules, RuOk r) ∧ ∀ s ∈ c.incs, s.size ≤ 1000000
def CxOwn (w : World) (lo : Nat) (c : CxV) : Prop := CxBd c ∧ OwnR RuV.row 6 w lo 92 c.rA c.rn c.rc c.rules ∧ OwnR srow 1 w lo 9 c.iA c.en c.ic c.incs
def RuApart (a b : CxV) : Prop := ∀ g, blkOf a.rA = some g → blkOf b.rA ≠ some g
def GCx (w : World) (lo : Nat) (A : Option Addr) (n c : Nat) (l : List CxV) : Prop :=
  OwnR CxV.row 3 w lo 89 A n c l ∧ (∀ a ∈ l, CxOwn w lo a) ∧ ∀ (i j : Nat) (a b : CxV), i ≠ j → l[i]? = some a → l[j]? = some b → RuApart a b
section
variable {w w' : World} {lo n c : Nat} {A : Option Addr} {l : List CxV}
theorem CxOwn.ok {a : CxV} (h : CxOwn w lo a) : CxOk w lo a := ⟨h.1.1.1, h.1.1.2.1, h.1.1.2.2, h.2.1.recs, h.2.2.recs, h.1.2.1, h.1.2.2⟩
theorem GCx.recs (h : GCx w lo A n c l) : Recs CxV.row 3 w lo A n c l := h.1.recs
theorem GCx.nil (w : World) (lo : Nat) : GCx w lo none 0 0 [] := ⟨OwnR.nil _ _ _, (fun a ha => by cases ha), fun i j a b _ h => by simp at h⟩
theorem CxOwn.kept {a : CxV} (h : CxOwn w lo a) {r : Option Nat} (hg : w.grownBy w' r) (h1 : ∀ g, r = some g → blkOf a.rA ≠ some g) (h2 : ∀ g, r = some g → blkOf a.iA ≠ some g) : CxOwn w' lo a := ⟨h.1, h.2.1.kept hg h1, h.2.2.kept hg h2⟩
theorem CxOwn.low {a : CxV} (h : CxOwn w lo a) {r : Option Nat} (hg : w.grownBy w' r) (hr : ∀ g, r = some g → g < lo) : CxOwn w' lo a := ⟨h.1, h.2.1.low hg hr, h.2.2.low hg hr⟩
theorem CxOwn.lower {a : CxV} {lo' : Nat} (h : CxOwn w lo a) (hl : lo' ≤ lo) : CxOwn w lo' a := ⟨h.1, h.2.1.lower hl, h.2.2.lower hl⟩
theorem GCx.low (h : GCx w lo A n c l) {r : Option Nat} (hg : w.grownBy w' r) (hr : ∀ g, r = some g → g < lo) : GCx w' lo A n c l := ⟨h.1.low hg hr, fun a ha => (h.2.1 a ha).low hg hr, h.2.2⟩
/-- Another slice of contexts is changed: rules and includes stay. -/
theorem CxOwn.other {a : CxV} (h : CxOwn w lo a) {lo' n' c' k' : Nat} {A' : Option Addr} {xs : List Value} (ho : Own w lo' 89 k' A' n' c' xs) (hg : w.grownBy w' (blkOf A')) : CxOwn w' lo a :=
  h.kept hg (fun g e => Own.ne ho h.2.1.1 (by decide) e) (fun g e => Own.ne ho h.2.2.1 (by decide) e)
/-- A context is appended whose rules lie behind those of the others. -/
theorem GCx.app {a : CxV} {hi : Nat} (h : GCx w lo A n c l) (ha : CxOwn w lo a) (har : ∀ g, blkOf a.rA = some g → hi ≤ g) (hb : ∀ b ∈ l, ∀ g, blkOf b.rA = some g → g < hi) {A1 : Option Addr} {c1 n1 : Nat} (hn : n1 = n + 1)
    (h1 : Appended w lo 89 3 A A1 n1 c1 (l.flatMap CxV.row ++ a.row) w') : GCx w' lo A1 n1 c1 (l ++ [a]) := by
  have ap : ∀ b ∈ l, RuApart a b ∧ RuApart b a := fun b hb1 => ⟨fun g e e' => by have := hb b hb1 g e'; have := har g e; omega, fun g e e' => by have := hb b hb1 g e; have := har g e'; omega⟩
  refine ⟨h.1.app hn h1, fun b hb1 => ?_, fun i j x y hne hx hy => ?_⟩
  · rcases List.mem_append.1 hb1 with hb1 | hb1
    · exact (h.2.1 b hb1).other h.1.1 h1.2.1
    · rw [List.mem_singleton.1 hb1]; exact ha.other h.1.1 h1.2.1
  · rw [List.getElem?_append] at hx hy
    split at hx <;> split at hy
    · exact h.2.2 i j x y hne hx hy
    · rename_i q1 q2
      have : y = a := by
        cases hj : j - l.length with
        | zero => rw [hj] at hy; simpa using hy.symm
        | succ q => rw [hj] at hy; simp at hy
      subst this
      exact (ap x (mem_of_get hx)).2
    · rename_i q1 q2
      have : x = a := by
        cases hj : i - l.length with
        | zero => rw [hj] at hx; simpa using hx.symm
        | succ q => rw [hj] at hx; simp at hx
      subst this
      exact (ap y (mem_of_get hy)).1
    · exfalso
      rename_i q1 q2
      have h3 : i - l.length = 0 := by
        cases hj : i - l.length with
        | zero => rfl
        | succ q => rw [hj] at hx; simp at hx
      have h4 : j - l.length = 0 := by
        cases hj : j - l.length with
        | zero => rfl
        | succ q => rw [hj] at hy; simp at hy
      omega
/-- One cell of a context is stored anew; the others' slices have stayed. -/
theorem GCx.put {g i j p : Nat} {a a' : CxV} {u : Value} (hc : OwnR CxV.row 3 w lo 89 (some ⟨g, 0, none⟩) n c l) (hi : l[i]? = some a) (hj : j < 3) (hr : a'.row = a.row.set j u) (hp : p = i * 3 + j)
    (ho : ∀ (k : Nat) (b : CxV), k ≠ i → l[k]? = some b → CxOwn w lo b) (ha : CxOwn w lo a') (hap : ∀ (k : Nat) (b : CxV), k ≠ i → l[k]? = some b → RuApart a' b ∧ RuApart b a') (hab : ∀ (i j : Nat) (a b : CxV), i ≠ j → l[i]? = some a → l[j]? = some b → RuApart a b) :
    GCx (w.setCell ⟨g, p, none⟩ u) lo (some ⟨g, 0, none⟩) n c (l.set i a') := by
  have hg : w.grownBy (w.setCell ⟨g, p, none⟩ u) (blkOf (some ⟨g, 0, none⟩)) := gr_setCell (gr_refl _ _) (.inl rfl) _
  have hil := (List.getElem?_eq_some_iff.1 hi).1
  refine ⟨hc.set1 CxV.row_len hi hj hr hp, fun x hx => ?_, fun i1 j1 x y hne hx hy => ?_⟩
  · rcases mem_setH hx with rfl | ⟨q, hq, hx⟩
    · exact ha.other hc.1 hg
    · exact (ho q x hq hx).other hc.1 hg
  · rw [List.getElem?_set] at hx hy
    by_cases e1 : i = i1
    · rw [if_pos e1, if_pos (by omega)] at hx
      injection hx with hx
      subst hx
      rw [if_neg (by omega)] at hy
      exact (hap j1 y (by omega) hy).1
    · rw [if_neg e1] at hx
      by_cases e2 : i = j1
      · rw [if_pos e2, if_pos (by omega)] at hy
        injection hy with hy
        subst hy
        exact (hap i1 x (by omega) hx).2
      · rw [if_neg e2] at hy
        exact hab i1 j1 x y hne hx hy
end
/-- A rule that a generator makes. -/
def RuBd (r : RuV) : Prop := r.pat.size ≤ 1000 ∧ r.pre.size ≤ 1000 ∧ r.nam.size ≤ 1000 ∧ r.hrs.size ≤ 1000
theorem RuBd.ok {r : RuV} (h : RuBd r) : RuOk r := ⟨by have := h.1; omega, by have := h.2.1; omega, by have := h.2.2.1; omega, by have := h.2.2.2; omega⟩
def IsRu (v : Value) (_ : World) : Prop := ∃ r : RuV, v = .agg #[.string r.pat, .int .i64 r.strip, .string r.pre, .int .i64 r.to_, .string r.nam, .string r.hrs] ∧ RuBd r
end
end Go.Proofs.YtfakdalpaopjaaaGreatDoor
/- More words for the generators of plans: a context under way, its includes, its rules. Conditions: none. -/
namespace Go.Proofs.YtfakdalpaopjaaaGreatDoor
section
open Go.RowKit

theorem blkNP (w : World) (t : TypeId) (cs : Array Value) {g : Nat} (hg : w.heap.size = g) : Blk (w.alloc (.cells cs t)) g t cs := by subst hg; exact Blk.new _ _ _
theorem GHrs.lower {w : World} {lo lo' n c : Nat} {A : Option Addr} {l : List HrV} (h : GHrs w lo A n c l) (hl : lo' ≤ lo) : GHrs w lo' A n c l := ⟨h.1.lower hl, fun a ha => (h.2.1 a ha).lower hl, h.2.2⟩
theorem GHrs.other {w w' : World} {lo n c : Nat} {A : Option Addr} {l : List HrV} (h : GHrs w lo A n c l) {lo' n' c' k' : Nat} {e' : TypeId} {A' : Option Addr} {xs : List Value} (ho : Own w lo' e' k' A' n' c' xs) (h1 : e' ≠ 154) (h2 : e' ≠ 156) (h3 : e' ≠ 158) (hg : w.grownBy w' (blkOf A')) : GHrs w' lo A n c l :=
  ⟨h.1.kept hg (fun _ e => Own.ne ho h.1.1 h1 e), fun a ha => (h.2.1 a ha).kept hg (fun _ e => Own.ne ho (h.2.1 a ha).2.1.1 h2 e) (fun _ e => Own.ne ho (h.2.1 a ha).2.2.1 h3 e), h.2.2⟩
theorem GCx.lower {w : World} {lo lo' n c : Nat} {A : Option Addr} {l : List CxV} (h : GCx w lo A n c l) (hl : lo' ≤ lo) : GCx w lo' A n c l := ⟨h.1.lower hl, fun a ha => (h.2.1 a ha).lower hl, h.2.2⟩
/-- A context under way: its block, its rules. -/
def CxB (w : World) (sb cb : Nat) (m : Int) (a : CxV) (wr : World) : Prop :=
  Str wr sb m ∧ w.grownBy wr (some sb) ∧ w.heap.size ≤ cb ∧ Blk wr cb 89 #[.string a.key, .slice a.rA a.rn a.rc, .slice a.iA a.en a.ic] ∧ CxOwn wr w.heap.size a
section
variable {w wr wx w8 : World} {sb cb : Nat} {m m' : Int} {a : CxV}
theorem CxB.rule1 (h : CxB w sb cb m a wr) (hsb : sb < w.heap.size) {r : RuV} (hr : RuOk r) {n1 : Nat} (hn : n1 = a.rn + 1) (hb : n1 ≤ 1000000) (hsx : Str wx sb m') (hgx : wr.grownBy wx (some sb)) {A1 : Option Addr} {c1 : Nat}
    (h8 : Appended wx w.heap.size 92 6 a.rA A1 n1 c1 (a.rules.flatMap RuV.row ++ r.row) w8) :
    CxB w sb cb m' { a with rA := A1, rn := n1, rc := c1, rules := a.rules ++ [r] } (w8.setCell ⟨cb, 1, none⟩ (.slice A1 n1 c1)) := by
  obtain ⟨_, hg, hp, hbk, ho⟩ := h
  have hox : CxOwn wx w.heap.size a := ho.low hgx (fun g e => by injection e with e; omega)
  have hbx := hbk.grown hgx (by simp; omega)
  have hb8 := hbx.grown h8.2.1 (Ne.symm (hox.2.1.1.blk_ne hbx (by decide)))
  have hg8 : w.grownBy w8 (some sb) := gr_own (gr_same hg hgx) hox.2.1.1 (Nat.le_refl _) h8.2.1
  have hz := hg8.size
  have hs8 : Str w8 sb m' := hsx.grown h8.2.1 (fun g e => by have := (hox.2.1.1.lt e).1; omega)
  refine ⟨hs8.setCell (by simp; omega) _, gr_setCell hg8 (.inr (by simp; omega)) _, hp, hb8.set_ 1 _, ⟨⟨hox.1.1.1, hb, hox.1.1.2.2⟩, fun x hx => ?_, hox.1.2.2⟩, ?_, ?_⟩
  · rcases List.mem_append.1 hx with hx | hx
    · exact hox.1.2.1 x hx
    · rw [List.mem_singleton.1 hx]; exact hr
  · have h9 := hox.2.1.app hn h8
    exact ⟨h9.1.far (h9.1.blk_ne hb8 (by decide)) _, h9.2⟩
  · have h9 := hox.2.2.kept h8.2.1 (fun g' e => Own.ne hox.2.1.1 hox.2.2.1 (by decide) e)
    exact ⟨h9.1.far (h9.1.blk_ne hb8 (by decide)) _, h9.2⟩
theorem CxB.step (h : CxB w sb cb m a wr) (hsb : sb < w.heap.size) (hsx : Str wx sb m') (hgx : wr.grownBy wx (some sb)) : CxB w sb cb m' a wx :=
  ⟨hsx, gr_same h.2.1 hgx, h.2.2.1, h.2.2.2.1.grown hgx (by have := h.2.2.1; simp; omega), h.2.2.2.2.low hgx (fun g e => by injection e with e; omega)⟩
end
section
variable {w w' : World} {lo n c g i p : Nat} {l : List CxV} {a : CxV}
/-- The includes of a context are stored anew. -/
theorem GCx.inc (h : GCx w lo (some ⟨g, 0, none⟩) n c l) (hi : l[i]? = some a) {iA : Option Addr} {en ic : Nat} {ins : List ByteArray} (ho : OwnR srow 1 w lo 9 iA en ic ins) (hen : en ≤ 1000000) (hs : ∀ s ∈ ins, s.size ≤ 1000000) (hp : p = i * 3 + 2) :
    GCx (w.setCell ⟨g, p, none⟩ (.slice iA en ic)) lo (some ⟨g, 0, none⟩) n c (l.set i { a with iA := iA, en := en, ic := ic, incs := ins }) := by
  have h1 := h.2.1 a (mem_of_get hi)
  refine GCx.put h.1 hi (j := 2) (by omega) rfl hp (fun k b _ hk => h.2.1 b (mem_of_get hk)) ⟨⟨⟨h1.1.1.1, h1.1.1.2.1, hen⟩, h1.1.2.1, hs⟩, h1.2.1, ho⟩ (fun k b hk hb => ?_) h.2.2
  exact ⟨h.2.2 i k a b (by omega) hi hb, h.2.2 k i b a hk hb hi⟩
/-- The key of a context is stored anew. -/
theorem GCx.key (h : GCx w lo (some ⟨g, 0, none⟩) n c l) (hi : l[i]? = some a) {s : ByteArray} (hs : s.size ≤ 1000000) (hp : p = i * 3) : GCx (w.setCell ⟨g, p, none⟩ (.string s)) lo (some ⟨g, 0, none⟩) n c (l.set i { a with key := s }) := by
  have h1 := h.2.1 a (mem_of_get hi)
  refine GCx.put h.1 hi (j := 0) (by omega) rfl hp (fun k b _ hk => h.2.1 b (mem_of_get hk)) ⟨⟨⟨hs, h1.1.1.2⟩, h1.1.2⟩, h1.2⟩ (fun k b hk hb => ?_) h.2.2
  exact ⟨h.2.2 i k a b (by omega) hi hb, h.2.2 k i b a hk hb hi⟩
end
/-- A cell of another kind of block is stored. -/
theorem GCx.far {w : World} {lo n c q : Nat} {A : Option Addr} {l : List CxV} (h : GCx w lo A n c l) {t : TypeId} {cs : Array Value} (hb : Blk w q t cs) (h1 : 89 ≠ t) (h2 : 92 ≠ t) (h3 : 9 ≠ t) (j : Nat) (u : Value) : GCx (w.setCell ⟨q, j, none⟩ u) lo A n c l := by
  have hg : w.grownBy (w.setCell ⟨q, j, none⟩ u) (some q) := gr_setCell (gr_refl _ _) (.inl rfl) _
  exact ⟨h.1.kept hg (fun g e => by injection e with e; subst e; exact h.1.1.blk_ne hb h1), fun a ha => (h.2.1 a ha).kept hg (fun g e => by injection e with e; subst e; exact (h.2.1 a ha).2.1.1.blk_ne hb h2) (fun g e => by injection e with e; subst e; exact (h.2.1 a ha).2.2.1.blk_ne hb h3), h.2.2⟩
/-! Lists of includes that a call makes. -/
def InS (lo k : Nat) (v : Value) (w : World) : Prop := ∃ g ins, v = .slice (some ⟨g, 0, none⟩) k k ∧ OwnR srow 1 w lo 9 (some ⟨g, 0, none⟩) k k ins ∧ ∀ s ∈ ins, s.size ≤ 1000
theorem InS.grown {sb lo k : Nat} (hsb : sb < lo) {v : Value} {w w' : World} (h : InS lo k v w) (hg : w.grownBy w' (some sb)) : InS lo k v w' := by
  obtain ⟨g, ins, h1, h2, h3⟩ := h
  exact ⟨g, ins, h1, h2.low hg (fun g e => by injection e with e; omega), h3⟩
theorem InS.new (w : World) {lo : Nat} (hlo : lo ≤ w.heap.size) {k : Nat} (l : List ByteArray) (hk : l.length = k) (hm : k ≤ 1000) (hl : ∀ s ∈ l, s.size ≤ 1000) : InS lo k (.slice (some ⟨w.heap.size, 0, none⟩) k k) (w.alloc (.cells (l.flatMap srow).toArray 9)) := by
  subst hk
  have hs : l.length = (l.flatMap srow).length := by rw [flat_len (row := srow) (k := 1) (fun _ => rfl)]; omega
  have h := (Own.lit w 9 1 (l.flatMap srow) l.length (by unfold maxLen; omega) (by omega)).lower hlo
  exact ⟨_, l, rfl, ⟨h, rfl⟩, hl⟩
/-- One of a list of lists of includes. -/
def InC (w : World) (lo : Nat) (v : Value) : Prop := ∃ (iA : Option Addr) (en ic : Nat) (ins : List ByteArray), v = .slice iA en ic ∧ OwnR srow 1 w lo 9 iA en ic ins ∧ (∀ s ∈ ins, s.size ≤ 1000) ∧ en ≤ 2
theorem InC.nil (w : World) (lo : Nat) : InC w lo (.slice none 0 0) := ⟨none, 0, 0, [], rfl, OwnR.nil _ _ _, (fun s hs => by cases hs), by omega⟩
theorem InC.low {w w' : World} {lo : Nat} {v : Value} (h : InC w lo v) {r : Option Nat} (hg : w.grownBy w' r) (hr : ∀ g, r = some g → g < lo) : InC w' lo v := by
  obtain ⟨iA, en, ic, ins, h1, h2, h3, h4⟩ := h
  exact ⟨iA, en, ic, ins, h1, h2.low hg hr, h3, h4⟩
def InL (lo k : Nat) (v : Value) (w : World) : Prop := ∃ g cs, v = .slice (some ⟨g, 0, none⟩) k k ∧ lo ≤ g ∧ Blk w g 27 cs ∧ ∀ r : Nat, r < k → ∃ x, cs[r]? = some x ∧ InC w lo x
theorem InL.grown {sb lo k : Nat} (hsb : sb < lo) {v : Value} {w w' : World} (h : InL lo k v w) (hg : w.grownBy w' (some sb)) : InL lo k v w' := by
  obtain ⟨g, cs, h1, h0, h2, h3⟩ := h
  refine ⟨g, cs, h1, h0, h2.grown hg (by simp; omega), fun r hr => ?_⟩
  obtain ⟨x, hx, hc⟩ := h3 r hr
  exact ⟨x, hx, hc.low hg (fun g e => by injection e with e; omega)⟩
/-- A place in a list of lists. -/
def InPt (lo : Nat) (v : Value) (w : World) : Prop := ∃ g cs r x, v = .pointer (some ⟨g, r, none⟩) ∧ lo ≤ g ∧ Blk w g 27 cs ∧ cs[r]? = some x ∧ InC w lo x
theorem InPt.grown {sb lo : Nat} (hsb : sb < lo) {v : Value} {w w' : World} (h : InPt lo v w) (hg : w.grownBy w' (some sb)) : InPt lo v w' := by
  obtain ⟨g, cs, r, x, h1, h0, h2, h3, h4⟩ := h
  exact ⟨g, cs, r, x, h1, h0, h2.grown hg (by simp; omega), h3, h4.low hg (fun g e => by injection e with e; omega)⟩
def PtV (g i : Nat) (v : Value) (_ : World) : Prop := v = .pointer (some ⟨g, i, none⟩)
def NatV (k : Nat) (v : Value) (_ : World) : Prop := ∃ r : Nat, r < k ∧ v = .int .i64 r
end
end Go.Proofs.YtfakdalpaopjaaaGreatDoor
/- Contracts of slices.Index and slices.Contains at ints, and of dialplan's order, open and Order. Conditions: none. -/
namespace Go.Proofs.YtfakdalpaopjaaaGreatDoor
section
open Go.RowKit


def ixI (l : List Nat) : List Int := l.map (fun x : Nat => (x : Int))
structure OrderV (S : Nat → List Nat) (L n0 : Nat) (A : Option Addr) (i : Nat) (out : List Nat) (w : World) (e : Ending) (w' : World) (A' : Option Addr) (n' c' : Nat) (r : List Nat) : Prop where
  e : e = .returned (.slice A' n' c')
  own : OwnR nrow 1 w' L 3 A' n' c' (ixI r)
  gr : w.grownBy w' (blkOf A)
  new : ∀ g, blkOf A' = some g → blkOf A = some g ∨ w.heap.size ≤ g
  ord : Ord S [i] out r
  nd : r.Nodup
  bd : ∀ x ∈ r, x < n0
structure OrdIn (S : Nat → List Nat) (w0 w : World) (L n0 pb : Nat) (A : Option Addr) (is out : List Nat) (wr : World) (A' : Option Addr) (n' c' : Nat) (cur : List Nat) : Prop where
  g0 : w0.grownBy wr none
  own : OwnR nrow 1 wr L 3 A' n' c' (ixI cur)
  gr : w.grownBy wr (blkOf A)
  new : ∀ g, blkOf A' = some g → blkOf A = some g ∨ w.heap.size ≤ g
  ord : Ord S is out cur
  nd : cur.Nodup
  bd : ∀ x ∈ cur, x < n0
  len : out.length ≤ cur.length
end
end Go.Proofs.YtfakdalpaopjaaaGreatDoor
/- Contracts of dialplan's open and Order. Conditions: none. -/
namespace Go.Proofs.YtfakdalpaopjaaaGreatDoor
section
open Go.RowKit

theorem Tryz.cxsT : ElemT Tryz.prog 45 89 3 64 (.agg #[.string ⟨#[]⟩, .slice none 0 0, .slice none 0 0]) := elemT_of Tryz.underlying45 (by kernel_rfl) rfl (by decide)
/-- The order from a context on. -/
structure OrdOk (p : PlV) (key : ByteArray) (r : List Nat) : Prop where
  at_ : ∃ (i : Nat) (z : CxV), p.ctxs[i]? = some z ∧ nb z.key = nb key ∧ cxIx p.ctxs key = i ∧ Ord (incIx p.ctxs) [i] [] r
  nd : r.Nodup
  bd : ∀ x ∈ r, x < p.ctxs.length
end
end Go.Proofs.YtfakdalpaopjaaaGreatDoor
/- Contract of CheckForwards. Conditions: none. -/
namespace Go.Proofs.YtfakdalpaopjaaaGreatDoor
section
open Go.RowKit

set_option maxHeartbeats 16000000 in
set_option maxRecDepth 100000 in
theorem checkForwards_any (lo : Nat) (p : PlV) (LB : Bool) (A : Option Addr) (n c : Nat) (l : List FwV) (w : World) (hpl : PlOk w lo p) (hLB : LB = true ↔ Loops p.ctxs) (h : Fws w lo A n c l) (hn : n ≤ 1000000000) :
    Calls Tryz.prog 25 #[.agg #[.slice p.cA p.cn p.cc, .slice p.hA p.hn p.hc], .slice A n c] w (RetV (.int .i64 (chP p LB l)) w) := by
  have H := Lib.hid h; have HPL := Lib.hid hpl; clear h hpl
  obtain ⟨W1, hW⟩ : ∃ W1, w.alloc (.cells #[.slice p.cA p.cn p.cc, .slice p.hA p.hn p.hc] 48) = W1 := ⟨_, rfl⟩
  obtain ⟨pb, hpb⟩ : ∃ b, w.heap.size = b := ⟨_, rfl⟩
  have HP := Lib.hid (show Blk W1 pb 48 #[.slice p.cA p.cn p.cc, .slice p.hA p.hn p.hc] by rw [← hW, ← hpb]; exact Blk.new _ _ _)
  have HG := Lib.hid (show w.grownBy W1 none by rw [← hW]; exact gr_alloc (gr_refl _ _) _)
  have HW := Lib.hid hW; have HPB := Lib.hid hpb; clear hW hpb
  go_enter Tryz.func25, Tryz.ntmps25
  go_upto_region 1 with (fail)
  rw [HW.out, HPB.out]
  clear HW HPB
  obtain ⟨E, hE⟩ : ∃ E, plE p LB = E := ⟨_, rfl⟩
  have HE0 := Lib.hid hE
  clear hE
  go_wp2_with (first
    | (refine wpl_load_all Tryz.plT rfl _ rfl _ rfl _ _ HP.out rfl ?_)
    | fail)
  refine (checkPlan_any lo p LB _ (HPL.out.grown HG.out (fun g e => by cases e)) hLB).mono ?_
  rintro e w2 ⟨rfl, hg2⟩
  rw [HE0.out]
  replace HP := Lib.hid (HP.out.grown hg2 (by simp))
  replace HG := Lib.hid (gr_none HG.out hg2)
  clear hg2
  by_cases e0 : E = 0
  · subst e0
    have dE : ((0 : Int) != 0) = false := by decide
    by_cases hb : 1000 < n
    · have HF := Lib.hid (show fwE p.hours l = 2 by unfold fwE; rw [if_pos (by rw [H.out.1.len]; exact hb)])
      have hb' : decide ((1000 : Int) < (n : Int)) = true := decide_eq_true (by omega)
      go_wp2_with fail
      go_ret
      exact ⟨by rw [chP_yes HE0.out, HF.out]; try rfl, HG.out⟩
    · have hb' : decide ((1000 : Int) < (n : Int)) = false := decide_eq_false (by omega)
      have HF := Lib.hid (show fwE p.hours l = fstE (fwAt p.hours l) n by unfold fwE; rw [if_neg (by rw [H.out.1.len]; exact hb), H.out.1.len])
      go_wp2_with fail
      go_loopw [6, 7, 18] (fun _ _ t wr => ∃ k : Nat, k ≤ n ∧ t = .int .i64 k ∧ w.grownBy wr none ∧ Blk wr pb 48 #[.slice p.cA p.cn p.cc, .slice p.hA p.hn p.hc] ∧ fstE (fwAt p.hours l) k = 0) (fun _ _ t _ => n - (intOf t).toNat)
      case atStart => exact ⟨0, Nat.zero_le _, rfl, HG.out, HP.out, rfl⟩
      case round =>
        clear HG HP
        obtain ⟨k, hk, rfl, hg, hp, ha⟩ := hrel
        have HA := Lib.hid ha; have HG := Lib.hid hg; have HP := Lib.hid hp; clear ha hg hp
        by_cases hlt : k < n
        · obtain ⟨g, o, ⟨ln, wh, too, hr⟩, rfl, _, hgl, hz, hc⟩ := (H.out.1.grown HG.out (fun g e => by cases e)).get FwV.row_len hlt
          obtain ⟨p1, p2, p3⟩ := H.out.2 _ (mem_of_get hz)
          dsimp only at p1 p2 p3
          have HZ := Lib.hid hz; have HC := Lib.hid hc; clear hz hc
          obtain ⟨w1, hw1⟩ : ∃ v, wr.alloc (.cells #[.string ln, .int .i64 wh, .string too, .string hr] 97) = v := ⟨_, rfl⟩
          obtain ⟨zb, hzb⟩ : ∃ b, wr.heap.size = b := ⟨_, rfl⟩
          have HB := Lib.hid (show Blk w1 zb 97 #[.string ln, .int .i64 wh, .string too, .string hr] by rw [← hw1, ← hzb]; exact Blk.new _ _ _)
          have hg1 : wr.grownBy w1 none := by rw [← hw1]; exact gr_alloc (gr_refl _ _) _
          replace HG := Lib.hid (gr_none HG.out hg1)
          replace HP := Lib.hid (HP.out.grown hg1 (by simp))
          have HW1 := Lib.hid hw1; have HZB := Lib.hid hzb
          clear hw1 hzb hg1
          go_upto_region 9 with (first
            | (refine wpl_load_at Tryz.fwT rfl _ rfl _ rfl [.string ln, .int .i64 wh, .string too, .string hr] rfl (fun j u hu => by rw [add_mk]; exact HC.out j u hu) ?_)
            | fail)
          rw [HW1.out]
          (try rw [HZB.out])
          clear HW1 HZB HC
          have k0 := HB.out.cell 0; have k1 := HB.out.cell 1; have k2 := HB.out.cell 2; have k3 := HB.out.cell 3
          obtain ⟨VK, hKI⟩ : ∃ V, inB wh 1 3 = V := ⟨_, rfl⟩
          have HKI := Lib.hid hKI
          clear hKI
          obtain ⟨EQ, hEQ⟩ : ∃ V, (nb too == nb ln) = V := ⟨_, rfl⟩
          have HEQ := Lib.hid hEQ
          have hEQ2 : (too.toList == ln.toList) = EQ := by rw [eqS_nb]; exact hEQ
          clear hEQ
          go_wp2_with fail
          refine (isKey_any ln _ (by omega)).mono ?_
          rintro e w2 ⟨rfl, hg2⟩
          clear k0 k1 k2 k3
          replace HB := Lib.hid (HB.out.grown hg2 (by simp))
          replace HP := Lib.hid (HP.out.grown hg2 (by simp))
          replace HG := Lib.hid (gr_none HG.out hg2)
          clear hg2
          have k0 := HB.out.cell 0; have k1 := HB.out.cell 1; have k2 := HB.out.cell 2; have k3 := HB.out.cell 3
          obtain ⟨K1, hK1⟩ : ∃ V, keyOk (nb ln) = V := ⟨_, rfl⟩
          have HK1 := Lib.hid hK1
          rw [hK1]
          clear hK1
          cases K1
          · have hf := fwF_5 (hs := p.hours) (f := ⟨ln, wh, too, hr⟩) (by show (keyOk (nb ln) && _) = false; rw [HK1.out]; rfl)
            have e := fwAt_f HZ.out (show fwF p.hours ⟨ln, wh, too, hr⟩ ≠ 0 by rw [hf]; decide)
            rw [hf] at e
            have HFIN := Lib.hid (show chP p LB l = 5 by rw [chP_yes HE0.out, HF.out, fstE_stop HA.out (by rw [e]; decide) hlt, e])
            clear e
            go_wp2_with fail
            go_ret
            exact ⟨by rw [HFIN.out]; try rfl, HG.out⟩
          · go_wp2_with fail
            refine (isKey_any too _ (by omega)).mono ?_
            rintro e wq ⟨rfl, hg3⟩
            clear k0 k1 k2 k3
            replace HB := Lib.hid (HB.out.grown hg3 (by simp))
            replace HP := Lib.hid (HP.out.grown hg3 (by simp))
            replace HG := Lib.hid (gr_none HG.out hg3)
            clear hg3
            have k0 := HB.out.cell 0; have k1 := HB.out.cell 1; have k2 := HB.out.cell 2; have k3 := HB.out.cell 3
            obtain ⟨K2, hK2⟩ : ∃ V, keyOk (nb too) = V := ⟨_, rfl⟩
            have HK2 := Lib.hid hK2
            rw [hK2]
            clear hK2
            cases K2
            · have hf := fwF_5 (hs := p.hours) (f := ⟨ln, wh, too, hr⟩) (by show (keyOk (nb ln) && keyOk (nb too)) = false; rw [HK1.out, HK2.out]; rfl)
              have e := fwAt_f HZ.out (show fwF p.hours ⟨ln, wh, too, hr⟩ ≠ 0 by rw [hf]; decide)
              rw [hf] at e
              have HFIN := Lib.hid (show chP p LB l = 5 by rw [chP_yes HE0.out, HF.out, fstE_stop HA.out (by rw [e]; decide) hlt, e])
              clear e
              go_wp2_with fail
              go_ret
              exact ⟨by rw [HFIN.out]; try rfl, HG.out⟩
            · have HKK := Lib.hid (show (keyOk (nb (FwV.line ⟨ln, wh, too, hr⟩)) && keyOk (nb (FwV.to_ ⟨ln, wh, too, hr⟩))) = true by show (keyOk (nb ln) && keyOk (nb too)) = true; rw [HK1.out, HK2.out]; rfl)
              cases VK
              · have hf := fwF_4 (hs := p.hours) (f := ⟨ln, wh, too, hr⟩) HKK.out HKI.out
                have e := fwAt_f HZ.out (show fwF p.hours ⟨ln, wh, too, hr⟩ ≠ 0 by rw [hf]; decide)
                rw [hf] at e
                have HFIN := Lib.hid (show chP p LB l = 4 by rw [chP_yes HE0.out, HF.out, fstE_stop HA.out (by rw [e]; decide) hlt, e])
                clear e
                go_wp2_with (first
                  | (go_at_call 64; refine (withinD_any _ _ _ _).mono ?_; rintro e w9 ⟨rfl, rfl⟩; rw [HKI.out])
                  | fail)
                go_ret
                exact ⟨by rw [HFIN.out]; try rfl, HG.out⟩
              · go_wp2_with (first
                  | (go_at_call 64; refine (withinD_any _ _ _ _).mono ?_; rintro e w9 ⟨rfl, rfl⟩; rw [HKI.out])
                  | (refine wpl_load_all Tryz.plT rfl _ rfl _ rfl _ _ HP.out rfl ?_)
                  | fail)
                refine (hasHours_any lo p hr _ (HPL.out.grown HG.out (fun g e => by cases e)).hours.1 HPL.out.hn).mono ?_
                rintro e wq ⟨rfl, hgq⟩
                clear k0 k1 k2 k3
                replace HB := Lib.hid (HB.out.grown hgq (by simp))
                replace HP := Lib.hid (HP.out.grown hgq (by simp))
                replace HG := Lib.hid (gr_none HG.out hgq)
                clear hgq
                have k0 := HB.out.cell 0; have k1 := HB.out.cell 1; have k2 := HB.out.cell 2; have k3 := HB.out.cell 3
                obtain ⟨HB0, hHH⟩ : ∃ V, hrsOk p.hours hr = V := ⟨_, rfl⟩
                have HHR := Lib.hid hHH
                rw [hHH]
                clear hHH
                cases HB0
                · have hf := fwF_8 (hs := p.hours) (f := ⟨ln, wh, too, hr⟩) HKK.out HKI.out HHR.out
                  have e := fwAt_f HZ.out (show fwF p.hours ⟨ln, wh, too, hr⟩ ≠ 0 by rw [hf]; decide)
                  rw [hf] at e
                  have HFIN := Lib.hid (show chP p LB l = 8 by rw [chP_yes HE0.out, HF.out, fstE_stop HA.out (by rw [e]; decide) hlt, e])
                  clear e
                  go_wp2_with fail
                  go_ret
                  exact ⟨by rw [HFIN.out]; try rfl, HG.out⟩
                · cases EQ
                  · have hfz := fwF_0 (hs := p.hours) (f := ⟨ln, wh, too, hr⟩) HKK.out HKI.out HHR.out HEQ.out
                    have HFZ := Lib.hid hfz
                    clear hfz
                    obtain ⟨wv, rfl⟩ : ∃ wv : World, wv = wq := ⟨_, rfl⟩
                    rcases Nat.eq_zero_or_pos k with h0 | h0
                    · have HE := Lib.hid (fwAt_z HZ.out HFZ.out (by omega))
                      have hi0 : decide ((0 : Int) < (k : Int)) = false := decide_eq_false (by omega)
                      go_wp2_with fail
                      refine H_begin (fun w' => wv.grownBy w' none) (by kernel_rfl) ?_
                      have hHeld : wv.grownBy wv.drew none := gr_drew (gr_refl _ _)
                      refine H_take (k := 0) (v := ?_) (by rfl) (by kernel_rfl) (by kernel_rfl) (by kernel_rfl) (by exact fun _ _ _ h => h) (by rfl) ?_ (by assumption) ?_
                      rotate_left 1
                      · intro w hSw
                        (try dsimp only at hSw)
                        go_simp
                        (try with_reducible rfl)
                      (try simp only [Act.put, List.setIfInBounds_toArray, List.set_cons_zero, List.set_cons_succ])
                      refine H_take (k := 1) (v := ?_) (by rfl) (by kernel_rfl) (by kernel_rfl) (by kernel_rfl) (by exact fun _ _ _ h => h) (by rfl) ?_ (by assumption) ?_
                      rotate_left 1
                      · intro w hSw
                        (try dsimp only at hSw)
                        go_simp
                        (try with_reducible rfl)
                      (try simp only [Act.put, List.setIfInBounds_toArray, List.set_cons_zero, List.set_cons_succ])
                      refine H_take (k := 2) (v := ?_) (by rfl) (by kernel_rfl) (by kernel_rfl) (by kernel_rfl) (by exact fun _ _ _ h => h) (by rfl) ?_ (by assumption) ?_
                      rotate_left 1
                      · intro w hSw
                        (try dsimp only at hSw)
                        go_simp
                        (try with_reducible rfl)
                      (try simp only [Act.put, List.setIfInBounds_toArray, List.set_cons_zero, List.set_cons_succ])
                      refine H_skip (k := 3) (by rfl) (by kernel_rfl) (by kernel_rfl) (by kernel_rfl) (by exact fun _ _ _ h => h) (by rfl) (by assumption) ?_
                      (try simp only [Act.put, List.setIfInBounds_toArray, List.set_cons_zero, List.set_cons_succ])
                      refine H_skip (k := 4) (by rfl) (by kernel_rfl) (by kernel_rfl) (by kernel_rfl) (by exact fun _ _ _ h => h) (by rfl) (by assumption) ?_
                      (try simp only [Act.put, List.setIfInBounds_toArray, List.set_cons_zero, List.set_cons_succ])
                      refine H_skip (k := 5) (by rfl) (by kernel_rfl) (by kernel_rfl) (by kernel_rfl) (by exact fun _ _ _ h => h) (by rfl) (by assumption) ?_
                      (try simp only [Act.put, List.setIfInBounds_toArray, List.set_cons_zero, List.set_cons_succ])
                      refine H_skip (k := 6) (by rfl) (by kernel_rfl) (by kernel_rfl) (by kernel_rfl) (by exact fun _ _ _ h => h) (by rfl) (by assumption) ?_
                      (try simp only [Act.put, List.setIfInBounds_toArray, List.set_cons_zero, List.set_cons_succ])
                      refine H_skip (k := 7) (by rfl) (by kernel_rfl) (by kernel_rfl) (by kernel_rfl) (by exact fun _ _ _ h => h) (by rfl) (by assumption) ?_
                      (try simp only [Act.put, List.setIfInBounds_toArray, List.set_cons_zero, List.set_cons_succ])
                      refine H_skip (k := 8) (by rfl) (by kernel_rfl) (by kernel_rfl) (by kernel_rfl) (by exact fun _ _ _ h => h) (by rfl) (by assumption) ?_
                      (try simp only [Act.put, List.setIfInBounds_toArray, List.set_cons_zero, List.set_cons_succ])
                      refine H_skip (k := 9) (by rfl) (by kernel_rfl) (by kernel_rfl) (by kernel_rfl) (by exact fun _ _ _ h => h) (by rfl) (by assumption) ?_
                      (try simp only [Act.put, List.setIfInBounds_toArray, List.set_cons_zero, List.set_cons_succ])
                      refine H_skip (k := 10) (by rfl) (by kernel_rfl) (by kernel_rfl) (by kernel_rfl) (by exact fun _ _ _ h => h) (by rfl) (by assumption) ?_
                      (try simp only [Act.put, List.setIfInBounds_toArray, List.set_cons_zero, List.set_cons_succ])
                      refine H_take (k := 11) (v := ?_) (by rfl) (by kernel_rfl) (by kernel_rfl) (by kernel_rfl) (by exact fun _ _ _ h => h) (by rfl) ?_ (by assumption) ?_
                      rotate_left 1
                      · intro w hSw
                        (try dsimp only at hSw)
                        go_simp
                        (try with_reducible rfl)
                      (try simp only [Act.put, List.setIfInBounds_toArray, List.set_cons_zero, List.set_cons_succ])
                      refine H_take (k := 12) (v := ?_) (by rfl) (by kernel_rfl) (by kernel_rfl) (by kernel_rfl) (by exact fun _ _ _ h => h) (by rfl) ?_ (by assumption) ?_
                      rotate_left 1
                      · intro w hSw
                        (try dsimp only at hSw)
                        go_simp
                        (try with_reducible rfl)
                      (try simp only [Act.put, List.setIfInBounds_toArray, List.set_cons_zero, List.set_cons_succ])
                      refine H_done (by kernel_rfl) ?_
                      replace HG := Lib.hid (gr_none HG.out hHeld)
                      replace HP := Lib.hid (HP.out.grown hHeld (by simp))
                      clear hHeld k0 k1 k2 k3 hi0
                      go_wp2_with fail
                      go_roundw
                      case rel => exact ⟨k + 1, by omega, by go_num, HG.out, HP.out, fstE_zero HA.out HE.out⟩
                      case measure => simp [intOf]; omega
                    · obtain ⟨⟨ln', wh', too', hr'⟩, hb⟩ : ∃ b, l[k - 1]? = some b := ⟨_, List.getElem?_eq_getElem (by rw [H.out.1.len]; omega)⟩
                      have HBB := Lib.hid hb; clear hb
                      have HYW := Lib.hid (show inB wh' 1 3 = true from (fwF_right (fw_prev HA.out h0 HBB.out)).2.2.1)
                      have s2 : (0 : Int) ≤ (k : Int) - 1 := by omega
                      have s5 : (1 : Int) ≤ (k : Int) := by omega
                      have s3 : (k : Int) - 1 < (n : Int) := by omega
                      have s6 : (0 : Int) < (n : Int) := by omega
                      have s1 : IntKind.i64.wrap ((k : Int) - 1) = (k : Int) - 1 := IntWalk.i64_in _ (by omega)
                      have s4 : ((k : Int) - 1).toNat = k - 1 := by omega
                      obtain ⟨VO, hVO⟩ : ∃ V, decide (0 ≤ fwCmp ⟨ln', wh', too', hr'⟩ ⟨ln, wh, too, hr⟩) = V := ⟨_, rfl⟩
                      have HVO := Lib.hid hVO; clear hVO
                      have hi0 : decide ((0 : Int) < (k : Int)) = true := decide_eq_true (by omega)
                      go_wp2_with fail
                      refine H_begin (fun w' => wv.grownBy w' none) (by kernel_rfl) ?_
                      have hHeld : wv.grownBy wv.drew none := gr_drew (gr_refl _ _)
                      refine H_take (k := 0) (v := ?_) (by rfl) (by kernel_rfl) (by kernel_rfl) (by kernel_rfl) (by exact fun _ _ _ h => h) (by rfl) ?_ (by assumption) ?_
                      rotate_left 1
                      · intro w hSw
                        (try dsimp only at hSw)
                        go_simp
                        (try with_reducible rfl)
                      (try simp only [Act.put, List.setIfInBounds_toArray, List.set_cons_zero, List.set_cons_succ])
                      refine H_take (k := 1) (v := ?_) (by rfl) (by kernel_rfl) (by kernel_rfl) (by kernel_rfl) (by exact fun _ _ _ h => h) (by rfl) ?_ (by assumption) ?_
                      rotate_left 1
                      · intro w hSw
                        (try dsimp only at hSw)
                        go_simp
                        (try with_reducible rfl)
                      (try simp only [Act.put, List.setIfInBounds_toArray, List.set_cons_zero, List.set_cons_succ])
                      refine H_take (k := 2) (v := ?_) (by rfl) (by kernel_rfl) (by kernel_rfl) (by kernel_rfl) (by exact fun _ _ _ h => h) (by rfl) ?_ (by assumption) ?_
                      rotate_left 1
                      · intro w hSw
                        (try dsimp only at hSw)
                        go_simp
                        (try with_reducible rfl)
                      (try simp only [Act.put, List.setIfInBounds_toArray, List.set_cons_zero, List.set_cons_succ])
                      refine H_take (k := 3) (v := ?_) (by rfl) (by kernel_rfl) (by kernel_rfl) (by kernel_rfl) (by exact fun _ _ _ h => h) (by rfl) ?_ (by assumption) ?_
                      rotate_left 1
                      · intro w hSw
                        (try dsimp only at hSw)
                        go_simp
                        (try with_reducible rfl)
                      (try simp only [Act.put, List.setIfInBounds_toArray, List.set_cons_zero, List.set_cons_succ])
                      refine H_take (k := 4) (v := ?_) (by rfl) (by kernel_rfl) (by kernel_rfl) (by kernel_rfl) (by exact fun _ _ _ h => h) (by rfl) ?_ (by assumption) ?_
                      rotate_left 1
                      · intro w hSw
                        (try dsimp only at hSw)
                        go_simp
                        (try with_reducible rfl)
                      (try simp only [Act.put, List.setIfInBounds_toArray, List.set_cons_zero, List.set_cons_succ])
                      refine H_take (k := 5) (v := ?_) (by rfl) (by kernel_rfl) (by kernel_rfl) (by kernel_rfl) (by exact fun _ _ _ h => h) (by rfl) ?_ (by assumption) ?_
                      rotate_left 1
                      · intro w hSw
                        (try dsimp only at hSw)
                        go_simp
                        (try with_reducible rfl)
                      (try simp only [Act.put, List.setIfInBounds_toArray, List.set_cons_zero, List.set_cons_succ])
                      refine H_take (k := 6) (v := ?_) (by rfl) (by kernel_rfl) (by kernel_rfl) (by kernel_rfl) (by exact fun _ _ _ h => h) (by rfl) ?_ (by assumption) ?_
                      rotate_left 1
                      · intro w hSw
                        (try dsimp only at hSw)
                        go_simp
                        (try with_reducible rfl)
                      (try simp only [Act.put, List.setIfInBounds_toArray, List.set_cons_zero, List.set_cons_succ])
                      refine H_take (k := 7) (v := .agg #[.string ln', .int .i64 wh', .string too', .string hr']) (by rfl) (by kernel_rfl) (by kernel_rfl) (by kernel_rfl) (by exact fun _ _ _ h => h) (by rfl) (fun w' hSw => exec_ldr Tryz.fwT _ rfl _ rfl [.string ln', .int .i64 wh', .string too', .string hr'] (fun j u hu => by rw [add_mk]; exact ((H.out.1.grown (gr_none HG.out hSw) (fun g e => by cases e)).at_ FwV.row_len HBB.out) j u hu) rfl) (by assumption) ?_
                      (try simp only [Act.put, List.setIfInBounds_toArray, List.set_cons_zero, List.set_cons_succ])
                      refine H_take (k := 8) (v := .agg #[.string ln, .int .i64 wh, .string too, .string hr]) (by rfl) (by kernel_rfl) (by kernel_rfl) (by kernel_rfl) (by exact fun _ _ _ h => h) (by rfl) (fun w' hSw => exec_ldb Tryz.fwT _ rfl _ rfl 97 [.string ln, .int .i64 wh, .string too, .string hr] (HB.out.grown hSw (by simp)) rfl) (by assumption) ?_
                      (try simp only [Act.put, List.setIfInBounds_toArray, List.set_cons_zero, List.set_cons_succ])
                      refine H_run (k := 9) (by rfl) (by kernel_rfl) (by rfl) (fun K hK => ?_)
                      go_simp
                      refine (compareForwards_any ⟨ln', wh', too', hr'⟩ ⟨ln, wh, too, hr⟩ _ HYW.out HKI.out).mono ?_
                      rintro e w6 ⟨rfl, hg6⟩
                      have hgz := gr_none hHeld hg6
                      refine hK _ _ hgz ?_
                      clear hK K hHeld hg6
                      have hHeld := hgz
                      have hO1 := HVO.out
                      (try simp only [Act.put, List.setIfInBounds_toArray, List.set_cons_zero, List.set_cons_succ])
                      refine H_take (k := 10) (v := ?_) (by rfl) (by kernel_rfl) (by kernel_rfl) (by kernel_rfl) (by exact fun _ _ _ h => h) (by rfl) ?_ (by assumption) ?_
                      rotate_left 1
                      · intro w hSw
                        (try dsimp only at hSw)
                        go_simp
                        (try with_reducible rfl)
                      (try simp only [Act.put, List.setIfInBounds_toArray, List.set_cons_zero, List.set_cons_succ])
                      refine H_take (k := 11) (v := ?_) (by rfl) (by kernel_rfl) (by kernel_rfl) (by kernel_rfl) (by exact fun _ _ _ h => h) (by rfl) ?_ (by assumption) ?_
                      rotate_left 1
                      · intro w hSw
                        (try dsimp only at hSw)
                        go_simp
                        (try with_reducible rfl)
                      (try simp only [Act.put, List.setIfInBounds_toArray, List.set_cons_zero, List.set_cons_succ])
                      refine H_take (k := 12) (v := ?_) (by rfl) (by kernel_rfl) (by kernel_rfl) (by kernel_rfl) (by exact fun _ _ _ h => h) (by rfl) ?_ (by assumption) ?_
                      rotate_left 1
                      · intro w hSw
                        (try dsimp only at hSw)
                        go_simp
                        (try with_reducible rfl)
                      (try simp only [Act.put, List.setIfInBounds_toArray, List.set_cons_zero, List.set_cons_succ])
                      refine H_done (by kernel_rfl) ?_
                      clear hi0 s1 s2 s3 s4 s5 s6 hO1
                      replace HG := Lib.hid (gr_none HG.out hgz)
                      replace HP := Lib.hid (HP.out.grown hgz (by simp))
                      clear hgz hHeld k0 k1 k2 k3
                      cases VO
                      · have HE := Lib.hid (fwAt_e HZ.out HFZ.out HBB.out (of_decide_eq_false HVO.out))
                        go_wp2_with fail
                        go_roundw
                        case rel => exact ⟨k + 1, by omega, by go_num, HG.out, HP.out, fstE_zero HA.out HE.out⟩
                        case measure => simp [intOf]; omega
                      · have e := fwAt_7 HZ.out HFZ.out h0 HBB.out (of_decide_eq_true HVO.out)
                        have HFIN := Lib.hid (show chP p LB l = 7 by rw [chP_yes HE0.out, HF.out, fstE_stop HA.out (by rw [e]; decide) hlt, e])
                        clear e
                        go_wp2_with fail
                        go_ret
                        exact ⟨by rw [HFIN.out]; try rfl, HG.out⟩
                  · have hf := fwF_14 (hs := p.hours) (f := ⟨ln, wh, too, hr⟩) HKK.out HKI.out HHR.out HEQ.out
                    have e := fwAt_f HZ.out (show fwF p.hours ⟨ln, wh, too, hr⟩ ≠ 0 by rw [hf]; decide)
                    rw [hf] at e
                    have HFIN := Lib.hid (show chP p LB l = 14 by rw [chP_yes HE0.out, HF.out, fstE_stop HA.out (by rw [e]; decide) hlt, e])
                    clear e
                    go_wp2_with fail
                    go_ret
                    exact ⟨by rw [HFIN.out]; try rfl, HG.out⟩
        · obtain rfl : k = n := by omega
          have HFIN := Lib.hid (show chP p LB l = 0 by rw [chP_yes HE0.out, HF.out, HA.out])
          go_wp2_with fail
          go_ret
          exact ⟨by rw [HFIN.out]; try rfl, HG.out⟩
  · have dE : (E != 0) = true := by simpa using e0
    have HV := Lib.hid (show chP p LB l = E by rw [chP_no (by rw [HE0.out]; exact e0), HE0.out])
    clear e0
    go_wp2_with fail
    go_ret
    exact ⟨by rw [HV.out]; try rfl, HG.out⟩
end
end Go.Proofs.YtfakdalpaopjaaaGreatDoor
/- Contracts of counts of dialplan and of the document, and of dialplan's decides. Conditions: a plan that is right. -/
namespace Go.Proofs.YtfakdalpaopjaaaGreatDoor
section
open Go.RowKit

set_option maxHeartbeats 2000000 in
theorem hrC_any (c : HrV) (key : ByteArray) (kb : Nat) (w : World) (hk : Blk w kb 9 #[.string key]) :
    Calls Tryz.prog 111 #[.agg #[.string c.key, .int .i64 c.zone, .slice c.rA c.rn c.rc, .slice c.hA c.hn c.hc], .pointer (some ⟨kb, 0, none⟩)] w (RetV (.bool (nb c.key == nb key)) w) := by
  have kk := (hk.alloc (.cells #[.string c.key, .int .i64 c.zone, .slice c.rA c.rn c.rc, .slice c.hA c.hn c.hc] 154)).cell 0
  have hlt1 := hk.lt
  obtain ⟨E, hE⟩ : ∃ E, (c.key.toList == key.toList) = E := ⟨_, rfl⟩
  have HV := Lib.hid (show (nb c.key == nb key) = E by rw [← eqS_nb, hE])
  clear hk
  cases E
  all_goals
    go_enter Tryz.func111, Tryz.ntmps111
    go_wp2_with fail
    go_ret
    exact ⟨by rw [HV.out]; try rfl, gr_alloc (gr_refl _ _) _⟩
set_option maxHeartbeats 4000000 in
theorem hrCIdx_any (lo : Nat) (A : Option Addr) (n c : Nat) (l : List HrV) (key : ByteArray) (kb : Nat) (w : World) (h : Recs HrV.row 4 w lo A n c l) (hn : n ≤ 1000000000000) (h_k : Blk w kb 9 #[.string key]) :
    Calls Tryz.prog 110 #[.slice A n c, .func (.func 111) #[] #[.pointer (some ⟨kb, 0, none⟩)]] w (RetV (.int .i64 (idxP (fun x : HrV => nb x.key == nb key) l)) w) := by
  have H := Lib.hid h; have Hk := Lib.hid h_k; clear h h_k
  go_enter Tryz.func110, Tryz.ntmps110
  go_wp2_with fail
  go_loopw [5, 8] (fun _ t' wr => ∃ i : Nat, i ≤ n ∧ t' = .int .i64 i ∧ w.grownBy wr none ∧ (l.take i).all (fun x => !((fun x : HrV => nb x.key == nb key) x)) = true) (fun _ t' _ => n - (intOf t').toNat)
  case atStart => exact ⟨0, Nat.zero_le _, rfl, gr_refl _ _, by simp⟩
  case round =>
    obtain ⟨i, hi, rfl, hg, ha⟩ := hrel
    have HA := Lib.hid ha; have HG := Lib.hid hg; clear ha hg
    by_cases hlt : i < n
    · obtain ⟨g, o, b, rfl, _, hgl, hz, hc⟩ := (H.out.grown HG.out (fun g e => by cases e)).get HrV.row_len hlt
      have HZ := Lib.hid hz; have HC := Lib.hid hc; clear hz hc
      obtain ⟨B, hB⟩ : ∃ B, (fun x : HrV => nb x.key == nb key) b = B := ⟨_, rfl⟩
      have HE := Lib.hid hB; clear hB
      cases B
      all_goals
        go_wp2_with (first
          | (refine wpl_load_at Tryz.hrT rfl _ rfl _ rfl [.string b.key, .int .i64 b.zone, .slice b.rA b.rn b.rc, .slice b.hA b.hn b.hc] rfl (fun j u hu => by rw [add_mk]; exact HC.out j u hu) ?_)
          | (go_at_call 111; refine (hrC_any b key kb _ (Hk.out.grown HG.out (by simp))).mono ?_; rintro e w2 ⟨rfl, hg2⟩; have he := HE.out; (try dsimp only at he); rw [he]; clear he; have HG2 := Lib.hid (gr_none HG.out hg2); clear hg2)
          | fail)
      · go_roundw
        case rel => exact ⟨i + 1, by omega, by go_num, HG2.out, allP_succ (p := (fun x : HrV => nb x.key == nb key)) HA.out HZ.out HE.out⟩
        case measure => simp [intOf]; omega
      · go_ret
        exact ⟨by rw [idxP_some (p := (fun x : HrV => nb x.key == nb key)) HA.out HZ.out HE.out]; rfl, HG2.out⟩
    · obtain rfl : i = n := by omega
      go_wp2_with fail
      go_ret
      have h := HA.out
      rw [List.take_of_length_le (by rw [H.out.len]; exact Nat.le_refl _)] at h
      exact ⟨by rw [idxP_none (p := (fun x : HrV => nb x.key == nb key)) h]; rfl, HG.out⟩
set_option maxHeartbeats 4000000 in
theorem counts_any (lo : Nat) (p : PlV) (key : ByteArray) (t : Int) (w : World) (h : PlOk w lo p) (hr : ∀ a ∈ p.hours, HrRight a) (hkk : hrsOk p.hours key = true) (t0 : -1 ≤ t) (t1 : t ≤ 345686400000) :
    Calls Tryz.prog 68 #[.agg #[.slice p.cA p.cn p.cc, .slice p.hA p.hn p.hc], .string key, .int .i64 t] w (RetV (.bool (cntB p.hours key t)) w) := by
  obtain ⟨W1, hW⟩ : ∃ W1, (w.alloc (.cells #[.slice p.cA p.cn p.cc, .slice p.hA p.hn p.hc] 48)).alloc (.cells #[.string key] 9) = W1 := ⟨_, rfl⟩
  have HP := Lib.hid (show Blk W1 w.heap.size 48 #[.slice p.cA p.cn p.cc, .slice p.hA p.hn p.hc] by rw [← hW]; exact (Blk.new _ _ _).alloc _)
  have HK := Lib.hid (show Blk W1 (w.heap.size + 1) 9 #[.string key] by rw [← hW]; exact blk_newH _ _ _ (by simp))
  have HG := Lib.hid (show w.grownBy W1 none by rw [← hW]; exact gr_alloc (gr_alloc (gr_refl _ _) _) _)
  have HW := Lib.hid hW; clear hW
  have hhn := h.hn
  by_cases hk : nb key = []
  · have q0 := str_nil hk
    have HV := Lib.hid (show cntB p.hours key t = true by unfold cntB; rw [decide_eq_true hk]; rfl)
    clear h hr hkk hk
    go_enter Tryz.func68, Tryz.ntmps68
    go_upto_region 1 with (fail)
    rw [HW.out]
    have k0 := HK.out.cell 0
    go_wp2_with fail
    go_ret
    exact ⟨by rw [HV.out]; try rfl, HG.out⟩
  · obtain ⟨q1, q2, q3⟩ := str_full hk
    obtain ⟨q, hh, hq, hz, hp, hf⟩ := idx_find (p := fun x : HrV => nb x.key == nb key) (l := p.hours) (by
      have h := hkk
      unfold hrsOk at h
      rw [decide_eq_false hk, Bool.false_or] at h
      exact h)
    have HQ := Lib.hid hq
    have HV := Lib.hid (show cntB p.hours key t = openAt hh.zone hh.rows hh.hol t by unfold cntB; rw [decide_eq_false hk, Bool.false_or, hf]; rfl)
    have HHO := Lib.hid (h.hours.2 hh (mem_of_get hz))
    have HHR := Lib.hid (hr hh (mem_of_get hz))
    have hqn : q < p.hn := by rw [← h.hours.1.len]; exact (List.getElem?_eq_some_iff.1 hz).1
    have hqn2 : (q : Int) < (p.hn : Int) := by omega
    obtain ⟨g, o, h2, hhA, _, hgl, hz2, hcc⟩ := h.hours.1.get HrV.row_len hqn
    obtain rfl : hh = h2 := by rw [hz] at hz2; injection hz2
    have HA := Lib.hid hhA
    have HZ := Lib.hid hz
    obtain ⟨V, hV⟩ : ∃ V, openAt hh.zone hh.rows hh.hol t = V := ⟨_, rfl⟩
    have HVV := Lib.hid hV
    clear hkk hq hp hf hz hz2 hcc hhA hr hgl hV
    have H0 := Lib.hid h
    clear h hk
    go_enter Tryz.func68, Tryz.ntmps68
    go_upto_region 1 with (fail)
    rw [HW.out]
    have k0 := HK.out.cell 0
    have k1 := HP.out.cell 1
    go_wp2_with fail
    refine (hrCIdx_any lo p.hA p.hn p.hc p.hours key (w.heap.size + 1) _ (H0.out.hours.1.grown HG.out (fun g e => by cases e)) (by omega) HK.out).mono ?_
    rintro e w2 ⟨rfl, hg2⟩
    rw [show idxP _ _ = _ from HQ.out]
    clear k0 k1
    have HG2 := Lib.hid (gr_none HG.out hg2)
    have k1 := (HP.out.grown hg2 (by simp)).cell 1
    have hA := HA.out
    have HR2 := Lib.hid (H0.out.hours.1.grown HG2.out (fun g e => by cases e))
    clear hg2
    go_wp2_with (first
      | (refine wpl_load_at Tryz.hrT rfl _ rfl _ rfl [.string hh.key, .int .i64 hh.zone, .slice hh.rA hh.rn hh.rc, .slice hh.hA hh.hn hh.hc] rfl (fun j u hu => by
           rw [add_mk]
           have hr2 := HR2.out
           rw [HA.out] at hr2
           exact hr2.at_ HrV.row_len HZ.out j u hu) ?_)
      | fail)
    refine (isOpen_any lo hh t _ (HHO.out.grown HG2.out (fun g e => by cases e)) HHR.out t0 t1).mono ?_
    rintro e w3 ⟨rfl, hg3⟩
    rw [HVV.out]
    have HG3 := Lib.hid (gr_none HG2.out hg3)
    clear hg3
    go_wp2_with fail
    go_ret
    exact ⟨by rw [HV.out, HVV.out]; try rfl, HG3.out⟩
end
end Go.Proofs.YtfakdalpaopjaaaGreatDoor
/- Contracts of slices.Grow and slices.Concat at strings, and of the document's OrderOf. Conditions: none. -/
namespace Go.Proofs.YtfakdalpaopjaaaGreatDoor
section
open Go.RowKit

/-- What lies in the first i of two slices. -/
def two (l1 l2 : List ByteArray) : Nat → List ByteArray
  | 0 => []
  | 1 => l1
  | _ => l1 ++ l2
end
end Go.Proofs.YtfakdalpaopjaaaGreatDoor

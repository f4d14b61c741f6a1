/- Words for memory that all later texts share: a block known whole, a slice that reads as a list, the stream of drawn numbers. Conditions: none. -/
import Derived.Below
import Derived.Laws.OwnMore
import Derived.Deep.AppendLies
import Derived.Deep.Draws
import Derived.Laws.Rows
import Derived.Lib.Hide
import Derived.OwnWalk
namespace Go.Proofs.YtdhaelpacffnlaaDoor
open Go.RowKit

/-! A block that is known whole. -/
def Blk (w : World) (g : Nat) (t : TypeId) (cs : Array Value) : Prop := w.heap[g]? = some (.cells cs t (0, 0))

section
variable {w w' : World} {g : Nat} {t : TypeId} {cs : Array Value}
theorem Blk.lt (h : Blk w g t cs) : g < w.heap.size := by
  rcases Nat.lt_or_ge g w.heap.size with hlt | hge
  · exact hlt
  · unfold Blk at h; rw [Array.getElem?_eq_none hge] at h; cases h
theorem Blk.cell (h : Blk w g t cs) (i : Nat) : w.cell? ⟨g, i, none⟩ = cs[i]? := cell_of_row w g i cs t (0, 0) h
theorem Blk.frozen (h : Blk w g t cs) (i : Nat) : w.frozen? ⟨g, i, none⟩ = false := by
  unfold Blk at h
  simp [World.frozen?, h]
theorem Blk.new (w : World) (t : TypeId) (cs : Array Value) : Blk (w.alloc (.cells cs t)) w.heap.size t cs := heap_alloc_new w _
theorem Blk.drew (h : Blk w g t cs) : Blk w.drew g t cs := h
theorem Blk.drewN (h : Blk w g t cs) (n : Nat) : Blk (w.drewN n) g t cs := h
theorem Blk.alloc (h : Blk w g t cs) (o : Obj) : Blk (w.alloc o) g t cs := (Below.heap_alloc w o g h.lt).trans h
theorem Blk.set_ (h : Blk w g t cs) (i : Nat) (u : Value) : Blk (w.setCell ⟨g, i, none⟩ u) g t (cs.setIfInBounds i u) := by
  unfold Blk at h ⊢
  simp [World.setCell, Array.getElem?_modify, h]
theorem Blk.far (h : Blk w g t cs) {p : Addr} (hp : g ≠ p.block) (u : Value) : Blk (w.setCell p u) g t cs := (Below.heap_setCell w p u g hp).trans h
theorem Blk.below {B : Nat} (h : Blk w g t cs) (hb : Below B w w') (hg : g < B) : Blk w' g t cs := (hb.block g hg).trans h
theorem Blk.grown {row : Option Nat} (h : Blk w g t cs) (hb : w.grownBy w' row) (hg : some g ≠ row) : Blk w' g t cs := (hb.block g h.lt hg).trans h
end

/-! Growth: 'w.grownBy w' row': new blocks, and writes to block 'row' alone. -/
theorem gr_refl (w : World) (row : Option Nat) : w.grownBy w row := World.grownBy.refl w row
theorem gr_drewN {a w : World} {row : Option Nat} (h : a.grownBy w row) (n : Nat) : a.grownBy (w.drewN n) row := ⟨h.os, h.tape, h.output, h.size, h.block⟩
theorem gr_drew {a w : World} {row : Option Nat} (h : a.grownBy w row) : a.grownBy w.drew row := ⟨h.os, h.tape, h.output, h.size, h.block⟩
theorem gr_alloc {a w : World} {row : Option Nat} (h : a.grownBy w row) (o : Obj) : a.grownBy (w.alloc o) row :=
  ⟨h.os, h.tape, h.output, Nat.le_trans h.size (by simp), fun i hi hne => (Below.heap_alloc w o i (Nat.lt_of_lt_of_le hi h.size)).trans (h.block i hi hne)⟩
theorem gr_setCell {a w : World} {row : Option Nat} (h : a.grownBy w row) {p : Addr} (hp : some p.block = row ∨ a.heap.size ≤ p.block) (u : Value) : a.grownBy (w.setCell p u) row :=
  ⟨h.os, h.tape, h.output, by simpa [World.setCell] using h.size, fun i hi hne => (Below.heap_setCell w p u i (by
    rintro rfl
    rcases hp with hp | hp
    · exact hne hp
    · omega)).trans (h.block i hi hne)⟩
theorem gr_below {a w : World} (h : Below a.heap.size a w) (row : Option Nat) : a.grownBy w row := ⟨h.os, h.tape, h.output, h.size, fun i hi _ => h.block i hi⟩
theorem below_gr {a w : World} (h : a.grownBy w none) : Below a.heap.size a w := ⟨h.os, h.tape, h.output, h.size, fun i hi => h.block i hi (by simp)⟩
/-- Two growths, one behind the other: what the second one writes to is the first one's row, or new. -/
theorem gr_trans {a b c : World} {row row' : Option Nat} (h : a.grownBy b row) (k : b.grownBy c row') (hr : ∀ g, row' = some g → some g = row ∨ a.heap.size ≤ g) : a.grownBy c row :=
  ⟨k.os.trans h.os, k.tape.trans h.tape, k.output.trans h.output, Nat.le_trans h.size k.size, fun i hi hne => (k.block i (Nat.lt_of_lt_of_le hi h.size) (fun e => by
    rcases hr i e.symm with h1 | h1
    · exact hne h1
    · omega)).trans (h.block i hi hne)⟩
theorem gr_same {a b c : World} {row : Option Nat} (h : a.grownBy b row) (k : b.grownBy c row) : a.grownBy c row := gr_trans h k (fun _ e => .inl e.symm)
theorem gr_none {a b c : World} {row : Option Nat} (h : a.grownBy b row) (k : b.grownBy c none) : a.grownBy c row := gr_trans h k (fun _ e => by cases e)

/-! A slice that reads as a list of cells, nil let in: it lies in blocks from 'lo' on. -/
def Reads (w : World) (lo size : Nat) (A : Option Addr) (n c : Nat) (xs : List Value) : Prop :=
  xs.length = n * size ∧ n ≤ c ∧ (0 < n → ∃ g o, A = some ⟨g, o, none⟩ ∧ lo ≤ g ∧ g < w.heap.size ∧ ∀ j u, xs[j]? = some u → w.cell? ⟨g, o + j, none⟩ = some u)

theorem add_mk (g o i : Nat) : (⟨g, o, none⟩ : Addr).add i = ⟨g, o + i, none⟩ := by
  unfold Addr.add; split
  · simp [*]
  · rfl

section
variable {w w' : World} {lo lo' size n c : Nat} {A : Option Addr} {xs : List Value}
theorem Reads.len (h : Reads w lo size A n c xs) : xs.length = n * size := h.1
theorem Reads.none_ : Reads w lo size A 0 c [] := ⟨by simp, Nat.zero_le _, fun h => absurd h (by omega)⟩
theorem Reads.kept (h : Reads w lo size A n c xs) (hs : w.heap.size ≤ w'.heap.size) (hk : ∀ g, lo ≤ g → g < w.heap.size → w'.heap[g]? = w.heap[g]?) : Reads w' lo size A n c xs :=
  ⟨h.1, h.2.1, fun hn => by
    obtain ⟨g, o, e, hl, hb, hc⟩ := h.2.2 hn
    exact ⟨g, o, e, hl, by omega, fun j u hu => (World.cell?_of_block (hk g hl hb)).trans (hc j u hu)⟩⟩
theorem Reads.lower (h : Reads w lo size A n c xs) (hB : lo' ≤ lo) : Reads w lo' size A n c xs :=
  ⟨h.1, h.2.1, fun hn => by
    obtain ⟨g, o, e, hl, hb, hc⟩ := h.2.2 hn
    exact ⟨g, o, e, by omega, hb, hc⟩⟩
theorem Reads.grown (h : Reads w lo size A n c xs) {row : Option Nat} (hg : w.grownBy w' row) (hr : ∀ g, row = some g → g < lo) : Reads w' lo size A n c xs :=
  h.kept hg.size fun g hl hb => hg.block g hb (fun e => by have := hr _ e.symm; omega)
theorem Reads.below (h : Reads w lo size A n c xs) (hb : Below w.heap.size w w') : Reads w' lo size A n c xs := h.kept hb.size fun g _ hg => hb.block g hg
theorem Reads.drew (h : Reads w lo size A n c xs) : Reads w.drew lo size A n c xs := h
theorem Reads.drewN (h : Reads w lo size A n c xs) (k : Nat) : Reads (w.drewN k) lo size A n c xs := h
theorem Reads.alloc (h : Reads w lo size A n c xs) (o : Obj) : Reads (w.alloc o) lo size A n c xs := h.kept (by simp) fun g _ hg => Below.heap_alloc w o g hg
theorem Reads.at_ {k : Nat} (h : Reads w lo 1 A n c xs) (hk : k < n) : ∃ g o u, A = some ⟨g, o, none⟩ ∧ lo ≤ g ∧ g < w.heap.size ∧ xs[k]? = some u ∧ w.cell? ⟨g, o + k, none⟩ = some u := by
  obtain ⟨g, o, e, hl, hb, hc⟩ := h.2.2 (by omega)
  have hk' : k < xs.length := by have := h.1; omega
  exact ⟨g, o, xs[k], e, hl, hb, List.getElem?_eq_getElem hk', hc k _ (List.getElem?_eq_getElem hk')⟩
theorem Reads.of_own {base : Nat} {e : TypeId} (h : w.ownsRow base e size (.slice A n c) n xs) (hc : n ≤ c) : Reads w base size A n c xs := by
  refine ⟨h.1, hc, fun hn => ?_⟩
  obtain ⟨g, cap, hv, hlo, hlt⟩ := h.form hn
  have hA : A = some ⟨g, 0, none⟩ := by injection hv
  subst hA
  refine ⟨g, 0, rfl, hlo, hlt, fun j u hu => ?_⟩
  have := h.cells (g := g) rfl j u hu
  rw [add_mk] at this
  exact this
end
/-- A slice of integers of one kind. -/
def Ints (k : IntKind) (w : World) (lo : Nat) (A : Option Addr) (n c : Nat) (l : List Int) : Prop := Reads w lo 1 A n c (l.map (Value.int k))
section
variable {k : IntKind} {w w' : World} {lo lo' n c : Nat} {A : Option Addr} {l : List Int}
theorem Ints.len (h : Ints k w lo A n c l) : l.length = n := by have := h.1; simpa using this
theorem Ints.cap (h : Ints k w lo A n c l) : n ≤ c := h.2.1
theorem Ints.at_ {i : Nat} (h : Ints k w lo A n c l) (hi : i < n) : ∃ g o, A = some ⟨g, o, none⟩ ∧ lo ≤ g ∧ g < w.heap.size ∧ w.cell? ⟨g, o + i, none⟩ = some (.int k (l.getD i 0)) := by
  obtain ⟨g, o, u, e, hl, hb, hx, hc⟩ := Reads.at_ h hi
  refine ⟨g, o, e, hl, hb, ?_⟩
  have hl : i < l.length := by rw [h.len]; exact hi
  rw [List.getElem?_map, List.getElem?_eq_getElem hl] at hx
  rw [hc, ← hx]
  simp [List.getD_eq_getElem?_getD, List.getElem?_eq_getElem hl]
theorem Ints.get {i : Nat} (h : Ints k w lo A n c l) (hi : i < n) : ∃ g o z, A = some ⟨g, o, none⟩ ∧ lo ≤ g ∧ g < w.heap.size ∧ l[i]? = some z ∧ w.cell? ⟨g, o + i, none⟩ = some (.int k z) := by
  obtain ⟨g, o, u, e, hl, hb, hx, hc⟩ := Reads.at_ h hi
  have hl' : i < l.length := by rw [h.len]; exact hi
  refine ⟨g, o, l[i], e, hl, hb, List.getElem?_eq_getElem hl', ?_⟩
  rw [List.getElem?_map, List.getElem?_eq_getElem hl'] at hx
  rw [hc, ← hx]
  rfl
theorem Ints.none_ : Ints k w lo A 0 c [] := Reads.none_
theorem Ints.lower (h : Ints k w lo A n c l) (hB : lo' ≤ lo) : Ints k w lo' A n c l := Reads.lower h hB
theorem Ints.grown (h : Ints k w lo A n c l) {row : Option Nat} (hg : w.grownBy w' row) (hr : ∀ g, row = some g → g < lo) : Ints k w' lo A n c l := Reads.grown h hg hr
theorem Ints.below (h : Ints k w lo A n c l) (hb : Below w.heap.size w w') : Ints k w' lo A n c l := Reads.below h hb
theorem Ints.alloc (h : Ints k w lo A n c l) (o : Obj) : Ints k (w.alloc o) lo A n c l := Reads.alloc h o
theorem Ints.drew (h : Ints k w lo A n c l) : Ints k w.drew lo A n c l := h
theorem Ints.drewN (h : Ints k w lo A n c l) (j : Nat) : Ints k (w.drewN j) lo A n c l := h
end
theorem Ints.sub {k : IntKind} {w : World} {lo g o n c : Nat} {l : List Int} (h : Ints k w lo (some ⟨g, o, none⟩) n c l) (i m : Nat) (hj : i + m ≤ n) : Ints k w lo (some ⟨g, o + i, none⟩) m (c - i) ((l.drop i).take m) := by
  have hl := h.len
  have hc := h.cap
  refine ⟨by simp; omega, by omega, fun hp => ?_⟩
  obtain ⟨g', o', e, h1, h2, h3⟩ := h.2.2 (by omega)
  injection e with e
  injection e with e1 e2
  subst e1; subst e2
  refine ⟨g, o + i, rfl, h1, h2, fun q u hu => ?_⟩
  rw [Nat.add_assoc]
  refine h3 (i + q) u ?_
  rw [List.map_take, List.map_drop] at hu
  rw [List.getElem?_take] at hu
  split at hu
  · rw [List.getElem?_drop] at hu; exact hu
  · cases hu
theorem Ints.recap {k : IntKind} {w : World} {lo n c c' : Nat} {A : Option Addr} {l : List Int} (h : Ints k w lo A n c l) (hc : n ≤ c') : Ints k w lo A n c' l := ⟨h.1, hc, h.2.2⟩
theorem Ints.subTo {k : IntKind} {w : World} {lo g o n c : Nat} {l : List Int} (h : Ints k w lo (some ⟨g, o, none⟩) n c l) (i : Nat) (hj : i ≤ n) : Ints k w lo (some ⟨g, o + i, none⟩) (n - i) (c - i) (l.drop i) := by
  have := h.sub i (n - i) (by omega)
  rwa [List.take_of_length_le (by rw [List.length_drop, h.len]; exact Nat.le_refl _)] at this
theorem Ints.cutTo {k : IntKind} {w : World} {lo g o n c : Nat} {l : List Int} (h : Ints k w lo (some ⟨g, o, none⟩) n c l) (i : Nat) (hj : i ≤ n) : Ints k w lo (if c = i then some ⟨g, o, none⟩ else some ⟨g, o + i, none⟩) (n - i) (c - i) (l.drop i) := by
  by_cases hc : c = i
  · have hn : n - i = 0 := by have := h.cap; omega
    rw [if_pos hc, hn, List.drop_eq_nil_of_le (by rw [h.len]; omega)]
    exact Ints.none_
  · rw [if_neg hc]; exact h.subTo i hj
theorem Ints.tail0 {k : IntKind} {w : World} {lo g n c : Nat} {l : List Int} (h : Ints k w lo (some ⟨g, 0, none⟩) n c l) (i c' : Nat) (hj : i ≤ n) (hc : n - i ≤ c') : Ints k w lo (some ⟨g, i, none⟩) (n - i) c' (l.drop i) := by
  have := (h.subTo i hj).recap hc
  rwa [Nat.zero_add] at this
theorem Ints.cut0 {k : IntKind} {w : World} {lo g n c : Nat} {l : List Int} (h : Ints k w lo (some ⟨g, 0, none⟩) n c l) (i : Nat) (hj : i ≤ n) : Ints k w lo (if c = i then some ⟨g, 0, none⟩ else some ⟨g, i, none⟩) (n - i) (c - i) (l.drop i) := by
  have := h.cutTo i hj
  rwa [Nat.zero_add] at this
theorem Ints.none0 {k : IntKind} {w : World} {lo n c : Nat} {A A' : Option Addr} {l : List Int} (h : Ints k w lo A n c l) (i c' : Nat) (hj : n ≤ i) : Ints k w lo A' (n - i) c' (l.drop i) := by
  rw [show n - i = 0 by omega, List.drop_eq_nil_of_le (by rw [h.len]; exact hj)]
  exact Ints.none_
theorem take_snoc' {α : Type} {l : List α} {i : Nat} {z : α} (h : l[i]? = some z) : l.take (i + 1) = l.take i ++ [z] := by
  obtain ⟨hl, rfl⟩ := List.getElem?_eq_some_iff.1 h
  exact List.take_succ_eq_append_getElem hl
theorem mem_of_get {α : Type} {l : List α} {i : Nat} {z : α} (h : l[i]? = some z) : z ∈ l := List.mem_of_getElem? h
end Go.Proofs.YtdhaelpacffnlaaDoor

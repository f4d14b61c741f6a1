/- Words for memory that all later texts share: a block known whole, a slice that reads as a list, the stream of drawn numbers. Conditions: none. -/
import Derived.Below
import Derived.Laws.OwnMore
import Derived.Deep.AppendLies
import Derived.Deep.Draws
import Derived.Laws.Rows
import Derived.Lib.Hide
import Derived.OwnWalk
import Derived.Test.YtdhaelpacffnlaaGreatDoorRows
import Derived.WalkKit
import Derived.Deep.QuietTactic
import Derived.BigQuiet
import Derived.Laws.Strings
import Derived.Maps.AppendAt
import Derived.RegionTactic
import Derived.Lib.AppendZeros
import Derived.Lib.AppendZerosOnto
import Derived.Laws.Tables
import Derived.WalkSpells
import Derived.BigGuardPart
import Derived.Deep.RegionHeld3
import Derived.Deep.RegionLaw
import Derived.Deep.DeepFit
import Derived.Outline
import Derived.IntWalk
import Derived.Deep.DeepCutAuto
import Derived.Lib.Bytealg
namespace Go.Proofs.YtdhaelpacffnlaaGreatDoor
section
open Go.RowKit

/-! A block that is known whole. -/
def Blk (w : World) (g : Nat) (t : TypeId) (cs : Array Value) : Prop := w.heap[g]? = some (.cells cs t (0, 0))

section
variable {w w' : World} {g : Nat} {t : TypeId} {cs : Array Value}
theorem Blk.lt (h : Blk w g t cs) : g < w.heap.size := by
  rcases Nat.lt_or_ge g w.heap.size with hlt | hge
  · exact hlt
  · unfold Blk at h; rw [Array.getElem?_eq_none hge] at h; cases h
theorem Blk.cell (h : Blk w g t cs) (i : Nat) : w.cell? ⟨g, i, none⟩ = cs[i]? := cell_of_row w g i cs t (0, 0) h
theorem Blk.frozen (h : Blk w g t cs) (i : Nat) : w.frozen? ⟨g, i, none⟩ = false := by
  unfold Blk at h
  simp [World.frozen?, h]
theorem Blk.new (w : World) (t : TypeId) (cs : Array Value) : Blk (w.alloc (.cells cs t)) w.heap.size t cs := heap_alloc_new w _
theorem Blk.drew (h : Blk w g t cs) : Blk w.drew g t cs := h
theorem Blk.drewN (h : Blk w g t cs) (n : Nat) : Blk (w.drewN n) g t cs := h
theorem Blk.alloc (h : Blk w g t cs) (o : Obj) : Blk (w.alloc o) g t cs := (Below.heap_alloc w o g h.lt).trans h
theorem Blk.set_ (h : Blk w g t cs) (i : Nat) (u : Value) : Blk (w.setCell ⟨g, i, none⟩ u) g t (cs.setIfInBounds i u) := by
  unfold Blk at h ⊢
  simp [World.setCell, Array.getElem?_modify, h]
theorem Blk.far (h : Blk w g t cs) {p : Addr} (hp : g ≠ p.block) (u : Value) : Blk (w.setCell p u) g t cs := (Below.heap_setCell w p u g hp).trans h
theorem Blk.below {B : Nat} (h : Blk w g t cs) (hb : Below B w w') (hg : g < B) : Blk w' g t cs := (hb.block g hg).trans h
theorem Blk.grown {row : Option Nat} (h : Blk w g t cs) (hb : w.grownBy w' row) (hg : some g ≠ row) : Blk w' g t cs := (hb.block g h.lt hg).trans h
end

/-! Growth: 'w.grownBy w' row': new blocks, and writes to block 'row' alone. -/
theorem gr_refl (w : World) (row : Option Nat) : w.grownBy w row := World.grownBy.refl w row
theorem gr_drewN {a w : World} {row : Option Nat} (h : a.grownBy w row) (n : Nat) : a.grownBy (w.drewN n) row := ⟨h.os, h.tape, h.output, h.size, h.block⟩
theorem gr_drew {a w : World} {row : Option Nat} (h : a.grownBy w row) : a.grownBy w.drew row := ⟨h.os, h.tape, h.output, h.size, h.block⟩
theorem gr_alloc {a w : World} {row : Option Nat} (h : a.grownBy w row) (o : Obj) : a.grownBy (w.alloc o) row :=
  ⟨h.os, h.tape, h.output, Nat.le_trans h.size (by simp), fun i hi hne => (Below.heap_alloc w o i (Nat.lt_of_lt_of_le hi h.size)).trans (h.block i hi hne)⟩
theorem gr_setCell {a w : World} {row : Option Nat} (h : a.grownBy w row) {p : Addr} (hp : some p.block = row ∨ a.heap.size ≤ p.block) (u : Value) : a.grownBy (w.setCell p u) row :=
  ⟨h.os, h.tape, h.output, by simpa [World.setCell] using h.size, fun i hi hne => (Below.heap_setCell w p u i (by
    rintro rfl
    rcases hp with hp | hp
    · exact hne hp
    · omega)).trans (h.block i hi hne)⟩
theorem gr_below {a w : World} (h : Below a.heap.size a w) (row : Option Nat) : a.grownBy w row := ⟨h.os, h.tape, h.output, h.size, fun i hi _ => h.block i hi⟩
theorem below_gr {a w : World} (h : a.grownBy w none) : Below a.heap.size a w := ⟨h.os, h.tape, h.output, h.size, fun i hi => h.block i hi (by simp)⟩
/-- Two growths, one behind the other: what the second one writes to is the first one's row, or new. -/
theorem gr_trans {a b c : World} {row row' : Option Nat} (h : a.grownBy b row) (k : b.grownBy c row') (hr : ∀ g, row' = some g → some g = row ∨ a.heap.size ≤ g) : a.grownBy c row :=
  ⟨k.os.trans h.os, k.tape.trans h.tape, k.output.trans h.output, Nat.le_trans h.size k.size, fun i hi hne => (k.block i (Nat.lt_of_lt_of_le hi h.size) (fun e => by
    rcases hr i e.symm with h1 | h1
    · exact hne h1
    · omega)).trans (h.block i hi hne)⟩
theorem gr_same {a b c : World} {row : Option Nat} (h : a.grownBy b row) (k : b.grownBy c row) : a.grownBy c row := gr_trans h k (fun _ e => .inl e.symm)
theorem gr_none {a b c : World} {row : Option Nat} (h : a.grownBy b row) (k : b.grownBy c none) : a.grownBy c row := gr_trans h k (fun _ e => by cases e)

/-! A slice that reads as a list of cells, nil let in: it lies in blocks from 'lo' on. -/
def Reads (w : World) (lo size : Nat) (A : Option Addr) (n c : Nat) (xs : List Value) : Prop :=
  xs.length = n * size ∧ n ≤ c ∧ (0 < n → ∃ g o, A = some ⟨g, o, none⟩ ∧ lo ≤ g ∧ g < w.heap.size ∧ ∀ j u, xs[j]? = some u → w.cell? ⟨g, o + j, none⟩ = some u)

theorem add_mk (g o i : Nat) : (⟨g, o, none⟩ : Addr).add i = ⟨g, o + i, none⟩ := by
  unfold Addr.add; split
  · simp [*]
  · rfl

section
variable {w w' : World} {lo lo' size n c : Nat} {A : Option Addr} {xs : List Value}
theorem Reads.len (h : Reads w lo size A n c xs) : xs.length = n * size := h.1
theorem Reads.none_ : Reads w lo size A 0 c [] := ⟨by simp, Nat.zero_le _, fun h => absurd h (by omega)⟩
theorem Reads.kept (h : Reads w lo size A n c xs) (hs : w.heap.size ≤ w'.heap.size) (hk : ∀ g, lo ≤ g → g < w.heap.size → w'.heap[g]? = w.heap[g]?) : Reads w' lo size A n c xs :=
  ⟨h.1, h.2.1, fun hn => by
    obtain ⟨g, o, e, hl, hb, hc⟩ := h.2.2 hn
    exact ⟨g, o, e, hl, by omega, fun j u hu => (World.cell?_of_block (hk g hl hb)).trans (hc j u hu)⟩⟩
theorem Reads.lower (h : Reads w lo size A n c xs) (hB : lo' ≤ lo) : Reads w lo' size A n c xs :=
  ⟨h.1, h.2.1, fun hn => by
    obtain ⟨g, o, e, hl, hb, hc⟩ := h.2.2 hn
    exact ⟨g, o, e, by omega, hb, hc⟩⟩
theorem Reads.grown (h : Reads w lo size A n c xs) {row : Option Nat} (hg : w.grownBy w' row) (hr : ∀ g, row = some g → g < lo) : Reads w' lo size A n c xs :=
  h.kept hg.size fun g hl hb => hg.block g hb (fun e => by have := hr _ e.symm; omega)
theorem Reads.below (h : Reads w lo size A n c xs) (hb : Below w.heap.size w w') : Reads w' lo size A n c xs := h.kept hb.size fun g _ hg => hb.block g hg
theorem Reads.drew (h : Reads w lo size A n c xs) : Reads w.drew lo size A n c xs := h
theorem Reads.drewN (h : Reads w lo size A n c xs) (k : Nat) : Reads (w.drewN k) lo size A n c xs := h
theorem Reads.alloc (h : Reads w lo size A n c xs) (o : Obj) : Reads (w.alloc o) lo size A n c xs := h.kept (by simp) fun g _ hg => Below.heap_alloc w o g hg
theorem Reads.at_ {k : Nat} (h : Reads w lo 1 A n c xs) (hk : k < n) : ∃ g o u, A = some ⟨g, o, none⟩ ∧ lo ≤ g ∧ g < w.heap.size ∧ xs[k]? = some u ∧ w.cell? ⟨g, o + k, none⟩ = some u := by
  obtain ⟨g, o, e, hl, hb, hc⟩ := h.2.2 (by omega)
  have hk' : k < xs.length := by have := h.1; omega
  exact ⟨g, o, xs[k], e, hl, hb, List.getElem?_eq_getElem hk', hc k _ (List.getElem?_eq_getElem hk')⟩
theorem Reads.of_own {base : Nat} {e : TypeId} (h : w.ownsRow base e size (.slice A n c) n xs) (hc : n ≤ c) : Reads w base size A n c xs := by
  refine ⟨h.1, hc, fun hn => ?_⟩
  obtain ⟨g, cap, hv, hlo, hlt⟩ := h.form hn
  have hA : A = some ⟨g, 0, none⟩ := by injection hv
  subst hA
  refine ⟨g, 0, rfl, hlo, hlt, fun j u hu => ?_⟩
  have := h.cells (g := g) rfl j u hu
  rw [add_mk] at this
  exact this
end
/-- A slice of integers of one kind. -/
def Ints (k : IntKind) (w : World) (lo : Nat) (A : Option Addr) (n c : Nat) (l : List Int) : Prop := Reads w lo 1 A n c (l.map (Value.int k))
section
variable {k : IntKind} {w w' : World} {lo lo' n c : Nat} {A : Option Addr} {l : List Int}
theorem Ints.len (h : Ints k w lo A n c l) : l.length = n := by have := h.1; simpa using this
theorem Ints.cap (h : Ints k w lo A n c l) : n ≤ c := h.2.1
theorem Ints.at_ {i : Nat} (h : Ints k w lo A n c l) (hi : i < n) : ∃ g o, A = some ⟨g, o, none⟩ ∧ lo ≤ g ∧ g < w.heap.size ∧ w.cell? ⟨g, o + i, none⟩ = some (.int k (l.getD i 0)) := by
  obtain ⟨g, o, u, e, hl, hb, hx, hc⟩ := Reads.at_ h hi
  refine ⟨g, o, e, hl, hb, ?_⟩
  have hl : i < l.length := by rw [h.len]; exact hi
  rw [List.getElem?_map, List.getElem?_eq_getElem hl] at hx
  rw [hc, ← hx]
  simp [List.getD_eq_getElem?_getD, List.getElem?_eq_getElem hl]
theorem Ints.get {i : Nat} (h : Ints k w lo A n c l) (hi : i < n) : ∃ g o z, A = some ⟨g, o, none⟩ ∧ lo ≤ g ∧ g < w.heap.size ∧ l[i]? = some z ∧ w.cell? ⟨g, o + i, none⟩ = some (.int k z) := by
  obtain ⟨g, o, u, e, hl, hb, hx, hc⟩ := Reads.at_ h hi
  have hl' : i < l.length := by rw [h.len]; exact hi
  refine ⟨g, o, l[i], e, hl, hb, List.getElem?_eq_getElem hl', ?_⟩
  rw [List.getElem?_map, List.getElem?_eq_getElem hl'] at hx
  rw [hc, ← hx]
  rfl
theorem Ints.none_ : Ints k w lo A 0 c [] := Reads.none_
theorem Ints.lower (h : Ints k w lo A n c l) (hB : lo' ≤ lo) : Ints k w lo' A n c l := Reads.lower h hB
theorem Ints.grown (h : Ints k w lo A n c l) {row : Option Nat} (hg : w.grownBy w' row) (hr : ∀ g, row = some g → g < lo) : Ints k w' lo A n c l := Reads.grown h hg hr
theorem Ints.below (h : Ints k w lo A n c l) (hb : Below w.heap.size w w') : Ints k w' lo A n c l := Reads.below h hb
theorem Ints.alloc (h : Ints k w lo A n c l) (o : Obj) : Ints k (w.alloc o) lo A n c l := Reads.alloc h o
theorem Ints.drew (h : Ints k w lo A n c l) : Ints k w.drew lo A n c l := h
theorem Ints.drewN (h : Ints k w lo A n c l) (j : Nat) : Ints k (w.drewN j) lo A n c l := h
end
theorem Ints.sub {k : IntKind} {w : World} {lo g o n c : Nat} {l : List Int} (h : Ints k w lo (some ⟨g, o, none⟩) n c l) (i m : Nat) (hj : i + m ≤ n) : Ints k w lo (some ⟨g, o + i, none⟩) m (c - i) ((l.drop i).take m) := by
  have hl := h.len
  have hc := h.cap
  refine ⟨by simp; omega, by omega, fun hp => ?_⟩
  obtain ⟨g', o', e, h1, h2, h3⟩ := h.2.2 (by omega)
  injection e with e
  injection e with e1 e2
  subst e1; subst e2
  refine ⟨g, o + i, rfl, h1, h2, fun q u hu => ?_⟩
  rw [Nat.add_assoc]
  refine h3 (i + q) u ?_
  rw [List.map_take, List.map_drop] at hu
  rw [List.getElem?_take] at hu
  split at hu
  · rw [List.getElem?_drop] at hu; exact hu
  · cases hu
theorem Ints.recap {k : IntKind} {w : World} {lo n c c' : Nat} {A : Option Addr} {l : List Int} (h : Ints k w lo A n c l) (hc : n ≤ c') : Ints k w lo A n c' l := ⟨h.1, hc, h.2.2⟩
theorem Ints.subTo {k : IntKind} {w : World} {lo g o n c : Nat} {l : List Int} (h : Ints k w lo (some ⟨g, o, none⟩) n c l) (i : Nat) (hj : i ≤ n) : Ints k w lo (some ⟨g, o + i, none⟩) (n - i) (c - i) (l.drop i) := by
  have := h.sub i (n - i) (by omega)
  rwa [List.take_of_length_le (by rw [List.length_drop, h.len]; exact Nat.le_refl _)] at this
theorem Ints.cutTo {k : IntKind} {w : World} {lo g o n c : Nat} {l : List Int} (h : Ints k w lo (some ⟨g, o, none⟩) n c l) (i : Nat) (hj : i ≤ n) : Ints k w lo (if c = i then some ⟨g, o, none⟩ else some ⟨g, o + i, none⟩) (n - i) (c - i) (l.drop i) := by
  by_cases hc : c = i
  · have hn : n - i = 0 := by have := h.cap; omega
    rw [if_pos hc, hn, List.drop_eq_nil_of_le (by rw [h.len]; omega)]
    exact Ints.none_
  · rw [if_neg hc]; exact h.subTo i hj
theorem Ints.tail0 {k : IntKind} {w : World} {lo g n c : Nat} {l : List Int} (h : Ints k w lo (some ⟨g, 0, none⟩) n c l) (i c' : Nat) (hj : i ≤ n) (hc : n - i ≤ c') : Ints k w lo (some ⟨g, i, none⟩) (n - i) c' (l.drop i) := by
  have := (h.subTo i hj).recap hc
  rwa [Nat.zero_add] at this
theorem Ints.cut0 {k : IntKind} {w : World} {lo g n c : Nat} {l : List Int} (h : Ints k w lo (some ⟨g, 0, none⟩) n c l) (i : Nat) (hj : i ≤ n) : Ints k w lo (if c = i then some ⟨g, 0, none⟩ else some ⟨g, i, none⟩) (n - i) (c - i) (l.drop i) := by
  have := h.cutTo i hj
  rwa [Nat.zero_add] at this
theorem Ints.none0 {k : IntKind} {w : World} {lo n c : Nat} {A A' : Option Addr} {l : List Int} (h : Ints k w lo A n c l) (i c' : Nat) (hj : n ≤ i) : Ints k w lo A' (n - i) c' (l.drop i) := by
  rw [show n - i = 0 by omega, List.drop_eq_nil_of_le (by rw [h.len]; exact hj)]
  exact Ints.none_
theorem take_snoc' {α : Type} {l : List α} {i : Nat} {z : α} (h : l[i]? = some z) : l.take (i + 1) = l.take i ++ [z] := by
  obtain ⟨hl, rfl⟩ := List.getElem?_eq_some_iff.1 h
  exact List.take_succ_eq_append_getElem hl
theorem mem_of_get {α : Type} {l : List α} {i : Nat} {z : α} (h : l[i]? = some z) : z ∈ l := List.mem_of_getElem? h
end
end Go.Proofs.YtdhaelpacffnlaaGreatDoor
/- Contracts of the stream of drawn numbers: what is drawn lies in its range, whatever the input. Conditions: none. -/
namespace Go.Proofs.YtdhaelpacffnlaaGreatDoor
section
open Go.RowKit

def InRange (n : Int) (w : World) (e : Ending) (w' : World) : Prop := ∃ r : Int, 0 ≤ r ∧ r < n ∧ e = .returned (.int .i64 r) ∧ w = w'

set_option maxHeartbeats 400000 in
theorem below_any (x n : Int) (w : World) (hn : 1 ≤ n) (hn2 : n ≤ 4611686018427387904) :
    Calls Tryz.prog 78 #[.int .i64 x, .int .i64 n] w (InRange n w) := by
  have h1 : x.tmod n < n := Int.tmod_lt_of_pos _ (by omega)
  have h2 : -n < x.tmod n := by have := Int.lt_tmod_of_pos x (b := n) (by omega); omega
  go_enter Tryz.func78, Tryz.ntmps78
  go_wp2
  all_goals
    go_ret
    exact ⟨_, by omega, by omega, rfl, rfl⟩

/-- The stream's struct lies in block sb: the numbers that came in, and how many have been drawn (at most m). -/
def Str (w : World) (sb : Nat) (m : Int) : Prop :=
  ∃ (A : Option Addr) (len cap : Nat) (k : Int), 0 ≤ k ∧ k ≤ m ∧ len ≤ 9223372036854775807 ∧ Blk w sb 25 #[.slice A len cap, .int .i64 k] ∧
    (0 < len → ∃ b o, A = some ⟨b, o, none⟩ ∧ b < sb ∧ ∀ i, i < len → ∃ z, w.cell? ⟨b, o + i, none⟩ = some (.int .i64 z))
theorem Str.lt {w : World} {sb : Nat} {m : Int} (h : Str w sb m) : sb < w.heap.size := by
  obtain ⟨_, _, _, _, _, _, _, hb, _⟩ := h
  exact hb.lt
theorem Str.mono {w : World} {sb : Nat} {m m' : Int} (h : Str w sb m) (hm : m ≤ m') : Str w sb m' := by
  obtain ⟨A, len, cap, k, h0, h1, h2, h3, h4⟩ := h
  exact ⟨A, len, cap, k, h0, by omega, h2, h3, h4⟩
theorem Str.kept {w w' : World} {sb : Nat} {m : Int} (h : Str w sb m) (hk : ∀ g, g ≤ sb → w'.heap[g]? = w.heap[g]?) : Str w' sb m := by
  obtain ⟨A, len, cap, k, h0, h1, h2, h3, h4⟩ := h
  refine ⟨A, len, cap, k, h0, h1, h2, (hk sb (Nat.le_refl _)).trans h3, fun hl => ?_⟩
  obtain ⟨b, o, e, hb, hc⟩ := h4 hl
  refine ⟨b, o, e, hb, fun i hi => ?_⟩
  obtain ⟨z, hz⟩ := hc i hi
  exact ⟨z, (World.cell?_of_block (hk b (by omega))).trans hz⟩
theorem Str.grown {w w' : World} {sb : Nat} {m : Int} (h : Str w sb m) {row : Option Nat} (hg : w.grownBy w' row) (hr : ∀ g, row = some g → sb < g) : Str w' sb m :=
  h.kept fun g hle => hg.block g (by have := h.lt; omega) (fun e => by have := hr _ e.symm; omega)
theorem Str.below {w w' : World} {sb : Nat} {m : Int} (h : Str w sb m) (hb : Below w.heap.size w w') : Str w' sb m := h.kept fun g hle => hb.block g (by have := h.lt; omega)
theorem Str.alloc {w : World} {sb : Nat} {m : Int} (h : Str w sb m) (o : Obj) : Str (w.alloc o) sb m := h.kept fun g hle => Below.heap_alloc w o g (by have := h.lt; omega)
theorem Str.drew {w : World} {sb : Nat} {m : Int} (h : Str w sb m) : Str w.drew sb m := h
theorem Str.drewN {w : World} {sb : Nat} {m : Int} (h : Str w sb m) (k : Nat) : Str (w.drewN k) sb m := h
theorem Str.setCell {w : World} {sb : Nat} {m : Int} (h : Str w sb m) {p : Addr} (hp : sb < p.block) (u : Value) : Str (w.setCell p u) sb m :=
  h.kept fun g hle => Below.heap_setCell w p u g (by omega)

/-- A generator's answer: a value of which P holds; m more numbers have been drawn at most; nothing else that was there has changed. -/
def Drawn (sb : Nat) (m : Int) (P : Value → World → Prop) (w : World) (e : Ending) (w' : World) : Prop :=
  ∃ v, e = .returned v ∧ P v w' ∧ Str w' sb m ∧ w.grownBy w' (some sb)

def IntIn (lo hi : Int) (v : Value) (_ : World) : Prop := ∃ r : Int, lo ≤ r ∧ r ≤ hi ∧ v = .int .i64 r

set_option maxHeartbeats 1000000 in
theorem next_any (sb : Nat) (m n : Int) (w : World) (hs : Str w sb m) (hm : m ≤ 1152921504606846976) (hn : 1 ≤ n) (hn2 : n ≤ 4611686018427387904) :
    Calls Tryz.prog 29 #[.pointer (some ⟨sb, 0, none⟩), .int .i64 n] w (Drawn sb (m + 1) (IntIn 0 (n - 1)) w) := by
  obtain ⟨A, len, cap, k, hk0, hk1, hl, hb, hz⟩ := hs
  have c0 : w.cell? ⟨sb, 0, none⟩ = some (.slice A len cap) := hb.cell 0
  have c1 : w.cell? ⟨sb, 1, none⟩ = some (.int .i64 k) := hb.cell 1
  have f1 : w.frozen? ⟨sb, 1, none⟩ = false := hb.frozen 1
  by_cases h0 : len = 0
  · subst h0
    have H := Lib.hid hb; clear hb
    go_enter Tryz.func29, Tryz.ntmps29
    go_wp2_with (go_at_call 78; refine (below_any _ _ _ (by omega) (by omega)).mono ?_; rintro e w' ⟨r, hr1, hr2, rfl, rfl⟩)
    go_ret
    have hb := H.out.set_ 1 (.int .i64 (k + 1))
    exact ⟨_, rfl, ⟨r, by omega, by omega, rfl⟩, ⟨A, 0, cap, k + 1, by omega, by omega, by omega, hb, fun h => absurd h (by omega)⟩, gr_setCell (gr_refl _ _) (.inl rfl) _⟩
  · obtain ⟨b, o, rfl, hbs, hc⟩ := hz (by omega)
    have hi0 : 0 ≤ k % (len : Int) := Int.emod_nonneg _ (by omega)
    have hi1 : k % (len : Int) < len := Int.emod_lt_of_pos _ (by omega)
    obtain ⟨z, hcz⟩ := hc (k % (len : Int)).toNat (by omega)
    have h0' : ((len : Int) == 0) = false := by simpa using h0
    have HB := Lib.hid hb; clear hb
    have HC := Lib.hid hc; clear hc hz
    have hne : b ≠ sb := by omega
    go_enter Tryz.func29, Tryz.ntmps29
    go_wp2_with fail
    go_quiet (fail)
    go_wp2_with fail
    go_quiet (fail)
    go_wp2_with (go_at_call 78; refine (below_any _ _ _ (by omega) (by omega)).mono ?_; rintro e w' ⟨r, hr1, hr2, rfl, rfl⟩)
    go_ret
    have hb2 := (HB.out.set_ 1 (.int .i64 (k + 1)))
    refine ⟨_, rfl, ⟨_, by assumption, by omega, rfl⟩, ⟨_, len, cap, k + 1, by omega, by omega, by omega, hb2, fun h => ⟨b, o, rfl, hbs, fun i hi => ?_⟩⟩, gr_drewN (gr_setCell (gr_refl _ _) (.inl rfl) _) _⟩
    obtain ⟨z, hz⟩ := HC.out i hi
    exact ⟨z, (World.cell?_setCell_other w _ _ _ (fun e => by injection e; omega)).trans hz⟩

def BoolAny (v : Value) (_ : World) : Prop := ∃ b : Bool, v = .bool b

set_option maxHeartbeats 1000000 in
theorem range_any (sb : Nat) (m lo hi : Int) (w : World) (hs : Str w sb m) (hm : m ≤ 1152921504606846976) (h1 : -1152921504606846976 ≤ lo) (h2 : lo ≤ hi) (h3 : hi ≤ 1152921504606846976) :
    Calls Tryz.prog 75 #[.pointer (some ⟨sb, 0, none⟩), .int .i64 lo, .int .i64 hi] w (Drawn sb (m + 1) (IntIn lo hi) w) := by
  have H := Lib.hid hs; clear hs
  go_enter Tryz.func75, Tryz.ntmps75
  go_wp2_with (go_at_call 29; refine (next_any sb m _ _ H.out hm (by omega) (by omega)).mono ?_; rintro e w' ⟨v, rfl, ⟨r, hr1, hr2, rfl⟩, hs', hg⟩)
  go_ret
  exact ⟨_, rfl, ⟨lo + r, by omega, by omega, rfl⟩, hs', hg⟩

set_option maxHeartbeats 1000000 in
theorem flip_any (sb : Nat) (m n : Int) (w : World) (hs : Str w sb m) (hm : m ≤ 1152921504606846976) (hn : 1 ≤ n) (hn2 : n ≤ 4611686018427387904) :
    Calls Tryz.prog 28 #[.pointer (some ⟨sb, 0, none⟩), .int .i64 n] w (Drawn sb (m + 1) BoolAny w) := by
  have H := Lib.hid hs; clear hs
  go_enter Tryz.func28, Tryz.ntmps28
  go_wp2_with (go_at_call 29; refine (next_any sb m _ _ H.out hm (by omega) (by omega)).mono ?_; rintro e w' ⟨v, rfl, ⟨r, hr1, hr2, rfl⟩, hs', hg⟩)
  go_ret
  exact ⟨_, rfl, ⟨_, rfl⟩, hs', hg⟩

/-- One of the numbers of a list. -/
def IntOf (l : List Int) (v : Value) (_ : World) : Prop := ∃ r : Int, r ∈ l ∧ v = .int .i64 r

set_option maxHeartbeats 1000000 in
theorem pick_any (sb : Nat) (m : Int) (g n : Nat) (l : List Int) (w : World) (hs : Str w sb m) (hm : m ≤ 1152921504606846976) (hr : Blk w g 3 (l.map (Value.int .i64)).toArray) (hg : g ≠ sb) (hn : l.length = n) (h0 : 1 ≤ n) (h1 : n ≤ 4611686018427387904) :
    Calls Tryz.prog 37 #[.pointer (some ⟨sb, 0, none⟩), .slice (some ⟨g, 0, none⟩) n n] w (Drawn sb (m + 1) (IntOf l) w) := by
  have H := Lib.hid hs; clear hs
  have HR := Lib.hid hr; clear hr
  have HN := Lib.hid hn; clear hn
  go_enter Tryz.func37, Tryz.ntmps37
  go_wp2_with fail
  refine (next_any sb m _ _ H.out hm (by omega) (by omega)).mono ?_
  rintro e w' ⟨v, rfl, ⟨r, hr1, hr2, rfl⟩, hs', hg'⟩
  have hlt : r.toNat < l.length := by rw [HN.out]; omega
  have hc : w'.cell? ⟨g, r.toNat, none⟩ = some (.int .i64 l[r.toNat]) := by
    rw [(HR.out.grown hg' (by simpa using hg)).cell]; simp [hlt]
  have H' := Lib.hid hs'; clear hs'
  have HG := Lib.hid hg'; clear hg'
  have hmem : l[r.toNat] ∈ l := List.getElem_mem _
  go_wp2_with fail
  go_ret
  exact ⟨_, rfl, ⟨_, hmem, rfl⟩, H'.out, HG.out⟩
/-- The same where the numbers were just laid out for the call. -/
theorem pick_new (sb : Nat) (m : Int) (l : List Int) (W : World) (hs : Str W sb m) (hm : m ≤ 1152921504606846976) {g n : Nat} {cs : Array Value} (hg : W.heap.size = g) (hcs : cs = (l.map (Value.int .i64)).toArray) (hn : l.length = n) (h0 : 1 ≤ n) (h1 : n ≤ 4611686018427387904) :
    Calls Tryz.prog 37 #[.pointer (some ⟨sb, 0, none⟩), .slice (some ⟨g, 0, none⟩) n n] (W.alloc (.cells cs 3)) (Drawn sb (m + 1) (IntOf l) W) := by
  subst hcs; subst hg
  refine (pick_any sb m _ n l _ (hs.alloc _) hm (Blk.new _ _ _) (by have := hs.lt; omega) hn h0 h1).mono ?_
  rintro e w' ⟨v, rfl, hv, hs', hg'⟩
  exact ⟨v, rfl, hv, hs', gr_same (gr_alloc (gr_refl _ _) _) hg'⟩
end
end Go.Proofs.YtdhaelpacffnlaaGreatDoor
/- What the laws share: the numbers that came in, as a stream. Conditions: none. -/
namespace Go.Proofs.YtdhaelpacffnlaaGreatDoor
section
open Go.RowKit

/-- What a walk is told of a slice of integers that came in: it is nil; or it leads to a row of 'cap' cells, the numbers 'zs'. -/
def IsRow (k : IntKind) (w : World) (a : Option Addr) (len cap : Nat) (zs : List Int) : Prop :=
  (a = none ∧ len = 0 ∧ cap = 0 ∧ zs = []) ∨
  ∃ x, a = some x ∧ len ≤ cap ∧ cap ≤ maxLen ∧ zs.length = cap ∧ (∀ i, i < zs.length → w.cell? (x.add i) = some (.int k (zs.getD i 0))) ∧ ∀ n ∈ zs, (Lit.int k n).wf = true

theorem addr_none {w : World} {x : Addr} {v : Value} (h : w.cell? x = some v) : x.spot = none := by
  unfold World.cell? at h
  split at h
  · split at h
    · cases h
    · rename_i hs; simpa using hs
  · cases h

/-- The stream, as it is made: nothing has been drawn. -/
theorem str_new {w : World} {a : Option Addr} {len cap : Nat} {zs : List Int} (h : IsRow .i64 w a len cap zs) : Str (w.alloc (.cells #[.slice a len cap, .int .i64 0] 25)) w.heap.size 0 := by
  refine ⟨a, len, cap, 0, by omega, by omega, ?_, Blk.new _ _ _, fun hl => ?_⟩
  · rcases h with ⟨_, rfl, _, _⟩ | ⟨x, _, h1, h2, _⟩
    · omega
    · unfold maxLen at h2; omega
  · rcases h with ⟨_, rfl, _, _⟩ | ⟨x, rfl, h1, h2, h3, h4, _⟩
    · omega
    · have h0 := h4 0 (by omega)
      have hx : x = ⟨x.block, x.off, none⟩ := by
        have := addr_none (show w.cell? x = some _ from by simpa [Addr.add] using h0)
        cases x; simp_all
      have hb : x.block < w.heap.size := World.block_lt_of_cell? w x (show w.cell? x = some _ from by simpa [Addr.add] using h0)
      refine ⟨x.block, x.off, by rw [← hx], hb, fun i hi => ⟨zs.getD i 0, ?_⟩⟩
      have hi' := h4 i (by omega)
      rw [hx, add_mk] at hi'
      exact (World.cell?_alloc_lt _ _ ⟨x.block, x.off + i, none⟩ hb).trans hi'

/-- What a law owes of old memory: only the stream's own block, which is new, has been written. -/
theorem below_of_gr {w w' : World} (h : w.grownBy w' (some w.heap.size)) : Below w.heap.size w w' :=
  ⟨h.os, h.tape, h.output, h.size, fun k hk => h.block k hk (fun e => by injection e with e; omega)⟩
end
end Go.Proofs.YtdhaelpacffnlaaGreatDoor
/- Strings as lists of bytes. Conditions: none. -/
namespace Go.Proofs.YtdhaelpacffnlaaGreatDoor
section
/-- The bytes of a string, as numbers. -/
def nb (s : ByteArray) : List Nat := s.data.toList.map UInt8.toNat
/-- A string of bytes. -/
def strN (l : List Nat) : ByteArray := ⟨(l.map Nat.toUInt8).toArray⟩
theorem nb_len (s : ByteArray) : (nb s).length = s.size := by unfold nb; rw [List.length_map]; rfl
theorem nb_lt {s : ByteArray} {b : Nat} (h : b ∈ nb s) : b < 256 := by
  obtain ⟨u, _, rfl⟩ := List.mem_map.1 h
  exact u.toNat_lt
theorem strN_nb (s : ByteArray) : strN (nb s) = s := by
  cases s with
  | mk d =>
    unfold strN nb
    rw [List.map_map, show (Nat.toUInt8 ∘ UInt8.toNat) = id from funext fun u => by simp, List.map_id]
theorem nb_strN {l : List Nat} (h : ∀ b ∈ l, b < 256) : nb (strN l) = l := by
  unfold nb strN
  simp only [List.map_map]
  conv => rhs; rw [← List.map_id l]
  apply List.map_congr_left
  intro b hb
  simp [Nat.mod_eq_of_lt (h b hb)]
theorem nb_inj {s t : ByteArray} (h : nb s = nb t) : s = t := by rw [← strN_nb s, h, strN_nb]
theorem nb_eq {s : ByteArray} {l : List Nat} (h : nb s = l) : s = strN l := by rw [← h, strN_nb]
theorem nb_append (s t : ByteArray) : nb (s ++ t) = nb s ++ nb t := by
  unfold nb
  rw [ByteArray.data_append, Array.toList_append, List.map_append]
theorem nb_extract (s : ByteArray) (a b : Nat) : nb (s.extract a b) = ((nb s).take b).drop a := by
  unfold nb
  rw [ByteArray.data_extract, Array.toList_extract, ← List.map_take, ← List.map_drop]
  rw [List.extract_eq_take_drop, List.drop_take]
theorem nb_get {s : ByteArray} {k : Nat} (h : k < s.size) : s[k].toNat = (nb s).getD k 0 := by
  unfold nb
  rw [List.getD_eq_getElem?_getD, List.getElem?_map]
  have hk : k < s.data.toList.length := by rw [Array.length_toList]; exact h
  rw [List.getElem?_eq_getElem hk]
  rfl
theorem strN_append (a b : List Nat) : strN a ++ strN b = strN (a ++ b) := by
  unfold strN
  apply ByteArray.ext
  rw [ByteArray.data_append]
  simp
theorem strN_size (l : List Nat) : (strN l).size = l.length := by simp [strN, ByteArray.size]
theorem strN_extract (l : List Nat) (a b : Nat) : (strN l).extract a b = strN ((l.take b).drop a) := by
  unfold strN
  apply ByteArray.ext
  rw [ByteArray.data_extract]
  apply Array.ext'
  simp [List.extract_eq_take_drop, List.map_drop, List.map_take, List.drop_take]
theorem str_nil {t : ByteArray} (h : nb t = []) : t.toList = [] := by
  rw [ByteArray.toList_eq]
  unfold nb at h
  simpa using h
theorem str_full {t : ByteArray} (h : ¬ nb t = []) : (t.toList == []) = false ∧ t.toList.isEmpty = false ∧ 0 < t.size := by
  have h1 : ¬ t.toList = [] := fun e => h (by unfold nb; rw [← ByteArray.toList_eq, e]; rfl)
  refine ⟨by rw [beq_eq_false_iff_ne]; exact h1, by rw [List.isEmpty_eq_false_iff]; exact h1, ?_⟩
  rcases Nat.eq_zero_or_pos t.size with h2 | h2
  · exact absurd (List.eq_nil_of_length_eq_zero (by rw [nb_len]; exact h2)) h
  · exact h2
end
end Go.Proofs.YtdhaelpacffnlaaGreatDoor
/- A string as one cell; is a string among some. Conditions: none. -/
namespace Go.Proofs.YtdhaelpacffnlaaGreatDoor
section
def srow (s : ByteArray) : List Value := [.string s]
theorem srow_len (s : ByteArray) : (srow s).length = 1 := rfl
/-- Is a string among some? -/
def memS (L : List ByteArray) (k : ByteArray) : Bool := L.any (fun x => nb x == nb k)
theorem memS_nil (k : ByteArray) : memS [] k = false := rfl
theorem memS_snoc (L : List ByteArray) (x k : ByteArray) : memS (L ++ [x]) k = (memS L k || nb x == nb k) := by
  unfold memS; rw [List.any_append]; simp
end
end Go.Proofs.YtdhaelpacffnlaaGreatDoor
/- Laws on slices that a call makes itself: append of one element, of a slice; make; stores. Over any program. Conditions: none. -/
namespace Go.Proofs.YtdhaelpacffnlaaGreatDoor
section
open Go.RowKit

/-- Slice type t has elements of type e, of so many cells and bytes, with the zero z. -/
structure ElemT (P : Program) (t e : TypeId) (size bytes : Nat) (z : Value) : Prop where
  ht : P.underlying t = some (.slice e)
  hi : ∃ i, P.info? e = some i ∧ i.zero = some z ∧ i.size = size ∧ i.bytes = bytes
  hzs : z.cells.size = size
  hsz : 0 < size

theorem elemT_of {P : Program} {t e : TypeId} {size bytes : Nat} {z : Value} (ht : P.underlying t = some (.slice e)) (h : (P.info? e).map (fun i => (i.zero, i.size, i.bytes)) = some (some z, size, bytes)) (hzs : z.cells.size = size) (hsz : 0 < size) : ElemT P t e size bytes z := by
  obtain ⟨i, h1, h2, h3, h4⟩ := info_parts h
  exact ⟨ht, ⟨i, h1, h2, h3, h4⟩, hzs, hsz⟩

/-- The block of a slice's address. -/
def blkOf (A : Option Addr) : Option Nat := A.map (·.block)

/-- A slice of the call's own: nil, or at the head of an array from block 'lo' on, whose first cells are xs. -/
def Own (w : World) (lo : Nat) (e : TypeId) (size : Nat) (A : Option Addr) (n c : Nat) (xs : List Value) : Prop := w.ownsRow lo e size (.slice A n c) n xs

section
variable {w w' : World} {lo size n c : Nat} {e : TypeId} {A : Option Addr} {xs : List Value}
theorem ownBlock_slice (A : Option Addr) (n c : Nat) : (Value.slice A n c).ownBlock = blkOf A := by cases A <;> rfl
theorem Own.nil (w : World) (lo : Nat) (e : TypeId) (size : Nat) : Own w lo e size none 0 0 [] := World.ownsRow_nil w lo e size
theorem Own.lit (w : World) (e : TypeId) (size : Nat) (cs : List Value) (n : Nat) (hm : n ≤ maxLen) (hs : cs.length = n * size) : Own (w.alloc (.cells cs.toArray e)) w.heap.size e size (some ⟨w.heap.size, 0, none⟩) n n cs := by
  have h := World.ownsRow_lit (base := w.heap.size) (e := e) (size := size) w cs.toArray n (Nat.le_refl _) hm (by simpa using hs)
  simpa [Own] using h
theorem Own.len (h : Own w lo e size A n c xs) : xs.length = n * size := h.1
theorem Own.cap (h : Own w lo e size A n c xs) : n ≤ c := by
  rcases h.2 with ⟨hv, rfl⟩ | ⟨g, cap, cur, hv, _, _, hn, _⟩
  · exact Nat.zero_le _
  · injection hv with _ _ h3; omega
theorem Own.lt (h : Own w lo e size A n c xs) {g : Nat} (hg : blkOf A = some g) : lo ≤ g ∧ g < w.heap.size := World.ownsRow.lt h g (by rw [ownBlock_slice]; exact hg)
theorem Own.kept (h : Own w lo e size A n c xs) {row : Option Nat} (hg : w.grownBy w' row) (hne : ∀ g, row = some g → blkOf A ≠ some g) : Own w' lo e size A n c xs := by
  refine World.ownsRow.kept h hg ?_
  rw [ownBlock_slice]
  cases hb : blkOf A with
  | none => exact .inl rfl
  | some g => exact .inr (fun e => hne g e.symm hb)
theorem Own.below (h : Own w lo e size A n c xs) (hb : Below w.heap.size w w') : Own w' lo e size A n c xs := h.kept (gr_below hb none) (fun _ e => by cases e)
theorem Own.alloc (h : Own w lo e size A n c xs) (o : Obj) : Own (w.alloc o) lo e size A n c xs := World.ownsRow.alloc h o
theorem Own.drew (h : Own w lo e size A n c xs) : Own w.drew lo e size A n c xs := h
theorem Own.drewN (h : Own w lo e size A n c xs) (k : Nat) : Own (w.drewN k) lo e size A n c xs := h
theorem Own.lower {lo' : Nat} (h : Own w lo e size A n c xs) (hl : lo' ≤ lo) : Own w lo' e size A n c xs := by
  refine ⟨h.1, ?_⟩
  rcases h.2 with h2 | ⟨g, cap, cur, hv, hg, r⟩
  · exact .inl h2
  · exact .inr ⟨g, cap, cur, hv, Nat.le_trans hl hg, r⟩
theorem Own.far (h : Own w lo e size A n c xs) {p : Addr} (hp : blkOf A ≠ some p.block) (u : Value) : Own (w.setCell p u) lo e size A n c xs :=
  h.kept (row := some p.block) (gr_setCell (gr_refl _ _) (.inl rfl) u) (fun g hg => by injection hg with hg; subst hg; exact hp)
theorem Own.reads (h : Own w lo e size A n c xs) : Reads w lo size A n c xs := Reads.of_own h h.cap
theorem Own.blk_ne (h : Own w lo e size A n c xs) {g : Nat} {t : TypeId} {cs : Array Value} (hg : Blk w g t cs) (hne : e ≠ t) : blkOf A ≠ some g := by
  rcases h.2 with ⟨hv, _⟩ | ⟨g', cap, cur, hv, _, hh, _⟩
  · injection hv with h1; subst h1; simp [blkOf]
  · injection hv with h1; subst h1
    intro he
    have : g' = g := by simpa [blkOf] using he
    subst this
    unfold Blk at hg
    rw [hh] at hg
    injection hg with hg
    injection hg with _ ht
    exact hne ht
theorem Own.ne {lo' size' n' c' : Nat} {e' : TypeId} {A' : Option Addr} {xs' : List Value} (h : Own w lo e size A n c xs) (h' : Own w lo' e' size' A' n' c' xs') (hne : e ≠ e') {g : Nat} (hg : blkOf A = some g) : blkOf A' ≠ some g := by
  rcases h'.2 with ⟨hv, _⟩ | ⟨g', cap, cur, hv, _, hh, _⟩
  · injection hv with h1; subst h1; simp [blkOf]
  · injection hv with h1; subst h1
    intro he
    have : g' = g := by simpa [blkOf] using he
    subst this
    exact h.blk_ne (cs := cur) hh hne hg
theorem Own.prefix_ (h : Own w lo e size A n c xs) (i : Nat) (hi : i ≤ n) : Own w lo e size A i c (xs.take (i * size)) := by
  have hle : i * size ≤ n * size := Nat.mul_le_mul_right _ hi
  refine ⟨by rw [List.length_take, h.1]; omega, ?_⟩
  rcases h.2 with ⟨hv, h0⟩ | ⟨g, cap, cur, hv, hg, hh, hnc, hcm, hsz, htk⟩
  · injection hv with e1 e2 e3; subst e1; subst e3
    have : i = 0 := by omega
    subst this
    exact .inl ⟨rfl, rfl⟩
  · injection hv with e1 e2 e3; subst e1; subst e3
    refine .inr ⟨g, c, cur, rfl, hg, hh, by omega, hcm, hsz, ?_⟩
    rw [← htk, List.take_take, Nat.min_eq_left hle]
/-- The growth of a slice of the call's own, as seen from the call's start. -/
theorem gr_own {a b c' : World} {row : Option Nat} (h : a.grownBy b row) (ho : Own b lo e size A n c xs) (hlo : a.heap.size ≤ lo) (hg : b.grownBy c' (blkOf A)) : a.grownBy c' row :=
  gr_trans h hg (fun _ hb => .inr (Nat.le_trans hlo (ho.lt hb).1))
theorem Own.cell {g : Nat} (h : Own w lo e size (some ⟨g, 0, none⟩) n c xs) {j : Nat} (hj : j < n * size) : w.cell? ⟨g, j, none⟩ = xs[j]? := World.ownsRow.cellAt h j hj
theorem Own.frozen {g : Nat} (h : Own w lo e size (some ⟨g, 0, none⟩) n c xs) (j : Nat) : w.frozen? ⟨g, j, none⟩ = false := World.ownsRow.frozenAt h j
theorem Own.pos (h : Own w lo e size A n c xs) (hn : 0 < n) : ∃ g, A = some ⟨g, 0, none⟩ ∧ lo ≤ g ∧ g < w.heap.size := by
  rcases h.2 with ⟨_, h0⟩ | ⟨g, cap, cur, hv, hg, hh, _⟩
  · omega
  · injection hv with h1; subst h1
    exact ⟨g, rfl, hg, Blk.lt (t := e) (cs := cur) hh⟩
theorem Own.stored {g : Nat} (h : Own w lo e size (some ⟨g, 0, none⟩) n c xs) (j : Nat) (u : Value) : Own (w.setCell ⟨g, j, none⟩ u) lo e size (some ⟨g, 0, none⟩) n c (xs.set j u) := (World.ownsRow.stored h j u).1
end

/-- What an append leaves: the slice, owned; only its own array has been written. -/
def Appended (w : World) (lo : Nat) (e : TypeId) (size : Nat) (A : Option Addr) (A' : Option Addr) (n' c' : Nat) (xs' : List Value) (w' : World) : Prop :=
  Own w' lo e size A' n' c' xs' ∧ w.grownBy w' (blkOf A) ∧ ∀ g, blkOf A' = some g → blkOf A = some g ∨ w.heap.size ≤ g
theorem Appended.refl {w : World} {lo : Nat} {e : TypeId} {size : Nat} {A : Option Addr} {n c : Nat} {xs : List Value} (h : Own w lo e size A n c xs) : Appended w lo e size A A n c xs w :=
  ⟨h, gr_refl _ _, fun _ e => .inl e⟩
theorem Appended.then {w wr wx w1 : World} {lo : Nat} {e : TypeId} {size : Nat} {A A' A1 : Option Addr} {n' c' n1 c1 : Nat} {xs' xs1 : List Value} (h : Appended w lo e size A A' n' c' xs' wr) (hg : wr.grownBy wx none)
    (h1 : Appended wx lo e size A' A1 n1 c1 xs1 w1) : Appended w lo e size A A1 n1 c1 xs1 w1 := by
  obtain ⟨_, h2, h3⟩ := h
  obtain ⟨k1, k2, k3⟩ := h1
  refine ⟨k1, gr_trans (gr_none h2 hg) k2 (fun g e => (h3 g e).elim (fun q => .inl q.symm) .inr), fun g e => ?_⟩
  rcases k3 g e with k4 | k4
  · exact h3 g k4
  · exact .inr (by have := h2.size; have := hg.size; omega)
/-- An append as seen from a call that made the slice itself. -/
theorem Appended.gr {a w w' : World} {row : Option Nat} {lo : Nat} {e : TypeId} {size : Nat} {A A' : Option Addr} {n c n' c' : Nat} {xs xs' : List Value} (h : Appended w lo e size A A' n' c' xs' w') (hg : a.grownBy w row) (ho : Own w lo e size A n c xs) (hlo : a.heap.size ≤ lo) : a.grownBy w' row :=
  gr_own hg ho hlo h.2.1

section
variable {P : Program} (w : World)

theorem run_append_of_nil (base : Nat) (t ty e : TypeId) (i : TypeInfo) (size : Nat) (ht : P.underlying t = some (.slice e)) (hi : P.info? e = some i)
    (v : Value) (n : Nat) (xs : List Value) (hown : w.ownsRow base e size v n xs) (c : Nat) : (Builtin.append_ #[t, t] ty #[v, .slice none 0 c]).run P w = .ok v w := by
  rcases hown.2 with ⟨rfl, rfl⟩ | ⟨g, cap, cur, rfl, _, _, hnc, _⟩
  · simp [Builtin.append_, run_underlying ht, sizeOf, typeInfo, hi, Builtin.lenOf, Builtin.firstCells]
  · simp [Builtin.append_, run_underlying ht, sizeOf, typeInfo, hi, Builtin.lenOf, Builtin.firstCells, hnc, storeCells]

theorem run_app {t e : TypeId} {size bytes : Nat} {z : Value} (E : ElemT P t e size bytes z) (ty : TypeId) (lo : Nat) (A : Option Addr) (n c : Nat) (xs : List Value) (hown : Own w lo e size A n c xs)
    (lo' : Nat) (A' : Option Addr) (m c' : Nat) (news : List Value) (hr : Reads w lo' size A' m c' news) (h1 : ∀ u ∈ news, u.oneCell' = true)
    (h63 : n + m ≤ maxLen) (hbytes : (n + m) * bytes ≤ 140737488355328) (hlo : lo ≤ w.heap.size) :
    ∃ A1 c1 w', (Builtin.append_ #[t, t] ty #[.slice A n c, .slice A' m c']).run P w = .ok (.slice A1 (n + m) c1) w' ∧ Appended w lo e size A A1 (n + m) c1 (xs ++ news) w' := by
  obtain ⟨ht, ⟨i, hi, hz, hsize, hby⟩, hzs, hsz⟩ := E
  have key : ∃ v' w', (Builtin.append_ #[t, t] ty #[.slice A n c, .slice A' m c']).run P w = .ok v' w' ∧ w'.ownsRow lo e size v' (n + m) (xs ++ news) ∧ w.grownBy w' (blkOf A) ∧
      (v'.ownBlock = blkOf A ∨ v'.ownBlock = some w.heap.size) := by
    rcases A' with _ | ad
    · have hm : m = 0 := by
        rcases Nat.eq_zero_or_pos m with h0 | h0
        · exact h0
        · obtain ⟨g, o, h, _⟩ := hr.2.2 h0
          cases h
      subst hm
      have hn : news = [] := List.eq_nil_of_length_eq_zero (by simpa using hr.1)
      subst hn
      exact ⟨_, w, run_append_of_nil w lo t ty e i size ht hi _ n xs hown c', by simpa [Own] using hown, World.grownBy.refl w _, .inl (ownBlock_slice _ _ _)⟩
    · have hcells : ∀ j u, news[j]? = some u → w.cell? (ad.add j) = some u := by
        intro j u hu
        rcases Nat.eq_zero_or_pos m with h0 | h0
        · subst h0
          have hn : news = [] := List.eq_nil_of_length_eq_zero (by simpa using hr.1)
          subst hn
          simp at hu
        · obtain ⟨g, o, h, _, _, hc⟩ := hr.2.2 h0
          injection h with h
          subst h
          rw [add_mk]
          exact hc j u hu
      obtain ⟨v', w', hrun, h2, h3, _, h5⟩ := run_append_own_at (P := P) w lo t ty e i z size bytes ht hi hz hsize hby hzs hsz _ n xs hown ad m c' news hr.1 hcells h1 h63 hbytes hlo
      rw [ownBlock_slice] at h3 h5
      exact ⟨v', w', hrun, h2, h3, h5⟩
  obtain ⟨v', w', hrun, h2, h3, h4⟩ := key
  rcases h2.2 with ⟨rfl, h0⟩ | ⟨g, cap, cur, rfl, _⟩
  · rw [h0] at h2
    refine ⟨none, 0, w', by rw [hrun, h0], ?_, h3, fun g e => by cases e⟩
    rw [h0]; exact h2
  · refine ⟨some ⟨g, 0, none⟩, cap, w', hrun, h2, h3, fun g' e => ?_⟩
    rw [ownBlock_slice] at h4
    rcases h4 with h4 | h4
    · exact .inl (h4 ▸ e)
    · rw [h4] at e; injection e with e; exact .inr (by omega)

theorem wp_app {o : Oper} {a : Act} {K : Act → World → Prop} {Q : Exit → Act → World → Prop} (s x : Operand) {t e : TypeId} {size bytes : Nat} {z : Value} (E : ElemT P t e size bytes z)
    (ho : o.op = .call { callee := .builtin .append, args := #[s, x], argTypes := #[t, t] })
    (lo : Nat) (A : Option Addr) (n c : Nat) (xs : List Value) (hs : a.eval s = .slice A n c) (hown : Own w lo e size A n c xs)
    (lo' : Nat) (A' : Option Addr) (m c' : Nat) (news : List Value) (hx : a.eval x = .slice A' m c') (hr : Reads w lo' size A' m c' news) (h1 : ∀ u ∈ news, u.oneCell' = true)
    (h63 : n + m ≤ maxLen) (hbytes : (n + m) * bytes ≤ 140737488355328) (hlo : lo ≤ w.heap.size)
    (h : ∀ A1 c1 w', Appended w lo e size A A1 (n + m) c1 (xs ++ news) w' → K (a.put o.dst (.slice A1 (n + m) c1)) w') : o.wp P a w K Q := by
  obtain ⟨A1, c1, w', hrun, h2⟩ := run_app (P := P) w E o.type lo A n c xs hown lo' A' m c' news hr h1 h63 hbytes hlo
  unfold Oper.wp execOp
  simp only [ho, resolve, invoke, builtin, Sem.run_bind, Sem.run_pure, Result.andThen_ok, List.map_toArray, List.map_cons, List.map_nil, hs, hx, hrun]
  exact h A1 c1 w' h2

/-- 'append(s, x...)' in a plain region. -/
theorem wpl_app {ops : Array Oper} {rest : List Oper} {o : Oper} {a : Act} {Q : Exit → Act → World → Prop} (hgd : o.guard = none) (s x : Operand) {t e : TypeId} {size bytes : Nat} {z : Value} (E : ElemT P t e size bytes z)
    (ho : o.op = .call { callee := .builtin .append, args := #[s, x], argTypes := #[t, t] })
    (lo : Nat) (A : Option Addr) (n c : Nat) (xs : List Value) (hs : a.eval s = .slice A n c) (hown : Own w lo e size A n c xs)
    (lo' : Nat) (A' : Option Addr) (m c' : Nat) (news : List Value) (hx : a.eval x = .slice A' m c') (hr : Reads w lo' size A' m c' news) (h1 : ∀ u ∈ news, u.oneCell' = true)
    (h63 : n + m ≤ maxLen) (hbytes : (n + m) * bytes ≤ 140737488355328) (hlo : lo ≤ w.heap.size)
    (h : ∀ A1 c1 w', Appended w lo e size A A1 (n + m) c1 (xs ++ news) w' → wpList P ops Q rest (a.put o.dst (.slice A1 (n + m) c1)) w') : wpList P ops Q (o :: rest) a w :=
  wpList_plain hgd fun _ hK => wp_app w s x E ho lo A n c xs hs hown lo' A' m c' news hx hr h1 h63 hbytes hlo fun A1 c1 w' h2 => hK _ _ (h A1 c1 w' h2)

/-- 'append(s, x...)' in a region that draws its order. -/
theorem step_app {ops : Array Oper} {o : Oper} {a : Act} {K : Act → World → Prop} {Q : Exit → Act → World → Prop} {E' : Prop} (hgd : o.guard = none) (s x : Operand) {t e : TypeId} {size bytes : Nat} {z : Value} (E : ElemT P t e size bytes z)
    (ho : o.op = .call { callee := .builtin .append, args := #[s, x], argTypes := #[t, t] })
    (lo : Nat) (A : Option Addr) (n c : Nat) (xs : List Value) (hs : a.eval s = .slice A n c) (hown : Own w lo e size A n c xs)
    (lo' : Nat) (A' : Option Addr) (m c' : Nat) (news : List Value) (hx : a.eval x = .slice A' m c') (hr : Reads w lo' size A' m c' news) (h1 : ∀ u ∈ news, u.oneCell' = true)
    (h63 : n + m ≤ maxLen) (hbytes : (n + m) * bytes ≤ 140737488355328) (hlo : lo ≤ w.heap.size)
    (h : ∀ A1 c1 w', Appended w lo e size A A1 (n + m) c1 (xs ++ news) w' → K (a.put o.dst (.slice A1 (n + m) c1)) w') :
    if Region.wanted o (yielded ops a.tmps) = true then Oper.wp P o a w K Q else E' := by
  have hw : Region.wanted o (yielded ops a.tmps) = true := by simp [Region.wanted, hgd]
  rw [if_pos hw]
  exact wp_app w s x E ho lo A n c xs hs hown lo' A' m c' news hx hr h1 h63 hbytes hlo h
end

theorem one_ints (k : IntKind) (l : List Int) : ∀ u ∈ l.map (Value.int k), u.oneCell' = true := by
  intro u hu
  obtain ⟨x, _, rfl⟩ := List.mem_map.1 hu
  rfl
/-- The one new element of 'append(s, v)' lies in a block of its own. -/
theorem Reads.one (w : World) (t : TypeId) (cs : List Value) (size : Nat) (h : cs.length = size) : Reads (w.alloc (.cells cs.toArray t)) w.heap.size size (some ⟨w.heap.size, 0, none⟩) 1 1 cs :=
  ⟨by simp [h], Nat.le_refl _, fun _ => ⟨_, 0, rfl, Nat.le_refl _, by simp, fun j u hu => by
    rw [Nat.zero_add, (Blk.new w t cs.toArray).cell]; simpa using hu⟩⟩
theorem Reads.blk {w : World} {g : Nat} {t : TypeId} {cs : List Value} (hb : Blk w g t cs.toArray) (size n : Nat) (h : cs.length = n * size) : Reads w g size (some ⟨g, 0, none⟩) n n cs :=
  ⟨h, Nat.le_refl _, fun _ => ⟨g, 0, rfl, Nat.le_refl _, hb.lt, fun j u hu => by
    rw [Nat.zero_add, hb.cell]; simpa using hu⟩⟩
/-- 'make([]T, n)' of one-cell elements. -/
theorem run_make1 {P : Program} {t e : TypeId} {bytes : Nat} {z : Value} (E : ElemT P t e 1 bytes z) (n : Nat) (hz : z.cells = #[z]) (hb : bytes * n ≤ 281474976710656) (h63 : n ≤ 9223372036854775807) (w : World) :
    (Instr.makeSlice t (.int .i64 (n : Int)) (.int .i64 (n : Int))).run P w = .ok (.slice (some ⟨w.heap.size, 0, none⟩) n n) (w.alloc (.cells (Array.replicate n z) e)) := by
  obtain ⟨ht, ⟨i, hi, hz', hs, hby⟩, _, _⟩ := E
  have hb' : (i.bytes : Int) * (n : Int) ≤ 281474976710656 := by
    have h : ((i.bytes * n : Nat) : Int) ≤ 281474976710656 := by rw [hby]; omega
    rwa [Int.natCast_mul] at h
  have hr := run_make (P := P) w t e i z ht hi hz' .i64 .i64 n n (by omega) (by omega) hb' (by omega)
  simp only [Int.toNat_natCast] at hr
  have hc : madeCells z.cells (n * i.size) = Array.replicate n z := by
    rw [hs, Nat.mul_one, hz]
    apply Array.ext'
    rw [toList_madeCells_one, Array.toList_replicate]
  rw [hc] at hr
  exact hr
theorem Own.made (w : World) (e : TypeId) (z : Value) (n : Nat) (h : n ≤ maxLen) : Own (w.alloc (.cells (Array.replicate n z) e)) w.heap.size e 1 (some ⟨w.heap.size, 0, none⟩) n n (List.replicate n z) := by
  have h := Own.lit w e 1 (List.replicate n z) n h (by simp)
  simpa using h
theorem Own.made' (w : World) (e : TypeId) (z : Value) (n g : Nat) (h : n ≤ maxLen) (hg : w.heap.size = g) : Own (w.alloc (.cells (Array.replicate n z) e)) g e 1 (some ⟨g, 0, none⟩) n n (List.replicate n z) := by
  subst hg; exact Own.made w e z n h
theorem size_setCell (w : World) (p : Addr) (v : Value) : (w.setCell p v).heap.size = w.heap.size := by simp [World.setCell]
theorem zeroCells_one (z : Value) (n : Nat) : Builtin.zeroCells #[z] n = Array.replicate n z := by
  apply Array.ext'
  simp [Builtin.zeroCells, Nat.mod_one, List.map_const']

/-- 'append(s, make([]T, m)...)' onto a slice of the call's own, of one-cell elements. -/
theorem run_app_zeros {P : Program} {t tn e : TypeId} {bytes : Nat} {z : Value} (w : World) (E : ElemT P t e 1 bytes z) (hzc : z.cells = #[z]) (hz1 : z.oneCell' = true) {kn : IntKind} (htn : P.underlying tn = some (.int kn)) (ty : TypeId) (kq : IntKind) (lo : Nat) (A : Option Addr) (n c : Nat) (xs : List Value) (hown : Own w lo e 1 A n c xs)
    (m : Nat) (hm : 0 < m) (h63 : n + m ≤ maxLen) (hbytes : (n + m) * bytes ≤ 140737488355328) (hlo : lo ≤ w.heap.size) :
    ∃ A1 c1 w', (Builtin.append_ #[t, tn] ty #[.slice A n c, .int kq (m : Int)]).run P w = .ok (.slice A1 (n + m) c1) w' ∧ Appended w lo e 1 A A1 (n + m) c1 (xs ++ List.replicate m z) w' := by
  obtain ⟨ht, ⟨i, hi, hz, hsize, hby⟩, hzs, _⟩ := E
  subst hby
  have hs1 : 0 < i.size := by omega
  have hm63 : n + m ≤ 9223372036854775807 := by simp only [maxLen] at h63; omega
  have hmb : m * i.bytes ≤ 281474976710656 := by
    have : m * i.bytes ≤ (n + m) * i.bytes := Nat.mul_le_mul_right _ (by omega)
    omega
  have grown : ∀ (old : Nat), old < n + m → Own (w.drew.alloc (.cells (xs.toArray ++ Builtin.zeroCells z.cells m ++ Builtin.zeroCells z.cells (grownCap w (n + m) old e - (n + m))) e)) lo e 1 (some ⟨w.heap.size, 0, none⟩) (n + m) (grownCap w (n + m) old e) (xs ++ List.replicate m z) := by
    intro old ho
    have hge := grownCap_ge w (n + m) old e
    have hcm : grownCap w (n + m) old e ≤ maxLen := grownCap_le_maxLen w (n + m) old e h63
    have hlen := hown.1
    refine ⟨by simp; omega, .inr ⟨w.heap.size, _, _, rfl, hlo, heap_alloc_new w.drew _, hge, hcm, ?_, ?_⟩⟩
    · rw [hzc, zeroCells_one, zeroCells_one]
      simp; omega
    · rw [hzc, zeroCells_one, zeroCells_one]
      simp only [Array.toList_append, Array.toList_replicate, List.append_assoc]
      rw [← List.append_assoc, List.take_append_of_le_length (by simp; omega), List.take_of_length_le (by simp; omega)]
  have hgr : ∀ (o : Obj) (row : Option Nat), w.grownBy (w.drew.alloc o) row := fun o row => gr_alloc (gr_drew (gr_refl _ _)) o
  rcases hown.2 with ⟨hv, h0⟩ | ⟨g, cap, cur, hv, hbg, hg, hnc, hcm, hcs, htake⟩
  · injection hv with e1 e2 e3; subst e1; subst e3; subst h0
    have hx : xs = [] := List.eq_nil_of_length_eq_zero (by simpa using hown.1)
    subst hx
    have hr := Lib.run_append_nil_zeros (P := P) w t tn ty e i z kq kn ht htn hi hz m hm hs1 (by omega) hmb
    have hg0 := grown 0 (by omega)
    simp only [Nat.zero_add, List.nil_append, Array.empty_append] at hg0 ⊢
    refine ⟨_, _, _, hr, ?_, hgr _ _, fun g e => .inr ?_⟩
    · exact hg0
    · simp [blkOf] at e; omega
  · injection hv with e1 e2 e3; subst e1; subst e3
    by_cases hroom : n + m ≤ c
    · have hst := run_storeCells_at P g n e (List.replicate m z) 0 cur w hg (by simp; omega) (by intro v hv; rw [List.eq_of_mem_replicate hv]; exact hz1)
      simp only [Nat.add_zero] at hst
      have hw : IntKind.i64.wrap (m : Int) = m := by rw [IntKind.wrap_i64]; omega
      have hb1 : ¬ (281474976710656 < (m : Int) * (i.bytes : Int)) := by
        have h : ((m * i.bytes : Nat) : Int) ≤ 281474976710656 := by omega
        rw [Int.natCast_mul] at h
        omega
      have hm0 : ¬ m = 0 := by omega
      have hzv : (zeroValue e).run P w = .ok z w := by simp [zeroValue, typeInfo, hi, hz]
      refine ⟨some ⟨g, 0, none⟩, c, w.setRow g (cur.toList.take n ++ List.replicate m z ++ cur.toList.drop (n + (List.replicate m z).length)).toArray, ?_, ?_, ?_, fun g' e => .inl e⟩
      · have hneg : ¬ ((m : Int) < 0) := by omega
        have hns : ¬ (m * i.size = 0) := by rw [hsize]; omega
        simp [Builtin.append_, run_underlying ht, run_underlying htn, sizeOf, typeInfo, zeroValue, hi, hz, asInt, asIntOf, hw, hneg, hns, hb1, hroom]
        simp only [hsize, hzc, zeroCells_one, Array.toList_replicate, Nat.mul_one]
        rw [show (⟨g, 0, none⟩ : Addr).add n = ⟨g, n, none⟩ from by rw [add_mk, Nat.zero_add], hst]
        simp
      · refine ⟨by simp [hown.1], .inr ⟨g, c, _, rfl, hbg, setRow_heap w g cur _ e _ hg, hroom, hcm, ?_, ?_⟩⟩
        · simp; omega
        · have hl := hown.1
          simp only [Nat.mul_one] at htake hcs hl ⊢
          rw [htake, List.take_append_of_le_length (by simp; omega), List.take_of_length_le (by simp; omega)]
      · exact ⟨rfl, rfl, rfl, by simp [World.setRow], fun k _ hk => setRow_other w g k _ (fun e => hk (by simp [blkOf, e]))⟩
    · have hold : (Builtin.firstCells i.size n (.slice (some ⟨g, 0, none⟩) n c)).run P w.drew = .ok xs.toArray w.drew := by
        have := run_firstCells_some (P := P) w.drew i.size n ⟨g, 0, none⟩ n c xs (by rw [hsize]; exact hown.1) (by
          intro j u hu
          exact World.ownsRow.cells hown (g := g) rfl j u hu)
        exact this
      have hr := Lib.run_append_grow_zeros (P := P) w t tn ty e i z kq kn ht htn hi hz (some ⟨g, 0, none⟩) n c xs hold m hm hs1 (by omega) (by omega) hmb (growslice_fits (by omega) hbytes)
      refine ⟨_, _, _, hr, grown c (by omega), hgr _ _, fun g' e => .inr ?_⟩
      simp [blkOf] at e; omega
theorem wpl_app_zeros {P : Program} {t tn e : TypeId} {bytes : Nat} {z : Value} (w : World) {ops : Array Oper} {rest : List Oper} {o : Oper} {a : Act} {Q : Exit → Act → World → Prop} (hgd : o.guard = none) (s x : Operand) (E : ElemT P t e 1 bytes z) (hzc : z.cells = #[z]) (hz1 : z.oneCell' = true) {kn : IntKind} (htn : P.underlying tn = some (.int kn))
    (ho : o.op = .call { callee := .builtin .append, args := #[s, x], argTypes := #[t, tn] }) (lo : Nat) (A : Option Addr) (n c : Nat) (xs : List Value) (hs : a.eval s = .slice A n c) (hown : Own w lo e 1 A n c xs) {kq : IntKind} (m : Nat) (hx : a.eval x = .int kq (m : Int))
    (hm : 0 < m) (h63 : n + m ≤ maxLen) (hbytes : (n + m) * bytes ≤ 140737488355328) (hlo : lo ≤ w.heap.size)
    (h : ∀ A1 c1 w', Appended w lo e 1 A A1 (n + m) c1 (xs ++ List.replicate m z) w' → wpList P ops Q rest (a.put o.dst (.slice A1 (n + m) c1)) w') : wpList P ops Q (o :: rest) a w := by
  obtain ⟨A1, c1, w', hr, h1⟩ := run_app_zeros w E hzc hz1 htn o.type kq lo A n c xs hown m hm h63 hbytes hlo
  exact Lib.wpList_append_run w hgd s x t tn ho _ _ hs hx _ _ hr (h A1 c1 w' h1)
end
end Go.Proofs.YtdhaelpacffnlaaGreatDoor
/- Laws on structs in memory: loaded and stored whole; results that lie in memory. Over any program. Conditions: none. -/
namespace Go.Proofs.YtdhaelpacffnlaaGreatDoor
section
open Go.RowKit

/-- Type ty is a struct or an array of n cells. -/
def StructT (P : Program) (ty : TypeId) (n : Nat) : Prop := ∃ d, P.underlying ty = some d ∧ (match d with | .struct _ | .array _ _ => true | _ => false) = true ∧ (P.info? ty).map (·.size) = some n

/-- What a store of a whole variable leaves. -/
def Stored (w : World) (g : Nat) (t : TypeId) (cs : Array Value) (w' : World) : Prop := Blk w' g t cs ∧ w.grownBy w' (some g) ∧ w'.heap.size = w.heap.size

section
variable {P : Program} {w : World} {o : Oper} {a : Act} {K : Act → World → Prop} {Q : Exit → Act → World → Prop}

theorem wp_load_all {ty : TypeId} {n : Nat} (T : StructT P ty n) (x : Operand) (ho : o.op = .load ty x) (g : Nat) (hx : a.eval x = .pointer (some ⟨g, 0, none⟩)) (t : TypeId) (cs : Array Value) (hb : Blk w g t cs) (hn : cs.size = n)
    (h : K (a.put o.dst (.agg cs)) w) : o.wp P a w K Q := by
  obtain ⟨d, h1, h2, h3⟩ := T
  exact wp_load_row ty x ho g hx t cs (0, 0) d hb h1 (by cases d <;> first | rfl | (cases h2)) (by rw [hn]; exact h3) h

theorem run_store_all {ty : TypeId} {n : Nat} (T : StructT P ty n) {g : Nat} {t : TypeId} {cur cs : Array Value} (hb : Blk w g t cur) (hn : cs.size = n) (hc : cur.size = n) (h1 : ∀ u ∈ cs.toList, u.oneCell' = true) :
    ∃ w', (Instr.storeAt ty (.pointer (some ⟨g, 0, none⟩)) (.agg cs)).run P w = .ok () w' ∧ Stored w g t cs w' := by
  obtain ⟨d, hd1, hd2, hd3⟩ := T
  cases hq : P.info? ty with
  | none => simp [hq] at hd3
  | some i =>
    have hs : i.size = n := by simpa [hq] using hd3
    have hrun := run_storeCells_from (P := P) g t cs.toList 0 cur w hb (by simp; omega) h1
    refine ⟨w.setRow g cs, ?_, ?_, ⟨rfl, rfl, rfl, ?_, ?_⟩, ?_⟩
    · simp only [List.take_zero, List.nil_append, Array.toArray_toList] at hrun
      simp [Instr.storeAt, Instr.sureAddr, storeVar, sizeOf, typeInfo, hq, hs, Value.cells, hn, hrun]
    · have hlt := hb.lt
      unfold Blk at hb ⊢
      simp [World.setRow, Array.getElem?_modify, hb]
    · simp [World.setRow]
    · intro k hk hne
      simp only [World.setRow, Array.getElem?_modify]
      rw [if_neg (fun e => hne (by rw [e]))]
    · simp [World.setRow]

theorem wp_store_all {ty : TypeId} {n : Nat} (T : StructT P ty n) (x y : Operand) (ho : o.op = .store ty x y) (g : Nat) (hx : a.eval x = .pointer (some ⟨g, 0, none⟩)) (t : TypeId) (cur cs : Array Value) (hy : a.eval y = .agg cs) (hb : Blk w g t cur)
    (hn : cs.size = n) (hc : cur.size = n) (h1 : ∀ u ∈ cs.toList, u.oneCell' = true) (h : ∀ w', Stored w g t cs w' → K (a.put o.dst undef) w') : o.wp P a w K Q := by
  obtain ⟨w', hrun, hst⟩ := run_store_all (w := w) T hb hn hc h1
  unfold Oper.wp execOp
  simp only [ho, hx, hy, Sem.run_bind, Sem.run_pure, Result.andThen_ok, hrun]
  exact h w' hst

variable {ops : Array Oper} {rest : List Oper}
/-- A variable of a struct type, loaded whole. -/
theorem wpl_load_all {ty : TypeId} {n : Nat} (T : StructT P ty n) (hgd : o.guard = none) (x : Operand) (ho : o.op = .load ty x) (g : Nat) (hx : a.eval x = .pointer (some ⟨g, 0, none⟩)) (t : TypeId) (cs : Array Value) (hb : Blk w g t cs) (hn : cs.size = n)
    (h : wpList P ops Q rest (a.put o.dst (.agg cs)) w) : wpList P ops Q (o :: rest) a w :=
  wpList_plain hgd fun _ hK => wp_load_all T x ho g hx t cs hb hn (hK _ _ h)
/-- A variable of a struct type, stored whole. -/
theorem wpl_store_all {ty : TypeId} {n : Nat} (T : StructT P ty n) (hgd : o.guard = none) (x y : Operand) (ho : o.op = .store ty x y) (g : Nat) (hx : a.eval x = .pointer (some ⟨g, 0, none⟩)) (t : TypeId) (cur cs : Array Value) (hy : a.eval y = .agg cs) (hb : Blk w g t cur)
    (hn : cs.size = n) (hc : cur.size = n) (h1 : ∀ u ∈ cs.toList, u.oneCell' = true) (h : ∀ w', Stored w g t cs w' → wpList P ops Q rest (a.put o.dst undef) w') : wpList P ops Q (o :: rest) a w :=
  wpList_plain hgd fun _ hK => wp_store_all T x y ho g hx t cur cs hy hb hn hc h1 fun w' hs => hK _ _ (h w' hs)
theorem step_load_all {ty : TypeId} {n : Nat} {E' : Prop} (T : StructT P ty n) (hgd : o.guard = none) (x : Operand) (ho : o.op = .load ty x) (g : Nat) (hx : a.eval x = .pointer (some ⟨g, 0, none⟩)) (t : TypeId) (cs : Array Value) (hb : Blk w g t cs) (hn : cs.size = n)
    (h : K (a.put o.dst (.agg cs)) w) : if Region.wanted o (yielded ops a.tmps) = true then Oper.wp P o a w K Q else E' := by
  have hw : Region.wanted o (yielded ops a.tmps) = true := by simp [Region.wanted, hgd]
  rw [if_pos hw]
  exact wp_load_all T x ho g hx t cs hb hn h
theorem step_store_all {ty : TypeId} {n : Nat} {E' : Prop} (T : StructT P ty n) (hgd : o.guard = none) (x y : Operand) (ho : o.op = .store ty x y) (g : Nat) (hx : a.eval x = .pointer (some ⟨g, 0, none⟩)) (t : TypeId) (cur cs : Array Value) (hy : a.eval y = .agg cs) (hb : Blk w g t cur)
    (hn : cs.size = n) (hc : cur.size = n) (h1 : ∀ u ∈ cs.toList, u.oneCell' = true) (h : ∀ w', Stored w g t cs w' → K (a.put o.dst undef) w') : if Region.wanted o (yielded ops a.tmps) = true then Oper.wp P o a w K Q else E' := by
  have hw : Region.wanted o (yielded ops a.tmps) = true := by simp [Region.wanted, hgd]
  rw [if_pos hw]
  exact wp_store_all T x y ho g hx t cur cs hy hb hn hc h1 h
end

section
variable {P : Program} {w : World} {fn : Func} {a : Act} {R : Ending → World → Prop}
/-- The one result lies in memory. -/
theorem ret_cell {ty : TypeId} {n : Nat} (T : StructT P ty n) {p : Tmp} (hr : fn.results = #[.cell p ty]) (g : Nat) (t : TypeId) (cs : Array Value) (hp : a.tmps.getD p undef = .pointer (some ⟨g, 0, none⟩)) (hb : Blk w g t cs) (hn : cs.size = n)
    (hd : a.defers = []) (h : R (.returned (.agg cs)) w) : bodyPost P fn R .ret a w := by
  obtain ⟨d, h1, h2, h3⟩ := T
  exact bodyPost_ret (results_cell_row hr a.tmps w g t cs (0, 0) d hp hb h1 (by cases d <;> first | rfl | (cases h2)) (by rw [hn]; exact h3)) hd h
/-- Two results, the first one in memory. -/
theorem ret_cell_tmp {ty : TypeId} {n : Nat} (T : StructT P ty n) {p q : Tmp} (hr : fn.results = #[.cell p ty, .tmp q]) (g : Nat) (t : TypeId) (cs : Array Value) (v : Value) (hp : a.tmps.getD p undef = .pointer (some ⟨g, 0, none⟩)) (hq : a.tmps.getD q undef = v) (hb : Blk w g t cs) (hn : cs.size = n)
    (hd : a.defers = []) (h : R (.returned (.tuple #[.agg cs, v])) w) : bodyPost P fn R .ret a w := by
  obtain ⟨d, h1, h2, h3⟩ := T
  refine bodyPost_ret (v := .tuple #[.agg cs, v]) ?_ hd h
  have hp' : a.tmps[p]?.getD undef = .pointer (some ⟨g, 0, none⟩) := by simpa using hp
  have hq' : a.tmps[q]?.getD undef = v := by simpa using hq
  simp [results, hr, hp', hq', asAddr, run_loadVar_row w g t ty cs (0, 0) d hb h1 (by cases d <;> first | rfl | (cases h2)) (by rw [hn]; exact h3)]
end
end
end Go.Proofs.YtdhaelpacffnlaaGreatDoor
/- Words for what functions answer; the document's 'in'. Conditions: none. -/
namespace Go.Proofs.YtdhaelpacffnlaaGreatDoor
section
open Go.RowKit

/-- A function that answers v and, of what was there, changes nothing. -/
def RetV (v : Value) (w : World) (e : Ending) (w' : World) : Prop := e = .returned v ∧ w.grownBy w' none
/-- A function that answers a value of which P holds and, of what was there, changes nothing. -/
def RetP (P : Value → World → Prop) (w : World) (e : Ending) (w' : World) : Prop := ∃ v, e = .returned v ∧ P v w' ∧ w.grownBy w' none
/-- A function that only computes. -/
def Same (v : Value) (w : World) (e : Ending) (w' : World) : Prop := e = .returned v ∧ w = w'

/-- Is a number from lo to hi? -/
def inB (n lo hi : Int) : Bool := decide (lo ≤ n) && decide (n ≤ hi)

set_option maxHeartbeats 1000000 in
theorem in_any (n lo hi : Int) (w : World) : Calls Tryz.prog 57 #[.int .i64 n, .int .i64 lo, .int .i64 hi] w (Same (.bool (inB n lo hi)) w) := by
  have hfin : inB n lo hi = (decide (lo ≤ n) && decide (n ≤ hi)) := rfl
  have H := Lib.hid hfin; clear hfin
  by_cases h1 : lo ≤ n <;> by_cases h2 : n ≤ hi
  all_goals
    go_enter Tryz.func57, Tryz.ntmps57
    go_wp2
    go_ret
    exact ⟨by rw [H.out]; simp [h1, h2], rfl⟩
end
end Go.Proofs.YtdhaelpacffnlaaGreatDoor
/- Contracts of strings.IndexByte. Conditions: none. -/
namespace Go.Proofs.YtdhaelpacffnlaaGreatDoor
section
open Go.RowKit

set_option maxHeartbeats 2000000 in
theorem slIndexByte_any (s : ByteArray) (c : Int) (w : World) :
    Calls Tryz.prog 116 #[.string s, .int .u8 c] w (Same (.int .i64 (Lib.indexByte s.data.toList c.toNat.toUInt8)) w) := by
  have hcf : ∀ w, (callFunc 147 #[.string s, .int .u8 c]).run Tryz.prog w = .ok (.value (.int .i64 (Lib.indexByte s.data.toList c.toNat.toUInt8))) w := fun w => by
    rw [run_callFunc_extern Tryz.func147 (by kernel_rfl) (by kernel_rfl) (by kernel_rfl) (e := Extern.BytealgIndexByte.indexByte) (by kernel_rfl), Lib.run_indexByteString]
    rfl
  go_enter Tryz.func116, Tryz.ntmps116
  go_wp2_with fail
  go_ret
  exact ⟨rfl, rfl⟩
set_option maxHeartbeats 2000000 in
theorem indexByte_any (s : ByteArray) (c : Int) (w : World) :
    Calls Tryz.prog 70 #[.string s, .int .u8 c] w (Same (.int .i64 (Lib.indexByte s.data.toList c.toNat.toUInt8)) w) := by
  go_enter Tryz.func70, Tryz.ntmps70
  go_wp2_with (first
    | (go_at_call 116; refine (slIndexByte_any _ _ _).mono ?_; rintro e w' ⟨rfl, rfl⟩)
    | fail)
  go_ret
  exact ⟨rfl, rfl⟩
end
end Go.Proofs.YtdhaelpacffnlaaGreatDoor

/- Words for memory that all later texts share: a block known whole, a slice that reads as a list, the stream of drawn numbers. Conditions: none. -/
import Derived.Below
import Derived.Laws.OwnMore
import Derived.Deep.AppendLies
import Derived.Deep.Draws
import Derived.Laws.Rows
import Derived.Lib.Hide
import Derived.OwnWalk
import Derived.Laws.Strings
import Derived.Maps.AppendAt
import Derived.RegionTactic
import Derived.WalkKit
import Derived.Lib.AppendZeros
import Derived.Lib.AppendZerosOnto
import Derived.Laws.Tables
import Derived.Test.YtgogiljplnninaaGreatDoorRows
import Derived.WalkSpells
import Derived.BigGuardPart
import Derived.Deep.RegionHeld3
import Derived.Deep.RegionLaw
import Derived.Deep.DeepFit
import Derived.Deep.QuietTactic
import Derived.BigQuiet
import Derived.Outline
import Derived.IntWalk
import Derived.Deep.DeepCutAuto
import Derived.Lib.Bytealg
import Derived.Laws.CopyRow
import Derived.Maps.Own
import Derived.Maps.OwnOps
import Derived.Maps.OwnSet
import Derived.Maps.Views
import Derived.StringKeys
import Derived.Laws.Cover1
namespace Go.Proofs.YtgogiljplnninaaGreatDoor
section
open Go.RowKit

/-! A block that is known whole. -/
def Blk (w : World) (g : Nat) (t : TypeId) (cs : Array Value) : Prop := w.heap[g]? = some (.cells cs t (0, 0))

section
variable {w w' : World} {g : Nat} {t : TypeId} {cs : Array Value}
theorem Blk.lt (h : Blk w g t cs) : g < w.heap.size := by
  rcases Nat.lt_or_ge g w.heap.size with hlt | hge
  · exact hlt
  · unfold Blk at h; rw [Array.getElem?_eq_none hge] at h; cases h
theorem Blk.cell (h : Blk w g t cs) (i : Nat) : w.cell? ⟨g, i, none⟩ = cs[i]? := cell_of_row w g i cs t (0, 0) h
theorem Blk.frozen (h : Blk w g t cs) (i : Nat) : w.frozen? ⟨g, i, none⟩ = false := by
  unfold Blk at h
  simp [World.frozen?, h]
theorem Blk.new (w : World) (t : TypeId) (cs : Array Value) : Blk (w.alloc (.cells cs t)) w.heap.size t cs := heap_alloc_new w _
theorem Blk.drew (h : Blk w g t cs) : Blk w.drew g t cs := h
theorem Blk.drewN (h : Blk w g t cs) (n : Nat) : Blk (w.drewN n) g t cs := h
theorem Blk.alloc (h : Blk w g t cs) (o : Obj) : Blk (w.alloc o) g t cs := (Below.heap_alloc w o g h.lt).trans h
theorem Blk.set_ (h : Blk w g t cs) (i : Nat) (u : Value) : Blk (w.setCell ⟨g, i, none⟩ u) g t (cs.setIfInBounds i u) := by
  unfold Blk at h ⊢
  simp [World.setCell, Array.getElem?_modify, h]
theorem Blk.far (h : Blk w g t cs) {p : Addr} (hp : g ≠ p.block) (u : Value) : Blk (w.setCell p u) g t cs := (Below.heap_setCell w p u g hp).trans h
theorem Blk.below {B : Nat} (h : Blk w g t cs) (hb : Below B w w') (hg : g < B) : Blk w' g t cs := (hb.block g hg).trans h
theorem Blk.grown {row : Option Nat} (h : Blk w g t cs) (hb : w.grownBy w' row) (hg : some g ≠ row) : Blk w' g t cs := (hb.block g h.lt hg).trans h
end

/-! Growth: 'w.grownBy w' row': new blocks, and writes to block 'row' alone. -/
theorem gr_refl (w : World) (row : Option Nat) : w.grownBy w row := World.grownBy.refl w row
theorem gr_drewN {a w : World} {row : Option Nat} (h : a.grownBy w row) (n : Nat) : a.grownBy (w.drewN n) row := ⟨h.os, h.tape, h.output, h.size, h.block⟩
theorem gr_drew {a w : World} {row : Option Nat} (h : a.grownBy w row) : a.grownBy w.drew row := ⟨h.os, h.tape, h.output, h.size, h.block⟩
theorem gr_alloc {a w : World} {row : Option Nat} (h : a.grownBy w row) (o : Obj) : a.grownBy (w.alloc o) row :=
  ⟨h.os, h.tape, h.output, Nat.le_trans h.size (by simp), fun i hi hne => (Below.heap_alloc w o i (Nat.lt_of_lt_of_le hi h.size)).trans (h.block i hi hne)⟩
theorem gr_setCell {a w : World} {row : Option Nat} (h : a.grownBy w row) {p : Addr} (hp : some p.block = row ∨ a.heap.size ≤ p.block) (u : Value) : a.grownBy (w.setCell p u) row :=
  ⟨h.os, h.tape, h.output, by simpa [World.setCell] using h.size, fun i hi hne => (Below.heap_setCell w p u i (by
    rintro rfl
    rcases hp with hp | hp
    · exact hne hp
    · omega)).trans (h.block i hi hne)⟩
theorem gr_below {a w : World} (h : Below a.heap.size a w) (row : Option Nat) : a.grownBy w row := ⟨h.os, h.tape, h.output, h.size, fun i hi _ => h.block i hi⟩
theorem below_gr {a w : World} (h : a.grownBy w none) : Below a.heap.size a w := ⟨h.os, h.tape, h.output, h.size, fun i hi => h.block i hi (by simp)⟩
/-- Two growths, one behind the other: what the second one writes to is the first one's row, or new. -/
theorem gr_trans {a b c : World} {row row' : Option Nat} (h : a.grownBy b row) (k : b.grownBy c row') (hr : ∀ g, row' = some g → some g = row ∨ a.heap.size ≤ g) : a.grownBy c row :=
  ⟨k.os.trans h.os, k.tape.trans h.tape, k.output.trans h.output, Nat.le_trans h.size k.size, fun i hi hne => (k.block i (Nat.lt_of_lt_of_le hi h.size) (fun e => by
    rcases hr i e.symm with h1 | h1
    · exact hne h1
    · omega)).trans (h.block i hi hne)⟩
theorem gr_same {a b c : World} {row : Option Nat} (h : a.grownBy b row) (k : b.grownBy c row) : a.grownBy c row := gr_trans h k (fun _ e => .inl e.symm)
theorem gr_none {a b c : World} {row : Option Nat} (h : a.grownBy b row) (k : b.grownBy c none) : a.grownBy c row := gr_trans h k (fun _ e => by cases e)

/-! A slice that reads as a list of cells, nil let in: it lies in blocks from 'lo' on. -/
def Reads (w : World) (lo size : Nat) (A : Option Addr) (n c : Nat) (xs : List Value) : Prop :=
  xs.length = n * size ∧ n ≤ c ∧ (0 < n → ∃ g o, A = some ⟨g, o, none⟩ ∧ lo ≤ g ∧ g < w.heap.size ∧ ∀ j u, xs[j]? = some u → w.cell? ⟨g, o + j, none⟩ = some u)

theorem add_mk (g o i : Nat) : (⟨g, o, none⟩ : Addr).add i = ⟨g, o + i, none⟩ := by
  unfold Addr.add; split
  · simp [*]
  · rfl

section
variable {w w' : World} {lo lo' size n c : Nat} {A : Option Addr} {xs : List Value}
theorem Reads.len (h : Reads w lo size A n c xs) : xs.length = n * size := h.1
theorem Reads.none_ : Reads w lo size A 0 c [] := ⟨by simp, Nat.zero_le _, fun h => absurd h (by omega)⟩
theorem Reads.kept (h : Reads w lo size A n c xs) (hs : w.heap.size ≤ w'.heap.size) (hk : ∀ g, lo ≤ g → g < w.heap.size → w'.heap[g]? = w.heap[g]?) : Reads w' lo size A n c xs :=
  ⟨h.1, h.2.1, fun hn => by
    obtain ⟨g, o, e, hl, hb, hc⟩ := h.2.2 hn
    exact ⟨g, o, e, hl, by omega, fun j u hu => (World.cell?_of_block (hk g hl hb)).trans (hc j u hu)⟩⟩
theorem Reads.lower (h : Reads w lo size A n c xs) (hB : lo' ≤ lo) : Reads w lo' size A n c xs :=
  ⟨h.1, h.2.1, fun hn => by
    obtain ⟨g, o, e, hl, hb, hc⟩ := h.2.2 hn
    exact ⟨g, o, e, by omega, hb, hc⟩⟩
theorem Reads.grown (h : Reads w lo size A n c xs) {row : Option Nat} (hg : w.grownBy w' row) (hr : ∀ g, row = some g → g < lo) : Reads w' lo size A n c xs :=
  h.kept hg.size fun g hl hb => hg.block g hb (fun e => by have := hr _ e.symm; omega)
theorem Reads.below (h : Reads w lo size A n c xs) (hb : Below w.heap.size w w') : Reads w' lo size A n c xs := h.kept hb.size fun g _ hg => hb.block g hg
theorem Reads.drew (h : Reads w lo size A n c xs) : Reads w.drew lo size A n c xs := h
theorem Reads.drewN (h : Reads w lo size A n c xs) (k : Nat) : Reads (w.drewN k) lo size A n c xs := h
theorem Reads.alloc (h : Reads w lo size A n c xs) (o : Obj) : Reads (w.alloc o) lo size A n c xs := h.kept (by simp) fun g _ hg => Below.heap_alloc w o g hg
theorem Reads.at_ {k : Nat} (h : Reads w lo 1 A n c xs) (hk : k < n) : ∃ g o u, A = some ⟨g, o, none⟩ ∧ lo ≤ g ∧ g < w.heap.size ∧ xs[k]? = some u ∧ w.cell? ⟨g, o + k, none⟩ = some u := by
  obtain ⟨g, o, e, hl, hb, hc⟩ := h.2.2 (by omega)
  have hk' : k < xs.length := by have := h.1; omega
  exact ⟨g, o, xs[k], e, hl, hb, List.getElem?_eq_getElem hk', hc k _ (List.getElem?_eq_getElem hk')⟩
theorem Reads.of_own {base : Nat} {e : TypeId} (h : w.ownsRow base e size (.slice A n c) n xs) (hc : n ≤ c) : Reads w base size A n c xs := by
  refine ⟨h.1, hc, fun hn => ?_⟩
  obtain ⟨g, cap, hv, hlo, hlt⟩ := h.form hn
  have hA : A = some ⟨g, 0, none⟩ := by injection hv
  subst hA
  refine ⟨g, 0, rfl, hlo, hlt, fun j u hu => ?_⟩
  have := h.cells (g := g) rfl j u hu
  rw [add_mk] at this
  exact this
end
/-- A slice of integers of one kind. -/
def Ints (k : IntKind) (w : World) (lo : Nat) (A : Option Addr) (n c : Nat) (l : List Int) : Prop := Reads w lo 1 A n c (l.map (Value.int k))
section
variable {k : IntKind} {w w' : World} {lo lo' n c : Nat} {A : Option Addr} {l : List Int}
theorem Ints.len (h : Ints k w lo A n c l) : l.length = n := by have := h.1; simpa using this
theorem Ints.cap (h : Ints k w lo A n c l) : n ≤ c := h.2.1
theorem Ints.at_ {i : Nat} (h : Ints k w lo A n c l) (hi : i < n) : ∃ g o, A = some ⟨g, o, none⟩ ∧ lo ≤ g ∧ g < w.heap.size ∧ w.cell? ⟨g, o + i, none⟩ = some (.int k (l.getD i 0)) := by
  obtain ⟨g, o, u, e, hl, hb, hx, hc⟩ := Reads.at_ h hi
  refine ⟨g, o, e, hl, hb, ?_⟩
  have hl : i < l.length := by rw [h.len]; exact hi
  rw [List.getElem?_map, List.getElem?_eq_getElem hl] at hx
  rw [hc, ← hx]
  simp [List.getD_eq_getElem?_getD, List.getElem?_eq_getElem hl]
theorem Ints.get {i : Nat} (h : Ints k w lo A n c l) (hi : i < n) : ∃ g o z, A = some ⟨g, o, none⟩ ∧ lo ≤ g ∧ g < w.heap.size ∧ l[i]? = some z ∧ w.cell? ⟨g, o + i, none⟩ = some (.int k z) := by
  obtain ⟨g, o, u, e, hl, hb, hx, hc⟩ := Reads.at_ h hi
  have hl' : i < l.length := by rw [h.len]; exact hi
  refine ⟨g, o, l[i], e, hl, hb, List.getElem?_eq_getElem hl', ?_⟩
  rw [List.getElem?_map, List.getElem?_eq_getElem hl'] at hx
  rw [hc, ← hx]
  rfl
theorem Ints.none_ : Ints k w lo A 0 c [] := Reads.none_
theorem Ints.lower (h : Ints k w lo A n c l) (hB : lo' ≤ lo) : Ints k w lo' A n c l := Reads.lower h hB
theorem Ints.grown (h : Ints k w lo A n c l) {row : Option Nat} (hg : w.grownBy w' row) (hr : ∀ g, row = some g → g < lo) : Ints k w' lo A n c l := Reads.grown h hg hr
theorem Ints.below (h : Ints k w lo A n c l) (hb : Below w.heap.size w w') : Ints k w' lo A n c l := Reads.below h hb
theorem Ints.alloc (h : Ints k w lo A n c l) (o : Obj) : Ints k (w.alloc o) lo A n c l := Reads.alloc h o
theorem Ints.drew (h : Ints k w lo A n c l) : Ints k w.drew lo A n c l := h
theorem Ints.drewN (h : Ints k w lo A n c l) (j : Nat) : Ints k (w.drewN j) lo A n c l := h
end
theorem Ints.sub {k : IntKind} {w : World} {lo g o n c : Nat} {l : List Int} (h : Ints k w lo (some ⟨g, o, none⟩) n c l) (i m : Nat) (hj : i + m ≤ n) : Ints k w lo (some ⟨g, o + i, none⟩) m (c - i) ((l.drop i).take m) := by
  have hl := h.len
  have hc := h.cap
  refine ⟨by simp; omega, by omega, fun hp => ?_⟩
  obtain ⟨g', o', e, h1, h2, h3⟩ := h.2.2 (by omega)
  injection e with e
  injection e with e1 e2
  subst e1; subst e2
  refine ⟨g, o + i, rfl, h1, h2, fun q u hu => ?_⟩
  rw [Nat.add_assoc]
  refine h3 (i + q) u ?_
  rw [List.map_take, List.map_drop] at hu
  rw [List.getElem?_take] at hu
  split at hu
  · rw [List.getElem?_drop] at hu; exact hu
  · cases hu
theorem Ints.recap {k : IntKind} {w : World} {lo n c c' : Nat} {A : Option Addr} {l : List Int} (h : Ints k w lo A n c l) (hc : n ≤ c') : Ints k w lo A n c' l := ⟨h.1, hc, h.2.2⟩
theorem Ints.subTo {k : IntKind} {w : World} {lo g o n c : Nat} {l : List Int} (h : Ints k w lo (some ⟨g, o, none⟩) n c l) (i : Nat) (hj : i ≤ n) : Ints k w lo (some ⟨g, o + i, none⟩) (n - i) (c - i) (l.drop i) := by
  have := h.sub i (n - i) (by omega)
  rwa [List.take_of_length_le (by rw [List.length_drop, h.len]; exact Nat.le_refl _)] at this
theorem Ints.cutTo {k : IntKind} {w : World} {lo g o n c : Nat} {l : List Int} (h : Ints k w lo (some ⟨g, o, none⟩) n c l) (i : Nat) (hj : i ≤ n) : Ints k w lo (if c = i then some ⟨g, o, none⟩ else some ⟨g, o + i, none⟩) (n - i) (c - i) (l.drop i) := by
  by_cases hc : c = i
  · have hn : n - i = 0 := by have := h.cap; omega
    rw [if_pos hc, hn, List.drop_eq_nil_of_le (by rw [h.len]; omega)]
    exact Ints.none_
  · rw [if_neg hc]; exact h.subTo i hj
theorem Ints.tail0 {k : IntKind} {w : World} {lo g n c : Nat} {l : List Int} (h : Ints k w lo (some ⟨g, 0, none⟩) n c l) (i c' : Nat) (hj : i ≤ n) (hc : n - i ≤ c') : Ints k w lo (some ⟨g, i, none⟩) (n - i) c' (l.drop i) := by
  have := (h.subTo i hj).recap hc
  rwa [Nat.zero_add] at this
theorem Ints.cut0 {k : IntKind} {w : World} {lo g n c : Nat} {l : List Int} (h : Ints k w lo (some ⟨g, 0, none⟩) n c l) (i : Nat) (hj : i ≤ n) : Ints k w lo (if c = i then some ⟨g, 0, none⟩ else some ⟨g, i, none⟩) (n - i) (c - i) (l.drop i) := by
  have := h.cutTo i hj
  rwa [Nat.zero_add] at this
theorem Ints.none0 {k : IntKind} {w : World} {lo n c : Nat} {A A' : Option Addr} {l : List Int} (h : Ints k w lo A n c l) (i c' : Nat) (hj : n ≤ i) : Ints k w lo A' (n - i) c' (l.drop i) := by
  rw [show n - i = 0 by omega, List.drop_eq_nil_of_le (by rw [h.len]; exact hj)]
  exact Ints.none_
theorem take_snoc' {α : Type} {l : List α} {i : Nat} {z : α} (h : l[i]? = some z) : l.take (i + 1) = l.take i ++ [z] := by
  obtain ⟨hl, rfl⟩ := List.getElem?_eq_some_iff.1 h
  exact List.take_succ_eq_append_getElem hl
theorem mem_of_get {α : Type} {l : List α} {i : Nat} {z : α} (h : l[i]? = some z) : z ∈ l := List.mem_of_getElem? h
end
end Go.Proofs.YtgogiljplnninaaGreatDoor
/- Strings as lists of bytes. Conditions: none. -/
namespace Go.Proofs.YtgogiljplnninaaGreatDoor
section
/-- The bytes of a string, as numbers. -/
def nb (s : ByteArray) : List Nat := s.data.toList.map UInt8.toNat
/-- A string of bytes. -/
def strN (l : List Nat) : ByteArray := ⟨(l.map Nat.toUInt8).toArray⟩
theorem nb_len (s : ByteArray) : (nb s).length = s.size := by unfold nb; rw [List.length_map]; rfl
theorem nb_lt {s : ByteArray} {b : Nat} (h : b ∈ nb s) : b < 256 := by
  obtain ⟨u, _, rfl⟩ := List.mem_map.1 h
  exact u.toNat_lt
theorem strN_nb (s : ByteArray) : strN (nb s) = s := by
  cases s with
  | mk d =>
    unfold strN nb
    rw [List.map_map, show (Nat.toUInt8 ∘ UInt8.toNat) = id from funext fun u => by simp, List.map_id]
theorem nb_strN {l : List Nat} (h : ∀ b ∈ l, b < 256) : nb (strN l) = l := by
  unfold nb strN
  simp only [List.map_map]
  conv => rhs; rw [← List.map_id l]
  apply List.map_congr_left
  intro b hb
  simp [Nat.mod_eq_of_lt (h b hb)]
theorem nb_inj {s t : ByteArray} (h : nb s = nb t) : s = t := by rw [← strN_nb s, h, strN_nb]
theorem nb_eq {s : ByteArray} {l : List Nat} (h : nb s = l) : s = strN l := by rw [← h, strN_nb]
theorem nb_append (s t : ByteArray) : nb (s ++ t) = nb s ++ nb t := by
  unfold nb
  rw [ByteArray.data_append, Array.toList_append, List.map_append]
theorem nb_extract (s : ByteArray) (a b : Nat) : nb (s.extract a b) = ((nb s).take b).drop a := by
  unfold nb
  rw [ByteArray.data_extract, Array.toList_extract, ← List.map_take, ← List.map_drop]
  rw [List.extract_eq_take_drop, List.drop_take]
theorem nb_get {s : ByteArray} {k : Nat} (h : k < s.size) : s[k].toNat = (nb s).getD k 0 := by
  unfold nb
  rw [List.getD_eq_getElem?_getD, List.getElem?_map]
  have hk : k < s.data.toList.length := by rw [Array.length_toList]; exact h
  rw [List.getElem?_eq_getElem hk]
  rfl
theorem strN_append (a b : List Nat) : strN a ++ strN b = strN (a ++ b) := by
  unfold strN
  apply ByteArray.ext
  rw [ByteArray.data_append]
  simp
theorem strN_size (l : List Nat) : (strN l).size = l.length := by simp [strN, ByteArray.size]
theorem strN_extract (l : List Nat) (a b : Nat) : (strN l).extract a b = strN ((l.take b).drop a) := by
  unfold strN
  apply ByteArray.ext
  rw [ByteArray.data_extract]
  apply Array.ext'
  simp [List.extract_eq_take_drop, List.map_drop, List.map_take, List.drop_take]
theorem str_nil {t : ByteArray} (h : nb t = []) : t.toList = [] := by
  rw [ByteArray.toList_eq]
  unfold nb at h
  simpa using h
theorem str_full {t : ByteArray} (h : ¬ nb t = []) : (t.toList == []) = false ∧ t.toList.isEmpty = false ∧ 0 < t.size := by
  have h1 : ¬ t.toList = [] := fun e => h (by unfold nb; rw [← ByteArray.toList_eq, e]; rfl)
  refine ⟨by rw [beq_eq_false_iff_ne]; exact h1, by rw [List.isEmpty_eq_false_iff]; exact h1, ?_⟩
  rcases Nat.eq_zero_or_pos t.size with h2 | h2
  · exact absurd (List.eq_nil_of_length_eq_zero (by rw [nb_len]; exact h2)) h
  · exact h2
end
end Go.Proofs.YtgogiljplnninaaGreatDoor
/- A string as one cell; is a string among some. Conditions: none. -/
namespace Go.Proofs.YtgogiljplnninaaGreatDoor
section
def srow (s : ByteArray) : List Value := [.string s]
theorem srow_len (s : ByteArray) : (srow s).length = 1 := rfl
/-- Is a string among some? -/
def memS (L : List ByteArray) (k : ByteArray) : Bool := L.any (fun x => nb x == nb k)
theorem memS_nil (k : ByteArray) : memS [] k = false := rfl
theorem memS_snoc (L : List ByteArray) (x k : ByteArray) : memS (L ++ [x]) k = (memS L k || nb x == nb k) := by
  unfold memS; rw [List.any_append]; simp
end
end Go.Proofs.YtgogiljplnninaaGreatDoor
/- Laws on slices that a call makes itself: append of one element, of a slice; make; stores. Over any program. Conditions: none. -/
namespace Go.Proofs.YtgogiljplnninaaGreatDoor
section
open Go.RowKit

/-- Slice type t has elements of type e, of so many cells and bytes, with the zero z. -/
structure ElemT (P : Program) (t e : TypeId) (size bytes : Nat) (z : Value) : Prop where
  ht : P.underlying t = some (.slice e)
  hi : ∃ i, P.info? e = some i ∧ i.zero = some z ∧ i.size = size ∧ i.bytes = bytes
  hzs : z.cells.size = size
  hsz : 0 < size

theorem elemT_of {P : Program} {t e : TypeId} {size bytes : Nat} {z : Value} (ht : P.underlying t = some (.slice e)) (h : (P.info? e).map (fun i => (i.zero, i.size, i.bytes)) = some (some z, size, bytes)) (hzs : z.cells.size = size) (hsz : 0 < size) : ElemT P t e size bytes z := by
  obtain ⟨i, h1, h2, h3, h4⟩ := info_parts h
  exact ⟨ht, ⟨i, h1, h2, h3, h4⟩, hzs, hsz⟩

/-- The block of a slice's address. -/
def blkOf (A : Option Addr) : Option Nat := A.map (·.block)

/-- A slice of the call's own: nil, or at the head of an array from block 'lo' on, whose first cells are xs. -/
def Own (w : World) (lo : Nat) (e : TypeId) (size : Nat) (A : Option Addr) (n c : Nat) (xs : List Value) : Prop := w.ownsRow lo e size (.slice A n c) n xs

section
variable {w w' : World} {lo size n c : Nat} {e : TypeId} {A : Option Addr} {xs : List Value}
theorem ownBlock_slice (A : Option Addr) (n c : Nat) : (Value.slice A n c).ownBlock = blkOf A := by cases A <;> rfl
theorem Own.nil (w : World) (lo : Nat) (e : TypeId) (size : Nat) : Own w lo e size none 0 0 [] := World.ownsRow_nil w lo e size
theorem Own.lit (w : World) (e : TypeId) (size : Nat) (cs : List Value) (n : Nat) (hm : n ≤ maxLen) (hs : cs.length = n * size) : Own (w.alloc (.cells cs.toArray e)) w.heap.size e size (some ⟨w.heap.size, 0, none⟩) n n cs := by
  have h := World.ownsRow_lit (base := w.heap.size) (e := e) (size := size) w cs.toArray n (Nat.le_refl _) hm (by simpa using hs)
  simpa [Own] using h
theorem Own.len (h : Own w lo e size A n c xs) : xs.length = n * size := h.1
theorem Own.cap (h : Own w lo e size A n c xs) : n ≤ c := by
  rcases h.2 with ⟨hv, rfl⟩ | ⟨g, cap, cur, hv, _, _, hn, _⟩
  · exact Nat.zero_le _
  · injection hv with _ _ h3; omega
theorem Own.lt (h : Own w lo e size A n c xs) {g : Nat} (hg : blkOf A = some g) : lo ≤ g ∧ g < w.heap.size := World.ownsRow.lt h g (by rw [ownBlock_slice]; exact hg)
theorem Own.kept (h : Own w lo e size A n c xs) {row : Option Nat} (hg : w.grownBy w' row) (hne : ∀ g, row = some g → blkOf A ≠ some g) : Own w' lo e size A n c xs := by
  refine World.ownsRow.kept h hg ?_
  rw [ownBlock_slice]
  cases hb : blkOf A with
  | none => exact .inl rfl
  | some g => exact .inr (fun e => hne g e.symm hb)
theorem Own.below (h : Own w lo e size A n c xs) (hb : Below w.heap.size w w') : Own w' lo e size A n c xs := h.kept (gr_below hb none) (fun _ e => by cases e)
theorem Own.alloc (h : Own w lo e size A n c xs) (o : Obj) : Own (w.alloc o) lo e size A n c xs := World.ownsRow.alloc h o
theorem Own.drew (h : Own w lo e size A n c xs) : Own w.drew lo e size A n c xs := h
theorem Own.drewN (h : Own w lo e size A n c xs) (k : Nat) : Own (w.drewN k) lo e size A n c xs := h
theorem Own.lower {lo' : Nat} (h : Own w lo e size A n c xs) (hl : lo' ≤ lo) : Own w lo' e size A n c xs := by
  refine ⟨h.1, ?_⟩
  rcases h.2 with h2 | ⟨g, cap, cur, hv, hg, r⟩
  · exact .inl h2
  · exact .inr ⟨g, cap, cur, hv, Nat.le_trans hl hg, r⟩
theorem Own.far (h : Own w lo e size A n c xs) {p : Addr} (hp : blkOf A ≠ some p.block) (u : Value) : Own (w.setCell p u) lo e size A n c xs :=
  h.kept (row := some p.block) (gr_setCell (gr_refl _ _) (.inl rfl) u) (fun g hg => by injection hg with hg; subst hg; exact hp)
theorem Own.reads (h : Own w lo e size A n c xs) : Reads w lo size A n c xs := Reads.of_own h h.cap
theorem Own.blk_ne (h : Own w lo e size A n c xs) {g : Nat} {t : TypeId} {cs : Array Value} (hg : Blk w g t cs) (hne : e ≠ t) : blkOf A ≠ some g := by
  rcases h.2 with ⟨hv, _⟩ | ⟨g', cap, cur, hv, _, hh, _⟩
  · injection hv with h1; subst h1; simp [blkOf]
  · injection hv with h1; subst h1
    intro he
    have : g' = g := by simpa [blkOf] using he
    subst this
    unfold Blk at hg
    rw [hh] at hg
    injection hg with hg
    injection hg with _ ht
    exact hne ht
theorem Own.ne {lo' size' n' c' : Nat} {e' : TypeId} {A' : Option Addr} {xs' : List Value} (h : Own w lo e size A n c xs) (h' : Own w lo' e' size' A' n' c' xs') (hne : e ≠ e') {g : Nat} (hg : blkOf A = some g) : blkOf A' ≠ some g := by
  rcases h'.2 with ⟨hv, _⟩ | ⟨g', cap, cur, hv, _, hh, _⟩
  · injection hv with h1; subst h1; simp [blkOf]
  · injection hv with h1; subst h1
    intro he
    have : g' = g := by simpa [blkOf] using he
    subst this
    exact h.blk_ne (cs := cur) hh hne hg
theorem Own.prefix_ (h : Own w lo e size A n c xs) (i : Nat) (hi : i ≤ n) : Own w lo e size A i c (xs.take (i * size)) := by
  have hle : i * size ≤ n * size := Nat.mul_le_mul_right _ hi
  refine ⟨by rw [List.length_take, h.1]; omega, ?_⟩
  rcases h.2 with ⟨hv, h0⟩ | ⟨g, cap, cur, hv, hg, hh, hnc, hcm, hsz, htk⟩
  · injection hv with e1 e2 e3; subst e1; subst e3
    have : i = 0 := by omega
    subst this
    exact .inl ⟨rfl, rfl⟩
  · injection hv with e1 e2 e3; subst e1; subst e3
    refine .inr ⟨g, c, cur, rfl, hg, hh, by omega, hcm, hsz, ?_⟩
    rw [← htk, List.take_take, Nat.min_eq_left hle]
/-- The growth of a slice of the call's own, as seen from the call's start. -/
theorem gr_own {a b c' : World} {row : Option Nat} (h : a.grownBy b row) (ho : Own b lo e size A n c xs) (hlo : a.heap.size ≤ lo) (hg : b.grownBy c' (blkOf A)) : a.grownBy c' row :=
  gr_trans h hg (fun _ hb => .inr (Nat.le_trans hlo (ho.lt hb).1))
theorem Own.cell {g : Nat} (h : Own w lo e size (some ⟨g, 0, none⟩) n c xs) {j : Nat} (hj : j < n * size) : w.cell? ⟨g, j, none⟩ = xs[j]? := World.ownsRow.cellAt h j hj
theorem Own.frozen {g : Nat} (h : Own w lo e size (some ⟨g, 0, none⟩) n c xs) (j : Nat) : w.frozen? ⟨g, j, none⟩ = false := World.ownsRow.frozenAt h j
theorem Own.pos (h : Own w lo e size A n c xs) (hn : 0 < n) : ∃ g, A = some ⟨g, 0, none⟩ ∧ lo ≤ g ∧ g < w.heap.size := by
  rcases h.2 with ⟨_, h0⟩ | ⟨g, cap, cur, hv, hg, hh, _⟩
  · omega
  · injection hv with h1; subst h1
    exact ⟨g, rfl, hg, Blk.lt (t := e) (cs := cur) hh⟩
theorem Own.stored {g : Nat} (h : Own w lo e size (some ⟨g, 0, none⟩) n c xs) (j : Nat) (u : Value) : Own (w.setCell ⟨g, j, none⟩ u) lo e size (some ⟨g, 0, none⟩) n c (xs.set j u) := (World.ownsRow.stored h j u).1
end

/-- What an append leaves: the slice, owned; only its own array has been written. -/
def Appended (w : World) (lo : Nat) (e : TypeId) (size : Nat) (A : Option Addr) (A' : Option Addr) (n' c' : Nat) (xs' : List Value) (w' : World) : Prop :=
  Own w' lo e size A' n' c' xs' ∧ w.grownBy w' (blkOf A) ∧ ∀ g, blkOf A' = some g → blkOf A = some g ∨ w.heap.size ≤ g
theorem Appended.refl {w : World} {lo : Nat} {e : TypeId} {size : Nat} {A : Option Addr} {n c : Nat} {xs : List Value} (h : Own w lo e size A n c xs) : Appended w lo e size A A n c xs w :=
  ⟨h, gr_refl _ _, fun _ e => .inl e⟩
theorem Appended.then {w wr wx w1 : World} {lo : Nat} {e : TypeId} {size : Nat} {A A' A1 : Option Addr} {n' c' n1 c1 : Nat} {xs' xs1 : List Value} (h : Appended w lo e size A A' n' c' xs' wr) (hg : wr.grownBy wx none)
    (h1 : Appended wx lo e size A' A1 n1 c1 xs1 w1) : Appended w lo e size A A1 n1 c1 xs1 w1 := by
  obtain ⟨_, h2, h3⟩ := h
  obtain ⟨k1, k2, k3⟩ := h1
  refine ⟨k1, gr_trans (gr_none h2 hg) k2 (fun g e => (h3 g e).elim (fun q => .inl q.symm) .inr), fun g e => ?_⟩
  rcases k3 g e with k4 | k4
  · exact h3 g k4
  · exact .inr (by have := h2.size; have := hg.size; omega)
/-- An append as seen from a call that made the slice itself. -/
theorem Appended.gr {a w w' : World} {row : Option Nat} {lo : Nat} {e : TypeId} {size : Nat} {A A' : Option Addr} {n c n' c' : Nat} {xs xs' : List Value} (h : Appended w lo e size A A' n' c' xs' w') (hg : a.grownBy w row) (ho : Own w lo e size A n c xs) (hlo : a.heap.size ≤ lo) : a.grownBy w' row :=
  gr_own hg ho hlo h.2.1

section
variable {P : Program} (w : World)

theorem run_append_of_nil (base : Nat) (t ty e : TypeId) (i : TypeInfo) (size : Nat) (ht : P.underlying t = some (.slice e)) (hi : P.info? e = some i)
    (v : Value) (n : Nat) (xs : List Value) (hown : w.ownsRow base e size v n xs) (c : Nat) : (Builtin.append_ #[t, t] ty #[v, .slice none 0 c]).run P w = .ok v w := by
  rcases hown.2 with ⟨rfl, rfl⟩ | ⟨g, cap, cur, rfl, _, _, hnc, _⟩
  · simp [Builtin.append_, run_underlying ht, sizeOf, typeInfo, hi, Builtin.lenOf, Builtin.firstCells]
  · simp [Builtin.append_, run_underlying ht, sizeOf, typeInfo, hi, Builtin.lenOf, Builtin.firstCells, hnc, storeCells]

theorem run_app {t e : TypeId} {size bytes : Nat} {z : Value} (E : ElemT P t e size bytes z) (ty : TypeId) (lo : Nat) (A : Option Addr) (n c : Nat) (xs : List Value) (hown : Own w lo e size A n c xs)
    (lo' : Nat) (A' : Option Addr) (m c' : Nat) (news : List Value) (hr : Reads w lo' size A' m c' news) (h1 : ∀ u ∈ news, u.oneCell' = true)
    (h63 : n + m ≤ maxLen) (hbytes : (n + m) * bytes ≤ 140737488355328) (hlo : lo ≤ w.heap.size) :
    ∃ A1 c1 w', (Builtin.append_ #[t, t] ty #[.slice A n c, .slice A' m c']).run P w = .ok (.slice A1 (n + m) c1) w' ∧ Appended w lo e size A A1 (n + m) c1 (xs ++ news) w' := by
  obtain ⟨ht, ⟨i, hi, hz, hsize, hby⟩, hzs, hsz⟩ := E
  have key : ∃ v' w', (Builtin.append_ #[t, t] ty #[.slice A n c, .slice A' m c']).run P w = .ok v' w' ∧ w'.ownsRow lo e size v' (n + m) (xs ++ news) ∧ w.grownBy w' (blkOf A) ∧
      (v'.ownBlock = blkOf A ∨ v'.ownBlock = some w.heap.size) := by
    rcases A' with _ | ad
    · have hm : m = 0 := by
        rcases Nat.eq_zero_or_pos m with h0 | h0
        · exact h0
        · obtain ⟨g, o, h, _⟩ := hr.2.2 h0
          cases h
      subst hm
      have hn : news = [] := List.eq_nil_of_length_eq_zero (by simpa using hr.1)
      subst hn
      exact ⟨_, w, run_append_of_nil w lo t ty e i size ht hi _ n xs hown c', by simpa [Own] using hown, World.grownBy.refl w _, .inl (ownBlock_slice _ _ _)⟩
    · have hcells : ∀ j u, news[j]? = some u → w.cell? (ad.add j) = some u := by
        intro j u hu
        rcases Nat.eq_zero_or_pos m with h0 | h0
        · subst h0
          have hn : news = [] := List.eq_nil_of_length_eq_zero (by simpa using hr.1)
          subst hn
          simp at hu
        · obtain ⟨g, o, h, _, _, hc⟩ := hr.2.2 h0
          injection h with h
          subst h
          rw [add_mk]
          exact hc j u hu
      obtain ⟨v', w', hrun, h2, h3, _, h5⟩ := run_append_own_at (P := P) w lo t ty e i z size bytes ht hi hz hsize hby hzs hsz _ n xs hown ad m c' news hr.1 hcells h1 h63 hbytes hlo
      rw [ownBlock_slice] at h3 h5
      exact ⟨v', w', hrun, h2, h3, h5⟩
  obtain ⟨v', w', hrun, h2, h3, h4⟩ := key
  rcases h2.2 with ⟨rfl, h0⟩ | ⟨g, cap, cur, rfl, _⟩
  · rw [h0] at h2
    refine ⟨none, 0, w', by rw [hrun, h0], ?_, h3, fun g e => by cases e⟩
    rw [h0]; exact h2
  · refine ⟨some ⟨g, 0, none⟩, cap, w', hrun, h2, h3, fun g' e => ?_⟩
    rw [ownBlock_slice] at h4
    rcases h4 with h4 | h4
    · exact .inl (h4 ▸ e)
    · rw [h4] at e; injection e with e; exact .inr (by omega)

theorem wp_app {o : Oper} {a : Act} {K : Act → World → Prop} {Q : Exit → Act → World → Prop} (s x : Operand) {t e : TypeId} {size bytes : Nat} {z : Value} (E : ElemT P t e size bytes z)
    (ho : o.op = .call { callee := .builtin .append, args := #[s, x], argTypes := #[t, t] })
    (lo : Nat) (A : Option Addr) (n c : Nat) (xs : List Value) (hs : a.eval s = .slice A n c) (hown : Own w lo e size A n c xs)
    (lo' : Nat) (A' : Option Addr) (m c' : Nat) (news : List Value) (hx : a.eval x = .slice A' m c') (hr : Reads w lo' size A' m c' news) (h1 : ∀ u ∈ news, u.oneCell' = true)
    (h63 : n + m ≤ maxLen) (hbytes : (n + m) * bytes ≤ 140737488355328) (hlo : lo ≤ w.heap.size)
    (h : ∀ A1 c1 w', Appended w lo e size A A1 (n + m) c1 (xs ++ news) w' → K (a.put o.dst (.slice A1 (n + m) c1)) w') : o.wp P a w K Q := by
  obtain ⟨A1, c1, w', hrun, h2⟩ := run_app (P := P) w E o.type lo A n c xs hown lo' A' m c' news hr h1 h63 hbytes hlo
  unfold Oper.wp execOp
  simp only [ho, resolve, invoke, builtin, Sem.run_bind, Sem.run_pure, Result.andThen_ok, List.map_toArray, List.map_cons, List.map_nil, hs, hx, hrun]
  exact h A1 c1 w' h2

/-- 'append(s, x...)' in a plain region. -/
theorem wpl_app {ops : Array Oper} {rest : List Oper} {o : Oper} {a : Act} {Q : Exit → Act → World → Prop} (hgd : o.guard = none) (s x : Operand) {t e : TypeId} {size bytes : Nat} {z : Value} (E : ElemT P t e size bytes z)
    (ho : o.op = .call { callee := .builtin .append, args := #[s, x], argTypes := #[t, t] })
    (lo : Nat) (A : Option Addr) (n c : Nat) (xs : List Value) (hs : a.eval s = .slice A n c) (hown : Own w lo e size A n c xs)
    (lo' : Nat) (A' : Option Addr) (m c' : Nat) (news : List Value) (hx : a.eval x = .slice A' m c') (hr : Reads w lo' size A' m c' news) (h1 : ∀ u ∈ news, u.oneCell' = true)
    (h63 : n + m ≤ maxLen) (hbytes : (n + m) * bytes ≤ 140737488355328) (hlo : lo ≤ w.heap.size)
    (h : ∀ A1 c1 w', Appended w lo e size A A1 (n + m) c1 (xs ++ news) w' → wpList P ops Q rest (a.put o.dst (.slice A1 (n + m) c1)) w') : wpList P ops Q (o :: rest) a w :=
  wpList_plain hgd fun _ hK => wp_app w s x E ho lo A n c xs hs hown lo' A' m c' news hx hr h1 h63 hbytes hlo fun A1 c1 w' h2 => hK _ _ (h A1 c1 w' h2)

/-- 'append(s, x...)' in a region that draws its order. -/
theorem step_app {ops : Array Oper} {o : Oper} {a : Act} {K : Act → World → Prop} {Q : Exit → Act → World → Prop} {E' : Prop} (hgd : o.guard = none) (s x : Operand) {t e : TypeId} {size bytes : Nat} {z : Value} (E : ElemT P t e size bytes z)
    (ho : o.op = .call { callee := .builtin .append, args := #[s, x], argTypes := #[t, t] })
    (lo : Nat) (A : Option Addr) (n c : Nat) (xs : List Value) (hs : a.eval s = .slice A n c) (hown : Own w lo e size A n c xs)
    (lo' : Nat) (A' : Option Addr) (m c' : Nat) (news : List Value) (hx : a.eval x = .slice A' m c') (hr : Reads w lo' size A' m c' news) (h1 : ∀ u ∈ news, u.oneCell' = true)
    (h63 : n + m ≤ maxLen) (hbytes : (n + m) * bytes ≤ 140737488355328) (hlo : lo ≤ w.heap.size)
    (h : ∀ A1 c1 w', Appended w lo e size A A1 (n + m) c1 (xs ++ news) w' → K (a.put o.dst (.slice A1 (n + m) c1)) w') :
    if Region.wanted o (yielded ops a.tmps) = true then Oper.wp P o a w K Q else E' := by
  have hw : Region.wanted o (yielded ops a.tmps) = true := by simp [Region.wanted, hgd]
  rw [if_pos hw]
  exact wp_app w s x E ho lo A n c xs hs hown lo' A' m c' news hx hr h1 h63 hbytes hlo h
end

theorem one_ints (k : IntKind) (l : List Int) : ∀ u ∈ l.map (Value.int k), u.oneCell' = true := by
  intro u hu
  obtain ⟨x, _, rfl⟩ := List.mem_map.1 hu
  rfl
/-- The one new element of 'append(s, v)' lies in a block of its own. -/
theorem Reads.one (w : World) (t : TypeId) (cs : List Value) (size : Nat) (h : cs.length = size) : Reads (w.alloc (.cells cs.toArray t)) w.heap.size size (some ⟨w.heap.size, 0, none⟩) 1 1 cs :=
  ⟨by simp [h], Nat.le_refl _, fun _ => ⟨_, 0, rfl, Nat.le_refl _, by simp, fun j u hu => by
    rw [Nat.zero_add, (Blk.new w t cs.toArray).cell]; simpa using hu⟩⟩
theorem Reads.blk {w : World} {g : Nat} {t : TypeId} {cs : List Value} (hb : Blk w g t cs.toArray) (size n : Nat) (h : cs.length = n * size) : Reads w g size (some ⟨g, 0, none⟩) n n cs :=
  ⟨h, Nat.le_refl _, fun _ => ⟨g, 0, rfl, Nat.le_refl _, hb.lt, fun j u hu => by
    rw [Nat.zero_add, hb.cell]; simpa using hu⟩⟩
/-- 'make([]T, n)' of one-cell elements. -/
theorem run_make1 {P : Program} {t e : TypeId} {bytes : Nat} {z : Value} (E : ElemT P t e 1 bytes z) (n : Nat) (hz : z.cells = #[z]) (hb : bytes * n ≤ 281474976710656) (h63 : n ≤ 9223372036854775807) (w : World) :
    (Instr.makeSlice t (.int .i64 (n : Int)) (.int .i64 (n : Int))).run P w = .ok (.slice (some ⟨w.heap.size, 0, none⟩) n n) (w.alloc (.cells (Array.replicate n z) e)) := by
  obtain ⟨ht, ⟨i, hi, hz', hs, hby⟩, _, _⟩ := E
  have hb' : (i.bytes : Int) * (n : Int) ≤ 281474976710656 := by
    have h : ((i.bytes * n : Nat) : Int) ≤ 281474976710656 := by rw [hby]; omega
    rwa [Int.natCast_mul] at h
  have hr := run_make (P := P) w t e i z ht hi hz' .i64 .i64 n n (by omega) (by omega) hb' (by omega)
  simp only [Int.toNat_natCast] at hr
  have hc : madeCells z.cells (n * i.size) = Array.replicate n z := by
    rw [hs, Nat.mul_one, hz]
    apply Array.ext'
    rw [toList_madeCells_one, Array.toList_replicate]
  rw [hc] at hr
  exact hr
theorem Own.made (w : World) (e : TypeId) (z : Value) (n : Nat) (h : n ≤ maxLen) : Own (w.alloc (.cells (Array.replicate n z) e)) w.heap.size e 1 (some ⟨w.heap.size, 0, none⟩) n n (List.replicate n z) := by
  have h := Own.lit w e 1 (List.replicate n z) n h (by simp)
  simpa using h
theorem Own.made' (w : World) (e : TypeId) (z : Value) (n g : Nat) (h : n ≤ maxLen) (hg : w.heap.size = g) : Own (w.alloc (.cells (Array.replicate n z) e)) g e 1 (some ⟨g, 0, none⟩) n n (List.replicate n z) := by
  subst hg; exact Own.made w e z n h
theorem size_setCell (w : World) (p : Addr) (v : Value) : (w.setCell p v).heap.size = w.heap.size := by simp [World.setCell]
theorem zeroCells_one (z : Value) (n : Nat) : Builtin.zeroCells #[z] n = Array.replicate n z := by
  apply Array.ext'
  simp [Builtin.zeroCells, Nat.mod_one, List.map_const']

/-- 'append(s, make([]T, m)...)' onto a slice of the call's own, of one-cell elements. -/
theorem run_app_zeros {P : Program} {t tn e : TypeId} {bytes : Nat} {z : Value} (w : World) (E : ElemT P t e 1 bytes z) (hzc : z.cells = #[z]) (hz1 : z.oneCell' = true) {kn : IntKind} (htn : P.underlying tn = some (.int kn)) (ty : TypeId) (kq : IntKind) (lo : Nat) (A : Option Addr) (n c : Nat) (xs : List Value) (hown : Own w lo e 1 A n c xs)
    (m : Nat) (hm : 0 < m) (h63 : n + m ≤ maxLen) (hbytes : (n + m) * bytes ≤ 140737488355328) (hlo : lo ≤ w.heap.size) :
    ∃ A1 c1 w', (Builtin.append_ #[t, tn] ty #[.slice A n c, .int kq (m : Int)]).run P w = .ok (.slice A1 (n + m) c1) w' ∧ Appended w lo e 1 A A1 (n + m) c1 (xs ++ List.replicate m z) w' := by
  obtain ⟨ht, ⟨i, hi, hz, hsize, hby⟩, hzs, _⟩ := E
  subst hby
  have hs1 : 0 < i.size := by omega
  have hm63 : n + m ≤ 9223372036854775807 := by simp only [maxLen] at h63; omega
  have hmb : m * i.bytes ≤ 281474976710656 := by
    have : m * i.bytes ≤ (n + m) * i.bytes := Nat.mul_le_mul_right _ (by omega)
    omega
  have grown : ∀ (old : Nat), old < n + m → Own (w.drew.alloc (.cells (xs.toArray ++ Builtin.zeroCells z.cells m ++ Builtin.zeroCells z.cells (grownCap w (n + m) old e - (n + m))) e)) lo e 1 (some ⟨w.heap.size, 0, none⟩) (n + m) (grownCap w (n + m) old e) (xs ++ List.replicate m z) := by
    intro old ho
    have hge := grownCap_ge w (n + m) old e
    have hcm : grownCap w (n + m) old e ≤ maxLen := grownCap_le_maxLen w (n + m) old e h63
    have hlen := hown.1
    refine ⟨by simp; omega, .inr ⟨w.heap.size, _, _, rfl, hlo, heap_alloc_new w.drew _, hge, hcm, ?_, ?_⟩⟩
    · rw [hzc, zeroCells_one, zeroCells_one]
      simp; omega
    · rw [hzc, zeroCells_one, zeroCells_one]
      simp only [Array.toList_append, Array.toList_replicate, List.append_assoc]
      rw [← List.append_assoc, List.take_append_of_le_length (by simp; omega), List.take_of_length_le (by simp; omega)]
  have hgr : ∀ (o : Obj) (row : Option Nat), w.grownBy (w.drew.alloc o) row := fun o row => gr_alloc (gr_drew (gr_refl _ _)) o
  rcases hown.2 with ⟨hv, h0⟩ | ⟨g, cap, cur, hv, hbg, hg, hnc, hcm, hcs, htake⟩
  · injection hv with e1 e2 e3; subst e1; subst e3; subst h0
    have hx : xs = [] := List.eq_nil_of_length_eq_zero (by simpa using hown.1)
    subst hx
    have hr := Lib.run_append_nil_zeros (P := P) w t tn ty e i z kq kn ht htn hi hz m hm hs1 (by omega) hmb
    have hg0 := grown 0 (by omega)
    simp only [Nat.zero_add, List.nil_append, Array.empty_append] at hg0 ⊢
    refine ⟨_, _, _, hr, ?_, hgr _ _, fun g e => .inr ?_⟩
    · exact hg0
    · simp [blkOf] at e; omega
  · injection hv with e1 e2 e3; subst e1; subst e3
    by_cases hroom : n + m ≤ c
    · have hst := run_storeCells_at P g n e (List.replicate m z) 0 cur w hg (by simp; omega) (by intro v hv; rw [List.eq_of_mem_replicate hv]; exact hz1)
      simp only [Nat.add_zero] at hst
      have hw : IntKind.i64.wrap (m : Int) = m := by rw [IntKind.wrap_i64]; omega
      have hb1 : ¬ (281474976710656 < (m : Int) * (i.bytes : Int)) := by
        have h : ((m * i.bytes : Nat) : Int) ≤ 281474976710656 := by omega
        rw [Int.natCast_mul] at h
        omega
      have hm0 : ¬ m = 0 := by omega
      have hzv : (zeroValue e).run P w = .ok z w := by simp [zeroValue, typeInfo, hi, hz]
      refine ⟨some ⟨g, 0, none⟩, c, w.setRow g (cur.toList.take n ++ List.replicate m z ++ cur.toList.drop (n + (List.replicate m z).length)).toArray, ?_, ?_, ?_, fun g' e => .inl e⟩
      · have hneg : ¬ ((m : Int) < 0) := by omega
        have hns : ¬ (m * i.size = 0) := by rw [hsize]; omega
        simp [Builtin.append_, run_underlying ht, run_underlying htn, sizeOf, typeInfo, zeroValue, hi, hz, asInt, asIntOf, hw, hneg, hns, hb1, hroom]
        simp only [hsize, hzc, zeroCells_one, Array.toList_replicate, Nat.mul_one]
        rw [show (⟨g, 0, none⟩ : Addr).add n = ⟨g, n, none⟩ from by rw [add_mk, Nat.zero_add], hst]
        simp
      · refine ⟨by simp [hown.1], .inr ⟨g, c, _, rfl, hbg, setRow_heap w g cur _ e _ hg, hroom, hcm, ?_, ?_⟩⟩
        · simp; omega
        · have hl := hown.1
          simp only [Nat.mul_one] at htake hcs hl ⊢
          rw [htake, List.take_append_of_le_length (by simp; omega), List.take_of_length_le (by simp; omega)]
      · exact ⟨rfl, rfl, rfl, by simp [World.setRow], fun k _ hk => setRow_other w g k _ (fun e => hk (by simp [blkOf, e]))⟩
    · have hold : (Builtin.firstCells i.size n (.slice (some ⟨g, 0, none⟩) n c)).run P w.drew = .ok xs.toArray w.drew := by
        have := run_firstCells_some (P := P) w.drew i.size n ⟨g, 0, none⟩ n c xs (by rw [hsize]; exact hown.1) (by
          intro j u hu
          exact World.ownsRow.cells hown (g := g) rfl j u hu)
        exact this
      have hr := Lib.run_append_grow_zeros (P := P) w t tn ty e i z kq kn ht htn hi hz (some ⟨g, 0, none⟩) n c xs hold m hm hs1 (by omega) (by omega) hmb (growslice_fits (by omega) hbytes)
      refine ⟨_, _, _, hr, grown c (by omega), hgr _ _, fun g' e => .inr ?_⟩
      simp [blkOf] at e; omega
theorem wpl_app_zeros {P : Program} {t tn e : TypeId} {bytes : Nat} {z : Value} (w : World) {ops : Array Oper} {rest : List Oper} {o : Oper} {a : Act} {Q : Exit → Act → World → Prop} (hgd : o.guard = none) (s x : Operand) (E : ElemT P t e 1 bytes z) (hzc : z.cells = #[z]) (hz1 : z.oneCell' = true) {kn : IntKind} (htn : P.underlying tn = some (.int kn))
    (ho : o.op = .call { callee := .builtin .append, args := #[s, x], argTypes := #[t, tn] }) (lo : Nat) (A : Option Addr) (n c : Nat) (xs : List Value) (hs : a.eval s = .slice A n c) (hown : Own w lo e 1 A n c xs) {kq : IntKind} (m : Nat) (hx : a.eval x = .int kq (m : Int))
    (hm : 0 < m) (h63 : n + m ≤ maxLen) (hbytes : (n + m) * bytes ≤ 140737488355328) (hlo : lo ≤ w.heap.size)
    (h : ∀ A1 c1 w', Appended w lo e 1 A A1 (n + m) c1 (xs ++ List.replicate m z) w' → wpList P ops Q rest (a.put o.dst (.slice A1 (n + m) c1)) w') : wpList P ops Q (o :: rest) a w := by
  obtain ⟨A1, c1, w', hr, h1⟩ := run_app_zeros w E hzc hz1 htn o.type kq lo A n c xs hown m hm h63 hbytes hlo
  exact Lib.wpList_append_run w hgd s x t tn ho _ _ hs hx _ _ hr (h A1 c1 w' h1)
end
end Go.Proofs.YtgogiljplnninaaGreatDoor
/- Laws on structs in memory: loaded and stored whole; results that lie in memory. Over any program. Conditions: none. -/
namespace Go.Proofs.YtgogiljplnninaaGreatDoor
section
open Go.RowKit

/-- Type ty is a struct or an array of n cells. -/
def StructT (P : Program) (ty : TypeId) (n : Nat) : Prop := ∃ d, P.underlying ty = some d ∧ (match d with | .struct _ | .array _ _ => true | _ => false) = true ∧ (P.info? ty).map (·.size) = some n

/-- What a store of a whole variable leaves. -/
def Stored (w : World) (g : Nat) (t : TypeId) (cs : Array Value) (w' : World) : Prop := Blk w' g t cs ∧ w.grownBy w' (some g) ∧ w'.heap.size = w.heap.size

section
variable {P : Program} {w : World} {o : Oper} {a : Act} {K : Act → World → Prop} {Q : Exit → Act → World → Prop}

theorem wp_load_all {ty : TypeId} {n : Nat} (T : StructT P ty n) (x : Operand) (ho : o.op = .load ty x) (g : Nat) (hx : a.eval x = .pointer (some ⟨g, 0, none⟩)) (t : TypeId) (cs : Array Value) (hb : Blk w g t cs) (hn : cs.size = n)
    (h : K (a.put o.dst (.agg cs)) w) : o.wp P a w K Q := by
  obtain ⟨d, h1, h2, h3⟩ := T
  exact wp_load_row ty x ho g hx t cs (0, 0) d hb h1 (by cases d <;> first | rfl | (cases h2)) (by rw [hn]; exact h3) h

theorem run_store_all {ty : TypeId} {n : Nat} (T : StructT P ty n) {g : Nat} {t : TypeId} {cur cs : Array Value} (hb : Blk w g t cur) (hn : cs.size = n) (hc : cur.size = n) (h1 : ∀ u ∈ cs.toList, u.oneCell' = true) :
    ∃ w', (Instr.storeAt ty (.pointer (some ⟨g, 0, none⟩)) (.agg cs)).run P w = .ok () w' ∧ Stored w g t cs w' := by
  obtain ⟨d, hd1, hd2, hd3⟩ := T
  cases hq : P.info? ty with
  | none => simp [hq] at hd3
  | some i =>
    have hs : i.size = n := by simpa [hq] using hd3
    have hrun := run_storeCells_from (P := P) g t cs.toList 0 cur w hb (by simp; omega) h1
    refine ⟨w.setRow g cs, ?_, ?_, ⟨rfl, rfl, rfl, ?_, ?_⟩, ?_⟩
    · simp only [List.take_zero, List.nil_append, Array.toArray_toList] at hrun
      simp [Instr.storeAt, Instr.sureAddr, storeVar, sizeOf, typeInfo, hq, hs, Value.cells, hn, hrun]
    · have hlt := hb.lt
      unfold Blk at hb ⊢
      simp [World.setRow, Array.getElem?_modify, hb]
    · simp [World.setRow]
    · intro k hk hne
      simp only [World.setRow, Array.getElem?_modify]
      rw [if_neg (fun e => hne (by rw [e]))]
    · simp [World.setRow]

theorem wp_store_all {ty : TypeId} {n : Nat} (T : StructT P ty n) (x y : Operand) (ho : o.op = .store ty x y) (g : Nat) (hx : a.eval x = .pointer (some ⟨g, 0, none⟩)) (t : TypeId) (cur cs : Array Value) (hy : a.eval y = .agg cs) (hb : Blk w g t cur)
    (hn : cs.size = n) (hc : cur.size = n) (h1 : ∀ u ∈ cs.toList, u.oneCell' = true) (h : ∀ w', Stored w g t cs w' → K (a.put o.dst undef) w') : o.wp P a w K Q := by
  obtain ⟨w', hrun, hst⟩ := run_store_all (w := w) T hb hn hc h1
  unfold Oper.wp execOp
  simp only [ho, hx, hy, Sem.run_bind, Sem.run_pure, Result.andThen_ok, hrun]
  exact h w' hst

variable {ops : Array Oper} {rest : List Oper}
/-- A variable of a struct type, loaded whole. -/
theorem wpl_load_all {ty : TypeId} {n : Nat} (T : StructT P ty n) (hgd : o.guard = none) (x : Operand) (ho : o.op = .load ty x) (g : Nat) (hx : a.eval x = .pointer (some ⟨g, 0, none⟩)) (t : TypeId) (cs : Array Value) (hb : Blk w g t cs) (hn : cs.size = n)
    (h : wpList P ops Q rest (a.put o.dst (.agg cs)) w) : wpList P ops Q (o :: rest) a w :=
  wpList_plain hgd fun _ hK => wp_load_all T x ho g hx t cs hb hn (hK _ _ h)
/-- A variable of a struct type, stored whole. -/
theorem wpl_store_all {ty : TypeId} {n : Nat} (T : StructT P ty n) (hgd : o.guard = none) (x y : Operand) (ho : o.op = .store ty x y) (g : Nat) (hx : a.eval x = .pointer (some ⟨g, 0, none⟩)) (t : TypeId) (cur cs : Array Value) (hy : a.eval y = .agg cs) (hb : Blk w g t cur)
    (hn : cs.size = n) (hc : cur.size = n) (h1 : ∀ u ∈ cs.toList, u.oneCell' = true) (h : ∀ w', Stored w g t cs w' → wpList P ops Q rest (a.put o.dst undef) w') : wpList P ops Q (o :: rest) a w :=
  wpList_plain hgd fun _ hK => wp_store_all T x y ho g hx t cur cs hy hb hn hc h1 fun w' hs => hK _ _ (h w' hs)
theorem step_load_all {ty : TypeId} {n : Nat} {E' : Prop} (T : StructT P ty n) (hgd : o.guard = none) (x : Operand) (ho : o.op = .load ty x) (g : Nat) (hx : a.eval x = .pointer (some ⟨g, 0, none⟩)) (t : TypeId) (cs : Array Value) (hb : Blk w g t cs) (hn : cs.size = n)
    (h : K (a.put o.dst (.agg cs)) w) : if Region.wanted o (yielded ops a.tmps) = true then Oper.wp P o a w K Q else E' := by
  have hw : Region.wanted o (yielded ops a.tmps) = true := by simp [Region.wanted, hgd]
  rw [if_pos hw]
  exact wp_load_all T x ho g hx t cs hb hn h
theorem step_store_all {ty : TypeId} {n : Nat} {E' : Prop} (T : StructT P ty n) (hgd : o.guard = none) (x y : Operand) (ho : o.op = .store ty x y) (g : Nat) (hx : a.eval x = .pointer (some ⟨g, 0, none⟩)) (t : TypeId) (cur cs : Array Value) (hy : a.eval y = .agg cs) (hb : Blk w g t cur)
    (hn : cs.size = n) (hc : cur.size = n) (h1 : ∀ u ∈ cs.toList, u.oneCell' = true) (h : ∀ w', Stored w g t cs w' → K (a.put o.dst undef) w') : if Region.wanted o (yielded ops a.tmps) = true then Oper.wp P o a w K Q else E' := by
  have hw : Region.wanted o (yielded ops a.tmps) = true := by simp [Region.wanted, hgd]
  rw [if_pos hw]
  exact wp_store_all T x y ho g hx t cur cs hy hb hn hc h1 h
end

section
variable {P : Program} {w : World} {fn : Func} {a : Act} {R : Ending → World → Prop}
/-- The one result lies in memory. -/
theorem ret_cell {ty : TypeId} {n : Nat} (T : StructT P ty n) {p : Tmp} (hr : fn.results = #[.cell p ty]) (g : Nat) (t : TypeId) (cs : Array Value) (hp : a.tmps.getD p undef = .pointer (some ⟨g, 0, none⟩)) (hb : Blk w g t cs) (hn : cs.size = n)
    (hd : a.defers = []) (h : R (.returned (.agg cs)) w) : bodyPost P fn R .ret a w := by
  obtain ⟨d, h1, h2, h3⟩ := T
  exact bodyPost_ret (results_cell_row hr a.tmps w g t cs (0, 0) d hp hb h1 (by cases d <;> first | rfl | (cases h2)) (by rw [hn]; exact h3)) hd h
/-- Two results, the first one in memory. -/
theorem ret_cell_tmp {ty : TypeId} {n : Nat} (T : StructT P ty n) {p q : Tmp} (hr : fn.results = #[.cell p ty, .tmp q]) (g : Nat) (t : TypeId) (cs : Array Value) (v : Value) (hp : a.tmps.getD p undef = .pointer (some ⟨g, 0, none⟩)) (hq : a.tmps.getD q undef = v) (hb : Blk w g t cs) (hn : cs.size = n)
    (hd : a.defers = []) (h : R (.returned (.tuple #[.agg cs, v])) w) : bodyPost P fn R .ret a w := by
  obtain ⟨d, h1, h2, h3⟩ := T
  refine bodyPost_ret (v := .tuple #[.agg cs, v]) ?_ hd h
  have hp' : a.tmps[p]?.getD undef = .pointer (some ⟨g, 0, none⟩) := by simpa using hp
  have hq' : a.tmps[q]?.getD undef = v := by simpa using hq
  simp [results, hr, hp', hq', asAddr, run_loadVar_row w g t ty cs (0, 0) d hb h1 (by cases d <;> first | rfl | (cases h2)) (by rw [hn]; exact h3)]
end
end
end Go.Proofs.YtgogiljplnninaaGreatDoor
/- Words for what functions answer; the document's 'in'. Conditions: none. -/
namespace Go.Proofs.YtgogiljplnninaaGreatDoor
section
open Go.RowKit

/-- A function that answers v and, of what was there, changes nothing. -/
def RetV (v : Value) (w : World) (e : Ending) (w' : World) : Prop := e = .returned v ∧ w.grownBy w' none
/-- A function that answers a value of which P holds and, of what was there, changes nothing. -/
def RetP (P : Value → World → Prop) (w : World) (e : Ending) (w' : World) : Prop := ∃ v, e = .returned v ∧ P v w' ∧ w.grownBy w' none
/-- A function that only computes. -/
def Same (v : Value) (w : World) (e : Ending) (w' : World) : Prop := e = .returned v ∧ w = w'

/-- Is a number from lo to hi? -/
def inB (n lo hi : Int) : Bool := decide (lo ≤ n) && decide (n ≤ hi)

set_option maxHeartbeats 1000000 in
theorem in_any (n lo hi : Int) (w : World) : Calls Tryz.prog 60 #[.int .i64 n, .int .i64 lo, .int .i64 hi] w (Same (.bool (inB n lo hi)) w) := by
  have hfin : inB n lo hi = (decide (lo ≤ n) && decide (n ≤ hi)) := rfl
  have H := Lib.hid hfin; clear hfin
  by_cases h1 : lo ≤ n <;> by_cases h2 : n ≤ hi
  all_goals
    go_enter Tryz.func60, Tryz.ntmps60
    go_wp2
    go_ret
    exact ⟨by rw [H.out]; simp [h1, h2], rfl⟩
end
end Go.Proofs.YtgogiljplnninaaGreatDoor
/- Contracts of strings.IndexByte. Conditions: none. -/
namespace Go.Proofs.YtgogiljplnninaaGreatDoor
section
open Go.RowKit

set_option maxHeartbeats 2000000 in
theorem slIndexByte_any (s : ByteArray) (c : Int) (w : World) :
    Calls Tryz.prog 222 #[.string s, .int .u8 c] w (Same (.int .i64 (Lib.indexByte s.data.toList c.toNat.toUInt8)) w) := by
  have hcf : ∀ w, (callFunc 265 #[.string s, .int .u8 c]).run Tryz.prog w = .ok (.value (.int .i64 (Lib.indexByte s.data.toList c.toNat.toUInt8))) w := fun w => by
    rw [run_callFunc_extern Tryz.func265 (by kernel_rfl) (by kernel_rfl) (by kernel_rfl) (e := Extern.BytealgIndexByte.indexByte) (by kernel_rfl), Lib.run_indexByteString]
    rfl
  go_enter Tryz.func222, Tryz.ntmps222
  go_wp2_with fail
  go_ret
  exact ⟨rfl, rfl⟩
set_option maxHeartbeats 2000000 in
theorem indexByte_any (s : ByteArray) (c : Int) (w : World) :
    Calls Tryz.prog 157 #[.string s, .int .u8 c] w (Same (.int .i64 (Lib.indexByte s.data.toList c.toNat.toUInt8)) w) := by
  go_enter Tryz.func157, Tryz.ntmps157
  go_wp2_with (first
    | (go_at_call 222; refine (slIndexByte_any _ _ _).mono ?_; rintro e w' ⟨rfl, rfl⟩)
    | fail)
  go_ret
  exact ⟨rfl, rfl⟩
end
end Go.Proofs.YtgogiljplnninaaGreatDoor
/- Laws on slices whose elements are structs of several cells: read, stored, appended. Over any program. Conditions: none. -/
namespace Go.Proofs.YtgogiljplnninaaGreatDoor
section
open Go.RowKit

/-! Rows of k cells, one behind the other. -/
section
variable {α : Type} {row : α → List Value} {k : Nat}
theorem flat_len (hrow : ∀ a, (row a).length = k) (l : List α) : (l.flatMap row).length = l.length * k := by
  induction l with
  | nil => simp
  | cons a l ih => simp [List.flatMap_cons, hrow, ih, Nat.succ_mul]; omega
theorem flat_get (hrow : ∀ a, (row a).length = k) (l : List α) (i j : Nat) (hj : j < k) : (l.flatMap row)[i * k + j]? = (l[i]?).bind fun a => (row a)[j]? := by
  induction l generalizing i with
  | nil => simp
  | cons a l ih =>
    rw [List.flatMap_cons]
    cases i with
    | zero => rw [List.getElem?_append_left (by rw [hrow]; omega)]; simp
    | succ i =>
      rw [List.getElem?_append_right (by rw [hrow, Nat.succ_mul]; omega), hrow, show (i + 1) * k + j - k = i * k + j by rw [Nat.succ_mul]; omega, ih]
      simp
theorem flat_ext (hrow : ∀ a, (row a).length = k) (hk : 0 < k) {l : List α} {xs : List Value} (hl : xs.length = l.length * k) (h : ∀ i j a, l[i]? = some a → j < k → xs[i * k + j]? = (row a)[j]?) : xs = l.flatMap row := by
  apply List.ext_getElem?
  intro q
  have hq : q = q / k * k + q % k := by rw [Nat.mul_comm]; exact (Nat.div_add_mod q k).symm
  have hm := Nat.mod_lt q hk
  generalize hi : q / k = i at hq hm
  generalize hjq : q % k = j at hq hm
  subst hq
  rw [flat_get hrow l i j hm]
  cases hli : l[i]? with
  | none =>
    have hle : l.length ≤ i := List.getElem?_eq_none_iff.1 hli
    have : l.length * k ≤ i * k := Nat.mul_le_mul_right _ hle
    rw [List.getElem?_eq_none (by omega)]; rfl
  | some a => rw [h i j a hli hm]; rfl
theorem flat_set (hrow : ∀ a, (row a).length = k) (hk : 0 < k) {l : List α} {i : Nat} {a a' : α} (hi : l[i]? = some a) {ys : List Value} (j : Nat) (hj : j + ys.length ≤ k) (hr : row a' = (row a).take j ++ ys ++ (row a).drop (j + ys.length)) :
    (l.flatMap row).take (i * k + j) ++ ys ++ (l.flatMap row).drop (i * k + j + ys.length) = (l.set i a').flatMap row := by
  have hlen := flat_len hrow l
  have hil : i < l.length := (List.getElem?_eq_some_iff.1 hi).1
  have hik : i * k + k ≤ l.length * k := by have := Nat.mul_le_mul_right k (show i + 1 ≤ l.length by omega); rw [Nat.succ_mul] at this; exact this
  refine flat_ext hrow hk (by simp [hlen]; omega) ?_
  intro p q b hb hq
  have hra := hrow a
  rw [List.getElem?_set] at hb
  by_cases hip : i = p
  · subst hip
    rw [if_pos rfl, if_pos hil] at hb
    injection hb with hb
    subst hb
    rw [hr]
    by_cases h1 : q < j
    · rw [List.append_assoc, List.append_assoc, List.getElem?_append_left (by simp [hlen]; omega), List.getElem?_append_left (by simp [hra]; omega), List.getElem?_take, List.getElem?_take, if_pos (by omega), if_pos h1, flat_get hrow l i q hq, hi]
      rfl
    · by_cases h2 : q < j + ys.length
      · rw [List.getElem?_append_left (by simp [hlen]; omega), List.getElem?_append_right (by simp [hlen]; omega), List.getElem?_append_left (by simp [hra]; omega), List.getElem?_append_right (by simp [hra]; omega)]
        simp only [List.length_take, hlen, hra]
        congr 1
        omega
      · rw [List.getElem?_append_right (by simp [hlen]; omega), List.getElem?_append_right (by simp [hra]; omega), List.getElem?_drop, List.getElem?_drop]
        simp only [List.length_take, List.length_append, hlen, hra]
        rw [show i * k + j + ys.length + (i * k + q - (min (i * k + j) (l.length * k) + ys.length)) = i * k + q by omega, flat_get hrow l i q hq, hi]
        show (row a)[q]? = _
        congr 1
        omega
  · rw [if_neg hip] at hb
    have h0 : (l.flatMap row)[p * k + q]? = (row b)[q]? := by rw [flat_get hrow l p q hq, hb]; rfl
    rw [← h0]
    rcases Nat.lt_or_gt_of_ne hip with h1 | h1
    · have : (i + 1) * k ≤ p * k := Nat.mul_le_mul_right k h1
      rw [Nat.succ_mul] at this
      rw [List.getElem?_append_right (by simp [hlen]; omega), List.getElem?_drop]
      simp only [List.length_take, List.length_append, hlen]
      congr 1
      omega
    · have : (p + 1) * k ≤ i * k := Nat.mul_le_mul_right k h1
      rw [Nat.succ_mul] at this
      rw [List.append_assoc, List.getElem?_append_left (by simp [hlen]; omega), List.getElem?_take, if_pos (by omega)]
end

/-! Loads of structs that lie anywhere. -/
section
variable {P : Program} {w : World} {o : Oper} {a : Act} {K : Act → World → Prop} {Q : Exit → Act → World → Prop} {ops : Array Oper} {rest : List Oper}
theorem run_load_at {ty : TypeId} {n : Nat} (T : StructT P ty n) {p : Addr} {cs : List Value} (hn : cs.length = n) (hc : ∀ j u, cs[j]? = some u → w.cell? (p.add j) = some u) :
    (loadVar ty p).run P w = .ok (.agg cs.toArray) w := by
  obtain ⟨d, hu, hd, hi⟩ := T
  have hl := run_loadCells_list (P := P) w p cs hc
  cases hq : P.info? ty with
  | none => simp [hq] at hi
  | some i =>
    have hs : i.size = n := by simpa [hq] using hi
    have hagg : (isAgg ty).run P w = .ok true w := by
      unfold isAgg
      rw [Sem.run_bind, run_underlying hu w]
      cases d <;> simp_all
    rw [hn] at hl
    simp [loadVar, Sem.run_bind, hagg, sizeOf, typeInfo, hq, hs, hl]
theorem wp_load_at {ty : TypeId} {n : Nat} (T : StructT P ty n) (x : Operand) (ho : o.op = .load ty x) (p : Addr) (hx : a.eval x = .pointer (some p)) (cs : List Value) (hn : cs.length = n) (hc : ∀ j u, cs[j]? = some u → w.cell? (p.add j) = some u)
    (h : K (a.put o.dst (.agg cs.toArray)) w) : o.wp P a w K Q := by
  unfold Oper.wp execOp
  simp only [ho, hx, Instr.loadAt, Instr.sureAddr, Sem.run_bind, Sem.run_pure, Result.andThen_ok, run_load_at T hn hc]
  exact h
/-- A struct that lies somewhere, loaded whole. -/
theorem wpl_load_at {ty : TypeId} {n : Nat} (T : StructT P ty n) (hgd : o.guard = none) (x : Operand) (ho : o.op = .load ty x) (p : Addr) (hx : a.eval x = .pointer (some p)) (cs : List Value) (hn : cs.length = n) (hc : ∀ j u, cs[j]? = some u → w.cell? (p.add j) = some u)
    (h : wpList P ops Q rest (a.put o.dst (.agg cs.toArray)) w) : wpList P ops Q (o :: rest) a w :=
  wpList_plain hgd fun _ hK => wp_load_at T x ho p hx cs hn hc (hK _ _ h)
end

/-- A slice of structs that reads as a list of records, each of k cells. -/
def Recs {α : Type} (row : α → List Value) (k : Nat) (w : World) (lo : Nat) (A : Option Addr) (n c : Nat) (l : List α) : Prop := Reads w lo k A n c (l.flatMap row) ∧ l.length = n
section
variable {α : Type} {row : α → List Value} {k : Nat} {w w' : World} {lo lo' n c : Nat} {A : Option Addr} {l : List α}
theorem Recs.len (h : Recs row k w lo A n c l) : l.length = n := h.2
theorem Recs.cap (h : Recs row k w lo A n c l) : n ≤ c := h.1.2.1
theorem Recs.lower (h : Recs row k w lo A n c l) (hB : lo' ≤ lo) : Recs row k w lo' A n c l := ⟨h.1.lower hB, h.2⟩
theorem Recs.grown (h : Recs row k w lo A n c l) {r : Option Nat} (hg : w.grownBy w' r) (hr : ∀ g, r = some g → g < lo) : Recs row k w' lo A n c l := ⟨h.1.grown hg hr, h.2⟩
theorem Recs.get {i : Nat} (h : Recs row k w lo A n c l) (hrow : ∀ a, (row a).length = k) (hi : i < n) : ∃ g o a, A = some ⟨g, o, none⟩ ∧ lo ≤ g ∧ g < w.heap.size ∧ l[i]? = some a ∧
    ∀ j u, (row a)[j]? = some u → w.cell? ⟨g, o + i * k + j, none⟩ = some u := by
  obtain ⟨g, o, e, h1, h2, h3⟩ := h.1.2.2 (by omega)
  have hl : i < l.length := by rw [h.2]; exact hi
  refine ⟨g, o, l[i], e, h1, h2, List.getElem?_eq_getElem hl, fun j u hu => ?_⟩
  have hj : j < k := by have := (List.getElem?_eq_some_iff.1 hu).1; rw [hrow] at this; exact this
  rw [Nat.add_assoc]
  refine h3 (i * k + j) u ?_
  rw [flat_get hrow l i j hj, List.getElem?_eq_getElem hl]
  exact hu
theorem Recs.at_ {g o i : Nat} {a : α} (h : Recs row k w lo (some ⟨g, o, none⟩) n c l) (hrow : ∀ a, (row a).length = k) (hi : l[i]? = some a) : ∀ j u, (row a)[j]? = some u → w.cell? ⟨g, o + i * k + j, none⟩ = some u := by
  have hl := (List.getElem?_eq_some_iff.1 hi).1
  obtain ⟨g', o', a', e, _, _, h1, h2⟩ := h.get hrow (show i < n by rw [← h.2]; exact hl)
  injection e with e
  injection e with e1 e2
  subst e1; subst e2
  rw [hi] at h1
  injection h1 with h1
  subst h1
  exact h2
theorem Recs.at0 {g o : Nat} {a : α} (h : Recs row k w lo (some ⟨g, o, none⟩) n c l) (hrow : ∀ a, (row a).length = k) (hi : l[0]? = some a) : ∀ j u, (row a)[j]? = some u → w.cell? ⟨g, o + j, none⟩ = some u := by
  have := h.at_ hrow hi
  simpa using this
theorem Recs.nil : Recs row k w lo A 0 c [] := ⟨Reads.none_, rfl⟩
end
end
end Go.Proofs.YtgogiljplnninaaGreatDoor
/- Sets of strings: a map[string]bool that a call makes. Conditions: none. -/
namespace Go.Proofs.YtgogiljplnninaaGreatDoor
section
open Go.RowKit Go.Maps Go.WideMaps

theorem plainElem_bool_of {P : Program} {e : TypeId} (he : P.underlying e = some .bool) {v : Value} {z : DataW Unit × List MemPlace} (h : plainElem P e v = some z) : ∃ x, v = .bool x ∧ z = (.lit (.bool x), []) := by
  unfold plainElem at h
  rw [he] at h
  cases v <;> simp at h
  exact ⟨_, rfl, h.symm⟩

theorem Tryz.keyS : Keyed Tryz.prog 9 := string_keyed Tryz.underlying9
theorem Tryz.zeroBS (w : World) : (zeroValue 4).run Tryz.prog w = .ok (.bool false) w := by kernel_rfl

theorem nb_data {s t : ByteArray} : nb s = nb t ↔ s.data.toList = t.data.toList :=
  ⟨fun h => by rw [nb_inj h], fun h => by unfold nb; rw [h]⟩
/-- The map in block b is the set of the strings of L; it has s entries. -/
def SetS (w : World) (b n : Nat) (L : List ByteArray) (s : Nat) : Prop :=
  ∃ D : DataW Unit, w.ownsMap Tryz.prog 9 (plainElem Tryz.prog 4) b n D ∧ Maps.Tidy D ∧ (∀ k : ByteArray, Maps.has D (.string k.data.toList) = memS L k) ∧ (∀ k : ByteArray, memS L k = true → D.atKey (.string k.data.toList) (.lit (.bool false)) = .lit (.bool true)) ∧ Maps.size D = s
section
variable {w w' : World} {b n s : Nat} {L : List ByteArray}
theorem SetS.new (w : World) : SetS (w.alloc (.map #[] 0)) w.heap.size 0 [] 0 := ⟨.map [], World.ownsMap_made _ _ _ _, Maps.tidy_empty, fun k => rfl, fun k h => absurd h (by simp [memS]), rfl⟩
theorem SetS.kept {row : Option Nat} (h : SetS w b n L s) (hg : w.grownBy w' row) (hne : some b ≠ row) : SetS w' b n L s := by
  obtain ⟨D, h1, h2⟩ := h
  exact ⟨D, h1.kept hg hne, h2⟩
theorem SetS.look (h : SetS w b n L s) {k : ByteArray} (hw : k.size ≤ maxLen) : (Instr.lookup 91 (.map (some b)) (.string k) false).run Tryz.prog w = .ok (.bool (memS L k)) w := by
  obtain ⟨D, h1, h2, h3, h4, _⟩ := h
  obtain ⟨v, ps, hrun, hv⟩ := h1.lookup Tryz.keyS Tryz.underlying91 (Tryz.zeroBS w) (plainElem_bool Tryz.underlying4 false) (keyOf_string_mk Tryz.underlying9 hw)
  obtain ⟨x, rfl, hx⟩ := plainElem_bool_of Tryz.underlying4 hv
  simp only [Prod.mk.injEq] at hx
  have hx1 := hx.1
  have e : x = memS L k := by
    cases hc : memS L k
    · have hh : Maps.has D (.string k.data.toList) = false := by rw [h3, hc]
      rw [Maps.atKey_of_not_has hh] at hx1
      simp only [DataW.lit.injEq, Lit.bool.injEq] at hx1
      exact Eq.symm hx1
    · rw [h4 k hc] at hx1
      simp only [DataW.lit.injEq, Lit.bool.injEq] at hx1
      exact Eq.symm hx1
  rw [hrun, e]
theorem SetS.put (h : SetS w b n L s) (hn : n < maxLen) {k : ByteArray} (hw : k.size ≤ maxLen) : ∃ w', (Instr.mapUpdate 91 (.map (some b)) (.string k) (.bool true)).run Tryz.prog w = .ok () w' ∧ SetS w' b (n + 1) (L ++ [k]) (if memS L k then s else s + 1) ∧ w.grownBy w' (some b) := by
  obtain ⟨D, h1, h2, h3, h4, h5⟩ := h
  obtain ⟨w', hrun, ho, hg⟩ := h1.update Tryz.keyS Tryz.underlying91 hn (keyOf_string_mk Tryz.underlying9 hw) (plainElem_bool Tryz.underlying4 true)
  have hk : WideAt.IsKeyLit (.string k.data.toList) := Tryz.keyS.key (keyOf_string_mk Tryz.underlying9 hw)
  refine ⟨w', hrun, ⟨_, ho, h2.put hk _, fun k' => ?_, fun k' hc => ?_, ?_⟩, hg⟩
  · by_cases e : nb k = nb k'
    · rw [← nb_data.1 e, Maps.has_put_same h2.isMap hk, memS_snoc]; simp [e]
    · have e' : k'.data.toList ≠ k.data.toList := fun h => e (nb_data.2 h.symm)
      rw [Maps.has_put_other (by simpa using e'), h3, memS_snoc]
      simp [e]
  · by_cases e : nb k = nb k'
    · rw [← nb_data.1 e, Maps.atKey_put_same h2.isMap hk]
    · have e' : k'.data.toList ≠ k.data.toList := fun h => e (nb_data.2 h.symm)
      rw [Maps.atKey_put_other (by simpa using e')]
      refine h4 k' ?_
      rw [memS_snoc] at hc
      simpa [e] using hc
  · rw [Maps.size_put h2, h3, h5]
theorem SetS.len (h : SetS w b n L s) (ty : TypeId) : (Builtin.len_ #[91] ty #[.map (some b)]).run Tryz.prog w = .ok (.int .i64 s) w := by
  obtain ⟨D, h1, _, _, _, h5⟩ := h
  rw [h1.len Tryz.underlying91 ty, h5]
end
section
variable {w : World} {ops : Array Oper} {rest : List Oper} {o : Oper} {a : Act} {Q : Exit → Act → World → Prop} {b n s : Nat} {L : List ByteArray}
theorem wpl_slook (hgd : o.guard = none) (m x : Operand) (hop : o.op = Op.lookup 91 m x false) (hm : a.eval m = .map (some b)) (k : ByteArray) (hx : a.eval x = .string k) (hw : k.size ≤ maxLen) (h : SetS w b n L s)
    (hK : wpList Tryz.prog ops Q rest (a.put o.dst (.bool (memS L k))) w) : wpList Tryz.prog ops Q (o :: rest) a w := by
  refine wpList_plain hgd fun K' hK' => ?_
  unfold Oper.wp
  simp [execOp, hop, hm, hx, h.look hw, Result.andThen]
  exact hK' _ _ hK
theorem wpl_sput (hgd : o.guard = none) (m x v : Operand) (hop : o.op = Op.mapUpdate 91 m x v) (hm : a.eval m = .map (some b)) (k : ByteArray) (hx : a.eval x = .string k) (hv : a.eval v = .bool true) (hw : k.size ≤ maxLen) (h : SetS w b n L s) (hn : n < maxLen)
    (hK : ∀ w', SetS w' b (n + 1) (L ++ [k]) (if memS L k then s else s + 1) → w.grownBy w' (some b) → wpList Tryz.prog ops Q rest (a.put o.dst undef) w') : wpList Tryz.prog ops Q (o :: rest) a w := by
  refine wpList_plain hgd fun K' hK' => ?_
  obtain ⟨w', hrun, h1, h2⟩ := h.put hn hw
  unfold Oper.wp
  simp [execOp, hop, hm, hx, hv, hrun, Result.andThen]
  exact hK' _ _ (hK w' h1 h2)
theorem wpl_slen (hgd : o.guard = none) (m : Operand) (hop : o.op = Op.call { callee := Callee.builtin Builtin.len, args := #[m], argTypes := #[91] }) (hm : a.eval m = .map (some b)) (h : SetS w b n L s)
    (hK : wpList Tryz.prog ops Q rest (a.put o.dst (.int .i64 s)) w) : wpList Tryz.prog ops Q (o :: rest) a w := by
  refine wpList_plain hgd fun K' hK' => ?_
  unfold Oper.wp
  simp [execOp, hop, resolve, invoke, builtin, hm, h.len o.type, Result.andThen]
  exact hK' _ _ hK
end
end
end Go.Proofs.YtgogiljplnninaaGreatDoor
/- The first place in a list at which something holds; a slice cut short. Conditions: none. -/
namespace Go.Proofs.YtgogiljplnninaaGreatDoor
section
open Go.RowKit

/-- The first place at which something holds, or -1. -/
def idxP {α : Type} (p : α → Bool) (l : List α) : Int := if l.any p then (l.findIdx p : Int) else -1
section
variable {α : Type} {p : α → Bool} {l : List α} {i : Nat} {z : α}
theorem allP_succ (h : (l.take i).all (fun x => !p x) = true) (hz : l[i]? = some z) (hp : p z = false) : (l.take (i + 1)).all (fun x => !p x) = true := by
  rw [take_snoc' hz, List.all_append, h]; simp [hp]
theorem idxP_none (h : l.all (fun x => !p x) = true) : idxP p l = -1 := by
  unfold idxP
  rw [if_neg]
  rw [List.any_eq_true]
  rintro ⟨x, hx, hp⟩
  have := List.all_eq_true.1 h x hx
  simp [hp] at this
theorem idxP_some (h : (l.take i).all (fun x => !p x) = true) (hz : l[i]? = some z) (hp : p z = true) : idxP p l = i := by
  unfold idxP
  rw [if_pos (List.any_eq_true.2 ⟨z, mem_of_get hz, hp⟩)]
  obtain ⟨hl, rfl⟩ := List.getElem?_eq_some_iff.1 hz
  congr 1
  rw [List.findIdx_eq hl]
  refine ⟨hp, fun j hj => ?_⟩
  have := List.all_eq_true.1 h l[j] (by
    rw [List.mem_iff_getElem?]
    exact ⟨j, by rw [List.getElem?_take, if_pos hj]; exact List.getElem?_eq_getElem (by omega)⟩)
  simpa using this
theorem idxP_any : decide (0 ≤ idxP p l) = l.any p := by
  unfold idxP
  cases h : l.any p
  · simp
  · simp only [if_true]; exact decide_eq_true (by omega)
end
section
variable {α : Type} {row : α → List Value} {k : Nat} {w : World} {lo n c : Nat} {A : Option Addr} {l : List α}
theorem Recs.take (hrow : ∀ a, (row a).length = k) (h : Recs row k w lo A n c l) {i : Nat} (hi : i ≤ n) : Recs row k w lo A i c (l.take i) := by
  have hl := h.2
  have hc := h.cap
  refine ⟨⟨?_, by omega, fun hp => ?_⟩, by rw [List.length_take]; omega⟩
  · rw [flat_len hrow, List.length_take]; congr 1; omega
  · obtain ⟨g, o, e, h1, h2, h3⟩ := h.1.2.2 (by omega)
    refine ⟨g, o, e, h1, h2, fun j u hu => h3 j u ?_⟩
    have : l.flatMap row = (l.take i).flatMap row ++ (l.drop i).flatMap row := by rw [← List.flatMap_append, List.take_append_drop]
    rw [this, List.getElem?_append_left]
    · exact hu
    · exact (List.getElem?_eq_some_iff.1 hu).1
end
end
end Go.Proofs.YtgogiljplnninaaGreatDoor
/- The order of strings: Compare and the walk's own words for it. Over any program. Conditions: none. -/
namespace Go.Proofs.YtgogiljplnninaaGreatDoor
section

/-! Lists of bytes. -/
theorem cb_range : ∀ (x y : List UInt8), Lib.compareBytes x y = -1 ∨ Lib.compareBytes x y = 0 ∨ Lib.compareBytes x y = 1
  | [], [] => .inr (.inl rfl)
  | [], _ :: _ => .inl rfl
  | _ :: _, [] => .inr (.inr rfl)
  | a :: x, b :: y => by
    unfold Lib.compareBytes
    split
    · exact .inl rfl
    · split
      · exact .inr (.inr rfl)
      · exact cb_range x y
theorem u8_tri {a b : UInt8} (h1 : ¬ a < b) (h2 : ¬ b < a) : a = b := by
  rw [UInt8.lt_iff_toNat_lt] at h1 h2
  exact UInt8.toNat_inj.1 (by omega)
theorem cb_zero : ∀ (x y : List UInt8), Lib.compareBytes x y = 0 ↔ x = y
  | [], [] => by simp [Lib.compareBytes]
  | [], _ :: _ => by simp [Lib.compareBytes]
  | _ :: _, [] => by simp [Lib.compareBytes]
  | a :: x, b :: y => by
    unfold Lib.compareBytes
    split
    · rename_i h
      constructor
      · intro h2; cases h2
      · intro h2; injection h2 with h3; subst h3; exact absurd h (UInt8.lt_irrefl _)
    · split
      · rename_i h
        constructor
        · intro h2; cases h2
        · intro h2; injection h2 with h3; subst h3; exact absurd h (UInt8.lt_irrefl _)
      · rename_i h1 h2
        have := u8_tri h1 h2
        subst this
        rw [cb_zero x y]
        simp
theorem cb_neg : ∀ (x y : List UInt8), Lib.compareBytes y x = - Lib.compareBytes x y
  | [], [] => rfl
  | [], _ :: _ => rfl
  | _ :: _, [] => rfl
  | a :: x, b :: y => by
    unfold Lib.compareBytes
    by_cases h1 : a < b
    · have h2 : ¬ b < a := fun h => by rw [UInt8.lt_iff_toNat_lt] at h1 h; omega
      rw [if_pos h1, if_neg h2, if_pos h1]; rfl
    · by_cases h2 : b < a
      · rw [if_pos h2, if_neg h1, if_pos h2]
      · rw [if_neg h1, if_neg h2, if_neg h2, if_neg h1]; exact cb_neg x y
theorem cb_trans : ∀ (x y z : List UInt8), Lib.compareBytes x y < 0 → Lib.compareBytes y z < 0 → Lib.compareBytes x z < 0
  | [], [], _, h, _ => by simp [Lib.compareBytes] at h
  | [], _ :: _, [], _, h => by simp [Lib.compareBytes] at h
  | [], _ :: _, _ :: _, _, _ => by simp [Lib.compareBytes]
  | _ :: _, [], _, h, _ => by simp [Lib.compareBytes] at h
  | _ :: _, _ :: _, [], _, h => by simp [Lib.compareBytes] at h
  | a :: x, b :: y, c :: z, h1, h2 => by
    unfold Lib.compareBytes at h1 h2 ⊢
    simp only [UInt8.lt_iff_toNat_lt] at h1 h2 ⊢
    split at h1
    · split at h2
      · rw [if_pos (by omega)]; decide
      · split at h2
        · exact absurd h2 (by decide)
        · rw [if_pos (by omega)]; decide
    · split at h1
      · exact absurd h1 (by decide)
      · split at h2
        · rw [if_pos (by omega)]; decide
        · split at h2
          · exact absurd h2 (by decide)
          · rw [if_neg (by omega), if_neg (by omega)]; exact cb_trans x y z h1 h2
theorem cb_less : ∀ (x y : List UInt8), Op.bytesLess x y = decide (Lib.compareBytes x y < 0)
  | [], [] => rfl
  | [], _ :: _ => rfl
  | _ :: _, [] => rfl
  | a :: x, b :: y => by
    unfold Op.bytesLess Lib.compareBytes
    rw [cb_less x y]
    by_cases h1 : a < b
    · rw [if_pos h1, decide_eq_true h1]; rfl
    · rw [if_neg h1, decide_eq_false h1]
      by_cases h2 : b < a
      · rw [if_pos h2]
        have : (a == b) = false := by rw [beq_eq_false_iff_ne]; rintro rfl; exact absurd h2 (UInt8.lt_irrefl _)
        rw [this]; rfl
      · rw [if_neg h2]
        have := u8_tri h1 h2
        subst this
        simp

/-! Strings. -/
def cmpS (a b : ByteArray) : Int := Lib.compareBytes a.data.toList b.data.toList
theorem cmpS_range (a b : ByteArray) : cmpS a b = -1 ∨ cmpS a b = 0 ∨ cmpS a b = 1 := cb_range _ _
theorem cmpS_zero {a b : ByteArray} : cmpS a b = 0 ↔ nb a = nb b := by
  unfold cmpS
  rw [cb_zero]
  constructor
  · intro h; unfold nb; rw [h]
  · intro h; rw [nb_inj h]
theorem cmpS_neg (a b : ByteArray) : cmpS b a = - cmpS a b := cb_neg _ _
theorem cmpS_trans {a b c : ByteArray} (h1 : cmpS a b < 0) (h2 : cmpS b c < 0) : cmpS a c < 0 := cb_trans _ _ _ h1 h2
theorem cmpS_eqr {a b c : ByteArray} (h : nb b = nb c) : cmpS a b = cmpS a c := by rw [nb_inj h]
theorem cmpS_eql {a b c : ByteArray} (h : nb b = nb c) : cmpS b a = cmpS c a := by rw [nb_inj h]
theorem ltS_cmp (a b : ByteArray) : Op.bytesLess a.toList b.toList = decide (cmpS a b < 0) := by
  rw [cb_less, ByteArray.toList_eq, ByteArray.toList_eq]; rfl
theorem leS_cmp (a b : ByteArray) : (Op.bytesLess a.toList b.toList || a.toList == b.toList) = decide (cmpS a b ≤ 0) := by
  rw [ltS_cmp]
  have h0 : (a.toList == b.toList) = decide (cmpS a b = 0) := by
    unfold cmpS
    rw [Bool.eq_iff_iff, beq_iff_eq, decide_eq_true_eq, cb_zero, ByteArray.toList_eq, ByteArray.toList_eq]
  rw [h0, Bool.eq_iff_iff]
  simp only [Bool.or_eq_true, decide_eq_true_eq]
  omega
end
end Go.Proofs.YtgogiljplnninaaGreatDoor

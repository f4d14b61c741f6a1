/- Words for memory that all later texts share: a block known whole, a slice that reads as a list, the stream of drawn numbers. Conditions: none. -/
import Derived.Below
import Derived.Laws.OwnMore
import Derived.Deep.AppendLies
import Derived.Deep.Draws
import Derived.Laws.Rows
import Derived.Lib.Hide
import Derived.OwnWalk
import Derived.Laws.Strings
import Derived.Test.YtelpakmiciilgaaGreatDoorRows
import Derived.WalkKit
import Derived.Maps.Own
import Derived.Maps.OwnOps
import Derived.Maps.OwnSet
import Derived.Maps.Views
import Derived.StringKeys
import Derived.OrdersHeld
import Derived.StillTail
import Derived.Tactics
import Derived.Lib.Bytealg
import Derived.Laws.Cover1
namespace Go.Proofs.YtelpakmiciilgaaGreatDoor
section
open Go.RowKit

/-! A block that is known whole. -/
def Blk (w : World) (g : Nat) (t : TypeId) (cs : Array Value) : Prop := w.heap[g]? = some (.cells cs t (0, 0))

section
variable {w w' : World} {g : Nat} {t : TypeId} {cs : Array Value}
theorem Blk.lt (h : Blk w g t cs) : g < w.heap.size := by
  rcases Nat.lt_or_ge g w.heap.size with hlt | hge
  · exact hlt
  · unfold Blk at h; rw [Array.getElem?_eq_none hge] at h; cases h
theorem Blk.cell (h : Blk w g t cs) (i : Nat) : w.cell? ⟨g, i, none⟩ = cs[i]? := cell_of_row w g i cs t (0, 0) h
theorem Blk.frozen (h : Blk w g t cs) (i : Nat) : w.frozen? ⟨g, i, none⟩ = false := by
  unfold Blk at h
  simp [World.frozen?, h]
theorem Blk.new (w : World) (t : TypeId) (cs : Array Value) : Blk (w.alloc (.cells cs t)) w.heap.size t cs := heap_alloc_new w _
theorem Blk.drew (h : Blk w g t cs) : Blk w.drew g t cs := h
theorem Blk.drewN (h : Blk w g t cs) (n : Nat) : Blk (w.drewN n) g t cs := h
theorem Blk.alloc (h : Blk w g t cs) (o : Obj) : Blk (w.alloc o) g t cs := (Below.heap_alloc w o g h.lt).trans h
theorem Blk.set_ (h : Blk w g t cs) (i : Nat) (u : Value) : Blk (w.setCell ⟨g, i, none⟩ u) g t (cs.setIfInBounds i u) := by
  unfold Blk at h ⊢
  simp [World.setCell, Array.getElem?_modify, h]
theorem Blk.far (h : Blk w g t cs) {p : Addr} (hp : g ≠ p.block) (u : Value) : Blk (w.setCell p u) g t cs := (Below.heap_setCell w p u g hp).trans h
theorem Blk.below {B : Nat} (h : Blk w g t cs) (hb : Below B w w') (hg : g < B) : Blk w' g t cs := (hb.block g hg).trans h
theorem Blk.grown {row : Option Nat} (h : Blk w g t cs) (hb : w.grownBy w' row) (hg : some g ≠ row) : Blk w' g t cs := (hb.block g h.lt hg).trans h
end

/-! Growth: 'w.grownBy w' row': new blocks, and writes to block 'row' alone. -/
theorem gr_refl (w : World) (row : Option Nat) : w.grownBy w row := World.grownBy.refl w row
theorem gr_drewN {a w : World} {row : Option Nat} (h : a.grownBy w row) (n : Nat) : a.grownBy (w.drewN n) row := ⟨h.os, h.tape, h.output, h.size, h.block⟩
theorem gr_drew {a w : World} {row : Option Nat} (h : a.grownBy w row) : a.grownBy w.drew row := ⟨h.os, h.tape, h.output, h.size, h.block⟩
theorem gr_alloc {a w : World} {row : Option Nat} (h : a.grownBy w row) (o : Obj) : a.grownBy (w.alloc o) row :=
  ⟨h.os, h.tape, h.output, Nat.le_trans h.size (by simp), fun i hi hne => (Below.heap_alloc w o i (Nat.lt_of_lt_of_le hi h.size)).trans (h.block i hi hne)⟩
theorem gr_setCell {a w : World} {row : Option Nat} (h : a.grownBy w row) {p : Addr} (hp : some p.block = row ∨ a.heap.size ≤ p.block) (u : Value) : a.grownBy (w.setCell p u) row :=
  ⟨h.os, h.tape, h.output, by simpa [World.setCell] using h.size, fun i hi hne => (Below.heap_setCell w p u i (by
    rintro rfl
    rcases hp with hp | hp
    · exact hne hp
    · omega)).trans (h.block i hi hne)⟩
theorem gr_below {a w : World} (h : Below a.heap.size a w) (row : Option Nat) : a.grownBy w row := ⟨h.os, h.tape, h.output, h.size, fun i hi _ => h.block i hi⟩
theorem below_gr {a w : World} (h : a.grownBy w none) : Below a.heap.size a w := ⟨h.os, h.tape, h.output, h.size, fun i hi => h.block i hi (by simp)⟩
/-- Two growths, one behind the other: what the second one writes to is the first one's row, or new. -/
theorem gr_trans {a b c : World} {row row' : Option Nat} (h : a.grownBy b row) (k : b.grownBy c row') (hr : ∀ g, row' = some g → some g = row ∨ a.heap.size ≤ g) : a.grownBy c row :=
  ⟨k.os.trans h.os, k.tape.trans h.tape, k.output.trans h.output, Nat.le_trans h.size k.size, fun i hi hne => (k.block i (Nat.lt_of_lt_of_le hi h.size) (fun e => by
    rcases hr i e.symm with h1 | h1
    · exact hne h1
    · omega)).trans (h.block i hi hne)⟩
theorem gr_same {a b c : World} {row : Option Nat} (h : a.grownBy b row) (k : b.grownBy c row) : a.grownBy c row := gr_trans h k (fun _ e => .inl e.symm)
theorem gr_none {a b c : World} {row : Option Nat} (h : a.grownBy b row) (k : b.grownBy c none) : a.grownBy c row := gr_trans h k (fun _ e => by cases e)

/-! A slice that reads as a list of cells, nil let in: it lies in blocks from 'lo' on. -/
def Reads (w : World) (lo size : Nat) (A : Option Addr) (n c : Nat) (xs : List Value) : Prop :=
  xs.length = n * size ∧ n ≤ c ∧ (0 < n → ∃ g o, A = some ⟨g, o, none⟩ ∧ lo ≤ g ∧ g < w.heap.size ∧ ∀ j u, xs[j]? = some u → w.cell? ⟨g, o + j, none⟩ = some u)

theorem add_mk (g o i : Nat) : (⟨g, o, none⟩ : Addr).add i = ⟨g, o + i, none⟩ := by
  unfold Addr.add; split
  · simp [*]
  · rfl

section
variable {w w' : World} {lo lo' size n c : Nat} {A : Option Addr} {xs : List Value}
theorem Reads.len (h : Reads w lo size A n c xs) : xs.length = n * size := h.1
theorem Reads.none_ : Reads w lo size A 0 c [] := ⟨by simp, Nat.zero_le _, fun h => absurd h (by omega)⟩
theorem Reads.kept (h : Reads w lo size A n c xs) (hs : w.heap.size ≤ w'.heap.size) (hk : ∀ g, lo ≤ g → g < w.heap.size → w'.heap[g]? = w.heap[g]?) : Reads w' lo size A n c xs :=
  ⟨h.1, h.2.1, fun hn => by
    obtain ⟨g, o, e, hl, hb, hc⟩ := h.2.2 hn
    exact ⟨g, o, e, hl, by omega, fun j u hu => (World.cell?_of_block (hk g hl hb)).trans (hc j u hu)⟩⟩
theorem Reads.lower (h : Reads w lo size A n c xs) (hB : lo' ≤ lo) : Reads w lo' size A n c xs :=
  ⟨h.1, h.2.1, fun hn => by
    obtain ⟨g, o, e, hl, hb, hc⟩ := h.2.2 hn
    exact ⟨g, o, e, by omega, hb, hc⟩⟩
theorem Reads.grown (h : Reads w lo size A n c xs) {row : Option Nat} (hg : w.grownBy w' row) (hr : ∀ g, row = some g → g < lo) : Reads w' lo size A n c xs :=
  h.kept hg.size fun g hl hb => hg.block g hb (fun e => by have := hr _ e.symm; omega)
theorem Reads.below (h : Reads w lo size A n c xs) (hb : Below w.heap.size w w') : Reads w' lo size A n c xs := h.kept hb.size fun g _ hg => hb.block g hg
theorem Reads.drew (h : Reads w lo size A n c xs) : Reads w.drew lo size A n c xs := h
theorem Reads.drewN (h : Reads w lo size A n c xs) (k : Nat) : Reads (w.drewN k) lo size A n c xs := h
theorem Reads.alloc (h : Reads w lo size A n c xs) (o : Obj) : Reads (w.alloc o) lo size A n c xs := h.kept (by simp) fun g _ hg => Below.heap_alloc w o g hg
theorem Reads.at_ {k : Nat} (h : Reads w lo 1 A n c xs) (hk : k < n) : ∃ g o u, A = some ⟨g, o, none⟩ ∧ lo ≤ g ∧ g < w.heap.size ∧ xs[k]? = some u ∧ w.cell? ⟨g, o + k, none⟩ = some u := by
  obtain ⟨g, o, e, hl, hb, hc⟩ := h.2.2 (by omega)
  have hk' : k < xs.length := by have := h.1; omega
  exact ⟨g, o, xs[k], e, hl, hb, List.getElem?_eq_getElem hk', hc k _ (List.getElem?_eq_getElem hk')⟩
theorem Reads.of_own {base : Nat} {e : TypeId} (h : w.ownsRow base e size (.slice A n c) n xs) (hc : n ≤ c) : Reads w base size A n c xs := by
  refine ⟨h.1, hc, fun hn => ?_⟩
  obtain ⟨g, cap, hv, hlo, hlt⟩ := h.form hn
  have hA : A = some ⟨g, 0, none⟩ := by injection hv
  subst hA
  refine ⟨g, 0, rfl, hlo, hlt, fun j u hu => ?_⟩
  have := h.cells (g := g) rfl j u hu
  rw [add_mk] at this
  exact this
end
/-- A slice of integers of one kind. -/
def Ints (k : IntKind) (w : World) (lo : Nat) (A : Option Addr) (n c : Nat) (l : List Int) : Prop := Reads w lo 1 A n c (l.map (Value.int k))
section
variable {k : IntKind} {w w' : World} {lo lo' n c : Nat} {A : Option Addr} {l : List Int}
theorem Ints.len (h : Ints k w lo A n c l) : l.length = n := by have := h.1; simpa using this
theorem Ints.cap (h : Ints k w lo A n c l) : n ≤ c := h.2.1
theorem Ints.at_ {i : Nat} (h : Ints k w lo A n c l) (hi : i < n) : ∃ g o, A = some ⟨g, o, none⟩ ∧ lo ≤ g ∧ g < w.heap.size ∧ w.cell? ⟨g, o + i, none⟩ = some (.int k (l.getD i 0)) := by
  obtain ⟨g, o, u, e, hl, hb, hx, hc⟩ := Reads.at_ h hi
  refine ⟨g, o, e, hl, hb, ?_⟩
  have hl : i < l.length := by rw [h.len]; exact hi
  rw [List.getElem?_map, List.getElem?_eq_getElem hl] at hx
  rw [hc, ← hx]
  simp [List.getD_eq_getElem?_getD, List.getElem?_eq_getElem hl]
theorem Ints.get {i : Nat} (h : Ints k w lo A n c l) (hi : i < n) : ∃ g o z, A = some ⟨g, o, none⟩ ∧ lo ≤ g ∧ g < w.heap.size ∧ l[i]? = some z ∧ w.cell? ⟨g, o + i, none⟩ = some (.int k z) := by
  obtain ⟨g, o, u, e, hl, hb, hx, hc⟩ := Reads.at_ h hi
  have hl' : i < l.length := by rw [h.len]; exact hi
  refine ⟨g, o, l[i], e, hl, hb, List.getElem?_eq_getElem hl', ?_⟩
  rw [List.getElem?_map, List.getElem?_eq_getElem hl'] at hx
  rw [hc, ← hx]
  rfl
theorem Ints.none_ : Ints k w lo A 0 c [] := Reads.none_
theorem Ints.lower (h : Ints k w lo A n c l) (hB : lo' ≤ lo) : Ints k w lo' A n c l := Reads.lower h hB
theorem Ints.grown (h : Ints k w lo A n c l) {row : Option Nat} (hg : w.grownBy w' row) (hr : ∀ g, row = some g → g < lo) : Ints k w' lo A n c l := Reads.grown h hg hr
theorem Ints.below (h : Ints k w lo A n c l) (hb : Below w.heap.size w w') : Ints k w' lo A n c l := Reads.below h hb
theorem Ints.alloc (h : Ints k w lo A n c l) (o : Obj) : Ints k (w.alloc o) lo A n c l := Reads.alloc h o
theorem Ints.drew (h : Ints k w lo A n c l) : Ints k w.drew lo A n c l := h
theorem Ints.drewN (h : Ints k w lo A n c l) (j : Nat) : Ints k (w.drewN j) lo A n c l := h
end
theorem Ints.sub {k : IntKind} {w : World} {lo g o n c : Nat} {l : List Int} (h : Ints k w lo (some ⟨g, o, none⟩) n c l) (i m : Nat) (hj : i + m ≤ n) : Ints k w lo (some ⟨g, o + i, none⟩) m (c - i) ((l.drop i).take m) := by
  have hl := h.len
  have hc := h.cap
  refine ⟨by simp; omega, by omega, fun hp => ?_⟩
  obtain ⟨g', o', e, h1, h2, h3⟩ := h.2.2 (by omega)
  injection e with e
  injection e with e1 e2
  subst e1; subst e2
  refine ⟨g, o + i, rfl, h1, h2, fun q u hu => ?_⟩
  rw [Nat.add_assoc]
  refine h3 (i + q) u ?_
  rw [List.map_take, List.map_drop] at hu
  rw [List.getElem?_take] at hu
  split at hu
  · rw [List.getElem?_drop] at hu; exact hu
  · cases hu
theorem Ints.recap {k : IntKind} {w : World} {lo n c c' : Nat} {A : Option Addr} {l : List Int} (h : Ints k w lo A n c l) (hc : n ≤ c') : Ints k w lo A n c' l := ⟨h.1, hc, h.2.2⟩
theorem Ints.subTo {k : IntKind} {w : World} {lo g o n c : Nat} {l : List Int} (h : Ints k w lo (some ⟨g, o, none⟩) n c l) (i : Nat) (hj : i ≤ n) : Ints k w lo (some ⟨g, o + i, none⟩) (n - i) (c - i) (l.drop i) := by
  have := h.sub i (n - i) (by omega)
  rwa [List.take_of_length_le (by rw [List.length_drop, h.len]; exact Nat.le_refl _)] at this
theorem Ints.cutTo {k : IntKind} {w : World} {lo g o n c : Nat} {l : List Int} (h : Ints k w lo (some ⟨g, o, none⟩) n c l) (i : Nat) (hj : i ≤ n) : Ints k w lo (if c = i then some ⟨g, o, none⟩ else some ⟨g, o + i, none⟩) (n - i) (c - i) (l.drop i) := by
  by_cases hc : c = i
  · have hn : n - i = 0 := by have := h.cap; omega
    rw [if_pos hc, hn, List.drop_eq_nil_of_le (by rw [h.len]; omega)]
    exact Ints.none_
  · rw [if_neg hc]; exact h.subTo i hj
theorem Ints.tail0 {k : IntKind} {w : World} {lo g n c : Nat} {l : List Int} (h : Ints k w lo (some ⟨g, 0, none⟩) n c l) (i c' : Nat) (hj : i ≤ n) (hc : n - i ≤ c') : Ints k w lo (some ⟨g, i, none⟩) (n - i) c' (l.drop i) := by
  have := (h.subTo i hj).recap hc
  rwa [Nat.zero_add] at this
theorem Ints.cut0 {k : IntKind} {w : World} {lo g n c : Nat} {l : List Int} (h : Ints k w lo (some ⟨g, 0, none⟩) n c l) (i : Nat) (hj : i ≤ n) : Ints k w lo (if c = i then some ⟨g, 0, none⟩ else some ⟨g, i, none⟩) (n - i) (c - i) (l.drop i) := by
  have := h.cutTo i hj
  rwa [Nat.zero_add] at this
theorem Ints.none0 {k : IntKind} {w : World} {lo n c : Nat} {A A' : Option Addr} {l : List Int} (h : Ints k w lo A n c l) (i c' : Nat) (hj : n ≤ i) : Ints k w lo A' (n - i) c' (l.drop i) := by
  rw [show n - i = 0 by omega, List.drop_eq_nil_of_le (by rw [h.len]; exact hj)]
  exact Ints.none_
theorem take_snoc' {α : Type} {l : List α} {i : Nat} {z : α} (h : l[i]? = some z) : l.take (i + 1) = l.take i ++ [z] := by
  obtain ⟨hl, rfl⟩ := List.getElem?_eq_some_iff.1 h
  exact List.take_succ_eq_append_getElem hl
theorem mem_of_get {α : Type} {l : List α} {i : Nat} {z : α} (h : l[i]? = some z) : z ∈ l := List.mem_of_getElem? h
end
end Go.Proofs.YtelpakmiciilgaaGreatDoor
/- Strings as lists of bytes. Conditions: none. -/
namespace Go.Proofs.YtelpakmiciilgaaGreatDoor
section
/-- The bytes of a string, as numbers. -/
def nb (s : ByteArray) : List Nat := s.data.toList.map UInt8.toNat
/-- A string of bytes. -/
def strN (l : List Nat) : ByteArray := ⟨(l.map Nat.toUInt8).toArray⟩
theorem nb_len (s : ByteArray) : (nb s).length = s.size := by unfold nb; rw [List.length_map]; rfl
theorem nb_lt {s : ByteArray} {b : Nat} (h : b ∈ nb s) : b < 256 := by
  obtain ⟨u, _, rfl⟩ := List.mem_map.1 h
  exact u.toNat_lt
theorem strN_nb (s : ByteArray) : strN (nb s) = s := by
  cases s with
  | mk d =>
    unfold strN nb
    rw [List.map_map, show (Nat.toUInt8 ∘ UInt8.toNat) = id from funext fun u => by simp, List.map_id]
theorem nb_strN {l : List Nat} (h : ∀ b ∈ l, b < 256) : nb (strN l) = l := by
  unfold nb strN
  simp only [List.map_map]
  conv => rhs; rw [← List.map_id l]
  apply List.map_congr_left
  intro b hb
  simp [Nat.mod_eq_of_lt (h b hb)]
theorem nb_inj {s t : ByteArray} (h : nb s = nb t) : s = t := by rw [← strN_nb s, h, strN_nb]
theorem nb_eq {s : ByteArray} {l : List Nat} (h : nb s = l) : s = strN l := by rw [← h, strN_nb]
theorem nb_append (s t : ByteArray) : nb (s ++ t) = nb s ++ nb t := by
  unfold nb
  rw [ByteArray.data_append, Array.toList_append, List.map_append]
theorem nb_extract (s : ByteArray) (a b : Nat) : nb (s.extract a b) = ((nb s).take b).drop a := by
  unfold nb
  rw [ByteArray.data_extract, Array.toList_extract, ← List.map_take, ← List.map_drop]
  rw [List.extract_eq_take_drop, List.drop_take]
theorem nb_get {s : ByteArray} {k : Nat} (h : k < s.size) : s[k].toNat = (nb s).getD k 0 := by
  unfold nb
  rw [List.getD_eq_getElem?_getD, List.getElem?_map]
  have hk : k < s.data.toList.length := by rw [Array.length_toList]; exact h
  rw [List.getElem?_eq_getElem hk]
  rfl
theorem strN_append (a b : List Nat) : strN a ++ strN b = strN (a ++ b) := by
  unfold strN
  apply ByteArray.ext
  rw [ByteArray.data_append]
  simp
theorem strN_size (l : List Nat) : (strN l).size = l.length := by simp [strN, ByteArray.size]
theorem strN_extract (l : List Nat) (a b : Nat) : (strN l).extract a b = strN ((l.take b).drop a) := by
  unfold strN
  apply ByteArray.ext
  rw [ByteArray.data_extract]
  apply Array.ext'
  simp [List.extract_eq_take_drop, List.map_drop, List.map_take, List.drop_take]
theorem str_nil {t : ByteArray} (h : nb t = []) : t.toList = [] := by
  rw [ByteArray.toList_eq]
  unfold nb at h
  simpa using h
theorem str_full {t : ByteArray} (h : ¬ nb t = []) : (t.toList == []) = false ∧ t.toList.isEmpty = false ∧ 0 < t.size := by
  have h1 : ¬ t.toList = [] := fun e => h (by unfold nb; rw [← ByteArray.toList_eq, e]; rfl)
  refine ⟨by rw [beq_eq_false_iff_ne]; exact h1, by rw [List.isEmpty_eq_false_iff]; exact h1, ?_⟩
  rcases Nat.eq_zero_or_pos t.size with h2 | h2
  · exact absurd (List.eq_nil_of_length_eq_zero (by rw [nb_len]; exact h2)) h
  · exact h2
end
end Go.Proofs.YtelpakmiciilgaaGreatDoor
/- A string as one cell; is a string among some. Conditions: none. -/
namespace Go.Proofs.YtelpakmiciilgaaGreatDoor
section
def srow (s : ByteArray) : List Value := [.string s]
theorem srow_len (s : ByteArray) : (srow s).length = 1 := rfl
/-- Is a string among some? -/
def memS (L : List ByteArray) (k : ByteArray) : Bool := L.any (fun x => nb x == nb k)
theorem memS_nil (k : ByteArray) : memS [] k = false := rfl
theorem memS_snoc (L : List ByteArray) (x k : ByteArray) : memS (L ++ [x]) k = (memS L k || nb x == nb k) := by
  unfold memS; rw [List.any_append]; simp
end
end Go.Proofs.YtelpakmiciilgaaGreatDoor
/- Sets of strings: a map[string]bool that a call makes. Conditions: none. -/
namespace Go.Proofs.YtelpakmiciilgaaGreatDoor
section
open Go.RowKit Go.Maps Go.WideMaps

theorem plainElem_bool_of {P : Program} {e : TypeId} (he : P.underlying e = some .bool) {v : Value} {z : DataW Unit × List MemPlace} (h : plainElem P e v = some z) : ∃ x, v = .bool x ∧ z = (.lit (.bool x), []) := by
  unfold plainElem at h
  rw [he] at h
  cases v <;> simp at h
  exact ⟨_, rfl, h.symm⟩

theorem Tryz.keyS : Keyed Tryz.prog 9 := string_keyed Tryz.underlying9
theorem Tryz.zeroBS (w : World) : (zeroValue 4).run Tryz.prog w = .ok (.bool false) w := by kernel_rfl

theorem nb_data {s t : ByteArray} : nb s = nb t ↔ s.data.toList = t.data.toList :=
  ⟨fun h => by rw [nb_inj h], fun h => by unfold nb; rw [h]⟩
/-- The map in block b is the set of the strings of L; it has s entries. -/
def SetS (w : World) (b n : Nat) (L : List ByteArray) (s : Nat) : Prop :=
  ∃ D : DataW Unit, w.ownsMap Tryz.prog 9 (plainElem Tryz.prog 4) b n D ∧ Maps.Tidy D ∧ (∀ k : ByteArray, Maps.has D (.string k.data.toList) = memS L k) ∧ (∀ k : ByteArray, memS L k = true → D.atKey (.string k.data.toList) (.lit (.bool false)) = .lit (.bool true)) ∧ Maps.size D = s
section
variable {w w' : World} {b n s : Nat} {L : List ByteArray}
theorem SetS.new (w : World) : SetS (w.alloc (.map #[] 0)) w.heap.size 0 [] 0 := ⟨.map [], World.ownsMap_made _ _ _ _, Maps.tidy_empty, fun k => rfl, fun k h => absurd h (by simp [memS]), rfl⟩
theorem SetS.kept {row : Option Nat} (h : SetS w b n L s) (hg : w.grownBy w' row) (hne : some b ≠ row) : SetS w' b n L s := by
  obtain ⟨D, h1, h2⟩ := h
  exact ⟨D, h1.kept hg hne, h2⟩
theorem SetS.look (h : SetS w b n L s) {k : ByteArray} (hw : k.size ≤ maxLen) : (Instr.lookup 138 (.map (some b)) (.string k) false).run Tryz.prog w = .ok (.bool (memS L k)) w := by
  obtain ⟨D, h1, h2, h3, h4, _⟩ := h
  obtain ⟨v, ps, hrun, hv⟩ := h1.lookup Tryz.keyS Tryz.underlying138 (Tryz.zeroBS w) (plainElem_bool Tryz.underlying4 false) (keyOf_string_mk Tryz.underlying9 hw)
  obtain ⟨x, rfl, hx⟩ := plainElem_bool_of Tryz.underlying4 hv
  simp only [Prod.mk.injEq] at hx
  have hx1 := hx.1
  have e : x = memS L k := by
    cases hc : memS L k
    · have hh : Maps.has D (.string k.data.toList) = false := by rw [h3, hc]
      rw [Maps.atKey_of_not_has hh] at hx1
      simp only [DataW.lit.injEq, Lit.bool.injEq] at hx1
      exact Eq.symm hx1
    · rw [h4 k hc] at hx1
      simp only [DataW.lit.injEq, Lit.bool.injEq] at hx1
      exact Eq.symm hx1
  rw [hrun, e]
theorem SetS.put (h : SetS w b n L s) (hn : n < maxLen) {k : ByteArray} (hw : k.size ≤ maxLen) : ∃ w', (Instr.mapUpdate 138 (.map (some b)) (.string k) (.bool true)).run Tryz.prog w = .ok () w' ∧ SetS w' b (n + 1) (L ++ [k]) (if memS L k then s else s + 1) ∧ w.grownBy w' (some b) := by
  obtain ⟨D, h1, h2, h3, h4, h5⟩ := h
  obtain ⟨w', hrun, ho, hg⟩ := h1.update Tryz.keyS Tryz.underlying138 hn (keyOf_string_mk Tryz.underlying9 hw) (plainElem_bool Tryz.underlying4 true)
  have hk : WideAt.IsKeyLit (.string k.data.toList) := Tryz.keyS.key (keyOf_string_mk Tryz.underlying9 hw)
  refine ⟨w', hrun, ⟨_, ho, h2.put hk _, fun k' => ?_, fun k' hc => ?_, ?_⟩, hg⟩
  · by_cases e : nb k = nb k'
    · rw [← nb_data.1 e, Maps.has_put_same h2.isMap hk, memS_snoc]; simp [e]
    · have e' : k'.data.toList ≠ k.data.toList := fun h => e (nb_data.2 h.symm)
      rw [Maps.has_put_other (by simpa using e'), h3, memS_snoc]
      simp [e]
  · by_cases e : nb k = nb k'
    · rw [← nb_data.1 e, Maps.atKey_put_same h2.isMap hk]
    · have e' : k'.data.toList ≠ k.data.toList := fun h => e (nb_data.2 h.symm)
      rw [Maps.atKey_put_other (by simpa using e')]
      refine h4 k' ?_
      rw [memS_snoc] at hc
      simpa [e] using hc
  · rw [Maps.size_put h2, h3, h5]
theorem SetS.len (h : SetS w b n L s) (ty : TypeId) : (Builtin.len_ #[138] ty #[.map (some b)]).run Tryz.prog w = .ok (.int .i64 s) w := by
  obtain ⟨D, h1, _, _, _, h5⟩ := h
  rw [h1.len Tryz.underlying138 ty, h5]
end
section
variable {w : World} {ops : Array Oper} {rest : List Oper} {o : Oper} {a : Act} {Q : Exit → Act → World → Prop} {b n s : Nat} {L : List ByteArray}
theorem wpl_slook (hgd : o.guard = none) (m x : Operand) (hop : o.op = Op.lookup 138 m x false) (hm : a.eval m = .map (some b)) (k : ByteArray) (hx : a.eval x = .string k) (hw : k.size ≤ maxLen) (h : SetS w b n L s)
    (hK : wpList Tryz.prog ops Q rest (a.put o.dst (.bool (memS L k))) w) : wpList Tryz.prog ops Q (o :: rest) a w := by
  refine wpList_plain hgd fun K' hK' => ?_
  unfold Oper.wp
  simp [execOp, hop, hm, hx, h.look hw, Result.andThen]
  exact hK' _ _ hK
theorem wpl_sput (hgd : o.guard = none) (m x v : Operand) (hop : o.op = Op.mapUpdate 138 m x v) (hm : a.eval m = .map (some b)) (k : ByteArray) (hx : a.eval x = .string k) (hv : a.eval v = .bool true) (hw : k.size ≤ maxLen) (h : SetS w b n L s) (hn : n < maxLen)
    (hK : ∀ w', SetS w' b (n + 1) (L ++ [k]) (if memS L k then s else s + 1) → w.grownBy w' (some b) → wpList Tryz.prog ops Q rest (a.put o.dst undef) w') : wpList Tryz.prog ops Q (o :: rest) a w := by
  refine wpList_plain hgd fun K' hK' => ?_
  obtain ⟨w', hrun, h1, h2⟩ := h.put hn hw
  unfold Oper.wp
  simp [execOp, hop, hm, hx, hv, hrun, Result.andThen]
  exact hK' _ _ (hK w' h1 h2)
theorem wpl_slen (hgd : o.guard = none) (m : Operand) (hop : o.op = Op.call { callee := Callee.builtin Builtin.len, args := #[m], argTypes := #[138] }) (hm : a.eval m = .map (some b)) (h : SetS w b n L s)
    (hK : wpList Tryz.prog ops Q rest (a.put o.dst (.int .i64 s)) w) : wpList Tryz.prog ops Q (o :: rest) a w := by
  refine wpList_plain hgd fun K' hK' => ?_
  unfold Oper.wp
  simp [execOp, hop, resolve, invoke, builtin, hm, h.len o.type, Result.andThen]
  exact hK' _ _ hK
end
end
end Go.Proofs.YtelpakmiciilgaaGreatDoor
/- A region that draws its order, walked once, in one order: loads and reckoning are taken first under a condition S on the world; the last operation may break S. Over any program. Conditions: none. -/
namespace Go.Proofs.YtelpakmiciilgaaGreatDoor
section
section
variable {P : Program} {ops : Array Oper} {Q : Exit → Act → World → Prop} {md : Region.Mode} {S : World → Prop} {last : Nat}

/-- Operations that only reckon or load. -/
def calmOp (o : Oper) : Bool :=
  match o.op with
  | .move _ | .assign _ | .pick .. | .build .. | .load .. | .nilCheck _ | .binOp .. | .unOp .. | .convert .. | .makeInterface .. | .slice .. | .fieldAddr .. | .field .. | .indexAddr .. | .index .. | .extract .. => true
  | .call c => match c.callee with | .builtin .len => true | .builtin .cap => true | _ => false
  | _ => false

/-- Whatever order is picked from here on; S holds behind every operation but the last. -/
def wpAnyE (P : Program) (md : Region.Mode) (ops : Array Oper) (Q : Exit → Act → World → Prop) (S : World → Prop) (last : Nat) : Nat → Array Bool → Act → World → Prop
  | 0, listed, a, w => Region.ready md ops listed = [] ∧ Q .normal a w
  | fuel + 1, listed, a, w =>
    (Region.ready md ops listed = [] → Q .normal a w) ∧
    ∀ i ∈ Region.ready md ops listed, wpOp P ops Q i (fun a' w' => (i = last ∨ S w') ∧ wpAnyE P md ops Q S last fuel (listed.setIfInBounds i true) a' w') a w

theorem wpAny_of_E : ∀ (fuel : Nat) (listed : Array Bool) (a : Act) (w : World), wpAnyE P md ops Q S last fuel listed a w → wpAny P md ops Q fuel listed a w
  | 0, _, _, _, h => h
  | fuel + 1, _, _, _, h => ⟨h.1, fun i hi => wpOp_mono (fun a' w' h' => wpAny_of_E fuel _ a' w' h'.2) (h.2 i hi)⟩

theorem head_set {n i : Nat} {listed : Array Bool} (inv : HeadInv md ops n listed) (hi : i ∈ Region.ready md ops listed) (hin : i < n) : HeadInv md ops n (listed.setIfInBounds i true) := inv.set hi hin

theorem wpAnyE_first {i : Nat} {oi : Oper} {v : Value} (hi : ops[i]? = some oi) (hsel : ∀ (j : Nat) (o : Oper) cs b, ops[j]? = some o → o.op ≠ .select cs b)
    (hQ : ∀ c a w, Q (.panic c) (a.put oi.dst v) w → Q (.panic c) a w)
    (hs : Region.sinkB md ops last = true) (hc : Region.chainB md ops last = true) (hn : last < ops.size) (hin : i < last) :
    ∀ (fuel : Nat) (listed : Array Bool) (a : Act) (w : World), HeadInv md ops last listed →
      (∀ j oj, ops[j]? = some oj → j ≠ i → listed.getD j true = false → (∀ e ∈ oj.after, Region.binds md e = true → e.on ≠ i) → oi.apart ops oj = true) →
      i ∈ Region.ready md ops listed → YieldsIf P ops S oi v a → S w →
      wpAnyE P md ops Q S last fuel (listed.setIfInBounds i true) (a.put oi.dst v) w → wpAnyE P md ops Q S last (fuel + 1) listed a w := by
  intro fuel
  induction fuel with
  | zero =>
    intro listed a w inv _ hr hy hS H
    refine ⟨fun h => (by rw [h] at hr; cases hr), fun j hj => ?_⟩
    by_cases hji : j = i
    · subst hji; exact hy.wpOp hi hS ⟨.inr hS, H⟩
    · have := ready_mono hj hji
      rw [H.1] at this
      cases this
  | succ fuel ih =>
    intro listed a w inv hfree hr hy hS H
    have hun := (mem_ready.1 hr).1
    refine ⟨fun h => (by rw [h] at hr; cases hr), fun j hj => ?_⟩
    have hjn : j < last := by
      rcases Nat.lt_or_ge j last with h | h
      · exact h
      · exact absurd hj (tail_waits hs hc hn inv _ i rfl hin hun j h)
    by_cases hji : j = i
    · subst hji; exact hy.wpOp hi hS ⟨.inr hS, H⟩
    · have h1 := H.2 j (ready_mono hj hji)
      obtain ⟨hjun, oj, hoj, hall⟩ := mem_ready.1 hj
      have hnot : ∀ e ∈ oj.after, Region.binds md e = true → e.on ≠ i := fun e he hb heq => by
        have h1 := hall e he hb
        rw [heq, getD_both hun] at h1
        cases h1
      have h2 := wpOp_putIf hoj (hfree j oj hoj hji hjun hnot) (fun cs b => hsel i oi cs b hi) (fun cs b => hsel j oj cs b hoj) hQ hy h1
      have hfree' : ∀ k ok, ops[k]? = some ok → k ≠ i → (listed.setIfInBounds j true).getD k true = false →
          (∀ e ∈ ok.after, Region.binds md e = true → e.on ≠ i) → oi.apart ops ok = true := fun k ok hk hki hkun hno => by
        refine hfree k ok hk hki ?_ hno
        by_cases hjk : j = k
        · subst hjk; exact hjun
        · rw [getD_set_ne true hjk] at hkun; exact hkun
      refine wpOp_mono (fun a' w' h3 => ?_) h2
      have hSw : S w' := h3.2.1.resolve_left (by omega)
      refine ⟨.inr hSw, ih (listed.setIfInBounds j true) a' w' (inv.set hj hjn) hfree' (ready_mono hr (Ne.symm hji)) h3.1 hSw ?_⟩
      rw [Array.setIfInBounds_comm _ _ hji]
      exact h3.2.2

/-- An order: each operation that only reckons or loads may be taken first, each other one comes up alone. -/
def lexB (md : Region.Mode) (ops : Array Oper) (last : Nat) : List Nat → Array Bool → Bool
  | [], listed => (Region.ready md ops listed).isEmpty
  | k :: l, listed =>
    (match ops[k]? with
      | some o => if calmOp o then decide (k < last) && (Region.ready md ops listed).contains k && Region.free md ops listed k else decide (Region.ready md ops listed = [k])
      | none => false) && (decide (k ≠ last) || l.isEmpty) && lexB md ops last l (listed.setIfInBounds k true)
def lexAll (md : Region.Mode) (ops : Array Oper) (perm : List Nat) : Bool :=
  Region.noSelect ops && decide (0 < ops.size) && decide (perm.length = ops.size) && Region.sinkB md ops (ops.size - 1) && lexB md ops (ops.size - 1) perm (Array.replicate ops.size false)

/-- The walk in that order. -/
def wpLex (P : Program) (ops : Array Oper) (Q : Exit → Act → World → Prop) (S : World → Prop) (last : Nat) : List Nat → Act → World → Prop
  | [], a, w => Q .normal a w
  | k :: l, a, w =>
    ∃ o, ops[k]? = some o ∧
    if calmOp o then ∃ v, YieldsIf P ops S o v a ∧ S w ∧ (∀ c a w, Q (.panic c) (a.put o.dst v) w → Q (.panic c) a w) ∧ wpLex P ops Q S last l (a.put o.dst v) w
    else wpOp P ops Q k (fun a' w' => (k = last ∨ S w') ∧ wpLex P ops Q S last l a' w') a w

theorem wpAnyE_of_lex (hsel : Region.noSelect ops = true) (hs : Region.sinkB md ops last = true) (hc : Region.chainB md ops last = true) (hn : last + 1 = ops.size) :
    ∀ (l : List Nat) (listed : Array Bool) (a : Act) (w : World), (l ≠ [] → HeadInv md ops last listed) →
    lexB md ops last l listed = true → wpLex P ops Q S last l a w → wpAnyE P md ops Q S last l.length listed a w
  | [], listed, _, _, _, hB, h => ⟨by simpa [lexB] using hB, h⟩
  | k :: l, listed, a, w, inv0, hB, h => by
    have inv := inv0 (by simp)
    simp only [lexB, Bool.and_eq_true] at hB
    simp only [wpLex] at h
    obtain ⟨o, h0, h⟩ := h
    rw [h0] at hB
    obtain ⟨⟨hB1, hB3⟩, hB2⟩ := hB
    have hkn : k < ops.size := (Array.getElem?_eq_some_iff.1 h0).1
    by_cases hcalm : calmOp o = true
    · simp only [hcalm, if_true, Bool.and_eq_true, decide_eq_true_eq] at hB1 h
      obtain ⟨⟨hlt, hr⟩, hf⟩ := hB1
      obtain ⟨v, hy, hS, hQ, hK⟩ := h
      have hr' : k ∈ Region.ready md ops listed := by simpa using hr
      exact wpAnyE_first h0 (Region.noSelect_spec hsel) hQ hs hc (by omega) hlt l.length listed a w inv (Region.free_spec h0 hf) hr' hy hS
        (wpAnyE_of_lex hsel hs hc hn l _ _ w (fun _ => inv.set hr' hlt) hB2 hK)
    · simp only [hcalm, Bool.false_eq_true, if_false] at hB1 h
      have hrd : Region.ready md ops listed = [k] := of_decide_eq_true hB1
      refine ⟨fun h1 => (by rw [hrd] at h1; cases h1), fun i hi => ?_⟩
      have hi' := hi
      rw [hrd] at hi
      have hik : i = k := by simpa using hi
      subst hik
      refine wpOp_mono (fun a' w' h' => ⟨h'.1, ?_⟩) h
      refine wpAnyE_of_lex hsel hs hc hn l _ a' w' (fun hne => inv.set hi' ?_) hB2 h'.2
      rw [Bool.or_eq_true, decide_eq_true_eq, List.isEmpty_iff] at hB3
      have := hB3.resolve_right hne
      omega

theorem wp_region_lex {id : Nat} {a : Act} {w : World} (S : World → Prop) (perm : List Nat) (hm : P.follows .mixedOrders = true) (hB : lexAll .any ops perm = true)
    (h : wpLex P ops Q S (ops.size - 1) perm a w.drew) : (Code.region id ops true).wp P Q a w := by
  simp only [lexAll, Bool.and_eq_true, decide_eq_true_eq] at hB
  obtain ⟨⟨⟨⟨hsel, h0⟩, hlen⟩, hs⟩, hlex⟩ := hB
  have hc : Region.chainB .any ops (ops.size - 1) = true := by
    unfold Region.chainB
    rw [List.all_eq_true]
    intro t ht
    have := List.mem_range.1 ht
    rw [Bool.or_eq_true]
    exact .inl (decide_eq_true (by omega))
  have inv0 : HeadInv .any ops (ops.size - 1) (Array.replicate ops.size false) :=
    ⟨by simp, fun j oj _ hl => (by rw [getD_replicate_false] at hl; cases hl), fun t _ ht => getD_in (by simpa using ht) (getD_replicate_false _ _)⟩
  refine wp_region_any hm (wpAny_of_E (S := S) (last := ops.size - 1) _ _ _ _ ?_)
  have := wpAnyE_of_lex (md := .any) hsel hs hc (by omega) perm _ a w.drew (fun _ => inv0) hlex h
  rw [hlen] at this
  exact this

/-! The moves. -/
/-- An operation of a list, so that a look at it reckons. -/
def opAt : List Oper → Nat → Option Oper
  | [], _ => none
  | o :: _, 0 => some o
  | _ :: l, n + 1 => opAt l n
theorem opAt_eq : ∀ (l : List Oper) (k : Nat), opAt l k = l.toArray[k]?
  | [], _ => by simp [opAt]
  | o :: l, 0 => by simp [opAt]
  | o :: l, n + 1 => by have := opAt_eq l n; simpa [opAt] using this
variable {ls : List Oper}
theorem lex_take {o : Oper} {l : List Nat} {k : Nat} {a : Act} {w : World} (v : Value) (ho : opAt ls k = some o) (hc : calmOp o = true) (hQ : ∀ c a w, Q (.panic c) (a.put o.dst v) w → Q (.panic c) a w)
    (hw : Region.wanted o (yielded ls.toArray a.tmps) = true) (hy : ∀ w, S w → (execOp a.eval o).run P w = .ok (.value v) w) (hS : S w)
    (h : wpLex P ls.toArray Q S last l (a.put o.dst v) w) : wpLex P ls.toArray Q S last (k :: l) a w := by
  simp only [wpLex]
  rw [opAt_eq] at ho
  refine ⟨o, ho, ?_⟩
  rw [if_pos hc]
  exact ⟨v, .inl ⟨hw, hy⟩, hS, hQ, h⟩
theorem lex_skip {o : Oper} {l : List Nat} {k : Nat} {a : Act} {w : World} (ho : opAt ls k = some o) (hc : calmOp o = true) (hQ : ∀ c a w, Q (.panic c) (a.put o.dst undef) w → Q (.panic c) a w)
    (hw : Region.wanted o (yielded ls.toArray a.tmps) = false) (hS : S w)
    (h : wpLex P ls.toArray Q S last l (a.put o.dst undef) w) : wpLex P ls.toArray Q S last (k :: l) a w := by
  simp only [wpLex]
  rw [opAt_eq] at ho
  refine ⟨o, ho, ?_⟩
  rw [if_pos hc]
  exact ⟨undef, .inr ⟨hw, rfl⟩, hS, hQ, h⟩
theorem lex_run {o : Oper} {l : List Nat} {k : Nat} {a : Act} {w : World} (ho : opAt ls k = some o) (hc : calmOp o = false) (hw : Region.wanted o (yielded ls.toArray a.tmps) = true)
    (h : ∀ K : Act → World → Prop, (∀ a' w', (k = last ∨ S w') → wpLex P ls.toArray Q S last l a' w' → K a' w') → o.wp P a w K Q) : wpLex P ls.toArray Q S last (k :: l) a w := by
  simp only [wpLex]
  rw [opAt_eq] at ho
  refine ⟨o, ho, ?_⟩
  rw [if_neg (by rw [hc]; decide)]
  unfold wpOp
  simp only [ho, hw, if_true]
  exact .inl (h _ fun a' w' h1 h2 => ⟨h1, h2⟩)
theorem lex_pass {o : Oper} {l : List Nat} {k : Nat} {a : Act} {w : World} (ho : opAt ls k = some o) (hc : calmOp o = false) (hw : Region.wanted o (yielded ls.toArray a.tmps) = false) (hS : S w)
    (h : wpLex P ls.toArray Q S last l (a.put o.dst undef) w) : wpLex P ls.toArray Q S last (k :: l) a w := by
  simp only [wpLex]
  rw [opAt_eq] at ho
  refine ⟨o, ho, ?_⟩
  rw [if_neg (by rw [hc]; decide)]
  unfold wpOp
  simp only [ho, hw, Bool.false_eq_true, if_false]
  exact ⟨.inr hS, h⟩
theorem lex_end {a : Act} {w : World} (h : Q .normal a w) : wpLex P ls.toArray Q S last [] a w := h
end
end
end Go.Proofs.YtelpakmiciilgaaGreatDoor
/- The order of strings: Compare and the walk's own words for it. Over any program. Conditions: none. -/
namespace Go.Proofs.YtelpakmiciilgaaGreatDoor
section

/-! Lists of bytes. -/
theorem cb_range : ∀ (x y : List UInt8), Lib.compareBytes x y = -1 ∨ Lib.compareBytes x y = 0 ∨ Lib.compareBytes x y = 1
  | [], [] => .inr (.inl rfl)
  | [], _ :: _ => .inl rfl
  | _ :: _, [] => .inr (.inr rfl)
  | a :: x, b :: y => by
    unfold Lib.compareBytes
    split
    · exact .inl rfl
    · split
      · exact .inr (.inr rfl)
      · exact cb_range x y
theorem u8_tri {a b : UInt8} (h1 : ¬ a < b) (h2 : ¬ b < a) : a = b := by
  rw [UInt8.lt_iff_toNat_lt] at h1 h2
  exact UInt8.toNat_inj.1 (by omega)
theorem cb_zero : ∀ (x y : List UInt8), Lib.compareBytes x y = 0 ↔ x = y
  | [], [] => by simp [Lib.compareBytes]
  | [], _ :: _ => by simp [Lib.compareBytes]
  | _ :: _, [] => by simp [Lib.compareBytes]
  | a :: x, b :: y => by
    unfold Lib.compareBytes
    split
    · rename_i h
      constructor
      · intro h2; cases h2
      · intro h2; injection h2 with h3; subst h3; exact absurd h (UInt8.lt_irrefl _)
    · split
      · rename_i h
        constructor
        · intro h2; cases h2
        · intro h2; injection h2 with h3; subst h3; exact absurd h (UInt8.lt_irrefl _)
      · rename_i h1 h2
        have := u8_tri h1 h2
        subst this
        rw [cb_zero x y]
        simp
theorem cb_neg : ∀ (x y : List UInt8), Lib.compareBytes y x = - Lib.compareBytes x y
  | [], [] => rfl
  | [], _ :: _ => rfl
  | _ :: _, [] => rfl
  | a :: x, b :: y => by
    unfold Lib.compareBytes
    by_cases h1 : a < b
    · have h2 : ¬ b < a := fun h => by rw [UInt8.lt_iff_toNat_lt] at h1 h; omega
      rw [if_pos h1, if_neg h2, if_pos h1]; rfl
    · by_cases h2 : b < a
      · rw [if_pos h2, if_neg h1, if_pos h2]
      · rw [if_neg h1, if_neg h2, if_neg h2, if_neg h1]; exact cb_neg x y
theorem cb_trans : ∀ (x y z : List UInt8), Lib.compareBytes x y < 0 → Lib.compareBytes y z < 0 → Lib.compareBytes x z < 0
  | [], [], _, h, _ => by simp [Lib.compareBytes] at h
  | [], _ :: _, [], _, h => by simp [Lib.compareBytes] at h
  | [], _ :: _, _ :: _, _, _ => by simp [Lib.compareBytes]
  | _ :: _, [], _, h, _ => by simp [Lib.compareBytes] at h
  | _ :: _, _ :: _, [], _, h => by simp [Lib.compareBytes] at h
  | a :: x, b :: y, c :: z, h1, h2 => by
    unfold Lib.compareBytes at h1 h2 ⊢
    simp only [UInt8.lt_iff_toNat_lt] at h1 h2 ⊢
    split at h1
    · split at h2
      · rw [if_pos (by omega)]; decide
      · split at h2
        · exact absurd h2 (by decide)
        · rw [if_pos (by omega)]; decide
    · split at h1
      · exact absurd h1 (by decide)
      · split at h2
        · rw [if_pos (by omega)]; decide
        · split at h2
          · exact absurd h2 (by decide)
          · rw [if_neg (by omega), if_neg (by omega)]; exact cb_trans x y z h1 h2
theorem cb_less : ∀ (x y : List UInt8), Op.bytesLess x y = decide (Lib.compareBytes x y < 0)
  | [], [] => rfl
  | [], _ :: _ => rfl
  | _ :: _, [] => rfl
  | a :: x, b :: y => by
    unfold Op.bytesLess Lib.compareBytes
    rw [cb_less x y]
    by_cases h1 : a < b
    · rw [if_pos h1, decide_eq_true h1]; rfl
    · rw [if_neg h1, decide_eq_false h1]
      by_cases h2 : b < a
      · rw [if_pos h2]
        have : (a == b) = false := by rw [beq_eq_false_iff_ne]; rintro rfl; exact absurd h2 (UInt8.lt_irrefl _)
        rw [this]; rfl
      · rw [if_neg h2]
        have := u8_tri h1 h2
        subst this
        simp

/-! Strings. -/
def cmpS (a b : ByteArray) : Int := Lib.compareBytes a.data.toList b.data.toList
theorem cmpS_range (a b : ByteArray) : cmpS a b = -1 ∨ cmpS a b = 0 ∨ cmpS a b = 1 := cb_range _ _
theorem cmpS_zero {a b : ByteArray} : cmpS a b = 0 ↔ nb a = nb b := by
  unfold cmpS
  rw [cb_zero]
  constructor
  · intro h; unfold nb; rw [h]
  · intro h; rw [nb_inj h]
theorem cmpS_neg (a b : ByteArray) : cmpS b a = - cmpS a b := cb_neg _ _
theorem cmpS_trans {a b c : ByteArray} (h1 : cmpS a b < 0) (h2 : cmpS b c < 0) : cmpS a c < 0 := cb_trans _ _ _ h1 h2
theorem cmpS_eqr {a b c : ByteArray} (h : nb b = nb c) : cmpS a b = cmpS a c := by rw [nb_inj h]
theorem cmpS_eql {a b c : ByteArray} (h : nb b = nb c) : cmpS b a = cmpS c a := by rw [nb_inj h]
theorem ltS_cmp (a b : ByteArray) : Op.bytesLess a.toList b.toList = decide (cmpS a b < 0) := by
  rw [cb_less, ByteArray.toList_eq, ByteArray.toList_eq]; rfl
theorem leS_cmp (a b : ByteArray) : (Op.bytesLess a.toList b.toList || a.toList == b.toList) = decide (cmpS a b ≤ 0) := by
  rw [ltS_cmp]
  have h0 : (a.toList == b.toList) = decide (cmpS a b = 0) := by
    unfold cmpS
    rw [Bool.eq_iff_iff, beq_iff_eq, decide_eq_true_eq, cb_zero, ByteArray.toList_eq, ByteArray.toList_eq]
  rw [h0, Bool.eq_iff_iff]
  simp only [Bool.or_eq_true, decide_eq_true_eq]
  omega
end
end Go.Proofs.YtelpakmiciilgaaGreatDoor

/- Words for memory that all later texts share: a block known whole, a slice that reads as a list, the stream of drawn numbers. Conditions: none. -/
import Derived.Below
import Derived.Laws.OwnMore
import Derived.Deep.AppendLies
import Derived.Deep.Draws
import Derived.Laws.Rows
import Derived.Lib.Hide
import Derived.OwnWalk
import Derived.Test.YtpildcnoghojpaaGreatDoorRows
import Derived.WalkKit
import Derived.Deep.QuietTactic
import Derived.BigQuiet
import Derived.Maps.AppendAt
import Derived.RegionTactic
import Derived.Lib.AppendZeros
import Derived.Lib.AppendZerosOnto
import Derived.Laws.Tables
import Derived.Laws.CopyRow
import Derived.Laws.Strings
import Derived.WalkSpells
import Derived.BigGuardPart
import Derived.Deep.RegionHeld3
import Derived.Deep.RegionLaw
import Derived.Deep.DeepFit
import Derived.Outline
import Derived.IntWalk
import Derived.Deep.DeepCutAuto
import Derived.Lib.Bytealg
import Derived.Maps.Own
import Derived.Maps.OwnOps
import Derived.Maps.OwnSet
import Derived.Maps.Views
import Derived.StringKeys
import Derived.OrdersHeld
import Derived.StillTail
import Derived.Tactics
import Derived.Sort.Grow
import Derived.Laws.Cover1
import Derived.Maps.StringElems
import Derived.Laws.BytesString
import Derived.Lib.BufferRead
namespace Go.Proofs.YtpildcnoghojpaaGreatDoor
section
open Go.RowKit

/-! A block that is known whole. -/
def Blk (w : World) (g : Nat) (t : TypeId) (cs : Array Value) : Prop := w.heap[g]? = some (.cells cs t (0, 0))

section
variable {w w' : World} {g : Nat} {t : TypeId} {cs : Array Value}
theorem Blk.lt (h : Blk w g t cs) : g < w.heap.size := by
  rcases Nat.lt_or_ge g w.heap.size with hlt | hge
  · exact hlt
  · unfold Blk at h; rw [Array.getElem?_eq_none hge] at h; cases h
theorem Blk.cell (h : Blk w g t cs) (i : Nat) : w.cell? ⟨g, i, none⟩ = cs[i]? := cell_of_row w g i cs t (0, 0) h
theorem Blk.frozen (h : Blk w g t cs) (i : Nat) : w.frozen? ⟨g, i, none⟩ = false := by
  unfold Blk at h
  simp [World.frozen?, h]
theorem Blk.new (w : World) (t : TypeId) (cs : Array Value) : Blk (w.alloc (.cells cs t)) w.heap.size t cs := heap_alloc_new w _
theorem Blk.drew (h : Blk w g t cs) : Blk w.drew g t cs := h
theorem Blk.drewN (h : Blk w g t cs) (n : Nat) : Blk (w.drewN n) g t cs := h
theorem Blk.alloc (h : Blk w g t cs) (o : Obj) : Blk (w.alloc o) g t cs := (Below.heap_alloc w o g h.lt).trans h
theorem Blk.set_ (h : Blk w g t cs) (i : Nat) (u : Value) : Blk (w.setCell ⟨g, i, none⟩ u) g t (cs.setIfInBounds i u) := by
  unfold Blk at h ⊢
  simp [World.setCell, Array.getElem?_modify, h]
theorem Blk.far (h : Blk w g t cs) {p : Addr} (hp : g ≠ p.block) (u : Value) : Blk (w.setCell p u) g t cs := (Below.heap_setCell w p u g hp).trans h
theorem Blk.grown {row : Option Nat} (h : Blk w g t cs) (hb : w.grownBy w' row) (hg : some g ≠ row) : Blk w' g t cs := (hb.block g h.lt hg).trans h
end

/-! Growth: 'w.grownBy w' row': new blocks, and writes to block 'row' alone. -/
theorem gr_refl (w : World) (row : Option Nat) : w.grownBy w row := World.grownBy.refl w row
theorem gr_drewN {a w : World} {row : Option Nat} (h : a.grownBy w row) (n : Nat) : a.grownBy (w.drewN n) row := ⟨h.os, h.tape, h.output, h.size, h.block⟩
theorem gr_drew {a w : World} {row : Option Nat} (h : a.grownBy w row) : a.grownBy w.drew row := ⟨h.os, h.tape, h.output, h.size, h.block⟩
theorem gr_alloc {a w : World} {row : Option Nat} (h : a.grownBy w row) (o : Obj) : a.grownBy (w.alloc o) row :=
  ⟨h.os, h.tape, h.output, Nat.le_trans h.size (by simp), fun i hi hne => (Below.heap_alloc w o i (Nat.lt_of_lt_of_le hi h.size)).trans (h.block i hi hne)⟩
theorem gr_setCell {a w : World} {row : Option Nat} (h : a.grownBy w row) {p : Addr} (hp : some p.block = row ∨ a.heap.size ≤ p.block) (u : Value) : a.grownBy (w.setCell p u) row :=
  ⟨h.os, h.tape, h.output, by simpa [World.setCell] using h.size, fun i hi hne => (Below.heap_setCell w p u i (by
    rintro rfl
    rcases hp with hp | hp
    · exact hne hp
    · omega)).trans (h.block i hi hne)⟩
theorem gr_below {a w : World} (h : Below a.heap.size a w) (row : Option Nat) : a.grownBy w row := ⟨h.os, h.tape, h.output, h.size, fun i hi _ => h.block i hi⟩
/-- Two growths, one behind the other: what the second one writes to is the first one's row, or new. -/
theorem gr_trans {a b c : World} {row row' : Option Nat} (h : a.grownBy b row) (k : b.grownBy c row') (hr : ∀ g, row' = some g → some g = row ∨ a.heap.size ≤ g) : a.grownBy c row :=
  ⟨k.os.trans h.os, k.tape.trans h.tape, k.output.trans h.output, Nat.le_trans h.size k.size, fun i hi hne => (k.block i (Nat.lt_of_lt_of_le hi h.size) (fun e => by
    rcases hr i e.symm with h1 | h1
    · exact hne h1
    · omega)).trans (h.block i hi hne)⟩
theorem gr_same {a b c : World} {row : Option Nat} (h : a.grownBy b row) (k : b.grownBy c row) : a.grownBy c row := gr_trans h k (fun _ e => .inl e.symm)
theorem gr_none {a b c : World} {row : Option Nat} (h : a.grownBy b row) (k : b.grownBy c none) : a.grownBy c row := gr_trans h k (fun _ e => by cases e)

/-! A slice that reads as a list of cells, nil let in: it lies in blocks from 'lo' on. -/
def Reads (w : World) (lo size : Nat) (A : Option Addr) (n c : Nat) (xs : List Value) : Prop :=
  xs.length = n * size ∧ n ≤ c ∧ (0 < n → ∃ g o, A = some ⟨g, o, none⟩ ∧ lo ≤ g ∧ g < w.heap.size ∧ ∀ j u, xs[j]? = some u → w.cell? ⟨g, o + j, none⟩ = some u)

theorem add_mk (g o i : Nat) : (⟨g, o, none⟩ : Addr).add i = ⟨g, o + i, none⟩ := by
  unfold Addr.add; split
  · simp [*]
  · rfl

section
variable {w w' : World} {lo lo' size n c : Nat} {A : Option Addr} {xs : List Value}
theorem Reads.len (h : Reads w lo size A n c xs) : xs.length = n * size := h.1
theorem Reads.none_ : Reads w lo size A 0 c [] := ⟨by simp, Nat.zero_le _, fun h => absurd h (by omega)⟩
theorem Reads.kept (h : Reads w lo size A n c xs) (hs : w.heap.size ≤ w'.heap.size) (hk : ∀ g, lo ≤ g → g < w.heap.size → w'.heap[g]? = w.heap[g]?) : Reads w' lo size A n c xs :=
  ⟨h.1, h.2.1, fun hn => by
    obtain ⟨g, o, e, hl, hb, hc⟩ := h.2.2 hn
    exact ⟨g, o, e, hl, by omega, fun j u hu => (World.cell?_of_block (hk g hl hb)).trans (hc j u hu)⟩⟩
theorem Reads.lower (h : Reads w lo size A n c xs) (hB : lo' ≤ lo) : Reads w lo' size A n c xs :=
  ⟨h.1, h.2.1, fun hn => by
    obtain ⟨g, o, e, hl, hb, hc⟩ := h.2.2 hn
    exact ⟨g, o, e, by omega, hb, hc⟩⟩
theorem Reads.grown (h : Reads w lo size A n c xs) {row : Option Nat} (hg : w.grownBy w' row) (hr : ∀ g, row = some g → g < lo) : Reads w' lo size A n c xs :=
  h.kept hg.size fun g hl hb => hg.block g hb (fun e => by have := hr _ e.symm; omega)
theorem Reads.drew (h : Reads w lo size A n c xs) : Reads w.drew lo size A n c xs := h
theorem Reads.drewN (h : Reads w lo size A n c xs) (k : Nat) : Reads (w.drewN k) lo size A n c xs := h
theorem Reads.alloc (h : Reads w lo size A n c xs) (o : Obj) : Reads (w.alloc o) lo size A n c xs := h.kept (by simp) fun g _ hg => Below.heap_alloc w o g hg
theorem Reads.at_ {k : Nat} (h : Reads w lo 1 A n c xs) (hk : k < n) : ∃ g o u, A = some ⟨g, o, none⟩ ∧ lo ≤ g ∧ g < w.heap.size ∧ xs[k]? = some u ∧ w.cell? ⟨g, o + k, none⟩ = some u := by
  obtain ⟨g, o, e, hl, hb, hc⟩ := h.2.2 (by omega)
  have hk' : k < xs.length := by have := h.1; omega
  exact ⟨g, o, xs[k], e, hl, hb, List.getElem?_eq_getElem hk', hc k _ (List.getElem?_eq_getElem hk')⟩
theorem Reads.of_own {base : Nat} {e : TypeId} (h : w.ownsRow base e size (.slice A n c) n xs) (hc : n ≤ c) : Reads w base size A n c xs := by
  refine ⟨h.1, hc, fun hn => ?_⟩
  obtain ⟨g, cap, hv, hlo, hlt⟩ := h.form hn
  have hA : A = some ⟨g, 0, none⟩ := by injection hv
  subst hA
  refine ⟨g, 0, rfl, hlo, hlt, fun j u hu => ?_⟩
  have := h.cells (g := g) rfl j u hu
  rw [add_mk] at this
  exact this
end
/-- A slice of integers of one kind. -/
def Ints (k : IntKind) (w : World) (lo : Nat) (A : Option Addr) (n c : Nat) (l : List Int) : Prop := Reads w lo 1 A n c (l.map (Value.int k))
section
variable {k : IntKind} {w w' : World} {lo lo' n c : Nat} {A : Option Addr} {l : List Int}
theorem Ints.len (h : Ints k w lo A n c l) : l.length = n := by have := h.1; simpa using this
theorem Ints.cap (h : Ints k w lo A n c l) : n ≤ c := h.2.1
theorem Ints.at_ {i : Nat} (h : Ints k w lo A n c l) (hi : i < n) : ∃ g o, A = some ⟨g, o, none⟩ ∧ lo ≤ g ∧ g < w.heap.size ∧ w.cell? ⟨g, o + i, none⟩ = some (.int k (l.getD i 0)) := by
  obtain ⟨g, o, u, e, hl, hb, hx, hc⟩ := Reads.at_ h hi
  refine ⟨g, o, e, hl, hb, ?_⟩
  have hl : i < l.length := by rw [h.len]; exact hi
  rw [List.getElem?_map, List.getElem?_eq_getElem hl] at hx
  rw [hc, ← hx]
  simp [List.getD_eq_getElem?_getD, List.getElem?_eq_getElem hl]
theorem Ints.get {i : Nat} (h : Ints k w lo A n c l) (hi : i < n) : ∃ g o z, A = some ⟨g, o, none⟩ ∧ lo ≤ g ∧ g < w.heap.size ∧ l[i]? = some z ∧ w.cell? ⟨g, o + i, none⟩ = some (.int k z) := by
  obtain ⟨g, o, u, e, hl, hb, hx, hc⟩ := Reads.at_ h hi
  have hl' : i < l.length := by rw [h.len]; exact hi
  refine ⟨g, o, l[i], e, hl, hb, List.getElem?_eq_getElem hl', ?_⟩
  rw [List.getElem?_map, List.getElem?_eq_getElem hl'] at hx
  rw [hc, ← hx]
  rfl
theorem Ints.none_ : Ints k w lo A 0 c [] := Reads.none_
theorem Ints.lower (h : Ints k w lo A n c l) (hB : lo' ≤ lo) : Ints k w lo' A n c l := Reads.lower h hB
theorem Ints.grown (h : Ints k w lo A n c l) {row : Option Nat} (hg : w.grownBy w' row) (hr : ∀ g, row = some g → g < lo) : Ints k w' lo A n c l := Reads.grown h hg hr
theorem Ints.alloc (h : Ints k w lo A n c l) (o : Obj) : Ints k (w.alloc o) lo A n c l := Reads.alloc h o
theorem Ints.drew (h : Ints k w lo A n c l) : Ints k w.drew lo A n c l := h
theorem Ints.drewN (h : Ints k w lo A n c l) (j : Nat) : Ints k (w.drewN j) lo A n c l := h
end
theorem take_snoc' {α : Type} {l : List α} {i : Nat} {z : α} (h : l[i]? = some z) : l.take (i + 1) = l.take i ++ [z] := by
  obtain ⟨hl, rfl⟩ := List.getElem?_eq_some_iff.1 h
  exact List.take_succ_eq_append_getElem hl
theorem mem_of_get {α : Type} {l : List α} {i : Nat} {z : α} (h : l[i]? = some z) : z ∈ l := List.mem_of_getElem? h
end
end Go.Proofs.YtpildcnoghojpaaGreatDoor
/- Contracts of the stream of drawn numbers: what is drawn lies in its range, whatever the input. Conditions: none. -/
namespace Go.Proofs.YtpildcnoghojpaaGreatDoor
section
open Go.RowKit

def InRange (n : Int) (w : World) (e : Ending) (w' : World) : Prop := ∃ r : Int, 0 ≤ r ∧ r < n ∧ e = .returned (.int .i64 r) ∧ w = w'

set_option maxHeartbeats 400000 in
theorem below_any (x n : Int) (w : World) (hn : 1 ≤ n) (hn2 : n ≤ 4611686018427387904) :
    Calls Tryz.prog 59 #[.int .i64 x, .int .i64 n] w (InRange n w) := by
  have h1 : x.tmod n < n := Int.tmod_lt_of_pos _ (by omega)
  have h2 : -n < x.tmod n := by have := Int.lt_tmod_of_pos x (b := n) (by omega); omega
  go_enter Tryz.func59, Tryz.ntmps59
  go_wp2
  all_goals
    go_ret
    exact ⟨_, by omega, by omega, rfl, rfl⟩

/-- The stream's struct lies in block sb: the numbers that came in, and how many have been drawn (at most m). -/
def Str (w : World) (sb : Nat) (m : Int) : Prop :=
  ∃ (A : Option Addr) (len cap : Nat) (k : Int), 0 ≤ k ∧ k ≤ m ∧ len ≤ 9223372036854775807 ∧ Blk w sb 25 #[.slice A len cap, .int .i64 k] ∧
    (0 < len → ∃ b o, A = some ⟨b, o, none⟩ ∧ b < sb ∧ ∀ i, i < len → ∃ z, w.cell? ⟨b, o + i, none⟩ = some (.int .i64 z))
theorem Str.lt {w : World} {sb : Nat} {m : Int} (h : Str w sb m) : sb < w.heap.size := by
  obtain ⟨_, _, _, _, _, _, _, hb, _⟩ := h
  exact hb.lt
theorem Str.mono {w : World} {sb : Nat} {m m' : Int} (h : Str w sb m) (hm : m ≤ m') : Str w sb m' := by
  obtain ⟨A, len, cap, k, h0, h1, h2, h3, h4⟩ := h
  exact ⟨A, len, cap, k, h0, by omega, h2, h3, h4⟩
theorem Str.kept {w w' : World} {sb : Nat} {m : Int} (h : Str w sb m) (hk : ∀ g, g ≤ sb → w'.heap[g]? = w.heap[g]?) : Str w' sb m := by
  obtain ⟨A, len, cap, k, h0, h1, h2, h3, h4⟩ := h
  refine ⟨A, len, cap, k, h0, h1, h2, (hk sb (Nat.le_refl _)).trans h3, fun hl => ?_⟩
  obtain ⟨b, o, e, hb, hc⟩ := h4 hl
  refine ⟨b, o, e, hb, fun i hi => ?_⟩
  obtain ⟨z, hz⟩ := hc i hi
  exact ⟨z, (World.cell?_of_block (hk b (by omega))).trans hz⟩
theorem Str.grown {w w' : World} {sb : Nat} {m : Int} (h : Str w sb m) {row : Option Nat} (hg : w.grownBy w' row) (hr : ∀ g, row = some g → sb < g) : Str w' sb m :=
  h.kept fun g hle => hg.block g (by have := h.lt; omega) (fun e => by have := hr _ e.symm; omega)
theorem Str.alloc {w : World} {sb : Nat} {m : Int} (h : Str w sb m) (o : Obj) : Str (w.alloc o) sb m := h.kept fun g hle => Below.heap_alloc w o g (by have := h.lt; omega)
theorem Str.drew {w : World} {sb : Nat} {m : Int} (h : Str w sb m) : Str w.drew sb m := h
theorem Str.drewN {w : World} {sb : Nat} {m : Int} (h : Str w sb m) (k : Nat) : Str (w.drewN k) sb m := h
theorem Str.setCell {w : World} {sb : Nat} {m : Int} (h : Str w sb m) {p : Addr} (hp : sb < p.block) (u : Value) : Str (w.setCell p u) sb m :=
  h.kept fun g hle => Below.heap_setCell w p u g (by omega)

/-- A generator's answer: a value of which P holds; m more numbers have been drawn at most; nothing else that was there has changed. -/
def Drawn (sb : Nat) (m : Int) (P : Value → World → Prop) (w : World) (e : Ending) (w' : World) : Prop :=
  ∃ v, e = .returned v ∧ P v w' ∧ Str w' sb m ∧ w.grownBy w' (some sb)

def IntIn (lo hi : Int) (v : Value) (_ : World) : Prop := ∃ r : Int, lo ≤ r ∧ r ≤ hi ∧ v = .int .i64 r

set_option maxHeartbeats 1000000 in
theorem next_any (sb : Nat) (m n : Int) (w : World) (hs : Str w sb m) (hm : m ≤ 1152921504606846976) (hn : 1 ≤ n) (hn2 : n ≤ 4611686018427387904) :
    Calls Tryz.prog 29 #[.pointer (some ⟨sb, 0, none⟩), .int .i64 n] w (Drawn sb (m + 1) (IntIn 0 (n - 1)) w) := by
  obtain ⟨A, len, cap, k, hk0, hk1, hl, hb, hz⟩ := hs
  have c0 : w.cell? ⟨sb, 0, none⟩ = some (.slice A len cap) := hb.cell 0
  have c1 : w.cell? ⟨sb, 1, none⟩ = some (.int .i64 k) := hb.cell 1
  have f1 : w.frozen? ⟨sb, 1, none⟩ = false := hb.frozen 1
  by_cases h0 : len = 0
  · subst h0
    have H := Lib.hid hb; clear hb
    go_enter Tryz.func29, Tryz.ntmps29
    go_wp2_with (go_at_call 59; refine (below_any _ _ _ (by omega) (by omega)).mono ?_; rintro e w' ⟨r, hr1, hr2, rfl, rfl⟩)
    go_ret
    have hb := H.out.set_ 1 (.int .i64 (k + 1))
    exact ⟨_, rfl, ⟨r, by omega, by omega, rfl⟩, ⟨A, 0, cap, k + 1, by omega, by omega, by omega, hb, fun h => absurd h (by omega)⟩, gr_setCell (gr_refl _ _) (.inl rfl) _⟩
  · obtain ⟨b, o, rfl, hbs, hc⟩ := hz (by omega)
    have hi0 : 0 ≤ k % (len : Int) := Int.emod_nonneg _ (by omega)
    have hi1 : k % (len : Int) < len := Int.emod_lt_of_pos _ (by omega)
    obtain ⟨z, hcz⟩ := hc (k % (len : Int)).toNat (by omega)
    have h0' : ((len : Int) == 0) = false := by simpa using h0
    have HB := Lib.hid hb; clear hb
    have HC := Lib.hid hc; clear hc hz
    have hne : b ≠ sb := by omega
    go_enter Tryz.func29, Tryz.ntmps29
    go_wp2_with fail
    go_quiet (fail)
    go_wp2_with fail
    go_quiet (fail)
    go_wp2_with (go_at_call 59; refine (below_any _ _ _ (by omega) (by omega)).mono ?_; rintro e w' ⟨r, hr1, hr2, rfl, rfl⟩)
    go_ret
    have hb2 := (HB.out.set_ 1 (.int .i64 (k + 1)))
    refine ⟨_, rfl, ⟨_, by assumption, by omega, rfl⟩, ⟨_, len, cap, k + 1, by omega, by omega, by omega, hb2, fun h => ⟨b, o, rfl, hbs, fun i hi => ?_⟩⟩, gr_drewN (gr_setCell (gr_refl _ _) (.inl rfl) _) _⟩
    obtain ⟨z, hz⟩ := HC.out i hi
    exact ⟨z, (World.cell?_setCell_other w _ _ _ (fun e => by injection e; omega)).trans hz⟩

def BoolAny (v : Value) (_ : World) : Prop := ∃ b : Bool, v = .bool b

set_option maxHeartbeats 1000000 in
theorem range_any (sb : Nat) (m lo hi : Int) (w : World) (hs : Str w sb m) (hm : m ≤ 1152921504606846976) (h1 : -1152921504606846976 ≤ lo) (h2 : lo ≤ hi) (h3 : hi ≤ 1152921504606846976) :
    Calls Tryz.prog 13 #[.pointer (some ⟨sb, 0, none⟩), .int .i64 lo, .int .i64 hi] w (Drawn sb (m + 1) (IntIn lo hi) w) := by
  have H := Lib.hid hs; clear hs
  go_enter Tryz.func13, Tryz.ntmps13
  go_wp2_with (go_at_call 29; refine (next_any sb m _ _ H.out hm (by omega) (by omega)).mono ?_; rintro e w' ⟨v, rfl, ⟨r, hr1, hr2, rfl⟩, hs', hg⟩)
  go_ret
  exact ⟨_, rfl, ⟨lo + r, by omega, by omega, rfl⟩, hs', hg⟩

set_option maxHeartbeats 1000000 in
theorem flip_any (sb : Nat) (m n : Int) (w : World) (hs : Str w sb m) (hm : m ≤ 1152921504606846976) (hn : 1 ≤ n) (hn2 : n ≤ 4611686018427387904) :
    Calls Tryz.prog 16 #[.pointer (some ⟨sb, 0, none⟩), .int .i64 n] w (Drawn sb (m + 1) BoolAny w) := by
  have H := Lib.hid hs; clear hs
  go_enter Tryz.func16, Tryz.ntmps16
  go_wp2_with (go_at_call 29; refine (next_any sb m _ _ H.out hm (by omega) (by omega)).mono ?_; rintro e w' ⟨v, rfl, ⟨r, hr1, hr2, rfl⟩, hs', hg⟩)
  go_ret
  exact ⟨_, rfl, ⟨_, rfl⟩, hs', hg⟩

/-- One of the numbers of a list. -/
def IntOf (l : List Int) (v : Value) (_ : World) : Prop := ∃ r : Int, r ∈ l ∧ v = .int .i64 r

set_option maxHeartbeats 1000000 in
theorem pick_any (sb : Nat) (m : Int) (g n : Nat) (l : List Int) (w : World) (hs : Str w sb m) (hm : m ≤ 1152921504606846976) (hr : Blk w g 3 (l.map (Value.int .i64)).toArray) (hg : g ≠ sb) (hn : l.length = n) (h0 : 1 ≤ n) (h1 : n ≤ 4611686018427387904) :
    Calls Tryz.prog 14 #[.pointer (some ⟨sb, 0, none⟩), .slice (some ⟨g, 0, none⟩) n n] w (Drawn sb (m + 1) (IntOf l) w) := by
  have H := Lib.hid hs; clear hs
  have HR := Lib.hid hr; clear hr
  have HN := Lib.hid hn; clear hn
  go_enter Tryz.func14, Tryz.ntmps14
  go_wp2_with fail
  refine (next_any sb m _ _ H.out hm (by omega) (by omega)).mono ?_
  rintro e w' ⟨v, rfl, ⟨r, hr1, hr2, rfl⟩, hs', hg'⟩
  have hlt : r.toNat < l.length := by rw [HN.out]; omega
  have hc : w'.cell? ⟨g, r.toNat, none⟩ = some (.int .i64 l[r.toNat]) := by
    rw [(HR.out.grown hg' (by simpa using hg)).cell]; simp [hlt]
  have H' := Lib.hid hs'; clear hs'
  have HG := Lib.hid hg'; clear hg'
  have hmem : l[r.toNat] ∈ l := List.getElem_mem _
  go_wp2_with fail
  go_ret
  exact ⟨_, rfl, ⟨_, hmem, rfl⟩, H'.out, HG.out⟩
/-- The same where the numbers were just laid out for the call. -/
theorem pick_new (sb : Nat) (m : Int) (l : List Int) (W : World) (hs : Str W sb m) (hm : m ≤ 1152921504606846976) {g n : Nat} {cs : Array Value} (hg : W.heap.size = g) (hcs : cs = (l.map (Value.int .i64)).toArray) (hn : l.length = n) (h0 : 1 ≤ n) (h1 : n ≤ 4611686018427387904) :
    Calls Tryz.prog 14 #[.pointer (some ⟨sb, 0, none⟩), .slice (some ⟨g, 0, none⟩) n n] (W.alloc (.cells cs 3)) (Drawn sb (m + 1) (IntOf l) W) := by
  subst hcs; subst hg
  refine (pick_any sb m _ n l _ (hs.alloc _) hm (Blk.new _ _ _) (by have := hs.lt; omega) hn h0 h1).mono ?_
  rintro e w' ⟨v, rfl, hv, hs', hg'⟩
  exact ⟨v, rfl, hv, hs', gr_same (gr_alloc (gr_refl _ _) _) hg'⟩
end
end Go.Proofs.YtpildcnoghojpaaGreatDoor
/- What the laws share: the numbers that came in, as a stream. Conditions: none. -/
namespace Go.Proofs.YtpildcnoghojpaaGreatDoor
section
open Go.RowKit

/-- What a walk is told of a slice of integers that came in: it is nil; or it leads to a row of 'cap' cells, the numbers 'zs'. -/
def IsRow (k : IntKind) (w : World) (a : Option Addr) (len cap : Nat) (zs : List Int) : Prop :=
  (a = none ∧ len = 0 ∧ cap = 0 ∧ zs = []) ∨
  ∃ x, a = some x ∧ len ≤ cap ∧ cap ≤ maxLen ∧ zs.length = cap ∧ (∀ i, i < zs.length → w.cell? (x.add i) = some (.int k (zs.getD i 0))) ∧ ∀ n ∈ zs, (Lit.int k n).wf = true

theorem addr_none {w : World} {x : Addr} {v : Value} (h : w.cell? x = some v) : x.spot = none := by
  unfold World.cell? at h
  split at h
  · split at h
    · cases h
    · rename_i hs; simpa using hs
  · cases h

/-- The stream, as it is made: nothing has been drawn. -/
theorem str_new {w : World} {a : Option Addr} {len cap : Nat} {zs : List Int} (h : IsRow .i64 w a len cap zs) : Str (w.alloc (.cells #[.slice a len cap, .int .i64 0] 25)) w.heap.size 0 := by
  refine ⟨a, len, cap, 0, by omega, by omega, ?_, Blk.new _ _ _, fun hl => ?_⟩
  · rcases h with ⟨_, rfl, _, _⟩ | ⟨x, _, h1, h2, _⟩
    · omega
    · unfold maxLen at h2; omega
  · rcases h with ⟨_, rfl, _, _⟩ | ⟨x, rfl, h1, h2, h3, h4, _⟩
    · omega
    · have h0 := h4 0 (by omega)
      have hx : x = ⟨x.block, x.off, none⟩ := by
        have := addr_none (show w.cell? x = some _ from by simpa [Addr.add] using h0)
        cases x; simp_all
      have hb : x.block < w.heap.size := World.block_lt_of_cell? w x (show w.cell? x = some _ from by simpa [Addr.add] using h0)
      refine ⟨x.block, x.off, by rw [← hx], hb, fun i hi => ⟨zs.getD i 0, ?_⟩⟩
      have hi' := h4 i (by omega)
      rw [hx, add_mk] at hi'
      exact (World.cell?_alloc_lt _ _ ⟨x.block, x.off + i, none⟩ hb).trans hi'

/-- What a law owes of old memory: only the stream's own block, which is new, has been written. -/
theorem below_of_gr {w w' : World} (h : w.grownBy w' (some w.heap.size)) : Below w.heap.size w w' :=
  ⟨h.os, h.tape, h.output, h.size, fun k hk => h.block k hk (fun e => by injection e with e; omega)⟩
end
end Go.Proofs.YtpildcnoghojpaaGreatDoor
/- Laws on slices that a call makes itself: append of one element, of a slice; make; stores. Over any program. Conditions: none. -/
namespace Go.Proofs.YtpildcnoghojpaaGreatDoor
section
open Go.RowKit

/-- Slice type t has elements of type e, of so many cells and bytes, with the zero z. -/
structure ElemT (P : Program) (t e : TypeId) (size bytes : Nat) (z : Value) : Prop where
  ht : P.underlying t = some (.slice e)
  hi : ∃ i, P.info? e = some i ∧ i.zero = some z ∧ i.size = size ∧ i.bytes = bytes
  hzs : z.cells.size = size
  hsz : 0 < size

theorem elemT_of {P : Program} {t e : TypeId} {size bytes : Nat} {z : Value} (ht : P.underlying t = some (.slice e)) (h : (P.info? e).map (fun i => (i.zero, i.size, i.bytes)) = some (some z, size, bytes)) (hzs : z.cells.size = size) (hsz : 0 < size) : ElemT P t e size bytes z := by
  obtain ⟨i, h1, h2, h3, h4⟩ := info_parts h
  exact ⟨ht, ⟨i, h1, h2, h3, h4⟩, hzs, hsz⟩

/-- The block of a slice's address. -/
def blkOf (A : Option Addr) : Option Nat := A.map (·.block)

/-- A slice of the call's own: nil, or at the head of an array from block 'lo' on, whose first cells are xs. -/
def Own (w : World) (lo : Nat) (e : TypeId) (size : Nat) (A : Option Addr) (n c : Nat) (xs : List Value) : Prop := w.ownsRow lo e size (.slice A n c) n xs

section
variable {w w' : World} {lo size n c : Nat} {e : TypeId} {A : Option Addr} {xs : List Value}
theorem ownBlock_slice (A : Option Addr) (n c : Nat) : (Value.slice A n c).ownBlock = blkOf A := by cases A <;> rfl
theorem Own.nil (w : World) (lo : Nat) (e : TypeId) (size : Nat) : Own w lo e size none 0 0 [] := World.ownsRow_nil w lo e size
theorem Own.lit (w : World) (e : TypeId) (size : Nat) (cs : List Value) (n : Nat) (hm : n ≤ maxLen) (hs : cs.length = n * size) : Own (w.alloc (.cells cs.toArray e)) w.heap.size e size (some ⟨w.heap.size, 0, none⟩) n n cs := by
  have h := World.ownsRow_lit (base := w.heap.size) (e := e) (size := size) w cs.toArray n (Nat.le_refl _) hm (by simpa using hs)
  simpa [Own] using h
theorem Own.len (h : Own w lo e size A n c xs) : xs.length = n * size := h.1
theorem Own.cap (h : Own w lo e size A n c xs) : n ≤ c := by
  rcases h.2 with ⟨hv, rfl⟩ | ⟨g, cap, cur, hv, _, _, hn, _⟩
  · exact Nat.zero_le _
  · injection hv with _ _ h3; omega
theorem Own.lt (h : Own w lo e size A n c xs) {g : Nat} (hg : blkOf A = some g) : lo ≤ g ∧ g < w.heap.size := World.ownsRow.lt h g (by rw [ownBlock_slice]; exact hg)
theorem Own.kept (h : Own w lo e size A n c xs) {row : Option Nat} (hg : w.grownBy w' row) (hne : ∀ g, row = some g → blkOf A ≠ some g) : Own w' lo e size A n c xs := by
  refine World.ownsRow.kept h hg ?_
  rw [ownBlock_slice]
  cases hb : blkOf A with
  | none => exact .inl rfl
  | some g => exact .inr (fun e => hne g e.symm hb)
theorem Own.alloc (h : Own w lo e size A n c xs) (o : Obj) : Own (w.alloc o) lo e size A n c xs := World.ownsRow.alloc h o
theorem Own.drew (h : Own w lo e size A n c xs) : Own w.drew lo e size A n c xs := h
theorem Own.drewN (h : Own w lo e size A n c xs) (k : Nat) : Own (w.drewN k) lo e size A n c xs := h
theorem Own.lower {lo' : Nat} (h : Own w lo e size A n c xs) (hl : lo' ≤ lo) : Own w lo' e size A n c xs := by
  refine ⟨h.1, ?_⟩
  rcases h.2 with h2 | ⟨g, cap, cur, hv, hg, r⟩
  · exact .inl h2
  · exact .inr ⟨g, cap, cur, hv, Nat.le_trans hl hg, r⟩
theorem Own.far (h : Own w lo e size A n c xs) {p : Addr} (hp : blkOf A ≠ some p.block) (u : Value) : Own (w.setCell p u) lo e size A n c xs :=
  h.kept (row := some p.block) (gr_setCell (gr_refl _ _) (.inl rfl) u) (fun g hg => by injection hg with hg; subst hg; exact hp)
theorem Own.reads (h : Own w lo e size A n c xs) : Reads w lo size A n c xs := Reads.of_own h h.cap
theorem Own.blk_ne (h : Own w lo e size A n c xs) {g : Nat} {t : TypeId} {cs : Array Value} (hg : Blk w g t cs) (hne : e ≠ t) : blkOf A ≠ some g := by
  rcases h.2 with ⟨hv, _⟩ | ⟨g', cap, cur, hv, _, hh, _⟩
  · injection hv with h1; subst h1; simp [blkOf]
  · injection hv with h1; subst h1
    intro he
    have : g' = g := by simpa [blkOf] using he
    subst this
    unfold Blk at hg
    rw [hh] at hg
    injection hg with hg
    injection hg with _ ht
    exact hne ht
theorem Own.ne {lo' size' n' c' : Nat} {e' : TypeId} {A' : Option Addr} {xs' : List Value} (h : Own w lo e size A n c xs) (h' : Own w lo' e' size' A' n' c' xs') (hne : e ≠ e') {g : Nat} (hg : blkOf A = some g) : blkOf A' ≠ some g := by
  rcases h'.2 with ⟨hv, _⟩ | ⟨g', cap, cur, hv, _, hh, _⟩
  · injection hv with h1; subst h1; simp [blkOf]
  · injection hv with h1; subst h1
    intro he
    have : g' = g := by simpa [blkOf] using he
    subst this
    exact h.blk_ne (cs := cur) hh hne hg
/-- The growth of a slice of the call's own, as seen from the call's start. -/
theorem gr_own {a b c' : World} {row : Option Nat} (h : a.grownBy b row) (ho : Own b lo e size A n c xs) (hlo : a.heap.size ≤ lo) (hg : b.grownBy c' (blkOf A)) : a.grownBy c' row :=
  gr_trans h hg (fun _ hb => .inr (Nat.le_trans hlo (ho.lt hb).1))
theorem Own.cell {g : Nat} (h : Own w lo e size (some ⟨g, 0, none⟩) n c xs) {j : Nat} (hj : j < n * size) : w.cell? ⟨g, j, none⟩ = xs[j]? := World.ownsRow.cellAt h j hj
theorem Own.frozen {g : Nat} (h : Own w lo e size (some ⟨g, 0, none⟩) n c xs) (j : Nat) : w.frozen? ⟨g, j, none⟩ = false := World.ownsRow.frozenAt h j
theorem Own.pos (h : Own w lo e size A n c xs) (hn : 0 < n) : ∃ g, A = some ⟨g, 0, none⟩ ∧ lo ≤ g ∧ g < w.heap.size := by
  rcases h.2 with ⟨_, h0⟩ | ⟨g, cap, cur, hv, hg, hh, _⟩
  · omega
  · injection hv with h1; subst h1
    exact ⟨g, rfl, hg, Blk.lt (t := e) (cs := cur) hh⟩
theorem Own.stored {g : Nat} (h : Own w lo e size (some ⟨g, 0, none⟩) n c xs) (j : Nat) (u : Value) : Own (w.setCell ⟨g, j, none⟩ u) lo e size (some ⟨g, 0, none⟩) n c (xs.set j u) := (World.ownsRow.stored h j u).1
end

/-- What an append leaves: the slice, owned; only its own array has been written. -/
def Appended (w : World) (lo : Nat) (e : TypeId) (size : Nat) (A : Option Addr) (A' : Option Addr) (n' c' : Nat) (xs' : List Value) (w' : World) : Prop :=
  Own w' lo e size A' n' c' xs' ∧ w.grownBy w' (blkOf A) ∧ ∀ g, blkOf A' = some g → blkOf A = some g ∨ w.heap.size ≤ g
theorem Appended.refl {w : World} {lo : Nat} {e : TypeId} {size : Nat} {A : Option Addr} {n c : Nat} {xs : List Value} (h : Own w lo e size A n c xs) : Appended w lo e size A A n c xs w :=
  ⟨h, gr_refl _ _, fun _ e => .inl e⟩
theorem Appended.then {w wr wx w1 : World} {lo : Nat} {e : TypeId} {size : Nat} {A A' A1 : Option Addr} {n' c' n1 c1 : Nat} {xs' xs1 : List Value} (h : Appended w lo e size A A' n' c' xs' wr) (hg : wr.grownBy wx none)
    (h1 : Appended wx lo e size A' A1 n1 c1 xs1 w1) : Appended w lo e size A A1 n1 c1 xs1 w1 := by
  obtain ⟨_, h2, h3⟩ := h
  obtain ⟨k1, k2, k3⟩ := h1
  refine ⟨k1, gr_trans (gr_none h2 hg) k2 (fun g e => (h3 g e).elim (fun q => .inl q.symm) .inr), fun g e => ?_⟩
  rcases k3 g e with k4 | k4
  · exact h3 g k4
  · exact .inr (by have := h2.size; have := hg.size; omega)
/-- An append as seen from a call that made the slice itself. -/
theorem Appended.gr {a w w' : World} {row : Option Nat} {lo : Nat} {e : TypeId} {size : Nat} {A A' : Option Addr} {n c n' c' : Nat} {xs xs' : List Value} (h : Appended w lo e size A A' n' c' xs' w') (hg : a.grownBy w row) (ho : Own w lo e size A n c xs) (hlo : a.heap.size ≤ lo) : a.grownBy w' row :=
  gr_own hg ho hlo h.2.1

section
variable {P : Program} (w : World)

theorem run_append_of_nil (base : Nat) (t ty e : TypeId) (i : TypeInfo) (size : Nat) (ht : P.underlying t = some (.slice e)) (hi : P.info? e = some i)
    (v : Value) (n : Nat) (xs : List Value) (hown : w.ownsRow base e size v n xs) (c : Nat) : (Builtin.append_ #[t, t] ty #[v, .slice none 0 c]).run P w = .ok v w := by
  rcases hown.2 with ⟨rfl, rfl⟩ | ⟨g, cap, cur, rfl, _, _, hnc, _⟩
  · simp [Builtin.append_, run_underlying ht, sizeOf, typeInfo, hi, Builtin.lenOf, Builtin.firstCells]
  · simp [Builtin.append_, run_underlying ht, sizeOf, typeInfo, hi, Builtin.lenOf, Builtin.firstCells, hnc, storeCells]

theorem run_app {t e : TypeId} {size bytes : Nat} {z : Value} (E : ElemT P t e size bytes z) (ty : TypeId) (lo : Nat) (A : Option Addr) (n c : Nat) (xs : List Value) (hown : Own w lo e size A n c xs)
    (lo' : Nat) (A' : Option Addr) (m c' : Nat) (news : List Value) (hr : Reads w lo' size A' m c' news) (h1 : ∀ u ∈ news, u.oneCell' = true)
    (h63 : n + m ≤ maxLen) (hbytes : (n + m) * bytes ≤ 140737488355328) (hlo : lo ≤ w.heap.size) :
    ∃ A1 c1 w', (Builtin.append_ #[t, t] ty #[.slice A n c, .slice A' m c']).run P w = .ok (.slice A1 (n + m) c1) w' ∧ Appended w lo e size A A1 (n + m) c1 (xs ++ news) w' := by
  obtain ⟨ht, ⟨i, hi, hz, hsize, hby⟩, hzs, hsz⟩ := E
  have key : ∃ v' w', (Builtin.append_ #[t, t] ty #[.slice A n c, .slice A' m c']).run P w = .ok v' w' ∧ w'.ownsRow lo e size v' (n + m) (xs ++ news) ∧ w.grownBy w' (blkOf A) ∧
      (v'.ownBlock = blkOf A ∨ v'.ownBlock = some w.heap.size) := by
    rcases A' with _ | ad
    · have hm : m = 0 := by
        rcases Nat.eq_zero_or_pos m with h0 | h0
        · exact h0
        · obtain ⟨g, o, h, _⟩ := hr.2.2 h0
          cases h
      subst hm
      have hn : news = [] := List.eq_nil_of_length_eq_zero (by simpa using hr.1)
      subst hn
      exact ⟨_, w, run_append_of_nil w lo t ty e i size ht hi _ n xs hown c', by simpa [Own] using hown, World.grownBy.refl w _, .inl (ownBlock_slice _ _ _)⟩
    · have hcells : ∀ j u, news[j]? = some u → w.cell? (ad.add j) = some u := by
        intro j u hu
        rcases Nat.eq_zero_or_pos m with h0 | h0
        · subst h0
          have hn : news = [] := List.eq_nil_of_length_eq_zero (by simpa using hr.1)
          subst hn
          simp at hu
        · obtain ⟨g, o, h, _, _, hc⟩ := hr.2.2 h0
          injection h with h
          subst h
          rw [add_mk]
          exact hc j u hu
      obtain ⟨v', w', hrun, h2, h3, _, h5⟩ := run_append_own_at (P := P) w lo t ty e i z size bytes ht hi hz hsize hby hzs hsz _ n xs hown ad m c' news hr.1 hcells h1 h63 hbytes hlo
      rw [ownBlock_slice] at h3 h5
      exact ⟨v', w', hrun, h2, h3, h5⟩
  obtain ⟨v', w', hrun, h2, h3, h4⟩ := key
  rcases h2.2 with ⟨rfl, h0⟩ | ⟨g, cap, cur, rfl, _⟩
  · rw [h0] at h2
    refine ⟨none, 0, w', by rw [hrun, h0], ?_, h3, fun g e => by cases e⟩
    rw [h0]; exact h2
  · refine ⟨some ⟨g, 0, none⟩, cap, w', hrun, h2, h3, fun g' e => ?_⟩
    rw [ownBlock_slice] at h4
    rcases h4 with h4 | h4
    · exact .inl (h4 ▸ e)
    · rw [h4] at e; injection e with e; exact .inr (by omega)

theorem wp_app {o : Oper} {a : Act} {K : Act → World → Prop} {Q : Exit → Act → World → Prop} (s x : Operand) {t e : TypeId} {size bytes : Nat} {z : Value} (E : ElemT P t e size bytes z)
    (ho : o.op = .call { callee := .builtin .append, args := #[s, x], argTypes := #[t, t] })
    (lo : Nat) (A : Option Addr) (n c : Nat) (xs : List Value) (hs : a.eval s = .slice A n c) (hown : Own w lo e size A n c xs)
    (lo' : Nat) (A' : Option Addr) (m c' : Nat) (news : List Value) (hx : a.eval x = .slice A' m c') (hr : Reads w lo' size A' m c' news) (h1 : ∀ u ∈ news, u.oneCell' = true)
    (h63 : n + m ≤ maxLen) (hbytes : (n + m) * bytes ≤ 140737488355328) (hlo : lo ≤ w.heap.size)
    (h : ∀ A1 c1 w', Appended w lo e size A A1 (n + m) c1 (xs ++ news) w' → K (a.put o.dst (.slice A1 (n + m) c1)) w') : o.wp P a w K Q := by
  obtain ⟨A1, c1, w', hrun, h2⟩ := run_app (P := P) w E o.type lo A n c xs hown lo' A' m c' news hr h1 h63 hbytes hlo
  unfold Oper.wp execOp
  simp only [ho, resolve, invoke, builtin, Sem.run_bind, Sem.run_pure, Result.andThen_ok, List.map_toArray, List.map_cons, List.map_nil, hs, hx, hrun]
  exact h A1 c1 w' h2

/-- 'append(s, x...)' in a plain region. -/
theorem wpl_app {ops : Array Oper} {rest : List Oper} {o : Oper} {a : Act} {Q : Exit → Act → World → Prop} (hgd : o.guard = none) (s x : Operand) {t e : TypeId} {size bytes : Nat} {z : Value} (E : ElemT P t e size bytes z)
    (ho : o.op = .call { callee := .builtin .append, args := #[s, x], argTypes := #[t, t] })
    (lo : Nat) (A : Option Addr) (n c : Nat) (xs : List Value) (hs : a.eval s = .slice A n c) (hown : Own w lo e size A n c xs)
    (lo' : Nat) (A' : Option Addr) (m c' : Nat) (news : List Value) (hx : a.eval x = .slice A' m c') (hr : Reads w lo' size A' m c' news) (h1 : ∀ u ∈ news, u.oneCell' = true)
    (h63 : n + m ≤ maxLen) (hbytes : (n + m) * bytes ≤ 140737488355328) (hlo : lo ≤ w.heap.size)
    (h : ∀ A1 c1 w', Appended w lo e size A A1 (n + m) c1 (xs ++ news) w' → wpList P ops Q rest (a.put o.dst (.slice A1 (n + m) c1)) w') : wpList P ops Q (o :: rest) a w :=
  wpList_plain hgd fun _ hK => wp_app w s x E ho lo A n c xs hs hown lo' A' m c' news hx hr h1 h63 hbytes hlo fun A1 c1 w' h2 => hK _ _ (h A1 c1 w' h2)

/-- 'append(s, x...)' in a region that draws its order. -/
theorem step_app {ops : Array Oper} {o : Oper} {a : Act} {K : Act → World → Prop} {Q : Exit → Act → World → Prop} {E' : Prop} (hgd : o.guard = none) (s x : Operand) {t e : TypeId} {size bytes : Nat} {z : Value} (E : ElemT P t e size bytes z)
    (ho : o.op = .call { callee := .builtin .append, args := #[s, x], argTypes := #[t, t] })
    (lo : Nat) (A : Option Addr) (n c : Nat) (xs : List Value) (hs : a.eval s = .slice A n c) (hown : Own w lo e size A n c xs)
    (lo' : Nat) (A' : Option Addr) (m c' : Nat) (news : List Value) (hx : a.eval x = .slice A' m c') (hr : Reads w lo' size A' m c' news) (h1 : ∀ u ∈ news, u.oneCell' = true)
    (h63 : n + m ≤ maxLen) (hbytes : (n + m) * bytes ≤ 140737488355328) (hlo : lo ≤ w.heap.size)
    (h : ∀ A1 c1 w', Appended w lo e size A A1 (n + m) c1 (xs ++ news) w' → K (a.put o.dst (.slice A1 (n + m) c1)) w') :
    if Region.wanted o (yielded ops a.tmps) = true then Oper.wp P o a w K Q else E' := by
  have hw : Region.wanted o (yielded ops a.tmps) = true := by simp [Region.wanted, hgd]
  rw [if_pos hw]
  exact wp_app w s x E ho lo A n c xs hs hown lo' A' m c' news hx hr h1 h63 hbytes hlo h
end

/-- The one new element of 'append(s, v)' lies in a block of its own. -/
theorem Reads.one (w : World) (t : TypeId) (cs : List Value) (size : Nat) (h : cs.length = size) : Reads (w.alloc (.cells cs.toArray t)) w.heap.size size (some ⟨w.heap.size, 0, none⟩) 1 1 cs :=
  ⟨by simp [h], Nat.le_refl _, fun _ => ⟨_, 0, rfl, Nat.le_refl _, by simp, fun j u hu => by
    rw [Nat.zero_add, (Blk.new w t cs.toArray).cell]; simpa using hu⟩⟩
theorem Reads.blk {w : World} {g : Nat} {t : TypeId} {cs : List Value} (hb : Blk w g t cs.toArray) (size n : Nat) (h : cs.length = n * size) : Reads w g size (some ⟨g, 0, none⟩) n n cs :=
  ⟨h, Nat.le_refl _, fun _ => ⟨g, 0, rfl, Nat.le_refl _, hb.lt, fun j u hu => by
    rw [Nat.zero_add, hb.cell]; simpa using hu⟩⟩
end
end Go.Proofs.YtpildcnoghojpaaGreatDoor
/- Laws on structs in memory: loaded and stored whole; results that lie in memory. Over any program. Conditions: none. -/
namespace Go.Proofs.YtpildcnoghojpaaGreatDoor
section
open Go.RowKit

/-- Type ty is a struct or an array of n cells. -/
def StructT (P : Program) (ty : TypeId) (n : Nat) : Prop := ∃ d, P.underlying ty = some d ∧ (match d with | .struct _ | .array _ _ => true | _ => false) = true ∧ (P.info? ty).map (·.size) = some n

/-- What a store of a whole variable leaves. -/
def Stored (w : World) (g : Nat) (t : TypeId) (cs : Array Value) (w' : World) : Prop := Blk w' g t cs ∧ w.grownBy w' (some g) ∧ w'.heap.size = w.heap.size

section
variable {P : Program} {w : World} {o : Oper} {a : Act} {K : Act → World → Prop} {Q : Exit → Act → World → Prop}

theorem wp_load_all {ty : TypeId} {n : Nat} (T : StructT P ty n) (x : Operand) (ho : o.op = .load ty x) (g : Nat) (hx : a.eval x = .pointer (some ⟨g, 0, none⟩)) (t : TypeId) (cs : Array Value) (hb : Blk w g t cs) (hn : cs.size = n)
    (h : K (a.put o.dst (.agg cs)) w) : o.wp P a w K Q := by
  obtain ⟨d, h1, h2, h3⟩ := T
  exact wp_load_row ty x ho g hx t cs (0, 0) d hb h1 (by cases d <;> first | rfl | (cases h2)) (by rw [hn]; exact h3) h

theorem run_store_all {ty : TypeId} {n : Nat} (T : StructT P ty n) {g : Nat} {t : TypeId} {cur cs : Array Value} (hb : Blk w g t cur) (hn : cs.size = n) (hc : cur.size = n) (h1 : ∀ u ∈ cs.toList, u.oneCell' = true) :
    ∃ w', (Instr.storeAt ty (.pointer (some ⟨g, 0, none⟩)) (.agg cs)).run P w = .ok () w' ∧ Stored w g t cs w' := by
  obtain ⟨d, hd1, hd2, hd3⟩ := T
  cases hq : P.info? ty with
  | none => simp [hq] at hd3
  | some i =>
    have hs : i.size = n := by simpa [hq] using hd3
    have hrun := run_storeCells_from (P := P) g t cs.toList 0 cur w hb (by simp; omega) h1
    refine ⟨w.setRow g cs, ?_, ?_, ⟨rfl, rfl, rfl, ?_, ?_⟩, ?_⟩
    · simp only [List.take_zero, List.nil_append, Array.toArray_toList] at hrun
      simp [Instr.storeAt, Instr.sureAddr, storeVar, sizeOf, typeInfo, hq, hs, Value.cells, hn, hrun]
    · have hlt := hb.lt
      unfold Blk at hb ⊢
      simp [World.setRow, Array.getElem?_modify, hb]
    · simp [World.setRow]
    · intro k hk hne
      simp only [World.setRow, Array.getElem?_modify]
      rw [if_neg (fun e => hne (by rw [e]))]
    · simp [World.setRow]

theorem wp_store_all {ty : TypeId} {n : Nat} (T : StructT P ty n) (x y : Operand) (ho : o.op = .store ty x y) (g : Nat) (hx : a.eval x = .pointer (some ⟨g, 0, none⟩)) (t : TypeId) (cur cs : Array Value) (hy : a.eval y = .agg cs) (hb : Blk w g t cur)
    (hn : cs.size = n) (hc : cur.size = n) (h1 : ∀ u ∈ cs.toList, u.oneCell' = true) (h : ∀ w', Stored w g t cs w' → K (a.put o.dst undef) w') : o.wp P a w K Q := by
  obtain ⟨w', hrun, hst⟩ := run_store_all (w := w) T hb hn hc h1
  unfold Oper.wp execOp
  simp only [ho, hx, hy, Sem.run_bind, Sem.run_pure, Result.andThen_ok, hrun]
  exact h w' hst

variable {ops : Array Oper} {rest : List Oper}
/-- A variable of a struct type, loaded whole. -/
theorem wpl_load_all {ty : TypeId} {n : Nat} (T : StructT P ty n) (hgd : o.guard = none) (x : Operand) (ho : o.op = .load ty x) (g : Nat) (hx : a.eval x = .pointer (some ⟨g, 0, none⟩)) (t : TypeId) (cs : Array Value) (hb : Blk w g t cs) (hn : cs.size = n)
    (h : wpList P ops Q rest (a.put o.dst (.agg cs)) w) : wpList P ops Q (o :: rest) a w :=
  wpList_plain hgd fun _ hK => wp_load_all T x ho g hx t cs hb hn (hK _ _ h)
/-- A variable of a struct type, stored whole. -/
theorem wpl_store_all {ty : TypeId} {n : Nat} (T : StructT P ty n) (hgd : o.guard = none) (x y : Operand) (ho : o.op = .store ty x y) (g : Nat) (hx : a.eval x = .pointer (some ⟨g, 0, none⟩)) (t : TypeId) (cur cs : Array Value) (hy : a.eval y = .agg cs) (hb : Blk w g t cur)
    (hn : cs.size = n) (hc : cur.size = n) (h1 : ∀ u ∈ cs.toList, u.oneCell' = true) (h : ∀ w', Stored w g t cs w' → wpList P ops Q rest (a.put o.dst undef) w') : wpList P ops Q (o :: rest) a w :=
  wpList_plain hgd fun _ hK => wp_store_all T x y ho g hx t cur cs hy hb hn hc h1 fun w' hs => hK _ _ (h w' hs)
end

section
variable {P : Program} {w : World} {fn : Func} {a : Act} {R : Ending → World → Prop}
/-- The one result lies in memory. -/
theorem ret_cell {ty : TypeId} {n : Nat} (T : StructT P ty n) {p : Tmp} (hr : fn.results = #[.cell p ty]) (g : Nat) (t : TypeId) (cs : Array Value) (hp : a.tmps.getD p undef = .pointer (some ⟨g, 0, none⟩)) (hb : Blk w g t cs) (hn : cs.size = n)
    (hd : a.defers = []) (h : R (.returned (.agg cs)) w) : bodyPost P fn R .ret a w := by
  obtain ⟨d, h1, h2, h3⟩ := T
  exact bodyPost_ret (results_cell_row hr a.tmps w g t cs (0, 0) d hp hb h1 (by cases d <;> first | rfl | (cases h2)) (by rw [hn]; exact h3)) hd h
/-- Two results, the first one in memory. -/
theorem ret_cell_tmp {ty : TypeId} {n : Nat} (T : StructT P ty n) {p q : Tmp} (hr : fn.results = #[.cell p ty, .tmp q]) (g : Nat) (t : TypeId) (cs : Array Value) (v : Value) (hp : a.tmps.getD p undef = .pointer (some ⟨g, 0, none⟩)) (hq : a.tmps.getD q undef = v) (hb : Blk w g t cs) (hn : cs.size = n)
    (hd : a.defers = []) (h : R (.returned (.tuple #[.agg cs, v])) w) : bodyPost P fn R .ret a w := by
  obtain ⟨d, h1, h2, h3⟩ := T
  refine bodyPost_ret (v := .tuple #[.agg cs, v]) ?_ hd h
  have hp' : a.tmps[p]?.getD undef = .pointer (some ⟨g, 0, none⟩) := by simpa using hp
  have hq' : a.tmps[q]?.getD undef = v := by simpa using hq
  simp [results, hr, hp', hq', asAddr, run_loadVar_row w g t ty cs (0, 0) d hb h1 (by cases d <;> first | rfl | (cases h2)) (by rw [hn]; exact h3)]
end
end
end Go.Proofs.YtpildcnoghojpaaGreatDoor
/- Laws on slices whose elements are structs of several cells: read, stored, appended. Over any program. Conditions: none. -/
namespace Go.Proofs.YtpildcnoghojpaaGreatDoor
section
open Go.RowKit

/-! Rows of k cells, one behind the other. -/
section
variable {α : Type} {row : α → List Value} {k : Nat}
theorem flat_len (hrow : ∀ a, (row a).length = k) (l : List α) : (l.flatMap row).length = l.length * k := by
  induction l with
  | nil => simp
  | cons a l ih => simp [List.flatMap_cons, hrow, ih, Nat.succ_mul]; omega
theorem flat_get (hrow : ∀ a, (row a).length = k) (l : List α) (i j : Nat) (hj : j < k) : (l.flatMap row)[i * k + j]? = (l[i]?).bind fun a => (row a)[j]? := by
  induction l generalizing i with
  | nil => simp
  | cons a l ih =>
    rw [List.flatMap_cons]
    cases i with
    | zero => rw [List.getElem?_append_left (by rw [hrow]; omega)]; simp
    | succ i =>
      rw [List.getElem?_append_right (by rw [hrow, Nat.succ_mul]; omega), hrow, show (i + 1) * k + j - k = i * k + j by rw [Nat.succ_mul]; omega, ih]
      simp
theorem flat_ext (hrow : ∀ a, (row a).length = k) (hk : 0 < k) {l : List α} {xs : List Value} (hl : xs.length = l.length * k) (h : ∀ i j a, l[i]? = some a → j < k → xs[i * k + j]? = (row a)[j]?) : xs = l.flatMap row := by
  apply List.ext_getElem?
  intro q
  have hq : q = q / k * k + q % k := by rw [Nat.mul_comm]; exact (Nat.div_add_mod q k).symm
  have hm := Nat.mod_lt q hk
  generalize hi : q / k = i at hq hm
  generalize hjq : q % k = j at hq hm
  subst hq
  rw [flat_get hrow l i j hm]
  cases hli : l[i]? with
  | none =>
    have hle : l.length ≤ i := List.getElem?_eq_none_iff.1 hli
    have : l.length * k ≤ i * k := Nat.mul_le_mul_right _ hle
    rw [List.getElem?_eq_none (by omega)]; rfl
  | some a => rw [h i j a hli hm]; rfl
theorem flat_set (hrow : ∀ a, (row a).length = k) (hk : 0 < k) {l : List α} {i : Nat} {a a' : α} (hi : l[i]? = some a) {ys : List Value} (j : Nat) (hj : j + ys.length ≤ k) (hr : row a' = (row a).take j ++ ys ++ (row a).drop (j + ys.length)) :
    (l.flatMap row).take (i * k + j) ++ ys ++ (l.flatMap row).drop (i * k + j + ys.length) = (l.set i a').flatMap row := by
  have hlen := flat_len hrow l
  have hil : i < l.length := (List.getElem?_eq_some_iff.1 hi).1
  have hik : i * k + k ≤ l.length * k := by have := Nat.mul_le_mul_right k (show i + 1 ≤ l.length by omega); rw [Nat.succ_mul] at this; exact this
  refine flat_ext hrow hk (by simp [hlen]; omega) ?_
  intro p q b hb hq
  have hra := hrow a
  rw [List.getElem?_set] at hb
  by_cases hip : i = p
  · subst hip
    rw [if_pos rfl, if_pos hil] at hb
    injection hb with hb
    subst hb
    rw [hr]
    by_cases h1 : q < j
    · rw [List.append_assoc, List.append_assoc, List.getElem?_append_left (by simp [hlen]; omega), List.getElem?_append_left (by simp [hra]; omega), List.getElem?_take, List.getElem?_take, if_pos (by omega), if_pos h1, flat_get hrow l i q hq, hi]
      rfl
    · by_cases h2 : q < j + ys.length
      · rw [List.getElem?_append_left (by simp [hlen]; omega), List.getElem?_append_right (by simp [hlen]; omega), List.getElem?_append_left (by simp [hra]; omega), List.getElem?_append_right (by simp [hra]; omega)]
        simp only [List.length_take, hlen, hra]
        congr 1
        omega
      · rw [List.getElem?_append_right (by simp [hlen]; omega), List.getElem?_append_right (by simp [hra]; omega), List.getElem?_drop, List.getElem?_drop]
        simp only [List.length_take, List.length_append, hlen, hra]
        rw [show i * k + j + ys.length + (i * k + q - (min (i * k + j) (l.length * k) + ys.length)) = i * k + q by omega, flat_get hrow l i q hq, hi]
        show (row a)[q]? = _
        congr 1
        omega
  · rw [if_neg hip] at hb
    have h0 : (l.flatMap row)[p * k + q]? = (row b)[q]? := by rw [flat_get hrow l p q hq, hb]; rfl
    rw [← h0]
    rcases Nat.lt_or_gt_of_ne hip with h1 | h1
    · have : (i + 1) * k ≤ p * k := Nat.mul_le_mul_right k h1
      rw [Nat.succ_mul] at this
      rw [List.getElem?_append_right (by simp [hlen]; omega), List.getElem?_drop]
      simp only [List.length_take, List.length_append, hlen]
      congr 1
      omega
    · have : (p + 1) * k ≤ i * k := Nat.mul_le_mul_right k h1
      rw [Nat.succ_mul] at this
      rw [List.append_assoc, List.getElem?_append_left (by simp [hlen]; omega), List.getElem?_take, if_pos (by omega)]
end

/-! Loads of structs that lie anywhere. -/
section
variable {P : Program} {w : World} {o : Oper} {a : Act} {K : Act → World → Prop} {Q : Exit → Act → World → Prop} {ops : Array Oper} {rest : List Oper}
theorem run_load_at {ty : TypeId} {n : Nat} (T : StructT P ty n) {p : Addr} {cs : List Value} (hn : cs.length = n) (hc : ∀ j u, cs[j]? = some u → w.cell? (p.add j) = some u) :
    (loadVar ty p).run P w = .ok (.agg cs.toArray) w := by
  obtain ⟨d, hu, hd, hi⟩ := T
  have hl := run_loadCells_list (P := P) w p cs hc
  cases hq : P.info? ty with
  | none => simp [hq] at hi
  | some i =>
    have hs : i.size = n := by simpa [hq] using hi
    have hagg : (isAgg ty).run P w = .ok true w := by
      unfold isAgg
      rw [Sem.run_bind, run_underlying hu w]
      cases d <;> simp_all
    rw [hn] at hl
    simp [loadVar, Sem.run_bind, hagg, sizeOf, typeInfo, hq, hs, hl]
theorem wp_load_at {ty : TypeId} {n : Nat} (T : StructT P ty n) (x : Operand) (ho : o.op = .load ty x) (p : Addr) (hx : a.eval x = .pointer (some p)) (cs : List Value) (hn : cs.length = n) (hc : ∀ j u, cs[j]? = some u → w.cell? (p.add j) = some u)
    (h : K (a.put o.dst (.agg cs.toArray)) w) : o.wp P a w K Q := by
  unfold Oper.wp execOp
  simp only [ho, hx, Instr.loadAt, Instr.sureAddr, Sem.run_bind, Sem.run_pure, Result.andThen_ok, run_load_at T hn hc]
  exact h
/-- A struct that lies somewhere, loaded whole. -/
theorem wpl_load_at {ty : TypeId} {n : Nat} (T : StructT P ty n) (hgd : o.guard = none) (x : Operand) (ho : o.op = .load ty x) (p : Addr) (hx : a.eval x = .pointer (some p)) (cs : List Value) (hn : cs.length = n) (hc : ∀ j u, cs[j]? = some u → w.cell? (p.add j) = some u)
    (h : wpList P ops Q rest (a.put o.dst (.agg cs.toArray)) w) : wpList P ops Q (o :: rest) a w :=
  wpList_plain hgd fun _ hK => wp_load_at T x ho p hx cs hn hc (hK _ _ h)
end

/-- A slice of structs that reads as a list of records, each of k cells. -/
def Recs {α : Type} (row : α → List Value) (k : Nat) (w : World) (lo : Nat) (A : Option Addr) (n c : Nat) (l : List α) : Prop := Reads w lo k A n c (l.flatMap row) ∧ l.length = n
section
variable {α : Type} {row : α → List Value} {k : Nat} {w w' : World} {lo lo' n c : Nat} {A : Option Addr} {l : List α}
theorem Recs.len (h : Recs row k w lo A n c l) : l.length = n := h.2
theorem Recs.cap (h : Recs row k w lo A n c l) : n ≤ c := h.1.2.1
theorem Recs.lower (h : Recs row k w lo A n c l) (hB : lo' ≤ lo) : Recs row k w lo' A n c l := ⟨h.1.lower hB, h.2⟩
theorem Recs.grown (h : Recs row k w lo A n c l) {r : Option Nat} (hg : w.grownBy w' r) (hr : ∀ g, r = some g → g < lo) : Recs row k w' lo A n c l := ⟨h.1.grown hg hr, h.2⟩
theorem Recs.get {i : Nat} (h : Recs row k w lo A n c l) (hrow : ∀ a, (row a).length = k) (hi : i < n) : ∃ g o a, A = some ⟨g, o, none⟩ ∧ lo ≤ g ∧ g < w.heap.size ∧ l[i]? = some a ∧
    ∀ j u, (row a)[j]? = some u → w.cell? ⟨g, o + i * k + j, none⟩ = some u := by
  obtain ⟨g, o, e, h1, h2, h3⟩ := h.1.2.2 (by omega)
  have hl : i < l.length := by rw [h.2]; exact hi
  refine ⟨g, o, l[i], e, h1, h2, List.getElem?_eq_getElem hl, fun j u hu => ?_⟩
  have hj : j < k := by have := (List.getElem?_eq_some_iff.1 hu).1; rw [hrow] at this; exact this
  rw [Nat.add_assoc]
  refine h3 (i * k + j) u ?_
  rw [flat_get hrow l i j hj, List.getElem?_eq_getElem hl]
  exact hu
theorem Recs.at_ {g o i : Nat} {a : α} (h : Recs row k w lo (some ⟨g, o, none⟩) n c l) (hrow : ∀ a, (row a).length = k) (hi : l[i]? = some a) : ∀ j u, (row a)[j]? = some u → w.cell? ⟨g, o + i * k + j, none⟩ = some u := by
  have hl := (List.getElem?_eq_some_iff.1 hi).1
  obtain ⟨g', o', a', e, _, _, h1, h2⟩ := h.get hrow (show i < n by rw [← h.2]; exact hl)
  injection e with e
  injection e with e1 e2
  subst e1; subst e2
  rw [hi] at h1
  injection h1 with h1
  subst h1
  exact h2
theorem Recs.nil : Recs row k w lo A 0 c [] := ⟨Reads.none_, rfl⟩
end
end
end Go.Proofs.YtpildcnoghojpaaGreatDoor
/- The first place in a list at which something holds; a slice cut short. Conditions: none. -/
namespace Go.Proofs.YtpildcnoghojpaaGreatDoor
section
open Go.RowKit

/-- The first place at which something holds, or -1. -/
def idxP {α : Type} (p : α → Bool) (l : List α) : Int := if l.any p then (l.findIdx p : Int) else -1
section
variable {α : Type} {p : α → Bool} {l : List α} {i : Nat} {z : α}
theorem allP_succ (h : (l.take i).all (fun x => !p x) = true) (hz : l[i]? = some z) (hp : p z = false) : (l.take (i + 1)).all (fun x => !p x) = true := by
  rw [take_snoc' hz, List.all_append, h]; simp [hp]
theorem idxP_none (h : l.all (fun x => !p x) = true) : idxP p l = -1 := by
  unfold idxP
  rw [if_neg]
  rw [List.any_eq_true]
  rintro ⟨x, hx, hp⟩
  have := List.all_eq_true.1 h x hx
  simp [hp] at this
theorem idxP_some (h : (l.take i).all (fun x => !p x) = true) (hz : l[i]? = some z) (hp : p z = true) : idxP p l = i := by
  unfold idxP
  rw [if_pos (List.any_eq_true.2 ⟨z, mem_of_get hz, hp⟩)]
  obtain ⟨hl, rfl⟩ := List.getElem?_eq_some_iff.1 hz
  congr 1
  rw [List.findIdx_eq hl]
  refine ⟨hp, fun j hj => ?_⟩
  have := List.all_eq_true.1 h l[j] (by
    rw [List.mem_iff_getElem?]
    exact ⟨j, by rw [List.getElem?_take, if_pos hj]; exact List.getElem?_eq_getElem (by omega)⟩)
  simpa using this
theorem idxP_any : decide (0 ≤ idxP p l) = l.any p := by
  unfold idxP
  cases h : l.any p
  · simp
  · simp only [if_true]; exact decide_eq_true (by omega)
end
section
variable {α : Type} {row : α → List Value} {k : Nat} {w : World} {lo n c : Nat} {A : Option Addr} {l : List α}
theorem Recs.take (hrow : ∀ a, (row a).length = k) (h : Recs row k w lo A n c l) {i : Nat} (hi : i ≤ n) : Recs row k w lo A i c (l.take i) := by
  have hl := h.2
  have hc := h.cap
  refine ⟨⟨?_, by omega, fun hp => ?_⟩, by rw [List.length_take]; omega⟩
  · rw [flat_len hrow, List.length_take]; congr 1; omega
  · obtain ⟨g, o, e, h1, h2, h3⟩ := h.1.2.2 (by omega)
    refine ⟨g, o, e, h1, h2, fun j u hu => h3 j u ?_⟩
    have : l.flatMap row = (l.take i).flatMap row ++ (l.drop i).flatMap row := by rw [← List.flatMap_append, List.take_append_drop]
    rw [this, List.getElem?_append_left]
    · exact hu
    · exact (List.getElem?_eq_some_iff.1 hu).1
end
end
end Go.Proofs.YtpildcnoghojpaaGreatDoor
/- Strings as lists of bytes. Conditions: none. -/
namespace Go.Proofs.YtpildcnoghojpaaGreatDoor
section
/-- The bytes of a string, as numbers. -/
def nb (s : ByteArray) : List Nat := s.data.toList.map UInt8.toNat
/-- A string of bytes. -/
def strN (l : List Nat) : ByteArray := ⟨(l.map Nat.toUInt8).toArray⟩
theorem nb_len (s : ByteArray) : (nb s).length = s.size := by unfold nb; rw [List.length_map]; rfl
theorem strN_nb (s : ByteArray) : strN (nb s) = s := by
  cases s with
  | mk d =>
    unfold strN nb
    rw [List.map_map, show (Nat.toUInt8 ∘ UInt8.toNat) = id from funext fun u => by simp, List.map_id]
theorem nb_strN {l : List Nat} (h : ∀ b ∈ l, b < 256) : nb (strN l) = l := by
  unfold nb strN
  simp only [List.map_map]
  conv => rhs; rw [← List.map_id l]
  apply List.map_congr_left
  intro b hb
  simp [Nat.mod_eq_of_lt (h b hb)]
theorem nb_inj {s t : ByteArray} (h : nb s = nb t) : s = t := by rw [← strN_nb s, h, strN_nb]
theorem nb_append (s t : ByteArray) : nb (s ++ t) = nb s ++ nb t := by
  unfold nb
  rw [ByteArray.data_append, Array.toList_append, List.map_append]
theorem nb_extract (s : ByteArray) (a b : Nat) : nb (s.extract a b) = ((nb s).take b).drop a := by
  unfold nb
  rw [ByteArray.data_extract, Array.toList_extract, ← List.map_take, ← List.map_drop]
  rw [List.extract_eq_take_drop, List.drop_take]
theorem nb_get {s : ByteArray} {k : Nat} (h : k < s.size) : s[k].toNat = (nb s).getD k 0 := by
  unfold nb
  rw [List.getD_eq_getElem?_getD, List.getElem?_map]
  have hk : k < s.data.toList.length := by rw [Array.length_toList]; exact h
  rw [List.getElem?_eq_getElem hk]
  rfl
theorem strN_append (a b : List Nat) : strN a ++ strN b = strN (a ++ b) := by
  unfold strN
  apply ByteArray.ext
  rw [ByteArray.data_append]
  simp
theorem strN_size (l : List Nat) : (strN l).size = l.length := by simp [strN, ByteArray.size]
theorem str_nil {t : ByteArray} (h : nb t = []) : t.toList = [] := by
  rw [ByteArray.toList_eq]
  unfold nb at h
  simpa using h
theorem str_full {t : ByteArray} (h : ¬ nb t = []) : (t.toList == []) = false ∧ t.toList.isEmpty = false ∧ 0 < t.size := by
  have h1 : ¬ t.toList = [] := fun e => h (by unfold nb; rw [← ByteArray.toList_eq, e]; rfl)
  refine ⟨by rw [beq_eq_false_iff_ne]; exact h1, by rw [List.isEmpty_eq_false_iff]; exact h1, ?_⟩
  rcases Nat.eq_zero_or_pos t.size with h2 | h2
  · exact absurd (List.eq_nil_of_length_eq_zero (by rw [nb_len]; exact h2)) h
  · exact h2
end
end Go.Proofs.YtpildcnoghojpaaGreatDoor
/- Words for what functions answer; the document's 'in'. Conditions: none. -/
namespace Go.Proofs.YtpildcnoghojpaaGreatDoor
section
open Go.RowKit

/-- A function that answers v and, of what was there, changes nothing. -/
def RetV (v : Value) (w : World) (e : Ending) (w' : World) : Prop := e = .returned v ∧ w.grownBy w' none
/-- A function that answers a value of which P holds and, of what was there, changes nothing. -/
def RetP (P : Value → World → Prop) (w : World) (e : Ending) (w' : World) : Prop := ∃ v, e = .returned v ∧ P v w' ∧ w.grownBy w' none
/-- A function that only computes. -/
def Same (v : Value) (w : World) (e : Ending) (w' : World) : Prop := e = .returned v ∧ w = w'

/-- Is a number from lo to hi? -/
def inB (n lo hi : Int) : Bool := decide (lo ≤ n) && decide (n ≤ hi)
end
end Go.Proofs.YtpildcnoghojpaaGreatDoor
/- Contracts of strings.IndexByte. Conditions: none. -/
namespace Go.Proofs.YtpildcnoghojpaaGreatDoor
section
open Go.RowKit

set_option maxHeartbeats 2000000 in
theorem slIndexByte_any (s : ByteArray) (c : Int) (w : World) :
    Calls Tryz.prog 117 #[.string s, .int .u8 c] w (Same (.int .i64 (Lib.indexByte s.data.toList c.toNat.toUInt8)) w) := by
  have hcf : ∀ w, (callFunc 127 #[.string s, .int .u8 c]).run Tryz.prog w = .ok (.value (.int .i64 (Lib.indexByte s.data.toList c.toNat.toUInt8))) w := fun w => by
    rw [run_callFunc_extern Tryz.func127 (by kernel_rfl) (by kernel_rfl) (by kernel_rfl) (e := Extern.BytealgIndexByte.indexByte) (by kernel_rfl), Lib.run_indexByteString]
    rfl
  go_enter Tryz.func117, Tryz.ntmps117
  go_wp2_with fail
  go_ret
  exact ⟨rfl, rfl⟩
set_option maxHeartbeats 2000000 in
theorem indexByte_any (s : ByteArray) (c : Int) (w : World) :
    Calls Tryz.prog 94 #[.string s, .int .u8 c] w (Same (.int .i64 (Lib.indexByte s.data.toList c.toNat.toUInt8)) w) := by
  go_enter Tryz.func94, Tryz.ntmps94
  go_wp2_with (first
    | (go_at_call 117; refine (slIndexByte_any _ _ _).mono ?_; rintro e w' ⟨rfl, rfl⟩)
    | fail)
  go_ret
  exact ⟨rfl, rfl⟩
end
end Go.Proofs.YtpildcnoghojpaaGreatDoor
/- A string as one cell; is a string among some. Conditions: none. -/
namespace Go.Proofs.YtpildcnoghojpaaGreatDoor
section
def srow (s : ByteArray) : List Value := [.string s]
theorem srow_len (s : ByteArray) : (srow s).length = 1 := rfl
/-- Is a string among some? -/
def memS (L : List ByteArray) (k : ByteArray) : Bool := L.any (fun x => nb x == nb k)
theorem memS_snoc (L : List ByteArray) (x k : ByteArray) : memS (L ++ [x]) k = (memS L k || nb x == nb k) := by
  unfold memS; rw [List.any_append]; simp
end
end Go.Proofs.YtpildcnoghojpaaGreatDoor
/- Sets of strings: a map[string]bool that a call makes. Conditions: none. -/
namespace Go.Proofs.YtpildcnoghojpaaGreatDoor
section
open Go.RowKit Go.Maps Go.WideMaps

theorem plainElem_bool_of {P : Program} {e : TypeId} (he : P.underlying e = some .bool) {v : Value} {z : DataW Unit × List MemPlace} (h : plainElem P e v = some z) : ∃ x, v = .bool x ∧ z = (.lit (.bool x), []) := by
  unfold plainElem at h
  rw [he] at h
  cases v <;> simp at h
  exact ⟨_, rfl, h.symm⟩

theorem Tryz.keyS : Keyed Tryz.prog 9 := string_keyed Tryz.underlying9
theorem Tryz.zeroBS (w : World) : (zeroValue 4).run Tryz.prog w = .ok (.bool false) w := by kernel_rfl

theorem nb_data {s t : ByteArray} : nb s = nb t ↔ s.data.toList = t.data.toList :=
  ⟨fun h => by rw [nb_inj h], fun h => by unfold nb; rw [h]⟩
/-- The map in block b is the set of the strings of L; it has s entries. -/
def SetS (w : World) (b n : Nat) (L : List ByteArray) (s : Nat) : Prop :=
  ∃ D : DataW Unit, w.ownsMap Tryz.prog 9 (plainElem Tryz.prog 4) b n D ∧ Maps.Tidy D ∧ (∀ k : ByteArray, Maps.has D (.string k.data.toList) = memS L k) ∧ (∀ k : ByteArray, memS L k = true → D.atKey (.string k.data.toList) (.lit (.bool false)) = .lit (.bool true)) ∧ Maps.size D = s
section
variable {w w' : World} {b n s : Nat} {L : List ByteArray}
theorem SetS.new (w : World) : SetS (w.alloc (.map #[] 0)) w.heap.size 0 [] 0 := ⟨.map [], World.ownsMap_made _ _ _ _, Maps.tidy_empty, fun k => rfl, fun k h => absurd h (by simp [memS]), rfl⟩
theorem SetS.kept {row : Option Nat} (h : SetS w b n L s) (hg : w.grownBy w' row) (hne : some b ≠ row) : SetS w' b n L s := by
  obtain ⟨D, h1, h2⟩ := h
  exact ⟨D, h1.kept hg hne, h2⟩
theorem SetS.look (h : SetS w b n L s) {k : ByteArray} (hw : k.size ≤ maxLen) : (Instr.lookup 155 (.map (some b)) (.string k) false).run Tryz.prog w = .ok (.bool (memS L k)) w := by
  obtain ⟨D, h1, h2, h3, h4, _⟩ := h
  obtain ⟨v, ps, hrun, hv⟩ := h1.lookup Tryz.keyS Tryz.underlying155 (Tryz.zeroBS w) (plainElem_bool Tryz.underlying4 false) (keyOf_string_mk Tryz.underlying9 hw)
  obtain ⟨x, rfl, hx⟩ := plainElem_bool_of Tryz.underlying4 hv
  simp only [Prod.mk.injEq] at hx
  have hx1 := hx.1
  have e : x = memS L k := by
    cases hc : memS L k
    · have hh : Maps.has D (.string k.data.toList) = false := by rw [h3, hc]
      rw [Maps.atKey_of_not_has hh] at hx1
      simp only [DataW.lit.injEq, Lit.bool.injEq] at hx1
      exact Eq.symm hx1
    · rw [h4 k hc] at hx1
      simp only [DataW.lit.injEq, Lit.bool.injEq] at hx1
      exact Eq.symm hx1
  rw [hrun, e]
theorem SetS.put (h : SetS w b n L s) (hn : n < maxLen) {k : ByteArray} (hw : k.size ≤ maxLen) : ∃ w', (Instr.mapUpdate 155 (.map (some b)) (.string k) (.bool true)).run Tryz.prog w = .ok () w' ∧ SetS w' b (n + 1) (L ++ [k]) (if memS L k then s else s + 1) ∧ w.grownBy w' (some b) := by
  obtain ⟨D, h1, h2, h3, h4, h5⟩ := h
  obtain ⟨w', hrun, ho, hg⟩ := h1.update Tryz.keyS Tryz.underlying155 hn (keyOf_string_mk Tryz.underlying9 hw) (plainElem_bool Tryz.underlying4 true)
  have hk : WideAt.IsKeyLit (.string k.data.toList) := Tryz.keyS.key (keyOf_string_mk Tryz.underlying9 hw)
  refine ⟨w', hrun, ⟨_, ho, h2.put hk _, fun k' => ?_, fun k' hc => ?_, ?_⟩, hg⟩
  · by_cases e : nb k = nb k'
    · rw [← nb_data.1 e, Maps.has_put_same h2.isMap hk, memS_snoc]; simp [e]
    · have e' : k'.data.toList ≠ k.data.toList := fun h => e (nb_data.2 h.symm)
      rw [Maps.has_put_other (by simpa using e'), h3, memS_snoc]
      simp [e]
  · by_cases e : nb k = nb k'
    · rw [← nb_data.1 e, Maps.atKey_put_same h2.isMap hk]
    · have e' : k'.data.toList ≠ k.data.toList := fun h => e (nb_data.2 h.symm)
      rw [Maps.atKey_put_other (by simpa using e')]
      refine h4 k' ?_
      rw [memS_snoc] at hc
      simpa [e] using hc
  · rw [Maps.size_put h2, h3, h5]
theorem SetS.len (h : SetS w b n L s) (ty : TypeId) : (Builtin.len_ #[155] ty #[.map (some b)]).run Tryz.prog w = .ok (.int .i64 s) w := by
  obtain ⟨D, h1, _, _, _, h5⟩ := h
  rw [h1.len Tryz.underlying155 ty, h5]
end
section
variable {w : World} {ops : Array Oper} {rest : List Oper} {o : Oper} {a : Act} {Q : Exit → Act → World → Prop} {b n s : Nat} {L : List ByteArray}
theorem wpl_slook (hgd : o.guard = none) (m x : Operand) (hop : o.op = Op.lookup 155 m x false) (hm : a.eval m = .map (some b)) (k : ByteArray) (hx : a.eval x = .string k) (hw : k.size ≤ maxLen) (h : SetS w b n L s)
    (hK : wpList Tryz.prog ops Q rest (a.put o.dst (.bool (memS L k))) w) : wpList Tryz.prog ops Q (o :: rest) a w := by
  refine wpList_plain hgd fun K' hK' => ?_
  unfold Oper.wp
  simp [execOp, hop, hm, hx, h.look hw, Result.andThen]
  exact hK' _ _ hK
theorem wpl_sput (hgd : o.guard = none) (m x v : Operand) (hop : o.op = Op.mapUpdate 155 m x v) (hm : a.eval m = .map (some b)) (k : ByteArray) (hx : a.eval x = .string k) (hv : a.eval v = .bool true) (hw : k.size ≤ maxLen) (h : SetS w b n L s) (hn : n < maxLen)
    (hK : ∀ w', SetS w' b (n + 1) (L ++ [k]) (if memS L k then s else s + 1) → w.grownBy w' (some b) → wpList Tryz.prog ops Q rest (a.put o.dst undef) w') : wpList Tryz.prog ops Q (o :: rest) a w := by
  refine wpList_plain hgd fun K' hK' => ?_
  obtain ⟨w', hrun, h1, h2⟩ := h.put hn hw
  unfold Oper.wp
  simp [execOp, hop, hm, hx, hv, hrun, Result.andThen]
  exact hK' _ _ (hK w' h1 h2)
end
end
end Go.Proofs.YtpildcnoghojpaaGreatDoor
/- Hours in plain Lean: when they are open, and the moments at which they open or close, counted in two ways. Conditions: none. -/
namespace Go.Proofs.YtpildcnoghojpaaGreatDoor
section

/-! Open or closed. -/
/-! Two lists that rise and have the same members are one. -/
/-! The program's way: minute by minute. -/
/-! The document's way: the bounds of each day. -/
end
end Go.Proofs.YtpildcnoghojpaaGreatDoor
/- Contract of the generator of strings Some. Conditions: none. -/
namespace Go.Proofs.YtpildcnoghojpaaGreatDoor
section
open Go.RowKit

/-- Cells that are such strings. -/
def StrsOk (k : Nat) (cs : List Value) : Prop := ∀ v ∈ cs, ∃ s : ByteArray, v = .string s ∧ s.size ≤ k
theorem StrsOk.nil (k : Nat) : StrsOk k [] := fun v hv => by cases hv
theorem StrsOk.cons {k : Nat} {s : ByteArray} {cs : List Value} (hs : s.size ≤ k) (h : StrsOk k cs) : StrsOk k (.string s :: cs) := by
  intro v hv
  rcases List.mem_cons.1 hv with rfl | hv
  · exact ⟨s, rfl, hs⟩
  · exact h v hv
end
end Go.Proofs.YtpildcnoghojpaaGreatDoor
/- Contract of the generator Odd. Conditions: none. -/
namespace Go.Proofs.YtpildcnoghojpaaGreatDoor
section
open Go.RowKit
end
end Go.Proofs.YtpildcnoghojpaaGreatDoor
/- Contract of the generator of strings Some, at a word that holds of each. Conditions: none. -/
namespace Go.Proofs.YtpildcnoghojpaaGreatDoor
section
open Go.RowKit

def StrQ (Q : ByteArray → Prop) (v : Value) (_ : World) : Prop := ∃ s : ByteArray, v = .string s ∧ Q s
def StrsQ (Q : ByteArray → Prop) (cs : List Value) : Prop := ∀ v ∈ cs, ∃ s : ByteArray, v = .string s ∧ Q s
theorem StrsQ.nil (Q : ByteArray → Prop) : StrsQ Q [] := fun v hv => by cases hv
theorem StrsQ.cons {Q : ByteArray → Prop} {s : ByteArray} {cs : List Value} (hs : Q s) (h : StrsQ Q cs) : StrsQ Q (.string s :: cs) := by
  intro v hv
  rcases List.mem_cons.1 hv with rfl | hv
  · exact ⟨s, rfl, hs⟩
  · exact h v hv
set_option maxHeartbeats 2000000 in
theorem some_newQ (Q : ByteArray → Prop) (sb : Nat) (m : Int) (W : World) (hs : Str W sb m) (hm : m ≤ 1152921504606846976) {g n : Nat} {cs : Array Value} (hg : W.heap.size = g) (hcs : StrsQ Q cs.toList) (hn : cs.size = n) (h0 : 1 ≤ n) (h1 : n ≤ 1000) :
    Calls Tryz.prog 15 #[.pointer (some ⟨sb, 0, none⟩), .slice (some ⟨g, 0, none⟩) n n] (W.alloc (.cells cs 9)) (Drawn sb (m + 1) (StrQ Q) W) := by
  subst hg
  have hlt := hs.lt
  have HS := Lib.hid (hs.alloc (.cells cs 9))
  have HB := Lib.hid (Blk.new W 9 cs)
  have HG := Lib.hid (gr_alloc (gr_refl W (some sb)) (.cells cs 9))
  have HCS := Lib.hid hcs; have HN := Lib.hid hn
  clear hs hcs hn
  generalize hW : W.alloc (.cells cs 9) = W1 at *
  clear hW
  go_enter Tryz.func15, Tryz.ntmps15
  go_wp2_with fail
  refine (next_any sb m _ _ HS.out hm (by omega) (by omega)).mono ?_
  rintro e w' ⟨v, rfl, ⟨r, hr1, hr2, rfl⟩, hs', hg'⟩
  have hr3 : r.toNat < cs.toList.length := by rw [Array.length_toList, HN.out]; omega
  obtain ⟨s, hs1, hs2⟩ := HCS.out _ (List.getElem_mem hr3)
  have hc : w'.cell? ⟨W.heap.size, r.toNat, none⟩ = some (.string s) := by
    rw [(HB.out.grown hg' (by simp; omega)).cell, ← hs1]
    rw [Array.getElem?_eq_getElem (by simpa using hr3)]
    simp
  have H' := Lib.hid hs'; clear hs'
  have HG' := Lib.hid (gr_same HG.out hg'); clear hg'
  go_wp2_with fail
  go_ret
  exact ⟨_, rfl, ⟨s, rfl, hs2⟩, H'.out, HG'.out⟩
end
end Go.Proofs.YtpildcnoghojpaaGreatDoor
/- A region that draws its order, walked once, in one order: loads and reckoning are taken first under a condition S on the world; the last operation may break S. Over any program. Conditions: none. -/
namespace Go.Proofs.YtpildcnoghojpaaGreatDoor
section
section
variable {P : Program} {ops : Array Oper} {Q : Exit → Act → World → Prop} {md : Region.Mode} {S : World → Prop} {last : Nat}

/-- Operations that only reckon or load. -/
def calmOp (o : Oper) : Bool :=
  match o.op with
  | .move _ | .assign _ | .pick .. | .build .. | .load .. | .nilCheck _ | .binOp .. | .unOp .. | .convert .. | .makeInterface .. | .slice .. | .fieldAddr .. | .field .. | .indexAddr .. | .index .. | .extract .. => true
  | .call c => match c.callee with | .builtin .len => true | .builtin .cap => true | _ => false
  | _ => false

/-- Whatever order is picked from here on; S holds behind every operation but the last. -/
def wpAnyE (P : Program) (md : Region.Mode) (ops : Array Oper) (Q : Exit → Act → World → Prop) (S : World → Prop) (last : Nat) : Nat → Array Bool → Act → World → Prop
  | 0, listed, a, w => Region.ready md ops listed = [] ∧ Q .normal a w
  | fuel + 1, listed, a, w =>
    (Region.ready md ops listed = [] → Q .normal a w) ∧
    ∀ i ∈ Region.ready md ops listed, wpOp P ops Q i (fun a' w' => (i = last ∨ S w') ∧ wpAnyE P md ops Q S last fuel (listed.setIfInBounds i true) a' w') a w

theorem wpAny_of_E : ∀ (fuel : Nat) (listed : Array Bool) (a : Act) (w : World), wpAnyE P md ops Q S last fuel listed a w → wpAny P md ops Q fuel listed a w
  | 0, _, _, _, h => h
  | fuel + 1, _, _, _, h => ⟨h.1, fun i hi => wpOp_mono (fun a' w' h' => wpAny_of_E fuel _ a' w' h'.2) (h.2 i hi)⟩

theorem wpAnyE_first {i : Nat} {oi : Oper} {v : Value} (hi : ops[i]? = some oi) (hsel : ∀ (j : Nat) (o : Oper) cs b, ops[j]? = some o → o.op ≠ .select cs b)
    (hQ : ∀ c a w, Q (.panic c) (a.put oi.dst v) w → Q (.panic c) a w)
    (hs : Region.sinkB md ops last = true) (hc : Region.chainB md ops last = true) (hn : last < ops.size) (hin : i < last) :
    ∀ (fuel : Nat) (listed : Array Bool) (a : Act) (w : World), HeadInv md ops last listed →
      (∀ j oj, ops[j]? = some oj → j ≠ i → listed.getD j true = false → (∀ e ∈ oj.after, Region.binds md e = true → e.on ≠ i) → oi.apart ops oj = true) →
      i ∈ Region.ready md ops listed → YieldsIf P ops S oi v a → S w →
      wpAnyE P md ops Q S last fuel (listed.setIfInBounds i true) (a.put oi.dst v) w → wpAnyE P md ops Q S last (fuel + 1) listed a w := by
  intro fuel
  induction fuel with
  | zero =>
    intro listed a w inv _ hr hy hS H
    refine ⟨fun h => (by rw [h] at hr; cases hr), fun j hj => ?_⟩
    by_cases hji : j = i
    · subst hji; exact hy.wpOp hi hS ⟨.inr hS, H⟩
    · have := ready_mono hj hji
      rw [H.1] at this
      cases this
  | succ fuel ih =>
    intro listed a w inv hfree hr hy hS H
    have hun := (mem_ready.1 hr).1
    refine ⟨fun h => (by rw [h] at hr; cases hr), fun j hj => ?_⟩
    have hjn : j < last := by
      rcases Nat.lt_or_ge j last with h | h
      · exact h
      · exact absurd hj (tail_waits hs hc hn inv _ i rfl hin hun j h)
    by_cases hji : j = i
    · subst hji; exact hy.wpOp hi hS ⟨.inr hS, H⟩
    · have h1 := H.2 j (ready_mono hj hji)
      obtain ⟨hjun, oj, hoj, hall⟩ := mem_ready.1 hj
      have hnot : ∀ e ∈ oj.after, Region.binds md e = true → e.on ≠ i := fun e he hb heq => by
        have h1 := hall e he hb
        rw [heq, getD_both hun] at h1
        cases h1
      have h2 := wpOp_putIf hoj (hfree j oj hoj hji hjun hnot) (fun cs b => hsel i oi cs b hi) (fun cs b => hsel j oj cs b hoj) hQ hy h1
      have hfree' : ∀ k ok, ops[k]? = some ok → k ≠ i → (listed.setIfInBounds j true).getD k true = false →
          (∀ e ∈ ok.after, Region.binds md e = true → e.on ≠ i) → oi.apart ops ok = true := fun k ok hk hki hkun hno => by
        refine hfree k ok hk hki ?_ hno
        by_cases hjk : j = k
        · subst hjk; exact hjun
        · rw [getD_set_ne true hjk] at hkun; exact hkun
      refine wpOp_mono (fun a' w' h3 => ?_) h2
      have hSw : S w' := h3.2.1.resolve_left (by omega)
      refine ⟨.inr hSw, ih (listed.setIfInBounds j true) a' w' (inv.set hj hjn) hfree' (ready_mono hr (Ne.symm hji)) h3.1 hSw ?_⟩
      rw [Array.setIfInBounds_comm _ _ hji]
      exact h3.2.2

/-- An order: each operation that only reckons or loads may be taken first, each other one comes up alone. -/
def lexB (md : Region.Mode) (ops : Array Oper) (last : Nat) : List Nat → Array Bool → Bool
  | [], listed => (Region.ready md ops listed).isEmpty
  | k :: l, listed =>
    (match ops[k]? with
      | some o => if calmOp o then decide (k < last) && (Region.ready md ops listed).contains k && Region.free md ops listed k else decide (Region.ready md ops listed = [k])
      | none => false) && (decide (k ≠ last) || l.isEmpty) && lexB md ops last l (listed.setIfInBounds k true)
def lexAll (md : Region.Mode) (ops : Array Oper) (perm : List Nat) : Bool :=
  Region.noSelect ops && decide (0 < ops.size) && decide (perm.length = ops.size) && Region.sinkB md ops (ops.size - 1) && lexB md ops (ops.size - 1) perm (Array.replicate ops.size false)

/-- The walk in that order. -/
def wpLex (P : Program) (ops : Array Oper) (Q : Exit → Act → World → Prop) (S : World → Prop) (last : Nat) : List Nat → Act → World → Prop
  | [], a, w => Q .normal a w
  | k :: l, a, w =>
    ∃ o, ops[k]? = some o ∧
    if calmOp o then ∃ v, YieldsIf P ops S o v a ∧ S w ∧ (∀ c a w, Q (.panic c) (a.put o.dst v) w → Q (.panic c) a w) ∧ wpLex P ops Q S last l (a.put o.dst v) w
    else wpOp P ops Q k (fun a' w' => (k = last ∨ S w') ∧ wpLex P ops Q S last l a' w') a w

theorem wpAnyE_of_lex (hsel : Region.noSelect ops = true) (hs : Region.sinkB md ops last = true) (hc : Region.chainB md ops last = true) (hn : last + 1 = ops.size) :
    ∀ (l : List Nat) (listed : Array Bool) (a : Act) (w : World), (l ≠ [] → HeadInv md ops last listed) →
    lexB md ops last l listed = true → wpLex P ops Q S last l a w → wpAnyE P md ops Q S last l.length listed a w
  | [], listed, _, _, _, hB, h => ⟨by simpa [lexB] using hB, h⟩
  | k :: l, listed, a, w, inv0, hB, h => by
    have inv := inv0 (by simp)
    simp only [lexB, Bool.and_eq_true] at hB
    simp only [wpLex] at h
    obtain ⟨o, h0, h⟩ := h
    rw [h0] at hB
    obtain ⟨⟨hB1, hB3⟩, hB2⟩ := hB
    have hkn : k < ops.size := (Array.getElem?_eq_some_iff.1 h0).1
    by_cases hcalm : calmOp o = true
    · simp only [hcalm, if_true, Bool.and_eq_true, decide_eq_true_eq] at hB1 h
      obtain ⟨⟨hlt, hr⟩, hf⟩ := hB1
      obtain ⟨v, hy, hS, hQ, hK⟩ := h
      have hr' : k ∈ Region.ready md ops listed := by simpa using hr
      exact wpAnyE_first h0 (Region.noSelect_spec hsel) hQ hs hc (by omega) hlt l.length listed a w inv (Region.free_spec h0 hf) hr' hy hS
        (wpAnyE_of_lex hsel hs hc hn l _ _ w (fun _ => inv.set hr' hlt) hB2 hK)
    · simp only [hcalm, Bool.false_eq_true, if_false] at hB1 h
      have hrd : Region.ready md ops listed = [k] := of_decide_eq_true hB1
      refine ⟨fun h1 => (by rw [hrd] at h1; cases h1), fun i hi => ?_⟩
      have hi' := hi
      rw [hrd] at hi
      have hik : i = k := by simpa using hi
      subst hik
      refine wpOp_mono (fun a' w' h' => ⟨h'.1, ?_⟩) h
      refine wpAnyE_of_lex hsel hs hc hn l _ a' w' (fun hne => inv.set hi' ?_) hB2 h'.2
      rw [Bool.or_eq_true, decide_eq_true_eq, List.isEmpty_iff] at hB3
      have := hB3.resolve_right hne
      omega

theorem wp_region_lex {id : Nat} {a : Act} {w : World} (S : World → Prop) (perm : List Nat) (hm : P.follows .mixedOrders = true) (hB : lexAll .any ops perm = true)
    (h : wpLex P ops Q S (ops.size - 1) perm a w.drew) : (Code.region id ops true).wp P Q a w := by
  simp only [lexAll, Bool.and_eq_true, decide_eq_true_eq] at hB
  obtain ⟨⟨⟨⟨hsel, h0⟩, hlen⟩, hs⟩, hlex⟩ := hB
  have hc : Region.chainB .any ops (ops.size - 1) = true := by
    unfold Region.chainB
    rw [List.all_eq_true]
    intro t ht
    have := List.mem_range.1 ht
    rw [Bool.or_eq_true]
    exact .inl (decide_eq_true (by omega))
  have inv0 : HeadInv .any ops (ops.size - 1) (Array.replicate ops.size false) :=
    ⟨by simp, fun j oj _ hl => (by rw [getD_replicate_false] at hl; cases hl), fun t _ ht => getD_in (by simpa using ht) (getD_replicate_false _ _)⟩
  refine wp_region_any hm (wpAny_of_E (S := S) (last := ops.size - 1) _ _ _ _ ?_)
  have := wpAnyE_of_lex (md := .any) hsel hs hc (by omega) perm _ a w.drew (fun _ => inv0) hlex h
  rw [hlen] at this
  exact this

/-! The moves. -/
/-- An operation of a list, so that a look at it reckons. -/
def opAt : List Oper → Nat → Option Oper
  | [], _ => none
  | o :: _, 0 => some o
  | _ :: l, n + 1 => opAt l n
theorem opAt_eq : ∀ (l : List Oper) (k : Nat), opAt l k = l.toArray[k]?
  | [], _ => by simp [opAt]
  | o :: l, 0 => by simp [opAt]
  | o :: l, n + 1 => by have := opAt_eq l n; simpa [opAt] using this
variable {ls : List Oper}
theorem lex_take {o : Oper} {l : List Nat} {k : Nat} {a : Act} {w : World} (v : Value) (ho : opAt ls k = some o) (hc : calmOp o = true) (hQ : ∀ c a w, Q (.panic c) (a.put o.dst v) w → Q (.panic c) a w)
    (hw : Region.wanted o (yielded ls.toArray a.tmps) = true) (hy : ∀ w, S w → (execOp a.eval o).run P w = .ok (.value v) w) (hS : S w)
    (h : wpLex P ls.toArray Q S last l (a.put o.dst v) w) : wpLex P ls.toArray Q S last (k :: l) a w := by
  simp only [wpLex]
  rw [opAt_eq] at ho
  refine ⟨o, ho, ?_⟩
  rw [if_pos hc]
  exact ⟨v, .inl ⟨hw, hy⟩, hS, hQ, h⟩
theorem lex_run {o : Oper} {l : List Nat} {k : Nat} {a : Act} {w : World} (ho : opAt ls k = some o) (hc : calmOp o = false) (hw : Region.wanted o (yielded ls.toArray a.tmps) = true)
    (h : ∀ K : Act → World → Prop, (∀ a' w', (k = last ∨ S w') → wpLex P ls.toArray Q S last l a' w' → K a' w') → o.wp P a w K Q) : wpLex P ls.toArray Q S last (k :: l) a w := by
  simp only [wpLex]
  rw [opAt_eq] at ho
  refine ⟨o, ho, ?_⟩
  rw [if_neg (by rw [hc]; decide)]
  unfold wpOp
  simp only [ho, hw, if_true]
  exact .inl (h _ fun a' w' h1 h2 => ⟨h1, h2⟩)
theorem lex_end {a : Act} {w : World} (h : Q .normal a w) : wpLex P ls.toArray Q S last [] a w := h
end
end
end Go.Proofs.YtpildcnoghojpaaGreatDoor
/- A region that draws its order in which calls of generators stand beside the making of their arguments: each operation is looked at once, whatever came before it. Conditions: none. -/
namespace Go.Proofs.YtpildcnoghojpaaGreatDoor
section
section
variable {P : Program} {ops : Array Oper} {Q : Exit → Act → World → Prop} {md : Region.Mode} {S : World → Prop} {last : Nat}

/-! Moves on the walk over all orders. -/
variable {ls : List Oper}
/-! The same where S holds behind every operation. -/
theorem H_begin {id : Nat} {a : Act} {w : World} (S : World → Prop) (hm : P.follows .mixedOrders = true)
    (h : wpAnyH P .any ops Q S ops.size (Array.replicate ops.size false) a w.drew) : (Code.region id ops true).wp P Q a w := wp_region_held hm h
theorem H_take {fuel k : Nat} {listed : Array Bool} {o : Oper} {a : Act} {w : World} (v : Value) (ho : opAt ls k = some o) (hs : Region.noSelect ls.toArray = true) (hf : Region.free md ls.toArray listed k = true) (hr : (Region.ready md ls.toArray listed).contains k = true)
    (hQ : ∀ c a w, Q (.panic c) (a.put o.dst v) w → Q (.panic c) a w) (hw : Region.wanted o (yielded ls.toArray a.tmps) = true) (hy : ∀ w, S w → (execOp a.eval o).run P w = .ok (.value v) w) (hS : S w)
    (h : wpAnyH P md ls.toArray Q S fuel (listed.setIfInBounds k true) (a.put o.dst v) w) : wpAnyH P md ls.toArray Q S (fuel + 1) listed a w := by
  rw [opAt_eq] at ho
  exact wpAnyH_take ho hs hf hr hQ (.inl ⟨hw, hy⟩) hS h
theorem H_skip {fuel k : Nat} {listed : Array Bool} {o : Oper} {a : Act} {w : World} (ho : opAt ls k = some o) (hs : Region.noSelect ls.toArray = true) (hf : Region.free md ls.toArray listed k = true) (hr : (Region.ready md ls.toArray listed).contains k = true)
    (hQ : ∀ c a w, Q (.panic c) (a.put o.dst undef) w → Q (.panic c) a w) (hw : Region.wanted o (yielded ls.toArray a.tmps) = false) (hS : S w)
    (h : wpAnyH P md ls.toArray Q S fuel (listed.setIfInBounds k true) (a.put o.dst undef) w) : wpAnyH P md ls.toArray Q S (fuel + 1) listed a w := by
  rw [opAt_eq] at ho
  exact wpAnyH_take ho hs hf hr hQ (.inr ⟨hw, rfl⟩) hS h
theorem H_run {fuel k : Nat} {listed : Array Bool} {o : Oper} {a : Act} {w : World} (ho : opAt ls k = some o) (hr : Region.ready md ls.toArray listed = [k]) (hw : Region.wanted o (yielded ls.toArray a.tmps) = true)
    (h : ∀ K : Act → World → Prop, (∀ a' w', S w' → wpAnyH P md ls.toArray Q S fuel (listed.setIfInBounds k true) a' w' → K a' w') → o.wp P a w K Q) : wpAnyH P md ls.toArray Q S (fuel + 1) listed a w := by
  refine ⟨fun h1 => (by rw [hr] at h1; cases h1), fun i hi => ?_⟩
  rw [hr] at hi
  have hik : i = k := by simpa using hi
  subst hik
  rw [opAt_eq] at ho
  unfold wpOp
  simp only [ho, hw, if_true]
  exact .inl (h _ fun a' w' h1 h2 => ⟨h1, h2⟩)
theorem H_done {listed : Array Bool} {a : Act} {w : World} (hr : Region.ready md ops listed = []) (h : Q .normal a w) : wpAnyH P md ops Q S 0 listed a w := ⟨hr, h⟩

/-! Operations that come up in many orders. -/
/-- Which have come up: those at the start, and some of the phase. -/
structure FlL (ops : Array Oper) (listed0 : Array Bool) (phase : List Nat) (listed : Array Bool) : Prop where
  size : listed.size = ops.size
  old : ∀ k, listed0.getD k false = true → listed.getD k false = true
  new : ∀ k, listed.getD k false = true → listed0.getD k false = true ∨ k ∈ phase
theorem FlL.set_ {listed0 listed : Array Bool} {phase : List Nat} (h : FlL ops listed0 phase listed) {k : Nat} (hk : k ∈ phase) : FlL ops listed0 phase (listed.setIfInBounds k true) := by
  refine ⟨by simp [h.size], fun j hj => getD_set_true (h.old j hj), fun j hj => ?_⟩
  by_cases e : k = j
  · subst e; exact .inr hk
  · rw [getD_set_ne false e] at hj; exact h.new j hj

/-! The calls of generators. -/
/-- What the phase leaves: each result holds what is said of it. -/
structure FlI (a0 : Act) (w0 : World) (sb : Nat) (M : Int) (phase : List Nat) (d : Nat → Tmp) (R : Nat → Value → World → Prop) (n : Nat) (listed : Array Bool) (a : Act) (w : World) : Prop where
  defers : a.defers = a0.defers
  size : a.tmps.size = a0.tmps.size
  same : ∀ s, (∀ k ∈ phase, d k ≠ s) → a.tmps[s]? = a0.tmps[s]?
  done : ∀ k ∈ phase, listed.getD k false = true → R k (a.tmps.getD (d k) undef) w
  str : Str w sb (M - 2 * n)
  grown : w0.grownBy w (some sb)
def putAll (a0 : Act) (d : Nat → Tmp) (vs : Nat → Value) (phase : List Nat) : Act := phase.foldl (fun a k => a.put (some (d k)) (vs k)) a0
theorem getD_put (a : Act) (s t : Nat) (v : Value) : (a.put (some t) v).tmps[s]? = if t = s then (if t < a.tmps.size then some v else none) else a.tmps[s]? := by
  unfold Act.put
  simp only [Array.getElem?_setIfInBounds]
theorem putAll_defers (a0 : Act) (d : Nat → Tmp) (vs : Nat → Value) (phase : List Nat) : (putAll a0 d vs phase).defers = a0.defers := by
  unfold putAll
  induction phase generalizing a0 with
  | nil => rfl
  | cons k l ih => rw [List.foldl_cons, ih]; rfl
theorem putAll_get (d : Nat → Tmp) (vs : Nat → Value) : ∀ (phase : List Nat) (a0 : Act) (s : Nat), phase.Pairwise (fun i j => d i ≠ d j) →
    (putAll a0 d vs phase).tmps[s]? = match phase.find? (fun k => d k == s) with | some k => (if s < a0.tmps.size then some (vs k) else none) | none => a0.tmps[s]?
  | [], a0, s, _ => rfl
  | k :: l, a0, s, hn => by
    rw [List.pairwise_cons] at hn
    show (putAll (a0.put (some (d k)) (vs k)) d vs l).tmps[s]? = _
    rw [putAll_get d vs l _ s hn.2, List.find?_cons]
    have hsz : (a0.put (some (d k)) (vs k)).tmps.size = a0.tmps.size := by simp [Act.put]
    by_cases e : d k = s
    · have e1 : (d k == s) = true := by simpa using e
      have e2 : l.find? (fun k => d k == s) = none := by
        rw [List.find?_eq_none]
        intro j hj
        have := hn.1 j hj
        rw [e] at this
        simpa using fun h : d j = s => this h.symm
      rw [e1, e2]
      show (a0.put (some (d k)) (vs k)).tmps[s]? = _
      rw [getD_put, if_pos e, e]
    · have e1 : (d k == s) = false := by simpa using e
      rw [e1]
      cases hf : l.find? (fun k => d k == s) with
      | some j => simp only [hsz]
      | none =>
        show (a0.put (some (d k)) (vs k)).tmps[s]? = _
        rw [getD_put, if_neg e]
theorem act_ext {a b : Act} (h1 : a.defers = b.defers) (h2 : a.tmps = b.tmps) : a = b := by
  cases a; cases b; simp_all
theorem FlI.frame {a0 a : Act} {w0 w : World} {sb n : Nat} {M : Int} {phase : List Nat} {d : Nat → Tmp} {R : Nat → Value → World → Prop} {listed : Array Bool} (h : FlI a0 w0 sb M phase d R n listed a w)
    (hn : phase.Pairwise (fun i j => d i ≠ d j)) (hs : ∀ k ∈ phase, d k < a0.tmps.size) : a = putAll a0 d (fun k => a.tmps.getD (d k) undef) phase := by
  refine act_ext (by rw [putAll_defers]; exact h.defers) (Array.ext_getElem? fun s => ?_)
  rw [putAll_get d _ phase a0 s hn]
  cases hf : phase.find? (fun k => d k == s) with
  | none =>
    refine h.same s fun k hk e => ?_
    have := List.find?_eq_none.1 hf k hk
    simp [e] at this
  | some k =>
    have hk := List.mem_of_find?_eq_some hf
    have he : d k = s := by have := List.find?_some hf; simpa using this
    have hlt := hs k hk
    subst he
    show a.tmps[d k]? = if d k < a0.tmps.size then some (a.tmps.getD (d k) undef) else none
    rw [if_pos hlt, Array.getElem?_eq_getElem (by rw [h.size]; exact hlt)]
    simp [h.size, hlt]

end
end
end Go.Proofs.YtpildcnoghojpaaGreatDoor
/- Words for what the operations of a drawn region answer: slices laid for calls, numbers. Conditions: none. -/
namespace Go.Proofs.YtpildcnoghojpaaGreatDoor
section
open Go.RowKit

/-- A slice just laid for a call. -/
def SlOf (sb : Nat) (t : TypeId) (n : Nat) (cs : Array Value) (v : Value) (w : World) : Prop := ∃ g, v = .slice (some ⟨g, 0, none⟩) n n ∧ sb < g ∧ Blk w g t cs
theorem SlOf.grown {sb n : Nat} {t : TypeId} {cs : Array Value} {v : Value} {w w' : World} (h : SlOf sb t n cs v w) (hg : w.grownBy w' (some sb)) : SlOf sb t n cs v w' := by
  obtain ⟨g, h1, h2, h3⟩ := h
  exact ⟨g, h1, h2, h3.grown hg (by simp; omega)⟩
/-- What is said of some operations' results. -/
def RSpec (specs : List (Nat × (Value → World → Prop))) (k : Nat) (v : Value) (w : World) : Prop := match specs.lookup k with | some D => D v w | none => True
theorem RSpec.grown {sb k : Nat} {v : Value} {w w' : World} {specs : List (Nat × (Value → World → Prop))} (hst : ∀ p ∈ specs, ∀ v w w', p.2 v w → w.grownBy w' (some sb) → p.2 v w') (h : RSpec specs k v w) (hg : w.grownBy w' (some sb)) : RSpec specs k v w' := by
  induction specs with
  | nil => trivial
  | cons p l ih =>
    obtain ⟨j, D⟩ := p
    unfold RSpec at h ⊢
    rw [List.lookup_cons] at h ⊢
    by_cases e : k = j
    · subst e
      simp only [beq_self_eq_true] at h ⊢
      exact hst _ (List.mem_cons_self ..) v w w' h hg
    · have e1 : (k == j) = false := by simpa using e
      rw [e1] at h ⊢
      exact ih (fun p hp => hst p (List.mem_cons_of_mem _ hp)) h
end
end Go.Proofs.YtpildcnoghojpaaGreatDoor
/- Worlds that differ by draws and new blocks alone. Conditions: none. -/
namespace Go.Proofs.YtpildcnoghojpaaGreatDoor
section
open Go.RowKit Go.Sort

/-- Some draws and some new blocks further. -/
def Gq (w w' : World) : Prop := ∃ (q : Nat) (os : Array Obj), w' = grow (w.drewN q) os
theorem Gq.refl (w : World) : Gq w w := ⟨0, #[], by rw [grow_empty]; rfl⟩
theorem Gq.grow {a b : World} (h : Gq a b) (os : Array Obj) : Gq a (grow b os) := by
  obtain ⟨q, os0, rfl⟩ := h
  exact ⟨q, os0 ++ os, by rw [grow_grow]⟩
theorem Gq.alloc {a b : World} (h : Gq a b) (o : Obj) : Gq a (b.alloc o) := by rw [alloc_eq_grow]; exact h.grow _
theorem Gq.drewN {a b : World} (h : Gq a b) (n : Nat) : Gq a (b.drewN n) := by
  obtain ⟨q, os, rfl⟩ := h
  exact ⟨q + n, os, by simp [World.drewN, Go.Sort.grow, Nat.add_assoc]⟩
theorem Gq.drew {a b : World} (h : Gq a b) : Gq a b.drew := h.drewN 1
theorem Gq.trans {a b c : World} (h : Gq a b) (k : Gq b c) : Gq a c := by
  obtain ⟨q, os, rfl⟩ := k
  exact (h.drewN q).grow os
theorem Gq.gr {a b : World} (h : Gq a b) : a.grownBy b none := by
  obtain ⟨q, os, rfl⟩ := h
  refine ⟨rfl, rfl, rfl, ?_, fun k hk _ => ?_⟩
  · show a.heap.size ≤ (a.heap ++ os).size
    rw [Array.size_append]; omega
  · show (a.heap ++ os)[k]? = a.heap[k]?
    rw [Array.getElem?_append_left hk]
/-- A result, some draws and new blocks further. -/
def RetQ (v : Value) (w : World) (e : Ending) (w' : World) : Prop := e = .returned v ∧ Gq w w'
/-- A call that leaves the world as it is. -/
theorem same_calls {P : Program} {f : FuncId} {args : Array Value} {w : World} {v : Value} {R : Ending → World → Prop} (h : Calls P f args w (Same v w)) (k : R (.returned v) w) : Calls P f args w R :=
  h.mono (by rintro e w' ⟨rfl, rfl⟩; exact k)
end
end Go.Proofs.YtpildcnoghojpaaGreatDoor
/- The order of strings: Compare and the walk's own words for it. Over any program. Conditions: none. -/
namespace Go.Proofs.YtpildcnoghojpaaGreatDoor
section

/-! Lists of bytes. -/
theorem u8_tri {a b : UInt8} (h1 : ¬ a < b) (h2 : ¬ b < a) : a = b := by
  rw [UInt8.lt_iff_toNat_lt] at h1 h2
  exact UInt8.toNat_inj.1 (by omega)
theorem cb_zero : ∀ (x y : List UInt8), Lib.compareBytes x y = 0 ↔ x = y
  | [], [] => by simp [Lib.compareBytes]
  | [], _ :: _ => by simp [Lib.compareBytes]
  | _ :: _, [] => by simp [Lib.compareBytes]
  | a :: x, b :: y => by
    unfold Lib.compareBytes
    split
    · rename_i h
      constructor
      · intro h2; cases h2
      · intro h2; injection h2 with h3; subst h3; exact absurd h (UInt8.lt_irrefl _)
    · split
      · rename_i h
        constructor
        · intro h2; cases h2
        · intro h2; injection h2 with h3; subst h3; exact absurd h (UInt8.lt_irrefl _)
      · rename_i h1 h2
        have := u8_tri h1 h2
        subst this
        rw [cb_zero x y]
        simp
theorem cb_neg : ∀ (x y : List UInt8), Lib.compareBytes y x = - Lib.compareBytes x y
  | [], [] => rfl
  | [], _ :: _ => rfl
  | _ :: _, [] => rfl
  | a :: x, b :: y => by
    unfold Lib.compareBytes
    by_cases h1 : a < b
    · have h2 : ¬ b < a := fun h => by rw [UInt8.lt_iff_toNat_lt] at h1 h; omega
      rw [if_pos h1, if_neg h2, if_pos h1]; rfl
    · by_cases h2 : b < a
      · rw [if_pos h2, if_neg h1, if_pos h2]
      · rw [if_neg h1, if_neg h2, if_neg h2, if_neg h1]; exact cb_neg x y
theorem cb_trans : ∀ (x y z : List UInt8), Lib.compareBytes x y < 0 → Lib.compareBytes y z < 0 → Lib.compareBytes x z < 0
  | [], [], _, h, _ => by simp [Lib.compareBytes] at h
  | [], _ :: _, [], _, h => by simp [Lib.compareBytes] at h
  | [], _ :: _, _ :: _, _, _ => by simp [Lib.compareBytes]
  | _ :: _, [], _, h, _ => by simp [Lib.compareBytes] at h
  | _ :: _, _ :: _, [], _, h => by simp [Lib.compareBytes] at h
  | a :: x, b :: y, c :: z, h1, h2 => by
    unfold Lib.compareBytes at h1 h2 ⊢
    simp only [UInt8.lt_iff_toNat_lt] at h1 h2 ⊢
    split at h1
    · split at h2
      · rw [if_pos (by omega)]; decide
      · split at h2
        · exact absurd h2 (by decide)
        · rw [if_pos (by omega)]; decide
    · split at h1
      · exact absurd h1 (by decide)
      · split at h2
        · rw [if_pos (by omega)]; decide
        · split at h2
          · exact absurd h2 (by decide)
          · rw [if_neg (by omega), if_neg (by omega)]; exact cb_trans x y z h1 h2
theorem cb_less : ∀ (x y : List UInt8), Op.bytesLess x y = decide (Lib.compareBytes x y < 0)
  | [], [] => rfl
  | [], _ :: _ => rfl
  | _ :: _, [] => rfl
  | a :: x, b :: y => by
    unfold Op.bytesLess Lib.compareBytes
    rw [cb_less x y]
    by_cases h1 : a < b
    · rw [if_pos h1, decide_eq_true h1]; rfl
    · rw [if_neg h1, decide_eq_false h1]
      by_cases h2 : b < a
      · rw [if_pos h2]
        have : (a == b) = false := by rw [beq_eq_false_iff_ne]; rintro rfl; exact absurd h2 (UInt8.lt_irrefl _)
        rw [this]; rfl
      · rw [if_neg h2]
        have := u8_tri h1 h2
        subst this
        simp

/-! Strings. -/
def cmpS (a b : ByteArray) : Int := Lib.compareBytes a.data.toList b.data.toList
theorem cmpS_zero {a b : ByteArray} : cmpS a b = 0 ↔ nb a = nb b := by
  unfold cmpS
  rw [cb_zero]
  constructor
  · intro h; unfold nb; rw [h]
  · intro h; rw [nb_inj h]
theorem cmpS_neg (a b : ByteArray) : cmpS b a = - cmpS a b := cb_neg _ _
theorem cmpS_trans {a b c : ByteArray} (h1 : cmpS a b < 0) (h2 : cmpS b c < 0) : cmpS a c < 0 := cb_trans _ _ _ h1 h2
theorem cmpS_eqr {a b c : ByteArray} (h : nb b = nb c) : cmpS a b = cmpS a c := by rw [nb_inj h]
theorem ltS_cmp (a b : ByteArray) : Op.bytesLess a.toList b.toList = decide (cmpS a b < 0) := by
  rw [cb_less, ByteArray.toList_eq, ByteArray.toList_eq]; rfl
theorem leS_cmp (a b : ByteArray) : (Op.bytesLess a.toList b.toList || a.toList == b.toList) = decide (cmpS a b ≤ 0) := by
  rw [ltS_cmp]
  have h0 : (a.toList == b.toList) = decide (cmpS a b = 0) := by
    unfold cmpS
    rw [Bool.eq_iff_iff, beq_iff_eq, decide_eq_true_eq, cb_zero, ByteArray.toList_eq, ByteArray.toList_eq]
  rw [h0, Bool.eq_iff_iff]
  simp only [Bool.or_eq_true, decide_eq_true_eq]
  omega
end
end Go.Proofs.YtpildcnoghojpaaGreatDoor
/- Maps from strings to numbers that a call makes. Conditions: none. -/
namespace Go.Proofs.YtpildcnoghojpaaGreatDoor
section
open Go.RowKit Go.Maps Go.WideMaps

theorem Tryz.zeroSI (w : World) : (zeroValue 3).run Tryz.prog w = .ok (.int .i64 0) w := by kernel_rfl
theorem int_wf {n : Int} (h1 : -9223372036854775808 ≤ n) (h2 : n ≤ 9223372036854775807) : (Lit.int .i64 n).wf = true := by
  simp only [Lit.wf, Bool.and_eq_true, decide_eq_true_eq]
  exact ⟨h1, h2⟩
/-- The map in block b reads as f (0: no entry); at most n entries were put. -/
def MapSI (w : World) (b n : Nat) (f : ByteArray → Int) : Prop :=
  ∃ D : DataW Unit, w.ownsMap Tryz.prog 9 (plainElem Tryz.prog 3) b n D ∧ Maps.Tidy D ∧ ∀ k : ByteArray, D.atKey (.string k.data.toList) (.lit (.int .i64 0)) = .lit (.int .i64 (f k))
section
variable {w w' : World} {b n : Nat} {f : ByteArray → Int}
theorem MapSI.new (w : World) : MapSI (w.alloc (.map #[] 0)) w.heap.size 0 (fun _ => 0) := ⟨.map [], World.ownsMap_made _ _ _ _, Maps.tidy_empty, fun _ => Maps.atKey_of_not_has rfl _⟩
theorem MapSI.kept {row : Option Nat} (h : MapSI w b n f) (hg : w.grownBy w' row) (hne : some b ≠ row) : MapSI w' b n f := by
  obtain ⟨D, h1, h2⟩ := h
  exact ⟨D, h1.kept hg hne, h2⟩
theorem MapSI.lt (h : MapSI w b n f) : b < w.heap.size := by obtain ⟨_, h1, _⟩ := h; exact h1.lt
theorem MapSI.look (h : MapSI w b n f) {k : ByteArray} (hw : k.size ≤ maxLen) : (Instr.lookup 137 (.map (some b)) (.string k) false).run Tryz.prog w = .ok (.int .i64 (f k)) w := by
  obtain ⟨D, h1, h2, h3⟩ := h
  obtain ⟨c, hrun, hat, _⟩ := h1.lookup_int Tryz.keyS Tryz.underlying137 Tryz.underlying3 (Tryz.zeroSI w) (keyOf_string_mk Tryz.underlying9 hw)
  rw [h3] at hat
  simp only [DataW.lit.injEq, Lit.int.injEq, true_and] at hat
  rw [hrun, hat]
theorem MapSI.put (h : MapSI w b n f) (hn : n < maxLen) {k : ByteArray} {v : Int} (hw : k.size ≤ maxLen) (hv : (Lit.int .i64 v).wf = true) : ∃ w', (Instr.mapUpdate 137 (.map (some b)) (.string k) (.int .i64 v)).run Tryz.prog w = .ok () w' ∧
    MapSI w' b (n + 1) (fun k' => if nb k = nb k' then v else f k') ∧ w.grownBy w' (some b) := by
  obtain ⟨D, h1, h2, h3⟩ := h
  obtain ⟨w', hrun, ho, hg⟩ := h1.update Tryz.keyS Tryz.underlying137 hn (keyOf_string_mk Tryz.underlying9 hw) (plainElem_int Tryz.underlying3 hv)
  have hk : WideAt.IsKeyLit (.string k.data.toList) := Tryz.keyS.key (keyOf_string_mk Tryz.underlying9 hw)
  refine ⟨w', hrun, ⟨_, ho, h2.put hk _, fun k' => ?_⟩, hg⟩
  dsimp only
  by_cases e : nb k = nb k'
  · rw [if_pos e, ← nb_data.1 e, Maps.atKey_put_same h2.isMap hk]
  · have e' : k'.data.toList ≠ k.data.toList := fun h => e (nb_data.2 h.symm)
    rw [if_neg e, Maps.atKey_put_other (by simpa using e'), h3]
end
section
variable {w : World} {ops : Array Oper} {rest : List Oper} {o : Oper} {a : Act} {Q : Exit → Act → World → Prop} {b n : Nat} {f : ByteArray → Int}
theorem wpl_silook (hgd : o.guard = none) (m x : Operand) (hop : o.op = Op.lookup 137 m x false) (hm : a.eval m = .map (some b)) (k : ByteArray) (hx : a.eval x = .string k) (hw : k.size ≤ maxLen) (h : MapSI w b n f)
    (hK : wpList Tryz.prog ops Q rest (a.put o.dst (.int .i64 (f k))) w) : wpList Tryz.prog ops Q (o :: rest) a w := by
  refine wpList_plain hgd fun K' hK' => ?_
  unfold Oper.wp
  simp [execOp, hop, hm, hx, h.look hw, Result.andThen]
  exact hK' _ _ hK
theorem wpl_siput (hgd : o.guard = none) (m x v : Operand) (hop : o.op = Op.mapUpdate 137 m x v) (hm : a.eval m = .map (some b)) (k : ByteArray) (u : Int) (hx : a.eval x = .string k) (hv : a.eval v = .int .i64 u) (hw : k.size ≤ maxLen) (hu : (Lit.int .i64 u).wf = true) (h : MapSI w b n f) (hn : n < maxLen)
    (hK : ∀ w', MapSI w' b (n + 1) (fun k' => if nb k = nb k' then u else f k') → w.grownBy w' (some b) → wpList Tryz.prog ops Q rest (a.put o.dst undef) w') : wpList Tryz.prog ops Q (o :: rest) a w := by
  refine wpList_plain hgd fun K' hK' => ?_
  obtain ⟨w', hrun, h1, h2⟩ := h.put hn hw hu
  unfold Oper.wp
  simp [execOp, hop, hm, hx, hv, hrun, Result.andThen]
  exact hK' _ _ (hK w' h1 h2)
end
end
end Go.Proofs.YtpildcnoghojpaaGreatDoor
/- Maps from strings to strings that a call makes. Conditions: none. -/
namespace Go.Proofs.YtpildcnoghojpaaGreatDoor
section
open Go.RowKit Go.Maps Go.WideMaps

theorem Tryz.zeroSS (w : World) : (zeroValue 9).run Tryz.prog w = .ok (.string ⟨#[]⟩) w := by kernel_rfl
/-- The map in block b reads as f; at most n entries were put. -/
def MapSS (w : World) (b n : Nat) (f : ByteArray → Option ByteArray) : Prop :=
  ∃ D : DataW Unit, w.ownsMap Tryz.prog 9 (plainElem Tryz.prog 9) b n D ∧ Maps.Tidy D ∧ ∀ (k : ByteArray) zd, D.atKey (.string k.data.toList) zd = (f k).elim zd (fun s => .lit (.string s.data.toList))
section
variable {w w' : World} {b n : Nat} {f : ByteArray → Option ByteArray}
theorem MapSS.new (w : World) : MapSS (w.alloc (.map #[] 0)) w.heap.size 0 (fun _ => none) := ⟨.map [], World.ownsMap_made _ _ _ _, Maps.tidy_empty, fun _ zd => Maps.atKey_of_not_has rfl zd⟩
theorem MapSS.kept {row : Option Nat} (h : MapSS w b n f) (hg : w.grownBy w' row) (hne : some b ≠ row) : MapSS w' b n f := by
  obtain ⟨D, h1, h2⟩ := h
  exact ⟨D, h1.kept hg hne, h2⟩
theorem MapSS.lt (h : MapSS w b n f) : b < w.heap.size := by obtain ⟨_, h1, _⟩ := h; exact h1.lt
theorem MapSS.look2 (h : MapSS w b n f) {k : ByteArray} (hw : k.size ≤ maxLen) : (Instr.lookup 135 (.map (some b)) (.string k) true).run Tryz.prog w = .ok (.tuple #[.string ((f k).getD ⟨#[]⟩), .bool (f k).isSome]) w := by
  obtain ⟨D, ⟨es, clock, hb, F, _, rfl⟩, _, h3⟩ := h
  rcases Maps.fit_look true Tryz.keyS Tryz.underlying135 (Tryz.zeroSS w) hb F (keyOf_string_mk Tryz.underlying9 hw) with ⟨hrun, _, hat⟩ | ⟨e0, y, _, _, hrun, hRv, hat, _⟩
  · rw [hrun]
    cases hf : f k with
    | none => rfl
    | some s =>
      have h4 := h3 k (.lit (.bool true))
      have h5 := h3 k (.lit (.bool false))
      rw [hat, hf] at h4 h5
      simp only [Option.elim] at h4 h5
      rw [← h5] at h4
      cases h4
  · rw [hrun]
    obtain ⟨s, hv, hy, _⟩ := plainElem_string_inv Tryz.underlying9 hRv
    subst hy
    rw [hv]
    have h4 := h3 k (.lit (.bool true))
    rw [hat] at h4
    cases hf : f k with
    | none => rw [hf] at h4; cases h4
    | some s' =>
      rw [hf] at h4
      simp only [Option.elim, DataW.lit.injEq, Lit.string.injEq] at h4
      have : s = s' := ByteArray.ext (Array.ext' h4)
      subst this
      rfl
theorem MapSS.put (h : MapSS w b n f) (hn : n < maxLen) {k v : ByteArray} (hw : k.size ≤ maxLen) (hv : v.size ≤ maxLen) : ∃ w', (Instr.mapUpdate 135 (.map (some b)) (.string k) (.string v)).run Tryz.prog w = .ok () w' ∧
    MapSS w' b (n + 1) (fun k' => if nb k = nb k' then some v else f k') ∧ w.grownBy w' (some b) := by
  obtain ⟨D, h1, h2, h3⟩ := h
  obtain ⟨w', hrun, ho, hg⟩ := h1.update Tryz.keyS Tryz.underlying135 hn (keyOf_string_mk Tryz.underlying9 hw) (plainElem_string Tryz.underlying9 hv)
  have hk : WideAt.IsKeyLit (.string k.data.toList) := Tryz.keyS.key (keyOf_string_mk Tryz.underlying9 hw)
  refine ⟨w', hrun, ⟨_, ho, h2.put hk _, fun k' zd => ?_⟩, hg⟩
  dsimp only
  by_cases e : nb k = nb k'
  · rw [if_pos e, ← nb_data.1 e, Maps.atKey_put_same h2.isMap hk]; rfl
  · have e' : k'.data.toList ≠ k.data.toList := fun h => e (nb_data.2 h.symm)
    rw [if_neg e, Maps.atKey_put_other (by simpa using e'), h3]
end
section
variable {w : World} {ops : Array Oper} {rest : List Oper} {o : Oper} {a : Act} {Q : Exit → Act → World → Prop} {b n : Nat} {f : ByteArray → Option ByteArray}
theorem wpl_sslook2 (hgd : o.guard = none) (m x : Operand) (hop : o.op = Op.lookup 135 m x true) (hm : a.eval m = .map (some b)) (k : ByteArray) (hx : a.eval x = .string k) (hw : k.size ≤ maxLen) (h : MapSS w b n f)
    (hK : wpList Tryz.prog ops Q rest (a.put o.dst (.tuple #[.string ((f k).getD ⟨#[]⟩), .bool (f k).isSome])) w) : wpList Tryz.prog ops Q (o :: rest) a w := by
  refine wpList_plain hgd fun K' hK' => ?_
  unfold Oper.wp
  simp [execOp, hop, hm, hx, h.look2 hw, Result.andThen]
  exact hK' _ _ hK
theorem wpl_ssput (hgd : o.guard = none) (m x v : Operand) (hop : o.op = Op.mapUpdate 135 m x v) (hm : a.eval m = .map (some b)) (k u : ByteArray) (hx : a.eval x = .string k) (hv : a.eval v = .string u) (hw : k.size ≤ maxLen) (hu : u.size ≤ maxLen) (h : MapSS w b n f) (hn : n < maxLen)
    (hK : ∀ w', MapSS w' b (n + 1) (fun k' => if nb k = nb k' then some u else f k') → w.grownBy w' (some b) → wpList Tryz.prog ops Q rest (a.put o.dst undef) w') : wpList Tryz.prog ops Q (o :: rest) a w := by
  refine wpList_plain hgd fun K' hK' => ?_
  obtain ⟨w', hrun, h1, h2⟩ := h.put hn hw hu
  unfold Oper.wp
  simp [execOp, hop, hm, hx, hv, hrun, Result.andThen]
  exact hK' _ _ (hK w' h1 h2)
end
end
end Go.Proofs.YtpildcnoghojpaaGreatDoor
/- string(b) of bytes that lie in memory. Conditions: none. -/
namespace Go.Proofs.YtpildcnoghojpaaGreatDoor
section
open Go.RowKit

/-- A string of bytes, given as numbers. -/
def strI (l : List Int) : ByteArray := ⟨(l.map (fun z => z.toNat.toUInt8)).toArray⟩
theorem fold_push (l : List Int) (s : ByteArray) : l.foldl (fun r n => r.push (UInt8.ofNat n.toNat)) s = ⟨s.data ++ (l.map (fun z => z.toNat.toUInt8)).toArray⟩ := by
  induction l generalizing s with
  | nil => simp
  | cons x l ih =>
    rw [List.foldl_cons, ih]
    simp [ByteArray.push]
theorem run_str {P : Program} {src dst e : TypeId} {w : World} {lo : Nat} {A : Option Addr} {n c : Nat} {l : List Int} (hs : P.underlying src = some (.slice e)) (he : P.underlying e = some (.int .u8)) (hd : P.underlying dst = some .string) (h : Ints .u8 w lo A n c l) :
    (convert src dst (.slice A n c)).run P w = .ok (.string (strI l)) w := by
  cases A with
  | none =>
    have hn : n = 0 := by
      rcases Nat.eq_zero_or_pos n with h0 | h0
      · exact h0
      · obtain ⟨g, o, e, _⟩ := h.2.2 h0; cases e
    subst hn
    have hl : l = [] := List.eq_nil_of_length_eq_zero h.len
    subst hl
    rw [Lib.run_convert_nil_bytes w src dst e c hs he hd]
    rfl
  | some ad =>
    have hlen := h.len
    have hload : (loadCells ad n).run P w = .ok (l.map (Value.int .u8)).toArray w := by
      have := run_loadCells_list (P := P) w ad (l.map (Value.int .u8)) (fun j u hu => by
        have hj := (List.getElem?_eq_some_iff.1 hu).1
        rw [List.length_map] at hj
        obtain ⟨g, o, e, _, _, h3⟩ := h.2.2 (by omega)
        injection e with e
        subst e
        rw [add_mk]
        exact h3 j u hu)
      rw [List.length_map, hlen] at this
      exact this
    rw [run_convert_bytes_string w src dst e _ _ _ hs he hd, run_bytesToString w ad n c l hload, fold_push]
    simp [strI, ByteArray.empty, ByteArray.emptyWithCapacity]
    rfl
end
end Go.Proofs.YtpildcnoghojpaaGreatDoor

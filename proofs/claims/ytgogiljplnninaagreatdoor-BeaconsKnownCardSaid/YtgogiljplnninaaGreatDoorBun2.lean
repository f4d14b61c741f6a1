/- Contracts of the stream of drawn numbers: what is drawn lies in its range, whatever the input. Conditions: none. -/
import Derived.Test.YtgogiljplnninaaGreatDoorRows
import Derived.Test.YtgogiljplnninaaGreatDoorBun1
import Derived.WalkKit
import Derived.Deep.QuietTactic
import Derived.BigQuiet
import Derived.Sort.Grow
namespace Go.Proofs.YtgogiljplnninaaGreatDoor
section
open Go.RowKit

def InRange (n : Int) (w : World) (e : Ending) (w' : World) : Prop := ∃ r : Int, 0 ≤ r ∧ r < n ∧ e = .returned (.int .i64 r) ∧ w = w'

set_option maxHeartbeats 400000 in
theorem below_any (x n : Int) (w : World) (hn : 1 ≤ n) (hn2 : n ≤ 4611686018427387904) :
    Calls Tryz.prog 53 #[.int .i64 x, .int .i64 n] w (InRange n w) := by
  have h1 : x.tmod n < n := Int.tmod_lt_of_pos _ (by omega)
  have h2 : -n < x.tmod n := by have := Int.lt_tmod_of_pos x (b := n) (by omega); omega
  go_enter Tryz.func53, Tryz.ntmps53
  go_wp2
  all_goals
    go_ret
    exact ⟨_, by omega, by omega, rfl, rfl⟩

/-- The stream's struct lies in block sb: the numbers that came in, and how many have been drawn (at most m). -/
def Str (w : World) (sb : Nat) (m : Int) : Prop :=
  ∃ (A : Option Addr) (len cap : Nat) (k : Int), 0 ≤ k ∧ k ≤ m ∧ len ≤ 9223372036854775807 ∧ Blk w sb 25 #[.slice A len cap, .int .i64 k] ∧
    (0 < len → ∃ b o, A = some ⟨b, o, none⟩ ∧ b < sb ∧ ∀ i, i < len → ∃ z, w.cell? ⟨b, o + i, none⟩ = some (.int .i64 z))
theorem Str.lt {w : World} {sb : Nat} {m : Int} (h : Str w sb m) : sb < w.heap.size := by
  obtain ⟨_, _, _, _, _, _, _, hb, _⟩ := h
  exact hb.lt
theorem Str.mono {w : World} {sb : Nat} {m m' : Int} (h : Str w sb m) (hm : m ≤ m') : Str w sb m' := by
  obtain ⟨A, len, cap, k, h0, h1, h2, h3, h4⟩ := h
  exact ⟨A, len, cap, k, h0, by omega, h2, h3, h4⟩
theorem Str.kept {w w' : World} {sb : Nat} {m : Int} (h : Str w sb m) (hk : ∀ g, g ≤ sb → w'.heap[g]? = w.heap[g]?) : Str w' sb m := by
  obtain ⟨A, len, cap, k, h0, h1, h2, h3, h4⟩ := h
  refine ⟨A, len, cap, k, h0, h1, h2, (hk sb (Nat.le_refl _)).trans h3, fun hl => ?_⟩
  obtain ⟨b, o, e, hb, hc⟩ := h4 hl
  refine ⟨b, o, e, hb, fun i hi => ?_⟩
  obtain ⟨z, hz⟩ := hc i hi
  exact ⟨z, (World.cell?_of_block (hk b (by omega))).trans hz⟩
theorem Str.grown {w w' : World} {sb : Nat} {m : Int} (h : Str w sb m) {row : Option Nat} (hg : w.grownBy w' row) (hr : ∀ g, row = some g → sb < g) : Str w' sb m :=
  h.kept fun g hle => hg.block g (by have := h.lt; omega) (fun e => by have := hr _ e.symm; omega)
theorem Str.below {w w' : World} {sb : Nat} {m : Int} (h : Str w sb m) (hb : Below w.heap.size w w') : Str w' sb m := h.kept fun g hle => hb.block g (by have := h.lt; omega)
theorem Str.alloc {w : World} {sb : Nat} {m : Int} (h : Str w sb m) (o : Obj) : Str (w.alloc o) sb m := h.kept fun g hle => Below.heap_alloc w o g (by have := h.lt; omega)
theorem Str.drew {w : World} {sb : Nat} {m : Int} (h : Str w sb m) : Str w.drew sb m := h
theorem Str.drewN {w : World} {sb : Nat} {m : Int} (h : Str w sb m) (k : Nat) : Str (w.drewN k) sb m := h
theorem Str.setCell {w : World} {sb : Nat} {m : Int} (h : Str w sb m) {p : Addr} (hp : sb < p.block) (u : Value) : Str (w.setCell p u) sb m :=
  h.kept fun g hle => Below.heap_setCell w p u g (by omega)

/-- A generator's answer: a value of which P holds; m more numbers have been drawn at most; nothing else that was there has changed. -/
def Drawn (sb : Nat) (m : Int) (P : Value → World → Prop) (w : World) (e : Ending) (w' : World) : Prop :=
  ∃ v, e = .returned v ∧ P v w' ∧ Str w' sb m ∧ w.grownBy w' (some sb)

def IntIn (lo hi : Int) (v : Value) (_ : World) : Prop := ∃ r : Int, lo ≤ r ∧ r ≤ hi ∧ v = .int .i64 r

set_option maxHeartbeats 1000000 in
theorem next_any (sb : Nat) (m n : Int) (w : World) (hs : Str w sb m) (hm : m ≤ 1152921504606846976) (hn : 1 ≤ n) (hn2 : n ≤ 4611686018427387904) :
    Calls Tryz.prog 11 #[.pointer (some ⟨sb, 0, none⟩), .int .i64 n] w (Drawn sb (m + 1) (IntIn 0 (n - 1)) w) := by
  obtain ⟨A, len, cap, k, hk0, hk1, hl, hb, hz⟩ := hs
  have c0 : w.cell? ⟨sb, 0, none⟩ = some (.slice A len cap) := hb.cell 0
  have c1 : w.cell? ⟨sb, 1, none⟩ = some (.int .i64 k) := hb.cell 1
  have f1 : w.frozen? ⟨sb, 1, none⟩ = false := hb.frozen 1
  by_cases h0 : len = 0
  · subst h0
    have H := Lib.hid hb; clear hb
    go_enter Tryz.func11, Tryz.ntmps11
    go_wp2_with (go_at_call 53; refine (below_any _ _ _ (by omega) (by omega)).mono ?_; rintro e w' ⟨r, hr1, hr2, rfl, rfl⟩)
    go_ret
    have hb := H.out.set_ 1 (.int .i64 (k + 1))
    exact ⟨_, rfl, ⟨r, by omega, by omega, rfl⟩, ⟨A, 0, cap, k + 1, by omega, by omega, by omega, hb, fun h => absurd h (by omega)⟩, gr_setCell (gr_refl _ _) (.inl rfl) _⟩
  · obtain ⟨b, o, rfl, hbs, hc⟩ := hz (by omega)
    have hi0 : 0 ≤ k % (len : Int) := Int.emod_nonneg _ (by omega)
    have hi1 : k % (len : Int) < len := Int.emod_lt_of_pos _ (by omega)
    obtain ⟨z, hcz⟩ := hc (k % (len : Int)).toNat (by omega)
    have h0' : ((len : Int) == 0) = false := by simpa using h0
    have HB := Lib.hid hb; clear hb
    have HC := Lib.hid hc; clear hc hz
    have hne : b ≠ sb := by omega
    go_enter Tryz.func11, Tryz.ntmps11
    go_wp2_with fail
    go_quiet (fail)
    go_wp2_with fail
    go_quiet (fail)
    go_wp2_with (go_at_call 53; refine (below_any _ _ _ (by omega) (by omega)).mono ?_; rintro e w' ⟨r, hr1, hr2, rfl, rfl⟩)
    go_ret
    have hb2 := (HB.out.set_ 1 (.int .i64 (k + 1)))
    refine ⟨_, rfl, ⟨_, by assumption, by omega, rfl⟩, ⟨_, len, cap, k + 1, by omega, by omega, by omega, hb2, fun h => ⟨b, o, rfl, hbs, fun i hi => ?_⟩⟩, gr_drewN (gr_setCell (gr_refl _ _) (.inl rfl) _) _⟩
    obtain ⟨z, hz⟩ := HC.out i hi
    exact ⟨z, (World.cell?_setCell_other w _ _ _ (fun e => by injection e; omega)).trans hz⟩

def BoolAny (v : Value) (_ : World) : Prop := ∃ b : Bool, v = .bool b

set_option maxHeartbeats 1000000 in
theorem range_any (sb : Nat) (m lo hi : Int) (w : World) (hs : Str w sb m) (hm : m ≤ 1152921504606846976) (h1 : -1152921504606846976 ≤ lo) (h2 : lo ≤ hi) (h3 : hi ≤ 1152921504606846976) :
    Calls Tryz.prog 8 #[.pointer (some ⟨sb, 0, none⟩), .int .i64 lo, .int .i64 hi] w (Drawn sb (m + 1) (IntIn lo hi) w) := by
  have H := Lib.hid hs; clear hs
  go_enter Tryz.func8, Tryz.ntmps8
  go_wp2_with (go_at_call 11; refine (next_any sb m _ _ H.out hm (by omega) (by omega)).mono ?_; rintro e w' ⟨v, rfl, ⟨r, hr1, hr2, rfl⟩, hs', hg⟩)
  go_ret
  exact ⟨_, rfl, ⟨lo + r, by omega, by omega, rfl⟩, hs', hg⟩

set_option maxHeartbeats 1000000 in
theorem flip_any (sb : Nat) (m n : Int) (w : World) (hs : Str w sb m) (hm : m ≤ 1152921504606846976) (hn : 1 ≤ n) (hn2 : n ≤ 4611686018427387904) :
    Calls Tryz.prog 9 #[.pointer (some ⟨sb, 0, none⟩), .int .i64 n] w (Drawn sb (m + 1) BoolAny w) := by
  have H := Lib.hid hs; clear hs
  go_enter Tryz.func9, Tryz.ntmps9
  go_wp2_with (go_at_call 11; refine (next_any sb m _ _ H.out hm (by omega) (by omega)).mono ?_; rintro e w' ⟨v, rfl, ⟨r, hr1, hr2, rfl⟩, hs', hg⟩)
  go_ret
  exact ⟨_, rfl, ⟨_, rfl⟩, hs', hg⟩

/-- One of the numbers of a list. -/
def IntOf (l : List Int) (v : Value) (_ : World) : Prop := ∃ r : Int, r ∈ l ∧ v = .int .i64 r

set_option maxHeartbeats 1000000 in
theorem pick_any (sb : Nat) (m : Int) (g n : Nat) (l : List Int) (w : World) (hs : Str w sb m) (hm : m ≤ 1152921504606846976) (hr : Blk w g 3 (l.map (Value.int .i64)).toArray) (hg : g ≠ sb) (hn : l.length = n) (h0 : 1 ≤ n) (h1 : n ≤ 4611686018427387904) :
    Calls Tryz.prog 31 #[.pointer (some ⟨sb, 0, none⟩), .slice (some ⟨g, 0, none⟩) n n] w (Drawn sb (m + 1) (IntOf l) w) := by
  have H := Lib.hid hs; clear hs
  have HR := Lib.hid hr; clear hr
  have HN := Lib.hid hn; clear hn
  go_enter Tryz.func31, Tryz.ntmps31
  go_wp2_with fail
  refine (next_any sb m _ _ H.out hm (by omega) (by omega)).mono ?_
  rintro e w' ⟨v, rfl, ⟨r, hr1, hr2, rfl⟩, hs', hg'⟩
  have hlt : r.toNat < l.length := by rw [HN.out]; omega
  have hc : w'.cell? ⟨g, r.toNat, none⟩ = some (.int .i64 l[r.toNat]) := by
    rw [(HR.out.grown hg' (by simpa using hg)).cell]; simp [hlt]
  have H' := Lib.hid hs'; clear hs'
  have HG := Lib.hid hg'; clear hg'
  have hmem : l[r.toNat] ∈ l := List.getElem_mem _
  go_wp2_with fail
  go_ret
  exact ⟨_, rfl, ⟨_, hmem, rfl⟩, H'.out, HG.out⟩
/-- The same where the numbers were just laid out for the call. -/
theorem pick_new (sb : Nat) (m : Int) (l : List Int) (W : World) (hs : Str W sb m) (hm : m ≤ 1152921504606846976) {g n : Nat} {cs : Array Value} (hg : W.heap.size = g) (hcs : cs = (l.map (Value.int .i64)).toArray) (hn : l.length = n) (h0 : 1 ≤ n) (h1 : n ≤ 4611686018427387904) :
    Calls Tryz.prog 31 #[.pointer (some ⟨sb, 0, none⟩), .slice (some ⟨g, 0, none⟩) n n] (W.alloc (.cells cs 3)) (Drawn sb (m + 1) (IntOf l) W) := by
  subst hcs; subst hg
  refine (pick_any sb m _ n l _ (hs.alloc _) hm (Blk.new _ _ _) (by have := hs.lt; omega) hn h0 h1).mono ?_
  rintro e w' ⟨v, rfl, hv, hs', hg'⟩
  exact ⟨v, rfl, hv, hs', gr_same (gr_alloc (gr_refl _ _) _) hg'⟩
end
end Go.Proofs.YtgogiljplnninaaGreatDoor
/- Worlds that differ by draws and new blocks alone. Conditions: none. -/
namespace Go.Proofs.YtgogiljplnninaaGreatDoor
section
open Go.RowKit Go.Sort

/-- Some draws and some new blocks further. -/
def Gq (w w' : World) : Prop := ∃ (q : Nat) (os : Array Obj), w' = grow (w.drewN q) os
theorem drewN_zero (w : World) : w.drewN 0 = w := rfl
theorem Gq.refl (w : World) : Gq w w := ⟨0, #[], by rw [grow_empty]; rfl⟩
theorem Gq.grow {a b : World} (h : Gq a b) (os : Array Obj) : Gq a (grow b os) := by
  obtain ⟨q, os0, rfl⟩ := h
  exact ⟨q, os0 ++ os, by rw [grow_grow]⟩
theorem Gq.alloc {a b : World} (h : Gq a b) (o : Obj) : Gq a (b.alloc o) := by rw [alloc_eq_grow]; exact h.grow _
theorem Gq.drewN {a b : World} (h : Gq a b) (n : Nat) : Gq a (b.drewN n) := by
  obtain ⟨q, os, rfl⟩ := h
  exact ⟨q + n, os, by simp [World.drewN, Go.Sort.grow, Nat.add_assoc]⟩
theorem Gq.drew {a b : World} (h : Gq a b) : Gq a b.drew := h.drewN 1
theorem Gq.trans {a b c : World} (h : Gq a b) (k : Gq b c) : Gq a c := by
  obtain ⟨q, os, rfl⟩ := k
  exact (h.drewN q).grow os
theorem Gq.gr {a b : World} (h : Gq a b) : a.grownBy b none := by
  obtain ⟨q, os, rfl⟩ := h
  refine ⟨rfl, rfl, rfl, ?_, fun k hk _ => ?_⟩
  · show a.heap.size ≤ (a.heap ++ os).size
    rw [Array.size_append]; omega
  · show (a.heap ++ os)[k]? = a.heap[k]?
    rw [Array.getElem?_append_left hk]
/-- A result, some draws and new blocks further. -/
def RetQ (v : Value) (w : World) (e : Ending) (w' : World) : Prop := e = .returned v ∧ Gq w w'
/-- A call that leaves the world as it is. -/
theorem same_calls {P : Program} {f : FuncId} {args : Array Value} {w : World} {v : Value} {R : Ending → World → Prop} (h : Calls P f args w (Same v w)) (k : R (.returned v) w) : Calls P f args w R :=
  h.mono (by rintro e w' ⟨rfl, rfl⟩; exact k)
end
end Go.Proofs.YtgogiljplnninaaGreatDoor
/- Contract of the generator of strings Some. Conditions: none. -/
namespace Go.Proofs.YtgogiljplnninaaGreatDoor
section
open Go.RowKit

/-- A string of at most so many bytes. -/
def StrBd (m : Nat) (v : Value) (_ : World) : Prop := ∃ s : ByteArray, v = .string s ∧ s.size ≤ m
/-- Cells that are such strings. -/
def StrsOk (k : Nat) (cs : List Value) : Prop := ∀ v ∈ cs, ∃ s : ByteArray, v = .string s ∧ s.size ≤ k
theorem StrsOk.nil (k : Nat) : StrsOk k [] := fun v hv => by cases hv
theorem StrsOk.cons {k : Nat} {s : ByteArray} {cs : List Value} (hs : s.size ≤ k) (h : StrsOk k cs) : StrsOk k (.string s :: cs) := by
  intro v hv
  rcases List.mem_cons.1 hv with rfl | hv
  · exact ⟨s, rfl, hs⟩
  · exact h v hv
set_option maxHeartbeats 2000000 in
theorem some_new (sb : Nat) (m : Int) (k : Nat) (W : World) (hs : Str W sb m) (hm : m ≤ 1152921504606846976) {g n : Nat} {cs : Array Value} (hg : W.heap.size = g) (hcs : StrsOk k cs.toList) (hn : cs.size = n) (h0 : 1 ≤ n) (h1 : n ≤ 1000) :
    Calls Tryz.prog 12 #[.pointer (some ⟨sb, 0, none⟩), .slice (some ⟨g, 0, none⟩) n n] (W.alloc (.cells cs 9)) (Drawn sb (m + 1) (StrBd k) W) := by
  subst hg
  have hlt := hs.lt
  have HS := Lib.hid (hs.alloc (.cells cs 9))
  have HB := Lib.hid (Blk.new W 9 cs)
  have HG := Lib.hid (gr_alloc (gr_refl W (some sb)) (.cells cs 9))
  have HCS := Lib.hid hcs; have HN := Lib.hid hn
  clear hs hcs hn
  generalize hW : W.alloc (.cells cs 9) = W1 at *
  clear hW
  go_enter Tryz.func12, Tryz.ntmps12
  go_wp2_with fail
  refine (next_any sb m _ _ HS.out hm (by omega) (by omega)).mono ?_
  rintro e w' ⟨v, rfl, ⟨r, hr1, hr2, rfl⟩, hs', hg'⟩
  have hr3 : r.toNat < cs.toList.length := by rw [Array.length_toList, HN.out]; omega
  obtain ⟨s, hs1, hs2⟩ := HCS.out _ (List.getElem_mem hr3)
  have hc : w'.cell? ⟨W.heap.size, r.toNat, none⟩ = some (.string s) := by
    rw [(HB.out.grown hg' (by simp; omega)).cell, ← hs1]
    rw [Array.getElem?_eq_getElem (by simpa using hr3)]
    simp
  have H' := Lib.hid hs'; clear hs'
  have HG' := Lib.hid (gr_same HG.out hg'); clear hg'
  go_wp2_with fail
  go_ret
  exact ⟨_, rfl, ⟨s, rfl, hs2⟩, H'.out, HG'.out⟩
end
end Go.Proofs.YtgogiljplnninaaGreatDoor
/- Contract of the generator of strings Some, at a word that holds of each. Conditions: none. -/
namespace Go.Proofs.YtgogiljplnninaaGreatDoor
section
open Go.RowKit

def StrQ (Q : ByteArray → Prop) (v : Value) (_ : World) : Prop := ∃ s : ByteArray, v = .string s ∧ Q s
def StrsQ (Q : ByteArray → Prop) (cs : List Value) : Prop := ∀ v ∈ cs, ∃ s : ByteArray, v = .string s ∧ Q s
theorem StrsQ.nil (Q : ByteArray → Prop) : StrsQ Q [] := fun v hv => by cases hv
theorem StrsQ.cons {Q : ByteArray → Prop} {s : ByteArray} {cs : List Value} (hs : Q s) (h : StrsQ Q cs) : StrsQ Q (.string s :: cs) := by
  intro v hv
  rcases List.mem_cons.1 hv with rfl | hv
  · exact ⟨s, rfl, hs⟩
  · exact h v hv
set_option maxHeartbeats 2000000 in
theorem some_newQ (Q : ByteArray → Prop) (sb : Nat) (m : Int) (W : World) (hs : Str W sb m) (hm : m ≤ 1152921504606846976) {g n : Nat} {cs : Array Value} (hg : W.heap.size = g) (hcs : StrsQ Q cs.toList) (hn : cs.size = n) (h0 : 1 ≤ n) (h1 : n ≤ 1000) :
    Calls Tryz.prog 12 #[.pointer (some ⟨sb, 0, none⟩), .slice (some ⟨g, 0, none⟩) n n] (W.alloc (.cells cs 9)) (Drawn sb (m + 1) (StrQ Q) W) := by
  subst hg
  have hlt := hs.lt
  have HS := Lib.hid (hs.alloc (.cells cs 9))
  have HB := Lib.hid (Blk.new W 9 cs)
  have HG := Lib.hid (gr_alloc (gr_refl W (some sb)) (.cells cs 9))
  have HCS := Lib.hid hcs; have HN := Lib.hid hn
  clear hs hcs hn
  generalize hW : W.alloc (.cells cs 9) = W1 at *
  clear hW
  go_enter Tryz.func12, Tryz.ntmps12
  go_wp2_with fail
  refine (next_any sb m _ _ HS.out hm (by omega) (by omega)).mono ?_
  rintro e w' ⟨v, rfl, ⟨r, hr1, hr2, rfl⟩, hs', hg'⟩
  have hr3 : r.toNat < cs.toList.length := by rw [Array.length_toList, HN.out]; omega
  obtain ⟨s, hs1, hs2⟩ := HCS.out _ (List.getElem_mem hr3)
  have hc : w'.cell? ⟨W.heap.size, r.toNat, none⟩ = some (.string s) := by
    rw [(HB.out.grown hg' (by simp; omega)).cell, ← hs1]
    rw [Array.getElem?_eq_getElem (by simpa using hr3)]
    simp
  have H' := Lib.hid hs'; clear hs'
  have HG' := Lib.hid (gr_same HG.out hg'); clear hg'
  go_wp2_with fail
  go_ret
  exact ⟨_, rfl, ⟨s, rfl, hs2⟩, H'.out, HG'.out⟩
end
end Go.Proofs.YtgogiljplnninaaGreatDoor
/- Contract of errs: the first error of some. Conditions: none. -/
namespace Go.Proofs.YtgogiljplnninaaGreatDoor
section
open Go.RowKit

/-- The first of some errors. -/
def firstE (l : List Int) : Int := (l.find? (fun z => z != 0)).getD 0
theorem firstE_cons (a : Int) (l : List Int) : firstE (a :: l) = if a = 0 then firstE l else a := by
  unfold firstE
  by_cases h : a = 0
  · subst h; rfl
  · rw [if_neg h, List.find?_cons_of_pos (by simpa using h)]; rfl
theorem firstE_nil : firstE [] = 0 := rfl
set_option maxHeartbeats 2000000 in
theorem errs_run (lo : Nat) (A : Option Addr) (n c : Nat) (l : List Int) (w : World) (h : Ints .i64 w lo A n c l) (hn : n ≤ 1000000000000) :
    Calls Tryz.prog 16 #[.slice A n c] w (Same (.int .i64 (firstE l)) w) := by
  have H := Lib.hid h; clear h
  go_enter Tryz.func16, Tryz.ntmps16
  go_wp2_with fail
  go_loop [4, 7] (fun _ t => ∃ i : Nat, i ≤ n ∧ t = .int .i64 i ∧ firstE l = firstE (l.drop i)) (fun _ t => n - (intOf t).toNat)
  case atStart => exact ⟨0, Nat.zero_le _, rfl, rfl⟩
  case round =>
    obtain ⟨i, hi, rfl, ha⟩ := hrel
    have HA := Lib.hid ha; clear ha
    by_cases hlt : i < n
    · obtain ⟨g, o, z, rfl, _, _, hz, hc⟩ := H.out.get hlt
      have HZ := Lib.hid (show firstE l = if z = 0 then firstE (l.drop (i + 1)) else z by
        rw [HA.out, ← firstE_cons]
        obtain ⟨hl, hz2⟩ := List.getElem?_eq_some_iff.1 hz
        rw [List.drop_eq_getElem_cons hl, hz2])
      clear hz
      by_cases hp : z = 0
      · subst hp
        go_wp2_with fail
        go_round
        case rel => exact ⟨i + 1, by omega, by go_num, by rw [HZ.out]; rfl⟩
        case measure => simp [intOf]; omega
      · have hpb : (z != 0) = true := by simpa using hp
        have HP := Lib.hid (show firstE l = z by rw [HZ.out, if_neg hp])
        go_wp2_with fail
        go_ret
        exact ⟨by rw [HP.out]; rfl, rfl⟩
    · obtain rfl : i = n := by omega
      go_wp2_with fail
      go_ret
      exact ⟨by rw [HA.out, List.drop_eq_nil_of_le (by rw [H.out.len]; exact Nat.le_refl _)]; rfl, rfl⟩
/-- The errors were just laid out for the call. -/
theorem errs_new (l : List Int) (W : World) {g n : Nat} {cs : Array Value} (hg : W.heap.size = g) (hcs : cs = (l.map (Value.int .i64)).toArray) (hn : l.length = n) (hn2 : n ≤ 1000) :
    Calls Tryz.prog 16 #[.slice (some ⟨g, 0, none⟩) n n] (W.alloc (.cells cs 36)) (RetV (.int .i64 (firstE l)) W) := by
  subst hg; subst hcs
  refine (errs_run _ _ n n l _ (Reads.blk (Blk.new W _ _) 1 n (by simp [hn])) (by omega)).mono ?_
  rintro e w' ⟨rfl, rfl⟩
  exact ⟨rfl, gr_alloc (gr_refl _ _) _⟩
end
end Go.Proofs.YtgogiljplnninaaGreatDoor
/- What the laws share: the numbers that came in, as a stream. Conditions: none. -/
namespace Go.Proofs.YtgogiljplnninaaGreatDoor
section
open Go.RowKit

/-- What a walk is told of a slice of integers that came in: it is nil; or it leads to a row of 'cap' cells, the numbers 'zs'. -/
def IsRow (k : IntKind) (w : World) (a : Option Addr) (len cap : Nat) (zs : List Int) : Prop :=
  (a = none ∧ len = 0 ∧ cap = 0 ∧ zs = []) ∨
  ∃ x, a = some x ∧ len ≤ cap ∧ cap ≤ maxLen ∧ zs.length = cap ∧ (∀ i, i < zs.length → w.cell? (x.add i) = some (.int k (zs.getD i 0))) ∧ ∀ n ∈ zs, (Lit.int k n).wf = true

theorem addr_none {w : World} {x : Addr} {v : Value} (h : w.cell? x = some v) : x.spot = none := by
  unfold World.cell? at h
  split at h
  · split at h
    · cases h
    · rename_i hs; simpa using hs
  · cases h

/-- The stream, as it is made: nothing has been drawn. -/
theorem str_new {w : World} {a : Option Addr} {len cap : Nat} {zs : List Int} (h : IsRow .i64 w a len cap zs) : Str (w.alloc (.cells #[.slice a len cap, .int .i64 0] 25)) w.heap.size 0 := by
  refine ⟨a, len, cap, 0, by omega, by omega, ?_, Blk.new _ _ _, fun hl => ?_⟩
  · rcases h with ⟨_, rfl, _, _⟩ | ⟨x, _, h1, h2, _⟩
    · omega
    · unfold maxLen at h2; omega
  · rcases h with ⟨_, rfl, _, _⟩ | ⟨x, rfl, h1, h2, h3, h4, _⟩
    · omega
    · have h0 := h4 0 (by omega)
      have hx : x = ⟨x.block, x.off, none⟩ := by
        have := addr_none (show w.cell? x = some _ from by simpa [Addr.add] using h0)
        cases x; simp_all
      have hb : x.block < w.heap.size := World.block_lt_of_cell? w x (show w.cell? x = some _ from by simpa [Addr.add] using h0)
      refine ⟨x.block, x.off, by rw [← hx], hb, fun i hi => ⟨zs.getD i 0, ?_⟩⟩
      have hi' := h4 i (by omega)
      rw [hx, add_mk] at hi'
      exact (World.cell?_alloc_lt _ _ ⟨x.block, x.off + i, none⟩ hb).trans hi'

/-- What a law owes of old memory: only the stream's own block, which is new, has been written. -/
theorem below_of_gr {w w' : World} (h : w.grownBy w' (some w.heap.size)) : Below w.heap.size w w' :=
  ⟨h.os, h.tape, h.output, h.size, fun k hk => h.block k hk (fun e => by injection e with e; omega)⟩
end
end Go.Proofs.YtgogiljplnninaaGreatDoor

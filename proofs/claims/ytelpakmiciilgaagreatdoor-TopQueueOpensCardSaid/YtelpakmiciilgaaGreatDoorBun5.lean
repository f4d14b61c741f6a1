/- strings.Trim at the signs of keys, the document's 'only'; what a key is: number.IsKey and the document's Key; moments. Conditions: none. -/
import Derived.Test.YtelpakmiciilgaaGreatDoorBun1
import Derived.Test.YtelpakmiciilgaaGreatDoorBun3
import Derived.Test.YtelpakmiciilgaaGreatDoorShelfTrim
import Derived.Laws.Cover1
import Derived.Test.YtelpakmiciilgaaGreatDoorStream
import Derived.Shelf.SlSortCmp.NoneTotal
import Derived.WalkKit
import Derived.Deep.QuietTactic
import Derived.BigQuiet
import Derived.Sort.OwnSortedInts
namespace Go.Proofs.YtelpakmiciilgaaGreatDoor
section
open Go.RowKit

/-! The first place of a byte, or -1. -/
def ixS (l : List Nat) (c : Nat) : Int := if c ∈ l then ((l.takeWhile (· != c)).length : Int) else -1
theorem ixS_eq (l : List UInt8) (c : Nat) (hc : c < 256) : Lib.indexByte l c.toUInt8 = ixS (l.map UInt8.toNat) c := by
  induction l with
  | nil => simp [Lib.indexByte, ixS]
  | cons b l ih =>
    have hb : (b == c.toUInt8) = (b.toNat == c) := by
      rw [Bool.eq_iff_iff, beq_iff_eq, beq_iff_eq]
      constructor
      · rintro rfl; simp [Nat.mod_eq_of_lt hc]
      · rintro rfl; simp
    unfold Lib.indexByte
    rw [ih, hb]
    unfold ixS
    by_cases h : b.toNat = c
    · simp [h]
    · have h' : (b.toNat == c) = false := by simpa using h
      rw [h']
      have hm : (c ∈ (b :: l).map UInt8.toNat) ↔ c ∈ l.map UInt8.toNat := by simp [Ne.symm h]
      by_cases h2 : c ∈ l.map UInt8.toNat
      · rw [if_pos h2, if_pos (hm.2 h2)]
        have h3 : (b.toNat != c) = true := by simpa using h
        simp only [List.map_cons, List.takeWhile_cons, h3, if_true, List.length_cons]
        have : ((((l.map UInt8.toNat).takeWhile (· != c)).length : Int) == -1) = false := by
          rw [beq_eq_false_iff_ne]; omega
        rw [this]
        simp
      · rw [if_neg h2, if_neg (fun h3 => h2 (hm.1 h3))]
        simp
theorem ixS_mem {l : List Nat} {c : Nat} : (0 ≤ ixS l c ↔ c ∈ l) ∧ (ixS l c < 0 ↔ ¬ c ∈ l) := by
  unfold ixS
  by_cases h : c ∈ l
  · rw [if_pos h]; exact ⟨⟨fun _ => h, fun _ => by omega⟩, ⟨fun h2 => by omega, fun h2 => absurd h h2⟩⟩
  · rw [if_neg h]; exact ⟨⟨fun h2 => by omega, fun h2 => absurd h2 h⟩, ⟨fun _ => h, fun _ => by omega⟩⟩
theorem ixS_any (s : ByteArray) (c : Nat) (w : World) (hc : c < 256) : Calls Tryz.prog 70 #[.string s, .int .u8 c] w (Same (.int .i64 (ixS (nb s) c)) w) := by
  refine (indexByte_any s c w).mono ?_
  rintro e w' ⟨rfl, rfl⟩
  refine ⟨?_, rfl⟩
  rw [Int.toNat_natCast, ixS_eq _ _ hc]
  rfl

/-! Trimmed strings. -/
theorem tr_head {p : UInt8 → Bool} {l : List UInt8} {a : UInt8} {r : List UInt8} (h : l.dropWhile p = a :: r) : p a = false := by
  induction l with
  | nil => cases h
  | cons b l ih =>
    rw [List.dropWhile_cons] at h
    split at h
    · exact ih h
    · rename_i hp
      injection h with h1 h2
      subst h1
      simpa using hp
theorem tr_all {p : UInt8 → Bool} {l : List UInt8} : l.dropWhile p = [] ↔ ∀ a ∈ l, p a = true := by
  induction l with
  | nil => simp
  | cons b l ih =>
    rw [List.dropWhile_cons]
    by_cases hp : p b = true
    · rw [if_pos hp, ih]; simp [hp]
    · rw [if_neg hp]; simp [hp]
theorem tr_nil (l cs : List UInt8) : Lib.trimS l cs = [] ↔ ∀ b ∈ l, cs.contains b = true := by
  unfold Lib.trimS Lib.trimLeftS Lib.trimRightS
  rw [tr_all]
  constructor
  · intro h
    cases hd : l.reverse.dropWhile (cs.contains ·) with
    | nil =>
      have := tr_all.1 hd
      intro b hb
      exact this b (by simpa using hb)
    | cons a r =>
      exfalso
      have h1 := tr_head hd
      have h2 := h a (by rw [hd]; simp)
      rw [h1] at h2
      cases h2
  · intro h
    have : l.reverse.dropWhile (cs.contains ·) = [] := tr_all.2 (fun a ha => h a (by simpa using ha))
    rw [this]
    simp
/-- A string is trimmed to nothing just if it has no other signs. -/
theorem tr_only (s : ByteArray) (cs : List UInt8) : (Lib.trimS s.data.toList cs = []) ↔ (nb s).all (fun b => decide (b ∈ cs.map UInt8.toNat)) = true := by
  rw [tr_nil, List.all_eq_true]
  unfold nb
  have hin : ∀ u : UInt8, cs.contains u = true ↔ u.toNat ∈ cs.map UInt8.toNat := fun u => by
    rw [List.contains_iff_mem]
    constructor
    · intro h; exact List.mem_map.2 ⟨u, h, rfl⟩
    · intro h
      obtain ⟨v, hv, he⟩ := List.mem_map.1 h
      rw [← UInt8.toNat_inj.1 he]; exact hv
  constructor
  · intro h b hb
    obtain ⟨u, hu, rfl⟩ := List.mem_map.1 hb
    exact decide_eq_true ((hin u).1 (h u hu))
  · intro h u hu
    exact (hin u).2 (of_decide_eq_true (h _ (List.mem_map.2 ⟨u, hu, rfl⟩)))

/-! Keys. -/
def keySigns : List Nat := [97, 98, 99, 100, 101, 102, 103, 104, 105, 106, 107, 108, 109, 110, 111, 112, 113, 114, 115, 116, 117, 118, 119, 120, 121, 122, 48, 49, 50, 51, 52, 53, 54, 55, 56, 57, 45, 95]
def smallSigns : List Nat := [97, 98, 99, 100, 101, 102, 103, 104, 105, 106, 107, 108, 109, 110, 111, 112, 113, 114, 115, 116, 117, 118, 119, 120, 121, 122]
def keyOk (l : List Nat) : Bool := decide (1 ≤ l.length) && decide (l.length ≤ 40) && decide (97 ≤ l.getD 0 0) && decide (l.getD 0 0 ≤ 122) && l.all (fun b => decide (b ∈ keySigns))
set_option maxRecDepth 100000 in
theorem trimKey_any (s : ByteArray) (w : World) (hs : s.size ≤ 1000000) : Calls Tryz.prog 46 #[.string s, .string ⟨#[97, 98, 99, 100, 101, 102, 103, 104, 105, 106, 107, 108, 109, 110, 111, 112, 113, 114, 115, 116, 117, 118, 119, 120, 121, 122, 48, 49, 50, 51, 52, 53, 54, 55, 56, 57, 45, 95]⟩] w
    (RetV (.string ⟨(Lib.trimS s.data.toList [97, 98, 99, 100, 101, 102, 103, 104, 105, 106, 107, 108, 109, 110, 111, 112, 113, 114, 115, 116, 117, 118, 119, 120, 121, 122, 48, 49, 50, 51, 52, 53, 54, 55, 56, 57, 45, 95]).toArray⟩) w) := by
  refine (Any.strings_Trim_laid Tryz.lays160 (by kernel_rfl) s ⟨#[97, 98, 99, 100, 101, 102, 103, 104, 105, 106, 107, 108, 109, 110, 111, 112, 113, 114, 115, 116, 117, 118, 119, 120, 121, 122, 48, 49, 50, 51, 52, 53, 54, 55, 56, 57, 45, 95]⟩ w (by omega) (by decide) (ascii_of_all (by decide))).mono ?_
  rintro e w' ⟨rfl, hb⟩
  exact ⟨rfl, gr_below hb none⟩
set_option maxHeartbeats 2000000 in
set_option maxRecDepth 100000 in
theorem isKey_any (s : ByteArray) (w : World) (hs : s.size ≤ 1000000) : Calls Tryz.prog 28 #[.string s] w (RetV (.bool (keyOk (nb s))) w) := by
  have hlen := nb_len s
  by_cases h1 : 1 ≤ s.size
  · have q1 : decide ((1 : Int) ≤ (s.size : Int)) = true := decide_eq_true (by omega)
    by_cases h2 : s.size ≤ 40
    · have q2 : decide ((s.size : Int) ≤ 40) = true := decide_eq_true (by omega)
      obtain ⟨b, hb⟩ : ∃ b, s[0].toNat = b := ⟨_, rfl⟩
      have hb0 : (nb s).getD 0 0 = b := by rw [← nb_get (by omega), hb]
      have HD := Lib.hid (show keyOk (nb s) = (decide (97 ≤ b) && decide (b ≤ 122) && (nb s).all (fun b => decide (b ∈ keySigns))) by
        unfold keyOk; rw [hlen, decide_eq_true h1, decide_eq_true h2, hb0]; simp only [Bool.true_and])
      clear hlen hb0
      by_cases h3 : 97 ≤ b
      · have q3 : decide ((97 : Int) ≤ (b : Int)) = true := decide_eq_true (by omega)
        by_cases h4 : b ≤ 122
        · have q4 : decide ((b : Int) ≤ 122) = true := decide_eq_true (by omega)
          obtain ⟨u, hu⟩ : ∃ u : ByteArray, (⟨(Lib.trimS s.data.toList [97, 98, 99, 100, 101, 102, 103, 104, 105, 106, 107, 108, 109, 110, 111, 112, 113, 114, 115, 116, 117, 118, 119, 120, 121, 122, 48, 49, 50, 51, 52, 53, 54, 55, 56, 57, 45, 95]).toArray⟩ : ByteArray) = u := ⟨_, rfl⟩
          have HU := Lib.hid hu
          obtain ⟨B, hB⟩ : ∃ B, (nb s).all (fun b => decide (b ∈ keySigns)) = B := ⟨_, rfl⟩
          have HB := Lib.hid (show keyOk (nb s) = B by rw [HD.out, decide_eq_true h3, decide_eq_true h4, hB]; rfl)
          have hul : u.toList = Lib.trimS s.data.toList [97, 98, 99, 100, 101, 102, 103, 104, 105, 106, 107, 108, 109, 110, 111, 112, 113, 114, 115, 116, 117, 118, 119, 120, 121, 122, 48, 49, 50, 51, 52, 53, 54, 55, 56, 57, 45, 95] := by rw [← hu]; exact ByteArray.toList_mk _
          cases B
          · have q3 : ¬ u.toList = [] := fun h => by
              rw [hul, tr_only] at h
              have : (nb s).all (fun b => decide (b ∈ keySigns)) = true := h
              rw [hB] at this; cases this
            have q4 : (u.toList == []) = false := by rw [beq_eq_false_iff_ne]; exact q3
            have q5 : u.toList.isEmpty = false := by rw [List.isEmpty_eq_false_iff]; exact q3
            clear hu hB hul q3
            go_enter Tryz.func28, Tryz.ntmps28
            go_wp2_with (first
              | (go_at_call 46; refine (trimKey_any s _ hs).mono ?_; rintro e w' ⟨rfl, hg⟩; rw [HU.out]; have HG := Lib.hid hg; clear hg)
              | fail)
            go_ret
            exact ⟨by rw [HB.out]; rfl, HG.out⟩
          · have q3 : u.toList = [] := by rw [hul, tr_only]; exact hB
            clear hu hB hul
            go_enter Tryz.func28, Tryz.ntmps28
            go_wp2_with (first
              | (go_at_call 46; refine (trimKey_any s _ hs).mono ?_; rintro e w' ⟨rfl, hg⟩; rw [HU.out]; have HG := Lib.hid hg; clear hg)
              | fail)
            go_ret
            exact ⟨by rw [HB.out]; rfl, HG.out⟩
        · have q4 : decide ((b : Int) ≤ 122) = false := decide_eq_false (by omega)
          have HB := Lib.hid (show keyOk (nb s) = false by rw [HD.out, decide_eq_false h4]; simp)
          go_enter Tryz.func28, Tryz.ntmps28
          go_wp2_with fail
          go_ret
          exact ⟨by rw [HB.out]; rfl, gr_refl _ _⟩
      · have q3 : decide ((97 : Int) ≤ (b : Int)) = false := decide_eq_false (by omega)
        have HB := Lib.hid (show keyOk (nb s) = false by rw [HD.out, decide_eq_false h3]; simp)
        go_enter Tryz.func28, Tryz.ntmps28
        go_wp2_with fail
        go_ret
        exact ⟨by rw [HB.out]; rfl, gr_refl _ _⟩
    · have q2 : decide ((s.size : Int) ≤ 40) = false := decide_eq_false (by omega)
      have HB := Lib.hid (show keyOk (nb s) = false by unfold keyOk; rw [hlen, decide_eq_false h2]; simp)
      clear hlen
      go_enter Tryz.func28, Tryz.ntmps28
      go_wp2_with fail
      go_ret
      exact ⟨by rw [HB.out]; rfl, gr_refl _ _⟩
  · have q1 : decide ((1 : Int) ≤ (s.size : Int)) = false := decide_eq_false (by omega)
    have HB := Lib.hid (show keyOk (nb s) = false by unfold keyOk; rw [hlen, decide_eq_false h1]; simp)
    clear hlen
    go_enter Tryz.func28, Tryz.ntmps28
    go_wp2_with fail
    go_ret
    exact ⟨by rw [HB.out]; rfl, gr_refl _ _⟩
theorem small_iff : ∀ c : Fin 256, decide (c.val ∈ smallSigns) = (decide (97 ≤ c.val) && decide (c.val ≤ 122)) := by decide +kernel
theorem nb_small : nb ⟨#[97, 98, 99, 100, 101, 102, 103, 104, 105, 106, 107, 108, 109, 110, 111, 112, 113, 114, 115, 116, 117, 118, 119, 120, 121, 122]⟩ = smallSigns := by decide +kernel
theorem nb_keyS : nb ⟨#[97, 98, 99, 100, 101, 102, 103, 104, 105, 106, 107, 108, 109, 110, 111, 112, 113, 114, 115, 116, 117, 118, 119, 120, 121, 122, 48, 49, 50, 51, 52, 53, 54, 55, 56, 57, 45, 95]⟩ = keySigns := by decide +kernel
end
end Go.Proofs.YtelpakmiciilgaaGreatDoor
/- Small words that many texts share: Go's order of strings, the first error of some places, moments. Conditions: none. -/
namespace Go.Proofs.YtelpakmiciilgaaGreatDoor
section
open Go.RowKit

/-- Go's <= on strings. -/
def leS (a b : ByteArray) : Bool := Op.bytesLess a.toList b.toList || a.toList == b.toList
/-- The first of f 0, f 1, .. f (n - 1) that is not 0; 0: there is none. -/
def fstE (f : Nat → Int) : Nat → Int
  | 0 => 0
  | n + 1 => if fstE f n = 0 then f n else fstE f n
theorem fstE_zero {f : Nat → Int} {i : Nat} (h : fstE f i = 0) (h1 : f i = 0) : fstE f (i + 1) = 0 := by simp [fstE, h, h1]
theorem fstE_stop {f : Nat → Int} {i n : Nat} (h : fstE f i = 0) (h1 : f i ≠ 0) (hn : i < n) : fstE f n = f i := by
  induction n with
  | zero => omega
  | succ n ih =>
    by_cases e : i = n
    · subst e; simp [fstE, h]
    · have := ih (by omega)
      simp [fstE, this, h1]

theorem fst_ret {f : Nat → Int} {i n : Nat} {X v : Int} (h : fstE f i = 0) (e : f i = v) (hv : v ≠ 0) (hn : i < n) : (if fstE f n = 0 then X else fstE f n) = v := by
  rw [fstE_stop h (by rw [e]; exact hv) hn, e, if_neg hv]
def momB (n : Int) : Bool := inB n 0 345686399999
set_option maxHeartbeats 1000000 in
theorem isMomB_any (n : Int) (w : World) : Calls Tryz.prog 27 #[.int .i64 n] w (Same (.bool (momB n)) w) := by
  have H := Lib.hid (show momB n = (decide (0 ≤ n) && decide (n ≤ 345686399999)) from rfl)
  by_cases h1 : 0 ≤ n <;> by_cases h2 : n < 345686400000
  all_goals
    go_enter Tryz.func27, Tryz.ntmps27
    go_wp2
    go_ret
    exact ⟨by rw [H.out]; simp [h1]; omega, rfl⟩
theorem eqS_nb (s t : ByteArray) : (s.toList == t.toList) = (nb s == nb t) := by
  rw [Bool.eq_iff_iff, beq_iff_eq, beq_iff_eq, ByteArray.toList_eq, ByteArray.toList_eq]
  exact ⟨fun h => by unfold nb; rw [h], fun h => by rw [nb_inj h]⟩
theorem fstE_ev {f : Nat → Int} {n : Nat} (h : fstE f n = 0) : ∀ i, i < n → f i = 0 := by
  induction n with
  | zero => intro i hi; omega
  | succ n ih =>
    intro i hi
    unfold fstE at h
    by_cases h0 : fstE f n = 0
    · rw [if_pos h0] at h
      rcases Nat.lt_succ_iff_lt_or_eq.1 hi with h1 | h1
      · exact ih h0 i h1
      · subst h1; exact h
    · rw [if_neg h0] at h; exact absurd h h0
end
end Go.Proofs.YtelpakmiciilgaaGreatDoor
/- Slices of records that a call makes. Conditions: none. -/
namespace Go.Proofs.YtelpakmiciilgaaGreatDoor
section
open Go.RowKit

theorem flat_set1' {α : Type} {row : α → List Value} {k : Nat} (hrow : ∀ a, (row a).length = k) {l : List α} {i : Nat} {a a' : α} (hi : l[i]? = some a) {j : Nat} (hj : j < k) {u : Value} (hr : row a' = (row a).set j u) : (l.flatMap row).set (i * k + j) u = (l.set i a').flatMap row := by
  have h := flat_set (row := row) (k := k) hrow (by omega) hi (a' := a') (ys := [u]) j (by simp; omega) (by
    rw [hr, List.set_eq_take_append_cons_drop, if_pos (by rw [hrow]; exact hj)]; simp)
  have hil := (List.getElem?_eq_some_iff.1 hi).1
  have hle : (i + 1) * k ≤ l.length * k := Nat.mul_le_mul_right k hil
  rw [Nat.succ_mul] at hle
  rw [← h, List.set_eq_take_append_cons_drop, if_pos (by rw [flat_len hrow]; omega)]
  simp

theorem reads_at (w : World) (t : TypeId) (cs : List Value) (size : Nat) (h : cs.length = size) {g : Nat} (hg : w.heap.size = g) : Reads (w.alloc (.cells cs.toArray t)) g size (some ⟨g, 0, none⟩) 1 1 cs := by
  subst hg; exact Reads.one w t cs size h
/-- A slice of records of the call's own. -/
def OwnR {α : Type} (row : α → List Value) (k : Nat) (w : World) (lo : Nat) (e : TypeId) (A : Option Addr) (n c : Nat) (l : List α) : Prop := Own w lo e k A n c (l.flatMap row) ∧ l.length = n
section
variable {α : Type} {row : α → List Value} {k : Nat} {w w' : World} {lo lo' n c : Nat} {e : TypeId} {A : Option Addr} {l : List α}
theorem OwnR.recs (h : OwnR row k w lo e A n c l) : Recs row k w lo A n c l := ⟨h.1.reads, h.2⟩
theorem OwnR.nil (w : World) (lo : Nat) (e : TypeId) : OwnR row k w lo e none 0 0 [] := ⟨Own.nil _ _ _ _, rfl⟩
theorem OwnR.kept (h : OwnR row k w lo e A n c l) {r : Option Nat} (hg : w.grownBy w' r) (hne : ∀ g, r = some g → blkOf A ≠ some g) : OwnR row k w' lo e A n c l := ⟨h.1.kept hg hne, h.2⟩
theorem OwnR.low (h : OwnR row k w lo e A n c l) {r : Option Nat} (hg : w.grownBy w' r) (hr : ∀ g, r = some g → g < lo) : OwnR row k w' lo e A n c l :=
  h.kept hg (fun g e e' => by have := hr g e; have := (h.1.lt e').1; omega)
theorem OwnR.lower (h : OwnR row k w lo e A n c l) (hl : lo' ≤ lo) : OwnR row k w lo' e A n c l := ⟨h.1.lower hl, h.2⟩
theorem OwnR.alloc (h : OwnR row k w lo e A n c l) (o : Obj) : OwnR row k (w.alloc o) lo e A n c l := ⟨h.1.alloc o, h.2⟩
theorem OwnR.app {a : α} (h : OwnR row k w lo e A n c l) {A1 : Option Addr} {c1 n1 : Nat} (hn : n1 = n + 1) (h1 : Appended w lo e k A A1 n1 c1 (l.flatMap row ++ row a) w') : OwnR row k w' lo e A1 n1 c1 (l ++ [a]) := by
  subst hn
  refine ⟨?_, by simp [h.2]⟩
  rw [List.flatMap_append]
  simpa using h1.1
theorem OwnR.set1 {g i j p : Nat} {a a' : α} {u : Value} (hrow : ∀ a, (row a).length = k) (h : OwnR row k w lo e (some ⟨g, 0, none⟩) n c l) (hi : l[i]? = some a) (hj : j < k) (hr : row a' = (row a).set j u) (hp : p = i * k + j) : OwnR row k (w.setCell ⟨g, p, none⟩ u) lo e (some ⟨g, 0, none⟩) n c (l.set i a') := by
  subst hp
  refine ⟨?_, by simp [h.2]⟩
  rw [← flat_set1' hrow hi hj hr]
  exact h.1.stored _ u
end
end
end Go.Proofs.YtelpakmiciilgaaGreatDoor
/- A region that draws its order and stores at its end: loads are taken first while the first store (number b) has not come up. Over any program. Conditions: none. -/
namespace Go.Proofs.YtelpakmiciilgaaGreatDoor
section
section
open Go.RowKit

theorem set_take_drop {xs : List Value} {p : Nat} (hp : p < xs.length) (v : Value) (r : List Value) : (xs.set p v).take (p + 1) ++ r ++ (xs.set p v).drop (p + 1 + r.length) = xs.take p ++ (v :: r) ++ xs.drop (p + (v :: r).length) := by
  have h : (xs.set p v)[p]? = some v := by simp [hp]
  have e1 : (xs.set p v).take (p + 1) = xs.take p ++ [v] := by
    rw [take_snoc' h, List.take_set, List.set_eq_of_length_le (by rw [List.length_take]; omega)]
  have e2 : (xs.set p v).drop (p + 1 + r.length) = xs.drop (p + 1 + r.length) := List.drop_set_of_lt (by omega)
  rw [e1, e2, List.length_cons, show p + (r.length + 1) = p + 1 + r.length by omega]
  simp
section
variable {P : Program} {lo size n c g : Nat} {e : TypeId}
theorem run_storeCells_own : ∀ (vs : List Value) (s j : Nat) (w : World) (xs : List Value), Own w lo e size (some ⟨g, 0, none⟩) n c xs → (∀ v ∈ vs, v.oneCell' = true) → s + j + vs.length ≤ n * size →
    ∃ w', (storeCells ⟨g, s, none⟩ vs j).run P w = .ok () w' ∧ Own w' lo e size (some ⟨g, 0, none⟩) n c (xs.take (s + j) ++ vs ++ xs.drop (s + j + vs.length)) ∧ w.grownBy w' (some g)
  | [], s, j, w, xs, h, _, _ => ⟨w, rfl, by simpa using h, gr_refl _ _⟩
  | v :: rest, s, j, w, xs, h, h1, hl => by
    have hlen := h.len
    have hp : s + j < n * size := by simp at hl; omega
    have hcell := h.cell hp
    rw [List.getElem?_eq_getElem (by omega)] at hcell
    have hfro := h.frozen (s + j)
    have hst : (store ((⟨g, s, none⟩ : Addr).add j) v).run P w = .ok () (w.setCell ⟨g, s + j, none⟩ v) := by
      rw [add_mk, run_store P w _ v _ (h1 v (by simp)), hcell]
      simp [hfro]
    have h2 := h.stored (s + j) v
    obtain ⟨w', hrun, h3, hg⟩ := run_storeCells_own rest s (j + 1) (w.setCell ⟨g, s + j, none⟩ v) _ h2 (fun x hx => h1 x (by simp [hx])) (by simp at hl; omega)
    refine ⟨w', ?_, ?_, gr_same (gr_setCell (gr_refl w (some g)) (.inl rfl) v) hg⟩
    · simp only [storeCells, Sem.run_bind, hst, Result.andThen_ok, hrun]
    · rw [← Nat.add_assoc, set_take_drop (by omega)] at h3
      exact h3
variable {w : World} {o : Oper} {a : Act} {K : Act → World → Prop} {Q : Exit → Act → World → Prop} {α : Type} {row : α → List Value} {k : Nat} {l : List α}
theorem wp_store_rec {ty : TypeId} (T : StructT P ty k) (hrow : ∀ a, (row a).length = k) (hk : 0 < k) (x y : Operand) (ho : o.op = .store ty x y) (i p : Nat) (hp : p = i * k) (hx : a.eval x = .pointer (some ⟨g, p, none⟩)) (z : α) (hy : a.eval y = .agg (row z).toArray)
    (h : OwnR row k w lo e (some ⟨g, 0, none⟩) n c l) (hi : i < n) (h1 : ∀ u ∈ row z, u.oneCell' = true)
    (hK : ∀ w', OwnR row k w' lo e (some ⟨g, 0, none⟩) n c (l.set i z) → w.grownBy w' (some g) → K (a.put o.dst undef) w') : o.wp P a w K Q := by
  subst hp
  obtain ⟨d, hd1, hd2, hd3⟩ := T
  have hle : i * k + k ≤ n * k := by have := Nat.mul_le_mul_right k (show i + 1 ≤ n by omega); rw [Nat.succ_mul] at this; exact this
  obtain ⟨w', hrun, h2, hg⟩ := run_storeCells_own (P := P) (row z) (i * k) 0 w _ h.1 h1 (by rw [hrow]; omega)
  obtain ⟨b, hb⟩ : ∃ b, l[i]? = some b := ⟨_, List.getElem?_eq_getElem (by rw [h.2]; exact hi)⟩
  have hf := flat_set hrow hk hb (a' := z) (ys := row z) 0 (by rw [hrow]; omega) (by rw [List.take_zero, List.nil_append, List.drop_of_length_le (by rw [hrow, hrow]; omega), List.append_nil])
  rw [hf] at h2
  cases hq : P.info? ty with
  | none => simp [hq] at hd3
  | some inf =>
    have hs : inf.size = k := by simpa [hq] using hd3
    unfold Oper.wp execOp
    have hst : (Instr.storeAt ty (.pointer (some ⟨g, i * k, none⟩)) (.agg (row z).toArray)).run P w = .ok () w' := by
      simp [Instr.storeAt, Instr.sureAddr, storeVar, sizeOf, typeInfo, hq, hs, Value.cells, hrow, hrun]
    simp only [ho, hx, hy, Sem.run_bind, Sem.run_pure, Result.andThen_ok, hst]
    exact hK w' ⟨h2, by rw [List.length_set]; exact h.2⟩ hg
end
end
section
variable {P : Program} {ops : Array Oper} {Q : Exit → Act → World → Prop} {md : Region.Mode} {S : World → Prop} {b : Nat}

/-- Whatever order is picked from here on; S holds behind every operation till number b has come up. -/
def wpAnyB (P : Program) (md : Region.Mode) (ops : Array Oper) (Q : Exit → Act → World → Prop) (S : World → Prop) (b : Nat) : Nat → Array Bool → Act → World → Prop
  | 0, listed, a, w => Region.ready md ops listed = [] ∧ Q .normal a w
  | fuel + 1, listed, a, w =>
    (Region.ready md ops listed = [] → Q .normal a w) ∧
    ∀ i ∈ Region.ready md ops listed, wpOp P ops Q i (fun a' w' => ((listed.setIfInBounds i true).getD b false = true ∨ S w') ∧ wpAnyB P md ops Q S b fuel (listed.setIfInBounds i true) a' w') a w
theorem wpAny_of_B : ∀ (fuel : Nat) (listed : Array Bool) (a : Act) (w : World), wpAnyB P md ops Q S b fuel listed a w → wpAny P md ops Q fuel listed a w
  | 0, _, _, _, h => h
  | fuel + 1, _, _, _, h => ⟨h.1, fun i hi => wpOp_mono (fun a' w' h' => wpAny_of_B fuel _ a' w' h'.2) (h.2 i hi)⟩
theorem wp_region_B {id : Nat} {a : Act} {w : World} (S : World → Prop) (b : Nat) (hm : P.follows .mixedOrders = true)
    (h : wpAnyB P .any ops Q S b ops.size (Array.replicate ops.size false) a w.drew) : (Code.region id ops true).wp P Q a w :=
  wp_region_any hm (wpAny_of_B (S := S) (b := b) _ _ _ _ h)
/-- Number b waits for number i, over at most f others. -/
def waitsT (md : Region.Mode) (ops : Array Oper) : Nat → Nat → Nat → Bool
  | 0, b, i => Region.waitsFor md ops b i
  | f + 1, b, i => Region.waitsFor md ops b i || (List.range ops.size).any fun j => Region.waitsFor md ops b j && waitsT md ops f j i
theorem waitsT_spec {listed : Array Bool} (inv : HeadInv md ops ops.size listed) : ∀ (f b i : Nat), waitsT md ops f b i = true → listed.getD b false = true → listed.getD i false = true := by
  have one : ∀ b i, Region.waitsFor md ops b i = true → listed.getD b false = true → listed.getD i false = true := fun b i h hl => by
    obtain ⟨ob, hob, e, he, hb, hon⟩ := Region.waitsFor_spec h
    have := inv.closed b ob hob hl e he hb
    rwa [hon] at this
  intro f
  induction f with
  | zero => exact one
  | succ f ih =>
    intro b i h hl
    unfold waitsT at h
    rw [Bool.or_eq_true] at h
    rcases h with h | h
    · exact one b i h hl
    · obtain ⟨j, _, hj⟩ := List.any_eq_true.1 h
      rw [Bool.and_eq_true] at hj
      exact ih j i hj.2 (one b j hj.1 hl)
/-- S where the operation looks at memory, else nothing. -/
def memS0 (S : World → Prop) : Bool → World → Prop
  | true => S
  | false => fun _ => True
theorem wpAnyB_first {i : Nat} {oi : Oper} {v : Value} (mem : Bool) (hi : ops[i]? = some oi) (hsel : ∀ (j : Nat) (o : Oper) cs b, ops[j]? = some o → o.op ≠ .select cs b)
    (hQ : ∀ c a w, Q (.panic c) (a.put oi.dst v) w → Q (.panic c) a w) (hib : i ≠ b) (hwait : mem = true → waitsT md ops 4 b i = true) :
    ∀ (fuel : Nat) (listed : Array Bool) (a : Act) (w : World), HeadInv md ops ops.size listed →
      (∀ j oj, ops[j]? = some oj → j ≠ i → listed.getD j true = false → (∀ e ∈ oj.after, Region.binds md e = true → e.on ≠ i) → oi.apart ops oj = true) →
      i ∈ Region.ready md ops listed → YieldsIf P ops (memS0 S mem) oi v a → (listed.getD b false = true ∨ S w) →
      wpAnyB P md ops Q S b fuel (listed.setIfInBounds i true) (a.put oi.dst v) w → wpAnyB P md ops Q S b (fuel + 1) listed a w := by
  have hm : ∀ (listed : Array Bool) (w : World), HeadInv md ops ops.size listed → listed.getD i true = false → (listed.getD b false = true ∨ S w) → memS0 S mem w := by
    intro listed w inv hun hS
    cases mem with
    | false => trivial
    | true =>
      rcases hS with h | h
      · have := waitsT_spec inv 4 b i (hwait rfl) h
        rw [getD_both hun] at this
        cases this
      · exact h
  intro fuel
  induction fuel with
  | zero =>
    intro listed a w inv _ hr hy hS H
    have hun := (mem_ready.1 hr).1
    refine ⟨fun h => (by rw [h] at hr; cases hr), fun j hj => ?_⟩
    by_cases hji : j = i
    · subst hji; exact hy.wpOp hi (hm _ _ inv hun hS) ⟨by rw [getD_set_ne false hib]; exact hS, H⟩
    · have := ready_mono hj hji
      rw [H.1] at this
      cases this
  | succ fuel ih =>
    intro listed a w inv hfree hr hy hS H
    have hun := (mem_ready.1 hr).1
    refine ⟨fun h => (by rw [h] at hr; cases hr), fun j hj => ?_⟩
    by_cases hji : j = i
    · subst hji; exact hy.wpOp hi (hm _ _ inv hun hS) ⟨by rw [getD_set_ne false hib]; exact hS, H⟩
    · have h1 := H.2 j (ready_mono hj hji)
      obtain ⟨hjun, oj, hoj, hall⟩ := mem_ready.1 hj
      have hjn : j < ops.size := (Array.getElem?_eq_some_iff.1 hoj).1
      have hnot : ∀ e ∈ oj.after, Region.binds md e = true → e.on ≠ i := fun e he hb heq => by
        have h1 := hall e he hb
        rw [heq, getD_both hun] at h1
        cases h1
      have h2 := wpOp_putIf hoj (hfree j oj hoj hji hjun hnot) (fun cs b => hsel i oi cs b hi) (fun cs b => hsel j oj cs b hoj) hQ hy h1
      have hfree' : ∀ k ok, ops[k]? = some ok → k ≠ i → (listed.setIfInBounds j true).getD k true = false →
          (∀ e ∈ ok.after, Region.binds md e = true → e.on ≠ i) → oi.apart ops ok = true := fun k ok hk hki hkun hno => by
        refine hfree k ok hk hki ?_ hno
        by_cases hjk : j = k
        · subst hjk; exact hjun
        · rw [getD_set_ne true hjk] at hkun; exact hkun
      refine wpOp_mono (fun a' w' h3 => ?_) h2
      have hS' : (listed.setIfInBounds j true).getD b false = true ∨ S w' := by
        rcases h3.2.1 with h | h
        · left
          rw [Array.setIfInBounds_comm _ _ (Ne.symm hji), getD_set_ne false hib] at h
          exact h
        · exact .inr h
      refine ⟨hS', ih (listed.setIfInBounds j true) a' w' (inv.set hj hjn) hfree' (ready_mono hr (Ne.symm hji)) h3.1 hS' ?_⟩
      rw [Array.setIfInBounds_comm _ _ hji]
      exact h3.2.2
/-- What has come up is closed. -/
def closedB (md : Region.Mode) (ops : Array Oper) (listed : Array Bool) : Bool :=
  decide (listed.size = ops.size) && (List.range ops.size).all fun j => !listed.getD j false || (match ops[j]? with | some o => o.after.all fun e => !Region.binds md e || listed.getD e.on false | none => true)
theorem closedB_spec {listed : Array Bool} (h : closedB md ops listed = true) : HeadInv md ops ops.size listed := by
  unfold closedB at h
  simp only [Bool.and_eq_true, decide_eq_true_eq] at h
  obtain ⟨h1, h4⟩ := h
  refine ⟨h1, fun j oj hj hl e he hb => ?_, fun t ht ht2 => by omega⟩
  have hj2 := (Array.getElem?_eq_some_iff.1 hj).1
  have := List.all_eq_true.1 h4 j (List.mem_range.2 hj2)
  rw [hl, hj] at this
  simp only [Bool.not_true, Bool.false_or] at this
  have := Array.all_eq_true_iff_forall_mem.1 this e he
  rw [hb] at this
  simpa using this
def btakeB (md : Region.Mode) (ops : Array Oper) (b : Nat) (mem : Bool) (listed : Array Bool) (k : Nat) : Bool :=
  Region.noSelect ops && decide (k ≠ b) && (!mem || waitsT md ops 4 b k) && closedB md ops listed && (Region.ready md ops listed).contains k && Region.free md ops listed k
variable {ls : List Oper}
/-- One that reckons (mem = false) or loads (mem = true). -/
theorem B_take {fuel k : Nat} {listed : Array Bool} {o : Oper} {a : Act} {w : World} (mem : Bool) (v : Value) (ho : opAt ls k = some o) (hB : btakeB md ls.toArray b mem listed k = true)
    (hQ : ∀ c a w, Q (.panic c) (a.put o.dst v) w → Q (.panic c) a w) (hw : Region.wanted o (yielded ls.toArray a.tmps) = true) (hy : ∀ w, memS0 S mem w → (execOp a.eval o).run P w = .ok (.value v) w) (hS : listed.getD b false = true ∨ S w)
    (h : wpAnyB P md ls.toArray Q S b fuel (listed.setIfInBounds k true) (a.put o.dst v) w) : wpAnyB P md ls.toArray Q S b (fuel + 1) listed a w := by
  unfold btakeB at hB
  simp only [Bool.and_eq_true, decide_eq_true_eq, Bool.or_eq_true, Bool.not_eq_true'] at hB
  obtain ⟨⟨⟨⟨⟨h1, h2⟩, h3⟩, h4⟩, h5⟩, h6⟩ := hB
  rw [opAt_eq] at ho
  exact wpAnyB_first mem ho (Region.noSelect_spec h1) hQ h2 (fun e => h3.resolve_left (by rw [e]; decide)) fuel listed a w (closedB_spec h4) (Region.free_spec ho h6) (by simpa using h5) (.inl ⟨hw, hy⟩) hS h
/-- One whose guard keeps it from running. -/
theorem B_skip {fuel k : Nat} {listed : Array Bool} {o : Oper} {a : Act} {w : World} (ho : opAt ls k = some o) (hB : btakeB md ls.toArray b false listed k = true)
    (hQ : ∀ c a w, Q (.panic c) (a.put o.dst undef) w → Q (.panic c) a w) (hw : Region.wanted o (yielded ls.toArray a.tmps) = false) (hS : listed.getD b false = true ∨ S w)
    (h : wpAnyB P md ls.toArray Q S b fuel (listed.setIfInBounds k true) (a.put o.dst undef) w) : wpAnyB P md ls.toArray Q S b (fuel + 1) listed a w := by
  unfold btakeB at hB
  simp only [Bool.and_eq_true, decide_eq_true_eq, Bool.or_eq_true, Bool.not_eq_true'] at hB
  obtain ⟨⟨⟨⟨⟨h1, h2⟩, h3⟩, h4⟩, h5⟩, h6⟩ := hB
  rw [opAt_eq] at ho
  exact wpAnyB_first false ho (Region.noSelect_spec h1) hQ h2 (fun e => by cases e) fuel listed a w (closedB_spec h4) (Region.free_spec ho h6) (by simpa using h5) (.inr ⟨hw, rfl⟩) hS h
/-- One that comes up alone. -/
theorem B_run {fuel k : Nat} {listed : Array Bool} {o : Oper} {a : Act} {w : World} (ho : opAt ls k = some o) (hr : Region.ready md ls.toArray listed = [k]) (hw : Region.wanted o (yielded ls.toArray a.tmps) = true)
    (h : ∀ K : Act → World → Prop, (∀ a' w', ((listed.setIfInBounds k true).getD b false = true ∨ S w') → wpAnyB P md ls.toArray Q S b fuel (listed.setIfInBounds k true) a' w' → K a' w') → o.wp P a w K Q) : wpAnyB P md ls.toArray Q S b (fuel + 1) listed a w := by
  refine ⟨fun h1 => (by rw [hr] at h1; cases h1), fun i hi => ?_⟩
  rw [hr] at hi
  have hik : i = k := by simpa using hi
  subst hik
  rw [opAt_eq] at ho
  unfold wpOp
  simp only [ho, hw, if_true]
  exact .inl (h _ fun a' w' h1 h2 => ⟨h1, h2⟩)
theorem B_done {listed : Array Bool} {a : Act} {w : World} (hr : Region.ready md ops listed = []) (h : Q .normal a w) : wpAnyB P md ops Q S b 0 listed a w := ⟨hr, h⟩
end
end
end Go.Proofs.YtelpakmiciilgaaGreatDoor
/- slices.SortFunc at structs in a row of the call's own, at any length: a sorted permutation. Over any program that bears the library's text. Conditions: the order is a strict weak one. -/
namespace Go.Proofs.YtelpakmiciilgaaGreatDoor
section
open Go.Shelf Go.RowKit Go.Lib Go.Sort

section
variable {P : Program} {ρ : Ren} {α : Type} {row : α → List Value} {k : Nat} {e : TypeId} {lo g n c : Nat} {l : List α} {w : World}
theorem flatK_toList [Inhabited α] (hk : ∀ a, (row a).length = k) (l : List α) : (flatK row k l.toArray).toList = l.flatMap row := by
  apply List.ext_getElem?
  intro t
  rw [Array.getElem?_toList]
  by_cases ht : t < l.length * k
  · have hs : t < (flatK row k l.toArray).size := by simpa using ht
    have k0 : 0 < k := by
      rcases Nat.eq_zero_or_pos k with h | h
      · subst h; simp at ht
      · exact h
    have hq : t / k < l.length := Nat.div_lt_of_lt_mul (by rw [Nat.mul_comm]; exact ht)
    have hm := Nat.mod_lt t k0
    have e := flat_get hk l (t / k) (t % k) hm
    rw [show t / k * k + t % k = t by rw [Nat.mul_comm]; exact Nat.div_add_mod t k] at e
    rw [e, Array.getElem?_eq_getElem hs, ← getElem!_pos _ t hs, get_flatK _ _ _ t (by simpa using ht), List.getElem?_eq_getElem hq]
    have h1 : (l.toArray)[t / k]! = l[t / k] := by rw [getElem!_pos _ _ (by simpa using hq)]; simp
    rw [h1]
    show _ = (row l[t / k])[t % k]?
    rw [List.getElem?_eq_getElem (by rw [hk]; exact hm), getElem!_pos _ _ (by rw [hk]; exact hm)]
  · rw [Array.getElem?_eq_none (by simpa using Nat.le_of_not_lt ht), List.getElem?_eq_none (by rw [flat_len hk]; omega)]
theorem OwnR.holds [Inhabited α] (hk : ∀ a, (row a).length = k) (h : OwnR row k w lo e (some ⟨g, 0, none⟩) n c l) : HoldsK row k w g 0 l.toArray := by
  intro j hj
  have hj' : j < n * k := by rw [← h.2]; simpa using hj
  rw [Nat.zero_add]
  refine ⟨(h.1.cell hj').trans ?_, h.1.frozen j⟩
  rw [← flatK_toList hk l, Array.getElem?_toList, Array.getElem?_eq_getElem hj, ← getElem!_pos _ j hj]
  rfl
theorem OwnR.sorted [Inhabited α] (hk : ∀ a, (row a).length = k) (h : OwnR row k w lo e (some ⟨g, 0, none⟩) n c l) {d' : Array α} (hs : d'.size = l.length) (m : Nat) (os : Array Obj) :
    OwnR row k (sortWorldK row k w g 0 m d' os) lo e (some ⟨g, 0, none⟩) n c d'.toList ∧ w.grownBy (sortWorldK row k w g 0 m d' os) (some g) := by
  have hF : (flatK row k d').toList = d'.toList.flatMap row := by
    have := flatK_toList hk d'.toList
    simpa using this
  have hsz : (flatK row k d').size = n * k := by rw [size_flatK, hs, h.2]
  have hg : ∀ b, b ≠ g → b < w.heap.size → (sortWorldK row k w g 0 m d' os).heap[b]? = w.heap[b]? := by
    intro b hb hlt
    show (w.heap.modify g _ ++ os)[b]? = _
    rw [Array.getElem?_append_left (by simpa using hlt), Array.getElem?_modify, if_neg (Ne.symm hb)]
  have hsize : (sortWorldK row k w g 0 m d' os).heap.size = w.heap.size + os.size := by
    show (w.heap.modify g _ ++ os).size = _
    simp
  refine ⟨⟨⟨by rw [flat_len hk]; simp [hs, h.2], ?_⟩, by simpa [h.2] using hs⟩, ⟨rfl, rfl, rfl, by omega, fun b hb hne => hg b (fun e => hne (by rw [e])) hb⟩⟩
  rcases h.1.2 with ⟨hv, _⟩ | ⟨g', cap, cur, hv, hlo, hh, hnc, hcm, hcs, htk⟩
  · cases hv
  · injection hv with e1 e2 e3
    injection e1 with e1
    injection e1 with e1
    subst e1; subst e3
    have hlt : g < w.heap.size := Blk.lt (t := e) (cs := cur) hh
    refine .inr ⟨g, c, putCells id 0 (flatK row k d') cur, rfl, hlo, ?_, hnc, hcm, by simp [putCells, hcs], ?_⟩
    · show (w.heap.modify g _ ++ os)[g]? = _
      rw [Array.getElem?_append_left (by simpa using hlt), Array.getElem?_modify, if_pos rfl, hh]
      rfl
    · rw [← hF]
      apply List.ext_getElem?
      intro t
      rw [List.getElem?_take]
      by_cases ht : t < n * k
      · have htc : t < cur.size := by rw [hcs]; exact Nat.lt_of_lt_of_le ht (Nat.mul_le_mul_right _ hnc)
        have hs2 : t < (flatK row k d').size := by omega
        rw [if_pos ht, Array.getElem?_toList, Array.getElem?_toList, Array.getElem?_eq_getElem hs2, ← getElem!_pos _ t hs2]
        simp only [putCells, Array.getElem?_mapIdx, Array.getElem?_eq_getElem htc, Option.map_some, Nat.zero_add, Nat.sub_zero]
        rw [if_pos ⟨Nat.zero_le _, hs2⟩]
        rfl
      · rw [if_neg ht, Array.getElem?_toList, Array.getElem?_eq_none (by omega)]
theorem permIn_perm [Inhabited α] {d d' : Array α} (h : PermIn 0 d.size d d') : d'.size = d.size ∧ d'.toList.Perm d.toList := by
  obtain ⟨h1, _, h3⟩ := h
  refine ⟨h1, ?_⟩
  rw [Array.extract_eq_self_of_le (Nat.le_refl _)] at h3
  rw [Array.extract_eq_self_of_le (by omega)] at h3
  exact h3
/-- No later one is less than an earlier one. -/
def Asc (cf : α → α → Int) (l : List α) : Prop := l.Pairwise fun x y => ¬ cf y x < 0
theorem sortedIn_asc [Inhabited α] {cf : α → α → Int} {d : Array α} (h : SortedIn (ltOf cf) 0 d.size d) : Asc cf d.toList := by
  refine List.pairwise_iff_getElem.2 fun i j hi hj hij => ?_
  have := h i j (Nat.zero_le _) hij (by simpa using hj)
  rw [getElem!_pos d j (by simpa using hj), getElem!_pos d i (by simpa using hi)] at this
  unfold ltOf at this
  have h2 := of_decide_eq_false this
  simpa using h2
theorem asc_unique {cf : α → α → Int} : ∀ {l1 l2 : List α}, l1.Perm l2 → Asc cf l1 → Asc cf l2 → (∀ x ∈ l1, ∀ y ∈ l1, ¬ cf x y < 0 → ¬ cf y x < 0 → x = y) → l1 = l2
  | [], l2, hp, _, _, _ => hp.nil_eq
  | a :: l1, [], hp, _, _, _ => absurd hp.length_eq (by simp)
  | a :: l1, b :: l2, hp, h1, h2, hd => by
    have h1' := List.pairwise_cons.1 h1
    have h2' := List.pairwise_cons.1 h2
    have ha : a ∈ b :: l2 := hp.subset List.mem_cons_self
    have hb : b ∈ a :: l1 := hp.symm.subset List.mem_cons_self
    have hab : a = b := by
      rcases List.mem_cons.1 ha with e | ha'
      · exact e
      · rcases List.mem_cons.1 hb with e | hb'
        · exact e.symm
        · exact hd a List.mem_cons_self b (List.mem_cons_of_mem _ hb') (h2'.1 a ha') (h1'.1 b hb')
    subst hab
    rw [asc_unique ((List.perm_cons a).1 hp) h1'.2 h2'.2 (fun x hx y hy => hd x (List.mem_cons_of_mem _ hx) y (List.mem_cons_of_mem _ hy))]
/-- What a sort leaves. -/
def SortedQ (cf : α → α → Int) (row : α → List Value) (k : Nat) (lo : Nat) (e : TypeId) (A : Option Addr) (n c : Nat) (l : List α) (w : World) (q : Ending) (w' : World) : Prop :=
  q = .returned (.tuple #[]) ∧ ∃ l' : List α, l'.Perm l ∧ Asc cf l' ∧ OwnR row k w' lo e A n c l' ∧ w.grownBy w' (blkOf A)
theorem own_addr {size : Nat} {A : Option Addr} {xs : List Value} (h : Own w lo e size A n c xs) : (A = none ∧ n = 0) ∨ ∃ g, A = some ⟨g, 0, none⟩ ∧ g < w.heap.size := by
  rcases h.2 with ⟨hv, h0⟩ | ⟨g, cap, cur, hv, _, hh, _⟩
  · injection hv with h1
    exact .inl ⟨h1, h0⟩
  · injection hv with h1
    exact .inr ⟨g, h1, Blk.lt (t := e) (cs := cur) hh⟩
theorem sortRec_run [Inhabited α] (L : SlLaysF0.n6 P ρ) (aE : ∀ w, (isAgg (ρ.t 24)).run P w = .ok true w) (zE : ∀ w, (Go.sizeOf (ρ.t 24)).run P w = .ok k w) (hk : ∀ x, (row x).length = k) (h1 : ∀ x, ∀ v ∈ row x, v.oneCell' = true) (cf : α → α → Int) (hO : SWO (ltOf cf)) (gf : Nat) (cb : Array Value)
    (eg : ∀ args w, (callFunc gf args).run P w = .ok (.enter gf args) w) (hcmp : ∀ (x y : α) (w1 : World), Calls P gf (#[.agg (row x).toArray, .agg (row y).toArray] ++ cb) w1 (RetQ (.int .i64 (cf x y)) w1))
    (A : Option Addr) (h : OwnR row k w lo e A n c l) (hn : n < 4611686018427387904) : Calls P (ρ.f 6) #[.slice A n c, .func (.func gf) #[] cb] w (SortedQ cf row k lo e A n c l w) := by
  rcases own_addr h.1 with ⟨rfl, rfl⟩ | ⟨g, rfl, hlt⟩
  · have hl : l = [] := List.eq_nil_of_length_eq_zero h.2
    refine (AnyF.slices_SortFunc_none L none c _ w).mono ?_
    rintro q w' ⟨rfl, rfl⟩
    exact ⟨rfl, l, .refl _, by rw [hl]; exact List.Pairwise.nil, h, gr_refl _ _⟩
  · have hl : l.toArray.size = n := by simpa using h.2
    have hc : CmpLays P gf cb row k cf g 0 l.toArray.size w := fun m os dk _ x y => (hcmp x y _).mono fun q w' h => ⟨h.1, h.2⟩
    have hcon := AnyQ.slices_SortFunc L k aE zE row hk h1 cf hO gf cb g 0 c l.toArray w eg hc (h.holds hk) hlt (by rw [hl]; exact hn)
    rw [hl] at hcon
    refine hcon.mono ?_
    rintro q w' ⟨rfl, d', m, os, hp, hs, rfl⟩
    rw [← hl] at hp hs
    obtain ⟨hsz, hpm⟩ := permIn_perm hp
    rw [← hsz] at hs
    obtain ⟨ho, hg⟩ := h.sorted hk (d' := d') (by simpa using hsz) m os
    exact ⟨rfl, d'.toList, by simpa using hpm, sortedIn_asc hs, ho, hg⟩
/-- The order is asked of right elements alone. -/
theorem sortRec_any (L : SlLaysF0.n6 P ρ) (aE : ∀ w, (isAgg (ρ.t 24)).run P w = .ok true w) (zE : ∀ w, (Go.sizeOf (ρ.t 24)).run P w = .ok k w) (hk : ∀ x, (row x).length = k) (h1 : ∀ x, ∀ v ∈ row x, v.oneCell' = true) (cf : α → α → Int) (hO : SWO (ltOf cf)) (gf : Nat) (cb : Array Value)
    (eg : ∀ args w, (callFunc gf args).run P w = .ok (.enter gf args) w) {Ok : α → Prop} (hcmp : ∀ (x y : α) (w1 : World), Ok x → Ok y → Calls P gf (#[.agg (row x).toArray, .agg (row y).toArray] ++ cb) w1 (RetQ (.int .i64 (cf x y)) w1))
    (A : Option Addr) (h : OwnR row k w lo e A n c l) (hl : ∀ x ∈ l, Ok x) (hn : n < 4611686018427387904) : Calls P (ρ.f 6) #[.slice A n c, .func (.func gf) #[] cb] w (SortedQ cf row k lo e A n c l w) := by
  rcases l.eq_nil_or_concat with hnil | ⟨l0, x0, hx0⟩
  · subst hnil
    have h0 : n = 0 := by simpa using h.2.symm
    subst h0
    refine (AnyF.slices_SortFunc_none L A c _ w).mono ?_
    rintro q w' ⟨rfl, rfl⟩
    exact ⟨rfl, [], .refl _, List.Pairwise.nil, h, gr_refl _ _⟩
  · haveI : Inhabited {x : α // Ok x} := ⟨⟨x0, hl x0 (by rw [hx0]; simp)⟩⟩
    have hv : (l.attachWith Ok hl).map Subtype.val = l := List.attachWith_map_subtype_val hl
    have hfl : ∀ m : List {x : α // Ok x}, m.flatMap (fun x => row x.1) = (m.map Subtype.val).flatMap row := fun m => by rw [List.flatMap_map]
    have h' : OwnR (fun x : {x : α // Ok x} => row x.1) k w lo e A n c (l.attachWith Ok hl) := ⟨by rw [hfl, hv]; exact h.1, by rw [List.length_attachWith]; exact h.2⟩
    have hcon := sortRec_run (P := P) (ρ := ρ) (row := fun x : {x : α // Ok x} => row x.1) L aE zE (fun x => hk x.1) (fun x => h1 x.1) (fun x y => cf x.1 y.1) ⟨fun x => hO.irrefl x.1, fun x y z => hO.trans x.1 y.1 z.1, fun x y z => hO.ntrans x.1 y.1 z.1⟩ gf cb eg (fun x y w1 => hcmp x.1 y.1 w1 x.2 y.2) A h' hn
    refine hcon.mono ?_
    rintro q w' ⟨rfl, l', hp, ha, ho, hg⟩
    refine ⟨rfl, l'.map Subtype.val, ?_, ?_, ⟨by rw [← hfl]; exact ho.1, by rw [List.length_map]; exact ho.2⟩, hg⟩
    · have := hp.map Subtype.val
      rwa [hv] at this
    · exact List.pairwise_map.2 ha
end
end
end Go.Proofs.YtelpakmiciilgaaGreatDoor
/- Insertion by exchanges sorts; equal neighbours once; two rising lists of the same elements. In plain Lean. Conditions: the order is a strict weak one. -/
namespace Go.Proofs.YtelpakmiciilgaaGreatDoor
section
open Go.Shelf Go.RowKit Go.Lib Go.Sort

section
variable {α : Type} {cf : α → α → Int} {l : List α} {i j n : Nat} {x y z : α}
theorem swo_asym (h : SWO (ltOf cf)) (h1 : cf x y < 0) : ¬ cf y x < 0 := by
  intro h2
  have h3 := h.trans x y x (by unfold ltOf; exact decide_eq_true h1) (by unfold ltOf; exact decide_eq_true h2)
  have h4 := h.irrefl x
  rw [h3] at h4
  cases h4
theorem swo_trans (h : SWO (ltOf cf)) (h1 : cf x y < 0) (h2 : cf y z < 0) : cf x z < 0 := by
  have h3 := h.trans x y z (by unfold ltOf; exact decide_eq_true h1) (by unfold ltOf; exact decide_eq_true h2)
  unfold ltOf at h3
  exact of_decide_eq_true h3
theorem swo_self (h : SWO (ltOf cf)) (x : α) : ¬ cf x x < 0 := by
  have h4 := h.irrefl x
  unfold ltOf at h4
  exact of_decide_eq_false h4
theorem swo_ntr (h : SWO (ltOf cf)) (h1 : ¬ cf x y < 0) (h2 : ¬ cf y z < 0) : ¬ cf x z < 0 := by
  have h3 := h.ntrans x y z (by unfold ltOf; exact decide_eq_false h1) (by unfold ltOf; exact decide_eq_false h2)
  unfold ltOf at h3
  exact of_decide_eq_false h3
/-- The first i are in order. -/
def SrtTo (cf : α → α → Int) (l : List α) (i : Nat) : Prop := ∀ (p q : Nat) (x y : α), p < q → q < i → l[p]? = some x → l[q]? = some y → ¬ cf y x < 0
/-- The first i + 1 are in order, but for the one at place j, which may belong further to the front. -/
def Hole (cf : α → α → Int) (l : List α) (i j : Nat) : Prop := ∀ (p q : Nat) (x y : α), p < q → q ≤ i → q ≠ j → l[p]? = some x → l[q]? = some y → ¬ cf y x < 0
theorem SrtTo.one : SrtTo cf l 1 := fun p q x y h1 h2 => by omega
theorem SrtTo.hole (h : SrtTo cf l i) : Hole cf l i i := fun p q x y h1 h2 h3 hx hy => h p q x y h1 (by omega) hx hy
theorem Hole.done0 (h : Hole cf l i 0) : SrtTo cf l (i + 1) := fun p q x y h1 h2 hx hy => h p q x y h1 (by omega) (by omega) hx hy
theorem SrtTo.asc (h : SrtTo cf l n) (hl : l.length ≤ n) : Asc cf l := by
  refine List.pairwise_iff_getElem.2 fun p q hp hq hpq => ?_
  exact h p q l[p] l[q] hpq (by omega) (List.getElem?_eq_getElem hp) (List.getElem?_eq_getElem hq)
theorem Hole.done (hO : SWO (ltOf cf)) (h : Hole cf l i (j + 1)) (hx : l[j + 1]? = some x) (hy : l[j]? = some y) (hj : j + 1 ≤ i) (hc : ¬ cf x y < 0) : SrtTo cf l (i + 1) := by
  intro p q u v h1 h2 hu hv
  by_cases e : q = j + 1
  · subst e
    rw [hx] at hv
    obtain rfl := Option.some.inj hv
    by_cases e2 : p = j
    · subst e2
      rw [hy] at hu
      obtain rfl := Option.some.inj hu
      exact hc
    · exact swo_ntr hO hc (h p j u y (by omega) (by omega) (by omega) hu hy)
  · exact h p q u v h1 (by omega) e hu hv
theorem swap_get (hx : l[j + 1]? = some x) (hy : l[j]? = some y) (p : Nat) : ((l.set (j + 1) y).set j x)[p]? = if p = j then some x else if p = j + 1 then some y else l[p]? := by
  have h1 := (List.getElem?_eq_some_iff.1 hx).1
  by_cases e : p = j
  · subst e
    rw [if_pos rfl, List.getElem?_set_self (by rw [List.length_set]; omega)]
  · rw [if_neg e, List.getElem?_set_ne (by omega)]
    by_cases e2 : p = j + 1
    · subst e2
      rw [if_pos rfl, List.getElem?_set_self h1]
    · rw [if_neg e2, List.getElem?_set_ne (by omega)]
theorem Hole.swap (hO : SWO (ltOf cf)) (h : Hole cf l i (j + 1)) (hx : l[j + 1]? = some x) (hy : l[j]? = some y) (hj : j + 1 ≤ i) (hc : cf x y < 0) : Hole cf ((l.set (j + 1) y).set j x) i j := by
  intro p q u v h1 h2 h3 hu hv
  rw [swap_get hx hy] at hu hv
  rw [if_neg h3] at hv
  by_cases e : q = j + 1
  · rw [if_pos e] at hv
    obtain rfl := Option.some.inj hv
    by_cases e2 : p = j
    · rw [if_pos e2] at hu
      obtain rfl := Option.some.inj hu
      exact swo_asym hO hc
    · rw [if_neg e2, if_neg (by omega)] at hu
      exact h p j u _ (by omega) (by omega) (by omega) hu hy
  · rw [if_neg e] at hv
    by_cases e2 : p = j
    · rw [if_pos e2] at hu
      obtain rfl := Option.some.inj hu
      exact h (j + 1) q _ v (by omega) h2 e hx hv
    · rw [if_neg e2] at hu
      by_cases e3 : p = j + 1
      · rw [if_pos e3] at hu
        obtain rfl := Option.some.inj hu
        exact h j q _ v (by omega) h2 e hy hv
      · rw [if_neg e3] at hu
        exact h p q u v h1 h2 e hu hv
theorem swap_perm (hx : l[j + 1]? = some x) (hy : l[j]? = some y) : ((l.set (j + 1) y).set j x).Perm l := by
  obtain ⟨h1, rfl⟩ := List.getElem?_eq_some_iff.1 hx
  obtain ⟨h2, rfl⟩ := List.getElem?_eq_some_iff.1 hy
  exact List.set_set_perm h1 h2
end
section
variable {α : Type} [DecidableEq α] {cf : α → α → Int}
/-- Equal neighbours once. -/
def ddE : List α → List α
  | [] => []
  | [a] => [a]
  | a :: b :: r => if a = b then ddE (b :: r) else a :: ddE (b :: r)
theorem ddE_mem (x : α) : ∀ l : List α, x ∈ ddE l ↔ x ∈ l
  | [] => Iff.rfl
  | [a] => Iff.rfl
  | a :: b :: r => by
    by_cases e : a = b
    · rw [ddE, if_pos e, ddE_mem x (b :: r), List.mem_cons (a := x) (b := a)]
      subst e
      simp
    · rw [ddE, if_neg e, List.mem_cons, ddE_mem x (b :: r), ← List.mem_cons]
theorem ddE_len : ∀ l : List α, (ddE l).length ≤ l.length
  | [] => Nat.le_refl _
  | [a] => Nat.le_refl _
  | a :: b :: r => by
    have ih := ddE_len (b :: r)
    rw [ddE]
    split <;> simp only [List.length_cons] at * <;> omega
theorem ddE_snoc : ∀ (l : List α) (y x : α), ddE ((l ++ [y]) ++ [x]) = if y = x then ddE (l ++ [y]) else ddE (l ++ [y]) ++ [x]
  | [], y, x => by
    show ddE [y, x] = _
    rw [ddE]
    by_cases e : y = x
    · rw [if_pos e, if_pos e, e]; rfl
    · rw [if_neg e, if_neg e]; rfl
  | [a], y, x => by
    have ih := ddE_snoc ([] : List α) y x
    simp only [List.nil_append, List.cons_append] at ih ⊢
    have e1 : ddE [a, y, x] = if a = y then ddE [y, x] else a :: ddE [y, x] := rfl
    have e2 : ddE [a, y] = if a = y then ddE [y] else a :: ddE [y] := rfl
    rw [e1, e2, ih]
    by_cases e : a = y
    · rw [if_pos e, if_pos e]
    · rw [if_neg e, if_neg e]
      split <;> rfl
  | a :: b :: r, y, x => by
    have ih := ddE_snoc (b :: r) y x
    simp only [List.cons_append] at ih ⊢
    have e1 : ddE (a :: b :: ((r ++ [y]) ++ [x])) = if a = b then ddE (b :: ((r ++ [y]) ++ [x])) else a :: ddE (b :: ((r ++ [y]) ++ [x])) := rfl
    have e2 : ddE (a :: b :: (r ++ [y])) = if a = b then ddE (b :: (r ++ [y])) else a :: ddE (b :: (r ++ [y])) := rfl
    rw [e1, e2, ih]
    by_cases e : a = b
    · rw [if_pos e, if_pos e]
    · rw [if_neg e, if_neg e]
      split <;> rfl
theorem ddE_take {l : List α} {m : Nat} {x y : α} (hm : 0 < m) (hx : l[m]? = some x) (hy : l[m - 1]? = some y) : ddE (l.take (m + 1)) = if y = x then ddE (l.take m) else ddE (l.take m) ++ [x] := by
  obtain ⟨k, rfl⟩ : ∃ k, m = k + 1 := ⟨m - 1, by omega⟩
  rw [Nat.add_sub_cancel] at hy
  obtain ⟨h1, e1⟩ := List.getElem?_eq_some_iff.1 hx
  obtain ⟨h2, e2⟩ := List.getElem?_eq_some_iff.1 hy
  rw [List.take_succ_eq_append_getElem h1, List.take_succ_eq_append_getElem h2, e1, e2]
  exact ddE_snoc _ _ _
/-- No equal neighbours among the first k. -/
def NoEq (l : List α) (k : Nat) : Prop := ∀ (p : Nat) (x y : α), p + 1 < k → l[p]? = some x → l[p + 1]? = some y → x ≠ y
omit [DecidableEq α] in
theorem NoEq.one {l : List α} : NoEq l 1 := fun p x y h => by omega
omit [DecidableEq α] in
theorem NoEq.succ {l : List α} {k : Nat} {x y : α} (h : NoEq l k) (hk : 0 < k) (hx : l[k]? = some x) (hy : l[k - 1]? = some y) (hn : y ≠ x) : NoEq l (k + 1) := by
  intro p u v hp hu hv
  by_cases e : p + 1 = k
  · subst e
    rw [hx] at hv
    rw [Nat.add_sub_cancel, hu] at hy
    obtain rfl := Option.some.inj hv
    obtain rfl := Option.some.inj hy
    exact hn
  · exact h p u v (by omega) hu hv
theorem NoEq.dd {l : List α} : ∀ {k : Nat}, NoEq l k → k ≤ l.length → ddE (l.take k) = l.take k
  | 0, _, _ => by rw [List.take_zero]; rfl
  | 1, _, hl => by
    obtain ⟨a, r, rfl⟩ := List.exists_cons_of_length_pos (show 0 < l.length by omega)
    rfl
  | k + 2, h, hl => by
    have h1 : k + 1 < l.length := by omega
    have h2 : k < l.length := by omega
    rw [ddE_take (Nat.succ_pos k) (List.getElem?_eq_getElem h1) (show l[k + 1 - 1]? = some l[k] by rw [Nat.add_sub_cancel]; exact List.getElem?_eq_getElem h2), if_neg (h k _ _ (by omega) (List.getElem?_eq_getElem h2) (List.getElem?_eq_getElem h1)), NoEq.dd (k := k + 1) (fun p x y hp => h p x y (by omega)) (by omega), ← List.take_succ_eq_append_getElem h1]
theorem ddE_noeq : ∀ l : List α, NoEq (ddE l) (ddE l).length
  | [] => fun p x y h => by simp [ddE] at h
  | [a] => fun p x y h => by simp [ddE] at h
  | a :: b :: r => by
    have ih := ddE_noeq (b :: r)
    by_cases e : a = b
    · rw [ddE, if_pos e]; exact ih
    · rw [ddE, if_neg e]
      intro p x y hp hx hy
      cases p with
      | zero =>
        have hb : (ddE (b :: r))[0]? = some b := by
          clear ih hp hx hy e
          induction r generalizing b with
          | nil => rfl
          | cons c r ih2 =>
            rw [ddE]
            by_cases e : b = c
            · rw [if_pos e, e]; exact ih2 c
            · rw [if_neg e]; rfl
        rw [List.getElem?_cons_zero] at hx
        rw [List.getElem?_cons_succ, hb] at hy
        obtain rfl := Option.some.inj hx
        obtain rfl := Option.some.inj hy
        exact e
      | succ p =>
        rw [List.getElem?_cons_succ] at hx hy
        exact ih p x y (by rw [List.length_cons] at hp; omega) hx hy
theorem ddE_sub : ∀ l : List α, (ddE l).Sublist l
  | [] => List.Sublist.refl _
  | [a] => List.Sublist.refl _
  | a :: b :: r => by
    rw [ddE]
    split
    · exact (ddE_sub (b :: r)).trans (List.sublist_cons_self _ _)
    · exact (ddE_sub (b :: r)).cons_cons _
/-- Each is less than all that follow it. -/
def Rise (cf : α → α → Int) (l : List α) : Prop := l.Pairwise fun x y => cf x y < 0
omit [DecidableEq α] in
theorem rise_adj (hO : SWO (ltOf cf)) : ∀ {l : List α}, (∀ (p : Nat) (x y : α), l[p]? = some x → l[p + 1]? = some y → cf x y < 0) → Rise cf l
  | [], _ => List.Pairwise.nil
  | [a], _ => List.pairwise_singleton _ _
  | a :: b :: r, h => by
    have ih : Rise cf (b :: r) := rise_adj hO (fun p x y hx hy => h (p + 1) x y (by rw [List.getElem?_cons_succ]; exact hx) (by rw [List.getElem?_cons_succ]; exact hy))
    have hab := h 0 a b rfl rfl
    refine List.pairwise_cons.2 ⟨fun x hx => ?_, ih⟩
    rcases List.mem_cons.1 hx with rfl | hx
    · exact hab
    · exact swo_trans hO hab ((List.pairwise_cons.1 ih).1 x hx)
omit [DecidableEq α] in
/-- Two rising lists of the same elements are one. -/
theorem rise_one (hO : SWO (ltOf cf)) : ∀ {l m : List α}, Rise cf l → Rise cf m → (∀ x, x ∈ l ↔ x ∈ m) → l = m
  | [], [], _, _, _ => rfl
  | [], b :: m, _, _, h => absurd ((h b).2 (List.mem_cons_self ..)) (by simp)
  | a :: l, [], _, _, h => absurd ((h a).1 (List.mem_cons_self ..)) (by simp)
  | a :: l, b :: m, h1, h2, h => by
    obtain ⟨p1, p2⟩ := List.pairwise_cons.1 h1
    obtain ⟨q1, q2⟩ := List.pairwise_cons.1 h2
    have e : a = b := by
      rcases List.mem_cons.1 ((h a).1 (List.mem_cons_self ..)) with e | hm
      · exact e
      · rcases List.mem_cons.1 ((h b).2 (List.mem_cons_self ..)) with e | hn
        · exact e.symm
        · exact absurd (p1 b hn) (swo_asym hO (q1 a hm))
    subst e
    rw [rise_one hO p2 q2 (fun x => ⟨fun hx => by
      rcases List.mem_cons.1 ((h x).1 (List.mem_cons_of_mem _ hx)) with e | hm
      · subst e; exact absurd (p1 x hx) (swo_self hO x)
      · exact hm, fun hx => by
      rcases List.mem_cons.1 ((h x).2 (List.mem_cons_of_mem _ hx)) with e | hm
      · subst e; exact absurd (q1 x hx) (swo_self hO x)
      · exact hm⟩)]
end
end
end Go.Proofs.YtelpakmiciilgaaGreatDoor
/- Queues: agents, callers and styles as they lie in memory, and what is wrong with them, in plain Lean. Conditions: none. -/
namespace Go.Proofs.YtelpakmiciilgaaGreatDoor
section
open Go.RowKit

/-- An agent, as it lies in memory. -/
structure AgV where
  key : ByteArray
  sA : Option Addr
  sn : Nat
  sc : Nat
  fr : Int
  til : Int
  pA : Option Addr
  pn : Nat
  pc : Nat
  wrap : Int
  sk : List (ByteArray × Int)
  ps : List (Int × Int)
def AgV.row (a : AgV) : List Value := [.string a.key, .slice a.sA a.sn a.sc, .int .i64 a.fr, .int .i64 a.til, .slice a.pA a.pn a.pc, .int .i64 a.wrap]
theorem AgV.row_len (a : AgV) : a.row.length = 6 := rfl
def skRow (s : ByteArray × Int) : List Value := [.string s.1, .int .i64 s.2]
theorem skRow_len (s : ByteArray × Int) : (skRow s).length = 2 := rfl
def pwRow (p : Int × Int) : List Value := [.int .i64 p.1, .int .i64 p.2]
theorem pwRow_len (p : Int × Int) : (pwRow p).length = 2 := rfl
/-- What an agent's slices read as. -/
def AgOk (w : World) (lo : Nat) (a : AgV) : Prop := (a.key.size ≤ 1000 ∧ (∀ s ∈ a.sk, s.1.size ≤ 1000) ∧ a.sn ≤ 1000 ∧ a.pn ≤ 1000) ∧ Recs skRow 2 w lo a.sA a.sn a.sc a.sk ∧ Recs pwRow 2 w lo a.pA a.pn a.pc a.ps
def Ags (w : World) (lo : Nat) (A : Option Addr) (n c : Nat) (l : List AgV) : Prop := Recs AgV.row 6 w lo A n c l ∧ ∀ a ∈ l, AgOk w lo a
theorem AgOk.grown {w w' : World} {lo : Nat} {a : AgV} (h : AgOk w lo a) {r : Option Nat} (hg : w.grownBy w' r) (hr : ∀ g, r = some g → g < lo) : AgOk w' lo a := ⟨h.1, h.2.1.grown hg hr, h.2.2.grown hg hr⟩
theorem Ags.grown {w w' : World} {lo : Nat} {A : Option Addr} {n c : Nat} {l : List AgV} (h : Ags w lo A n c l) {r : Option Nat} (hg : w.grownBy w' r) (hr : ∀ g, r = some g → g < lo) : Ags w' lo A n c l :=
  ⟨h.1.grown hg hr, fun a ha => (h.2 a ha).grown hg hr⟩

/-! What is wrong with an agent. -/
def skAt (l : List (ByteArray × Int)) (i : Nat) : Int := (l[i]?).elim 0 fun s =>
  if keyOk (nb s.1) then (if inB s.2 1 9 then (if decide (0 < i) && (l[i - 1]?).elim false (fun p => leS s.1 p.1) then 7 else 0) else 1) else 5
def pwAt (l : List (Int × Int)) (i : Nat) : Int := (l[i]?).elim 0 fun p =>
  if p.1 < 0 ∨ p.2 ≤ p.1 ∨ 345686400000 < p.2 then 1 else (if decide (0 < i) && (l[i - 1]?).elim false (fun q => decide (p.1 < q.2)) then 7 else 0)
def tmE (fr til : Int) (pn : Nat) (ps : List (Int × Int)) (wrap : Int) : Int :=
  if fr < 0 ∨ til < fr ∨ 345686400000 < til then 1 else (if 50 < pn then 2 else (if fstE (pwAt ps) pn = 0 then (if inB wrap 0 86400000 then 0 else 1) else fstE (pwAt ps) pn))
def timE (a : AgV) : Int := tmE a.fr a.til a.pn a.ps a.wrap
def agE (a : AgV) : Int := if 10 < a.sn then 2 else (if fstE (skAt a.sk) a.sn = 0 then timE a else fstE (skAt a.sk) a.sn)
def agAt (l : List AgV) (i : Nat) : Int := (l[i]?).elim 0 fun a =>
  if keyOk (nb a.key) then (if decide (0 < i) && (l[i - 1]?).elim false (fun b => leS a.key b.key) then 7 else agE a) else 5
def agsE (l : List AgV) : Int := if 100 < l.length then 2 else fstE (agAt l) l.length

/-! Styles and moments. -/
def styleE (a b c : Int) : Int := if inB a 1 4 then (if inB b 0 86400000 && inB c 0 86400000 then 0 else 1) else 4
set_option maxHeartbeats 1000000 in
theorem within_any (n lo hi : Int) (w : World) : Calls Tryz.prog 56 #[.int .i64 n, .int .i64 lo, .int .i64 hi] w (Same (.bool (inB n lo hi)) w) := by
  have H := Lib.hid (show inB n lo hi = (decide (lo ≤ n) && decide (n ≤ hi)) from rfl)
  by_cases h1 : lo ≤ n <;> by_cases h2 : n ≤ hi
  all_goals
    go_enter Tryz.func56, Tryz.ntmps56
    go_wp2
    go_ret
    exact ⟨by rw [H.out]; simp [h1, h2], rfl⟩
set_option maxHeartbeats 2000000 in
theorem checkStyle_any (a b c : Int) (w : World) : Calls Tryz.prog 42 #[.agg #[.int .i64 a, .int .i64 b, .int .i64 c]] w (RetV (.int .i64 (styleE a b c)) w) := by
  obtain ⟨B1, h1⟩ : ∃ B, inB a 1 4 = B := ⟨_, rfl⟩
  obtain ⟨B2, h2⟩ : ∃ B, inB b 0 86400000 = B := ⟨_, rfl⟩
  obtain ⟨B3, h3⟩ : ∃ B, inB c 0 86400000 = B := ⟨_, rfl⟩
  have HV := Lib.hid (show styleE a b c = if B1 then (if B2 && B3 then 0 else 1) else 4 by unfold styleE; rw [h1, h2, h3])
  have H1 := Lib.hid h1; have H2 := Lib.hid h2; have H3 := Lib.hid h3
  clear h1 h2 h3
  cases B1 <;> cases B2 <;> cases B3
  all_goals
    go_enter Tryz.func42, Tryz.ntmps42
    go_wp2_with (first
      | (go_at_call 56; refine (within_any _ _ _ _).mono ?_; rintro e w' ⟨rfl, rfl⟩; first | rw [H1.out] | rw [H2.out] | rw [H3.out] | fail)
      | fail)
    go_ret
    exact ⟨by rw [HV.out]; rfl, gr_alloc (gr_refl _ _) _⟩
end
end Go.Proofs.YtelpakmiciilgaaGreatDoor
/- Callers as they lie in memory, and what is wrong with them; who is able, who is present, in plain Lean. Conditions: none. -/
namespace Go.Proofs.YtelpakmiciilgaaGreatDoor
section
open Go.RowKit

/-- A caller, as it lies in memory. -/
structure CaV where
  id : ByteArray
  skill : ByteArray
  at_ : Int
  least : Int
  prio : Int
  pat : Int
  talk : Int
  back : Bool
def CaV.row (a : CaV) : List Value := [.string a.id, .string a.skill, .int .i64 a.at_, .int .i64 a.least, .int .i64 a.prio, .int .i64 a.pat, .int .i64 a.talk, .bool a.back]
theorem CaV.row_len (a : CaV) : a.row.length = 8 := rfl
def CaOk (a : CaV) : Prop := a.id.size ≤ 1000 ∧ a.skill.size ≤ 1000
def Cas (w : World) (lo : Nat) (A : Option Addr) (n c : Nat) (l : List CaV) : Prop := Recs CaV.row 8 w lo A n c l ∧ ∀ a ∈ l, CaOk a
theorem Cas.grown {w w' : World} {lo : Nat} {A : Option Addr} {n c : Nat} {l : List CaV} (h : Cas w lo A n c l) {r : Option Nat} (hg : w.grownBy w' r) (hr : ∀ g, r = some g → g < lo) : Cas w' lo A n c l :=
  ⟨h.1.grown hg hr, h.2⟩
/-- Are a caller's numbers in their ranges? -/
def caNum (a : CaV) : Bool := momB a.at_ && inB a.least 1 9 && inB a.prio 0 9 && inB a.pat 0 86400000 && inB a.talk 1 86400000
def caAt (l : List CaV) (i : Nat) : Int := (l[i]?).elim 0 fun a =>
  if keyOk (nb a.id) && keyOk (nb a.skill) then (if memS ((l.take i).map (·.id)) a.id then 6 else (if caNum a then (if decide (0 < i) && (l[i - 1]?).elim false (fun b => decide (a.at_ < b.at_)) then 7 else 0) else 1)) else 5
def casE (l : List CaV) : Int := if 500 < l.length then 2 else fstE (caAt l) l.length
section
variable {l : List CaV} {i : Nat} {z b : CaV}
theorem caAt_5 (h : l[i]? = some z) (h1 : (keyOk (nb z.id) && keyOk (nb z.skill)) = false) : caAt l i = 5 := by simp only [caAt, h, Option.elim, h1]; rfl
theorem caAt_6 (h : l[i]? = some z) (h1 : (keyOk (nb z.id) && keyOk (nb z.skill)) = true) (h2 : memS ((l.take i).map (·.id)) z.id = true) : caAt l i = 6 := by simp only [caAt, h, Option.elim, h1, h2]; rfl
theorem caAt_1 (h : l[i]? = some z) (h1 : (keyOk (nb z.id) && keyOk (nb z.skill)) = true) (h2 : memS ((l.take i).map (·.id)) z.id = false) (h3 : caNum z = false) : caAt l i = 1 := by simp only [caAt, h, Option.elim, h1, h2, h3]; rfl
theorem caAt_7 (h : l[i]? = some z) (h1 : (keyOk (nb z.id) && keyOk (nb z.skill)) = true) (h2 : memS ((l.take i).map (·.id)) z.id = false) (h3 : caNum z = true) (hi : 0 < i) (hb : l[i - 1]? = some b) (h4 : z.at_ < b.at_) : caAt l i = 7 := by
  simp only [caAt, h, Option.elim, h1, h2, h3, hb, decide_eq_true hi, decide_eq_true h4]; rfl
theorem caAt_e (h : l[i]? = some z) (h1 : (keyOk (nb z.id) && keyOk (nb z.skill)) = true) (h2 : memS ((l.take i).map (·.id)) z.id = false) (h3 : caNum z = true) (hb : l[i - 1]? = some b) (h4 : ¬ z.at_ < b.at_) : caAt l i = 0 := by
  simp only [caAt, h, Option.elim, h1, h2, h3, hb, decide_eq_false h4, Bool.and_false]; rfl
theorem caAt_z (h : l[i]? = some z) (h1 : (keyOk (nb z.id) && keyOk (nb z.skill)) = true) (h2 : memS ((l.take i).map (·.id)) z.id = false) (h3 : caNum z = true) (hi : ¬ 0 < i) : caAt l i = 0 := by
  simp only [caAt, h, Option.elim, h1, h2, h3, decide_eq_false hi, Bool.false_and]; rfl
end
/-! Numbers in their bounds. -/
def AgN (a : AgV) : Prop := 0 ≤ a.fr ∧ a.fr ≤ a.til ∧ a.til ≤ 345686400000 ∧ 0 ≤ a.wrap ∧ a.wrap ≤ 86400000 ∧ (∀ p ∈ a.ps, 0 ≤ p.1 ∧ p.1 ≤ p.2 ∧ p.2 ≤ 345686400000) ∧ ∀ s ∈ a.sk, 0 ≤ s.2 ∧ s.2 ≤ 9
def CaN (c : CaV) : Prop := 0 ≤ c.at_ ∧ c.at_ ≤ 345686400000 ∧ 0 ≤ c.pat ∧ c.pat ≤ 86400000 ∧ 1 ≤ c.talk ∧ c.talk ≤ 86400000 ∧ 0 ≤ c.prio ∧ c.prio ≤ 9
/-! Who is able, who is present. -/
def lvl (sk : List (ByteArray × Int)) (s : ByteArray) : Int := ((sk.find? (fun x => nb x.1 == nb s)).map (·.2)).getD 0
theorem lvl_cons (x : ByteArray × Int) (l : List (ByteArray × Int)) (s : ByteArray) : lvl (x :: l) s = if nb x.1 == nb s then x.2 else lvl l s := by
  unfold lvl
  rw [List.find?_cons]
  cases nb x.1 == nb s <;> rfl
theorem lvl_drop {l : List (ByteArray × Int)} {i : Nat} {x : ByteArray × Int} (h : l[i]? = some x) (s : ByteArray) : lvl (l.drop i) s = if nb x.1 == nb s then x.2 else lvl (l.drop (i + 1)) s := by
  obtain ⟨h1, rfl⟩ := List.getElem?_eq_some_iff.1 h
  rw [List.drop_eq_getElem_cons h1, lvl_cons]
theorem lvl_bd {sk : List (ByteArray × Int)} (h : ∀ s ∈ sk, 0 ≤ s.2 ∧ s.2 ≤ 9) (x : ByteArray) : 0 ≤ lvl sk x ∧ lvl sk x ≤ 9 := by
  induction sk with
  | nil => exact ⟨Int.le_refl _, by show (0 : Int) ≤ 9; decide⟩
  | cons a l ih =>
    rw [lvl_cons]
    split
    · exact h a (by simp)
    · exact ih fun s hs => h s (by simp [hs])
def ableB (a : AgV) (c : CaV) : Bool := decide (c.least ≤ lvl a.sk c.skill)
def inWin (t : Int) (p : Int × Int) : Bool := decide (p.1 ≤ t) && decide (t < p.2)
def presB (a : AgV) (t : Int) : Bool := inWin t (a.fr, a.til) && !(a.ps.any (inWin t))
end
end Go.Proofs.YtelpakmiciilgaaGreatDoor
/- Words for the generators of agents and callers: slices of records that a call makes. Conditions: none. -/
namespace Go.Proofs.YtelpakmiciilgaaGreatDoor
section
open Go.RowKit

/-! Agents. -/
def AgBd (a : AgV) : Prop := a.key.size ≤ 1000 ∧ (∀ s ∈ a.sk, s.1.size ≤ 1000) ∧ a.sn ≤ 1000 ∧ a.pn ≤ 1000
def AgOwn (w : World) (lo : Nat) (a : AgV) : Prop := AgBd a ∧ OwnR skRow 2 w lo 39 a.sA a.sn a.sc a.sk ∧ OwnR pwRow 2 w lo 33 a.pA a.pn a.pc a.ps
def AgApart (a b : AgV) : Prop := (∀ g, blkOf a.sA = some g → blkOf b.sA ≠ some g) ∧ (∀ g, blkOf a.pA = some g → blkOf b.pA ≠ some g)
def GAgs (w : World) (lo : Nat) (A : Option Addr) (n c : Nat) (l : List AgV) : Prop :=
  OwnR AgV.row 6 w lo 43 A n c l ∧ (∀ a ∈ l, AgOwn w lo a) ∧ ∀ (i j : Nat) (a b : AgV), i ≠ j → l[i]? = some a → l[j]? = some b → AgApart a b
section
variable {w w' : World} {lo n c : Nat} {A : Option Addr} {l : List AgV}
theorem AgOwn.ok {a : AgV} (h : AgOwn w lo a) : AgOk w lo a := ⟨h.1, h.2.1.recs, h.2.2.recs⟩
theorem GAgs.ags (h : GAgs w lo A n c l) : Ags w lo A n c l := ⟨h.1.recs, fun a ha => (h.2.1 a ha).ok⟩
theorem GAgs.nil (w : World) (lo : Nat) : GAgs w lo none 0 0 [] := ⟨OwnR.nil _ _ _, (fun a ha => by cases ha), fun i j a b _ h => by simp at h⟩
theorem AgOwn.kept {a : AgV} (h : AgOwn w lo a) {r : Option Nat} (hg : w.grownBy w' r) (h1 : ∀ g, r = some g → blkOf a.sA ≠ some g) (h2 : ∀ g, r = some g → blkOf a.pA ≠ some g) : AgOwn w' lo a := ⟨h.1, h.2.1.kept hg h1, h.2.2.kept hg h2⟩
theorem AgOwn.low {a : AgV} (h : AgOwn w lo a) {r : Option Nat} (hg : w.grownBy w' r) (hr : ∀ g, r = some g → g < lo) : AgOwn w' lo a := ⟨h.1, h.2.1.low hg hr, h.2.2.low hg hr⟩
theorem AgOwn.lower {a : AgV} {lo' : Nat} (h : AgOwn w lo a) (hl : lo' ≤ lo) : AgOwn w lo' a := ⟨h.1, h.2.1.lower hl, h.2.2.lower hl⟩
theorem GAgs.low (h : GAgs w lo A n c l) {r : Option Nat} (hg : w.grownBy w' r) (hr : ∀ g, r = some g → g < lo) : GAgs w' lo A n c l := ⟨h.1.low hg hr, fun a ha => (h.2.1 a ha).low hg hr, h.2.2⟩
theorem AgOwn.other {a : AgV} (h : AgOwn w lo a) {lo' n' c' k' : Nat} {A' : Option Addr} {xs : List Value} (ho : Own w lo' 43 k' A' n' c' xs) (hg : w.grownBy w' (blkOf A')) : AgOwn w' lo a :=
  h.kept hg (fun g e => Own.ne ho h.2.1.1 (by decide) e) (fun g e => Own.ne ho h.2.2.1 (by decide) e)
/-- An agent is appended whose slices lie behind those of the others. -/
theorem GAgs.app {a : AgV} {hi : Nat} (h : GAgs w lo A n c l) (ha : AgOwn w hi a) (hlo : lo ≤ hi) (hb : ∀ b ∈ l, (∀ g, blkOf b.sA = some g → g < hi) ∧ (∀ g, blkOf b.pA = some g → g < hi)) {A1 : Option Addr} {c1 n1 : Nat} (hn : n1 = n + 1)
    (h1 : Appended w lo 43 6 A A1 n1 c1 (l.flatMap AgV.row ++ a.row) w') : GAgs w' lo A1 n1 c1 (l ++ [a]) := by
  have ap : ∀ b ∈ l, AgApart a b ∧ AgApart b a := fun b hb1 => by
    obtain ⟨q1, q2⟩ := hb b hb1
    exact ⟨⟨fun g e e' => by have := q1 g e'; have := (ha.2.1.1.lt e).1; omega, fun g e e' => by have := q2 g e'; have := (ha.2.2.1.lt e).1; omega⟩,
      ⟨fun g e e' => by have := q1 g e; have := (ha.2.1.1.lt e').1; omega, fun g e e' => by have := q2 g e; have := (ha.2.2.1.lt e').1; omega⟩⟩
  refine ⟨h.1.app hn h1, fun b hb1 => ?_, fun i j x y hne hx hy => ?_⟩
  · rcases List.mem_append.1 hb1 with hb1 | hb1
    · exact (h.2.1 b hb1).other h.1.1 h1.2.1
    · rw [List.mem_singleton.1 hb1]; exact (ha.lower hlo).other h.1.1 h1.2.1
  · rw [List.getElem?_append] at hx hy
    split at hx <;> split at hy
    · exact h.2.2 i j x y hne hx hy
    · rename_i q1 q2
      have : y = a := by
        cases hj : j - l.length with
        | zero => rw [hj] at hy; simpa using hy.symm
        | succ q => rw [hj] at hy; simp at hy
      subst this
      exact (ap x (mem_of_get hx)).2
    · rename_i q1 q2
      have : x = a := by
        cases hj : i - l.length with
        | zero => rw [hj] at hx; simpa using hx.symm
        | succ q => rw [hj] at hx; simp at hx
      subst this
      exact (ap y (mem_of_get hy)).1
    · exfalso
      rename_i q1 q2
      have h3 : i - l.length = 0 := by
        cases hj : i - l.length with
        | zero => rfl
        | succ q => rw [hj] at hx; simp at hx
      have h4 : j - l.length = 0 := by
        cases hj : j - l.length with
        | zero => rfl
        | succ q => rw [hj] at hy; simp at hy
      omega
theorem mem_set_ne {α : Type} {l : List α} {i : Nat} {a x : α} (h : x ∈ l.set i a) : x = a ∨ ∃ j, j ≠ i ∧ l[j]? = some x := by
  obtain ⟨j, hj⟩ := List.mem_iff_getElem?.1 h
  rw [List.getElem?_set] at hj
  split at hj
  · split at hj
    · injection hj with hj; exact .inl hj.symm
    · cases hj
  · rename_i hne
    exact .inr ⟨j, fun e => hne e.symm, hj⟩
/-- One cell of an agent is stored anew: not one of its slices. -/
theorem GAgs.set1 {g i j p : Nat} {a a' : AgV} {u : Value} (h : GAgs w lo (some ⟨g, 0, none⟩) n c l) (hi : l[i]? = some a) (hj : j < 6) (hr : a'.row = a.row.set j u) (hb : AgBd a') (hs : a'.sA = a.sA ∧ a'.sn = a.sn ∧ a'.sc = a.sc ∧ a'.sk = a.sk ∧ a'.pA = a.pA ∧ a'.pn = a.pn ∧ a'.pc = a.pc ∧ a'.ps = a.ps) (hp : p = i * 6 + j) :
    GAgs (w.setCell ⟨g, p, none⟩ u) lo (some ⟨g, 0, none⟩) n c (l.set i a') := by
  have hg : w.grownBy (w.setCell ⟨g, p, none⟩ u) (blkOf (some ⟨g, 0, none⟩)) := gr_setCell (gr_refl _ _) (.inl rfl) _
  obtain ⟨s1, s2, s3, s4, s5, s6, s7, s8⟩ := hs
  refine ⟨h.1.set1 AgV.row_len hi hj hr hp, fun x hx => ?_, fun i1 j1 x y hne hx hy => ?_⟩
  · rcases mem_set_ne hx with rfl | ⟨q, _, hx⟩
    · have h1 := (h.2.1 a (mem_of_get hi)).other h.1.1 hg
      refine ⟨hb, ?_, ?_⟩
      · rw [s1, s2, s3, s4]; exact h1.2.1
      · rw [s5, s6, s7, s8]; exact h1.2.2
    · exact (h.2.1 x (mem_of_get hx)).other h.1.1 hg
  · have e1 : ∀ (q : Nat) (x : AgV), (l.set i a')[q]? = some x → ∃ z : AgV, l[q]? = some z ∧ x.sA = z.sA ∧ x.pA = z.pA := fun q x hx => by
      rw [List.getElem?_set] at hx
      split at hx
      · split at hx
        · rename_i e _
          injection hx with hx
          subst hx; subst e
          exact ⟨a, hi, s1, s5⟩
        · cases hx
      · exact ⟨x, hx, rfl, rfl⟩
    obtain ⟨z1, q1, q2, q3⟩ := e1 _ _ hx
    obtain ⟨z2, q4, q5, q6⟩ := e1 _ _ hy
    have := h.2.2 _ _ _ _ hne q1 q4
    unfold AgApart
    rw [q2, q3, q5, q6]
    exact this
/-- The skills of an agent are put anew, grown by an append. -/
theorem GAgs.skills {g i p : Nat} {a : AgV} {w1 : World} (h : GAgs w lo (some ⟨g, 0, none⟩) n c l) (hi : l[i]? = some a) {s : ByteArray × Int} {A1 : Option Addr} {c1 n1 : Nat} (hn : n1 = a.sn + 1) (hs : s.1.size ≤ 1000) (hb : n1 ≤ 1000)
    (h1 : Appended w lo 39 2 a.sA A1 n1 c1 (a.sk.flatMap skRow ++ skRow s) w1) (hp : p = i * 6 + 1) :
    Ags (w1.setCell ⟨g, p, none⟩ (.slice A1 n1 c1)) lo (some ⟨g, 0, none⟩) n c (l.set i { a with sA := A1, sn := n1, sc := c1, sk := a.sk ++ [s] }) := by
  have ho := h.2.1 a (mem_of_get hi)
  have hm : OwnR AgV.row 6 w1 lo 43 (some ⟨g, 0, none⟩) n c l := h.1.kept h1.2.1 (fun g' e => Own.ne ho.2.1.1 h.1.1 (by decide) e)
  have hg : w1.grownBy (w1.setCell ⟨g, p, none⟩ (.slice A1 n1 c1)) (blkOf (some ⟨g, 0, none⟩)) := gr_setCell (gr_refl _ _) (.inl rfl) _
  refine ⟨(hm.set1 (a' := { a with sA := A1, sn := n1, sc := c1, sk := a.sk ++ [s] }) AgV.row_len hi (j := 1) (by omega) rfl hp).recs, fun x hx => ?_⟩
  rcases mem_set_ne hx with rfl | ⟨q, hq, hx⟩
  · refine AgOwn.ok (AgOwn.other (w := w1) ⟨⟨ho.1.1, fun t ht => ?_, hb, ho.1.2.2.2⟩, ho.2.1.app hn h1, ?_⟩ hm.1 hg)
    · rcases List.mem_append.1 ht with ht | ht
      · exact ho.1.2.1 t ht
      · rw [List.mem_singleton.1 ht]; exact hs
    · exact ho.2.2.kept h1.2.1 (fun g' e => Own.ne ho.2.1.1 ho.2.2.1 (by decide) e)
  · have hx1 := h.2.1 x (mem_of_get hx)
    have hap := h.2.2 _ _ _ _ (fun e => hq e.symm) hi hx
    exact AgOwn.ok (AgOwn.other (hx1.kept h1.2.1 (fun g' e => hap.1 g' e) (fun g' e => Own.ne ho.2.1.1 hx1.2.2.1 (by decide) e)) hm.1 hg)
/-- The pauses of an agent are put anew, grown by an append. -/
theorem GAgs.pauses {g i p : Nat} {a : AgV} {w1 : World} (h : GAgs w lo (some ⟨g, 0, none⟩) n c l) (hi : l[i]? = some a) {s : Int × Int} {A1 : Option Addr} {c1 n1 : Nat} (hn : n1 = a.pn + 1) (hb : n1 ≤ 1000)
    (h1 : Appended w lo 33 2 a.pA A1 n1 c1 (a.ps.flatMap pwRow ++ pwRow s) w1) (hp : p = i * 6 + 4) :
    Ags (w1.setCell ⟨g, p, none⟩ (.slice A1 n1 c1)) lo (some ⟨g, 0, none⟩) n c (l.set i { a with pA := A1, pn := n1, pc := c1, ps := a.ps ++ [s] }) := by
  have ho := h.2.1 a (mem_of_get hi)
  have hm : OwnR AgV.row 6 w1 lo 43 (some ⟨g, 0, none⟩) n c l := h.1.kept h1.2.1 (fun g' e => Own.ne ho.2.2.1 h.1.1 (by decide) e)
  have hg : w1.grownBy (w1.setCell ⟨g, p, none⟩ (.slice A1 n1 c1)) (blkOf (some ⟨g, 0, none⟩)) := gr_setCell (gr_refl _ _) (.inl rfl) _
  refine ⟨(hm.set1 (a' := { a with pA := A1, pn := n1, pc := c1, ps := a.ps ++ [s] }) AgV.row_len hi (j := 4) (by omega) rfl hp).recs, fun x hx => ?_⟩
  rcases mem_set_ne hx with rfl | ⟨q, hq, hx⟩
  · refine AgOwn.ok (AgOwn.other (w := w1) ⟨⟨ho.1.1, ho.1.2.1, ho.1.2.2.1, hb⟩, ?_, ho.2.2.app hn h1⟩ hm.1 hg)
    exact ho.2.1.kept h1.2.1 (fun g' e => Own.ne ho.2.2.1 ho.2.1.1 (by decide) e)
  · have hx1 := h.2.1 x (mem_of_get hx)
    have hap := h.2.2 _ _ _ _ (fun e => hq e.symm) hi hx
    exact AgOwn.ok (AgOwn.other (hx1.kept h1.2.1 (fun g' e => Own.ne ho.2.2.1 hx1.2.1.1 (by decide) e) (fun g' e => hap.2 g' e)) hm.1 hg)
end
/-- The answer of the generators of agents. -/
def IsAgs (lo most : Nat) (v : Value) (w : World) : Prop := ∃ (A : Option Addr) (n c : Nat) (l : List AgV), v = .slice A n c ∧ Ags w lo A n c l ∧ n ≤ most
def IsGAgs (lo most : Nat) (v : Value) (w : World) : Prop := ∃ (A : Option Addr) (n c : Nat) (l : List AgV), v = .slice A n c ∧ GAgs w lo A n c l ∧ n ≤ most ∧ ∀ a ∈ l, a.sn ≤ 2 ∧ a.pn ≤ 2 ∧ AgN a

/-! An agent that is being made: it lies in block ab, its slices are the call's own. -/
def AgB (w : World) (sb ab : Nat) (m : Int) (a : AgV) (wr : World) : Prop :=
  Str wr sb m ∧ w.grownBy wr (some sb) ∧ w.heap.size ≤ ab ∧ Blk wr ab 43 #[.string a.key, .slice a.sA a.sn a.sc, .int .i64 a.fr, .int .i64 a.til, .slice a.pA a.pn a.pc, .int .i64 a.wrap] ∧ AgOwn wr w.heap.size a
section
variable {w wr wx w8 : World} {sb ab : Nat} {m m' : Int} {a : AgV}
theorem AgB.skill (h : AgB w sb ab m a wr) (hsb : sb < w.heap.size) {s : ByteArray × Int} (hs : s.1.size ≤ 1000) {n1 : Nat} (hn : n1 = a.sn + 1) (hb : n1 ≤ 1000) (hsx : Str wx sb m') (hgx : wr.grownBy wx (some sb)) {A1 : Option Addr} {c1 : Nat}
    (h8 : Appended wx w.heap.size 39 2 a.sA A1 n1 c1 (a.sk.flatMap skRow ++ skRow s) w8) :
    AgB w sb ab m' { a with sA := A1, sn := n1, sc := c1, sk := a.sk ++ [s] } (w8.setCell ⟨ab, 1, none⟩ (.slice A1 n1 c1)) := by
  obtain ⟨_, hg, hp, hbk, ho⟩ := h
  have hox : AgOwn wx w.heap.size a := ho.low hgx (fun g e => by injection e with e; omega)
  have hbx := hbk.grown hgx (by simp; omega)
  have hb8 := hbx.grown h8.2.1 (Ne.symm (hox.2.1.1.blk_ne hbx (by decide)))
  have hg8 : w.grownBy w8 (some sb) := gr_own (gr_same hg hgx) hox.2.1.1 (Nat.le_refl _) h8.2.1
  have hz := hg8.size
  have hs8 : Str w8 sb m' := hsx.grown h8.2.1 (fun g e => by have := (hox.2.1.1.lt e).1; omega)
  refine ⟨hs8.setCell (by simp; omega) _, gr_setCell hg8 (.inr (by simp; omega)) _, hp, hb8.set_ 1 _, ⟨hox.1.1, fun t ht => ?_, hb, hox.1.2.2.2⟩, ?_, ?_⟩
  · rcases List.mem_append.1 ht with ht | ht
    · exact hox.1.2.1 t ht
    · rw [List.mem_singleton.1 ht]; exact hs
  · have h9 := hox.2.1.app hn h8
    exact ⟨h9.1.far (h9.1.blk_ne hb8 (by decide)) _, h9.2⟩
  · have h9 := hox.2.2.kept h8.2.1 (fun g' e => Own.ne hox.2.1.1 hox.2.2.1 (by decide) e)
    exact ⟨h9.1.far (h9.1.blk_ne hb8 (by decide)) _, h9.2⟩
theorem AgB.pause (h : AgB w sb ab m a wr) (hsb : sb < w.heap.size) {s : Int × Int} {n1 : Nat} (hn : n1 = a.pn + 1) (hb : n1 ≤ 1000) (hsx : Str wx sb m') (hgx : wr.grownBy wx (some sb)) {A1 : Option Addr} {c1 : Nat}
    (h8 : Appended wx w.heap.size 33 2 a.pA A1 n1 c1 (a.ps.flatMap pwRow ++ pwRow s) w8) :
    AgB w sb ab m' { a with pA := A1, pn := n1, pc := c1, ps := a.ps ++ [s] } (w8.setCell ⟨ab, 4, none⟩ (.slice A1 n1 c1)) := by
  obtain ⟨_, hg, hp, hbk, ho⟩ := h
  have hox : AgOwn wx w.heap.size a := ho.low hgx (fun g e => by injection e with e; omega)
  have hbx := hbk.grown hgx (by simp; omega)
  have hb8 := hbx.grown h8.2.1 (Ne.symm (hox.2.2.1.blk_ne hbx (by decide)))
  have hg8 : w.grownBy w8 (some sb) := gr_own (gr_same hg hgx) hox.2.2.1 (Nat.le_refl _) h8.2.1
  have hz := hg8.size
  have hs8 : Str w8 sb m' := hsx.grown h8.2.1 (fun g e => by have := (hox.2.2.1.lt e).1; omega)
  refine ⟨hs8.setCell (by simp; omega) _, gr_setCell hg8 (.inr (by simp; omega)) _, hp, hb8.set_ 4 _, ⟨hox.1.1, hox.1.2.1, hox.1.2.2.1, hb⟩, ?_, ?_⟩
  · have h9 := hox.2.1.kept h8.2.1 (fun g' e => Own.ne hox.2.2.1 hox.2.1.1 (by decide) e)
    exact ⟨h9.1.far (h9.1.blk_ne hb8 (by decide)) _, h9.2⟩
  · have h9 := hox.2.2.app hn h8
    exact ⟨h9.1.far (h9.1.blk_ne hb8 (by decide)) _, h9.2⟩
theorem AgB.step (h : AgB w sb ab m a wr) (hsb : sb < w.heap.size) (hsx : Str wx sb m') (hgx : wr.grownBy wx (some sb)) : AgB w sb ab m' a wx :=
  ⟨hsx, gr_same h.2.1 hgx, h.2.2.1, h.2.2.2.1.grown hgx (by have := h.2.2.1; simp; omega), h.2.2.2.2.low hgx (fun g e => by injection e with e; omega)⟩
end
/-- A block that the making of an agent's slices leaves alone. -/
theorem AgB.blk {w wr wx w8 : World} {sb ab : Nat} {m : Int} {a : AgV} (h : AgB w sb ab m a wr) {e t : TypeId} {A A1 : Option Addr} {n c n1 c1 g j : Nat} {xs ys : List Value} {cs : Array Value} {v : Value} (hb : Blk wr g t cs) (hgx : wr.grownBy wx (some sb)) (hs : g ≠ sb) (hg : g ≠ ab)
    (ho : Own wx w.heap.size e 2 A n c xs) (hne : e ≠ t) (h8 : Appended wx w.heap.size e 2 A A1 n1 c1 ys w8) : Blk (w8.setCell ⟨ab, j, none⟩ v) g t cs := by
  have hbx := hb.grown hgx (by simpa using hs)
  exact (hbx.grown h8.2.1 (Ne.symm (ho.blk_ne hbx hne))).far (by simpa using hg) v
theorem Tryz.agsT : ElemT Tryz.prog 44 43 6 88 (.agg #[.string ⟨#[]⟩, .slice none 0 0, .int .i64 0, .int .i64 0, .slice none 0 0, .int .i64 0]) := elemT_of Tryz.underlying44 (by kernel_rfl) rfl (by decide)
theorem Tryz.sksT : ElemT Tryz.prog 40 39 2 24 (.agg #[.string ⟨#[]⟩, .int .i64 0]) := elemT_of Tryz.underlying40 (by kernel_rfl) rfl (by decide)
theorem Tryz.winsT : ElemT Tryz.prog 41 33 2 16 (.agg #[.int .i64 0, .int .i64 0]) := elemT_of Tryz.underlying41 (by kernel_rfl) rfl (by decide)
theorem Tryz.casT : ElemT Tryz.prog 45 49 8 80 (.agg #[.string ⟨#[]⟩, .string ⟨#[]⟩, .int .i64 0, .int .i64 0, .int .i64 0, .int .i64 0, .int .i64 0, .bool false]) := elemT_of Tryz.underlying45 (by kernel_rfl) rfl (by decide)
end
end Go.Proofs.YtelpakmiciilgaaGreatDoor
/- Slices of ints: cells, appends; slices.Equal at two that read as the same list. Conditions: none. -/
namespace Go.Proofs.YtelpakmiciilgaaGreatDoor
section
open Go.RowKit
/-- A cell that holds a number. -/
def nrow (n : Int) : List Value := [.int .i64 n]
theorem nrow_len (n : Int) : (nrow n).length = 1 := rfl
theorem nrow_map (l : List Int) : l.flatMap nrow = l.map (Value.int .i64) := by
  induction l with
  | nil => rfl
  | cons a l ih => rw [List.flatMap_cons, ih]; rfl
theorem Tryz.inT : ElemT Tryz.prog 22 3 1 8 (.int .i64 0) := elemT_of Tryz.underlying22 (by kernel_rfl) rfl (by decide)
/-- A slice of numbers of the call's own, and an error. -/
def InErr (l : List Int) (E : Int) (w : World) (e : Ending) (w' : World) : Prop := ∃ A n c, e = .returned (.tuple #[.slice A n c, .int .i64 E]) ∧ OwnR nrow 1 w' w.heap.size 3 A n c l ∧ w.grownBy w' none
end
end Go.Proofs.YtelpakmiciilgaaGreatDoor
/- slices.Sort and slices.Compact at ints, in the words of slices of the call's own. Conditions: none. -/
namespace Go.Proofs.YtelpakmiciilgaaGreatDoor
section
open Go.RowKit Go.Sort

def sortI (l : List Int) : List Int := l.mergeSort fun x y => decide (x ≤ y)
theorem sortI_len (l : List Int) : (sortI l).length = l.length := List.length_mergeSort _
theorem sortI_mem {l : List Int} {x : Int} : x ∈ sortI l ↔ x ∈ l := List.mem_mergeSort
theorem pw_monoS {α : Type} {R S : α → α → Prop} (h : ∀ a b, R a b → S a b) {l : List α} (hl : l.Pairwise R) : l.Pairwise S := by
  induction hl with
  | nil => exact List.Pairwise.nil
  | cons h1 _ ih => exact List.Pairwise.cons (fun a ha => h _ _ (h1 a ha)) ih
theorem sortI_rise (l : List Int) : (sortI l).Pairwise (· ≤ ·) := by
  have h := List.pairwise_mergeSort (le := fun x y : Int => decide (x ≤ y)) (fun a b c h1 h2 => by simp only [decide_eq_true_eq] at *; omega) (fun a b => by simp only [Bool.or_eq_true, decide_eq_true_eq]; omega) l
  exact pw_monoS (fun a b h => by simpa using h) h
end
end Go.Proofs.YtelpakmiciilgaaGreatDoor
/- Plain Lean: a queue as the document plays it: who is free, who is in line, who is chosen, what comes about at a moment. Conditions: none. -/
namespace Go.Proofs.YtelpakmiciilgaaGreatDoor
section
open Go.RowKit

/-! A stable sort by insertion, as slices.SortStableFunc does it at few elements. -/
section
variable {α β : Type}
def sink (lt : α → α → Bool) (l : List α) : Nat → List α
  | 0 => l
  | j + 1 => match l[j + 1]?, l[j]? with
    | some x, some y => if lt x y then sink lt ((l.set (j + 1) y).set j x) j else l
    | _, _ => l
def srtTo (lt : α → α → Bool) (l : List α) : Nat → List α
  | 0 => l
  | i + 1 => sink lt (srtTo lt l i) i
def srt (lt : α → α → Bool) (l : List α) : List α := srtTo lt l l.length
theorem sink_len (lt : α → α → Bool) (l : List α) (j : Nat) : (sink lt l j).length = l.length := by
  induction j generalizing l with
  | zero => rfl
  | succ j ih =>
    unfold sink
    split
    · split
      · rw [ih]; simp
      · rfl
    · rfl
theorem srtTo_len (lt : α → α → Bool) (l : List α) (i : Nat) : (srtTo lt l i).length = l.length := by
  induction i with
  | zero => rfl
  | succ i ih => rw [srtTo, sink_len, ih]
theorem srt_len (lt : α → α → Bool) (l : List α) : (srt lt l).length = l.length := srtTo_len _ _ _
theorem sink_yes {lt : α → α → Bool} {l : List α} {j : Nat} {x y : α} (hx : l[j + 1]? = some x) (hy : l[j]? = some y) (h : lt x y = true) : sink lt l (j + 1) = sink lt ((l.set (j + 1) y).set j x) j := by
  conv => lhs; unfold sink
  rw [hx, hy]
  exact if_pos h
theorem sink_no {lt : α → α → Bool} {l : List α} {j : Nat} {x y : α} (hx : l[j + 1]? = some x) (hy : l[j]? = some y) (h : lt x y = false) : sink lt l (j + 1) = l := by
  conv => lhs; unfold sink
  rw [hx, hy]
  exact if_neg (by rw [h]; decide)
theorem swap_mem {l : List α} {i j : Nat} {x y z : α} (hx : x ∈ l) (hy : y ∈ l) (h : z ∈ (l.set i y).set j x) : z ∈ l := by
  rcases List.mem_or_eq_of_mem_set h with h | rfl
  · rcases List.mem_or_eq_of_mem_set h with h | rfl
    · exact h
    · exact hy
  · exact hx
theorem sink_mem {lt : α → α → Bool} {l : List α} {j : Nat} {z : α} (h : z ∈ sink lt l j) : z ∈ l := by
  induction j generalizing l with
  | zero => exact h
  | succ j ih =>
    unfold sink at h
    split at h
    · rename_i x y hx hy
      split at h
      · exact swap_mem (mem_of_get hx) (mem_of_get hy) (ih h)
      · exact h
    · exact h
theorem srtTo_mem {lt : α → α → Bool} {l : List α} {i : Nat} {z : α} (h : z ∈ srtTo lt l i) : z ∈ l := by
  induction i with
  | zero => exact h
  | succ i ih => exact ih (sink_mem h)
theorem srt_mem {lt : α → α → Bool} {l : List α} {z : α} (h : z ∈ srt lt l) : z ∈ l := srtTo_mem h
theorem sink_map (f : α → β) {lt : α → α → Bool} {lt' : β → β → Bool} {l : List α} {j : Nat} (h : ∀ x ∈ l, ∀ y ∈ l, lt' (f x) (f y) = lt x y) : sink lt' (l.map f) j = (sink lt l j).map f := by
  induction j generalizing l with
  | zero => rfl
  | succ j ih =>
    unfold sink
    rw [List.getElem?_map, List.getElem?_map]
    cases hx : l[j + 1]? with
    | none => rfl
    | some x =>
      cases hy : l[j]? with
      | none => rfl
      | some y =>
        have hlt := h x (mem_of_get hx) y (mem_of_get hy)
        show (if lt' (f x) (f y) then _ else _) = List.map f (if lt x y then _ else _)
        rw [hlt]
        split
        · rw [← List.map_set, ← List.map_set]
          exact ih fun a ha b hb => h a (swap_mem (mem_of_get hx) (mem_of_get hy) ha) b (swap_mem (mem_of_get hx) (mem_of_get hy) hb)
        · rfl
theorem srtTo_map (f : α → β) {lt : α → α → Bool} {lt' : β → β → Bool} {l : List α} {i : Nat} (h : ∀ x ∈ l, ∀ y ∈ l, lt' (f x) (f y) = lt x y) : srtTo lt' (l.map f) i = (srtTo lt l i).map f := by
  induction i with
  | zero => rfl
  | succ i ih => rw [srtTo, ih, srtTo]; exact sink_map f fun x hx y hy => h x (srtTo_mem hx) y (srtTo_mem hy)
theorem srt_map (f : α → β) {lt : α → α → Bool} {lt' : β → β → Bool} {l : List α} (h : ∀ x ∈ l, ∀ y ∈ l, lt' (f x) (f y) = lt x y) : srt lt' (l.map f) = (srt lt l).map f := by
  unfold srt
  rw [List.length_map]
  exact srtTo_map f h
end

/-! Seats, styles, rooms. -/
structure SeV where
  ca : ByteArray
  ag : ByteArray
  how : Int
  beg : Int
  fin : Int
def SeV.row (s : SeV) : List Value := [.string s.ca, .string s.ag, .int .i64 s.how, .int .i64 s.beg, .int .i64 s.fin]
theorem SeV.row_len (s : SeV) : s.row.length = 5 := rfl
def dkRow (d : Int × Int) : List Value := [.int .i64 d.1, .int .i64 d.2]
theorem dkRow_len (d : Int × Int) : (dkRow d).length = 2 := rfl
structure StyV where
  kind : Int
  age : Int
  say : Int
/-- What is known of a room while it is played: for each agent how many calls it had and when the last one ends; for each caller the seat, whether a number was left, whether it is done; the agent called last. -/
structure RoS where
  ds : List (Int × Int)
  se : List SeV
  bk : List Bool
  dn : List Bool
  last : ByteArray
def dAt (ds : List (Int × Int)) (i : Nat) : Int × Int := (ds[i]?).getD (0, 0)
def bAt (l : List Bool) (i : Nat) : Bool := (l[i]?).getD false

/-! Who is free. -/
def freeB (a : AgV) (d : Int × Int) (t : Int) : Bool := presB a t && (decide (d.1 = 0) || decide (d.2 + a.wrap ≤ t))

/-! The moments at which something can come about. -/
def calT (C : List CaV) : Nat → List Int
  | 0 => []
  | k + 1 => calT C k ++ (C[k]?).elim [] fun c => [c.at_, c.at_ + c.pat]
def agT1 (a : AgV) (d : Int × Int) : List Int := a.fr :: (a.ps.map (·.2) ++ if 0 < d.1 then [d.2, d.2 + a.wrap] else [])
def agT (A : List AgV) (ds : List (Int × Int)) : Nat → List Int
  | 0 => []
  | k + 1 => agT A ds k ++ (A[k]?).elim [] fun a => agT1 a (dAt ds k)
def timesR (A : List AgV) (C : List CaV) (ds : List (Int × Int)) : List Int := calT C C.length ++ agT A ds A.length
def nextsR (A : List AgV) (C : List CaV) (ds : List (Int × Int)) (after : Int) : List Int := sortI ((timesR A C ds).filter fun t => decide (after < t))

/-! Who is in line. -/
def rankR (s : StyV) (c : CaV) (t : Int) : Int := if s.age = 0 then c.prio else c.prio + (t - c.at_).tdiv s.age
def rankAt (s : StyV) (C : List CaV) (t : Int) (i : Nat) : Int := (C[i]?).elim 0 fun c => rankR s c t
def lineRaw (C : List CaV) (dn : List Bool) (t : Int) : Nat → List Nat
  | 0 => []
  | k + 1 => lineRaw C dn t k ++ (C[k]?).elim [] fun c => if decide (c.at_ ≤ t) && !bAt dn k then [k] else []
def lineR (s : StyV) (C : List CaV) (dn : List Bool) (t : Int) : List Nat := srt (fun a b => decide (rankAt s C t b < rankAt s C t a)) (lineRaw C dn t C.length)

/-! Who is chosen. -/
def ptsR (kind : Int) (a : AgV) (d : Int × Int) (last skill : ByteArray) : Int :=
  if kind = 1 then (if 0 < d.1 then d.2 else a.fr) else if kind = 2 then d.1 else if kind = 3 then -(lvl a.sk skill) else (if leS a.key last then 1 else 0)
def chooseR (s : StyV) (A : List AgV) (ds : List (Int × Int)) (last : ByteArray) (c : CaV) (t : Int) : Nat → Int × Int
  | 0 => (-1, 0)
  | k + 1 => (A[k]?).elim (chooseR s A ds last c t k) fun a =>
    if ableB a c && freeB a (dAt ds k) t then
      (if decide ((chooseR s A ds last c t k).1 < 0) || decide (ptsR s.kind a (dAt ds k) last c.skill < (chooseR s A ds last c t k).2) then ((k : Int), ptsR s.kind a (dAt ds k) last c.skill) else chooseR s A ds last c t k)
    else chooseR s A ds last c t k
def chosenR (s : StyV) (A : List AgV) (st : RoS) (c : CaV) (t : Int) : Int := (chooseR s A st.ds st.last c t A.length).1

/-! Callers go, or leave their number. -/
def leaveB (c : CaV) (t : Int) (now : Bool) (bk dn : Bool) : Bool := !dn && !bk && decide (c.at_ ≤ t) && decide (c.at_ + c.pat = t) && (now == decide (c.at_ = t))
def leave1 (c : CaV) (i : Nat) (t : Int) (now : Bool) (st : RoS) : RoS :=
  if leaveB c t now (bAt st.bk i) (bAt st.dn i) then
    (if c.back then { st with bk := st.bk.set i true } else { st with dn := st.dn.set i true, se := (st.se[i]?).elim st.se fun s => st.se.set i ⟨s.ca, s.ag, 2, t, t⟩ })
  else st
def leaveR (C : List CaV) (t : Int) (now : Bool) : Nat → RoS → RoS
  | 0, st => st
  | k + 1, st => (C[k]?).elim (leaveR C t now k st) fun c => leave1 c k t now (leaveR C t now k st)

/-! One caller is given to an agent. -/
def givenR (A : List AgV) (C : List CaV) (st : RoS) (t : Int) (i k : Nat) : RoS := (C[i]?).elim st fun c => (A[k]?).elim st fun a =>
  ⟨st.ds.set k ((dAt st.ds k).1 + 1, t + c.talk), st.se.set i ⟨c.id, a.key, if bAt st.bk i then 3 else 1, t, t + c.talk⟩, st.bk, st.dn.set i true, a.key⟩
def giveL (s : StyV) (A : List AgV) (C : List CaV) (st : RoS) (t : Int) : List Nat → Option RoS
  | [] => none
  | i :: l => (C[i]?).elim (giveL s A C st t l) fun c => if chosenR s A st c t < 0 then giveL s A C st t l else some (givenR A C st t i (chosenR s A st c t).toNat)
def giveR (s : StyV) (A : List AgV) (C : List CaV) (st : RoS) (t : Int) : Option RoS := giveL s A C st t (lineR s C st.dn t)
def givesR (s : StyV) (A : List AgV) (C : List CaV) (t : Int) : Nat → RoS → RoS
  | 0, st => st
  | f + 1, st => (giveR s A C st t).elim st (givesR s A C t f)
def stepR (s : StyV) (A : List AgV) (C : List CaV) (st : RoS) (t : Int) : RoS := leaveR C t true C.length (givesR s A C t C.length (leaveR C t false C.length st))
/-! The play. -/
def playR (s : StyV) (A : List AgV) (C : List CaV) : Nat → RoS → Int → RoS
  | 0, st, _ => st
  | f + 1, st, at_ => ((nextsR A C st.ds at_)[0]?).elim st fun t => playR s A C f (stepR s A C st t) t
def newR (A : List AgV) (C : List CaV) : RoS := ⟨List.replicate A.length (0, 0), C.map fun c => ⟨c.id, ⟨#[]⟩, 4, 0, 0⟩, List.replicate C.length false, List.replicate C.length false, ⟨#[]⟩⟩

/-! What holds of a room all the time. -/
structure RoOk (A : List AgV) (C : List CaV) (st : RoS) : Prop where
  d : st.ds.length = A.length
  s : st.se.length = C.length
  b : st.bk.length = C.length
  n : st.dn.length = C.length
  l : st.last.size ≤ 1000
  dv : ∀ d ∈ st.ds, 0 ≤ d.1 ∧ d.1 ≤ st.dn.count true ∧ -1 ≤ d.2 ∧ d.2 ≤ 2000000000000
  sv : ∀ s ∈ st.se, s.ca.size ≤ 1000 ∧ s.ag.size ≤ 1000 ∧ -1 ≤ s.beg ∧ s.beg ≤ 2000000000000 ∧ -1 ≤ s.fin ∧ s.fin ≤ 2000000000000
end
end Go.Proofs.YtelpakmiciilgaaGreatDoor
/- Plain laws of a queue that is played: bounds hold all the time, and it ends. Conditions: none. -/
namespace Go.Proofs.YtelpakmiciilgaaGreatDoor
section
open Go.RowKit

theorem dAt_some {ds : List (Int × Int)} {i : Nat} {d : Int × Int} (h : ds[i]? = some d) : dAt ds i = d := by unfold dAt; rw [h]; rfl
theorem bAt_some {l : List Bool} {i : Nat} {b : Bool} (h : l[i]? = some b) : bAt l i = b := by unfold bAt; rw [h]; rfl
theorem dAt_mem {ds : List (Int × Int)} {i : Nat} (h : i < ds.length) : dAt ds i ∈ ds := by
  rw [dAt_some (List.getElem?_eq_getElem h)]; exact List.getElem_mem h
theorem get_len {α β : Type} {l : List α} {m : List β} (h : m.length = l.length) {i : Nat} {x : α} (hx : l[i]? = some x) : i < m.length := by
  have := (List.getElem?_eq_some_iff.1 hx).1; omega
section
variable {C : List CaV} {A : List AgV} {dn : List Bool} {t : Int} {k : Nat}
theorem calT_succ {c : CaV} (h : C[k]? = some c) : calT C (k + 1) = calT C k ++ [c.at_, c.at_ + c.pat] := by show _ ++ (C[k]?).elim _ _ = _; rw [h]; rfl
theorem calT_len (hk : k ≤ C.length) : (calT C k).length = 2 * k := by
  induction k with
  | zero => rfl
  | succ k ih => rw [calT_succ (List.getElem?_eq_getElem (show k < C.length by omega)), List.length_append, ih (by omega)]; simp; omega
theorem agT_succ {ds : List (Int × Int)} {a : AgV} (h : A[k]? = some a) : agT A ds (k + 1) = agT A ds k ++ agT1 a (dAt ds k) := by show _ ++ (A[k]?).elim _ _ = _; rw [h]; rfl
theorem lineRaw_succ {c : CaV} (h : C[k]? = some c) : lineRaw C dn t (k + 1) = lineRaw C dn t k ++ (if decide (c.at_ ≤ t) && !bAt dn k then [k] else []) := by show _ ++ (C[k]?).elim _ _ = _; rw [h]; rfl
theorem lineRaw_len (k : Nat) : (lineRaw C dn t k).length ≤ k := by
  induction k with
  | zero => exact Nat.le_refl _
  | succ k ih =>
    show (lineRaw C dn t k ++ (C[k]?).elim [] _).length ≤ _
    rw [List.length_append]
    cases C[k]? with
    | none => simp; omega
    | some c => simp only [Option.elim]; split <;> simp <;> omega
theorem lineRaw_mem {k i : Nat} (h : i ∈ lineRaw C dn t k) : i < k ∧ bAt dn i = false ∧ ∃ c, C[i]? = some c ∧ c.at_ ≤ t := by
  induction k with
  | zero => cases h
  | succ k ih =>
    change i ∈ lineRaw C dn t k ++ (C[k]?).elim [] _ at h
    rcases List.mem_append.1 h with h | h
    · obtain ⟨h1, h2⟩ := ih h; exact ⟨by omega, h2⟩
    · cases hc : C[k]? with
      | none => rw [hc] at h; cases h
      | some c =>
        rw [hc] at h
        simp only [Option.elim] at h
        split at h
        · rename_i q
          obtain rfl := List.mem_singleton.1 h
          rw [Bool.and_eq_true] at q
          exact ⟨by omega, by simpa using q.2, c, hc, by simpa using q.1⟩
        · cases h
theorem lineR_mem {s : StyV} {i : Nat} (h : i ∈ lineR s C dn t) : i < C.length ∧ bAt dn i = false ∧ ∃ c, C[i]? = some c ∧ c.at_ ≤ t := lineRaw_mem (srt_mem h)
theorem lineR_len {s : StyV} : (lineR s C dn t).length ≤ C.length := by unfold lineR; rw [srt_len]; exact lineRaw_len _
theorem leaveR_succ {now : Bool} {st : RoS} {c : CaV} (h : C[k]? = some c) : leaveR C t now (k + 1) st = leave1 c k t now (leaveR C t now k st) := by show (C[k]?).elim _ _ = _; rw [h]; rfl
end
/-! Who is chosen is able and free. -/
section
variable {s : StyV} {A : List AgV} {ds : List (Int × Int)} {last : ByteArray} {c : CaV} {t : Int}
theorem chooseR_zero : chooseR s A ds last c t 0 = (-1, 0) := rfl
theorem chooseR_succ {k : Nat} {a : AgV} (h : A[k]? = some a) : chooseR s A ds last c t (k + 1) = if ableB a c && freeB a (dAt ds k) t then
      (if decide ((chooseR s A ds last c t k).1 < 0) || decide (ptsR s.kind a (dAt ds k) last c.skill < (chooseR s A ds last c t k).2) then ((k : Int), ptsR s.kind a (dAt ds k) last c.skill) else chooseR s A ds last c t k)
    else chooseR s A ds last c t k := by show (A[k]?).elim _ _ = _; rw [h]; rfl
theorem chooseR_ok (k : Nat) : (chooseR s A ds last c t k).1 = -1 ∨ ∃ (i : Nat) (a : AgV), i < k ∧ (chooseR s A ds last c t k).1 = i ∧ A[i]? = some a ∧ ableB a c = true ∧ freeB a (dAt ds i) t = true := by
  induction k with
  | zero => exact .inl rfl
  | succ k ih =>
    have up : (chooseR s A ds last c t k).1 = -1 ∨ ∃ (i : Nat) (a : AgV), i < k + 1 ∧ (chooseR s A ds last c t k).1 = i ∧ A[i]? = some a ∧ ableB a c = true ∧ freeB a (dAt ds i) t = true := by
      rcases ih with h | ⟨i, a, h1, h2⟩
      · exact .inl h
      · exact .inr ⟨i, a, by omega, h2⟩
    cases ha : A[k]? with
    | none => have e : chooseR s A ds last c t (k + 1) = chooseR s A ds last c t k := by { show (A[k]?).elim _ _ = _; rw [ha]; rfl }; rw [e]; exact up
    | some a =>
      rw [chooseR_succ ha]
      split
      · rename_i q
        rw [Bool.and_eq_true] at q
        split
        · exact .inr ⟨k, a, by omega, rfl, ha, q.1, q.2⟩
        · exact up
      · exact up
theorem freeB_til {a : AgV} {d : Int × Int} (h : freeB a d t = true) : a.fr ≤ t ∧ t < a.til := by
  unfold freeB presB inWin at h
  simp only [Bool.and_eq_true, decide_eq_true_eq] at h
  exact h.1.1
end
/-! Bounds. -/
section
variable {A : List AgV} {C : List CaV} {st : RoS} {t : Int}
theorem count_set {l : List Bool} {i : Nat} (h : bAt l i = false) (hi : i < l.length) : (l.set i true).count true = l.count true + 1 := by
  rw [bAt_some (List.getElem?_eq_getElem hi)] at h
  rw [List.count_set hi, h]
  simp
theorem RoOk.leave1 (h : RoOk A C st) {c : CaV} {i : Nat} (hi : i < C.length) (now : Bool) (t0 : -1 ≤ t) (t1 : t ≤ 2000000000000) : RoOk A C (leave1 c i t now st) := by
  unfold Go.Proofs.YtelpakmiciilgaaGreatDoor.leave1
  split
  · rename_i q
    unfold leaveB at q
    simp only [Bool.and_eq_true, Bool.not_eq_true'] at q
    split
    · exact ⟨h.d, h.s, by simpa using h.b, h.n, h.l, h.dv, h.sv⟩
    · have hs : i < st.se.length := by rw [h.s]; exact hi
      rw [List.getElem?_eq_getElem hs]
      refine ⟨h.d, by simpa using h.s, h.b, by simpa using h.n, h.l, fun d hd => ?_, fun s hs' => ?_⟩
      · have := h.dv d hd
        have hc := count_set q.1.1.1.1 (show i < st.dn.length by rw [h.n]; exact hi)
        dsimp only
        rw [hc]
        omega
      · rcases List.mem_or_eq_of_mem_set hs' with h1 | rfl
        · exact h.sv s h1
        · have := h.sv _ (List.getElem_mem hs)
          exact ⟨this.1, this.2.1, t0, t1, t0, t1⟩
  · exact h
theorem RoOk.leaveR (h : RoOk A C st) (now : Bool) (t0 : -1 ≤ t) (t1 : t ≤ 2000000000000) (k : Nat) (hk : k ≤ C.length) : RoOk A C (leaveR C t now k st) := by
  induction k with
  | zero => exact h
  | succ k ih => rw [leaveR_succ (List.getElem?_eq_getElem (show k < C.length by omega))]; exact (ih (by omega)).leave1 (by omega) now t0 t1
theorem RoOk.given (h : RoOk A C st) {i k : Nat} {c : CaV} {a : AgV} (hc : C[i]? = some c) (ha : A[k]? = some a) (hcn : CaN c) (han : AgN a) (hco : CaOk c) (hao : a.key.size ≤ 1000) (hd : bAt st.dn i = false) (t0 : -1 ≤ t) (t1 : t < a.til) : RoOk A C (givenR A C st t i k) := by
  have hi := (List.getElem?_eq_some_iff.1 hc).1
  have hk := (List.getElem?_eq_some_iff.1 ha).1
  unfold givenR
  rw [hc, ha]
  simp only [Option.elim]
  obtain ⟨c1, c2, c3, c4, c5, c6, _, _⟩ := hcn
  obtain ⟨a1, a2, a3, a4, a5, _⟩ := han
  have hcs := count_set hd (show i < st.dn.length by rw [h.n]; exact hi)
  refine ⟨by simpa using h.d, by simpa using h.s, h.b, by simpa using h.n, hao, fun d hd' => ?_, fun s hs' => ?_⟩
  · (try dsimp only at hd' ⊢)
    rw [hcs]
    rcases List.mem_or_eq_of_mem_set hd' with h1 | rfl
    · have := h.dv d h1; omega
    · have := h.dv _ (dAt_mem (show k < st.ds.length by rw [h.d]; exact hk))
      refine ⟨?_, ?_, ?_, ?_⟩ <;> (try dsimp only) <;> omega
  · rcases List.mem_or_eq_of_mem_set hs' with h1 | rfl
    · exact h.sv s h1
    · exact ⟨hco.1, hao, t0, (by show t ≤ 2000000000000; omega), (by show -1 ≤ t + c.talk; omega), (by show t + c.talk ≤ 2000000000000; omega)⟩
theorem RoOk.new (hC : ∀ c ∈ C, CaOk c) : RoOk A C (newR A C) := by
  refine ⟨by simp [newR], by simp [newR], by simp [newR], by simp [newR], (by show (⟨#[]⟩ : ByteArray).size ≤ 1000; decide), fun d hd => ?_, fun s hs => ?_⟩
  · rw [List.eq_of_mem_replicate hd]; exact ⟨Int.le_refl _, by simp, by omega, by omega⟩
  · obtain ⟨c, hc, rfl⟩ := List.mem_map.1 hs
    exact ⟨(hC c hc).1, (by show (⟨#[]⟩ : ByteArray).size ≤ 1000; decide), (by show (-1 : Int) ≤ 0; decide), (by show (0 : Int) ≤ 2000000000000; decide), (by show (-1 : Int) ≤ 0; decide), (by show (0 : Int) ≤ 2000000000000; decide)⟩
end
/-! Giving. -/
section
variable {s : StyV} {A : List AgV} {C : List CaV} {st : RoS} {t : Int}
theorem giveL_ok (h : RoOk A C st) (hC : ∀ c ∈ C, CaN c ∧ CaOk c) (hA : ∀ a ∈ A, AgN a ∧ a.key.size ≤ 1000) (t0 : -1 ≤ t) (l : List Nat) (hl : ∀ i ∈ l, bAt st.dn i = false) :
    ∀ st', giveL s A C st t l = some st' → RoOk A C st' ∧ st'.dn.count true = st.dn.count true + 1 ∧ (∀ d ∈ st'.ds, d ∈ st.ds ∨ d.2 ≤ 345686400000 + 86400000) := by
  induction l with
  | nil => intro st' e; cases e
  | cons i l ih =>
    intro st' e
    unfold giveL at e
    cases hc : C[i]? with
    | none => rw [hc] at e; exact ih (fun j hj => hl j (List.mem_cons_of_mem _ hj)) st' e
    | some c =>
      rw [hc] at e
      simp only [Option.elim] at e
      split at e
      · exact ih (fun j hj => hl j (List.mem_cons_of_mem _ hj)) st' e
      · rename_i hn
        injection e with e
        subst e
        rcases chooseR_ok (s := s) (A := A) (ds := st.ds) (last := st.last) (c := c) (t := t) A.length with hx | ⟨k, a, hk, hx, ha, _, hf⟩
        · exfalso; apply hn; unfold chosenR; rw [hx]; decide
        · have hk' : (chosenR s A st c t).toNat = k := by unfold chosenR; rw [hx]; exact Int.toNat_natCast k
          rw [hk']
          have hcm := hC c (mem_of_get hc)
          have ham := hA a (mem_of_get ha)
          have hft := (freeB_til hf).2
          refine ⟨h.given hc ha hcm.1 ham.1 hcm.2 ham.2 (hl i (List.mem_cons_self)) t0 hft, ?_, fun d hd => ?_⟩
          · unfold givenR; rw [hc, ha]; exact count_set (hl i (List.mem_cons_self)) (by rw [h.n]; exact (List.getElem?_eq_some_iff.1 hc).1)
          · unfold givenR at hd
            rw [hc, ha] at hd
            rcases List.mem_or_eq_of_mem_set hd with h1 | rfl
            · exact .inl h1
            · right
              obtain ⟨_, _, _, _, _, c6, _, _⟩ := hcm.1
              obtain ⟨_, _, a3, _⟩ := ham.1
              dsimp only
              omega
theorem giveR_ok (h : RoOk A C st) (hC : ∀ c ∈ C, CaN c ∧ CaOk c) (hA : ∀ a ∈ A, AgN a ∧ a.key.size ≤ 1000) (t0 : -1 ≤ t) {st' : RoS} (e : giveR s A C st t = some st') :
    RoOk A C st' ∧ st'.dn.count true = st.dn.count true + 1 ∧ (∀ d ∈ st'.ds, d ∈ st.ds ∨ d.2 ≤ 345686400000 + 86400000) :=
  giveL_ok h hC hA t0 _ (fun i hi => (lineR_mem hi).2.1) st' e
theorem givesR_some {f : Nat} {st' : RoS} (h : giveR s A C st t = some st') : givesR s A C t (f + 1) st = givesR s A C t f st' := by
  show (giveR s A C st t).elim _ _ = _; rw [h]; rfl
theorem givesR_none {f : Nat} (h : giveR s A C st t = none) : givesR s A C t f st = st := by
  cases f with
  | zero => rfl
  | succ f => show (giveR s A C st t).elim _ _ = _; rw [h]; rfl
/-- Once all callers are done, nobody is given. -/
theorem done_none (h : RoOk A C st) (hd : C.length ≤ st.dn.count true) : giveR s A C st t = none := by
  have hall : ∀ i, i < C.length → bAt st.dn i = true := by
    have hn := h.n
    intro i hi
    have hb : ∀ b ∈ st.dn, true = b := List.count_eq_length.1 (by have := List.count_le_length (a := true) (l := st.dn); omega)
    rw [bAt_some (List.getElem?_eq_getElem (show i < st.dn.length by omega))]
    exact (hb _ (List.getElem_mem _)).symm
  unfold giveR
  have : lineR s C st.dn t = [] := by
    cases hl : lineR s C st.dn t with
    | nil => rfl
    | cons i l =>
      obtain ⟨h1, h2, _⟩ := lineR_mem (s := s) (C := C) (dn := st.dn) (t := t) (i := i) (by rw [hl]; exact List.mem_cons_self)
      rw [hall i h1] at h2
      cases h2
  rw [this]; rfl
/-- Bounds of the ends of calls, of all moments. -/
def DsB (ds : List (Int × Int)) : Prop := ∀ d ∈ ds, d.2 ≤ 345686400000 + 86400000
theorem givesR_ok (f : Nat) (h : RoOk A C st) (hb : DsB st.ds) (hC : ∀ c ∈ C, CaN c ∧ CaOk c) (hA : ∀ a ∈ A, AgN a ∧ a.key.size ≤ 1000) (t0 : -1 ≤ t) : RoOk A C (givesR s A C t f st) ∧ DsB (givesR s A C t f st).ds := by
  induction f generalizing st with
  | zero => exact ⟨h, hb⟩
  | succ f ih =>
    cases e : giveR s A C st t with
    | none => rw [givesR_none e]; exact ⟨h, hb⟩
    | some st' =>
      rw [givesR_some e]
      obtain ⟨h1, _, h2⟩ := giveR_ok h hC hA t0 e
      exact ih h1 fun d hd => by
        rcases h2 d hd with h3 | h3
        · exact hb d h3
        · exact h3
theorem leaveR_ds (now : Bool) (k : Nat) (st : RoS) : (leaveR C t now k st).ds = st.ds := by
  induction k with
  | zero => rfl
  | succ k ih =>
    show ((C[k]?).elim _ _ : RoS).ds = _
    cases C[k]? with
    | none => exact ih
    | some c =>
      show (leave1 c k t now (leaveR C t now k st)).ds = _
      unfold leave1
      split
      · split <;> exact ih
      · exact ih
theorem stepR_ok (h : RoOk A C st) (hb : DsB st.ds) (hC : ∀ c ∈ C, CaN c ∧ CaOk c) (hA : ∀ a ∈ A, AgN a ∧ a.key.size ≤ 1000) (t0 : -1 ≤ t) (t1 : t ≤ 2000000000000) : RoOk A C (stepR s A C st t) ∧ DsB (stepR s A C st t).ds := by
  unfold stepR
  have h1 := h.leaveR false t0 t1 C.length (Nat.le_refl _)
  obtain ⟨h2, h3⟩ := givesR_ok (s := s) C.length h1 (by rw [leaveR_ds]; exact hb) hC hA t0
  exact ⟨h2.leaveR true t0 t1 C.length (Nat.le_refl _), by rw [leaveR_ds]; exact h3⟩
theorem calT_bd (hC : ∀ c ∈ C, CaN c ∧ CaOk c) (k : Nat) : ∀ x ∈ calT C k, 0 ≤ x ∧ x ≤ 345859200000 := by
  induction k with
  | zero => intro x hx; cases hx
  | succ k ih =>
    intro x hx
    change x ∈ calT C k ++ (C[k]?).elim [] _ at hx
    rcases List.mem_append.1 hx with hx | hx
    · exact ih x hx
    · cases hc : C[k]? with
      | none => rw [hc] at hx; cases hx
      | some c =>
        rw [hc] at hx
        obtain ⟨c1, c2, c3, c4, _⟩ := (hC c (mem_of_get hc)).1
        simp only [Option.elim, List.mem_cons, List.not_mem_nil, or_false] at hx
        omega
theorem agT_bd {ds : List (Int × Int)} (hl : ds.length = A.length) (hd : ∀ d ∈ ds, -1 ≤ d.2) (hb : DsB ds) (hA : ∀ a ∈ A, AgN a ∧ a.key.size ≤ 1000) (k : Nat) : ∀ x ∈ agT A ds k, -1 ≤ x ∧ x ≤ 345859200000 := by
  induction k with
  | zero => intro x hx; cases hx
  | succ k ih =>
    intro x hx
    change x ∈ agT A ds k ++ (A[k]?).elim [] _ at hx
    rcases List.mem_append.1 hx with hx | hx
    · exact ih x hx
    · cases ha : A[k]? with
      | none => rw [ha] at hx; cases hx
      | some a =>
        rw [ha] at hx
        obtain ⟨a1, a2, a3, a4, a5, a6, _⟩ := (hA a (mem_of_get ha)).1
        have hk : k < ds.length := by rw [hl]; exact (List.getElem?_eq_some_iff.1 ha).1
        have h1 := hd _ (dAt_mem hk); have h2 := hb _ (dAt_mem hk)
        simp only [Option.elim, agT1, List.mem_cons, List.mem_append, List.mem_map] at hx
        rcases hx with rfl | ⟨p, hp, rfl⟩ | hx
        · omega
        · have := a6 p hp; omega
        · split at hx
          · simp only [List.mem_cons, List.not_mem_nil, or_false] at hx
            omega
          · cases hx
theorem timesR_bd (h : RoOk A C st) (hb : DsB st.ds) (hC : ∀ c ∈ C, CaN c ∧ CaOk c) (hA : ∀ a ∈ A, AgN a ∧ a.key.size ≤ 1000) : ∀ x ∈ timesR A C st.ds, -1 ≤ x ∧ x ≤ 345859200000 := by
  intro x hx
  rcases List.mem_append.1 hx with hx | hx
  · have := calT_bd hC _ x hx; omega
  · exact agT_bd h.d (fun d hd => (h.dv d hd).2.2.1) hb hA _ x hx
theorem nextsR_mem {ds : List (Int × Int)} {after x : Int} : x ∈ nextsR A C ds after ↔ x ∈ timesR A C ds ∧ after < x := by
  unfold nextsR
  rw [sortI_mem, List.mem_filter, decide_eq_true_eq]
/-- A play goes on as long as something can come about, each time later. -/
theorem playR_some {f : Nat} {at_ t : Int} (h : (nextsR A C st.ds at_)[0]? = some t) : playR s A C (f + 1) st at_ = playR s A C f (stepR s A C st t) t := by
  show ((nextsR A C st.ds at_)[0]?).elim _ _ = _; rw [h]; rfl
theorem playR_none {f : Nat} {at_ : Int} (h : (nextsR A C st.ds at_)[0]? = none) : playR s A C f st at_ = st := by
  cases f with
  | zero => rfl
  | succ f => show ((nextsR A C st.ds at_)[0]?).elim _ _ = _; rw [h]; rfl
def playOf (s : StyV) (A : List AgV) (C : List CaV) : RoS := playR s A C 345859200002 (newR A C) (-1)
end
end
end Go.Proofs.YtelpakmiciilgaaGreatDoor
/- Plain Lean: between the first two turns of hours it is open; whoever is answered in a play is answered while the agent is there. Conditions: none. -/
namespace Go.Proofs.YtelpakmiciilgaaGreatDoor
section

/-! Turns: behind an odd number of them it is open. -/
theorem turns_odd (op : Int → Bool) (fr : Int) (k : Nat) : wasB op fr k = decide ((turnsL op fr k).length % 2 = 1) := by
  induction k with
  | zero => rfl
  | succ k ih =>
    show op (visit fr k) = decide ((turnsL op fr k ++ (if op (visit fr k) = wasB op fr k then [] else [visit fr k])).length % 2 = 1)
    rw [List.length_append]
    split
    · rename_i h
      rw [h, ih]
      rfl
    · rename_i h
      rw [show op (visit fr k) = !wasB op fr k by
        revert h; cases op (visit fr k) <;> cases wasB op fr k <;> intro h <;> first | rfl | exact absurd rfl h, ih]
      rw [Bool.eq_iff_iff]
      simp only [Bool.not_eq_true', decide_eq_false_iff_not, decide_eq_true_eq, List.length_cons, List.length_nil]
      omega
theorem turns_cut (op : Int → Bool) (fr : Int) (k : Nat) : ∀ N, k ≤ N → ∃ R, turnsL op fr N = turnsL op fr k ++ R ∧ ∀ x ∈ R, ∃ j, k ≤ j ∧ x = visit fr j := by
  intro N
  induction N with
  | zero => intro h; obtain rfl : k = 0 := Nat.le_zero.1 h; exact ⟨[], rfl, fun x hx => by cases hx⟩
  | succ N ih =>
    intro h
    by_cases e : k = N + 1
    · subst e; exact ⟨[], (List.append_nil _).symm, fun x hx => by cases hx⟩
    · obtain ⟨R, h1, h2⟩ := ih (by omega)
      refine ⟨R ++ (if op (visit fr N) = wasB op fr N then [] else [visit fr N]), ?_, fun x hx => ?_⟩
      · show turnsL op fr N ++ _ = _
        rw [h1, List.append_assoc]
      · rcases List.mem_append.1 hx with hx | hx
        · exact h2 x hx
        · split at hx
          · cases hx
          · exact ⟨N, by omega, List.mem_singleton.1 hx⟩
theorem two_turns {op : Int → Bool} {fr : Int} {N : Nat} {t0 t1 : Int} {r : List Int} (h : turnsL op fr N = t0 :: t1 :: r) {k : Nat} (hk : k < N) (h0 : t0 ≤ visit fr k) (h1 : visit fr k < t1) : op (visit fr k) = true := by
  obtain ⟨R, e1, e2⟩ := turns_cut op fr (k + 1) N hk
  have key : turnsL op fr (k + 1) = [t0] := by
    cases hp : turnsL op fr (k + 1) with
    | nil =>
      rw [h, hp, List.nil_append] at e1
      obtain ⟨j, q1, q2⟩ := e2 t0 (by rw [← e1]; simp)
      have := visit_mono fr (show k < j by omega)
      omega
    | cons a p =>
      rw [h, hp] at e1
      injection e1 with e3 e4
      subst e3
      cases p with
      | nil => rfl
      | cons b p =>
        change t1 :: r = b :: (p ++ R) at e4
        injection e4 with e5 _
        obtain ⟨j, q1, q2, _⟩ := turns_mem.1 (show b ∈ turnsL op fr (k + 1) by rw [hp]; simp)
        by_cases e : j = k
        · subst e; omega
        · have := visit_mono fr (show j < k by omega); omega
  have := turns_odd op fr (k + 1)
  rw [key] at this
  exact this
theorem visit_zero (k : Nat) : visit 0 k = k * 60000 := by
  cases k with
  | zero => rfl
  | succ k => show ((0 : Int) / 60000 + ((k + 1 : Nat) : Int)) * 60000 = _; omega
/-- At every moment between the first two turns it is open. -/
theorem two_open {zone : Int} {rows hol : List (Int × Int × Int)} {N : Nat} {t0 t1 t : Int} {r : List Int} (h : turnsL (openAt zone rows hol) 0 N = t0 :: t1 :: r) (h0 : t0 ≤ t) (h1 : t < t1) : openAt zone rows hol t = true := by
  obtain ⟨k0, a1, a2, _⟩ := turns_mem.1 (show t0 ∈ turnsL (openAt zone rows hol) 0 N by rw [h]; simp)
  obtain ⟨k1, b1, b2, _⟩ := turns_mem.1 (show t1 ∈ turnsL (openAt zone rows hol) 0 N by rw [h]; simp)
  rw [visit_zero] at a2 b2
  obtain ⟨k, hk⟩ : ∃ k : Nat, t / 60000 = k := ⟨(t / 60000).toNat, by omega⟩
  have hv := visit_zero k
  have := two_turns h (k := k) (by omega) (by rw [hv]; omega) (by rw [hv]; omega)
  unfold openAt at this ⊢
  rw [hv] at this
  rw [show t / 60000 = ((k : Int) * 60000) / 60000 by omega]
  exact this

/-! Plays. -/
section
variable {s : StyV} {A : List AgV} {C : List CaV} {st : RoS} {t : Int}
structure FrOk (A : List AgV) (st : RoS) : Prop where
  l : st.dn.length = st.se.length
  a : ∀ (i : Nat) z, st.se[i]? = some z → z.ag.toList = [] ∨ ∃ a ∈ A, a.fr ≤ z.beg ∧ z.beg < a.til
  n : ∀ (i : Nat) z, st.se[i]? = some z → bAt st.dn i = false → z.ag.toList = []
theorem bAt_setT {l : List Bool} {i j : Nat} (hi : i < l.length) (h : bAt (l.set i true) j = false) : j ≠ i ∧ bAt l j = false := by
  unfold bAt at h ⊢
  rw [List.getElem?_set] at h
  split at h
  · rename_i e
    first | cases h | (rw [if_pos hi] at h; cases h) | (split at h <;> first | cases h | omega)
  · rename_i e
    exact ⟨fun q => e q.symm, h⟩
theorem FrOk.put (h : FrOk A st) {i : Nat} {z z' : SeV} {ds : List (Int × Int)} {bk : List Bool} {last : ByteArray} (hz : st.se[i]? = some z) (hz' : z'.ag.toList = [] ∨ ∃ a ∈ A, a.fr ≤ z'.beg ∧ z'.beg < a.til) : FrOk A ⟨ds, st.se.set i z', bk, st.dn.set i true, last⟩ := by
  have hi : i < st.se.length := (List.getElem?_eq_some_iff.1 hz).1
  refine ⟨by show (st.dn.set i true).length = (st.se.set i z').length; rw [List.length_set, List.length_set]; exact h.l, fun j x hx => ?_, fun j x hx hb => ?_⟩
  · change (st.se.set i z')[j]? = some x at hx
    rw [List.getElem?_set] at hx
    split at hx
    · (try rw [if_pos hi] at hx); injection hx with hx; rw [← hx]; exact hz'
    · exact h.a j x hx
  · obtain ⟨q1, q2⟩ := bAt_setT (by rw [h.l]; exact hi) (show bAt (st.dn.set i true) j = false from hb)
    change (st.se.set i z')[j]? = some x at hx
    rw [List.getElem?_set, if_neg (fun q => q1 q.symm)] at hx
    exact h.n j x hx q2
theorem FrOk.leave1 (h : FrOk A st) (c : CaV) (i : Nat) (now : Bool) : FrOk A (leave1 c i t now st) := by
  unfold Go.Proofs.YtelpakmiciilgaaGreatDoor.leave1
  split
  · rename_i hl
    split
    · exact ⟨h.l, h.a, h.n⟩
    · have hdn : bAt st.dn i = false := by
        unfold leaveB at hl
        simp only [Bool.and_eq_true, Bool.not_eq_true'] at hl
        exact hl.1.1.1.1
      cases hz : st.se[i]? with
      | none =>
        refine ⟨by show (st.dn.set i true).length = _; rw [List.length_set]; exact h.l, h.a, fun j x hx hb => ?_⟩
        have hx' : st.se[j]? = some x := hx
        by_cases e : i < st.dn.length
        · exact h.n j x hx' (bAt_setT e hb).2
        · refine h.n j x hx' ?_
          change bAt (st.dn.set i true) j = false at hb
          rwa [List.set_eq_of_length_le (by omega)] at hb
      | some z => exact h.put hz (.inl (h.n i z hz hdn))
  · exact h
theorem FrOk.leaveR (h : FrOk A st) (now : Bool) (k : Nat) : FrOk A (leaveR C t now k st) := by
  induction k with
  | zero => exact h
  | succ k ih =>
    show FrOk A ((C[k]?).elim _ _)
    cases C[k]? with
    | none => exact ih
    | some c => exact ih.leave1 c k now
theorem FrOk.given (h : FrOk A st) {i k : Nat} {a : AgV} (ha : A[k]? = some a) (hf : a.fr ≤ t ∧ t < a.til) (hi : i < st.se.length) : FrOk A (givenR A C st t i k) := by
  unfold givenR
  cases C[i]? with
  | none => exact h
  | some c =>
    rw [ha]
    exact h.put (List.getElem?_eq_getElem hi) (.inr ⟨a, mem_of_get ha, hf⟩)
theorem FrOk.giveL (h : FrOk A st) (hl : C.length ≤ st.se.length) (l : List Nat) {st' : RoS} (e : giveL s A C st t l = some st') : FrOk A st' := by
  induction l with
  | nil => cases e
  | cons i l ih =>
    change (C[i]?).elim (Go.Proofs.YtelpakmiciilgaaGreatDoor.giveL s A C st t l) _ = some st' at e
    cases hc : C[i]? with
    | none => rw [hc] at e; exact ih e
    | some c =>
      rw [hc] at e
      change (if chosenR s A st c t < 0 then Go.Proofs.YtelpakmiciilgaaGreatDoor.giveL s A C st t l else some (givenR A C st t i (chosenR s A st c t).toNat)) = some st' at e
      split at e
      · exact ih e
      · rename_i hn
        injection e with e
        rw [← e]
        rcases chooseR_ok (s := s) (A := A) (ds := st.ds) (last := st.last) (c := c) (t := t) A.length with q | ⟨k, a, _, q, ha, _, hf⟩
        · exact absurd (show chosenR s A st c t < 0 by unfold chosenR; omega) hn
        · have e2 : (chosenR s A st c t).toNat = k := by unfold chosenR; omega
          rw [e2]
          exact h.given ha (freeB_til hf) (by have := (List.getElem?_eq_some_iff.1 hc).1; omega)
theorem leave1_len (c : CaV) (i : Nat) (now : Bool) : (leave1 c i t now st).se.length = st.se.length := by
  unfold leave1
  split
  · split
    · rfl
    · show ((st.se[i]?).elim st.se fun s => st.se.set i ⟨s.ca, s.ag, 2, t, t⟩).length = _
      cases st.se[i]? with
      | none => rfl
      | some x => exact List.length_set
  · rfl
theorem leaveR_len (now : Bool) (k : Nat) : (leaveR C t now k st).se.length = st.se.length := by
  induction k with
  | zero => rfl
  | succ k ih =>
    show ((C[k]?).elim _ _ : RoS).se.length = _
    cases C[k]? with
    | none => exact ih
    | some c => exact (leave1_len c k now).trans ih
theorem givenR_len (i k : Nat) : (givenR A C st t i k).se.length = st.se.length := by
  unfold givenR
  cases C[i]? with
  | none => rfl
  | some c =>
    cases A[k]? with
    | none => rfl
    | some a => exact List.length_set
theorem giveL_len (l : List Nat) {st' : RoS} (e : giveL s A C st t l = some st') : st'.se.length = st.se.length := by
  induction l with
  | nil => cases e
  | cons i l ih =>
    change (C[i]?).elim (Go.Proofs.YtelpakmiciilgaaGreatDoor.giveL s A C st t l) _ = some st' at e
    cases hc : C[i]? with
    | none => rw [hc] at e; exact ih e
    | some c =>
      rw [hc] at e
      change (if chosenR s A st c t < 0 then Go.Proofs.YtelpakmiciilgaaGreatDoor.giveL s A C st t l else some (givenR A C st t i (chosenR s A st c t).toNat)) = some st' at e
      split at e
      · exact ih e
      · injection e with e
        rw [← e]; exact givenR_len i _
def FrL (A : List AgV) (C : List CaV) (st : RoS) : Prop := FrOk A st ∧ C.length ≤ st.se.length
theorem FrL.gives : ∀ (f : Nat) (st : RoS), FrL A C st → FrL A C (givesR s A C t f st) := by
  intro f
  induction f with
  | zero => intro st h; exact h
  | succ f ih =>
    intro st h
    cases e : giveR s A C st t with
    | none => rw [givesR_none e]; exact h
    | some st' => rw [givesR_some e]; exact ih st' ⟨h.1.giveL h.2 _ e, by rw [giveL_len _ e]; exact h.2⟩
theorem FrL.leaveR (h : FrL A C st) (now : Bool) (k : Nat) : FrL A C (leaveR C t now k st) := ⟨h.1.leaveR now k, by rw [leaveR_len]; exact h.2⟩
theorem FrL.step (h : FrL A C st) : FrL A C (stepR s A C st t) := (FrL.gives C.length _ (h.leaveR false C.length)).leaveR true C.length
theorem FrL.play : ∀ (f : Nat) (st : RoS) (at_ : Int), FrL A C st → FrL A C (playR s A C f st at_) := by
  intro f
  induction f with
  | zero => intro st _ h; exact h
  | succ f ih =>
    intro st at_ h
    cases hx : (nextsR A C st.ds at_)[0]? with
    | none => rw [playR_none hx]; exact h
    | some x => rw [playR_some hx]; exact ih _ _ h.step
/-- Whoever is answered is answered while the agent is there. -/
theorem playOf_there : ∀ z ∈ (playOf s A C).se, z.ag.toList = [] ∨ ∃ a ∈ A, a.fr ≤ z.beg ∧ z.beg < a.til := by
  have h0 : FrL A C (newR A C) := by
    refine ⟨⟨by simp [newR], fun i z hz => .inl ?_, fun i z hz _ => ?_⟩, by simp [newR]⟩
    all_goals
      obtain ⟨c, _, rfl⟩ := List.mem_map.1 (show z ∈ C.map fun c => (⟨c.id, ⟨#[]⟩, 4, 0, 0⟩ : SeV) from mem_of_get hz)
      show (⟨#[]⟩ : ByteArray).toList = []
      rw [ByteArray.toList_eq]
  intro z hz
  obtain ⟨i, hi⟩ := List.mem_iff_getElem?.1 hz
  exact (FrL.play 345859200002 _ (-1) h0).1.a i z hi
end
end
end Go.Proofs.YtelpakmiciilgaaGreatDoor
/- Hours as they lie in memory, and what is wrong with them, in plain Lean. Conditions: none. -/
namespace Go.Proofs.YtelpakmiciilgaaGreatDoor
section
open Go.RowKit

/-- Hours, as they lie in memory: rows are (days, from, to), holidays are (day, from, to). -/
structure HrV where
  key : ByteArray
  zone : Int
  rA : Option Addr
  rn : Nat
  rc : Nat
  hA : Option Addr
  hn : Nat
  hc : Nat
  rows : List (Int × Int × Int)
  hol : List (Int × Int × Int)
def HrV.row (a : HrV) : List Value := [.string a.key, .int .i64 a.zone, .slice a.rA a.rn a.rc, .slice a.hA a.hn a.hc]
theorem HrV.row_len (a : HrV) : a.row.length = 4 := rfl
def r3Row (p : Int × Int × Int) : List Value := [.int .i64 p.1, .int .i64 p.2.1, .int .i64 p.2.2]
theorem r3Row_len (p : Int × Int × Int) : (r3Row p).length = 3 := rfl
/-- What the slices of hours read as. -/
def HrOk (w : World) (lo : Nat) (a : HrV) : Prop := (a.key.size ≤ 1000 ∧ a.rn ≤ 1000 ∧ a.hn ≤ 1000) ∧ Recs r3Row 3 w lo a.rA a.rn a.rc a.rows ∧ Recs r3Row 3 w lo a.hA a.hn a.hc a.hol
def Hrs (w : World) (lo : Nat) (A : Option Addr) (n c : Nat) (l : List HrV) : Prop := Recs HrV.row 4 w lo A n c l ∧ ∀ a ∈ l, HrOk w lo a
theorem HrOk.grown {w w' : World} {lo : Nat} {a : HrV} (h : HrOk w lo a) {r : Option Nat} (hg : w.grownBy w' r) (hr : ∀ g, r = some g → g < lo) : HrOk w' lo a := ⟨h.1, h.2.1.grown hg hr, h.2.2.grown hg hr⟩
theorem Hrs.grown {w w' : World} {lo : Nat} {A : Option Addr} {n c : Nat} {l : List HrV} (h : Hrs w lo A n c l) {r : Option Nat} (hg : w.grownBy w' r) (hr : ∀ g, r = some g → g < lo) : Hrs w' lo A n c l :=
  ⟨h.1.grown hg hr, fun a ha => (h.2 a ha).grown hg hr⟩

/-! What is wrong with hours. -/
def timB (a b : Int) : Bool := decide (0 ≤ a) && (decide (a < b) && decide (b ≤ 1440))
def rwB (r : Int × Int × Int) : Bool := inB r.1 1 127 && timB r.2.1 r.2.2
def hoB (d : Int × Int × Int) : Bool := inB d.1 0 4000 && ((decide (d.2.1 = 0) && decide (d.2.2 = 0)) || timB d.2.1 d.2.2)
def rwAt (l : List (Int × Int × Int)) (i : Nat) : Int := (l[i]?).elim 0 fun r => if rwB r then 0 else 1
def hoAt (l : List (Int × Int × Int)) (i : Nat) : Int := (l[i]?).elim 0 fun d => if hoB d then (if decide (0 < i) && (l[i - 1]?).elim false (fun p => decide (d.1 ≤ p.1)) then 7 else 0) else 1
def htE (rn : Nat) (rows : List (Int × Int × Int)) (hn : Nat) (hol : List (Int × Int × Int)) : Int :=
  if 50 < rn then 2 else (if fstE (rwAt rows) rn = 0 then (if 200 < hn then 2 else fstE (hoAt hol) hn) else fstE (rwAt rows) rn)
def hrE (a : HrV) : Int := htE a.rn a.rows a.hn a.hol
def hrAt (l : List HrV) (i : Nat) : Int := (l[i]?).elim 0 fun a =>
  if keyOk (nb a.key) then (if decide (0 < i) && (l[i - 1]?).elim false (fun b => leS a.key b.key) then 7 else (if inB a.zone (-1440) 1440 then hrE a else 1)) else 5
def hrsE (l : List HrV) : Int := if 50 < l.length then 2 else fstE (hrAt l) l.length

section
variable {l : List (Int × Int × Int)} {i : Nat} {z b : Int × Int × Int}
theorem rwAt_1 (h : l[i]? = some z) (h1 : rwB z = false) : rwAt l i = 1 := by simp [rwAt, h, h1]
theorem rwAt_0 (h : l[i]? = some z) (h1 : rwB z = true) : rwAt l i = 0 := by simp [rwAt, h, h1]
theorem hoAt_1 (h : l[i]? = some z) (h1 : hoB z = false) : hoAt l i = 1 := by simp [hoAt, h, h1]
theorem hoAt_7 (h : l[i]? = some z) (h1 : hoB z = true) (hi : 0 < i) (hb : l[i - 1]? = some b) (h3 : z.1 ≤ b.1) : hoAt l i = 7 := by simp [hoAt, h, h1, hi, hb, h3]
theorem hoAt_e (h : l[i]? = some z) (h1 : hoB z = true) (hb : l[i - 1]? = some b) (h3 : ¬ z.1 ≤ b.1) : hoAt l i = 0 := by simp only [hoAt, h, Option.elim, h1, hb, decide_eq_false h3, Bool.and_false]; rfl
theorem hoAt_z (h : l[i]? = some z) (h1 : hoB z = true) (hi : ¬ 0 < i) : hoAt l i = 0 := by simp only [hoAt, h, Option.elim, h1, decide_eq_false hi, Bool.false_and]; rfl
end
section
variable {l : List HrV} {i : Nat} {z b : HrV}
theorem hrAt_5 (h : l[i]? = some z) (h1 : keyOk (nb z.key) = false) : hrAt l i = 5 := by simp only [hrAt, h, Option.elim, h1]; rfl
theorem hrAt_7 (h : l[i]? = some z) (h1 : keyOk (nb z.key) = true) (hi : 0 < i) (hb : l[i - 1]? = some b) (h3 : leS z.key b.key = true) : hrAt l i = 7 := by simp only [hrAt, h, Option.elim, h1, hb, h3, decide_eq_true hi]; rfl
theorem hrAt_e (h : l[i]? = some z) (h1 : keyOk (nb z.key) = true) (hb : l[i - 1]? = some b) (h3 : leS z.key b.key = false) : hrAt l i = if inB z.zone (-1440) 1440 then hrE z else 1 := by simp only [hrAt, h, Option.elim, h1, hb, h3, Bool.and_false]; rfl
theorem hrAt_z (h : l[i]? = some z) (h1 : keyOk (nb z.key) = true) (hi : ¬ 0 < i) : hrAt l i = if inB z.zone (-1440) 1440 then hrE z else 1 := by simp only [hrAt, h, Option.elim, h1, decide_eq_false hi, Bool.false_and]; rfl
end
/-- The key ahead of a place; none: the empty string. -/
def lastH (l : List HrV) (k : Nat) : ByteArray := if k = 0 then ⟨#[]⟩ else (l[k - 1]?).elim ⟨#[]⟩ (·.key)
theorem lastH_succ {l : List HrV} {k : Nat} {z : HrV} (h : l[k]? = some z) : lastH l (k + 1) = z.key := by unfold lastH; rw [if_neg (by omega), Nat.add_sub_cancel, h]; rfl
theorem keyOk_full {s : ByteArray} (h : keyOk (nb s) = true) : s.toList ≠ [] := by
  intro e
  have : nb s = [] := by unfold nb; rw [← ByteArray.toList_eq, e]; rfl
  rw [this] at h
  exact absurd h (by decide)
theorem hrAt_last {l : List HrV} {k : Nat} {z : HrV} (h : l[k]? = some z) (h1 : keyOk (nb z.key) = true) : hrAt l k = if leS z.key (lastH l k) then 7 else (if inB z.zone (-1440) 1440 then hrE z else 1) := by
  by_cases hk : 0 < k
  · have hl := (List.getElem?_eq_some_iff.1 h).1
    obtain ⟨b, hb⟩ : ∃ b, l[k - 1]? = some b := ⟨_, List.getElem?_eq_getElem (by omega)⟩
    have e : lastH l k = b.key := by unfold lastH; rw [if_neg (by omega), hb]; rfl
    rw [e]
    cases h3 : leS z.key b.key
    · rw [hrAt_e h h1 hb h3]; rfl
    · rw [hrAt_7 h h1 hk hb h3]; rfl
  · have e : lastH l k = ⟨#[]⟩ := by unfold lastH; rw [if_pos (by omega)]
    have h3 : leS z.key ⟨#[]⟩ = false := by
      unfold leS
      have h4 : (⟨#[]⟩ : ByteArray).toList = [] := by rw [ByteArray.toList_eq]
      rw [h4, Bool.or_eq_false_iff]
      refine ⟨?_, by rw [beq_eq_false_iff_ne]; exact keyOk_full h1⟩
      unfold Op.bytesLess
      cases z.key.toList <;> rfl
    rw [e, h3, hrAt_z h h1 hk]; rfl

/-! Hours that are right. -/
theorem fstE_alh {f : Nat → Int} {n i : Nat} (h : fstE f n = 0) (hi : i < n) : f i = 0 := by
  rcases Int.lt_trichotomy (f i) 0 with h1 | h1 | h1
  · by_cases h2 : fstE f i = 0
    · rw [fstE_stop h2 (by omega) hi] at h; omega
    · exfalso
      clear h1
      induction n with
      | zero => omega
      | succ n ih =>
        unfold fstE at h
        by_cases h3 : fstE f n = 0
        · by_cases e : i = n
          · subst e; exact h2 h3
          · exact ih h3 (by omega)
        · rw [if_neg h3] at h; exact h3 h
  · exact h1
  · by_cases h2 : fstE f i = 0
    · rw [fstE_stop h2 (by omega) hi] at h; omega
    · exfalso
      clear h1
      induction n with
      | zero => omega
      | succ n ih =>
        unfold fstE at h
        by_cases h3 : fstE f n = 0
        · by_cases e : i = n
          · subst e; exact h2 h3
          · exact ih h3 (by omega)
        · rw [if_neg h3] at h; exact h3 h
def RightH (zone : Int) (rows hol : List (Int × Int × Int)) : Prop := (-1440 ≤ zone ∧ zone ≤ 1440) ∧ (rows.length ≤ 50 ∧ hol.length ≤ 200) ∧ (∀ r ∈ rows, (1 ≤ r.1 ∧ r.1 ≤ 127) ∧ 0 ≤ r.2.1 ∧ r.2.1 ≤ 1440 ∧ 0 ≤ r.2.2 ∧ r.2.2 ≤ 1440) ∧ ∀ r ∈ hol, 0 ≤ r.2.1 ∧ r.2.1 ≤ 1440 ∧ 0 ≤ r.2.2 ∧ r.2.2 ≤ 1440
theorem right_of {a : HrV} (hr : a.rows.length = a.rn) (hh : a.hol.length = a.hn) (h : hrsE [a] = 0) : RightH a.zone a.rows a.hol := by
  have h1 : hrAt [a] 0 = 0 := fstE_alh (n := 1) (show fstE (hrAt [a]) 1 = 0 from h) (by omega)
  have h2 : hrAt [a] 0 = if keyOk (nb a.key) then (if inB a.zone (-1440) 1440 then hrE a else 1) else 5 := rfl
  rw [h2] at h1
  by_cases c1 : keyOk (nb a.key) = true
  · rw [if_pos c1] at h1
    by_cases c2 : inB a.zone (-1440) 1440 = true
    · rw [if_pos c2] at h1
      have c2' : -1440 ≤ a.zone ∧ a.zone ≤ 1440 := by unfold inB at c2; simpa using c2
      unfold hrE htE at h1
      by_cases c3 : 50 < a.rn
      · rw [if_pos c3] at h1; omega
      · rw [if_neg c3] at h1
        by_cases c4 : fstE (rwAt a.rows) a.rn = 0
        · rw [if_pos c4] at h1
          by_cases c5 : 200 < a.hn
          · rw [if_pos c5] at h1; omega
          · rw [if_neg c5] at h1
            refine ⟨c2', ⟨by omega, by omega⟩, fun r hrm => ?_, fun r hrm => ?_⟩
            · obtain ⟨i, hi⟩ := List.mem_iff_getElem?.1 hrm
              have hl := (List.getElem?_eq_some_iff.1 hi).1
              have := fstE_alh c4 (show i < a.rn by omega)
              cases c6 : rwB r
              · rw [rwAt_1 hi c6] at this; omega
              · unfold rwB inB timB at c6
                simp only [Bool.and_eq_true, decide_eq_true_eq] at c6
                omega
            · obtain ⟨i, hi⟩ := List.mem_iff_getElem?.1 hrm
              have hl := (List.getElem?_eq_some_iff.1 hi).1
              have := fstE_alh h1 (show i < a.hn by omega)
              cases c6 : hoB r
              · rw [hoAt_1 hi c6] at this; omega
              · unfold hoB inB timB at c6
                simp only [Bool.and_eq_true, Bool.or_eq_true, decide_eq_true_eq] at c6
                omega
        · rw [if_neg c4] at h1; exact absurd h1 c4
    · rw [if_neg c2] at h1; omega
  · rw [if_neg c1] at h1; omega
end
end Go.Proofs.YtelpakmiciilgaaGreatDoor

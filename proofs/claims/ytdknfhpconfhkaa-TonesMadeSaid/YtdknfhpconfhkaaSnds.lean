/- Slices of sounds that a call makes; Mix, Louder and Silent, whatever is wrong. Conditions: none. -/
import Derived.Test.YtdknfhpconfhkaaMix3
import Derived.Test.YtdknfhpconfhkaaSilent
namespace Go.Proofs.Ytdknfhpconfhkaa
open Go.RowKit

theorem Try.rowsT : ElemT Try.prog 62 22 1 24 (.slice none 0 0) := elemT_of Try.underlying62 (by kernel_rfl) rfl (by decide)

theorem firstNZ_congr {f g : Nat → Int} {n : Nat} (h : ∀ i, i < n → f i = g i) : firstNZ f n = firstNZ g n := by
  induction n with
  | zero => rfl
  | succ n ih => rw [firstNZ, firstNZ, ih (fun i hi => h i (by omega)), h n (by omega)]
theorem firstErr_snoc (l : List Int) (b : Int) : firstErr (l ++ [b]) = if firstErr l = 0 then b else firstErr l := by
  have e : firstNZ (fun i => (l ++ [b]).getD i 0) l.length = firstErr l := firstNZ_congr fun i hi => by
    simp only [List.getD_eq_getElem?_getD]
    rw [List.getElem?_append_left hi]
  unfold firstErr
  rw [List.length_append, List.length_singleton, firstNZ, e]
  unfold firstErr
  split
  · simp
  · rfl
def sErr (ss : List SndV) : Int := firstErr (ss.map fun s => smpFault s.l)
theorem mixFault_eq {ss : List SndV} (h : ss.length ≤ 20) : mixFault ss = sErr ss := by
  unfold mixFault sErr firstErr
  rw [if_neg (by omega), List.length_map]
  refine firstNZ_congr fun i hi => ?_
  rw [sFault_at (List.getElem?_eq_getElem hi)]
  simp [List.getElem?_eq_getElem hi]
theorem sErr_snoc (ss : List SndV) (s : SndV) : sErr (ss ++ [s]) = if sErr ss = 0 then smpFault s.l else sErr ss := by
  unfold sErr; rw [List.map_append]; exact firstErr_snoc _ _

def SndsG (w : World) (lo : Nat) (A : Option Addr) (n c : Nat) (ss : List SndV) : Prop := Own w lo 22 1 A n c (ss.map SndV.val) ∧ ∀ s ∈ ss, OwnI w lo s.A s.n s.c s.l ∧ s.n ≤ 100
section
variable {w w' : World} {lo n c : Nat} {A : Option Addr} {ss : List SndV}
theorem SndsG.nil (w : World) (lo : Nat) : SndsG w lo none 0 0 [] := ⟨Own.nil _ _ _ _, fun s hs => by cases hs⟩
theorem SndsG.kept (h : SndsG w lo A n c ss) {row : Option Nat} (hg : w.grownBy w' row) (hr : ∀ g, row = some g → g < lo) : SndsG w' lo A n c ss :=
  ⟨h.1.kept hg (fun g e e' => by have := hr g e; have := (h.1.lt e').1; omega), fun s hs => ⟨Own.kept (h.2 s hs).1 hg (fun g e e' => by have := hr g e; have := (Own.lt (h.2 s hs).1 e').1; omega), (h.2 s hs).2⟩⟩
theorem SndsG.alloc (h : SndsG w lo A n c ss) (o : Obj) : SndsG (w.alloc o) lo A n c ss := h.kept (row := none) (gr_alloc (gr_refl _ _) o) (fun g e => by cases e)
theorem SndsG.append {s : SndV} (h : SndsG w lo A n c ss) (hs : OwnI w lo s.A s.n s.c s.l) (hn : s.n ≤ 100) {A1 : Option Addr} {c1 : Nat} (h1 : Appended w lo 22 1 A A1 (n + 1) c1 (ss.map SndV.val ++ [.slice s.A s.n s.c]) w') : SndsG w' lo A1 (n + 1) c1 (ss ++ [s]) := by
  refine ⟨by rw [List.map_append]; exact h1.1, fun x hx => ?_⟩
  rcases List.mem_append.1 hx with hx | hx
  · exact ⟨Own.kept (h.2 x hx).1 h1.2.1 (fun g e => Own.ne h.1 (h.2 x hx).1 (by decide) e), (h.2 x hx).2⟩
  · rw [List.mem_singleton.1 hx]; exact ⟨Own.kept hs h1.2.1 (fun g e => Own.ne h.1 hs (by decide) e), hn⟩
theorem SndsG.snds (h : SndsG w lo A n c ss) : Snds w 0 A n c ss := ⟨h.1.reads.lower (Nat.zero_le _), fun s hs => Ints.lower (Own.reads (h.2 s hs).1) (Nat.zero_le _)⟩
theorem SndsG.made (w : World) (n : Nat) (h : n ≤ maxLen) : SndsG (w.alloc (.cells (Array.replicate n (.slice none 0 0)) 22)) w.heap.size (some ⟨w.heap.size, 0, none⟩) n n (List.replicate n ⟨none, 0, 0, []⟩) := by
  refine ⟨by rw [List.map_replicate]; exact Own.made w 22 (.slice none 0 0) n h, fun s hs => ?_⟩
  rw [List.eq_of_mem_replicate hs]
  exact ⟨Own.nil _ _ _ _, by dsimp only; omega⟩
theorem SndsG.lower {lo' : Nat} (h : SndsG w lo A n c ss) (hl : lo' ≤ lo) : SndsG w lo' A n c ss := ⟨h.1.lower hl, fun s hs => ⟨Own.lower (h.2 s hs).1 hl, (h.2 s hs).2⟩⟩
end

theorem mix_any (A : Option Addr) (n c : Nat) (ss : List SndV) (w : World) (h : Snds w 0 A n c ss) (hn : n ≤ 1000000) (hsn : ∀ s ∈ ss, s.n ≤ 1000000) :
    Calls Try.prog 40 #[.slice A n c] w (RetP (IsOutErr .i64 w.heap.size (if mixFault ss = 0 then mixOf ss else []) (mixFault ss)) w) := by
  by_cases hf : mixFault ss = 0
  · rw [if_pos hf, hf]; exact mix_good 0 A n c ss w h hf
  · rw [if_neg hf]; exact mix_bad 0 A n c ss w h hn hsn hf
theorem louder_any (A : Option Addr) (n c : Nat) (l : List Int) (b : Int) (w : World) (h : Ints .i64 w 0 A n c l) (hn : n ≤ 1000000000000) :
    Calls Try.prog 41 #[.slice A n c, .int .i64 b] w (RetP (IsOutErr .i64 w.heap.size (if loudFault l b = 0 then l.map (loud b) else []) (loudFault l b)) w) := by
  by_cases hf : loudFault l b = 0
  · rw [if_pos hf, hf]
    unfold loudFault at hf
    split at hf
    · split at hf
      · rename_i h1 h2; exact louder_ok 0 A n c l b w h hn h1 h2
      · omega
    · rename_i h1; exact absurd hf h1
  · rw [if_neg hf]; exact louder_no 0 A n c l b w h hn hf
theorem silent_any (A : Option Addr) (n c : Nat) (l : List Int) (low long : Int) (w : World) (h : Ints .i64 w 0 A n c l) (hn : n ≤ 1000000000000) :
    Calls Try.prog 42 #[.slice A n c, .int .i64 low, .int .i64 long] w (RetP (IsWinsErr w.heap.size (if silFault l low long = 0 then silent l low long else []) (silFault l low long)) w) := by
  by_cases hf : silFault l low long = 0
  · rw [if_pos hf, hf]
    unfold silFault at hf
    split at hf
    · split at hf
      · rename_i h1 h2
        rw [Bool.and_eq_true] at h2
        exact silent_ok 0 A n c l low long w h hn h1 h2.1 h2.2
      · omega
    · rename_i h1; exact absurd hf h1
  · rw [if_neg hf]; exact silent_no 0 A n c l low long w h hn hf
theorem louderOf_any (A : Option Addr) (n c : Nat) (l : List Int) (b : Int) (w : World) (h : Ints .i64 w 0 A n c l) (hf : loudFault l b = 0) :
    Calls Try.prog 44 #[.slice A n c, .int .i64 b] w (RetP (IsOut .i64 w.heap.size (l.map (loud b))) w) := by
  unfold loudFault at hf
  split at hf
  · split at hf
    · rename_i h1 h2; exact louderOf_ok 0 A n c l b w h h1 h2
    · omega
  · rename_i h1; exact absurd hf h1
theorem silentOf_any (A : Option Addr) (n c : Nat) (l : List Int) (low long : Int) (w : World) (h : Ints .i64 w 0 A n c l) (hf : silFault l low long = 0) :
    Calls Try.prog 45 #[.slice A n c, .int .i64 low, .int .i64 long] w (RetP (IsWins w.heap.size (silent l low long)) w) := by
  unfold silFault at hf
  split at hf
  · split at hf
    · rename_i h1 h2
      rw [Bool.and_eq_true] at h2
      exact silentOf_ok 0 A n c l low long w h h1 h2.1 h2.2
    · omega
  · rename_i h1; exact absurd hf h1
end Go.Proofs.Ytdknfhpconfhkaa

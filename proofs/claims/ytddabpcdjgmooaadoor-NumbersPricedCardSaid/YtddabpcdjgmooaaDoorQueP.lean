/- Queues: agents, callers and styles as they lie in memory, and what is wrong with them, in plain Lean. Conditions: none. -/
import Derived.Test.YtddabpcdjgmooaaDoorKeyOk
import Derived.Test.YtddabpcdjgmooaaDoorRec
import Derived.Laws.Cover1
namespace Go.Proofs.YtddabpcdjgmooaaDoor
open Go.RowKit

/-- Go's <= on strings. -/
def leS (a b : ByteArray) : Bool := Op.bytesLess a.toList b.toList || a.toList == b.toList
/-- The first of f 0, f 1, .. f (n - 1) that is not 0; 0: there is none. -/
def fstE (f : Nat → Int) : Nat → Int
  | 0 => 0
  | n + 1 => if fstE f n = 0 then f n else fstE f n
theorem fstE_zero {f : Nat → Int} {i : Nat} (h : fstE f i = 0) (h1 : f i = 0) : fstE f (i + 1) = 0 := by simp [fstE, h, h1]
theorem fstE_stop {f : Nat → Int} {i n : Nat} (h : fstE f i = 0) (h1 : f i ≠ 0) (hn : i < n) : fstE f n = f i := by
  induction n with
  | zero => omega
  | succ n ih =>
    by_cases e : i = n
    · subst e; simp [fstE, h]
    · have := ih (by omega)
      simp [fstE, this, h1]

theorem fst_ret {f : Nat → Int} {i n : Nat} {X v : Int} (h : fstE f i = 0) (e : f i = v) (hv : v ≠ 0) (hn : i < n) : (if fstE f n = 0 then X else fstE f n) = v := by
  rw [fstE_stop h (by rw [e]; exact hv) hn, e, if_neg hv]
/-- An agent, as it lies in memory. -/
structure AgV where
  key : ByteArray
  sA : Option Addr
  sn : Nat
  sc : Nat
  fr : Int
  til : Int
  pA : Option Addr
  pn : Nat
  pc : Nat
  wrap : Int
  sk : List (ByteArray × Int)
  ps : List (Int × Int)
def AgV.row (a : AgV) : List Value := [.string a.key, .slice a.sA a.sn a.sc, .int .i64 a.fr, .int .i64 a.til, .slice a.pA a.pn a.pc, .int .i64 a.wrap]
theorem AgV.row_len (a : AgV) : a.row.length = 6 := rfl
def skRow (s : ByteArray × Int) : List Value := [.string s.1, .int .i64 s.2]
theorem skRow_len (s : ByteArray × Int) : (skRow s).length = 2 := rfl
def pwRow (p : Int × Int) : List Value := [.int .i64 p.1, .int .i64 p.2]
theorem pwRow_len (p : Int × Int) : (pwRow p).length = 2 := rfl
/-- What an agent's slices read as. -/
def AgOk (w : World) (lo : Nat) (a : AgV) : Prop := (a.key.size ≤ 1000 ∧ (∀ s ∈ a.sk, s.1.size ≤ 1000) ∧ a.sn ≤ 1000 ∧ a.pn ≤ 1000) ∧ Recs skRow 2 w lo a.sA a.sn a.sc a.sk ∧ Recs pwRow 2 w lo a.pA a.pn a.pc a.ps
def Ags (w : World) (lo : Nat) (A : Option Addr) (n c : Nat) (l : List AgV) : Prop := Recs AgV.row 6 w lo A n c l ∧ ∀ a ∈ l, AgOk w lo a
theorem AgOk.grown {w w' : World} {lo : Nat} {a : AgV} (h : AgOk w lo a) {r : Option Nat} (hg : w.grownBy w' r) (hr : ∀ g, r = some g → g < lo) : AgOk w' lo a := ⟨h.1, h.2.1.grown hg hr, h.2.2.grown hg hr⟩
theorem Ags.grown {w w' : World} {lo : Nat} {A : Option Addr} {n c : Nat} {l : List AgV} (h : Ags w lo A n c l) {r : Option Nat} (hg : w.grownBy w' r) (hr : ∀ g, r = some g → g < lo) : Ags w' lo A n c l :=
  ⟨h.1.grown hg hr, fun a ha => (h.2 a ha).grown hg hr⟩

/-! What is wrong with an agent. -/
def skAt (l : List (ByteArray × Int)) (i : Nat) : Int := (l[i]?).elim 0 fun s =>
  if keyOk (nb s.1) then (if inB s.2 1 9 then (if decide (0 < i) && (l[i - 1]?).elim false (fun p => leS s.1 p.1) then 7 else 0) else 1) else 5
def pwAt (l : List (Int × Int)) (i : Nat) : Int := (l[i]?).elim 0 fun p =>
  if p.1 < 0 ∨ p.2 ≤ p.1 ∨ 345686400000 < p.2 then 1 else (if decide (0 < i) && (l[i - 1]?).elim false (fun q => decide (p.1 < q.2)) then 7 else 0)
def tmE (fr til : Int) (pn : Nat) (ps : List (Int × Int)) (wrap : Int) : Int :=
  if fr < 0 ∨ til < fr ∨ 345686400000 < til then 1 else (if 50 < pn then 2 else (if fstE (pwAt ps) pn = 0 then (if inB wrap 0 86400000 then 0 else 1) else fstE (pwAt ps) pn))
def timE (a : AgV) : Int := tmE a.fr a.til a.pn a.ps a.wrap
def agE (a : AgV) : Int := if 10 < a.sn then 2 else (if fstE (skAt a.sk) a.sn = 0 then timE a else fstE (skAt a.sk) a.sn)
def agAt (l : List AgV) (i : Nat) : Int := (l[i]?).elim 0 fun a =>
  if keyOk (nb a.key) then (if decide (0 < i) && (l[i - 1]?).elim false (fun b => leS a.key b.key) then 7 else agE a) else 5
def agsE (l : List AgV) : Int := if 100 < l.length then 2 else fstE (agAt l) l.length

/-! Styles and moments. -/
def momB (n : Int) : Bool := inB n 0 345686399999
def styleE (a b c : Int) : Int := if inB a 1 4 then (if inB b 0 86400000 && inB c 0 86400000 then 0 else 1) else 4
set_option maxHeartbeats 1000000 in
theorem isMomB_any (n : Int) (w : World) : Calls Tryd.prog 63 #[.int .i64 n] w (Same (.bool (momB n)) w) := by
  have H := Lib.hid (show momB n = (decide (0 ≤ n) && decide (n ≤ 345686399999)) from rfl)
  by_cases h1 : 0 ≤ n <;> by_cases h2 : n < 345686400000
  all_goals
    go_enter Tryd.func63, Tryd.ntmps63
    go_wp2
    go_ret
    exact ⟨by rw [H.out]; simp [h1]; omega, rfl⟩
set_option maxHeartbeats 1000000 in
theorem momentB_any (n : Int) (w : World) : Calls Tryd.prog 67 #[.int .i64 n] w (Same (.bool (momB n)) w) := by
  go_enter Tryd.func67, Tryd.ntmps67
  go_wp2_with (first
    | (go_at_call 61; refine (in_any _ _ _ _).mono ?_; rintro e w' ⟨rfl, rfl⟩)
    | fail)
  go_ret
  exact ⟨rfl, rfl⟩
set_option maxHeartbeats 1000000 in
theorem within_any (n lo hi : Int) (w : World) : Calls Tryd.prog 64 #[.int .i64 n, .int .i64 lo, .int .i64 hi] w (Same (.bool (inB n lo hi)) w) := by
  have H := Lib.hid (show inB n lo hi = (decide (lo ≤ n) && decide (n ≤ hi)) from rfl)
  by_cases h1 : lo ≤ n <;> by_cases h2 : n ≤ hi
  all_goals
    go_enter Tryd.func64, Tryd.ntmps64
    go_wp2
    go_ret
    exact ⟨by rw [H.out]; simp [h1, h2], rfl⟩
set_option maxHeartbeats 2000000 in
theorem checkStyle_any (a b c : Int) (w : World) : Calls Tryd.prog 14 #[.agg #[.int .i64 a, .int .i64 b, .int .i64 c]] w (RetV (.int .i64 (styleE a b c)) w) := by
  obtain ⟨B1, h1⟩ : ∃ B, inB a 1 4 = B := ⟨_, rfl⟩
  obtain ⟨B2, h2⟩ : ∃ B, inB b 0 86400000 = B := ⟨_, rfl⟩
  obtain ⟨B3, h3⟩ : ∃ B, inB c 0 86400000 = B := ⟨_, rfl⟩
  have HV := Lib.hid (show styleE a b c = if B1 then (if B2 && B3 then 0 else 1) else 4 by unfold styleE; rw [h1, h2, h3])
  have H1 := Lib.hid h1; have H2 := Lib.hid h2; have H3 := Lib.hid h3
  clear h1 h2 h3
  cases B1 <;> cases B2 <;> cases B3
  all_goals
    go_enter Tryd.func14, Tryd.ntmps14
    go_wp2_with (first
      | (go_at_call 64; refine (within_any _ _ _ _).mono ?_; rintro e w' ⟨rfl, rfl⟩; first | rw [H1.out] | rw [H2.out] | rw [H3.out] | fail)
      | fail)
    go_ret
    exact ⟨by rw [HV.out]; rfl, gr_alloc (gr_refl _ _) _⟩
set_option maxHeartbeats 2000000 in
theorem styleFault_any (a b c : Int) (w : World) : Calls Tryd.prog 15 #[.agg #[.int .i64 a, .int .i64 b, .int .i64 c]] w (RetV (.int .i64 (styleE a b c)) w) := by
  obtain ⟨B1, h1⟩ : ∃ B, inB a 1 4 = B := ⟨_, rfl⟩
  obtain ⟨B2, h2⟩ : ∃ B, inB b 0 86400000 = B := ⟨_, rfl⟩
  obtain ⟨B3, h3⟩ : ∃ B, inB c 0 86400000 = B := ⟨_, rfl⟩
  have HV := Lib.hid (show styleE a b c = if B1 then (if B2 && B3 then 0 else 1) else 4 by unfold styleE; rw [h1, h2, h3])
  have H1 := Lib.hid h1; have H2 := Lib.hid h2; have H3 := Lib.hid h3
  clear h1 h2 h3
  cases B1 <;> cases B2 <;> cases B3
  all_goals
    go_enter Tryd.func15, Tryd.ntmps15
    go_wp2_with (first
      | (go_at_call 61; refine (in_any _ _ _ _).mono ?_; rintro e w' ⟨rfl, rfl⟩; first | rw [H1.out] | rw [H2.out] | rw [H3.out] | fail)
      | fail)
    go_ret
    exact ⟨by rw [HV.out]; rfl, gr_alloc (gr_refl _ _) _⟩
end Go.Proofs.YtddabpcdjgmooaaDoor

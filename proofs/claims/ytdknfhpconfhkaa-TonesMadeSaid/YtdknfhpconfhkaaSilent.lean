/- Contracts of Silent, the program's and the document's, and slices.Equal over windows. Conditions: none. -/
import Derived.Test.YtdknfhpconfhkaaMix
namespace Go.Proofs.Ytdknfhpconfhkaa
open Go.RowKit

def winRow (p : Int × Int) : List Value := [.int .i64 p.1, .int .i64 p.2]
theorem winRow_len (p : Int × Int) : (winRow p).length = 2 := rfl
/-- A slice of windows: what it reads as. -/
abbrev Wins (w : World) (lo : Nat) (A : Option Addr) (n c : Nat) (l : List (Int × Int)) : Prop := Recs winRow 2 w lo A n c l
theorem Try.winsT : ElemT Try.prog 65 73 2 16 (.agg #[.int .i64 0, .int .i64 0]) := elemT_of Try.underlying65 (by kernel_rfl) rfl (by decide)
theorem Try.winT : StructT Try.prog 73 2 := ⟨_, Try.underlying73, rfl, by kernel_rfl⟩

def hush (l : List Int) (low : Int) (i : Nat) : Bool := match l[i]? with | some z => inB z (-low) low | none => false
def silTo (l : List Int) (low long : Int) : Nat → List (Int × Int) × Int
  | 0 => ([], 0)
  | i + 1 => if hush l low i then silTo l low long i else ((if long ≤ (i : Int) - (silTo l low long i).2 then (silTo l low long i).1 ++ [((silTo l low long i).2, (i : Int))] else (silTo l low long i).1), (i : Int) + 1)
def silent (l : List Int) (low long : Int) : List (Int × Int) := (silTo l low long (l.length + 1)).1
def silFault (l : List Int) (low long : Int) : Int := if smpFault l = 0 then (if inB low 0 32767 && inB long 1 20000 then 0 else 1) else smpFault l
theorem silTo_bd (l : List Int) (low long : Int) (i : Nat) : 0 ≤ (silTo l low long i).2 ∧ (silTo l low long i).2 ≤ i ∧ (silTo l low long i).1.length ≤ i := by
  induction i with
  | zero => simp [silTo]
  | succ i ih =>
    simp only [silTo]
    split
    · omega
    · split <;> simp <;> omega
theorem sil_skip {l : List Int} {low long : Int} {i : Nat} (h : hush l low i = true) : silTo l low long (i + 1) = silTo l low long i := by rw [silTo, if_pos h]
theorem sil_add {l : List Int} {low long : Int} {i : Nat} {ws : List (Int × Int)} {fr : Int} (h : hush l low i = false) (hs : silTo l low long i = (ws, fr)) (hl : long ≤ (i : Int) - fr) : silTo l low long (i + 1) = (ws ++ [(fr, (i : Int))], (i : Int) + 1) := by
  rw [silTo, if_neg (by rw [h]; decide), hs, if_pos hl]
theorem sil_no {l : List Int} {low long : Int} {i : Nat} {ws : List (Int × Int)} {fr : Int} (h : hush l low i = false) (hs : silTo l low long i = (ws, fr)) (hl : ¬ long ≤ (i : Int) - fr) : silTo l low long (i + 1) = (ws, (i : Int) + 1) := by
  rw [silTo, if_neg (by rw [h]; decide), hs, if_neg hl]
def IsWins (lo : Nat) (ws : List (Int × Int)) (v : Value) (w : World) : Prop := ∃ (A : Option Addr) (n c : Nat), v = .slice A n c ∧ Wins w lo A n c ws
def IsWinsErr (lo : Nat) (ws : List (Int × Int)) (f : Int) (v : Value) (w : World) : Prop := ∃ (A : Option Addr) (n c : Nat), v = .tuple #[.slice A n c, .int .i64 f] ∧ Wins w lo A n c ws
def SilRel (w : World) (i : Nat) (A' : Option Addr) (m c' : Nat) (ws : List (Int × Int)) (wr : World) : Prop := w.grownBy wr none ∧ Own wr w.heap.size 73 2 A' m c' (ws.flatMap winRow) ∧ ws.length = m ∧ m ≤ i

set_option maxRecDepth 100000 in
set_option maxHeartbeats 4000000 in
theorem silent_ok (lo : Nat) (A : Option Addr) (n c : Nat) (l : List Int) (low long : Int) (w : World) (h : Ints .i64 w lo A n c l) (hn : n ≤ 1000000000000) (hf : smpFault l = 0) (hb : inB low 0 32767 = true) (hb2 : inB long 1 20000 = true) :
    Calls Try.prog 42 #[.slice A n c, .int .i64 low, .int .i64 long] w (RetP (IsWinsErr w.heap.size (silent l low long) 0) w) := by
  have H := Lib.hid h; clear h
  have hfb : (smpFault l != 0) = false := by simpa using hf
  have HOK := Lib.hid (smp_ok hf)
  have hn2 : n ≤ 20000 := by have := HOK.out.1; have := H.out.len; omega
  have HF := Lib.hid hf; clear hf
  have hb0 : 0 ≤ low ∧ low ≤ 32767 := by simpa [inB] using hb
  obtain ⟨b0, b1⟩ := hb0
  have hb3 : 1 ≤ long ∧ long ≤ 20000 := by simpa [inB] using hb2
  obtain ⟨b2, b3⟩ := hb3
  go_enter Try.func42, Try.ntmps42
  go_wp2_with (first
    | (go_at_call 29; refine (checkSamples_any lo _ _ _ l _ H.out hn).mono ?_; rintro e w' ⟨rfl, rfl⟩)
    | (go_at_call 67; refine (within_any _ _ _ _).mono ?_; rintro e w' ⟨rfl, rfl⟩)
    | fail)
  go_loopw [9, 10, 11, 28] (fun v f _ t wr => ∃ (i : Nat) (A' : Option Addr) (m c' : Nat) (ws : List (Int × Int)) (fr : Int), i ≤ n + 1 ∧ t = .int .i64 i ∧ v = .slice A' m c' ∧ f = .int .i64 fr ∧ (silTo l low long i = (ws, fr) ∧ SilRel w i A' m c' ws wr)) (fun _ _ _ t _ => n + 1 - (intOf t).toNat)
  case atStart => exact ⟨0, none, 0, 0, [], 0, by omega, rfl, rfl, rfl, rfl, gr_refl _ _, Own.nil _ _ _ _, rfl, by omega⟩
  case round =>
    obtain ⟨i, A', m, c', ws, fr, hi, rfl, rfl, rfl, hst, hg, ho, hwl, hmi⟩ := hrel
    have hbd := silTo_bd l low long i
    rw [hst] at hbd
    obtain ⟨fr0, fr1, _⟩ := hbd
    dsimp only at fr0 fr1
    have zr := hg.size
    have HST := Lib.hid hst; have HG := Lib.hid hg; have HO := Lib.hid ho; have HWL := Lib.hid hwl
    clear hst hg ho hwl
    by_cases hlt : i < n
    · obtain ⟨g, o, z, rfl, _, _, hz, hc⟩ := (H.out.grown HG.out (fun g e => by cases e)).get hlt
      have hx : (i : Int) < (n : Int) + 1 := by omega
      have hx2 : decide (i < n) = true := decide_eq_true hlt
      cases hin : inB z (-low) low
      · have HH := Lib.hid (show hush l low i = false by unfold hush; rw [hz]; exact hin)
        clear hz
        by_cases hlong : long ≤ (i : Int) - fr
        · go_wp2_with (first
            | (go_at_call 67; refine (within_any _ _ _ _).mono ?_; rintro e w' ⟨rfl, rfl⟩)
            | (at_builtin
               refine wpl_app _ rfl _ _ Try.winsT rfl w.heap.size A' m c' _ rfl (by exact HO.out.alloc _) _ _ 1 1 [.int .i64 fr, .int .i64 (i : Int)] rfl (by exact Reads.one _ _ _ _ rfl) (by simp [Value.oneCell']) (by unfold maxLen; omega) (by omega) (by simp; omega) ?_
               intro A10 c10 w10 h10
               have H10 := Lib.hid h10; clear h10)
            | fail)
          go_roundw
          case rel =>
            refine ⟨i + 1, A10, m + 1, c10, ws ++ [(fr, (i : Int))], (i : Int) + 1, by omega, by go_num, rfl, rfl, sil_add HH.out HST.out (by omega), H10.out.gr (gr_alloc HG.out _) (HO.out.alloc _) (Nat.le_refl _), ?_, by simp [HWL.out], by omega⟩
            rw [List.flatMap_append]
            have h := H10.out.1
            simpa [winRow] using h
          case measure => simp [intOf]; omega
        · go_wp2_with (first
            | (go_at_call 67; refine (within_any _ _ _ _).mono ?_; rintro e w' ⟨rfl, rfl⟩)
            | fail)
          go_roundw
          case rel => exact ⟨i + 1, A', m, c', ws, (i : Int) + 1, by omega, by go_num, rfl, rfl, sil_no HH.out HST.out (by omega), HG.out, HO.out, HWL.out, by omega⟩
          case measure => simp [intOf]; omega
      · have HH := Lib.hid (show hush l low i = true by unfold hush; rw [hz]; exact hin)
        clear hz
        go_wp2_with (first
          | (go_at_call 67; refine (within_any _ _ _ _).mono ?_; rintro e w' ⟨rfl, rfl⟩)
          | fail)
        go_roundw
        case rel => exact ⟨i + 1, A', m, c', ws, fr, by omega, by go_num, rfl, rfl, by rw [sil_skip HH.out]; exact HST.out, HG.out, HO.out, HWL.out, by omega⟩
        case measure => simp [intOf]; omega
    · by_cases hlt2 : i = n
      · have HH := Lib.hid (show hush l low i = false by unfold hush; rw [List.getElem?_eq_none (by rw [H.out.len]; omega)])
        have hx : (i : Int) < (n : Int) + 1 := by omega
        have hx2 : decide (i < n) = false := by simp; omega
        clear hlt2
        by_cases hlong : long ≤ (i : Int) - fr
        · go_wp2_with (first
            | (at_builtin
               refine wpl_app _ rfl _ _ Try.winsT rfl w.heap.size A' m c' _ rfl (by exact HO.out.alloc _) _ _ 1 1 [.int .i64 fr, .int .i64 (i : Int)] rfl (by exact Reads.one _ _ _ _ rfl) (by simp [Value.oneCell']) (by unfold maxLen; omega) (by omega) (by simp; omega) ?_
               intro A10 c10 w10 h10
               have H10 := Lib.hid h10; clear h10)
            | fail)
          go_roundw
          case rel =>
            refine ⟨i + 1, A10, m + 1, c10, ws ++ [(fr, (i : Int))], (i : Int) + 1, by omega, by go_num, rfl, rfl, sil_add HH.out HST.out (by omega), H10.out.gr (gr_alloc HG.out _) (HO.out.alloc _) (Nat.le_refl _), ?_, by simp [HWL.out], by omega⟩
            rw [List.flatMap_append]
            have h := H10.out.1
            simpa [winRow] using h
          case measure => simp [intOf]; omega
        · go_wp2_with fail
          go_roundw
          case rel => exact ⟨i + 1, A', m, c', ws, (i : Int) + 1, by omega, by go_num, rfl, rfl, sil_no HH.out HST.out (by omega), HG.out, HO.out, HWL.out, by omega⟩
          case measure => simp [intOf]; omega
      · have hx : ¬ (i : Int) < (n : Int) + 1 := by omega
        go_wp2_with fail
        go_ret2
        have hin : i = n + 1 := by omega
        refine ⟨_, rfl, ⟨_, _, _, rfl, ?_, ?_⟩, HG.out⟩
        · unfold silent; rw [H.out.len, ← hin, HST.out]; exact HO.out.reads
        · unfold silent; rw [H.out.len, ← hin, HST.out]; exact HWL.out

set_option maxRecDepth 100000 in
set_option maxHeartbeats 4000000 in
theorem silentOf_ok (lo : Nat) (A : Option Addr) (n c : Nat) (l : List Int) (low long : Int) (w : World) (h : Ints .i64 w lo A n c l) (hf : smpFault l = 0) (hb : inB low 0 32767 = true) (hb2 : inB long 1 20000 = true) :
    Calls Try.prog 45 #[.slice A n c, .int .i64 low, .int .i64 long] w (RetP (IsWins w.heap.size (silent l low long)) w) := by
  have H := Lib.hid h; clear h
  have HOK := Lib.hid (smp_ok hf)
  have hn2 : n ≤ 20000 := by have := HOK.out.1; have := H.out.len; omega
  clear hf
  have hb0 : 0 ≤ low ∧ low ≤ 32767 := by simpa [inB] using hb
  obtain ⟨b0, b1⟩ := hb0
  have hb3 : 1 ≤ long ∧ long ≤ 20000 := by simpa [inB] using hb2
  obtain ⟨b2, b3⟩ := hb3
  clear hb hb2
  go_enter Try.func45, Try.ntmps45
  go_wp2_with fail
  go_loopw [7, 8, 9, 13] (fun v f _ t wr => ∃ (i : Nat) (A' : Option Addr) (m c' : Nat) (ws : List (Int × Int)) (fr : Int), i ≤ n + 1 ∧ t = .int .i64 i ∧ v = .slice A' m c' ∧ f = .int .i64 fr ∧ (silTo l low long i = (ws, fr) ∧ SilRel w i A' m c' ws wr)) (fun _ _ _ t _ => n + 1 - (intOf t).toNat)
  case atStart => exact ⟨0, none, 0, 0, [], 0, by omega, rfl, rfl, rfl, rfl, gr_refl _ _, Own.nil _ _ _ _, rfl, by omega⟩
  case round =>
    obtain ⟨i, A', m, c', ws, fr, hi, rfl, rfl, rfl, hst, hg, ho, hwl, hmi⟩ := hrel
    have hbd := silTo_bd l low long i
    rw [hst] at hbd
    obtain ⟨fr0, fr1, _⟩ := hbd
    dsimp only at fr0 fr1
    have zr := hg.size
    have HST := Lib.hid hst; have HG := Lib.hid hg; have HO := Lib.hid ho; have HWL := Lib.hid hwl
    clear hst hg ho hwl
    by_cases hlt : i < n
    · obtain ⟨g, o, z, rfl, _, _, hz, hc⟩ := (H.out.grown HG.out (fun g e => by cases e)).get hlt
      have hx : (i : Int) < (n : Int) + 1 := by omega
      have hx2 : decide (i < n) = true := decide_eq_true hlt
      cases hin : inB z (-low) low
      · have HH := Lib.hid (show hush l low i = false by unfold hush; rw [hz]; exact hin)
        clear hz
        by_cases hlong : long ≤ (i : Int) - fr
        · go_wp2_with (first
            | (go_at_call 63; refine (in_any _ _ _ _).mono ?_; rintro e w' ⟨rfl, rfl⟩)
            | (at_builtin
               refine wpl_app _ rfl _ _ Try.winsT rfl w.heap.size A' m c' _ rfl (by exact HO.out.alloc _) _ _ 1 1 [.int .i64 fr, .int .i64 (i : Int)] rfl (by exact Reads.one _ _ _ _ rfl) (by simp [Value.oneCell']) (by unfold maxLen; omega) (by omega) (by simp; omega) ?_
               intro A10 c10 w10 h10
               have H10 := Lib.hid h10; clear h10)
            | fail)
          go_roundw
          case rel =>
            refine ⟨i + 1, A10, m + 1, c10, ws ++ [(fr, (i : Int))], (i : Int) + 1, by omega, by go_num, rfl, rfl, sil_add HH.out HST.out (by omega), H10.out.gr (gr_alloc HG.out _) (HO.out.alloc _) (Nat.le_refl _), ?_, by simp [HWL.out], by omega⟩
            rw [List.flatMap_append]
            have h := H10.out.1
            simpa [winRow] using h
          case measure => simp [intOf]; omega
        · go_wp2_with (first
            | (go_at_call 63; refine (in_any _ _ _ _).mono ?_; rintro e w' ⟨rfl, rfl⟩)
            | fail)
          go_roundw
          case rel => exact ⟨i + 1, A', m, c', ws, (i : Int) + 1, by omega, by go_num, rfl, rfl, sil_no HH.out HST.out (by omega), HG.out, HO.out, HWL.out, by omega⟩
          case measure => simp [intOf]; omega
      · have HH := Lib.hid (show hush l low i = true by unfold hush; rw [hz]; exact hin)
        clear hz
        go_wp2_with (first
          | (go_at_call 63; refine (in_any _ _ _ _).mono ?_; rintro e w' ⟨rfl, rfl⟩)
          | fail)
        go_roundw
        case rel => exact ⟨i + 1, A', m, c', ws, fr, by omega, by go_num, rfl, rfl, by rw [sil_skip HH.out]; exact HST.out, HG.out, HO.out, HWL.out, by omega⟩
        case measure => simp [intOf]; omega
    · by_cases hlt2 : i = n
      · have HH := Lib.hid (show hush l low i = false by unfold hush; rw [List.getElem?_eq_none (by rw [H.out.len]; omega)])
        have hx : (i : Int) < (n : Int) + 1 := by omega
        have hx2 : decide (i < n) = false := by simp; omega
        clear hlt2
        by_cases hlong : long ≤ (i : Int) - fr
        · go_wp2_with (first
            | (at_builtin
               refine wpl_app _ rfl _ _ Try.winsT rfl w.heap.size A' m c' _ rfl (by exact HO.out.alloc _) _ _ 1 1 [.int .i64 fr, .int .i64 (i : Int)] rfl (by exact Reads.one _ _ _ _ rfl) (by simp [Value.oneCell']) (by unfold maxLen; omega) (by omega) (by simp; omega) ?_
               intro A10 c10 w10 h10
               have H10 := Lib.hid h10; clear h10)
            | fail)
          go_roundw
          case rel =>
            refine ⟨i + 1, A10, m + 1, c10, ws ++ [(fr, (i : Int))], (i : Int) + 1, by omega, by go_num, rfl, rfl, sil_add HH.out HST.out (by omega), H10.out.gr (gr_alloc HG.out _) (HO.out.alloc _) (Nat.le_refl _), ?_, by simp [HWL.out], by omega⟩
            rw [List.flatMap_append]
            have h := H10.out.1
            simpa [winRow] using h
          case measure => simp [intOf]; omega
        · go_wp2_with fail
          go_roundw
          case rel => exact ⟨i + 1, A', m, c', ws, (i : Int) + 1, by omega, by go_num, rfl, rfl, sil_no HH.out HST.out (by omega), HG.out, HO.out, HWL.out, by omega⟩
          case measure => simp [intOf]; omega
      · have hx : ¬ (i : Int) < (n : Int) + 1 := by omega
        go_wp2_with fail
        go_ret
        have hin : i = n + 1 := by omega
        refine ⟨_, rfl, ⟨_, _, _, rfl, ?_, ?_⟩, HG.out⟩
        · unfold silent; rw [H.out.len, ← hin, HST.out]; exact HO.out.reads
        · unfold silent; rw [H.out.len, ← hin, HST.out]; exact HWL.out

set_option maxHeartbeats 4000000 in
theorem silent_no (lo : Nat) (A : Option Addr) (n c : Nat) (l : List Int) (low long : Int) (w : World) (h : Ints .i64 w lo A n c l) (hn : n ≤ 1000000000000) (hf : silFault l low long ≠ 0) :
    Calls Try.prog 42 #[.slice A n c, .int .i64 low, .int .i64 long] w (RetP (IsWinsErr w.heap.size [] (silFault l low long)) w) := by
  have H := Lib.hid h; clear h
  by_cases h0 : smpFault l = 0
  · have hfb : (smpFault l != 0) = false := by simpa using h0
    have HV := Lib.hid (show silFault l low long = if inB low 0 32767 && inB long 1 20000 then 0 else 1 by unfold silFault; rw [if_pos h0])
    have HNZ := Lib.hid hf; clear hf h0
    cases hd : inB low 0 32767
    · have HV1 := Lib.hid (show silFault l low long = 1 by rw [HV.out, hd]; rfl)
      go_enter Try.func42, Try.ntmps42
      go_wp2_with (first
        | (go_at_call 29; refine (checkSamples_any lo _ _ _ l _ H.out hn).mono ?_; rintro e w' ⟨rfl, rfl⟩)
        | (go_at_call 67; refine (within_any _ _ _ _).mono ?_; rintro e w' ⟨rfl, rfl⟩)
        | fail)
      go_ret2
      rw [HV1.out]
      exact ⟨_, rfl, ⟨none, 0, 0, rfl, Recs.nil⟩, gr_refl _ _⟩
    · cases hl : inB long 1 20000
      · have HV1 := Lib.hid (show silFault l low long = 1 by rw [HV.out, hd, hl]; rfl)
        go_enter Try.func42, Try.ntmps42
        go_wp2_with (first
          | (go_at_call 29; refine (checkSamples_any lo _ _ _ l _ H.out hn).mono ?_; rintro e w' ⟨rfl, rfl⟩)
          | (go_at_call 67; refine (within_any _ _ _ _).mono ?_; rintro e w' ⟨rfl, rfl⟩)
          | fail)
        go_ret2
        rw [HV1.out]
        exact ⟨_, rfl, ⟨none, 0, 0, rfl, Recs.nil⟩, gr_refl _ _⟩
      · exfalso
        have h := HNZ.out
        rw [HV.out, hd, hl] at h
        exact h rfl
  · have hfb : (smpFault l != 0) = true := by simpa using h0
    have HV1 := Lib.hid (show silFault l low long = smpFault l by unfold silFault; rw [if_neg h0])
    clear hf h0
    go_enter Try.func42, Try.ntmps42
    go_wp2_with (first
      | (go_at_call 29; refine (checkSamples_any lo _ _ _ l _ H.out hn).mono ?_; rintro e w' ⟨rfl, rfl⟩)
      | (go_at_call 67; refine (within_any _ _ _ _).mono ?_; rintro e w' ⟨rfl, rfl⟩)
      | fail)
    go_ret2
    rw [HV1.out]
    exact ⟨_, rfl, ⟨none, 0, 0, rfl, Recs.nil⟩, gr_refl _ _⟩

set_option maxHeartbeats 4000000 in
theorem equalW_same (lo lo' : Nat) (A A' : Option Addr) (n c n' c' : Nat) (l : List (Int × Int)) (w : World) (h1 : Wins w lo A n c l) (h2 : Wins w lo' A' n' c' l) (hn2 : n ≤ 1000000000000) :
    Calls Try.prog 46 #[.slice A n c, .slice A' n' c'] w fun e w' => e = .returned (.bool true) ∧ ∃ k, w' = w.drewN k := by
  obtain rfl : n = n' := by rw [← h1.len, ← h2.len]
  have H1 := Lib.hid h1; have H2 := Lib.hid h2; clear h1 h2
  go_enter Try.func46, Try.ntmps46
  go_wp2_with fail
  go_loopw [5, 13] (fun _ t wr => ∃ i : Nat, i ≤ n ∧ t = .int .i64 i ∧ ∃ k, wr = w.drewN k) (fun _ t _ => n - (intOf t).toNat)
  case atStart => exact ⟨0, Nat.zero_le _, rfl, 0, rfl⟩
  case round =>
    obtain ⟨i, hi, rfl, k, rfl⟩ := hrel
    by_cases hlt : i < n
    · obtain ⟨g, o, ⟨z1, z2⟩, rfl, _, _, hz, hc⟩ := H1.out.get winRow_len hlt
      obtain ⟨g', o', z', rfl, _, _, hz', hc'⟩ := H2.out.get winRow_len hlt
      rw [hz] at hz'
      injection hz' with hz'
      subst hz'
      have c1 := hc 0 _ rfl
      have c2 := hc 1 _ rfl
      have c3 := hc' 0 _ rfl
      have c4 := hc' 1 _ rfl
      simp only [Nat.add_zero] at c1 c3
      clear hz hc hc'
      have hi0 : (0 : Int) ≤ (i : Int) := by omega
      have hi1 : (i : Int) < (n : Int) := by omega
      go_wp2_with fail
      go_quiet (fail)
      go_wp2_with fail
      go_roundw
      case rel => exact ⟨i + 1, by omega, by go_num, _, rfl⟩
      case measure => simp [intOf]; omega
    · obtain rfl : i = n := by omega
      go_wp2_with fail
      go_ret
      exact ⟨rfl, _, rfl⟩
end Go.Proofs.Ytdknfhpconfhkaa

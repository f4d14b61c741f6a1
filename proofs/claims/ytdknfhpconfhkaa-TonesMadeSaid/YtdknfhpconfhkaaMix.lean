/- Contracts of Louder, Silent, the program's and the document's. Conditions: none. -/
import Derived.Test.YtdknfhpconfhkaaMCommon
import Derived.Test.YtdknfhpconfhkaaSound
import Derived.Test.YtdknfhpconfhkaaRec
import Derived.Test.YtdknfhpconfhkaaPlay2
namespace Go.Proofs.Ytdknfhpconfhkaa
open Go.RowKit

/-- A sum as a sample. -/
def cutS (n : Int) : Int := min (max n (-32768)) 32767
set_option maxHeartbeats 1000000 in
theorem mcut_any (n : Int) (w : World) : Calls Try.prog 76 #[.int .i64 n] w (Same (.int .i64 (cutS n)) w) := by
  go_enter Try.func76, Try.ntmps76
  go_wp2
  all_goals
    go_ret
    exact ⟨ret_i (by unfold cutS; omega), rfl⟩
set_option maxHeartbeats 1000000 in
theorem qcut_any (n : Int) (w : World) : Calls Try.prog 77 #[.int .i64 n] w (Same (.int .i64 (cutS n)) w) := by
  go_enter Try.func77, Try.ntmps77
  go_wp2
  all_goals
    go_ret
    exact ⟨ret_i (by unfold cutS; omega), rfl⟩

def loud (b z : Int) : Int := cutS (z * b / 256)
theorem mul_bd {z b : Int} (h0 : -32768 ≤ z) (h1 : z ≤ 32767) (b0 : 0 ≤ b) (b1 : b ≤ 65536) : -2147483648 ≤ z * b ∧ z * b ≤ 2147483648 := by
  constructor
  · have h2 := Int.mul_le_mul_of_nonneg_right h0 b0
    have h3 : -32768 * 65536 ≤ -32768 * b := by omega
    omega
  · have h2 := Int.mul_le_mul_of_nonneg_right h1 b0
    have h3 : 32767 * b ≤ 32767 * 65536 := by omega
    omega
def loudFault (l : List Int) (b : Int) : Int := if smpFault l = 0 then (if inB b 0 65536 then 0 else 1) else smpFault l

set_option maxRecDepth 100000 in
set_option maxHeartbeats 4000000 in
theorem louder_ok (lo : Nat) (A : Option Addr) (n c : Nat) (l : List Int) (b : Int) (w : World) (h : Ints .i64 w lo A n c l) (hn : n ≤ 1000000000000) (hf : smpFault l = 0) (hb : inB b 0 65536 = true) :
    Calls Try.prog 41 #[.slice A n c, .int .i64 b] w (RetP (IsOutErr .i64 w.heap.size (l.map (loud b)) 0) w) := by
  have H := Lib.hid h; clear h
  have hfb : (smpFault l != 0) = false := by simpa using hf
  obtain ⟨hl2, hz2⟩ := smp_ok hf
  have hln := H.out.len
  have hn2 : n ≤ 20000 := by omega
  have hb0 : 0 ≤ b ∧ b ≤ 65536 := by simpa [inB] using hb
  obtain ⟨b0, b1⟩ := hb0
  have HLN := Lib.hid hln; have HZ2 := Lib.hid hz2
  have HF := Lib.hid hf; clear hf hln hz2 hl2
  have hmk := run_make1 Try.intT n rfl (by omega) (by omega)
  go_enter Try.func41, Try.ntmps41
  go_wp2_with (first
    | (go_at_call 29; refine (checkSamples_any lo _ _ _ l _ H.out hn).mono ?_; rintro e w' ⟨rfl, rfl⟩)
    | (go_at_call 67; refine (within_any _ _ _ _).mono ?_; rintro e w' ⟨rfl, rfl⟩)
    | fail)
  go_loopw [8, 9, 23] (fun _ _ t wr => ∃ i : Nat, i ≤ n ∧ t = .int .i64 i ∧ Filled .i64 3 (loud b) w w.heap.size w.heap.size n l i wr) (fun _ _ t _ => n - (intOf t).toNat)
  case atStart =>
    refine ⟨0, Nat.zero_le _, rfl, gr_alloc (gr_refl _ _) _, ?_⟩
    have h := Own.made w 3 (.int .i64 0) n (by unfold maxLen; omega)
    simpa using h
  case round =>
    obtain ⟨i, hi, rfl, hrel⟩ := hrel
    have HR := Lib.hid hrel
    obtain ⟨hg, ho⟩ := hrel
    by_cases hlt : i < n
    · obtain ⟨g, o, z, rfl, _, hgl, hz, hc⟩ := (H.out.grown hg (fun g e => by cases e)).get hlt
      have hcz : ∃ u, wr.cell? ⟨w.heap.size, i, none⟩ = some u := by
        rw [ho.cell (by omega)]
        exact ⟨_, List.getElem?_eq_getElem (by simp; have := HLN.out; omega)⟩
      obtain ⟨u, hcu⟩ := hcz
      have hfz : wr.frozen? ⟨w.heap.size, i, none⟩ = false := ho.frozen i
      obtain ⟨zb0, zb1⟩ := HZ2.out z (mem_of_get hz)
      obtain ⟨m0, m1⟩ := mul_bd zb0 zb1 b0 b1
      have HZ := Lib.hid hz
      have j0 : (0 : Int) ≤ (i : Int) := by omega
      have j1 : (i : Int) < (n : Int) := by omega
      clear hz hg ho
      go_wp2_with (first
        | (go_at_call 76; refine (mcut_any (z * b / 256) _).mono ?_; rintro e w' ⟨rfl, rfl⟩)
        | fail)
      go_roundw
      case rel => exact ⟨i + 1, by omega, by go_num, HR.out.next (Nat.le_refl _) HLN.out HZ.out⟩
      case measure => simp [intOf]; omega
    · obtain rfl : i = n := by omega
      clear hg ho
      go_wp2_with fail
      go_ret2
      obtain ⟨hg, ho⟩ := HR.out
      refine ⟨_, rfl, ⟨_, _, _, rfl, ?_⟩, hg⟩
      rw [List.take_of_length_le (by rw [HLN.out]; exact Nat.le_refl _), Nat.sub_self] at ho
      rw [List.replicate_zero, List.append_nil] at ho
      exact ho.reads

set_option maxHeartbeats 4000000 in
theorem louder_no (lo : Nat) (A : Option Addr) (n c : Nat) (l : List Int) (b : Int) (w : World) (h : Ints .i64 w lo A n c l) (hn : n ≤ 1000000000000) (hf : loudFault l b ≠ 0) :
    Calls Try.prog 41 #[.slice A n c, .int .i64 b] w (RetP (IsOutErr .i64 w.heap.size [] (loudFault l b)) w) := by
  have H := Lib.hid h; clear h
  by_cases h0 : smpFault l = 0
  · have hfb : (smpFault l != 0) = false := by simpa using h0
    have HV := Lib.hid (show loudFault l b = if inB b 0 65536 then 0 else 1 by unfold loudFault; rw [if_pos h0])
    have HNZ := Lib.hid hf; clear hf h0
    cases hd : inB b 0 65536
    · have HV1 := Lib.hid (show loudFault l b = 1 by rw [HV.out, hd]; rfl)
      go_enter Try.func41, Try.ntmps41
      go_wp2_with (first
        | (go_at_call 29; refine (checkSamples_any lo _ _ _ l _ H.out hn).mono ?_; rintro e w' ⟨rfl, rfl⟩)
        | (go_at_call 67; refine (within_any _ _ _ _).mono ?_; rintro e w' ⟨rfl, rfl⟩)
        | fail)
      go_ret2
      rw [HV1.out]
      exact ⟨_, rfl, ⟨none, 0, 0, rfl, Ints.none_⟩, gr_refl _ _⟩
    · exfalso
      have h := HNZ.out
      rw [HV.out, hd] at h
      exact h rfl
  · have hfb : (smpFault l != 0) = true := by simpa using h0
    have HV1 := Lib.hid (show loudFault l b = smpFault l by unfold loudFault; rw [if_neg h0])
    clear hf h0
    go_enter Try.func41, Try.ntmps41
    go_wp2_with (first
      | (go_at_call 29; refine (checkSamples_any lo _ _ _ l _ H.out hn).mono ?_; rintro e w' ⟨rfl, rfl⟩)
      | fail)
    go_ret2
    rw [HV1.out]
    exact ⟨_, rfl, ⟨none, 0, 0, rfl, Ints.none_⟩, gr_refl _ _⟩

set_option maxRecDepth 100000 in
set_option maxHeartbeats 4000000 in
theorem louderOf_ok (lo : Nat) (A : Option Addr) (n c : Nat) (l : List Int) (b : Int) (w : World) (h : Ints .i64 w lo A n c l) (hf : smpFault l = 0) (hb : inB b 0 65536 = true) :
    Calls Try.prog 44 #[.slice A n c, .int .i64 b] w (RetP (IsOut .i64 w.heap.size (l.map (loud b))) w) := by
  have H := Lib.hid h; clear h
  obtain ⟨hl2, hz2⟩ := smp_ok hf
  have hln := H.out.len
  have hn2 : n ≤ 20000 := by omega
  have hb0 : 0 ≤ b ∧ b ≤ 65536 := by simpa [inB] using hb
  obtain ⟨b0, b1⟩ := hb0
  have HLN := Lib.hid hln; have HZ2 := Lib.hid hz2
  clear hf hln hz2 hl2 hb
  go_enter Try.func44, Try.ntmps44
  go_wp2_with fail
  go_loopw [5, 7, 10] (fun v _ t wr => ∃ (i : Nat) (A9 : Option Addr) (c9 : Nat), i ≤ n ∧ t = .int .i64 i ∧ v = .slice A9 i c9 ∧ w.grownBy wr none ∧ OwnI wr w.heap.size A9 i c9 ((l.take i).map (loud b))) (fun _ _ t _ => n - (intOf t).toNat)
  case atStart => exact ⟨0, none, 0, Nat.zero_le _, rfl, rfl, gr_refl _ _, Own.nil _ _ _ _⟩
  case round =>
    obtain ⟨i, A9, c9, hi, rfl, rfl, hg9, ho9⟩ := hrel
    have zi := hg9.size
    have HG9 := Lib.hid hg9; have HO9 := Lib.hid ho9; clear hg9 ho9
    by_cases hlt3 : i < n
    · obtain ⟨g, o, z, rfl, _, hgl, hz, hc⟩ := (H.out.grown HG9.out (fun g e => by cases e)).get hlt3
      obtain ⟨zb0, zb1⟩ := HZ2.out z (mem_of_get hz)
      obtain ⟨m0, m1⟩ := mul_bd zb0 zb1 b0 b1
      have HZ := Lib.hid hz; clear hz
      go_wp2_with (first
        | (go_at_call 75; refine (floor_any (z * b) 256 _ (by omega) (by omega) (by omega)).mono ?_; rintro e w' ⟨rfl, rfl⟩)
        | (go_at_call 77; refine (qcut_any (z * b / 256) _).mono ?_; rintro e w' ⟨rfl, rfl⟩)
        | (at_builtin
           refine wpl_app _ rfl _ _ Try.intT rfl w.heap.size A9 i c9 _ rfl (by exact HO9.out.alloc _) _ _ 1 1 [.int .i64 (cutS (z * b / 256))] rfl (by exact Reads.one _ _ _ _ rfl) (by simp [Value.oneCell']) (by unfold maxLen; omega) (by omega) (by simp; omega) ?_
           intro A10 c10 w10 h10
           have H10 := Lib.hid h10; clear h10)
        | fail)
      go_roundw
      case rel =>
        refine ⟨i + 1, A10, c10, by omega, by go_num, rfl, H10.out.gr (gr_alloc HG9.out _) (Own.alloc HO9.out _) (Nat.le_refl _), ?_⟩
        unfold OwnI
        rw [take_snoc' HZ.out, List.map_append, List.map_append]
        exact H10.out.1
      case measure => simp [intOf]; omega
    · obtain rfl : i = n := by omega
      go_wp2_with fail
      go_ret
      refine ⟨_, rfl, ⟨_, _, _, rfl, ?_⟩, HG9.out⟩
      have h := Own.reads HO9.out
      rw [List.take_of_length_le (by rw [HLN.out]; exact Nat.le_refl _)] at h
      exact h
end Go.Proofs.Ytdknfhpconfhkaa

/- Contracts of Compress, Expand, the program's and the document's. Conditions: none. -/
import Derived.Test.YtdknfhpconfhkaaPktCheck
namespace Go.Proofs.Ytdknfhpconfhkaa
open Go.RowKit

/-- A sample, made a number of at most 13 bits. -/
def cmpM (x : Int) : Nat := (min ((if x < 0 then -x - 1 else x) / 4) 8158 + 33).toNat
def cmpS (x : Int) : Int := if x < 0 then 128 else 0
/-- The byte of a sample. -/
def cmpB (x : Int) : Int := (255 - (cmpS x + 16 * ((Nat.log2 (cmpM x) - 5 : Nat) : Int) + ((cmpM x / 2 ^ (Nat.log2 (cmpM x) - 5 + 1) : Nat) : Int) - 16)) % 256

theorem cmpM_bd (x : Int) (h0 : -32768 ≤ x) (h1 : x ≤ 32767) : 33 ≤ cmpM x ∧ cmpM x ≤ 8191 := by
  unfold cmpM; split <;> omega
theorem exp_uniq (M k : Nat) (h0 : 33 ≤ M) (h1 : M < 2 ^ (k + 6)) (h2 : ∀ j, j < k → 2 ^ (j + 6) ≤ M) : Nat.log2 M - 5 = k := by
  have hne : M ≠ 0 := by omega
  have a : M.log2 < k + 6 := (Nat.log2_lt hne).2 h1
  have b : k + 5 ≤ M.log2 := by
    rcases Nat.eq_zero_or_pos k with rfl | hk
    · exact (Nat.le_log2 hne).2 (by omega)
    · have := h2 (k - 1) (by omega)
      exact (Nat.le_log2 hne).2 (by rw [show k + 5 = k - 1 + 6 by omega]; exact this)
  omega

theorem cmpB_eq {x : Int} {M : Nat} (k : Nat) (hM : cmpM x = M) (h0 : 33 ≤ M) (h1 : M < 2 ^ (k + 6)) (h2 : ∀ j, j < k → 2 ^ (j + 6) ≤ M) : cmpB x = (255 - (cmpS x + 16 * (k : Int) + ((M / 2 ^ (k + 1) : Nat) : Int) - 16)) % 256 := by
  unfold cmpB
  rw [hM, exp_uniq M k h0 h1 h2]
theorem all_succ {M k : Nat} (h : ∀ j, j < k → 2 ^ (j + 6) ≤ M) (h1 : 2 ^ (k + 6) ≤ M) : ∀ j, j < k + 1 → 2 ^ (j + 6) ≤ M := fun j hj => by
  rcases Nat.lt_or_ge j k with h2 | h2
  · exact h j h2
  · obtain rfl : j = k := by omega
    exact h1

theorem ret_b {a b : Int} (h : a = b) : Ending.returned (.tuple #[.int .u8 a, .int .i64 0]) = .returned (.tuple #[.int .u8 b, .int .i64 0]) := by rw [h]

set_option maxRecDepth 100000 in
set_option maxHeartbeats 8000000 in
theorem compress_ok (x : Int) (w : World) (h0 : -32768 ≤ x) (h1 : x ≤ 32767) :
    Calls Try.prog 23 #[.int .i64 x] w (Same (.tuple #[.int .u8 (cmpB x), .int .i64 0]) w) := by
  obtain ⟨M, hM⟩ : ∃ M, cmpM x = M := ⟨_, rfl⟩
  obtain ⟨m0, m1⟩ := cmpM_bd x h0 h1
  rw [hM] at m0 m1
  have HM := Lib.hid hM; clear hM
  have HV := Lib.hid (show cmpB x = (255 - (cmpS x + 16 * ((Nat.log2 M - 5 : Nat) : Int) + ((M / 2 ^ (Nat.log2 M - 5 + 1) : Nat) : Int) - 16)) % 256 by unfold cmpB; rw [HM.out])
  by_cases hx : x < 0
  all_goals
    have HSX := Lib.hid (show cmpS x = if x < 0 then 128 else 0 from rfl)
    go_enter Try.func23, Try.ntmps23
    go_wp2
    all_goals
      first
        | rw [show (8191 : Int) = (M : Int) from by have h := HM.out; unfold cmpM at h; split at h <;> omega]
        | rw [show ((-x - 1) / 4 + 33 : Int) = (M : Int) from by have h := HM.out; unfold cmpM at h; split at h <;> omega]
        | rw [show (x / 4 + 33 : Int) = (M : Int) from by have h := HM.out; unfold cmpM at h; split at h <;> omega]
      go_loop [6] (fun t => ∃ k : Nat, k ≤ 7 ∧ t = .int .i64 k ∧ ∀ j, j < k → 2 ^ (j + 6) ≤ M) (fun t => 7 - (intOf t).toNat)
      case atStart => exact ⟨0, by omega, rfl, fun j hj => absurd hj (by omega)⟩
      case round =>
        obtain ⟨k, hk, rfl, hj⟩ := hrel
        have HJ := Lib.hid hj; clear hj
        rcases (by omega : k = 0 ∨ k = 1 ∨ k = 2 ∨ k = 3 ∨ k = 4 ∨ k = 5 ∨ k = 6 ∨ k = 7) with rfl | rfl | rfl | rfl | rfl | rfl | rfl | rfl
        · have hlow : 33 ≤ M := m0
          by_cases hb : 64 ≤ M
          · have hb' : (64 : Int) ≤ (M : Int) := by omega
            go_wp2
            go_round
            case rel => exact ⟨1, by omega, rfl, all_succ HJ.out hb⟩
            case measure => simp [intOf]
          · have hb' : ¬ (64 : Int) ≤ (M : Int) := by omega
            go_wp2
            go_ret2
            have e := cmpB_eq 0 HM.out m0 (show M < 64 by omega) HJ.out
            refine ⟨?_, rfl⟩
            rw [e, HSX.out]
            simp only [hx, if_true, Nat.reduceAdd, Nat.reducePow]
            exact ret_b (by omega)
        · have hlow : 64 ≤ M := HJ.out 0 (by omega)
          by_cases hb : 128 ≤ M
          · have hb' : (128 : Int) ≤ (M : Int) := by omega
            go_wp2
            go_round
            case rel => exact ⟨2, by omega, rfl, all_succ HJ.out hb⟩
            case measure => simp [intOf]
          · have hb' : ¬ (128 : Int) ≤ (M : Int) := by omega
            go_wp2
            go_ret2
            have e := cmpB_eq 1 HM.out m0 (show M < 128 by omega) HJ.out
            refine ⟨?_, rfl⟩
            rw [e, HSX.out]
            simp only [hx, if_true, Nat.reduceAdd, Nat.reducePow]
            exact ret_b (by omega)
        · have hlow : 128 ≤ M := HJ.out 1 (by omega)
          by_cases hb : 256 ≤ M
          · have hb' : (256 : Int) ≤ (M : Int) := by omega
            go_wp2
            go_round
            case rel => exact ⟨3, by omega, rfl, all_succ HJ.out hb⟩
            case measure => simp [intOf]
          · have hb' : ¬ (256 : Int) ≤ (M : Int) := by omega
            go_wp2
            go_ret2
            have e := cmpB_eq 2 HM.out m0 (show M < 256 by omega) HJ.out
            refine ⟨?_, rfl⟩
            rw [e, HSX.out]
            simp only [hx, if_true, Nat.reduceAdd, Nat.reducePow]
            exact ret_b (by omega)
        · have hlow : 256 ≤ M := HJ.out 2 (by omega)
          by_cases hb : 512 ≤ M
          · have hb' : (512 : Int) ≤ (M : Int) := by omega
            go_wp2
            go_round
            case rel => exact ⟨4, by omega, rfl, all_succ HJ.out hb⟩
            case measure => simp [intOf]
          · have hb' : ¬ (512 : Int) ≤ (M : Int) := by omega
            go_wp2
            go_ret2
            have e := cmpB_eq 3 HM.out m0 (show M < 512 by omega) HJ.out
            refine ⟨?_, rfl⟩
            rw [e, HSX.out]
            simp only [hx, if_true, Nat.reduceAdd, Nat.reducePow]
            exact ret_b (by omega)
        · have hlow : 512 ≤ M := HJ.out 3 (by omega)
          by_cases hb : 1024 ≤ M
          · have hb' : (1024 : Int) ≤ (M : Int) := by omega
            go_wp2
            go_round
            case rel => exact ⟨5, by omega, rfl, all_succ HJ.out hb⟩
            case measure => simp [intOf]
          · have hb' : ¬ (1024 : Int) ≤ (M : Int) := by omega
            go_wp2
            go_ret2
            have e := cmpB_eq 4 HM.out m0 (show M < 1024 by omega) HJ.out
            refine ⟨?_, rfl⟩
            rw [e, HSX.out]
            simp only [hx, if_true, Nat.reduceAdd, Nat.reducePow]
            exact ret_b (by omega)
        · have hlow : 1024 ≤ M := HJ.out 4 (by omega)
          by_cases hb : 2048 ≤ M
          · have hb' : (2048 : Int) ≤ (M : Int) := by omega
            go_wp2
            go_round
            case rel => exact ⟨6, by omega, rfl, all_succ HJ.out hb⟩
            case measure => simp [intOf]
          · have hb' : ¬ (2048 : Int) ≤ (M : Int) := by omega
            go_wp2
            go_ret2
            have e := cmpB_eq 5 HM.out m0 (show M < 2048 by omega) HJ.out
            refine ⟨?_, rfl⟩
            rw [e, HSX.out]
            simp only [hx, if_true, Nat.reduceAdd, Nat.reducePow]
            exact ret_b (by omega)
        · have hlow : 2048 ≤ M := HJ.out 5 (by omega)
          by_cases hb : 4096 ≤ M
          · have hb' : (4096 : Int) ≤ (M : Int) := by omega
            go_wp2
            go_round
            case rel => exact ⟨7, by omega, rfl, all_succ HJ.out hb⟩
            case measure => simp [intOf]
          · have hb' : ¬ (4096 : Int) ≤ (M : Int) := by omega
            go_wp2
            go_ret2
            have e := cmpB_eq 6 HM.out m0 (show M < 4096 by omega) HJ.out
            refine ⟨?_, rfl⟩
            rw [e, HSX.out]
            simp only [hx, if_true, Nat.reduceAdd, Nat.reducePow]
            exact ret_b (by omega)
        · have hlow : 4096 ≤ M := HJ.out 6 (by omega)
          go_wp2
          go_ret2
          have e := cmpB_eq 7 HM.out m0 (show M < 8192 by omega) HJ.out
          refine ⟨?_, rfl⟩
          rw [e, HSX.out]
          simp only [hx, if_true, Nat.reduceAdd, Nat.reducePow]
          exact ret_b (by omega)

theorem ret_i {k : IntKind} {a b : Int} (h : a = b) : Ending.returned (.int k a) = .returned (.int k b) := by rw [h]
theorem div_step (M k : Nat) : M / 2 ^ k / 2 = M / 2 ^ (k + 1) := by rw [Nat.div_div_eq_div_mul, Nat.pow_succ]
theorem div_ge {M k : Nat} (h : 64 ≤ M / 2 ^ k) : 2 ^ (k + 6) ≤ M := by
  have := (Nat.le_div_iff_mul_le (Nat.two_pow_pos k)).1 h
  rw [Nat.pow_add, Nat.mul_comm]; omega
theorem div_lt {M k : Nat} (h : M / 2 ^ k < 64) : M < 2 ^ (k + 6) := by
  have := (Nat.div_lt_iff_lt_mul (Nat.two_pow_pos k)).1 h
  rw [Nat.pow_add, Nat.mul_comm]; omega
theorem k_le {M k : Nat} (hM : M ≤ 8191) (h : 2 ^ (k + 6) ≤ M) : k ≤ 6 := by
  rcases Nat.lt_or_ge k 7 with h1 | h1
  · omega
  · have : 2 ^ (7 + 6) ≤ 2 ^ (k + 6) := Nat.pow_le_pow_right (by omega) (by omega)
    omega

set_option maxRecDepth 100000 in
set_option maxHeartbeats 8000000 in
theorem compressOf_ok (x : Int) (w : World) (h0 : -32768 ≤ x) (h1 : x ≤ 32767) :
    Calls Try.prog 26 #[.int .i64 x] w (Same (.int .u8 (cmpB x)) w) := by
  obtain ⟨M, hM⟩ : ∃ M, cmpM x = M := ⟨_, rfl⟩
  obtain ⟨m0, m1⟩ := cmpM_bd x h0 h1
  rw [hM] at m0 m1
  have HM := Lib.hid hM; clear hM
  by_cases hx : x < 0
  all_goals
    have HSX := Lib.hid (show cmpS x = if x < 0 then 128 else 0 from rfl)
    go_enter Try.func26, Try.ntmps26
    go_wp2
    all_goals
      first
        | rw [show (8191 : Int) = (M : Int) from by have h := HM.out; unfold cmpM at h; split at h <;> omega]
        | rw [show ((-x - 1) / 4 + 33 : Int) = (M : Int) from by have h := HM.out; unfold cmpM at h; split at h <;> omega]
        | rw [show (x / 4 + 33 : Int) = (M : Int) from by have h := HM.out; unfold cmpM at h; split at h <;> omega]
      go_loop [4, 5] (fun v t => ∃ k q : Nat, k ≤ 7 ∧ q = M / 2 ^ k ∧ v = .int .i64 q ∧ t = .int .i64 k ∧ ∀ j, j < k → 2 ^ (j + 6) ≤ M) (fun v _ => (intOf v).toNat)
      case atStart => exact ⟨0, M, by omega, by simp, rfl, rfl, fun j hj => absurd hj (by omega)⟩
      case round =>
        obtain ⟨k, q, hk, hq, rfl, rfl, hj⟩ := hrel
        have HJ := Lib.hid hj; have HQ := Lib.hid hq; clear hj hq
        have hqM : q ≤ 8191 := by have := HQ.out; have := Nat.div_le_self M (2 ^ k); omega
        by_cases hb : 64 ≤ q
        · have hge : 2 ^ (k + 6) ≤ M := div_ge (by rw [← HQ.out]; exact hb)
          have hk6 := k_le m1 hge
          have HGE := Lib.hid hge; clear hge
          go_wp2
          go_round
          case rel => exact ⟨k + 1, q / 2, by omega, by rw [HQ.out, div_step], by go_num, by go_num, all_succ HJ.out HGE.out⟩
          case measure => simp [intOf]; omega
        · go_wp2
          go_ret
          have e := cmpB_eq k HM.out m0 (div_lt (by rw [← HQ.out]; omega)) HJ.out
          refine ⟨?_, rfl⟩
          rw [e, HSX.out, ← div_step, ← HQ.out]
          have hq32 : 32 ≤ q := by
            rcases Nat.eq_zero_or_pos k with rfl | hp
            · have h := HQ.out; simp at h; omega
            · have h := HJ.out (k - 1) (by omega)
              have h2 : 32 * 2 ^ k ≤ M := by
                rw [show k - 1 + 6 = k + 5 by omega, Nat.pow_add, Nat.mul_comm] at h; omega
              rw [HQ.out]; exact (Nat.le_div_iff_mul_le (Nat.two_pow_pos k)).2 h2
          simp only [hx, if_true]
          exact ret_i (by omega)

/-- The sample of a byte. -/
def expM (b : Int) : Int := wrap64 (wrap64 (wrap64 ((2 * ((255 - b) % 16) + 33) * 2 ^ ((255 - b) / 16 % 8).toNat) - 33) * 4)
def expB (b : Int) : Int := if 128 ≤ 255 - b then wrap64 (wrap64 (-expM b) - 1) else expM b
theorem expB_all : ∀ k : Fin 256, -32768 ≤ expB (k.val : Int) ∧ expB (k.val : Int) ≤ 32767 := by decide +kernel
theorem expB_bd (b : Int) (h0 : 0 ≤ b) (h1 : b < 256) : -32768 ≤ expB b ∧ expB b ≤ 32767 := by
  obtain ⟨k, rfl⟩ := Int.eq_ofNat_of_zero_le h0
  exact expB_all ⟨k, by omega⟩

set_option maxRecDepth 100000 in
set_option maxHeartbeats 8000000 in
theorem expand_any (b : Int) (w : World) (h0 : 0 ≤ b) (h1 : b < 256) :
    Calls Try.prog 32 #[.int .u8 b] w (Same (.int .i64 (expB b)) w) := by
  by_cases hb : 128 ≤ 255 - b
  · have ht : ((255 - b) / 128 == 1) = true := by rw [beq_iff_eq]; omega
    have HE := Lib.hid (show expB b = wrap64 (wrap64 (-expM b) - 1) from if_pos hb)
    go_enter Try.func32, Try.ntmps32
    go_wp2
    go_ret
    exact ⟨by rw [HE.out]; rfl, rfl⟩
  · have ht : ((255 - b) / 128 == 1) = false := by rw [beq_eq_false_iff_ne]; omega
    have HE := Lib.hid (show expB b = expM b from if_neg hb)
    go_enter Try.func32, Try.ntmps32
    go_wp2
    go_ret
    exact ⟨by rw [HE.out]; rfl, rfl⟩
set_option maxRecDepth 100000 in
set_option maxHeartbeats 8000000 in
theorem expandOf_any (b : Int) (w : World) (h0 : 0 ≤ b) (h1 : b < 256) :
    Calls Try.prog 31 #[.int .u8 b] w (Same (.int .i64 (expB b)) w) := by
  by_cases hb : 128 ≤ 255 - b
  · have HE := Lib.hid (show expB b = wrap64 (wrap64 (-expM b) - 1) from if_pos hb)
    go_enter Try.func31, Try.ntmps31
    go_wp2
    go_ret
    exact ⟨by rw [HE.out]; rfl, rfl⟩
  · have HE := Lib.hid (show expB b = expM b from if_neg hb)
    go_enter Try.func31, Try.ntmps31
    go_wp2
    go_ret
    exact ⟨by rw [HE.out]; rfl, rfl⟩

/-- Is a number a sample? -/
def isS (n : Int) : Bool := inB n (-32768) 32767
set_option maxHeartbeats 1000000 in
theorem isSample_any (n : Int) (w : World) : Calls Try.prog 68 #[.int .i64 n] w (Same (.bool (isS n)) w) := by
  go_enter Try.func68, Try.ntmps68
  go_wp2_with (first
    | (go_at_call 67; refine (within_any _ _ _ _).mono ?_; rintro e w' ⟨rfl, rfl⟩)
    | fail)
  go_ret
  exact ⟨rfl, rfl⟩
set_option maxHeartbeats 1000000 in
theorem sample_any (n : Int) (w : World) : Calls Try.prog 25 #[.int .i64 n] w (Same (.bool (isS n)) w) := by
  go_enter Try.func25, Try.ntmps25
  go_wp2_with (first
    | (go_at_call 63; refine (in_any _ _ _ _).mono ?_; rintro e w' ⟨rfl, rfl⟩)
    | fail)
  go_ret
  exact ⟨rfl, rfl⟩
set_option maxHeartbeats 1000000 in
theorem when_any (b : Bool) (n : Int) (w : World) : Calls Try.prog 24 #[.bool b, .int .i64 n] w (Same (.int .i64 (if b then n else 0)) w) := by
  cases b
  all_goals
    go_enter Try.func24, Try.ntmps24
    go_wp2
    go_ret
    exact ⟨by simp, rfl⟩
set_option maxHeartbeats 1000000 in
theorem compress_no (x : Int) (w : World) (h : isS x = false) :
    Calls Try.prog 23 #[.int .i64 x] w (Same (.tuple #[.int .u8 0, .int .i64 1]) w) := by
  go_enter Try.func23, Try.ntmps23
  go_wp2_with (first
    | (go_at_call 68; refine (isSample_any _ _).mono ?_; rintro e w' ⟨rfl, rfl⟩)
    | fail)
  go_ret2
  exact ⟨rfl, rfl⟩
end Go.Proofs.Ytdknfhpconfhkaa

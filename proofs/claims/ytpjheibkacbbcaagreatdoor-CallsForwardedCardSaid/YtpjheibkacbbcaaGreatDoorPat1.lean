/- Contracts of the sets of signs: only, from, digits. Conditions: none. -/
import Derived.Test.YtpjheibkacbbcaaGreatDoorBun1
import Derived.Test.YtpjheibkacbbcaaGreatDoorPatP
namespace Go.Proofs.YtpjheibkacbbcaaGreatDoor
open Go.RowKit

theorem bv16 (a : Nat) (ha : a < 65536) : (BitVec.ofInt 16 (a : Int)).toNat = a := by
  rw [BitVec.ofInt_natCast, BitVec.toNat_ofNat]; exact Nat.mod_eq_of_lt (by omega)
theorem u16_or (a b : Nat) (ha : a < 65536) (hb : b < 65536) : bits .or .u16 (a : Int) (b : Int) = ((a ||| b : Nat) : Int) := by
  have hx : a ||| b < 2 ^ 16 := Nat.or_lt_two_pow (by omega) (by omega)
  show IntKind.u16.wrap ((BitVec.ofInt 16 (a : Int) ||| BitVec.ofInt 16 (b : Int)).toNat : Int) = _
  rw [BitVec.toNat_or, bv16 a ha, bv16 b hb, IntKind.wrap_u16]
  omega
theorem u16_and (a b : Nat) (ha : a < 65536) (hb : b < 65536) : bits .and .u16 (a : Int) (b : Int) = ((a &&& b : Nat) : Int) := by
  have hx : a &&& b < 2 ^ 16 := Nat.and_lt_two_pow _ (by omega)
  show IntKind.u16.wrap ((BitVec.ofInt 16 (a : Int) &&& BitVec.ofInt 16 (b : Int)).toNat : Int) = _
  rw [BitVec.toNat_and, bv16 a ha, bv16 b hb, IntKind.wrap_u16]
  omega

theorem sgIx_byte : ∀ c : Fin 256, c.val ∈ sgn → Lib.indexByte [35, 42, 48, 49, 50, 51, 52, 53, 54, 55, 56, 57] c.val.toUInt8 = (sgIx c.val : Int) ∧ sgIx c.val ≤ 11 := by decide +kernel
theorem sgn_lt {c : Nat} (h : c ∈ sgn) : c < 256 := by simp [sgn] at h; omega
theorem only_fin : ∀ c ∈ sgn, IntKind.u16.wrap (1 * 2 ^ (sgIx c : Int).toNat) = (onlyM c : Int) ∧ onlyM c < 4096 := by decide +kernel
theorem sign_ix (c : Nat) (w : World) (hc : c ∈ sgn) :
    Calls Tryz.prog 180 #[.string ⟨#[35, 42, 48, 49, 50, 51, 52, 53, 54, 55, 56, 57]⟩, .int .u8 c] w (Same (.int .i64 (sgIx c : Int)) w) := by
  refine (indexByte_any _ c w).mono ?_
  rintro e w' ⟨rfl, rfl⟩
  refine ⟨?_, rfl⟩
  rw [Int.toNat_natCast]
  have := (sgIx_byte ⟨c, sgn_lt hc⟩ hc).1
  exact congrArg (fun z => Ending.returned (.int .i64 z)) this
set_option maxHeartbeats 1000000 in
theorem only_any (c : Nat) (w : World) (hc : c ∈ sgn) : Calls Tryz.prog 261 #[.int .u8 c] w (Same (.int .u16 (onlyM c : Nat)) w) := by
  have HF := Lib.hid (only_fin c hc).1
  have h1 : sgIx c ≤ 11 := (sgIx_byte ⟨c, sgn_lt hc⟩ hc).2
  have HC := Lib.hid hc; clear hc
  go_enter Tryz.func261, Tryz.ntmps261
  go_wp2_with fail
  refine (sign_ix c _ HC.out).mono ?_
  rintro e w' ⟨rfl, rfl⟩
  go_wp2_with fail
  go_ret
  exact ⟨by
    have h := HF.out
    rw [Int.toNat_natCast, Int.one_mul] at h
    rw [← h]
    rfl, rfl⟩
theorem fromK_bd {a k : Nat} (h0 : 48 ≤ a) (h1 : a + k ≤ 58) : fromK a k < 65536 := by
  induction k with
  | zero => unfold fromK; omega
  | succ k ih =>
    unfold fromK
    have h2 : a + k ∈ sgn := by simp [sgn]; omega
    have := (only_fin _ h2).2
    exact Nat.or_lt_two_pow (n := 16) (ih (by omega)) (by omega)
theorem dig_sgn {c : Nat} (h0 : 48 ≤ c) (h1 : c ≤ 57) : c ∈ sgn := by simp [sgn]; omega
set_option maxHeartbeats 2000000 in
theorem from_any (a b : Nat) (w : World) (h0 : 48 ≤ a) (h1 : a ≤ b) (h2 : b ≤ 57) : Calls Tryz.prog 259 #[.int .u8 a, .int .u8 b] w (Same (.int .u16 (fromM a b : Nat)) w) := by
  go_enter Tryz.func259, Tryz.ntmps259
  go_wp2_with fail
  go_loop [5, 6] (fun v t => ∃ k c : Nat, k ≤ b + 1 - a ∧ c = a + k ∧ v = .int .u16 (fromK a k : Nat) ∧ t = .int .u8 c) (fun _ t => 58 - (intOf t).toNat)
  case atStart => exact ⟨0, a, Nat.zero_le _, rfl, rfl, rfl⟩
  case round =>
    obtain ⟨k, c, hk, hck, rfl, rfl⟩ := hrel
    have hb := fromK_bd (a := a) (k := k) h0 (by omega)
    have c0 : 48 ≤ c := by omega
    have c1 : c ≤ 58 := by omega
    by_cases hlt : k < b + 1 - a
    · have hc := dig_sgn (c := c) (by omega) (by omega)
      have ho := (only_fin _ hc).2
      have HOR := Lib.hid (u16_or (fromK a k) (onlyM c) hb (by omega))
      have HC := Lib.hid hc; clear hc
      have d1 : decide ((c : Int) ≤ (b : Int)) = true := decide_eq_true (by omega)
      have d2 : c ≤ b := by omega
      have HK := Lib.hid hck; clear hck
      go_wp2_with (first
        | (go_at_call 261; refine (only_any c _ HC.out).mono ?_; rintro e w' ⟨rfl, rfl⟩)
        | fail)
      go_round
      case rel => exact ⟨k + 1, c + 1, by omega, by rw [HK.out]; omega, by rw [HOR.out, HK.out]; rfl, by go_num⟩
      case measure => simp [intOf]; omega
    · have d1 : decide ((c : Int) ≤ (b : Int)) = false := decide_eq_false (by omega)
      have d2 : ¬ c ≤ b := by omega
      have hkb : k = b + 1 - a := by omega
      have HK := Lib.hid hkb; clear hck hkb
      go_wp2_with fail
      go_ret
      exact ⟨by rw [HK.out]; rfl, rfl⟩
theorem run_lit {P : Program} {src dst e t : TypeId} (hs : P.underlying src = some (.slice e)) (he : P.underlying e = some (.int .u8)) (hd : P.underlying dst = some .string) (l : List Nat) (cs : Array Value) (n : Nat) (hcs : cs = (l.map (fun c : Nat => Value.int .u8 (c : Int))).toArray) (hn : l.length = n) (w : World) :
    (convert src dst (.slice (some ⟨w.heap.size, 0, none⟩) n n)).run P (w.alloc (.cells cs t)) = .ok (.string (strN l)) (w.alloc (.cells cs t)) := by
  subst hcs
  have h : Ints .u8 (w.alloc (.cells (l.map (fun c : Nat => Value.int .u8 (c : Int))).toArray t)) w.heap.size (some ⟨w.heap.size, 0, none⟩) n n (l.map (fun c : Nat => (c : Int))) := by
    have := Reads.blk (Blk.new w t (l.map (fun c : Nat => Value.int .u8 (c : Int))).toArray) 1 n (by simp [hn])
    unfold Ints
    rw [List.map_map]
    exact this
  rw [run_str hs he hd h]
  unfold strI strN
  rw [List.map_map]
  rfl
theorem runE_stop {M f b : Nat} (h : (decide (b < 57) && hasM M (b + 1)) = false) : runE M f b = b := by
  cases f with
  | zero => rfl
  | succ f => unfold runE; rw [h]; rfl
theorem runE_go {M f b : Nat} (h : (decide (b < 57) && hasM M (b + 1)) = true) : runE M (f + 1) b = runE M f (b + 1) := by
  rw [runE, if_pos h]
theorem digF_stop {M f a : Nat} {s : List Nat} (h : 58 ≤ a) : digF M f a s = s := by
  cases f with
  | zero => rfl
  | succ f => unfold digF; rw [if_neg (by omega)]
theorem and_has {M c : Nat} (hM : M < 4096) (hc : c ∈ sgn) : (bits .and .u16 (M : Int) (onlyM c : Nat) == 0) = !hasM M c ∧ (bits .and .u16 (M : Int) (onlyM c : Nat) != 0) = hasM M c := by
  rw [u16_and _ _ (by omega) (by have := (only_fin _ hc).2; omega)]
  unfold hasM
  constructor
  · rw [Bool.eq_iff_iff]; simp
  · rw [Bool.eq_iff_iff]; simp
set_option maxRecDepth 100000 in
set_option maxHeartbeats 8000000 in
theorem digits_any (M : Nat) (w : World) (hM : M < 4096) : Calls Tryz.prog 295 #[.int .u16 M] w (RetV (.string (strN (digL M))) w) := by
  have hcv := fun l cs n hcs hn w => run_lit (P := Tryz.prog) (src := 144) (dst := 9) (e := 5) (t := 5) Tryz.underlying144 Tryz.underlying5 Tryz.underlying9 l cs n hcs hn w
  have HCV := Lib.hid hcv; clear hcv
  go_enter Tryz.func295, Tryz.ntmps295
  go_wp2_with fail
  go_loopw [3, 4, 5] (fun v t _ wr => ∃ (a f : Nat) (s : List Nat), 48 ≤ a ∧ a ≤ 58 ∧ 58 - a ≤ f ∧ v = .string (strN s) ∧ t = .int .u8 a ∧ (digF M f a s = digL M ∧ s.length ≤ 3 * (a - 48) ∧ w.grownBy wr none)) (fun _ t _ _ => 58 - (intOf t).toNat)
  case atStart => exact ⟨48, 10, [], by omega, by omega, by omega, rfl, rfl, rfl, by simp, gr_refl _ _⟩
  case round =>
    obtain ⟨a, f, s, a0, a1, hf, rfl, rfl, hd, hl, hg⟩ := hrel
    have HD := Lib.hid hd; have HG := Lib.hid hg; have HL := Lib.hid hl; clear hd hg hl
    by_cases hlt : a ≤ 57
    · have hc := dig_sgn (c := a) (by omega) (by omega)
      obtain ⟨f, rfl⟩ : ∃ f', f = f' + 1 := ⟨f - 1, by omega⟩
      have d1 : decide ((a : Int) ≤ 57) = true := decide_eq_true (by omega)
      have hz := and_has hM hc
      have HC := Lib.hid hc; clear hc
      cases hh : hasM M a
      · have hz1 : (bits .and .u16 (M : Int) (onlyM a : Nat) == 0) = true := by rw [hz.1, hh]; rfl
        have HH := Lib.hid hh
        clear hz hh
        go_wp2_with (first
          | (go_at_call 261; refine (only_any a _ HC.out).mono ?_; rintro e w' ⟨rfl, rfl⟩)
          | fail)
        go_roundw
        case rel => exact ⟨a + 1, f, s, by omega, by omega, by omega, rfl, by go_num, by
          have h := HD.out
          rw [digF, if_pos hlt, HH.out] at h
          exact h, by have := HL.out; omega, HG.out⟩
        case measure => simp [intOf]; omega
      · have hz1 : (bits .and .u16 (M : Int) (onlyM a : Nat) == 0) = false := by rw [hz.1, hh]; rfl
        have HH := Lib.hid hh
        clear hz hh
        go_wp2_with (first
          | (go_at_call 261; refine (only_any a _ HC.out).mono ?_; rintro e w' ⟨rfl, rfl⟩)
          | fail)
        go_loop [5] (fun u => ∃ b g : Nat, a ≤ b ∧ b ≤ 57 ∧ 57 - b ≤ g ∧ u = .int .u8 b ∧ runE M g b = runE M 10 a) (fun u => 58 - (intOf u).toNat)
        case atStart => exact ⟨a, 10, by omega, by omega, by omega, rfl, rfl⟩
        case round =>
          obtain ⟨b, g, b0, b1, hg2, rfl, hr⟩ := hrel
          have HR := Lib.hid hr; clear hr
          by_cases hb : b < 57
          · have hcb := dig_sgn (c := b + 1) (by omega) (by omega)
            obtain ⟨g, rfl⟩ : ∃ g', g = g' + 1 := ⟨g - 1, by omega⟩
            have d2 : decide ((b : Int) < 57) = true := decide_eq_true (by omega)
            obtain ⟨c, hcc⟩ : ∃ c : Nat, c = b + 1 := ⟨_, rfl⟩
            have hci : (b : Int) + 1 = (c : Int) := by omega
            have hz := and_has hM hcb
            have HB := Lib.hid hcb; clear hcb
            rw [← hcc] at hz HB
            cases hh : hasM M c
            · have hz2 : (bits .and .u16 (M : Int) (onlyM c : Nat) != 0) = false := by rw [hz.2, hh]
              have HB2 := Lib.hid (show (decide (b < 57) && hasM M (b + 1)) = false by rw [← hcc, hh]; simp)
              have HCC := Lib.hid hcc
              have HRB := Lib.hid (show runE M 10 a = b by rw [← HR.out, runE_stop HB2.out])
              have hsz : (strN s).size ≤ 30 := by rw [strN_size]; have := HL.out; omega
              clear hz hh hcc HB2 HR
              rcases (by omega : a + 1 < b ∨ (¬ a + 1 < b ∧ a < b) ∨ (¬ a < b)) with h3 | ⟨h3, h4⟩ | h3
              · have HP := Lib.hid (show piece a b = [a, 45, b] by unfold piece; rw [if_pos h3])
                have hcv := fun w => HCV.out [a, 45, b] #[.int .u8 (a : Int), .int .u8 45, .int .u8 (b : Int)] 3 rfl rfl w
                have htz : (strN [a, 45, b]).size ≤ 3 := by rw [strN_size]; simp
                go_wp2_with (first
                  | (go_at_call 261; refine (only_any c _ HB.out).mono ?_; rintro e w' ⟨rfl, rfl⟩)
                  | fail)
                go_roundw
                case rel => exact ⟨b + 1, f, s ++ [a, 45, b], by omega, by omega, by omega, by rw [strN_append], by first | go_num | (rw [← HCC.out]) | fail, by have h := HD.out; rw [digF, if_pos hlt, HH.out, if_pos rfl, HRB.out, HP.out] at h; exact h, by have := HL.out; simp; omega, gr_alloc HG.out _⟩
                case measure => simp [intOf]; omega
              · have HP := Lib.hid (show piece a b = [a, b] by unfold piece; rw [if_neg h3, if_pos h4])
                have hcv := fun w => HCV.out [a, b] #[.int .u8 (a : Int), .int .u8 (b : Int)] 2 rfl rfl w
                have htz : (strN [a, b]).size ≤ 3 := by rw [strN_size]; simp
                go_wp2_with (first
                  | (go_at_call 261; refine (only_any c _ HB.out).mono ?_; rintro e w' ⟨rfl, rfl⟩)
                  | fail)
                go_roundw
                case rel => exact ⟨b + 1, f, s ++ [a, b], by omega, by omega, by omega, by rw [strN_append], by first | go_num | (rw [← HCC.out]) | fail, by have h := HD.out; rw [digF, if_pos hlt, HH.out, if_pos rfl, HRB.out, HP.out] at h; exact h, by have := HL.out; simp; omega, gr_alloc HG.out _⟩
                case measure => simp [intOf]; omega
              · obtain rfl : a = b := by omega
                have HP := Lib.hid (show piece a a = [a] by simp [piece])
                have hcv := fun w => HCV.out [a] #[.int .u8 (a : Int)] 1 rfl rfl w
                have htz : (strN [a]).size ≤ 3 := by rw [strN_size]; simp
                go_wp2_with (first
                  | (go_at_call 261; refine (only_any c _ HB.out).mono ?_; rintro e w' ⟨rfl, rfl⟩)
                  | fail)
                go_roundw
                case rel => exact ⟨a + 1, f, s ++ [a], by omega, by omega, by omega, by rw [strN_append], by first | go_num | (rw [← HCC.out]) | fail, by have h := HD.out; rw [digF, if_pos hlt, HH.out, if_pos rfl, HRB.out, HP.out] at h; exact h, by have := HL.out; simp; omega, gr_alloc HG.out _⟩
                case measure => simp [intOf]; omega
            · have hz2 : (bits .and .u16 (M : Int) (onlyM c : Nat) != 0) = true := by rw [hz.2, hh]
              have HB2 := Lib.hid (show (decide (b < 57) && hasM M (b + 1)) = true by rw [← hcc, hh]; simp [hb])
              have HCC := Lib.hid hcc
              have c57 : c ≤ 57 := by omega
              clear hz hh hcc
              go_wp2_with (first
                | (go_at_call 261; refine (only_any c _ HB.out).mono ?_; rintro e w' ⟨rfl, rfl⟩)
                | fail)
              go_round
              case rel => exact ⟨c, g, by have := HCC.out; omega, c57, by have := HCC.out; omega, rfl, by rw [HCC.out, ← runE_go HB2.out]; exact HR.out⟩
              case measure => simp [intOf]; omega
          · have hb57 : b = 57 := by omega
            have HRB := Lib.hid (show runE M 10 a = b by rw [← HR.out, runE_stop (by simp [hb])])
            have hsz : (strN s).size ≤ 30 := by rw [strN_size]; have := HL.out; omega
            clear HR
            have d2 : decide ((b : Int) < 57) = false := decide_eq_false (by omega)
            have HB57 := Lib.hid hb57; clear hb57
            rcases (by omega : a + 1 < b ∨ (¬ a + 1 < b ∧ a < b) ∨ (¬ a < b)) with h3 | ⟨h3, h4⟩ | h3
            · have HP := Lib.hid (show piece a b = [a, 45, b] by unfold piece; rw [if_pos h3])
              have hcv := fun w => HCV.out [a, 45, b] #[.int .u8 (a : Int), .int .u8 45, .int .u8 (b : Int)] 3 rfl rfl w
              have htz : (strN [a, 45, b]).size ≤ 3 := by rw [strN_size]; simp
              go_wp2_with (first
                | (go_at_call 261; refine (only_any a _ HB.out).mono ?_; rintro e w' ⟨rfl, rfl⟩)
                | fail)
              go_roundw
              case rel => exact ⟨b + 1, f, s ++ [a, 45, b], by omega, by omega, by omega, by rw [strN_append], by first | go_num | (rw [← HCC.out]) | fail, by have h := HD.out; rw [digF, if_pos hlt, HH.out, if_pos rfl, HRB.out, HP.out] at h; exact h, by have := HL.out; simp; omega, gr_alloc HG.out _⟩
              case measure => simp [intOf]; omega
            · have HP := Lib.hid (show piece a b = [a, b] by unfold piece; rw [if_neg h3, if_pos h4])
              have hcv := fun w => HCV.out [a, b] #[.int .u8 (a : Int), .int .u8 (b : Int)] 2 rfl rfl w
              have htz : (strN [a, b]).size ≤ 3 := by rw [strN_size]; simp
              go_wp2_with (first
                | (go_at_call 261; refine (only_any a _ HB.out).mono ?_; rintro e w' ⟨rfl, rfl⟩)
                | fail)
              go_roundw
              case rel => exact ⟨b + 1, f, s ++ [a, b], by omega, by omega, by omega, by rw [strN_append], by first | go_num | (rw [← HCC.out]) | fail, by have h := HD.out; rw [digF, if_pos hlt, HH.out, if_pos rfl, HRB.out, HP.out] at h; exact h, by have := HL.out; simp; omega, gr_alloc HG.out _⟩
              case measure => simp [intOf]; omega
            · obtain rfl : a = b := by omega
              have HP := Lib.hid (show piece a a = [a] by simp [piece])
              have hcv := fun w => HCV.out [a] #[.int .u8 (a : Int)] 1 rfl rfl w
              have htz : (strN [a]).size ≤ 3 := by rw [strN_size]; simp
              go_wp2_with (first
                | (go_at_call 261; refine (only_any a _ HB.out).mono ?_; rintro e w' ⟨rfl, rfl⟩)
                | fail)
              go_roundw
              case rel => exact ⟨a + 1, f, s ++ [a], by omega, by omega, by omega, by rw [strN_append], by first | go_num | (rw [← HCC.out]) | fail, by have h := HD.out; rw [digF, if_pos hlt, HH.out, if_pos rfl, HRB.out, HP.out] at h; exact h, by have := HL.out; simp; omega, gr_alloc HG.out _⟩
              case measure => simp [intOf]; omega
    · obtain rfl : a = 58 := by omega
      go_wp2_with fail
      go_ret
      exact ⟨by have h := HD.out; rw [digF_stop (by omega)] at h; rw [h]; rfl, HG.out⟩
end Go.Proofs.YtpjheibkacbbcaaGreatDoor

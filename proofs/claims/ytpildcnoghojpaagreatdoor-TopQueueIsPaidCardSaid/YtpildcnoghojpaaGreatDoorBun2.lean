/- Contracts of the sets of signs: only, from, digits. Conditions: none. -/
import Derived.Test.YtpildcnoghojpaaGreatDoorBun1
import Derived.Test.YtpildcnoghojpaaGreatDoorPatP
import Derived.Lib.Tables
import Derived.Lib.BitFns
namespace Go.Proofs.YtpildcnoghojpaaGreatDoor
section
open Go.RowKit

theorem bv16 (a : Nat) (ha : a < 65536) : (BitVec.ofInt 16 (a : Int)).toNat = a := by
  rw [BitVec.ofInt_natCast, BitVec.toNat_ofNat]; exact Nat.mod_eq_of_lt (by omega)
theorem u16_or (a b : Nat) (ha : a < 65536) (hb : b < 65536) : bits .or .u16 (a : Int) (b : Int) = ((a ||| b : Nat) : Int) := by
  have hx : a ||| b < 2 ^ 16 := Nat.or_lt_two_pow (by omega) (by omega)
  show IntKind.u16.wrap ((BitVec.ofInt 16 (a : Int) ||| BitVec.ofInt 16 (b : Int)).toNat : Int) = _
  rw [BitVec.toNat_or, bv16 a ha, bv16 b hb, IntKind.wrap_u16]
  omega
theorem u16_and (a b : Nat) (ha : a < 65536) (hb : b < 65536) : bits .and .u16 (a : Int) (b : Int) = ((a &&& b : Nat) : Int) := by
  have hx : a &&& b < 2 ^ 16 := Nat.and_lt_two_pow _ (by omega)
  show IntKind.u16.wrap ((BitVec.ofInt 16 (a : Int) &&& BitVec.ofInt 16 (b : Int)).toNat : Int) = _
  rw [BitVec.toNat_and, bv16 a ha, bv16 b hb, IntKind.wrap_u16]
  omega

theorem sgIx_byte : ∀ c : Fin 256, c.val ∈ sgn → Lib.indexByte [35, 42, 48, 49, 50, 51, 52, 53, 54, 55, 56, 57] c.val.toUInt8 = (sgIx c.val : Int) ∧ sgIx c.val ≤ 11 := by decide +kernel
theorem sgn_lt {c : Nat} (h : c ∈ sgn) : c < 256 := by simp [sgn] at h; omega
theorem only_fin : ∀ c ∈ sgn, IntKind.u16.wrap (1 * 2 ^ (sgIx c : Int).toNat) = (onlyM c : Int) ∧ onlyM c < 4096 := by decide +kernel
theorem sign_ix (c : Nat) (w : World) (hc : c ∈ sgn) :
    Calls Tryz.prog 94 #[.string ⟨#[35, 42, 48, 49, 50, 51, 52, 53, 54, 55, 56, 57]⟩, .int .u8 c] w (Same (.int .i64 (sgIx c : Int)) w) := by
  refine (indexByte_any _ c w).mono ?_
  rintro e w' ⟨rfl, rfl⟩
  refine ⟨?_, rfl⟩
  rw [Int.toNat_natCast]
  have := (sgIx_byte ⟨c, sgn_lt hc⟩ hc).1
  exact congrArg (fun z => Ending.returned (.int .i64 z)) this
set_option maxHeartbeats 1000000 in
theorem only_any (c : Nat) (w : World) (hc : c ∈ sgn) : Calls Tryz.prog 95 #[.int .u8 c] w (Same (.int .u16 (onlyM c : Nat)) w) := by
  have HF := Lib.hid (only_fin c hc).1
  have h1 : sgIx c ≤ 11 := (sgIx_byte ⟨c, sgn_lt hc⟩ hc).2
  have HC := Lib.hid hc; clear hc
  go_enter Tryz.func95, Tryz.ntmps95
  go_wp2_with fail
  refine (sign_ix c _ HC.out).mono ?_
  rintro e w' ⟨rfl, rfl⟩
  go_wp2_with fail
  go_ret
  exact ⟨by
    have h := HF.out
    rw [Int.toNat_natCast, Int.one_mul] at h
    rw [← h]
    rfl, rfl⟩
theorem fromK_bd {a k : Nat} (h0 : 48 ≤ a) (h1 : a + k ≤ 58) : fromK a k < 65536 := by
  induction k with
  | zero => unfold fromK; omega
  | succ k ih =>
    unfold fromK
    have h2 : a + k ∈ sgn := by simp [sgn]; omega
    have := (only_fin _ h2).2
    exact Nat.or_lt_two_pow (n := 16) (ih (by omega)) (by omega)
theorem dig_sgn {c : Nat} (h0 : 48 ≤ c) (h1 : c ≤ 57) : c ∈ sgn := by simp [sgn]; omega
set_option maxHeartbeats 2000000 in
theorem from_any (a b : Nat) (w : World) (h0 : 48 ≤ a) (h1 : a ≤ b) (h2 : b ≤ 57) : Calls Tryz.prog 92 #[.int .u8 a, .int .u8 b] w (Same (.int .u16 (fromM a b : Nat)) w) := by
  go_enter Tryz.func92, Tryz.ntmps92
  go_wp2_with fail
  go_loop [5, 6] (fun v t => ∃ k c : Nat, k ≤ b + 1 - a ∧ c = a + k ∧ v = .int .u16 (fromK a k : Nat) ∧ t = .int .u8 c) (fun _ t => 58 - (intOf t).toNat)
  case atStart => exact ⟨0, a, Nat.zero_le _, rfl, rfl, rfl⟩
  case round =>
    obtain ⟨k, c, hk, hck, rfl, rfl⟩ := hrel
    have hb := fromK_bd (a := a) (k := k) h0 (by omega)
    have c0 : 48 ≤ c := by omega
    have c1 : c ≤ 58 := by omega
    by_cases hlt : k < b + 1 - a
    · have hc := dig_sgn (c := c) (by omega) (by omega)
      have ho := (only_fin _ hc).2
      have HOR := Lib.hid (u16_or (fromK a k) (onlyM c) hb (by omega))
      have HC := Lib.hid hc; clear hc
      have d1 : decide ((c : Int) ≤ (b : Int)) = true := decide_eq_true (by omega)
      have d2 : c ≤ b := by omega
      have HK := Lib.hid hck; clear hck
      go_wp2_with (first
        | (go_at_call 95; refine (only_any c _ HC.out).mono ?_; rintro e w' ⟨rfl, rfl⟩)
        | fail)
      go_round
      case rel => exact ⟨k + 1, c + 1, by omega, by rw [HK.out]; omega, by rw [HOR.out, HK.out]; rfl, by go_num⟩
      case measure => simp [intOf]; omega
    · have d1 : decide ((c : Int) ≤ (b : Int)) = false := decide_eq_false (by omega)
      have d2 : ¬ c ≤ b := by omega
      have hkb : k = b + 1 - a := by omega
      have HK := Lib.hid hkb; clear hck hkb
      go_wp2_with fail
      go_ret
      exact ⟨by rw [HK.out]; rfl, rfl⟩
theorem run_lit {P : Program} {src dst e t : TypeId} (hs : P.underlying src = some (.slice e)) (he : P.underlying e = some (.int .u8)) (hd : P.underlying dst = some .string) (l : List Nat) (cs : Array Value) (n : Nat) (hcs : cs = (l.map (fun c : Nat => Value.int .u8 (c : Int))).toArray) (hn : l.length = n) (w : World) :
    (convert src dst (.slice (some ⟨w.heap.size, 0, none⟩) n n)).run P (w.alloc (.cells cs t)) = .ok (.string (strN l)) (w.alloc (.cells cs t)) := by
  subst hcs
  have h : Ints .u8 (w.alloc (.cells (l.map (fun c : Nat => Value.int .u8 (c : Int))).toArray t)) w.heap.size (some ⟨w.heap.size, 0, none⟩) n n (l.map (fun c : Nat => (c : Int))) := by
    have := Reads.blk (Blk.new w t (l.map (fun c : Nat => Value.int .u8 (c : Int))).toArray) 1 n (by simp [hn])
    unfold Ints
    rw [List.map_map]
    exact this
  rw [run_str hs he hd h]
  unfold strI strN
  rw [List.map_map]
  rfl
theorem runE_stop {M f b : Nat} (h : (decide (b < 57) && hasM M (b + 1)) = false) : runE M f b = b := by
  cases f with
  | zero => rfl
  | succ f => unfold runE; rw [h]; rfl
theorem runE_go {M f b : Nat} (h : (decide (b < 57) && hasM M (b + 1)) = true) : runE M (f + 1) b = runE M f (b + 1) := by
  rw [runE, if_pos h]
theorem digF_stop {M f a : Nat} {s : List Nat} (h : 58 ≤ a) : digF M f a s = s := by
  cases f with
  | zero => rfl
  | succ f => unfold digF; rw [if_neg (by omega)]
theorem and_has {M c : Nat} (hM : M < 4096) (hc : c ∈ sgn) : (bits .and .u16 (M : Int) (onlyM c : Nat) == 0) = !hasM M c ∧ (bits .and .u16 (M : Int) (onlyM c : Nat) != 0) = hasM M c := by
  rw [u16_and _ _ (by omega) (by have := (only_fin _ hc).2; omega)]
  unfold hasM
  constructor
  · rw [Bool.eq_iff_iff]; simp
  · rw [Bool.eq_iff_iff]; simp
set_option maxRecDepth 100000 in
set_option maxHeartbeats 8000000 in
theorem digits_any (M : Nat) (w : World) (hM : M < 4096) : Calls Tryz.prog 116 #[.int .u16 M] w (RetV (.string (strN (digL M))) w) := by
  have hcv := fun l cs n hcs hn w => run_lit (P := Tryz.prog) (src := 174) (dst := 9) (e := 5) (t := 5) Tryz.underlying174 Tryz.underlying5 Tryz.underlying9 l cs n hcs hn w
  have HCV := Lib.hid hcv; clear hcv
  go_enter Tryz.func116, Tryz.ntmps116
  go_wp2_with fail
  go_loopw [3, 4, 5] (fun v t _ wr => ∃ (a f : Nat) (s : List Nat), 48 ≤ a ∧ a ≤ 58 ∧ 58 - a ≤ f ∧ v = .string (strN s) ∧ t = .int .u8 a ∧ (digF M f a s = digL M ∧ s.length ≤ 3 * (a - 48) ∧ w.grownBy wr none)) (fun _ t _ _ => 58 - (intOf t).toNat)
  case atStart => exact ⟨48, 10, [], by omega, by omega, by omega, rfl, rfl, rfl, by simp, gr_refl _ _⟩
  case round =>
    obtain ⟨a, f, s, a0, a1, hf, rfl, rfl, hd, hl, hg⟩ := hrel
    have HD := Lib.hid hd; have HG := Lib.hid hg; have HL := Lib.hid hl; clear hd hg hl
    by_cases hlt : a ≤ 57
    · have hc := dig_sgn (c := a) (by omega) (by omega)
      obtain ⟨f, rfl⟩ : ∃ f', f = f' + 1 := ⟨f - 1, by omega⟩
      have d1 : decide ((a : Int) ≤ 57) = true := decide_eq_true (by omega)
      have hz := and_has hM hc
      have HC := Lib.hid hc; clear hc
      cases hh : hasM M a
      · have hz1 : (bits .and .u16 (M : Int) (onlyM a : Nat) == 0) = true := by rw [hz.1, hh]; rfl
        have HH := Lib.hid hh
        clear hz hh
        go_wp2_with (first
          | (go_at_call 95; refine (only_any a _ HC.out).mono ?_; rintro e w' ⟨rfl, rfl⟩)
          | fail)
        go_roundw
        case rel => exact ⟨a + 1, f, s, by omega, by omega, by omega, rfl, by go_num, by
          have h := HD.out
          rw [digF, if_pos hlt, HH.out] at h
          exact h, by have := HL.out; omega, HG.out⟩
        case measure => simp [intOf]; omega
      · have hz1 : (bits .and .u16 (M : Int) (onlyM a : Nat) == 0) = false := by rw [hz.1, hh]; rfl
        have HH := Lib.hid hh
        clear hz hh
        go_wp2_with (first
          | (go_at_call 95; refine (only_any a _ HC.out).mono ?_; rintro e w' ⟨rfl, rfl⟩)
          | fail)
        go_loop [5] (fun u => ∃ b g : Nat, a ≤ b ∧ b ≤ 57 ∧ 57 - b ≤ g ∧ u = .int .u8 b ∧ runE M g b = runE M 10 a) (fun u => 58 - (intOf u).toNat)
        case atStart => exact ⟨a, 10, by omega, by omega, by omega, rfl, rfl⟩
        case round =>
          obtain ⟨b, g, b0, b1, hg2, rfl, hr⟩ := hrel
          have HR := Lib.hid hr; clear hr
          by_cases hb : b < 57
          · have hcb := dig_sgn (c := b + 1) (by omega) (by omega)
            obtain ⟨g, rfl⟩ : ∃ g', g = g' + 1 := ⟨g - 1, by omega⟩
            have d2 : decide ((b : Int) < 57) = true := decide_eq_true (by omega)
            obtain ⟨c, hcc⟩ : ∃ c : Nat, c = b + 1 := ⟨_, rfl⟩
            have hci : (b : Int) + 1 = (c : Int) := by omega
            have hz := and_has hM hcb
            have HB := Lib.hid hcb; clear hcb
            rw [← hcc] at hz HB
            cases hh : hasM M c
            · have hz2 : (bits .and .u16 (M : Int) (onlyM c : Nat) != 0) = false := by rw [hz.2, hh]
              have HB2 := Lib.hid (show (decide (b < 57) && hasM M (b + 1)) = false by rw [← hcc, hh]; simp)
              have HCC := Lib.hid hcc
              have HRB := Lib.hid (show runE M 10 a = b by rw [← HR.out, runE_stop HB2.out])
              have hsz : (strN s).size ≤ 30 := by rw [strN_size]; have := HL.out; omega
              clear hz hh hcc HB2 HR
              rcases (by omega : a + 1 < b ∨ (¬ a + 1 < b ∧ a < b) ∨ (¬ a < b)) with h3 | ⟨h3, h4⟩ | h3
              · have HP := Lib.hid (show piece a b = [a, 45, b] by unfold piece; rw [if_pos h3])
                have hcv := fun w => HCV.out [a, 45, b] #[.int .u8 (a : Int), .int .u8 45, .int .u8 (b : Int)] 3 rfl rfl w
                have htz : (strN [a, 45, b]).size ≤ 3 := by rw [strN_size]; simp
                go_wp2_with (first
                  | (go_at_call 95; refine (only_any c _ HB.out).mono ?_; rintro e w' ⟨rfl, rfl⟩)
                  | fail)
                go_roundw
                case rel => exact ⟨b + 1, f, s ++ [a, 45, b], by omega, by omega, by omega, by rw [strN_append], by first | go_num | (rw [← HCC.out]) | fail, by have h := HD.out; rw [digF, if_pos hlt, HH.out, if_pos rfl, HRB.out, HP.out] at h; exact h, by have := HL.out; simp; omega, gr_alloc HG.out _⟩
                case measure => simp [intOf]; omega
              · have HP := Lib.hid (show piece a b = [a, b] by unfold piece; rw [if_neg h3, if_pos h4])
                have hcv := fun w => HCV.out [a, b] #[.int .u8 (a : Int), .int .u8 (b : Int)] 2 rfl rfl w
                have htz : (strN [a, b]).size ≤ 3 := by rw [strN_size]; simp
                go_wp2_with (first
                  | (go_at_call 95; refine (only_any c _ HB.out).mono ?_; rintro e w' ⟨rfl, rfl⟩)
                  | fail)
                go_roundw
                case rel => exact ⟨b + 1, f, s ++ [a, b], by omega, by omega, by omega, by rw [strN_append], by first | go_num | (rw [← HCC.out]) | fail, by have h := HD.out; rw [digF, if_pos hlt, HH.out, if_pos rfl, HRB.out, HP.out] at h; exact h, by have := HL.out; simp; omega, gr_alloc HG.out _⟩
                case measure => simp [intOf]; omega
              · obtain rfl : a = b := by omega
                have HP := Lib.hid (show piece a a = [a] by simp [piece])
                have hcv := fun w => HCV.out [a] #[.int .u8 (a : Int)] 1 rfl rfl w
                have htz : (strN [a]).size ≤ 3 := by rw [strN_size]; simp
                go_wp2_with (first
                  | (go_at_call 95; refine (only_any c _ HB.out).mono ?_; rintro e w' ⟨rfl, rfl⟩)
                  | fail)
                go_roundw
                case rel => exact ⟨a + 1, f, s ++ [a], by omega, by omega, by omega, by rw [strN_append], by first | go_num | (rw [← HCC.out]) | fail, by have h := HD.out; rw [digF, if_pos hlt, HH.out, if_pos rfl, HRB.out, HP.out] at h; exact h, by have := HL.out; simp; omega, gr_alloc HG.out _⟩
                case measure => simp [intOf]; omega
            · have hz2 : (bits .and .u16 (M : Int) (onlyM c : Nat) != 0) = true := by rw [hz.2, hh]
              have HB2 := Lib.hid (show (decide (b < 57) && hasM M (b + 1)) = true by rw [← hcc, hh]; simp [hb])
              have HCC := Lib.hid hcc
              have c57 : c ≤ 57 := by omega
              clear hz hh hcc
              go_wp2_with (first
                | (go_at_call 95; refine (only_any c _ HB.out).mono ?_; rintro e w' ⟨rfl, rfl⟩)
                | fail)
              go_round
              case rel => exact ⟨c, g, by have := HCC.out; omega, c57, by have := HCC.out; omega, rfl, by rw [HCC.out, ← runE_go HB2.out]; exact HR.out⟩
              case measure => simp [intOf]; omega
          · have hb57 : b = 57 := by omega
            have HRB := Lib.hid (show runE M 10 a = b by rw [← HR.out, runE_stop (by simp [hb])])
            have hsz : (strN s).size ≤ 30 := by rw [strN_size]; have := HL.out; omega
            clear HR
            have d2 : decide ((b : Int) < 57) = false := decide_eq_false (by omega)
            have HB57 := Lib.hid hb57; clear hb57
            rcases (by omega : a + 1 < b ∨ (¬ a + 1 < b ∧ a < b) ∨ (¬ a < b)) with h3 | ⟨h3, h4⟩ | h3
            · have HP := Lib.hid (show piece a b = [a, 45, b] by unfold piece; rw [if_pos h3])
              have hcv := fun w => HCV.out [a, 45, b] #[.int .u8 (a : Int), .int .u8 45, .int .u8 (b : Int)] 3 rfl rfl w
              have htz : (strN [a, 45, b]).size ≤ 3 := by rw [strN_size]; simp
              go_wp2_with (first
                | (go_at_call 95; refine (only_any a _ HB.out).mono ?_; rintro e w' ⟨rfl, rfl⟩)
                | fail)
              go_roundw
              case rel => exact ⟨b + 1, f, s ++ [a, 45, b], by omega, by omega, by omega, by rw [strN_append], by first | go_num | (rw [← HCC.out]) | fail, by have h := HD.out; rw [digF, if_pos hlt, HH.out, if_pos rfl, HRB.out, HP.out] at h; exact h, by have := HL.out; simp; omega, gr_alloc HG.out _⟩
              case measure => simp [intOf]; omega
            · have HP := Lib.hid (show piece a b = [a, b] by unfold piece; rw [if_neg h3, if_pos h4])
              have hcv := fun w => HCV.out [a, b] #[.int .u8 (a : Int), .int .u8 (b : Int)] 2 rfl rfl w
              have htz : (strN [a, b]).size ≤ 3 := by rw [strN_size]; simp
              go_wp2_with (first
                | (go_at_call 95; refine (only_any a _ HB.out).mono ?_; rintro e w' ⟨rfl, rfl⟩)
                | fail)
              go_roundw
              case rel => exact ⟨b + 1, f, s ++ [a, b], by omega, by omega, by omega, by rw [strN_append], by first | go_num | (rw [← HCC.out]) | fail, by have h := HD.out; rw [digF, if_pos hlt, HH.out, if_pos rfl, HRB.out, HP.out] at h; exact h, by have := HL.out; simp; omega, gr_alloc HG.out _⟩
              case measure => simp [intOf]; omega
            · obtain rfl : a = b := by omega
              have HP := Lib.hid (show piece a a = [a] by simp [piece])
              have hcv := fun w => HCV.out [a] #[.int .u8 (a : Int)] 1 rfl rfl w
              have htz : (strN [a]).size ≤ 3 := by rw [strN_size]; simp
              go_wp2_with (first
                | (go_at_call 95; refine (only_any a _ HB.out).mono ?_; rintro e w' ⟨rfl, rfl⟩)
                | fail)
              go_roundw
              case rel => exact ⟨a + 1, f, s ++ [a], by omega, by omega, by omega, by rw [strN_append], by first | go_num | (rw [← HCC.out]) | fail, by have h := HD.out; rw [digF, if_pos hlt, HH.out, if_pos rfl, HRB.out, HP.out] at h; exact h, by have := HL.out; simp; omega, gr_alloc HG.out _⟩
              case measure => simp [intOf]; omega
    · obtain rfl : a = 58 := by omega
      go_wp2_with fail
      go_ret
      exact ⟨by have h := HD.out; rw [digF_stop (by omega)] at h; rw [h]; rfl, HG.out⟩
end
end Go.Proofs.YtpildcnoghojpaaGreatDoor
/- Contracts of the reading of a set and of an element of a pattern. Conditions: none. -/
namespace Go.Proofs.YtpildcnoghojpaaGreatDoor
section
open Go.RowKit

/-- A function that only reads: draws of its order aside, the world stays. -/
def DrewV (v : Value) (w : World) (e : Ending) (w' : World) : Prop := e = .returned v ∧ ∃ k, w' = w.drewN k

/-- The first place of a byte, or -1. -/
def idxL (l : List Nat) (c : Nat) : Int := if c ∈ l then ((l.takeWhile (· != c)).length : Int) else -1
theorem idx_eq (l : List UInt8) (c : Nat) (hc : c < 256) : Lib.indexByte l c.toUInt8 = idxL (l.map UInt8.toNat) c := by
  induction l with
  | nil => simp [Lib.indexByte, idxL]
  | cons b l ih =>
    have hb : (b == c.toUInt8) = (b.toNat == c) := by
      rw [Bool.eq_iff_iff, beq_iff_eq, beq_iff_eq]
      constructor
      · rintro rfl; simp [Nat.mod_eq_of_lt hc]
      · rintro rfl; simp
    unfold Lib.indexByte
    rw [ih, hb]
    unfold idxL
    by_cases h : b.toNat = c
    · simp [h]
    · have h' : (b.toNat == c) = false := by simpa using h
      rw [h']
      have hm : (c ∈ (b :: l).map UInt8.toNat) ↔ c ∈ l.map UInt8.toNat := by simp [Ne.symm h]
      by_cases h2 : c ∈ l.map UInt8.toNat
      · rw [if_pos h2, if_pos (hm.2 h2)]
        have h3 : (b.toNat != c) = true := by simpa using h
        simp only [List.map_cons, List.takeWhile_cons, h3, if_true, List.length_cons]
        have : ((((l.map UInt8.toNat).takeWhile (· != c)).length : Int) == -1) = false := by
          rw [beq_eq_false_iff_ne]; omega
        rw [this]
        simp
      · rw [if_neg h2, if_neg (fun h3 => h2 (hm.1 h3))]
        simp
theorem indexByteN (s : ByteArray) (c : Nat) (w : World) (hc : c < 256) : Calls Tryz.prog 94 #[.string s, .int .u8 c] w (Same (.int .i64 (idxL (nb s) c)) w) := by
  refine (indexByte_any s c w).mono ?_
  rintro e w' ⟨rfl, rfl⟩
  refine ⟨?_, rfl⟩
  rw [Int.toNat_natCast, idx_eq _ _ hc]
  rfl

/-- Go's own table, as the translation writes it. -/
theorem pop_fold : (⟨((([0, 1, 1, 2, 1, 2, 2, 3, 1, 2, 2, 3, 2, 3, 3, 4, 1, 2, 2, 3, 2, 3, 3, 4, 2, 3, 3, 4, 3, 4, 4, 5, 1, 2, 2, 3, 2, 3, 3, 4, 2, 3, 3, 4, 3, 4, 4, 5, 2, 3, 3, 4, 3, 4, 4, 5, 3, 4, 4, 5, 4, 5, 5, 6] : List UInt8).append [1, 2, 2, 3, 2, 3, 3, 4, 2, 3, 3, 4, 3, 4, 4, 5, 2, 3, 3, 4, 3, 4, 4, 5, 3, 4, 4, 5, 4, 5, 5, 6, 2, 3, 3, 4, 3, 4, 4, 5, 3, 4, 4, 5, 4, 5, 5, 6, 3, 4, 4, 5, 4, 5, 5, 6, 4, 5, 5, 6, 5, 6, 6, 7]).append ([1, 2, 2, 3, 2, 3, 3, 4, 2, 3, 3, 4, 3, 4, 4, 5, 2, 3, 3, 4, 3, 4, 4, 5, 3, 4, 4, 5, 4, 5, 5, 6, 2, 3, 3, 4, 3, 4, 4, 5, 3, 4, 4, 5, 4, 5, 5, 6, 3, 4, 4, 5, 4, 5, 5, 6, 4, 5, 5, 6, 5, 6, 6, 7].append [2, 3, 3, 4, 3, 4, 4, 5, 3, 4, 4, 5, 4, 5, 5, 6, 3, 4, 4, 5, 4, 5, 5, 6, 4, 5, 5, 6, 5, 6, 6, 7, 3, 4, 4, 5, 4, 5, 5, 6, 4, 5, 5, 6, 5, 6, 6, 7, 4, 5, 5, 6, 5, 6, 6, 7, 5, 6, 6, 7, 6, 7, 7, 8])).toArray⟩ : ByteArray) = Lib.pop8tab := by decide +kernel
set_option maxRecDepth 100000 in
set_option maxHeartbeats 2000000 in
theorem ones_any (M : Nat) (w : World) (hM : M < 4096) : Calls Tryz.prog 115 #[.int .u16 M] w (DrewV (.int .i64 (cntM M : Nat)) w) := by
  have h1 : bits .and .u16 (M : Int) 255 = (M : Int) % 256 := by
    have := u16_and M 255 (by omega) (by omega)
    rw [show M &&& 255 = M % 256 from Nat.and_two_pow_sub_one_eq_mod M 8] at this
    rw [show ((M % 256 : Nat) : Int) = (M : Int) % 256 by omega] at this
    exact this
  have h4 : (0 : Int) ≤ (M : Int) / 256 := by omega
  have h5 : (M : Int) / 256 ≤ 255 := by omega
  have h6 : (0 : Int) ≤ (M : Int) % 256 := by omega
  have h7 : (M : Int) % 256 ≤ 255 := by omega
  have e1 := Lib.pop8_eq ⟨M / 256, by omega⟩
  have e2 := Lib.pop8_eq ⟨M % 256, by omega⟩
  have b1 := Lib.onesCount_le8 ⟨M / 256, by omega⟩
  have b2 := Lib.onesCount_le8 ⟨M % 256, by omega⟩
  dsimp only at e1 e2 b1 b2
  rw [show ((M / 256 : Nat) : Int) = (M : Int) / 256 by omega] at e1
  rw [show ((M % 256 : Nat) : Int) = (M : Int) % 256 by omega] at e2
  have HC := Lib.hid (show cntM M = Lib.onesCount (M / 256) + Lib.onesCount (M % 256) from rfl)
  generalize Lib.onesCount (M / 256) = p1 at *
  generalize Lib.onesCount (M % 256) = p2 at *
  have hfold := pop_fold
  go_enter Tryz.func115, Tryz.ntmps115
  go_wp2_with fail
  go_quiet (fail)
  go_wp2_with fail
  go_ret
  exact ⟨by rw [HC.out]; go_num, _, rfl⟩

/-- What readSet answers. -/
def rsOf (o : Option Nat) (n : Nat) : Nat × Nat := o.elim (0, 0) (fun M => (M, n + 1))
def rsL (l : List Nat) : Nat × Nat := rsOf (if 93 ∈ l then setM (l.takeWhile (· != 93)) else none) (l.takeWhile (· != 93)).length
theorem bnot_true {a B : Bool} (h : a = !B) (ha : a = false) : B = true := by subst ha; cases B <;> simp_all
section
variable {b : List Nat} {f i m : Nat}
theorem psF_end (h : ¬ i < b.length) : psF b f i m = some m := by
  cases f with
  | zero => rfl
  | succ f => rw [psF, if_neg h]
theorem psF_bad (h : i < b.length) (hc : b.getD i 0 < 48 ∨ 57 < b.getD i 0) : psF b (f + 1) i m = none := by
  rw [psF, if_pos h, if_pos (by simpa using hc)]
theorem psF_range {c d : Nat} (h : i + 2 < b.length) (hc : b.getD i 0 = c) (h0 : 48 ≤ c) (h1 : c ≤ 57) (h2 : b.getD (i + 1) 0 = 45) (hd : b.getD (i + 2) 0 = d) (h3 : c < d) (h4 : d ≤ 57) : psF b (f + 1) i m = psF b f (i + 3) (m ||| fromM c d) := by
  rw [psF, if_pos (by omega), hc, hd, h2, if_neg (by simp; omega), if_pos (by simp; omega)]
theorem psF_one {c : Nat} (h : i < b.length) (hc : b.getD i 0 = c) (h0 : 48 ≤ c) (h1 : c ≤ 57) (hn : ¬ (i + 2 < b.length ∧ b.getD (i + 1) 0 = 45 ∧ c < b.getD (i + 2) 0 ∧ b.getD (i + 2) 0 ≤ 57)) : psF b (f + 1) i m = psF b f (i + 1) (m ||| fromM c c) := by
  rw [psF, if_pos h, hc, if_neg (by simp; omega), if_neg (fun hx => hn (by simpa [and_assoc] using hx))]
end
theorem take_get {l : List Nat} {i : Nat} (h : i < (l.takeWhile (· != 93)).length) : (l.takeWhile (· != 93)).getD i 0 = l.getD i 0 := by
  obtain ⟨t, ht⟩ : ∃ t, l = l.takeWhile (· != 93) ++ t := ⟨l.dropWhile (· != 93), (List.takeWhile_append_dropWhile).symm⟩
  conv => rhs; rw [ht]
  rw [List.getD_eq_getElem?_getD, List.getD_eq_getElem?_getD, List.getElem?_append_left h]
theorem takeWhile_len {l : List Nat} (h : 93 ∈ l) : (l.takeWhile (· != 93)).length < l.length := by
  have ht : l.takeWhile (· != 93) ++ l.dropWhile (· != 93) = l := List.takeWhile_append_dropWhile
  have hl := congrArg List.length ht
  rw [List.length_append] at hl
  rcases Nat.eq_zero_or_pos (l.dropWhile (· != 93)).length with h0 | h0
  · exfalso
    have h1 : l.dropWhile (· != 93) = [] := List.eq_nil_of_length_eq_zero h0
    rw [h1, List.append_nil] at ht
    rw [← ht] at h
    have := List.all_takeWhile (l := l) (p := (· != 93))
    rw [List.all_eq_true] at this
    have := this 93 h
    simp at this
  · omega
theorem take_body (l : List Nat) : l.take (l.takeWhile (· != 93)).length = l.takeWhile (· != 93) := by
  have ht : l.takeWhile (· != 93) ++ l.dropWhile (· != 93) = l := List.takeWhile_append_dropWhile
  conv => lhs; rw [← ht]
  rw [List.takeWhile_append_dropWhile]
  conv => lhs; arg 2; rw [← ht]
  exact List.take_left' rfl
theorem list_beq_nb (s t : ByteArray) : (s.toList == t.toList) = (nb s == nb t) := by
  rw [ByteArray.toList_eq, ByteArray.toList_eq, Bool.eq_iff_iff, beq_iff_eq, beq_iff_eq]
  constructor
  · intro h; unfold nb; rw [h]
  · intro h; rw [nb_inj h]
theorem digF_bd {M f a : Nat} {s : List Nat} (h : ∀ b ∈ s, b < 256) (ha : a ≤ 60) : ∀ b ∈ digF M f a s, b < 256 := by
  induction f generalizing a s with
  | zero => exact h
  | succ f ih =>
    unfold digF
    split
    · split
      · have hr : ∀ (g b : Nat), b ≤ 57 → runE M g b ≤ 57 := by
          intro g
          induction g with
          | zero => intro b hb; exact hb
          | succ g ih2 =>
            intro b hb
            unfold runE
            split
            · rename_i hc
              simp only [Bool.and_eq_true, decide_eq_true_eq] at hc
              exact ih2 (b + 1) (by omega)
            · exact hb
        have := hr 10 a (by omega)
        refine ih (fun b hb => ?_) (by omega)
        rcases List.mem_append.1 hb with h1 | h1
        · exact h b h1
        · unfold piece at h1
          split at h1
          · simp at h1; omega
          · split at h1
            · simp at h1; omega
            · simp at h1; omega
      · exact ih h (by omega)
    · exact h
theorem nb_digL (M : Nat) : nb (strN (digL M)) = digL M := nb_strN (digF_bd (by simp) (by omega))

theorem from48 (w : World) : Calls Tryz.prog 92 #[.int .u8 48, .int .u8 57] w (Same (.int .u16 (fromM 48 57 : Nat)) w) := from_any 48 57 w (by omega) (by omega) (by omega)
theorem from49 (w : World) : Calls Tryz.prog 92 #[.int .u8 49, .int .u8 57] w (Same (.int .u16 (fromM 49 57 : Nat)) w) := from_any 49 57 w (by omega) (by omega) (by omega)
theorem from50 (w : World) : Calls Tryz.prog 92 #[.int .u8 50, .int .u8 57] w (Same (.int .u16 (fromM 50 57 : Nat)) w) := from_any 50 57 w (by omega) (by omega) (by omega)
end
end Go.Proofs.YtpildcnoghojpaaGreatDoor

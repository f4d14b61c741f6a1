/- Contracts of the reading of packets, the program's and the document's, and of slices.Equal over bytes. Conditions: none. -/
import Derived.Test.YtdknfhpconfhkaaPktBytes
import Derived.BigQuiet
namespace Go.Proofs.Ytdknfhpconfhkaa
open Go.RowKit

/-- A number out of bytes, the highest first. -/
def ofBytes (l : List Int) : Int := l.foldl (fun n c => 256 * n + c) 0
theorem ofBytes_snoc (l : List Int) (c : Int) : ofBytes (l ++ [c]) = 256 * ofBytes l + c := by simp [ofBytes, List.foldl_append]
theorem ofBytes_bd : ∀ (k : Nat) (l : List Int), (∀ b ∈ l, 0 ≤ b ∧ b < 256) → l.length = k → 0 ≤ ofBytes l ∧ ofBytes l < 256 ^ k
  | 0, l, _, hl => by rw [List.eq_nil_of_length_eq_zero hl]; simp [ofBytes]
  | k + 1, l, h, hl => by
    have hne : l ≠ [] := fun e => by rw [e] at hl; cases hl
    obtain ⟨l', c, rfl⟩ : ∃ l' c, l = l' ++ [c] := ⟨l.dropLast, l.getLast hne, (List.dropLast_concat_getLast hne).symm⟩
    have hl' : l'.length = k := by simpa using hl
    obtain ⟨h0, h1⟩ := ofBytes_bd k l' (fun b hb => h b (List.mem_append.2 (.inl hb))) hl'
    have hc := h c (by simp)
    rw [ofBytes_snoc]
    have e : (256 : Int) ^ (k + 1) = 256 * 256 ^ k := by rw [Int.pow_succ, Int.mul_comm]
    rw [e]
    generalize (256 : Int) ^ k = p at *
    omega

theorem Bytes.len {w : World} {lo : Nat} {A : Option Addr} {n c : Nat} {l : List Int} (h : Bytes w lo A n c l) : l.length = n := h.1.len
theorem Bytes.get {w : World} {lo : Nat} {A : Option Addr} {n c : Nat} {l : List Int} (h : Bytes w lo A n c l) {i : Nat} (hi : i < n) : ∃ g o z, A = some ⟨g, o, none⟩ ∧ lo ≤ g ∧ g < w.heap.size ∧ l[i]? = some z ∧ w.cell? ⟨g, o + i, none⟩ = some (.int .u8 z) ∧ 0 ≤ z ∧ z < 256 := by
  obtain ⟨g, o, z, e, h1, h2, h3, h4⟩ := h.1.get hi
  exact ⟨g, o, z, e, h1, h2, h3, h4, h.2 z (mem_of_get h3)⟩

theorem ofInt_i64 (a : Nat) (ha : a < 9223372036854775808) : (BitVec.ofInt 64 (a : Int)).toNat = a := by
  rw [BitVec.ofInt_natCast, BitVec.toNat_ofNat]; exact Nat.mod_eq_of_lt (by omega)
theorem i64_or_nat (a b : Nat) (ha : a < 9223372036854775808) (hb : b < 9223372036854775808) : bits .or .i64 (a : Int) (b : Int) = ((a ||| b : Nat) : Int) := by
  have hx : a ||| b < 2 ^ 63 := Nat.or_lt_two_pow (by omega) (by omega)
  show IntKind.i64.wrap ((BitVec.ofInt 64 (a : Int) ||| BitVec.ofInt 64 (b : Int)).toNat : Int) = _
  rw [BitVec.toNat_or, ofInt_i64 a ha, ofInt_i64 b hb, IntKind.wrap_i64]
  omega
theorem i64_and_nat (a b : Nat) (ha : a < 9223372036854775808) (hb : b < 9223372036854775808) : bits .and .i64 (a : Int) (b : Int) = ((a &&& b : Nat) : Int) := by
  have hx : a &&& b < 2 ^ 63 := Nat.and_lt_two_pow _ (by omega)
  show IntKind.i64.wrap ((BitVec.ofInt 64 (a : Int) &&& BitVec.ofInt 64 (b : Int)).toNat : Int) = _
  rw [BitVec.toNat_and, ofInt_i64 a ha, ofInt_i64 b hb, IntKind.wrap_i64]
  omega
theorem or_byte (x z : Int) (hx : 0 ≤ x) (hx2 : x ≤ 1099511627776) (hz : 0 ≤ z) (hz2 : z < 256) : bits .or .i64 (x * 256) z = 256 * x + z := by
  obtain ⟨a, rfl⟩ := Int.eq_ofNat_of_zero_le hx
  obtain ⟨b, rfl⟩ := Int.eq_ofNat_of_zero_le hz
  have h := i64_or_nat (a * 256) b (by omega) (by omega)
  have e : 2 ^ 8 * a + b = 2 ^ 8 * a ||| b := Nat.two_pow_add_eq_or_of_lt (by omega) a
  rw [show a * 256 = 2 ^ 8 * a by omega, ← e] at h
  rw [show ((a : Int) * 256) = ((2 ^ 8 * a : Nat) : Int) by omega, h]
  omega

set_option maxHeartbeats 2000000 in
theorem get_any (lo : Nat) (A : Option Addr) (n c : Nat) (l : List Int) (w : World) (hb : Bytes w lo A n c l) (hn : n ≤ 6) :
    Calls Try.prog 64 #[.slice A n c] w (Same (.int .i64 (ofBytes l)) w) := by
  have HB := Lib.hid hb; clear hb
  go_enter Try.func64, Try.ntmps64
  go_wp2_with fail
  go_loop [3, 5, 8] (fun v _ t => ∃ i : Nat, i ≤ n ∧ t = .int .i64 i ∧ v = .int .i64 (ofBytes (l.take i))) (fun _ _ t => n - (intOf t).toNat)
  case atStart => exact ⟨0, Nat.zero_le _, rfl, rfl⟩
  case round =>
    obtain ⟨i, hi, rfl, rfl⟩ := hrel
    by_cases hlt : i < n
    · obtain ⟨g, o, z, rfl, _, _, hz, hc, b0, b1⟩ := HB.out.get hlt
      have hbd := ofBytes_bd i (l.take i) (fun b hb => HB.out.2 b (List.mem_of_mem_take hb)) (by rw [List.length_take, HB.out.len]; omega)
      have hp : (256 : Int) ^ i ≤ 1099511627776 := by
        rcases (by omega : i = 0 ∨ i = 1 ∨ i = 2 ∨ i = 3 ∨ i = 4 ∨ i = 5) with rfl | rfl | rfl | rfl | rfl | rfl <;> decide
      have q0 := hbd.1
      have q1 : ofBytes (l.take i) ≤ 1099511627776 := by omega
      have HZ := Lib.hid hz; clear hz hbd hp
      go_wp2_with fail
      go_round
      case rel => exact ⟨i + 1, by omega, by go_num, by rw [or_byte _ _ q0 q1 b0 b1, take_snoc' HZ.out, ofBytes_snoc]⟩
      case measure => simp [intOf]; omega
    · obtain rfl : i = n := by omega
      go_wp2_with fail
      go_ret
      exact ⟨by rw [List.take_of_length_le (by rw [HB.out.len]; exact Nat.le_refl _)]; rfl, rfl⟩

set_option maxHeartbeats 2000000 in
theorem getRef_any (lo : Nat) (A : Option Addr) (n c : Nat) (l : List Int) (w : World) (hb : Bytes w lo A n c l) (hn : n ≤ 6) :
    Calls Try.prog 65 #[.slice A n c] w (Same (.int .i64 (ofBytes l)) w) := by
  have HB := Lib.hid hb; clear hb
  go_enter Try.func65, Try.ntmps65
  go_wp2_with fail
  go_loop [3, 5, 8] (fun v _ t => ∃ i : Nat, i ≤ n ∧ t = .int .i64 i ∧ v = .int .i64 (ofBytes (l.take i))) (fun _ _ t => n - (intOf t).toNat)
  case atStart => exact ⟨0, Nat.zero_le _, rfl, rfl⟩
  case round =>
    obtain ⟨i, hi, rfl, rfl⟩ := hrel
    by_cases hlt : i < n
    · obtain ⟨g, o, z, rfl, _, _, hz, hc, b0, b1⟩ := HB.out.get hlt
      have hbd := ofBytes_bd i (l.take i) (fun b hb => HB.out.2 b (List.mem_of_mem_take hb)) (by rw [List.length_take, HB.out.len]; omega)
      have hp : (256 : Int) ^ i ≤ 1099511627776 := by
        rcases (by omega : i = 0 ∨ i = 1 ∨ i = 2 ∨ i = 3 ∨ i = 4 ∨ i = 5) with rfl | rfl | rfl | rfl | rfl | rfl <;> decide
      have q0 := hbd.1
      have q1 : ofBytes (l.take i) ≤ 1099511627776 := by omega
      have HZ := Lib.hid hz; clear hz hbd hp
      go_wp2_with fail
      go_round
      case rel => exact ⟨i + 1, by omega, by go_num, by rw [take_snoc' HZ.out, ofBytes_snoc]⟩
      case measure => simp [intOf]; omega
    · obtain rfl : i = n := by omega
      go_wp2_with fail
      go_ret
      exact ⟨by rw [List.take_of_length_le (by rw [HB.out.len]; exact Nat.le_refl _)]; rfl, rfl⟩

set_option maxHeartbeats 2000000 in
theorem equalB_any (lo lo' : Nat) (A A' : Option Addr) (n c n' c' : Nat) (l l' : List Int) (w : World) (h1 : Ints .u8 w lo A n c l) (h2 : Ints .u8 w lo' A' n' c' l') (hn2 : n ≤ 1000000000000) :
    Calls Try.prog 17 #[.slice A n c, .slice A' n' c'] w fun e w' => e = .returned (.bool (l == l')) ∧ ∃ k, w' = w.drewN k := by
  have H1 := Lib.hid h1; have H2 := Lib.hid h2; clear h1 h2
  by_cases hn : n = n'
  · subst hn
    go_enter Try.func17, Try.ntmps17
    go_wp2_with fail
    go_loopw [5, 13] (fun _ t wr => ∃ i : Nat, i ≤ n ∧ t = .int .i64 i ∧ l.take i = l'.take i ∧ ∃ k, wr = w.drewN k) (fun _ t _ => n - (intOf t).toNat)
    case atStart => exact ⟨0, Nat.zero_le _, rfl, rfl, 0, rfl⟩
    case round =>
      obtain ⟨i, hi, rfl, ht, k, rfl⟩ := hrel
      have HT := Lib.hid ht; clear ht
      by_cases hlt : i < n
      · obtain ⟨g, o, z, rfl, _, _, hz, hc⟩ := H1.out.get hlt
        obtain ⟨g', o', z', rfl, _, _, hz', hc'⟩ := H2.out.get hlt
        have HZ := Lib.hid hz; have HZ' := Lib.hid hz'; clear hz hz'
        have hi0 : (0 : Int) ≤ (i : Int) := by omega
        have hi1 : (i : Int) < (n : Int) := by omega
        go_wp2_with fail
        go_quiet (fail)
        by_cases hzz : z = z'
        · subst hzz
          have hne : (z != z) = false := by simp
          go_wp2_with fail
          go_roundw
          case rel => exact ⟨i + 1, by omega, by go_num, by rw [take_snoc' HZ.out, take_snoc' HZ'.out, HT.out], _, rfl⟩
          case measure => simp [intOf]; omega
        · have hne : (z != z') = true := by simpa using hzz
          have HZZ := Lib.hid hzz; clear hzz
          go_wp2_with fail
          go_ret
          refine ⟨?_, k + nq, by first | rfl | rw [World.drewN_drewN]⟩
          rw [show (l == l') = false from beq_eq_false_iff_ne.2 (fun e => HZZ.out (by have h1 := HZ.out; rw [e, HZ'.out] at h1; injection h1 with h1; exact h1.symm))]
          rfl
      · obtain rfl : i = n := by omega
        go_wp2_with fail
        go_ret
        refine ⟨?_, _, rfl⟩
        have h := HT.out
        rw [List.take_of_length_le (by rw [H1.out.len]; exact Nat.le_refl _), List.take_of_length_le (by rw [H2.out.len]; exact Nat.le_refl _)] at h
        rw [show (l == l') = true from beq_iff_eq.2 h]
        rfl
  · have hb : ((n : Int) != (n' : Int)) = true := by rw [bne_iff_ne]; omega
    have HN := Lib.hid hn; clear hn
    go_enter Try.func17, Try.ntmps17
    go_wp2_with fail
    go_ret
    refine ⟨?_, 0, rfl⟩
    rw [show (l == l') = false from beq_eq_false_iff_ne.2 (fun e => HN.out (by rw [← H1.out.len, e, H2.out.len]))]
    rfl

theorem Bytes.grown {w w' : World} {lo : Nat} {A : Option Addr} {n c : Nat} {l : List Int} (h : Bytes w lo A n c l) {row : Option Nat} (hg : w.grownBy w' row) (hr : ∀ g, row = some g → g < lo) : Bytes w' lo A n c l := ⟨h.1.grown hg hr, h.2⟩

theorem and127_all : ∀ k : Fin 256, IntKind.i64.wrap (bits .and .u8 (k.val : Int) 127) = (k.val : Int) % 128 := by decide +kernel
theorem and127 (y : Int) (h0 : 0 ≤ y) (h1 : y < 256) : IntKind.i64.wrap (bits .and .u8 y 127) = y % 128 := by
  obtain ⟨k, rfl⟩ := Int.eq_ofNat_of_zero_le h0
  exact and127_all ⟨k, by omega⟩
/-- What is wrong with bytes that shall be a packet. -/
def rdFault (l : List Int) : Int := if l.length < 12 ∨ l[0]? ≠ some 128 then 3 else if l.length - 12 > 1000 then 2 else 0
def rdPart (l : List Int) (i m : Nat) : Int := ofBytes ((l.drop i).take m)

/-- A packet and what is wrong. -/
def IsPktErr (lo : Nat) (l : List Int) (v : Value) (w : World) : Prop :=
  if rdFault l = 0 then ∃ (b : Int) (A : Option Addr) (n c : Nat), l[1]? = some b ∧ v = .tuple #[.agg #[.int .i64 (b % 128), .int .i64 (rdPart l 2 2), .int .i64 (rdPart l 4 4), .int .i64 (rdPart l 8 4), .bool (decide (128 ≤ b)), .slice A n c], .int .i64 0] ∧ Ints .u8 w lo A n c (l.drop 12) ∧ n ≤ 1000
  else v = .tuple #[.agg #[.int .i64 0, .int .i64 0, .int .i64 0, .int .i64 0, .bool false, .slice none 0 0], .int .i64 (rdFault l)]

set_option maxRecDepth 100000 in
set_option maxHeartbeats 4000000 in
theorem readPacket_any (lo : Nat) (A : Option Addr) (n c : Nat) (l : List Int) (w : World) (hb : Bytes w lo A n c l) (hn : n ≤ 1000000000000) :
    Calls Try.prog 14 #[.slice A n c] w (RetP (IsPktErr w.heap.size l) w) := by
  have HB := Lib.hid hb; clear hb
  by_cases h12 : n < 12
  · have HF := Lib.hid (show rdFault l = 3 by unfold rdFault; rw [if_pos (.inl (by rw [HB.out.len]; exact h12))])
    have h12' : decide ((n : Int) < 12) = true := by simp; omega
    go_enter Try.func14, Try.ntmps14
    go_wp2_with fail
    refine ret_cell_tmp Try.pktT rfl _ _ _ _ rfl rfl (Blk.new _ _ _) rfl rfl ?_
    exact ⟨_, rfl, by unfold IsPktErr; rw [if_neg (by rw [HF.out]; decide), HF.out]; rfl, gr_alloc (gr_refl _ _) _⟩
  · have h12' : decide ((n : Int) < 12) = false := by simp; omega
    obtain ⟨g, o, z, rfl, hlo, hlt, hz, hc, b0, b1⟩ := HB.out.get (show 0 < n by omega)
    rw [Nat.add_zero] at hc
    have hgw : (w.alloc (.cells #[.int .i64 0, .int .i64 0, .int .i64 0, .int .i64 0, .bool false, .slice none 0 0] 28)).cell? ⟨g, o, none⟩ = some (.int .u8 z) := (World.cell?_alloc_lt _ _ _ hlt).trans hc
    by_cases hz0 : z = 128
    · subst hz0
      by_cases h1k : n - 12 > 1000
      · have HF := Lib.hid (show rdFault l = 2 by unfold rdFault; rw [if_neg (by rw [hz, HB.out.len]; simp; omega), if_pos (by rw [HB.out.len]; exact h1k)])
        clear hz
        have h1k' : decide ((1000 : Int) < (n : Int) - 12) = true := by simp; omega
        go_enter Try.func14, Try.ntmps14
        go_wp2_with fail
        refine ret_cell_tmp Try.pktT rfl _ _ _ _ rfl rfl (Blk.new _ _ _) rfl rfl ?_
        exact ⟨_, rfl, by unfold IsPktErr; rw [if_neg (by rw [HF.out]; decide), HF.out]; rfl, gr_alloc (gr_refl _ _) _⟩
      · have HF := Lib.hid (show rdFault l = 0 by unfold rdFault; rw [if_neg (by rw [hz, HB.out.len]; simp; omega), if_neg (by rw [HB.out.len]; exact h1k)])
        clear hz
        have h1k' : decide ((1000 : Int) < (n : Int) - 12) = false := by simp; omega
        obtain ⟨g', o', y, e, _, _, hy, hcy, y0, y1⟩ := HB.out.get (show 1 < n by omega)
        injection e with e; injection e with e1 e2; subst e1; subst e2
        have HY := Lib.hid hy; clear hy
        have hcap := HB.out.1.cap
        have HBL := Lib.hid (HB.out.1.len)
        have i1 : (1 : Int) < (n : Int) := by omega
        have i4 : (4 : Int) ≤ (c : Int) := by omega
        have i8 : (8 : Int) ≤ (c : Int) := by omega
        have i12 : (12 : Int) ≤ (c : Int) := by omega
        have j12 : (12 : Int) ≤ (n : Int) := by omega
        have k1 : 1 < n := by omega
        have k4 : 4 ≤ c := by omega
        have k8 : 8 ≤ c := by omega
        have k12 : 12 ≤ c := by omega
        have l12 : 12 ≤ n := by omega
        have n2 : ¬ c = 2 := by omega
        have n4 : ¬ c = 4 := by omega
        have n8 : ¬ c = 8 := by omega
        obtain ⟨X, hX, hcut⟩ : ∃ X, (c = 12 ∧ X = some ⟨g, o, none⟩ ∨ ¬ c = 12 ∧ X = some ⟨g, o + 12, none⟩) ∧ ∀ w', Ints .u8 w' lo (some ⟨g, o, none⟩) n c l → Ints .u8 w' lo X (n - 12) (c - 12) (l.drop 12) := by
          by_cases h : c = 12
          · exact ⟨_, .inl ⟨h, rfl⟩, fun w' hh => by have := hh.cutTo 12 l12; rwa [if_pos h] at this⟩
          · exact ⟨_, .inr ⟨h, rfl⟩, fun w' hh => hh.subTo 12 l12⟩
        have HCUT := Lib.hid hcut; clear hcut
        rcases hX with ⟨hc12, rfl⟩ | ⟨hc12, rfl⟩
        all_goals
          go_enter Try.func14, Try.ntmps14
          go_wp2_with fail
          go_region_held3 (fun w' => w'.cell? ⟨g, o + 1, none⟩ = some (.int .u8 y) ∧ w.grownBy w' none)
            ((suffices hg : w.grownBy _ none from ⟨(World.cell?_of_block (hg.block g hlt (by simp))).trans hcy, hg⟩
              repeat (first | (with_reducible exact HG2.out) | (with_reducible refine gr_drew ?_) | (with_reducible refine gr_alloc ?_ _) | (refine gr_setCell ?_ (.inr (by simp)) _) | (with_reducible exact gr_refl _ _))))
            (first
              | (go_at_call 64
                 have hB : Bytes _ lo (some ⟨g, o, none⟩) n c l := HB.out.grown (by rename_i hS _ _; exact hS.2) (fun g e => by cases e)
                 first
                   | ((with_reducible refine (get_any lo _ _ _ _ _ ((hB.sub 2 2 (by omega)).recap (by omega)) (by omega)).mono ?_); rintro e w' ⟨rfl, rfl⟩)
                   | ((with_reducible refine (get_any lo _ _ _ _ _ ((hB.sub 4 4 (by omega)).recap (by omega)) (by omega)).mono ?_); rintro e w' ⟨rfl, rfl⟩)
                   | ((with_reducible refine (get_any lo _ _ _ _ _ ((hB.sub 8 4 (by omega)).recap (by omega)) (by omega)).mono ?_); rintro e w' ⟨rfl, rfl⟩)
                 clear hB)
              | (have hS' : w.grownBy _ none := (by rename_i hS _ _; exact hS.2)
                 refine step_app _ (by rfl) _ _ Try.byteT (by rfl) w.heap.size none 0 0 [] (by rfl) (by exact Own.nil _ _ _ _) _ _ _ _ _ (by rfl) (by exact (HCUT.out _ (HB.out.grown hS' (fun g e => by cases e)).1).recap (by omega)) (one_ints _ _) (by unfold maxLen; omega) (by omega) (by simp) ?_
                 intro A2 c2 w2 h2
                 have HG2 := Lib.hid (h2.gr hS' (Own.nil _ _ _ _) (Nat.le_refl _))
                 have hz2 := ((Blk.new w 28 #[.int .i64 0, .int .i64 0, .int .i64 0, .int .i64 0, .bool false, .slice none 0 0]).drew).grown h2.2.1 (by simp [blkOf])
                 have cZ := hz2.cell
                 have fZ := hz2.frozen
                 have HZ2 := Lib.hid hz2
                 have H2 := Lib.hid h2
                 clear hS' h2 hz2)
              | fail)
          go_wp2_with fail
          refine ret_cell_tmp Try.pktT rfl _ _ _ _ rfl rfl ((((((HZ2.out.set_ 0 _).set_ 1 _).set_ 2 _).set_ 3 _).set_ 4 _).set_ 5 _) rfl rfl ?_
          refine ⟨_, rfl, ?_, ?_⟩
          · unfold IsPktErr
            rw [if_pos HF.out]
            refine ⟨y, A2, n - 12, c2, HY.out, ?_, ?_, by omega⟩
            · rw [and127 y y0 y1]; rfl
            · have hne := H2.out.1.blk_ne HZ2.out (by decide)
              have ho := H2.out.1
              rw [List.nil_append, Nat.zero_add] at ho
              exact ((((((ho.far (p := ⟨w.heap.size, 0, none⟩) hne _).far (p := ⟨w.heap.size, 1, none⟩) hne _).far (p := ⟨w.heap.size, 2, none⟩) hne _).far (p := ⟨w.heap.size, 3, none⟩) hne _).far (p := ⟨w.heap.size, 4, none⟩) hne _).far (p := ⟨w.heap.size, 5, none⟩) hne _).reads
          · repeat (first | (with_reducible exact HG2.out) | (refine gr_setCell ?_ (.inr (by simp)) _))
    · have HF := Lib.hid (show rdFault l = 3 by unfold rdFault; rw [if_pos (.inr (by rw [hz]; simpa using hz0))])
      have hzb : (z != 128) = true := by simpa using hz0
      clear hz hz0
      go_enter Try.func14, Try.ntmps14
      go_wp2_with fail
      refine ret_cell_tmp Try.pktT rfl _ _ _ _ rfl rfl (Blk.new _ _ _) rfl rfl ?_
      exact ⟨_, rfl, by unfold IsPktErr; rw [if_neg (by rw [HF.out]; decide), HF.out]; rfl, gr_alloc (gr_refl _ _) _⟩
end Go.Proofs.Ytdknfhpconfhkaa

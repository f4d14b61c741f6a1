/- Contract of NumbersOf. Conditions: none. -/
import Derived.Test.YtdknfhpconfhkaaCount
namespace Go.Proofs.Ytdknfhpconfhkaa
open Go.RowKit

theorem Blk.new' (w : World) (t : TypeId) (cs : Array Value) {g : Nat} (hg : w.heap.size = g) : Blk (w.alloc (.cells cs t)) g t cs := by subst hg; exact Blk.new w t cs
def farN (m k : Int) : Int := if k ≤ m then m - k else k - m
/-- The nearer one of two numbers; of two that are as near, the greater one. -/
def pickN (m n k : Int) : Int := if farN m k < farN m n ∨ (farN m k = farN m n ∧ n < k) then k else n
theorem pickN_near {m sq : Int} (m0 : 0 ≤ m) (s0 : 0 ≤ sq) (s1 : sq ≤ 65535) : pickN m (pickN m (m - m % 65536 + sq) (m - m % 65536 + sq - 65536)) (m - m % 65536 + sq + 65536) = nearN m sq := by
  obtain ⟨q, hq⟩ : ∃ q, m % 65536 = q := ⟨_, rfl⟩
  obtain ⟨t, ht⟩ : ∃ t, m / 65536 = t := ⟨_, rfl⟩
  have hm : m = 65536 * t + q := by omega
  have q0 : 0 ≤ q := by omega
  have q1 : q < 65536 := by omega
  rw [hq]
  subst hm
  have hd : (sq - (65536 * t + q)) % 65536 = if q ≤ sq then sq - q else sq - q + 65536 := by split <;> omega
  unfold nearN
  rw [hd]
  clear hd hq ht
  unfold pickN farN
  by_cases h1 : q ≤ sq
  · rw [if_pos h1]
    by_cases h2 : 32768 < sq - q
    · rw [if_pos h2]
      repeat' split
      all_goals omega
    · rw [if_neg h2]
      repeat' split
      all_goals omega
  · rw [if_neg h1]
    by_cases h2 : 32768 < sq - q + 65536
    · rw [if_pos h2]
      repeat' split
      all_goals omega
    · rw [if_neg h2]
      repeat' split
      all_goals omega
def rnN (m n0 : Int) : Nat → Int
  | 0 => n0
  | 1 => pickN m n0 (n0 - 65536)
  | _ => pickN m (pickN m n0 (n0 - 65536)) (n0 + 65536)
theorem rnN_bd {m n0 : Int} (h1 : n0 - m ≤ 65535) (h2 : -65535 ≤ n0 - m) : -65535 ≤ rnN m n0 1 - m ∧ rnN m n0 1 - m ≤ 65535 ∧ rnN m n0 1 ≤ n0 := by
  show -65535 ≤ pickN m n0 (n0 - 65536) - m ∧ pickN m n0 (n0 - 65536) - m ≤ 65535 ∧ pickN m n0 (n0 - 65536) ≤ n0
  unfold pickN farN
  repeat' split
  all_goals omega
theorem pickN_yes {m n k : Int} (h : farN m k < farN m n ∨ (farN m k = farN m n ∧ n < k)) : pickN m n k = k := if_pos h
theorem pickN_no {m n k : Int} (h : ¬ (farN m k < farN m n ∨ (farN m k = farN m n ∧ n < k))) : pickN m n k = n := if_neg h
def NRel (w : World) (A' : Option Addr) (i c' : Nat) (out : List Int) (gK : Nat) (k1 k2 : Int) (wr : World) : Prop := w.grownBy wr none ∧ OwnI wr w.heap.size A' i c' out ∧ Blk wr gK 3 #[.int .i64 k1, .int .i64 k2]

set_option maxRecDepth 100000 in
set_option maxHeartbeats 20000000 in
theorem numbersOf_any (lo : Nat) (A : Option Addr) (n c : Nat) (l : List ArrV) (w : World) (h : Arrs w lo A n c l) (hf : arrFault l = 0) :
    Calls Try.prog 50 #[.slice A n c] w (RetP (IsOut .i64 w.heap.size (nums l)) w) := by
  have H := Lib.hid h; clear h
  have HOK := Lib.hid (arr_ok hf); clear hf
  have hn2 : n ≤ 2000 := by have := HOK.out.1; have := H.out.1.len; omega
  have HB := Lib.hid (numTo_bd (l := l) (fun a ha => (HOK.out.2 a ha).2.1))
  go_enter Try.func50, Try.ntmps50
  go_wp2_with fail
  go_loopw [3, 4, 5, 6, 7, 8, 10, 11, 12, 15] (fun v s4 _ _ _ _ _ _ _ t wr => ∃ (i : Nat) (A' : Option Addr) (c' : Nat) (out : List Int) (g : Int), i ≤ n ∧ t = .int .i64 i ∧ v = .slice A' i c' ∧ s4 = .int .i64 g ∧ numTo l i = (out, g) ∧ w.grownBy wr none ∧ OwnI wr w.heap.size A' i c' out) (fun _ _ _ _ _ _ _ _ _ t _ => n - (intOf t).toNat)
  case atStart => exact ⟨0, none, 0, [], 0, Nat.zero_le _, rfl, rfl, rfl, rfl, gr_refl _ _, Own.nil _ _ _ _⟩
  case round =>
    obtain ⟨i, A', c', out, gr, hi, rfl, rfl, rfl, hst, hg, ho⟩ := hrel
    have hbd := HB.out i (by rw [H.out.1.len]; exact hi)
    rw [hst] at hbd
    obtain ⟨_, b1, b2, b3, _⟩ := hbd
    dsimp only at b1 b2 b3
    have zr := hg.size
    have HST := Lib.hid hst; have HG := Lib.hid hg; have HO := Lib.hid ho
    clear hst hg ho
    by_cases hlt : i < n
    · obtain ⟨g, o, ⟨zat, zty, zsq, ztm, zsr, zmk, zA, zn, zc, zpay⟩, rfl, _, hgl, hz, hc⟩ := (H.out.1.grown HG.out (fun g e => by cases e)).get ArrV.row_len hlt
      have zok := (HOK.out.2 _ (mem_of_get hz)).2.1
      dsimp only at zok
      obtain ⟨z0, z1⟩ := zok
      have HZ := Lib.hid hz; have HC := Lib.hid hc
      clear hz hc
      by_cases h0 : 0 < i
      · have hi0 : decide ((0 : Int) < (i : Int)) = true := by simpa using h0
        have hi1 : ((i : Int) == 0) = false := by rw [beq_eq_false_iff_ne]; omega
        have hnb := nearN_bd gr zsq
        obtain ⟨x, hx⟩ : ∃ x, nearN gr zsq = x := ⟨_, rfl⟩
        rw [hx] at hnb
        obtain ⟨nb0, nb1⟩ := hnb
        have HX := Lib.hid hx; clear hx
        have b4 := b3 h0
        clear b3
        obtain ⟨n0, hn0⟩ : ∃ n0, gr - gr % 65536 + zsq = n0 := ⟨_, rfl⟩
        have hn1 : n0 - gr ≤ 65535 := by omega
        have hn3 : -65535 ≤ n0 - gr := by omega
        have HPN := Lib.hid (show pickN gr (pickN gr n0 (n0 - 65536)) (n0 + 65536) = x by rw [← hn0, pickN_near b1 z0 z1, HX.out])
        obtain ⟨wo, rfl⟩ : ∃ wo : World, wo = wr := ⟨_, rfl⟩
        go_wp2_with (first
          | (refine wpl_load_at Try.arrT rfl _ rfl _ rfl [.int .i64 zat, .int .i64 zty, .int .i64 zsq, .int .i64 ztm, .int .i64 zsr, .bool zmk, .slice zA zn zc] rfl (fun j u hu => by rw [add_mk]; exact HC.out j u hu) ?_)
          | fail)
        clear hn0
        go_loopw [7, 10, 11, 12, 41] (fun v _ _ _ t wr => ∃ (j : Nat) (nv : Int), j ≤ 2 ∧ t = .int .i64 j ∧ v = .int .i64 nv ∧ rnN gr n0 j = nv ∧ NRel w A' i c' out (wo.heap.size + 1) (n0 - 65536) (n0 + 65536) wr) (fun _ _ _ _ t _ => 2 - (intOf t).toNat)
        case atStart => exact ⟨0, n0, by omega, rfl, rfl, rfl, gr_alloc (gr_alloc HG.out _) _, Own.alloc (Own.alloc HO.out _) _, Blk.new' _ _ _ (by simp)⟩
        case round =>
          obtain ⟨j, nv, hj, rfl, rfl, hnv, hg2, ho2, hb2⟩ := hrel
          have kc0 := hb2.cell 0
          have kc1 := hb2.cell 1
          have zr2 := hg2.size
          have HNV := Lib.hid hnv; have HG2 := Lib.hid hg2; have HO2 := Lib.hid ho2; have HB2 := Lib.hid hb2
          clear hnv hg2 ho2 hb2
          rcases (by omega : j = 0 ∨ j = 1 ∨ j = 2) with rfl | rfl | rfl
          · obtain rfl : n0 = nv := HNV.out
            rcases (by omega : n0 ≤ gr ∨ (gr < n0 ∧ gr - (n0 - 65536) < n0 - gr) ∨ (gr < n0 ∧ gr - (n0 - 65536) = n0 - gr) ∨ (gr < n0 ∧ n0 - gr < gr - (n0 - 65536))) with q1 | ⟨q1, q2⟩ | ⟨q1, q2⟩ | ⟨q1, q2⟩
            · have heq : (gr - (n0 - 65536) == gr - n0) = false := by rw [beq_eq_false_iff_ne]; omega
              go_wp2_with fail
              go_roundw
              case rel =>
                refine ⟨0 + 1, n0, by omega, rfl, rfl, ?_, HG2.out, HO2.out, HB2.out⟩
                show pickN _ _ _ = _
                refine pickN_no ?_
                unfold farN
                repeat' split
                all_goals omega
              case measure => simp [intOf]
            · have hl : ¬ (n0 - gr < gr - n0) := by omega
              go_wp2_with fail
              go_roundw
              case rel =>
                refine ⟨0 + 1, n0 - 65536, by omega, rfl, rfl, ?_, HG2.out, HO2.out, HB2.out⟩
                show pickN _ _ _ = _
                refine pickN_yes ?_
                unfold farN
                repeat' split
                all_goals omega
              case measure => simp [intOf]
            · have hl : ¬ (n0 - gr < gr - n0) := by omega
              have heq : (gr - (n0 - 65536) == n0 - gr) = true := by rw [beq_iff_eq]; exact q2
              have q3 : n0 - gr ≤ gr - (n0 - 65536) := by omega
              clear q2
              go_wp2_with fail
              go_roundw
              case rel =>
                refine ⟨0 + 1, n0, by omega, rfl, rfl, ?_, HG2.out, HO2.out, HB2.out⟩
                show pickN _ _ _ = _
                refine pickN_no ?_
                unfold farN
                repeat' split
                all_goals omega
              case measure => simp [intOf]
            · have hl : ¬ (n0 - gr < gr - n0) := by omega
              have heq : (gr - (n0 - 65536) == n0 - gr) = false := by rw [beq_eq_false_iff_ne]; omega
              have q3 : ¬ gr - (n0 - 65536) < n0 - gr := by omega
              go_wp2_with fail
              go_roundw
              case rel =>
                refine ⟨0 + 1, n0, by omega, rfl, rfl, ?_, HG2.out, HO2.out, HB2.out⟩
                show pickN _ _ _ = _
                refine pickN_no ?_
                unfold farN
                repeat' split
                all_goals omega
              case measure => simp [intOf]
          · have hb := rnN_bd hn1 hn3
            rw [HNV.out] at hb
            obtain ⟨v0, v1, v2⟩ := hb
            have HN1 := Lib.hid (show pickN gr n0 (n0 - 65536) = nv from HNV.out)
            rcases (by omega : gr < nv ∨ (nv ≤ gr ∧ n0 + 65536 - gr < gr - nv) ∨ (nv ≤ gr ∧ n0 + 65536 - gr = gr - nv) ∨ (nv ≤ gr ∧ gr - nv < n0 + 65536 - gr)) with q1 | ⟨q1, q2⟩ | ⟨q1, q2⟩ | ⟨q1, q2⟩
            · have hl : ¬ (nv - gr < gr - nv) := by omega
              have heq : (n0 + 65536 - gr == nv - gr) = false := by rw [beq_eq_false_iff_ne]; omega
              go_wp2_with fail
              go_roundw
              case rel =>
                refine ⟨1 + 1, nv, by omega, rfl, rfl, ?_, HG2.out, HO2.out, HB2.out⟩
                show pickN _ (pickN _ _ _) _ = _
                rw [HN1.out]
                refine pickN_no ?_
                unfold farN
                repeat' split
                all_goals omega
              case measure => simp [intOf]
            · have hl : nv - gr < gr - nv := by omega
              go_wp2_with fail
              go_roundw
              case rel =>
                refine ⟨1 + 1, n0 + 65536, by omega, rfl, rfl, ?_, HG2.out, HO2.out, HB2.out⟩
                show pickN _ (pickN _ _ _) _ = _
                rw [HN1.out]
                refine pickN_yes ?_
                unfold farN
                repeat' split
                all_goals omega
              case measure => simp [intOf]
            · have hl : nv - gr < gr - nv := by omega
              have heq : (n0 + 65536 - gr == gr - nv) = true := by rw [beq_iff_eq]; exact q2
              have q3 : gr - nv ≤ n0 + 65536 - gr := by omega
              have Q2 := Lib.hid q2
              clear q2
              go_wp2_with fail
              go_roundw
              case rel =>
                have q2 := Q2.out
                refine ⟨1 + 1, n0 + 65536, by omega, rfl, rfl, ?_, HG2.out, HO2.out, HB2.out⟩
                show pickN _ (pickN _ _ _) _ = _
                rw [HN1.out]
                refine pickN_yes ?_
                unfold farN
                repeat' split
                all_goals omega
              case measure => simp [intOf]
            · by_cases hv : nv = gr
              · subst hv
                have heq : (n0 + 65536 - nv == nv - nv) = false := by rw [beq_eq_false_iff_ne]; omega
                have heq2 : (n0 + 65536 - nv == 0) = false := by rw [beq_eq_false_iff_ne]; omega
                have q3 : ¬ n0 + 65536 - nv < nv - nv := by omega
                have q4 : ¬ n0 + 65536 - nv < 0 := by omega
                go_wp2_with fail
                go_roundw
                case rel =>
                  refine ⟨1 + 1, nv, by omega, rfl, rfl, ?_, HG2.out, HO2.out, HB2.out⟩
                  show pickN _ (pickN _ _ _) _ = _
                  rw [HN1.out]
                  refine pickN_no ?_
                  unfold farN
                  repeat' split
                  all_goals omega
                case measure => simp [intOf]
              · have hl : nv - gr < gr - nv := by omega
                have heq : (n0 + 65536 - gr == gr - nv) = false := by rw [beq_eq_false_iff_ne]; omega
                have q3 : ¬ n0 + 65536 - gr < gr - nv := by omega
                go_wp2_with fail
                go_roundw
                case rel =>
                  refine ⟨1 + 1, nv, by omega, rfl, rfl, ?_, HG2.out, HO2.out, HB2.out⟩
                  show pickN _ (pickN _ _ _) _ = _
                  rw [HN1.out]
                  refine pickN_no ?_
                  unfold farN
                  repeat' split
                  all_goals omega
                case measure => simp [intOf]
          · obtain rfl : x = nv := by have h1 := HPN.out; have h2 := HNV.out; exact h1.symm.trans h2
            by_cases hmx : x ≤ gr
            · have hmx2 : decide (gr < x) = false := by simp; omega
              go_wp2_with (first
                | (at_builtin
                   refine wpl_app _ rfl _ _ Try.intT rfl w.heap.size A' i c' _ rfl (by exact Own.alloc HO2.out _) _ _ 1 1 [.int .i64 x] rfl (by exact Reads.one' _ _ _ _ rfl (by simp)) (by simp [Value.oneCell']) (by unfold maxLen; omega) (by omega) (by simp; omega) ?_
                   intro A11 c11 w11 h11
                   have H11 := Lib.hid h11; clear h11)
                | fail)
              go_roundw
              case rel =>
                refine ⟨i + 1, A11, c11, out ++ [x], gr, by omega, by go_num, rfl, rfl, ?_, H11.out.gr (gr_alloc HG2.out _) (Own.alloc HO2.out _) (Nat.le_refl _), ?_⟩
                · rw [numTo_succ HZ.out HST.out h0]
                  dsimp only
                  rw [HX.out, show max gr x = gr by omega]
                · unfold OwnI; rw [List.map_append]; exact H11.out.1
              case measure => simp [intOf]; omega
            · have hmx2 : decide (gr < x) = true := by simp; omega
              go_wp2_with (first
                | (at_builtin
                   refine wpl_app _ rfl _ _ Try.intT rfl w.heap.size A' i c' _ rfl (by exact Own.alloc HO2.out _) _ _ 1 1 [.int .i64 x] rfl (by exact Reads.one' _ _ _ _ rfl (by simp)) (by simp [Value.oneCell']) (by unfold maxLen; omega) (by omega) (by simp; omega) ?_
                   intro A11 c11 w11 h11
                   have H11 := Lib.hid h11; clear h11)
                | fail)
              go_roundw
              case rel =>
                refine ⟨i + 1, A11, c11, out ++ [x], x, by omega, by go_num, rfl, rfl, ?_, H11.out.gr (gr_alloc HG2.out _) (Own.alloc HO2.out _) (Nat.le_refl _), ?_⟩
                · rw [numTo_succ HZ.out HST.out h0]
                  dsimp only
                  rw [HX.out, show max gr x = x by omega]
                · unfold OwnI; rw [List.map_append]; exact H11.out.1
              case measure => simp [intOf]; omega
      · have h00 : i = 0 := by omega
        have hi0 : decide ((0 : Int) < (i : Int)) = false := by simpa using h0
        have hi1 : ((i : Int) == 0) = true := by rw [beq_iff_eq]; omega
        have hi2 : decide (i = 0) = true := decide_eq_true h00
        have hgr : gr = 0 := by have h := HST.out; rw [h00] at h; simp only [numTo, Prod.mk.injEq] at h; exact Eq.symm h.2
        have hout : out = [] := by have h := HST.out; rw [h00] at h; simp only [numTo, Prod.mk.injEq] at h; exact Eq.symm h.1
        have H00 := Lib.hid h00; clear h00
        subst hgr; subst hout
        go_wp2_with (first
          | (refine wpl_load_at Try.arrT rfl _ rfl _ rfl [.int .i64 zat, .int .i64 zty, .int .i64 zsq, .int .i64 ztm, .int .i64 zsr, .bool zmk, .slice zA zn zc] rfl (fun j u hu => by rw [add_mk]; exact HC.out j u hu) ?_)
          | (at_builtin
             refine wpl_app _ rfl _ _ Try.intT rfl w.heap.size A' i c' _ rfl (by exact Own.alloc (Own.alloc HO.out _) _) _ _ 1 1 [.int .i64 (zsq + 65536)] rfl (by exact Reads.one' _ _ _ _ rfl (by simp)) (by simp [Value.oneCell']) (by unfold maxLen; omega) (by omega) (by simp; omega) ?_
             intro A11 c11 w11 h11
             have H11 := Lib.hid h11; clear h11)
          | fail)
        go_roundw
        case rel =>
          refine ⟨i + 1, A11, c11, [zsq + 65536], zsq + 65536, by omega, by go_num, rfl, rfl, ?_, H11.out.gr (gr_alloc (gr_alloc HG.out _) _) (Own.alloc (Own.alloc HO.out _) _) (Nat.le_refl _), H11.out.1⟩
          have hz' := HZ.out
          rw [H00.out] at hz' ⊢
          rw [numTo_first hz']
          dsimp only
          rw [show max 0 (zsq + 65536) = zsq + 65536 by omega]
        case measure => simp [intOf]; omega
    · obtain rfl : i = n := by omega
      go_wp2_with fail
      go_ret
      refine ⟨_, rfl, ⟨_, _, _, rfl, ?_⟩, HG.out⟩
      unfold nums
      rw [H.out.1.len, HST.out]
      exact Own.reads HO.out
end Go.Proofs.Ytdknfhpconfhkaa

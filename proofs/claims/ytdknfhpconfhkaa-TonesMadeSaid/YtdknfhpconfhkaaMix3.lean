/- Contracts of MixOf, and of Mix where something is wrong. Conditions: none. -/
import Derived.Test.YtdknfhpconfhkaaMix2
namespace Go.Proofs.Ytdknfhpconfhkaa
open Go.RowKit

def lenV (v : Value) : Nat := match v with | .slice _ n _ => n | _ => 0

set_option maxRecDepth 100000 in
set_option maxHeartbeats 8000000 in
theorem mixOf_len (lo : Nat) (A : Option Addr) (n c : Nat) (ss : List SndV) (w : World) (h : Snds w lo A n c ss) (hn2 : n ≤ 20) (hlen : ∀ s ∈ ss, s.l.length ≤ 20000) :
    Calls Try.prog 43 #[.slice A n c] w (RetP (IsOut .i64 w.heap.size (mixOf ss)) w) := by
  have H := Lib.hid h; clear h
  have HOK := Lib.hid hlen; clear hlen
  have HB := Lib.hid (fun i => maxTo_le (ss := ss) (fun s hs => HOK.out s hs) i)
  go_enter Try.func43, Try.ntmps43
  go_wp2_with fail
  go_loopw [3, 5, 6, 7, 11] (fun v _ _ _ t wr => ∃ (k : Nat) (A' : Option Addr) (q c' : Nat), k ≤ n ∧ t = .int .i64 k ∧ v = .slice A' q c' ∧ (maxTo ss k = q ∧ TabOwn w A' q c' (mixS ss k) wr)) (fun _ _ _ _ t _ => n - (intOf t).toNat)
  case atStart => exact ⟨0, none, 0, 0, Nat.zero_le _, rfl, rfl, rfl, TabOwn.nil _ _⟩
  case round =>
    obtain ⟨k, A', q, c', hk, rfl, rfl, hq, hT⟩ := hrel
    have hqb : q ≤ 20000 := by rw [← hq]; exact HB.out k
    have HT := Lib.hid hT; have HQ := Lib.hid hq; clear hT hq
    by_cases hlt2 : k < n
    · obtain ⟨g, o, ⟨sA, sn, sc, sl⟩, rfl, _, hs, hc, hi2⟩ := (H.out.grown HT.out.1 (fun g e => by cases e)).get hlt2
      dsimp only at hc hi2
      have HS := Lib.hid hs; have HI := Lib.hid ((H.out.2 _ (mem_of_get hs)))
      have hsb : sn ≤ 20000 := by have h := HOK.out _ (mem_of_get hs); have := hi2.len; dsimp only at h; omega
      have HSL := Lib.hid hi2.len
      clear hs hi2
      obtain ⟨wo, rfl⟩ : ∃ wo : World, wo = wr := ⟨_, rfl⟩
      go_wp2_with fail
      go_loopw [3] (fun v wr => ∃ (A2 : Option Addr) (q2 c2 : Nat), v = .slice A2 q2 c2 ∧ q ≤ q2 ∧ q2 ≤ max q sn ∧ TabOwn w A2 q2 c2 (mixS ss k) wr) (fun v _ => sn - lenV v)
      case atStart => exact ⟨A', q, c', rfl, Nat.le_refl _, by omega, HT.out⟩
      case round =>
        obtain ⟨A2, q2, c2, rfl, hq1, hq2, hT2⟩ := hrel
        have HT2 := Lib.hid hT2; clear hT2
        have hz2 := HT2.out.1.size
        by_cases hlt3 : q2 < sn
        · go_wp2_with (first
            | (at_builtin
               refine wpl_app _ rfl _ _ Try.intT rfl w.heap.size A2 q2 c2 _ rfl (by exact HT2.out.2.alloc _) _ _ 1 1 [.int .i64 0] rfl (by exact Reads.one _ _ _ _ rfl) (by simp [Value.oneCell']) (by unfold maxLen; omega) (by omega) (by simp; omega) ?_
               intro A10 c10 w10 h10
               have H10 := Lib.hid h10; clear h10)
            | fail)
          go_roundw
          case rel =>
            have hz : mixS ss k q2 = 0 := mixS_zero (by rw [HQ.out]; exact hq1)
            exact ⟨A10, q2 + 1, c10, rfl, by omega, by omega, HT2.out.append (by rw [hz]; exact H10.out)⟩
          case measure => simp [lenV]; omega
        · have hq3 : q2 = max q sn := by omega
          have HQ3 := Lib.hid hq3; clear hq3
          have hsq : sn ≤ q2 := by omega
          obtain ⟨wo2, rfl⟩ : ∃ wo2 : World, wo2 = wr := ⟨_, rfl⟩
          go_wp2_with fail
          go_loopw [6, 7, 25] (fun _ _ t wr => ∃ p : Nat, p ≤ sn ∧ t = .int .i64 p ∧ TabOwn w A2 q2 c2 (mixStep ss k p) wr) (fun _ _ t _ => sn - (intOf t).toNat)
          case atStart => exact ⟨0, Nat.zero_le _, rfl, HT2.out.congr (fun j _ => by simp [mixStep])⟩
          case round =>
            obtain ⟨p, hp, rfl, hT3⟩ := hrel
            have HT3 := Lib.hid hT3; clear hT3
            by_cases hlt4 : p < sn
            · obtain ⟨g2, o2, z, rfl, _, _, hz, hcz⟩ := (HI.out.grown HT3.out.1 (fun g e => by cases e)).get hlt4
              obtain ⟨b, rfl, hb1, _, hcb, hfb⟩ := HT3.out.get (show p < q2 by omega)
              rw [show mixStep ss k p p = mixS ss k p from by simp [mixStep]] at hcb
              obtain ⟨x, hx⟩ : ∃ x, mixS ss k p = x := ⟨_, rfl⟩
              rw [hx] at hcb
              have HX := Lib.hid hx; have HZ := Lib.hid hz; clear hx hz
              have j0 : (0 : Int) ≤ (p : Int) := by omega
              have j1 : (p : Int) < (q2 : Int) := by omega
              go_wp2_with fail
              go_roundw
              case rel => exact ⟨p + 1, by omega, by go_num, (HT3.out.set hb1 p (wrap64 (x + z))).congr (mix_next (by rw [mixS_in HS.out HZ.out, HX.out]))⟩
              case measure => simp [intOf]; omega
            · obtain rfl : p = sn := by omega
              go_wp2_with fail
              go_roundw
              case rel =>
                refine ⟨k + 1, A2, q2, c2, by omega, by go_num, rfl, ?_, HT3.out.congr (fun j _ => ?_)⟩
                · rw [maxTo_succ HS.out, HQ.out, HQ3.out]; dsimp only; rw [HSL.out]
                · unfold mixStep
                  by_cases hj2 : j < p
                  · rw [if_pos hj2]
                  · rw [if_neg hj2, mixS_out HS.out (by dsimp only; rw [HSL.out]; omega)]
              case measure => simp [intOf]; omega
    · obtain rfl : k = n := by omega
      obtain ⟨wo, rfl⟩ : ∃ wo : World, wo = wr := ⟨_, rfl⟩
      go_wp2_with fail
      go_loopw [8, 41] (fun _ t wr => ∃ p : Nat, p ≤ q ∧ t = .int .i64 p ∧ TabOwn w A' q c' (cutStep (mixS ss k) p) wr) (fun _ t _ => q - (intOf t).toNat)
      case atStart => exact ⟨0, Nat.zero_le _, rfl, HT.out.congr (fun j _ => by simp [cutStep])⟩
      case round =>
        obtain ⟨p, hp, rfl, hT2⟩ := hrel
        have HT2 := Lib.hid hT2; clear hT2
        by_cases hlt3 : p < q
        · obtain ⟨b, rfl, hb1, _, hcb, hfb⟩ := HT2.out.get hlt3
          rw [show cutStep (mixS ss k) p p = mixS ss k p from by simp [cutStep]] at hcb
          obtain ⟨x, hx⟩ : ∃ x, mixS ss k p = x := ⟨_, rfl⟩
          rw [hx] at hcb
          have HX := Lib.hid hx; clear hx
          have j0 : (0 : Int) ≤ (p : Int) := by omega
          have j1 : (p : Int) < (q : Int) := by omega
          go_wp2_with (first
            | (go_at_call 77; refine (qcut_any x _).mono ?_; rintro e w' ⟨rfl, rfl⟩)
            | fail)
          go_roundw
          case rel => exact ⟨p + 1, by omega, by go_num, (HT2.out.set hb1 p (cutS x)).congr (cut_next HX.out)⟩
          case measure => simp [intOf]; omega
        · obtain rfl : p = q := by omega
          go_wp2_with fail
          go_ret
          refine ⟨_, rfl, ⟨_, _, _, rfl, ?_⟩, HT2.out.1⟩
          unfold mixOf
          rw [H.out.len, HQ.out, ← tab_congr (f := cutStep (mixS ss k) p) (fun j hj => by unfold cutStep; rw [if_pos hj])]
          exact HT2.out.2.reads
theorem mixOf_good (lo : Nat) (A : Option Addr) (n c : Nat) (ss : List SndV) (w : World) (h : Snds w lo A n c ss) (hf : mixFault ss = 0) :
    Calls Try.prog 43 #[.slice A n c] w (RetP (IsOut .i64 w.heap.size (mixOf ss)) w) :=
  mixOf_len lo A n c ss w h (by have := (mix_ok hf).1; have := h.len; omega) (fun s hs => (smp_ok ((mix_ok hf).2 s hs)).1)

set_option maxRecDepth 100000 in
set_option maxHeartbeats 8000000 in
theorem mix_bad (lo : Nat) (A : Option Addr) (n c : Nat) (ss : List SndV) (w : World) (h : Snds w lo A n c ss) (hn : n ≤ 1000000) (hsn : ∀ s ∈ ss, s.n ≤ 1000000) (hf : mixFault ss ≠ 0) :
    Calls Try.prog 40 #[.slice A n c] w (RetP (IsOutErr .i64 w.heap.size [] (mixFault ss)) w) := by
  have H := Lib.hid h; clear h
  have HSN := Lib.hid hsn; clear hsn
  by_cases hb : n > 20
  · have HF := Lib.hid (show mixFault ss = 2 by unfold mixFault; rw [if_pos (by rw [H.out.len]; exact hb)])
    have hb' : decide ((20 : Int) < (n : Int)) = true := by simp; omega
    clear hf
    go_enter Try.func40, Try.ntmps40
    go_wp2_with fail
    go_ret2
    rw [HF.out]
    exact ⟨_, rfl, ⟨none, 0, 0, rfl, Ints.none_⟩, gr_refl _ _⟩
  · have hb' : decide ((20 : Int) < (n : Int)) = false := by simp; omega
    have HF := Lib.hid (show mixFault ss = firstNZ (sFault ss) n by unfold mixFault; rw [if_neg (by rw [H.out.len]; exact hb), H.out.len])
    have HNZ := Lib.hid hf; clear hf
    go_enter Try.func40, Try.ntmps40
    go_wp2_with fail
    go_loop [4, 6, 7, 19] (fun v _ _ t => ∃ (i : Nat) (m : Nat), i ≤ n ∧ t = .int .i64 i ∧ v = .int .i64 m ∧ m ≤ 1000000 ∧ firstNZ (sFault ss) i = 0) (fun _ _ _ t => n - (intOf t).toNat)
    case atStart => exact ⟨0, 0, Nat.zero_le _, rfl, rfl, by omega, rfl⟩
    case round =>
      obtain ⟨i, m, hi, rfl, rfl, hm, h0⟩ := hrel
      have H0 := Lib.hid h0; clear h0
      by_cases hlt : i < n
      · obtain ⟨g, o, ⟨sA, sn, sc, sl⟩, rfl, _, hs, hc, hi2⟩ := H.out.get hlt
        dsimp only at hc hi2
        have hsn1 : sn ≤ 1000000 := HSN.out _ (mem_of_get hs)
        have HV := Lib.hid (show sFault ss i = smpFault sl from sFault_at hs)
        have HI := Lib.hid hi2
        clear hs hi2
        by_cases hf0 : smpFault sl = 0
        · have hfb : (smpFault sl != 0) = false := by simpa using hf0
          have HF0 := Lib.hid hf0; clear hf0
          by_cases hmx : sn ≤ m
          · go_wp2_with (first
              | (go_at_call 29; refine (checkSamples_any lo _ _ _ sl _ HI.out (by omega)).mono ?_; rintro e w' ⟨rfl, rfl⟩)
              | fail)
            go_round
            case rel => exact ⟨i + 1, m, by omega, by go_num, by go_num, hm, firstNZ_zero H0.out (by rw [HV.out, HF0.out])⟩
            case measure => simp [intOf]; omega
          · go_wp2_with (first
              | (go_at_call 29; refine (checkSamples_any lo _ _ _ sl _ HI.out (by omega)).mono ?_; rintro e w' ⟨rfl, rfl⟩)
              | fail)
            go_round
            case rel => exact ⟨i + 1, sn, by omega, by go_num, by go_num, hsn1, firstNZ_zero H0.out (by rw [HV.out, HF0.out])⟩
            case measure => simp [intOf]; omega
        · have hfb : (smpFault sl != 0) = true := by simpa using hf0
          have HFIN := Lib.hid (show mixFault ss = smpFault sl by rw [HF.out, firstNZ_stop H0.out (by rw [HV.out]; exact hf0) hlt, HV.out])
          clear hf0
          go_wp2_with (first
            | (go_at_call 29; refine (checkSamples_any lo _ _ _ sl _ HI.out (by omega)).mono ?_; rintro e w' ⟨rfl, rfl⟩)
            | fail)
          go_ret2
          rw [HFIN.out]
          exact ⟨_, rfl, ⟨none, 0, 0, rfl, Ints.none_⟩, gr_refl _ _⟩
      · obtain rfl : i = n := by omega
        exact absurd (HF.out.trans H0.out) HNZ.out
end Go.Proofs.Ytdknfhpconfhkaa

/- Contracts of PlayOutOf, and of PlayOut where something is wrong. Conditions: none. -/
import Derived.Test.YtdknfhpconfhkaaPlay
namespace Go.Proofs.Ytdknfhpconfhkaa
open Go.RowKit

def IsOut (k : IntKind) (lo : Nat) (l : List Int) (v : Value) (w : World) : Prop := ∃ (A : Option Addr) (n c : Nat), v = .slice A n c ∧ Ints k w lo A n c l

set_option maxRecDepth 100000 in
set_option maxHeartbeats 8000000 in
theorem playOutOf_ok (lo : Nat) (A : Option Addr) (n c : Nat) (l : List ArrV) (delay : Int) (long : Nat) (w1 : World) (h : Arrs w1 lo A n c l) (hn : n ≤ 1000000000000) (hf : arrFault l = 0) (d0 : 0 ≤ delay) (d1 : delay ≤ 10000) (l1 : long ≤ 2500) :
    Calls Try.prog 37 #[.slice A n c, .int .i64 delay, .int .i64 long] w1 (RetP (IsOut .i64 w1.heap.size (playOut l delay (8 * long))) w1) := by
  have H := Lib.hid h; clear h
  have HOK := Lib.hid (arr_ok hf); clear hf
  obtain ⟨N, hN⟩ : ∃ N : Nat, 8 * long = N := ⟨_, rfl⟩
  have hN1 : N ≤ 20000 := by omega
  have hN' : 8 * (long : Int) = (N : Int) := by omega
  rw [hN]
  clear hN
  have hmi := run_make1 Try.intT N rfl (by omega) (by omega)
  have hmb := run_make1 Try.boolT N rfl (by omega) (by omega)
  have HG1 := Lib.hid (gr_refl w1 none)
  have z1 : w1.heap.size ≤ w1.heap.size := Nat.le_refl _
  go_enter Try.func37, Try.ntmps37
  go_wp2_with fail
  clear hmi hmb hN'
  go_loopw [10, 11, 12, 13, 14, 24] (fun _ _ _ _ _ t wr => ∃ i : Nat, i ≤ n ∧ t = .int .i64 i ∧ PRel w1 w1.heap.size (w1.heap.size + 1) N (arrTo l delay (List.replicate N 0, List.replicate N false) i) wr) (fun _ _ _ _ _ t _ => n - (intOf t).toNat)
  case atStart => exact ⟨0, Nat.zero_le _, rfl, PRel.new w1 N (by omega)⟩
  case round =>
    obtain ⟨i, hi, rfl, hP⟩ := hrel
    obtain ⟨st, hst⟩ : ∃ st, arrTo l delay (List.replicate N 0, List.replicate N false) i = st := ⟨_, rfl⟩
    rw [hst] at hP
    have HST := Lib.hid hst
    have HP := Lib.hid hP; clear hst hP
    have zr := HP.out.1.size
    by_cases hlt : i < n
    · obtain ⟨g, o, ⟨zat, zty, zsq, ztm, zsr, zmk, zA, zn, zc, zpay⟩, rfl, _, hgl, hz, hc⟩ := (H.out.1.grown HP.out.1 (fun g e => by cases e)).get ArrV.row_len hlt
      obtain ⟨f, hf⟩ : ∃ f, l[0]? = some f := ⟨_, List.getElem?_eq_getElem (by rw [H.out.1.len]; omega)⟩
      have HR := Lib.hid (H.out.1.grown HP.out.1 (fun g e => by cases e))
      have HZ := Lib.hid hz; have HC := Lib.hid hc; have HF1 := Lib.hid hf
      have zok := HOK.out.2 _ (mem_of_get hz)
      have fok := HOK.out.2 f (mem_of_get hf)
      have HBY := Lib.hid (show Bytes w1 lo zA zn zc zpay from (H.out.2 _ (mem_of_get hz)).2)
      dsimp only at zok
      obtain ⟨⟨z10, z11⟩, _, ⟨z20, z21⟩, z3⟩ := zok
      obtain ⟨⟨f10, f11⟩, _, ⟨f20, f21⟩, _⟩ := fok
      clear hz hc hf
      obtain ⟨F, hFe⟩ : ∃ F, tAp ztm f.tm = F := ⟨_, rfl⟩
      have hFb := tAp_bd ztm f.tm
      rw [hFe] at hFb
      obtain ⟨F0, F1⟩ := hFb
      have HFE := Lib.hid hFe; clear hFe
      have k03 := HR.out.at0 ArrV.row_len HF1.out 3 _ rfl
      have k00 := HR.out.at0 ArrV.row_len HF1.out 0 _ rfl
      simp only [Nat.add_zero] at k00
      have s6 : (0 : Int) < (n : Int) := by omega
      have s7 : 0 < n := by omega
      by_cases hlate : f.at_ + delay + F / 8 < zat
      · go_wp2_with (first
          | (refine wpl_load_at Try.arrT rfl _ rfl _ rfl [.int .i64 zat, .int .i64 zty, .int .i64 zsq, .int .i64 ztm, .int .i64 zsr, .bool zmk, .slice zA zn zc] rfl (fun j u hu => by rw [add_mk]; exact HC.out j u hu) ?_)
          | fail)
        go_quiet ((go_at_call 74; exact quiet0 (timeApart_as ztm f.tm F _ z20 z21 f20 f21 HFE.out)))
        go_wp2_with fail
        go_quiet ((go_at_call 75; exact quiet1 (floor_any F 8 _ (by omega) (by omega) (by omega))))
        go_wp2_with fail
        go_roundw
        case rel => exact ⟨i + 1, by omega, by go_num, by rw [arrTo, HST.out, playArr_late HZ.out HF1.out HFE.out hlate]; exact (HP.out.alloc _).drewN _⟩
        case measure => simp [intOf]; omega
      · have hlt' : decide (f.at_ + delay + F / 8 < zat) = false := by simpa using hlate
        have HLATE := Lib.hid hlate
        obtain ⟨wo, rfl⟩ : ∃ wo : World, wo = wr := ⟨_, rfl⟩
        go_wp2_with (first
          | (refine wpl_load_at Try.arrT rfl _ rfl _ rfl [.int .i64 zat, .int .i64 zty, .int .i64 zsq, .int .i64 ztm, .int .i64 zsr, .bool zmk, .slice zA zn zc] rfl (fun j u hu => by rw [add_mk]; exact HC.out j u hu) ?_)
          | fail)
        go_quiet ((go_at_call 74; exact quiet0 (timeApart_as ztm f.tm F _ z20 z21 f20 f21 HFE.out)))
        go_wp2_with fail
        go_quiet ((go_at_call 75; exact quiet1 (floor_any F 8 _ (by omega) (by omega) (by omega))))
        go_wp2_with fail
        go_loopw [12, 13, 14, 53] (fun _ _ _ t wr2 => ∃ k : Nat, k ≤ zn ∧ t = .int .i64 k ∧ PRel w1 w1.heap.size (w1.heap.size + 1) N (payTo F zpay st k) wr2) (fun _ _ _ t _ => zn - (intOf t).toNat)
        case atStart => exact ⟨0, Nat.zero_le _, rfl, (HP.out.alloc _).drewN _⟩
        case round =>
          obtain ⟨k, hk, rfl, hP2⟩ := hrel
          obtain ⟨st2, hst2⟩ : ∃ st2, payTo F zpay st k = st2 := ⟨_, rfl⟩
          rw [hst2] at hP2
          have HST2 := Lib.hid hst2
          have HP2 := Lib.hid hP2; clear hst2 hP2
          have zr2 := HP2.out.1.size
          by_cases hk2 : k < zn
          · obtain ⟨gp, op, b, rfl, _, _, hb, hcb, b0, b1⟩ := (HBY.out.grown HP2.out.1 (fun g e => by cases e)).get hk2
            have HB2 := Lib.hid hb; clear hb
            have hlen := HP2.out.len.1
            have HLEN := Lib.hid hlen; clear hlen
            by_cases hr : 0 ≤ F + (k : Int) ∧ F + (k : Int) < (N : Int)
            · obtain ⟨q, hq⟩ : ∃ q : Nat, F + (k : Int) = (q : Int) := ⟨(F + (k : Int)).toNat, by omega⟩
              obtain ⟨hr0, hr1⟩ := hr
              have q1 : q < N := by omega
              have q2 : (q : Int) < (N : Int) := by omega
              have q3 : (0 : Int) ≤ (q : Int) := by omega
              have q4 : inB (q : Int) 0 ((N : Int) - 1) = true := by simp [inB]; omega
              obtain ⟨x, hx, hcx, hfx⟩ := HP2.out.getO q1
              obtain ⟨y, hy, hcy, hfy⟩ := HP2.out.getT q1
              have HQ := Lib.hid hq
              have HY := Lib.hid hy; clear hx hy
              cases y
              · go_wp2_with (first
                  | (go_at_call 31; refine (expandOf_any b _ b0 b1).mono ?_; rintro e w' ⟨rfl, rfl⟩)
                  | (go_at_call 63; refine (in_any _ _ _ _).mono ?_; rintro e w' ⟨rfl, rfl⟩)
                  | fail)
                go_roundw
                case rel => exact ⟨k + 1, by omega, by go_num, by rw [payTo_succ HB2.out HST2.out, HQ.out, playPut_new (by rw [HLEN.out]; exact q1) HY.out]; exact (HP2.out.setO (Nat.le_refl _) (by omega) q _).setT (by omega) (by omega) q true⟩
                case measure => simp [intOf]; omega
              · go_wp2_with (first
                  | (go_at_call 63; refine (in_any _ _ _ _).mono ?_; rintro e w' ⟨rfl, rfl⟩)
                  | fail)
                go_roundw
                case rel => exact ⟨k + 1, by omega, by go_num, by rw [payTo_succ HB2.out HST2.out, HQ.out, playPut_there HY.out]; exact HP2.out⟩
                case measure => simp [intOf]; omega
            · have HNO := Lib.hid (playPut_no (st := st2) (i := F + k) (b := b) (N := N) HLEN.out (by omega))
              have q4 : inB (F + (k : Int)) 0 ((N : Int) - 1) = false := by simp [inB]; omega
              by_cases hneg : F + (k : Int) < 0
              · have hneg' : decide (0 ≤ F + (k : Int)) = false := by simp; omega
                go_wp2_with (first
                  | (go_at_call 63; refine (in_any _ _ _ _).mono ?_; rintro e w' ⟨rfl, rfl⟩)
                  | fail)
                go_roundw
                case rel => exact ⟨k + 1, by omega, by go_num, by rw [payTo_succ HB2.out HST2.out, HNO.out]; exact HP2.out⟩
                case measure => simp [intOf]; omega
              · have hneg' : decide (F + (k : Int) < (N : Int)) = false := by simp; omega
                have hneg2 : 0 ≤ F + (k : Int) := by omega
                go_wp2_with (first
                  | (go_at_call 63; refine (in_any _ _ _ _).mono ?_; rintro e w' ⟨rfl, rfl⟩)
                  | fail)
                go_roundw
                case rel => exact ⟨k + 1, by omega, by go_num, by rw [payTo_succ HB2.out HST2.out, HNO.out]; exact HP2.out⟩
                case measure => simp [intOf]; omega
          · obtain rfl : k = zn := by omega
            have HPL := Lib.hid HBY.out.1.len
            go_wp2_with fail
            go_roundw
            case rel => exact ⟨i + 1, by omega, by go_num, by rw [arrTo, HST.out, playArr_on HZ.out HF1.out HFE.out (Int.not_lt.2 HLATE.out)]; dsimp only; rw [HPL.out, HST2.out]; exact HP2.out⟩
            case measure => simp [intOf]; omega
    · obtain rfl : i = n := by omega
      obtain rfl : playSt l delay N = st := by unfold playSt; rw [H.out.1.len]; exact HST.out
      obtain ⟨wo, rfl⟩ : ∃ wo : World, wo = wr := ⟨_, rfl⟩
      by_cases h0 : i = 0
      · subst h0
        have hl : l = [] := List.eq_nil_of_length_eq_zero H.out.1.len
        subst hl
        go_wp2_with fail
        go_ret
        have hp := HP.out
        refine ⟨_, rfl, ⟨_, _, _, rfl, ?_⟩, hp.1⟩
        rw [playOut_nil]
        exact hp.2.1.reads
      · have h0' : ((i : Int) == 0) = false := by rw [beq_eq_false_iff_ne]; omega
        go_wp2_with fail
        go_loopw [15, 89] (fun _ t wr => ∃ k : Nat, k ≤ N ∧ t = .int .i64 k ∧ PRel w1 w1.heap.size (w1.heap.size + 1) N (halfTo (playSt l delay N).2 (playSt l delay N).1 k, (playSt l delay N).2) wr) (fun _ t _ => N - (intOf t).toNat)
        case atStart => exact ⟨0, Nat.zero_le _, rfl, HP.out⟩
        case round =>
          obtain ⟨k, hk, rfl, hP3⟩ := hrel
          have HP3 := Lib.hid hP3; clear hP3
          have zr3 := HP3.out.1.size
          by_cases hk2 : k < N
          · obtain ⟨y, hy, hcy, hfy⟩ := HP3.out.getT hk2
            obtain ⟨x0, hx0, hcx0, hfx0⟩ := HP3.out.getO hk2
            have HY := Lib.hid hy; clear hy hx0
            have j0 : (0 : Int) ≤ (k : Int) := by omega
            have j1 : (k : Int) < (N : Int) := by omega
            cases y
            · by_cases h160 : 160 ≤ k
              · obtain ⟨x, hx, hcx, hfx⟩ := HP3.out.getO (show k - 160 < N by omega)
                have HX := Lib.hid hx; clear hx
                have h160' : (160 : Int) ≤ (k : Int) := by omega
                go_wp2_with fail
                go_roundw
                case rel => exact ⟨k + 1, by omega, by go_num, by rw [halfTo_yes HY.out h160 HX.out]; exact HP3.out.setO (Nat.le_refl _) (by omega) k _⟩
                case measure => simp [intOf]; omega
              · have h160' : decide ((160 : Int) ≤ (k : Int)) = false := by simp; omega
                go_wp2_with fail
                go_roundw
                case rel => exact ⟨k + 1, by omega, by go_num, by rw [halfTo_no (.inr (by omega))]; exact HP3.out⟩
                case measure => simp [intOf]; omega
            · go_wp2_with fail
              go_roundw
              case rel => exact ⟨k + 1, by omega, by go_num, by rw [halfTo_no (.inl HY.out)]; exact HP3.out⟩
              case measure => simp [intOf]; omega
          · obtain rfl : k = N := by omega
            go_wp2_with fail
            go_ret
            have hp := HP3.out
            exact ⟨_, rfl, ⟨_, _, _, rfl, Ints.lower hp.2.1.reads z1⟩, gr_none HG1.out hp.1⟩

set_option maxHeartbeats 4000000 in
theorem playOut_no (lo : Nat) (A : Option Addr) (n c : Nat) (l : List ArrV) (delay long : Int) (w : World) (h : Arrs w lo A n c l) (hn : n ≤ 1000000000000) (hf : playFault l delay long ≠ 0) :
    Calls Try.prog 34 #[.slice A n c, .int .i64 delay, .int .i64 long] w (RetP (IsOutErr .i64 w.heap.size [] (playFault l delay long)) w) := by
  have H := Lib.hid h; clear h
  by_cases h0 : arrFault l = 0
  · have hfb : (arrFault l != 0) = false := by simpa using h0
    have HV := Lib.hid (show playFault l delay long = if inB delay 0 10000 && inB long 0 2500 then 0 else 1 by unfold playFault; rw [if_pos h0])
    have HNZ := Lib.hid hf; clear hf h0
    cases hd : inB delay 0 10000
    · have HV1 := Lib.hid (show playFault l delay long = 1 by rw [HV.out, hd]; rfl)
      go_enter Try.func34, Try.ntmps34
      go_wp2_with fail
      refine (checkArrivals_any lo _ _ _ l _ H.out hn).mono ?_
      rintro e w1 ⟨rfl, hg1⟩
      go_wp2_with (first
        | (go_at_call 67; refine (within_any _ _ _ _).mono ?_; rintro e w' ⟨rfl, rfl⟩)
        | fail)
      go_ret2
      rw [HV1.out]
      exact ⟨_, rfl, ⟨none, 0, 0, rfl, Ints.none_⟩, hg1⟩
    · cases hl : inB long 0 2500
      · have HV1 := Lib.hid (show playFault l delay long = 1 by rw [HV.out, hd, hl]; rfl)
        go_enter Try.func34, Try.ntmps34
        go_wp2_with fail
        refine (checkArrivals_any lo _ _ _ l _ H.out hn).mono ?_
        rintro e w1 ⟨rfl, hg1⟩
        go_wp2_with (first
          | (go_at_call 67; refine (within_any _ _ _ _).mono ?_; rintro e w' ⟨rfl, rfl⟩)
          | fail)
        go_ret2
        rw [HV1.out]
        exact ⟨_, rfl, ⟨none, 0, 0, rfl, Ints.none_⟩, hg1⟩
      · exfalso
        have h := HNZ.out
        rw [HV.out, hd, hl] at h
        exact h rfl
  · have hfb : (arrFault l != 0) = true := by simpa using h0
    have HV1 := Lib.hid (show playFault l delay long = arrFault l by unfold playFault; rw [if_neg h0])
    clear hf h0
    go_enter Try.func34, Try.ntmps34
    go_wp2_with fail
    refine (checkArrivals_any lo _ _ _ l _ H.out hn).mono ?_
    rintro e w1 ⟨rfl, hg1⟩
    go_wp2_with fail
    go_ret2
    rw [HV1.out]
    exact ⟨_, rfl, ⟨none, 0, 0, rfl, Ints.none_⟩, hg1⟩
end Go.Proofs.Ytdknfhpconfhkaa

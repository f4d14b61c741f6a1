/- Contract of LossesOf. Conditions: none. -/
import Derived.Test.YtdknfhpconfhkaaLoss2
namespace Go.Proofs.Ytdknfhpconfhkaa
open Go.RowKit Go.Maps

theorem Ints.front {k : IntKind} {w : World} {lo n c : Nat} {A : Option Addr} {l : List Int} (h : Ints k w lo A n c l) (i : Nat) (hi : i ≤ n) : Ints k w lo A i c (l.take i) := by
  have hl := h.len
  have hc := h.cap
  refine ⟨by simp; omega, by omega, fun hp => ?_⟩
  obtain ⟨g, o, e, h1, h2, h3⟩ := h.2.2 (by omega)
  refine ⟨g, o, e, h1, h2, fun q u hu => h3 q u ?_⟩
  rw [List.map_take, List.getElem?_take] at hu
  split at hu
  · exact hu
  · cases hu
theorem max_as (A : Option Addr) (n c : Nat) (l : List Int) (x : Int) (w : World) (h : Ints .i64 w 0 A n c l) (hn : n ≤ 1000000000000) (hp : 0 < n) (hx : lmax l = x) : Calls Try.prog 80 #[.slice A n c] w (Same (.int .i64 x) w) := by
  subst hx; exact max_any 0 A n c l w h hn hp
theorem min_as (A : Option Addr) (n c : Nat) (l : List Int) (x : Int) (w : World) (h : Ints .i64 w 0 A n c l) (hn : n ≤ 1000000000000) (hp : 0 < n) (hx : lmin l = x) : Calls Try.prog 81 #[.slice A n c] w (Same (.int .i64 x) w) := by
  subst hx; exact min_any 0 A n c l w h hn hp
def L1Rel (w1 : World) (gO i : Nat) (ns : List Int) (due tw lt : Int) (wr : World) : Prop :=
  cntTo ns i = (tw, lt) ∧ w1.grownBy wr none ∧ Blk wr gO 76 #[.int .i64 due, .int .i64 0, .int .i64 tw, .int .i64 lt, .int .i64 0]
def J3Rel (w1 : World) (gO : Nat) (due mis tw lt J : Int) (wr : World) : Prop :=
  w1.grownBy wr none ∧ Blk wr gO 76 #[.int .i64 due, .int .i64 mis, .int .i64 tw, .int .i64 lt, .int .i64 J]

set_option maxRecDepth 100000 in
set_option maxHeartbeats 20000000 in
theorem lossesOf_ok (lo : Nat) (A : Option Addr) (n c : Nat) (l : List ArrV) (w : World) (h : Arrs w lo A n c l) (hf : arrFault l = 0) (hn0 : 0 < n) :
    Calls Try.prog 51 #[.slice A n c] w (RetP (fun v _ => v = .agg (lossCells l)) w) := by
  have H := Lib.hid h; clear h
  have HF := Lib.hid hf
  have HOK := Lib.hid (arr_ok hf)
  have hn2 : n ≤ 2000 := by have := HOK.out.1; have := H.out.1.len; omega
  have hn1 : ((n : Int) == 0) = false := by rw [beq_eq_false_iff_ne]; omega
  have HNB := Lib.hid (numTo_bd (l := l) (fun a ha => (HOK.out.2 a ha).2.1) l.length (Nat.le_refl _))
  clear hf
  go_enter Try.func51, Try.ntmps51
  go_wp2_with fail
  refine (numbersOf_any lo _ _ _ l _ (H.out.grown (gr_alloc (gr_refl _ none) _) (fun g e => by cases e)) HF.out).mono ?_
  rintro e w1 ⟨v2, rfl, ⟨A2, m, c2, rfl, hx2⟩, hg1⟩
  have HR := Lib.hid ((Blk.new w 76 _).grown hg1 (by simp))
  have HG := Lib.hid (gr_none (gr_alloc (gr_refl w none) _) hg1)
  have z1 := hg1.size; simp at z1
  have HX2 := Lib.hid (hx2.lower (Nat.zero_le _))
  obtain rfl : m = n := by have h1 := hx2.len; have h2 := HNB.out.1; unfold nums at h1; rw [h1, H.out.1.len] at h2; exact h2
  clear hx2 hg1
  obtain ⟨ns, hns⟩ : ∃ ns, nums l = ns := ⟨_, rfl⟩
  rw [hns] at HX2
  have HNS := Lib.hid hns; clear hns
  have HWF := Lib.hid (show ∀ x ∈ ns, 0 ≤ x ∧ x ≤ 100000000 from fun x hx => by
    have h1 := HNB.out
    have hx' : x ∈ (numTo l l.length).1 := by have h := HNS.out; unfold nums at h; rw [h]; exact hx
    have h2 := h1.2.2.2.2 x hx'
    have h3 := h1.2.2.1
    have h4 := HOK.out.1
    omega)
  have HNL := Lib.hid HX2.out.len
  have hmm3 := mm_bd HWF.out (by rw [HNL.out]; omega) m (by rw [HNL.out]; exact Nat.le_refl _)
  have hmn := mnmx ns m
  have e1 : mxTo ns m = lmax ns := by unfold mxTo; rw [if_neg (by omega), List.take_of_length_le (by rw [HNL.out]; exact Nat.le_refl _)]
  have e2 : mnTo ns m = lmin ns := by unfold mnTo; rw [if_neg (by omega), List.take_of_length_le (by rw [HNL.out]; exact Nat.le_refl _)]
  rw [e1, e2] at hmn hmm3
  obtain ⟨gr, hgr⟩ : ∃ gr, lmax ns = gr := ⟨_, rfl⟩
  obtain ⟨le, hle⟩ : ∃ le, lmin ns = le := ⟨_, rfl⟩
  rw [hgr, hle] at hmn hmm3
  obtain ⟨le0, gr0⟩ := hmm3
  have HGR := Lib.hid hgr; have HLE := Lib.hid hle
  clear e1 e2 hgr hle
  go_wp2_with (first
    | (go_at_call 80; refine (max_as _ _ _ ns gr _ HX2.out (by omega) hn0 HGR.out).mono ?_; rintro e w' ⟨rfl, rfl⟩)
    | (go_at_call 81; refine (min_as _ _ _ ns le _ HX2.out (by omega) hn0 HLE.out).mono ?_; rintro e w' ⟨rfl, rfl⟩)
    | fail)
  go_loopw [5, 6, 24] (fun _ _ t wr => ∃ (i : Nat) (tw lt : Int), i ≤ m ∧ t = .int .i64 i ∧ L1Rel w1 w1.heap.size i ns (gr - le + 1) tw lt wr) (fun _ _ t _ => m - (intOf t).toNat)
  case atStart => exact ⟨0, 0, 0, Nat.zero_le _, rfl, rfl, gr_alloc (gr_refl _ _) _, Blk.new _ _ _⟩
  case round =>
    obtain ⟨i, tw, lt, hi, rfl, hcnt, hg, hb⟩ := hrel
    have hbd := cntTo_bd ns i
    rw [hcnt] at hbd
    dsimp only at hbd
    obtain ⟨t0, t1, t2⟩ := hbd
    have k2 := hb.cell 2
    have k3 := hb.cell 3
    have f2 := hb.frozen 2
    have f3 := hb.frozen 3
    have zr := hg.size
    have HCNT := Lib.hid hcnt; have HG2 := Lib.hid hg; have HB := Lib.hid hb
    clear hcnt hg hb
    have HXI := Lib.hid (HX2.out.grown HG2.out (fun g e => by cases e))
    by_cases hlt : i < m
    · obtain ⟨gA, oA, x, rfl, _, _, hx, hc⟩ := HXI.out.get hlt
      obtain ⟨x1, x2⟩ := HWF.out x (mem_of_get hx)
      have HX := Lib.hid hx; clear hx
      have j0 : (0 : Int) ≤ (i : Int) := by omega
      have j1 : (i : Int) ≤ (c2 : Int) := by have := HXI.out.cap; omega
      have j2 : i ≤ c2 := by omega
      have HFR := Lib.hid (HXI.out.front i hi)
      cases hmb : memB (ns.take i) x
      · by_cases h0 : 0 < i
        · have hi0 : decide ((0 : Int) < (i : Int)) = true := by simpa using h0
          have hi1 : decide (0 < i) = true := decide_eq_true h0
          obtain ⟨mx, hmx⟩ : ∃ mx, lmax (ns.take i) = mx := ⟨_, rfl⟩
          have HMX := Lib.hid hmx; clear hmx
          by_cases hlate : x < mx
          · have HLT := Lib.hid (cnt_late HX.out hmb ⟨h0, by rw [HMX.out]; exact hlate⟩ HCNT.out)
            go_wp2_with (first
              | (go_at_call 82; refine (containsI_any 0 _ _ _ (ns.take i) x _ HFR.out (by omega)).mono ?_; rintro e w' ⟨rfl, rfl⟩)
              | (go_at_call 80; refine (max_as _ _ _ (ns.take i) mx _ HFR.out (by omega) h0 HMX.out).mono ?_; rintro e w' ⟨rfl, rfl⟩)
              | fail)
            go_roundw
            case rel => exact ⟨i + 1, tw, lt + 1, by omega, by go_num, HLT.out, gr_setCell HG2.out (.inr (Nat.le_refl _)) _, HB.out.set_ 3 _⟩
            case measure => simp [intOf]; omega
          · have HLT := Lib.hid (cnt_none HX.out hmb (fun h => hlate (by have h2 := h.2; rw [HMX.out] at h2; exact h2)) HCNT.out)
            have hl3 : decide (x < mx) = false := by simpa using hlate
            go_wp2_with (first
              | (go_at_call 82; refine (containsI_any 0 _ _ _ (ns.take i) x _ HFR.out (by omega)).mono ?_; rintro e w' ⟨rfl, rfl⟩)
              | (go_at_call 80; refine (max_as _ _ _ (ns.take i) mx _ HFR.out (by omega) h0 HMX.out).mono ?_; rintro e w' ⟨rfl, rfl⟩)
              | fail)
            go_roundw
            case rel => exact ⟨i + 1, tw, lt, by omega, by go_num, HLT.out, HG2.out, HB.out⟩
            case measure => simp [intOf]; omega
        · have hi0 : decide ((0 : Int) < (i : Int)) = false := by simpa using h0
          have hi1 : decide (0 < i) = false := by simpa using h0
          have HLT := Lib.hid (cnt_none HX.out hmb (fun h => h0 h.1) HCNT.out)
          have HMX := Lib.hid (show lmax (ns.take i) = lmax (ns.take i) from rfl)
          go_wp2_with (first
            | (go_at_call 82; refine (containsI_any 0 _ _ _ (ns.take i) x _ HFR.out (by omega)).mono ?_; rintro e w' ⟨rfl, rfl⟩)
            | fail)
          go_roundw
          case rel => exact ⟨i + 1, tw, lt, by omega, by go_num, HLT.out, HG2.out, HB.out⟩
          case measure => simp [intOf]; omega
      · have HLT := Lib.hid (cnt_twice HX.out hmb HCNT.out)
        go_wp2_with (first
          | (go_at_call 82; refine (containsI_any 0 _ _ _ (ns.take i) x _ HFR.out (by omega)).mono ?_; rintro e w' ⟨rfl, rfl⟩)
          | fail)
        go_roundw
        case rel => exact ⟨i + 1, tw + 1, lt, by omega, by go_num, HLT.out, gr_setCell HG2.out (.inr (Nat.le_refl _)) _, HB.out.set_ 2 _⟩
        case measure => simp [intOf]; omega
    · obtain rfl : i = m := by omega
      obtain ⟨wo, rfl⟩ : ∃ wo : World, wo = wr := ⟨_, rfl⟩
      have k0 := HB.out.cell 0
      have k1 := HB.out.cell 1
      have f1 := HB.out.frozen 1
      go_wp2_with fail
      clear k0 k1 f1 k2 k3 f2 f3
      go_loopw [7, 8] (fun t _ wr => ∃ (j : Nat) (J : Int), 1 ≤ j ∧ j ≤ i ∧ t = .int .i64 j ∧ jitTo l j = J ∧ J3Rel w1 w1.heap.size (gr - le + 1) (gr - le + 1 - ((i : Int) - tw)) tw lt J wr) (fun t _ _ => i - (intOf t).toNat)
      case atStart =>
        refine ⟨1, 0, by omega, by omega, rfl, rfl, gr_setCell HG2.out (.inr (Nat.le_refl _)) _, ?_⟩
        exact HB.out.set_ 1 (.int .i64 (gr - le + 1 - ((i : Int) - tw)))
      case round =>
        obtain ⟨j, J, hj1, hj2, rfl, hJ, hg3, hb3⟩ := hrel
        have hjb := jitTo_bd (l := l) (fun a ha => (HOK.out.2 a ha).1) j
        rw [hJ] at hjb
        obtain ⟨J0, J1⟩ := hjb
        have k4 := hb3.cell 4
        have f4 := hb3.frozen 4
        have HJ := Lib.hid hJ; have HG3 := Lib.hid hg3; have HB3 := Lib.hid hb3
        clear hJ hg3 hb3
        have HGW := Lib.hid (gr_none HG.out HG3.out)
        by_cases hlt2 : j < i
        · obtain ⟨g, o, ⟨zat, zty, zsq, ztm, zsr, zmk, zA, zn, zc, zpay⟩, rfl, _, hgl, hz, hc⟩ := (H.out.1.grown HGW.out (fun g e => by cases e)).get ArrV.row_len hlt2
          obtain ⟨⟨yat, yty, ysq, ytm, ysr, ymk, yA, yn, yc, ypay⟩, hy⟩ : ∃ f, l[j - 1]? = some f := ⟨_, List.getElem?_eq_getElem (by rw [H.out.1.len]; omega)⟩
          have HRR := Lib.hid (H.out.1.grown HGW.out (fun g e => by cases e))
          have zok := HOK.out.2 _ (mem_of_get hz)
          have yok := HOK.out.2 _ (mem_of_get hy)
          dsimp only at zok yok
          obtain ⟨⟨z10, z11⟩, _, ⟨z20, z21⟩, _⟩ := zok
          obtain ⟨⟨y10, y11⟩, _, ⟨y20, y21⟩, _⟩ := yok
          have cz0 := HRR.out.at_ ArrV.row_len hz 0 _ rfl
          have cz3 := HRR.out.at_ ArrV.row_len hz 3 _ rfl
          have cy0 := HRR.out.at_ ArrV.row_len hy 0 _ rfl
          have cy3 := HRR.out.at_ ArrV.row_len hy 3 _ rfl
          simp only [Nat.add_zero] at cz0 cy0
          have HZ := Lib.hid hz; have HY := Lib.hid hy
          clear hz hc hy
          obtain ⟨F, hFe⟩ : ∃ F, tAp ztm ytm = F := ⟨_, rfl⟩
          have hFb := tAp_bd ztm ytm
          rw [hFe] at hFb
          obtain ⟨F0, F1⟩ := hFb
          obtain ⟨D, hD⟩ : ∃ D, zat - yat - F / 8 = D := ⟨_, rfl⟩
          have HJS := Lib.hid (jit_succ HZ.out HY.out HJ.out hj1 (show zat - yat - tAp ztm ytm / 8 = D by rw [hFe]; exact hD))
          have HFE := Lib.hid hFe; clear hFe
          have D0 : -400000000000 ≤ D := by omega
          have D1 : D ≤ 400000000000 := by omega
          have s2 : (0 : Int) ≤ (j : Int) - 1 := by omega
          have s5 : (1 : Int) ≤ (j : Int) := by omega
          have s3 : (j : Int) - 1 < (i : Int) := by omega
          have s6 : (0 : Int) ≤ (j : Int) := by omega
          have s7 : (j : Int) < (i : Int) := by omega
          have s8 : IntKind.i64.wrap (zat - yat) = zat - yat := IntWalk.i64_in _ (by omega)
          have s9 : IntKind.i64.wrap (zat - yat - F / 8) = zat - yat - F / 8 := IntWalk.i64_in _ (by omega)
          have s1 : IntKind.i64.wrap ((j : Int) - 1) = (j : Int) - 1 := IntWalk.i64_in _ (by omega)
          have s4 : ((j : Int) - 1).toNat = j - 1 := by omega
          by_cases hneg : D < -D
          · go_wp2_with fail
            go_quiet ((first | (go_at_call 74; exact quiet0 (timeApart_as ztm ytm F _ z20 z21 y20 y21 HFE.out)) | (go_at_call 75; exact quiet0 (floor_any F 8 _ (by omega) (by omega) (by omega))) | fail))
            clear s1 s4 s8 s9
            go_wp2_with fail
            go_roundw
            case rel => exact ⟨j + 1, _, by omega, by omega, by go_num, by rw [HJS.out]; unfold absI; rw [if_pos hneg], gr_setCell (gr_drewN HG3.out _) (.inr (Nat.le_refl _)) _, (HB3.out.drewN _).set_ 4 _⟩
            case measure => simp [intOf]; omega
          · go_wp2_with fail
            go_quiet ((first | (go_at_call 74; exact quiet0 (timeApart_as ztm ytm F _ z20 z21 y20 y21 HFE.out)) | (go_at_call 75; exact quiet0 (floor_any F 8 _ (by omega) (by omega) (by omega))) | fail))
            clear s1 s4 s8 s9
            go_wp2_with fail
            go_roundw
            case rel => exact ⟨j + 1, _, by omega, by omega, by go_num, by rw [HJS.out]; unfold absI; rw [if_neg (by omega)], gr_setCell (gr_drewN HG3.out _) (.inr (Nat.le_refl _)) _, (HB3.out.drewN _).set_ 4 _⟩
            case measure => simp [intOf]; omega
        · obtain rfl : j = i := by omega
          have HR3 := Lib.hid (HR.out.grown HG3.out (by simp))
          go_wp2_with (first
            | (refine wpl_load_all Try.lossT rfl _ rfl _ rfl _ _ HB3.out rfl ?_)
            | (refine wpl_store_all Try.lossT rfl _ _ rfl _ rfl _ _ _ rfl HR3.out rfl rfl (by simp [Value.oneCell']) ?_
               intro wz hst
               have HST := Lib.hid hst; clear hst)
            | fail)
          have hst := HST.out
          refine ret_cell Try.lossT rfl _ _ _ rfl hst.1 rfl rfl ?_
          refine ⟨_, rfl, ?_, gr_trans HGW.out hst.2.1 (fun g e => .inr (by injection e with e; omega))⟩
          have e3 : l.length = j := H.out.1.len
          have e4 : cntTo (nums l) j = (tw, lt) := by rw [HNS.out]; exact HCNT.out
          unfold lossCells
          rw [e3, if_neg (by omega), e4, HNS.out, HGR.out, HLE.out, HJ.out]
end Go.Proofs.Ytdknfhpconfhkaa

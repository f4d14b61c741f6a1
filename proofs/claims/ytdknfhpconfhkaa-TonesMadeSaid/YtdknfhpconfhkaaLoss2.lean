/- Contract of Losses: the walk. Conditions: none. -/
import Derived.Test.YtdknfhpconfhkaaLoss
namespace Go.Proofs.Ytdknfhpconfhkaa
open Go.RowKit Go.Maps

theorem mm_bd {ns : List Int} {B : Int} (h : ∀ x ∈ ns, 0 ≤ x ∧ x ≤ B) (h0 : 0 < ns.length) (i : Nat) (hi : i ≤ ns.length) : 0 ≤ mnTo ns i ∧ mxTo ns i ≤ B := by
  induction i with
  | zero =>
    have hh : ns.headD 0 ∈ ns := by cases ns <;> simp at h0 ⊢
    have := h _ hh
    unfold mnTo mxTo
    rw [if_pos rfl, if_pos rfl]
    omega
  | succ i ih =>
    have hx : ns[i]? = some ns[i] := List.getElem?_eq_getElem (by omega)
    have := h _ (mem_of_get hx)
    rw [mnTo_succ hx, mxTo_succ hx]
    have := ih (by omega)
    omega
theorem jit_succ {l : List ArrV} {j : Nat} {a b : ArrV} {J D : Int} (ha : l[j]? = some a) (hb : l[j - 1]? = some b) (hJ : jitTo l j = J) (hj : 1 ≤ j) (hD : a.at_ - b.at_ - tAp a.tm b.tm / 8 = D) : jitTo l (j + 1) = J + (absI D - (J + 8) / 16) := by
  rw [jitTo, if_neg (by omega), hJ]
  unfold jitD
  rw [ha, hb]
  simp only
  rw [hD]
def J2Rel (w2 : World) (gO : Nat) (due mis tw lt J : Int) (wr : World) : Prop :=
  w2.grownBy wr (some gO) ∧ Blk wr gO 76 #[.int .i64 due, .int .i64 mis, .int .i64 tw, .int .i64 lt, .int .i64 J]
def IsLossErr (l : List ArrV) (v : Value) (_ : World) : Prop := v = .tuple #[.agg (if arrFault l = 0 then lossCells l else #[.int .i64 0, .int .i64 0, .int .i64 0, .int .i64 0, .int .i64 0]), .int .i64 (arrFault l)]

set_option maxRecDepth 100000 in
set_option maxHeartbeats 20000000 in
theorem losses_ok (lo : Nat) (A : Option Addr) (n c : Nat) (l : List ArrV) (w : World) (h : Arrs w lo A n c l) (hf : arrFault l = 0) (hn0 : 0 < n) :
    Calls Try.prog 48 #[.slice A n c] w (RetP (fun v _ => v = .tuple #[.agg (lossCells l), .int .i64 0]) w) := by
  have H := Lib.hid h; clear h
  have HF := Lib.hid hf
  have HOK := Lib.hid (arr_ok hf)
  have hfb : (arrFault l != 0) = false := by simpa using hf
  have hn2 : n ≤ 2000 := by have := HOK.out.1; have := H.out.1.len; omega
  have hn1 : ((n : Int) == 0) = false := by rw [beq_eq_false_iff_ne]; omega
  have HNB := Lib.hid (numTo_bd (l := l) (fun a ha => (HOK.out.2 a ha).2.1) l.length (Nat.le_refl _))
  have hmm := @run_makeMap Try.prog
  clear hf
  go_enter Try.func48, Try.ntmps48
  go_wp2_with fail
  refine (checkArrivals_any lo _ _ _ l _ (H.out.grown (gr_alloc (gr_refl _ none) _) (fun g e => by cases e)) (by omega)).mono ?_
  rintro e w1 ⟨rfl, hg1⟩
  have HR := Lib.hid ((Blk.new w 76 _).grown hg1 (by simp))
  have HG := Lib.hid (gr_none (gr_alloc (gr_refl w none) _) hg1)
  have z1 := hg1.size; simp at z1
  clear hg1
  go_wp2_with fail
  refine (numbers_any lo _ _ _ l _ (H.out.grown (gr_alloc HG.out _) (fun g e => by cases e)) HF.out).mono ?_
  rintro e w2 ⟨v2, rfl, ⟨A2, m, c2, rfl, hx2⟩, hg2⟩
  replace HR := Lib.hid ((HR.out.alloc _).grown hg2 (by simp))
  have HO := Lib.hid ((Blk.new w1 76 _).grown hg2 (by simp))
  replace HG := Lib.hid (gr_none (gr_alloc HG.out _) hg2)
  have z2 := hg2.size; simp at z2
  have HX2 := Lib.hid (show Ints .i64 w2 (w1.heap.size + 1) A2 m c2 (nums l) by have h := hx2; simpa using h)
  obtain rfl : m = n := by have h1 := hx2.len; have h2 := HNB.out.1; unfold nums at h1; rw [h1, H.out.1.len] at h2; exact h2
  clear hx2 hg2
  obtain ⟨ns, hns⟩ : ∃ ns, nums l = ns := ⟨_, rfl⟩
  rw [hns] at HX2
  have HNS := Lib.hid hns; clear hns
  obtain ⟨gA, oA, x0, rfl, hgA1, hgA2, hx0, hc0⟩ := HX2.out.get hn0
  simp only [Nat.add_zero] at hc0
  have HX0 := Lib.hid hx0; clear hx0
  have s6 : (0 : Int) < (m : Int) := by omega
  go_wp2_with fail
  go_quiet (fail)
  go_wp2_with fail
  clear hmm
  have hM0 : mnTo ns 0 = x0 ∧ mxTo ns 0 = x0 := by
    have hh : ns.headD 0 = x0 := by have h := HX0.out; cases ns <;> simp at h ⊢; exact h
    exact ⟨by unfold mnTo; rw [if_pos rfl, hh], by unfold mxTo; rw [if_pos rfl, hh]⟩
  have HM0 := Lib.hid hM0; clear hM0
  have HWF := Lib.hid (show ∀ x ∈ ns, 0 ≤ x ∧ x ≤ 100000000 from fun x hx => by
    have h1 := HNB.out
    have hx' : x ∈ (numTo l l.length).1 := by have h := HNS.out; unfold nums at h; rw [h]; exact hx
    have h2 := h1.2.2.2.2 x hx'
    have h3 := h1.2.2.1
    have h4 := HOK.out.1
    omega)
  go_loopw [7, 8, 11, 35] (fun s7 s8 _ t wr => ∃ (i : Nat) (tw lt le gr : Int), i ≤ m ∧ t = .int .i64 i ∧ s7 = .int .i64 le ∧ s8 = .int .i64 gr ∧ mnTo ns i = le ∧ mxTo ns i = gr ∧ LRel w2 w1.heap.size w2.heap.size i ns tw lt wr) (fun _ _ _ t _ => m - (intOf t).toNat)
  case atStart => exact ⟨0, 0, 0, x0, x0, Nat.zero_le _, rfl, rfl, rfl, HM0.out.1, HM0.out.2, rfl, gr_drewN (gr_alloc (gr_refl _ _) _) _, (HO.out.alloc _).drewN _, 0, by simp, (SetI.new w2).kept (row := none) (gr_drewN (gr_refl _ _) _) (by simp)⟩
  case round =>
    obtain ⟨i, tw, lt, le, gr, hi, rfl, rfl, rfl, hle, hgr, hcnt, hg, hb, s, hs, hset⟩ := hrel
    have hbd := cntTo_bd ns i
    rw [hcnt] at hbd
    dsimp only at hbd
    obtain ⟨t0, t1, t2⟩ := hbd
    have hmn := mnmx ns i
    rw [hle, hgr] at hmn
    have k2 := hb.cell 2
    have k3 := hb.cell 3
    have f2 := hb.frozen 2
    have f3 := hb.frozen 3
    have zr := hg.size
    have HLE := Lib.hid hle; have HGR := Lib.hid hgr; have HCNT := Lib.hid hcnt; have HG2 := Lib.hid hg; have HB := Lib.hid hb; have HS := Lib.hid hs; have HSET := Lib.hid hset
    clear hle hgr hcnt hg hb hs hset
    by_cases hlt : i < m
    · obtain ⟨g', o', x, hA', _, _, hx, hc⟩ := (HX2.out.grown HG2.out (fun g e => by injection e with e; omega)).get hlt
      injection hA' with hA'
      injection hA' with hA1 hA2
      subst hA1; subst hA2
      obtain ⟨x1, x2⟩ := HWF.out x (mem_of_get hx)
      have HW := Lib.hid (WalkArith.wf_i64 (n := x) (by omega))
      have HX := Lib.hid hx; clear hx
      cases hmb : memB (ns.take i) x
      · by_cases hlate : x < gr
        · have hl' : ¬ gr < x := by omega
          have HLT := Lib.hid (cnt_late HX.out hmb ((late_iff HX.out).2 (by rw [HGR.out]; exact hlate)) HCNT.out)
          by_cases hxe : x < le
          · have hxe2 : ¬ le ≤ x := by omega
            have hxe3 : ¬ le < x := by omega
            go_wp2_with (first
              | (at_lookup; refine wpl_setlook rfl _ _ rfl rfl x rfl HW.out HSET.out ?_)
              | (at_mapUpdate
                 refine wpl_setput rfl _ _ _ rfl rfl x rfl rfl HW.out (by first | exact HSET.out | exact HSET.out.kept (gr_setCell (gr_refl _ (some w1.heap.size)) (.inl rfl) _) (by simp; omega)) (by unfold maxLen; omega) ?_
                 intro w5 h5 hg5
                 have H5 := Lib.hid h5; have HG5 := Lib.hid hg5; clear h5 hg5)
              | fail)
            go_roundw
            case rel =>
              refine ⟨i + 1, tw, lt + 1, x, gr, by omega, by go_num, rfl, rfl, by rw [mnTo_succ HX.out, HLE.out]; omega, by rw [mxTo_succ HX.out, HGR.out]; omega, HLT.out, gr_trans (gr_setCell HG2.out (.inl rfl) _) HG5.out (fun g e => .inr (by injection e with e; omega)), (HB.out.set_ 3 _).grown HG5.out (by simp; omega), _, ?_, by rw [take_snoc' HX.out]; exact H5.out⟩
              have h := HS.out
              rw [hmb]
              simp
              omega
            case measure => simp [intOf]; omega
          · have hxe2 : le ≤ x := by omega
            go_wp2_with (first
              | (at_lookup; refine wpl_setlook rfl _ _ rfl rfl x rfl HW.out HSET.out ?_)
              | (at_mapUpdate
                 refine wpl_setput rfl _ _ _ rfl rfl x rfl rfl HW.out (by first | exact HSET.out | exact HSET.out.kept (gr_setCell (gr_refl _ (some w1.heap.size)) (.inl rfl) _) (by simp; omega)) (by unfold maxLen; omega) ?_
                 intro w5 h5 hg5
                 have H5 := Lib.hid h5; have HG5 := Lib.hid hg5; clear h5 hg5)
              | fail)
            go_roundw
            case rel =>
              refine ⟨i + 1, tw, lt + 1, le, gr, by omega, by go_num, rfl, rfl, by rw [mnTo_succ HX.out, HLE.out]; omega, by rw [mxTo_succ HX.out, HGR.out]; omega, HLT.out, gr_trans (gr_setCell HG2.out (.inl rfl) _) HG5.out (fun g e => .inr (by injection e with e; omega)), (HB.out.set_ 3 _).grown HG5.out (by simp; omega), _, ?_, by rw [take_snoc' HX.out]; exact H5.out⟩
              have h := HS.out
              rw [hmb]
              simp
              omega
            case measure => simp [intOf]; omega
        · have HLT := Lib.hid (cnt_none HX.out hmb (fun h => hlate (by have h2 := (late_iff HX.out).1 h; rw [HGR.out] at h2; exact h2)) HCNT.out)
          have hxe : ¬ x < le := by omega
          have hxe2 : le ≤ x := by omega
          have hl3 : decide (x < gr) = false := by simpa using hlate
          by_cases hxg : gr < x
          · go_wp2_with (first
              | (at_lookup; refine wpl_setlook rfl _ _ rfl rfl x rfl HW.out HSET.out ?_)
              | (at_mapUpdate
                 refine wpl_setput rfl _ _ _ rfl rfl x rfl rfl HW.out (by first | exact HSET.out | exact HSET.out.kept (gr_setCell (gr_refl _ (some w1.heap.size)) (.inl rfl) _) (by simp; omega)) (by unfold maxLen; omega) ?_
                 intro w5 h5 hg5
                 have H5 := Lib.hid h5; have HG5 := Lib.hid hg5; clear h5 hg5)
              | fail)
            go_roundw
            case rel =>
              refine ⟨i + 1, tw, lt, le, x, by omega, by go_num, rfl, rfl, by rw [mnTo_succ HX.out, HLE.out]; omega, by rw [mxTo_succ HX.out, HGR.out]; omega, HLT.out, gr_trans HG2.out HG5.out (fun g e => .inr (by injection e with e; omega)), HB.out.grown HG5.out (by simp; omega), _, ?_, by rw [take_snoc' HX.out]; exact H5.out⟩
              have h := HS.out
              rw [hmb]
              simp
              omega
            case measure => simp [intOf]; omega
          · go_wp2_with (first
              | (at_lookup; refine wpl_setlook rfl _ _ rfl rfl x rfl HW.out HSET.out ?_)
              | (at_mapUpdate
                 refine wpl_setput rfl _ _ _ rfl rfl x rfl rfl HW.out (by first | exact HSET.out | exact HSET.out.kept (gr_setCell (gr_refl _ (some w1.heap.size)) (.inl rfl) _) (by simp; omega)) (by unfold maxLen; omega) ?_
                 intro w5 h5 hg5
                 have H5 := Lib.hid h5; have HG5 := Lib.hid hg5; clear h5 hg5)
              | fail)
            go_roundw
            case rel =>
              refine ⟨i + 1, tw, lt, le, gr, by omega, by go_num, rfl, rfl, by rw [mnTo_succ HX.out, HLE.out]; omega, by rw [mxTo_succ HX.out, HGR.out]; omega, HLT.out, gr_trans HG2.out HG5.out (fun g e => .inr (by injection e with e; omega)), HB.out.grown HG5.out (by simp; omega), _, ?_, by rw [take_snoc' HX.out]; exact H5.out⟩
              have h := HS.out
              rw [hmb]
              simp
              omega
            case measure => simp [intOf]; omega
      · have HLT := Lib.hid (cnt_twice HX.out hmb HCNT.out)
        have hmm2 := mem_mnmx hmb
        rw [HLE.out, HGR.out] at hmm2
        obtain ⟨q1, q2⟩ := hmm2
        have hxe : ¬ x < le := by omega
        have hxg : ¬ gr < x := by omega
        go_wp2_with (first
          | (at_lookup; refine wpl_setlook rfl _ _ rfl rfl x rfl HW.out HSET.out ?_)
          | (at_mapUpdate
             refine wpl_setput rfl _ _ _ rfl rfl x rfl rfl HW.out (by first | exact HSET.out | exact HSET.out.kept (gr_setCell (gr_refl _ (some w1.heap.size)) (.inl rfl) _) (by simp; omega)) (by unfold maxLen; omega) ?_
             intro w5 h5 hg5
             have H5 := Lib.hid h5; have HG5 := Lib.hid hg5; clear h5 hg5)
          | fail)
        go_roundw
        case rel =>
          refine ⟨i + 1, tw + 1, lt, le, gr, by omega, by go_num, rfl, rfl, by rw [mnTo_succ HX.out, HLE.out]; omega, by rw [mxTo_succ HX.out, HGR.out]; omega, HLT.out, gr_trans (gr_setCell HG2.out (.inl rfl) _) HG5.out (fun g e => .inr (by injection e with e; omega)), (HB.out.set_ 2 _).grown HG5.out (by simp; omega), _, ?_, by rw [take_snoc' HX.out]; exact H5.out⟩
          have h := HS.out
          rw [hmb]
          simp
          omega
        case measure => simp [intOf]; omega
    · obtain rfl : i = m := by omega
      obtain ⟨wo, rfl⟩ : ∃ wo : World, wo = wr := ⟨_, rfl⟩
      have hnl : ns.length = i := HX2.out.len
      have hmm3 := mm_bd HWF.out (by omega) i (by omega)
      rw [HLE.out, HGR.out] at hmm3
      obtain ⟨le0, gr0⟩ := hmm3
      have HNL := Lib.hid hnl; clear hnl
      have k0 := HB.out.cell 0
      have k1 := HB.out.cell 1
      have f0 := HB.out.frozen 0
      have f1 := HB.out.frozen 1
      have hsb : s ≤ i := by have := HS.out; omega
      go_wp2_with (first
        | (refine wpl_setlen rfl _ rfl rfl (by first | exact HSET.out | exact HSET.out.kept (gr_setCell (gr_refl _ (some w1.heap.size)) (.inl rfl) _) (by simp; omega)) ?_)
        | fail)
      clear k0 k1 f0 f1 k2 k3 f2 f3
      go_loopw [12, 13] (fun t _ wr => ∃ (j : Nat) (J : Int), 1 ≤ j ∧ j ≤ i ∧ t = .int .i64 j ∧ jitTo l j = J ∧ J2Rel w2 w1.heap.size (gr - le + 1) (gr - le + 1 - s) tw lt J wr) (fun t _ _ => i - (intOf t).toNat)
      case atStart =>
        refine ⟨1, 0, by omega, by omega, rfl, rfl, gr_setCell (gr_setCell HG2.out (.inl rfl) _) (.inl rfl) _, ?_⟩
        have h := (HB.out.set_ 0 (.int .i64 (gr - le + 1))).set_ 1 (.int .i64 (gr - le + 1 - s))
        exact h
      case round =>
        obtain ⟨j, J, hj1, hj2, rfl, hJ, hg3, hb3⟩ := hrel
        have hjb := jitTo_bd (l := l) (fun a ha => (HOK.out.2 a ha).1) j
        rw [hJ] at hjb
        obtain ⟨J0, J1⟩ := hjb
        have k4 := hb3.cell 4
        have f4 := hb3.frozen 4
        have HJ := Lib.hid hJ; have HG3 := Lib.hid hg3; have HB3 := Lib.hid hb3
        clear hJ hg3 hb3
        have HGW := Lib.hid (gr_trans HG.out HG3.out (fun g e => .inr (by injection e with e; omega)))
        by_cases hlt2 : j < i
        · obtain ⟨g, o, ⟨zat, zty, zsq, ztm, zsr, zmk, zA, zn, zc, zpay⟩, rfl, _, hgl, hz, hc⟩ := (H.out.1.grown HGW.out (fun g e => by cases e)).get ArrV.row_len hlt2
          obtain ⟨⟨yat, yty, ysq, ytm, ysr, ymk, yA, yn, yc, ypay⟩, hy⟩ : ∃ f, l[j - 1]? = some f := ⟨_, List.getElem?_eq_getElem (by rw [H.out.1.len]; omega)⟩
          have HRR := Lib.hid (H.out.1.grown HGW.out (fun g e => by cases e))
          have zok := HOK.out.2 _ (mem_of_get hz)
          have yok := HOK.out.2 _ (mem_of_get hy)
          dsimp only at zok yok
          obtain ⟨⟨z10, z11⟩, _, ⟨z20, z21⟩, _⟩ := zok
          obtain ⟨⟨y10, y11⟩, _, ⟨y20, y21⟩, _⟩ := yok
          have cz0 := HRR.out.at_ ArrV.row_len hz 0 _ rfl
          have cz3 := HRR.out.at_ ArrV.row_len hz 3 _ rfl
          have cy0 := HRR.out.at_ ArrV.row_len hy 0 _ rfl
          have cy3 := HRR.out.at_ ArrV.row_len hy 3 _ rfl
          simp only [Nat.add_zero] at cz0 cy0
          have HZ := Lib.hid hz; have HY := Lib.hid hy
          clear hz hc hy
          obtain ⟨F, hFe⟩ : ∃ F, tAp ztm ytm = F := ⟨_, rfl⟩
          have hFb := tAp_bd ztm ytm
          rw [hFe] at hFb
          obtain ⟨F0, F1⟩ := hFb
          obtain ⟨D, hD⟩ : ∃ D, zat - yat - F / 8 = D := ⟨_, rfl⟩
          have HJS := Lib.hid (jit_succ HZ.out HY.out HJ.out hj1 (show zat - yat - tAp ztm ytm / 8 = D by rw [hFe]; exact hD))
          have HFE := Lib.hid hFe; clear hFe
          have D0 : -400000000000 ≤ D := by omega
          have D1 : D ≤ 400000000000 := by omega
          have s2 : (0 : Int) ≤ (j : Int) - 1 := by omega
          have s5 : (1 : Int) ≤ (j : Int) := by omega
          have s3 : (j : Int) - 1 < (i : Int) := by omega
          have s6 : (0 : Int) ≤ (j : Int) := by omega
          have s7 : (j : Int) < (i : Int) := by omega
          have s8 : IntKind.i64.wrap (zat - yat) = zat - yat := IntWalk.i64_in _ (by omega)
          have s9 : IntKind.i64.wrap (zat - yat - F / 8) = zat - yat - F / 8 := IntWalk.i64_in _ (by omega)
          have s1 : IntKind.i64.wrap ((j : Int) - 1) = (j : Int) - 1 := IntWalk.i64_in _ (by omega)
          have s4 : ((j : Int) - 1).toNat = j - 1 := by omega
          by_cases hneg : D < -D
          · go_wp2_with fail
            go_quiet ((go_at_call 72; exact quiet0 (apart_as ztm ytm F _ z20 z21 y20 y21 HFE.out)))
            clear s1 s4 s8 s9
            go_wp2_with fail
            go_roundw
            case rel => exact ⟨j + 1, _, by omega, by omega, by go_num, by rw [HJS.out]; unfold absI; rw [if_pos hneg], gr_setCell (gr_drewN HG3.out _) (.inl rfl) _, (HB3.out.drewN _).set_ 4 _⟩
            case measure => simp [intOf]; omega
          · go_wp2_with fail
            go_quiet ((go_at_call 72; exact quiet0 (apart_as ztm ytm F _ z20 z21 y20 y21 HFE.out)))
            clear s1 s4 s8 s9
            go_wp2_with fail
            go_roundw
            case rel => exact ⟨j + 1, _, by omega, by omega, by go_num, by rw [HJS.out]; unfold absI; rw [if_neg (by omega)], gr_setCell (gr_drewN HG3.out _) (.inl rfl) _, (HB3.out.drewN _).set_ 4 _⟩
            case measure => simp [intOf]; omega
        · obtain rfl : j = i := by omega
          have HR3 := Lib.hid (HR.out.grown HG3.out (by simp; omega))
          go_wp2_with (first
            | (refine wpl_load_all Try.lossT rfl _ rfl _ rfl _ _ HB3.out rfl ?_)
            | (refine wpl_store_all Try.lossT rfl _ _ rfl _ rfl _ _ _ rfl HR3.out rfl rfl (by simp [Value.oneCell']) ?_
               intro wz hst
               have HST := Lib.hid hst; clear hst)
            | fail)
          have hst := HST.out
          refine ret_cell_tmp Try.lossT rfl _ _ _ _ rfl rfl hst.1 rfl rfl ?_
          refine ⟨_, rfl, ?_, gr_trans HGW.out hst.2.1 (fun g e => .inr (by injection e with e; omega))⟩
          have e1 : lmax (nums l) = gr := by rw [HNS.out, ← HGR.out]; unfold mxTo; rw [if_neg (by omega), List.take_of_length_le (by rw [HNL.out]; exact Nat.le_refl _)]
          have e2 : lmin (nums l) = le := by rw [HNS.out, ← HLE.out]; unfold mnTo; rw [if_neg (by omega), List.take_of_length_le (by rw [HNL.out]; exact Nat.le_refl _)]
          have e3 : l.length = j := H.out.1.len
          have e4 : cntTo (nums l) j = (tw, lt) := by rw [HNS.out]; exact HCNT.out
          unfold lossCells
          rw [e3, if_neg (by omega), e1, e2, e4, HJ.out]
          rw [show ((j : Int) - (tw, lt).1) = (s : Int) from by have := HS.out; dsimp only; omega]
          rfl

set_option maxRecDepth 100000 in
set_option maxHeartbeats 4000000 in
theorem losses_none (lo : Nat) (A : Option Addr) (n c : Nat) (l : List ArrV) (w : World) (h : Arrs w lo A n c l) (hn : n ≤ 1000000) (hf : arrFault l ≠ 0 ∨ n = 0) :
    Calls Try.prog 48 #[.slice A n c] w (RetP (fun v _ => v = .tuple #[.agg #[.int .i64 0, .int .i64 0, .int .i64 0, .int .i64 0, .int .i64 0], .int .i64 (arrFault l)]) w) := by
  have H := Lib.hid h; clear h
  by_cases h0 : arrFault l = 0
  · have hfb : (arrFault l != 0) = false := by simpa using h0
    obtain rfl : n = 0 := by rcases hf with h | h; exact absurd h0 h; exact h
    have HF := Lib.hid h0; clear hf h0
    go_enter Try.func48, Try.ntmps48
    go_wp2_with fail
    refine (checkArrivals_any lo _ _ _ l _ (H.out.grown (gr_alloc (gr_refl _ none) _) (fun g e => by cases e)) (by omega)).mono ?_
    rintro e w1 ⟨rfl, hg1⟩
    have HR := Lib.hid ((Blk.new w 76 _).grown hg1 (by simp))
    have HG := Lib.hid (gr_none (gr_alloc (gr_refl w none) _) hg1)
    clear hg1
    go_wp2_with (first
      | (refine wpl_store_all Try.lossT rfl _ _ rfl _ rfl _ _ _ rfl HR.out rfl rfl (by simp [Value.oneCell']) ?_
         intro wz hst
         have HST := Lib.hid hst; clear hst)
      | fail)
    have hst := HST.out
    refine ret_cell_tmp Try.lossT rfl _ _ _ _ rfl rfl hst.1 rfl rfl ?_
    refine ⟨_, rfl, ?_, gr_trans HG.out hst.2.1 (fun g e => .inr (by injection e with e; omega))⟩
    first
      | rfl
      | (rw [HF.out]; rfl)
      | fail
  · have hfb : (arrFault l != 0) = true := by simpa using h0
    have HF := Lib.hid h0; clear hf h0
    go_enter Try.func48, Try.ntmps48
    go_wp2_with fail
    refine (checkArrivals_any lo _ _ _ l _ (H.out.grown (gr_alloc (gr_refl _ none) _) (fun g e => by cases e)) (by omega)).mono ?_
    rintro e w1 ⟨rfl, hg1⟩
    have HR := Lib.hid ((Blk.new w 76 _).grown hg1 (by simp))
    have HG := Lib.hid (gr_none (gr_alloc (gr_refl w none) _) hg1)
    clear hg1
    go_wp2_with (first
      | (refine wpl_store_all Try.lossT rfl _ _ rfl _ rfl _ _ _ rfl HR.out rfl rfl (by simp [Value.oneCell']) ?_
         intro wz hst
         have HST := Lib.hid hst; clear hst)
      | fail)
    have hst := HST.out
    refine ret_cell_tmp Try.lossT rfl _ _ _ _ rfl rfl hst.1 rfl rfl ?_
    refine ⟨_, rfl, ?_, gr_trans HG.out hst.2.1 (fun g e => .inr (by injection e with e; omega))⟩
    first
      | rfl
      | (rw [HF.out]; rfl)
      | fail
end Go.Proofs.Ytdknfhpconfhkaa

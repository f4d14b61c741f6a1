/- Contract of Unpaid. Conditions: none. -/
import Derived.Test.YtdgjjjdndedeiaaGreatDoorBun5
import Derived.Test.YtdgjjjdndedeiaaGreatDoorBun3
namespace Go.Proofs.YtdgjjjdndedeiaaGreatDoor
open Go.RowKit

theorem Tryz.intsT : ElemT Tryz.prog 22 3 1 8 (.int .i64 0) := elemT_of Tryz.underlying22 (by kernel_rfl) rfl (by decide)
def unpL (t : TfV) (p : List PyV) (l : List RcV) : List Int := if useE t p l = 0 then unpTo t p l l.length else []
theorem unpB_of {t : TfV} {p : List PyV} {r : RcV} {D Y C : Bool} (hd : decide (0 < r.talk) = D) (hy : (payerOf p (nb r.frm)).isSome = Y) (hc : (clsOf t.cl (nb r.too)).isSome = C) : unpB t p r = (D && !(Y && C)) := by
  unfold unpB paidB; rw [hd, hy, hc]
set_option maxHeartbeats 8000000 in
set_option maxRecDepth 100000 in
theorem Unpaid_any (lo : Nat) (cA iA : Option Addr) (cn cc en ic : Nat) (free : Int) (cl : List ClV) (ins : List ByteArray) (P : Option Addr) (pn pc : Nat) (p : List PyV) (L : Option Addr) (ln lc : Nat) (l : List RcV) (w : World) (htf : TfOk w lo ⟨cA, cn, cc, free, iA, en, ic, cl, ins⟩) (hpy : Pys w lo P pn pc p) (hrc : Rcs w lo L ln lc l) (hpn : pn ≤ 1000) (hln : ln ≤ 1000000000) :
    Calls Tryz.prog 12 #[.agg #[.slice cA cn cc, .int .i64 free, .slice iA en ic], .slice P pn pc, .slice L ln lc] w (SlErr irow 1 3 (unpL ⟨cA, cn, cc, free, iA, en, ic, cl, ins⟩ p l) (useE ⟨cA, cn, cc, free, iA, en, ic, cl, ins⟩ p l) w) := by
  have HTF := Lib.hid htf; have HPY := Lib.hid hpy; have HRC := Lib.hid hrc
  obtain ⟨E1, h1⟩ : ∃ E, useE ⟨cA, cn, cc, free, iA, en, ic, cl, ins⟩ p l = E := ⟨_, rfl⟩
  have H1 := Lib.hid h1
  have HT := Lib.hid (Blk.new w 29 #[.slice cA cn cc, .int .i64 free, .slice iA en ic])
  have HG := Lib.hid (gr_alloc (gr_refl w none) (.cells #[.slice cA cn cc, .int .i64 free, .slice iA en ic] 29))
  by_cases e1 : E1 = 0
  · have d1 : (E1 != 0) = false := by simpa using e1
    obtain ⟨het, hep, her⟩ := use_right (h1.trans e1)
    obtain ⟨hr1, hr2, hr3⟩ := rcs_right her
    obtain ⟨hsr, hnum⟩ := tar_right htf.2.1.len het
    have hlk : ln ≤ 3000 := by rw [← hrc.1.len]; exact hr1
    have hcn : cn ≤ 1000 := htf.1.2.2.1
    have HRR := Lib.hid hr2; have HSR := Lib.hid hsr; have HNU := Lib.hid hnum
    have HEP := Lib.hid hep
    have HPL := Lib.hid (fun q hq => (hpy.2 q hq).2.len : ∀ q ∈ p, q.nums.length = q.nn)
    have HFF := Lib.hid (show unpL ⟨cA, cn, cc, free, iA, en, ic, cl, ins⟩ p l = unpTo ⟨cA, cn, cc, free, iA, en, ic, cl, ins⟩ p l ln by unfold unpL; rw [if_pos (h1.trans e1), hrc.1.len])
    have HE0 := Lib.hid e1
    rw [h1]
    clear e1 h1 htf hpy hrc het hep her hr1 hr2 hr3 hsr hnum
    go_enter Tryz.func12, Tryz.ntmps12
    go_wp2_with (first
      | (refine wpl_load_all Tryz.tfT rfl _ rfl _ rfl _ _ HT.out rfl ?_)
      | fail)
    refine (checkUse_any lo cA iA cn cc en ic free cl ins P pn pc p L ln lc l _ (HTF.out.grown HG.out (fun g e => by cases e)) (HPY.out.grown HG.out (fun g e => by cases e)) (HRC.out.grown HG.out (fun g e => by cases e)) hpn hln).mono ?_
    rintro e w2 ⟨rfl, hg2⟩
    rw [H1.out]
    have HT2 := Lib.hid (HT.out.grown hg2 (by simp))
    have HG2 := Lib.hid (gr_none HG.out hg2); clear hg2
    go_wp2_with fail
    refine (owners_any lo P pn pc p _ (HPY.out.grown HG2.out (fun g e => by cases e)) hpn).mono ?_
    rintro e w3 ⟨ob, mo, rfl, hms, hg3⟩
    obtain ⟨F, hF⟩ : ∃ F, lastOf (pairsOf p) = F := ⟨_, rfl⟩
    rw [hF] at hms
    have HF := Lib.hid (fun s => by rw [← hF]; exact payer_last HPL.out HEP.out s : ∀ s, F s = (payerOf p (nb s)).map (·.key))
    have HMS := Lib.hid hms
    have HG3 := Lib.hid (gr_none HG2.out hg3)
    have HT3 := Lib.hid (HT2.out.grown hg3 (by simp))
    have z3 := HG3.out.size
    clear hF hms hg3 HT2 HG2
    go_wp2_with fail
    go_loopw [10, 11, 12, 13, 14, 15, 16, 28] (fun out _ _ _ _ _ _ t wr => ∃ (k n c : Nat) (A : Option Addr), k ≤ ln ∧ t = .int .i64 k ∧ out = .slice A n c ∧ w3.grownBy wr none ∧ n ≤ k ∧ OwnR irow 1 wr w3.heap.size 3 A n c (unpTo ⟨cA, cn, cc, free, iA, en, ic, cl, ins⟩ p l k)) (fun _ _ _ _ _ _ _ t _ => ln - (intOf t).toNat)
    case atStart => exact ⟨0, 0, 0, none, Nat.zero_le _, rfl, rfl, gr_refl _ _, Nat.le_refl _, OwnR.nil _ _ _⟩
    case round =>
      obtain ⟨k, n, c, A, hk, rfl, rfl, hgb, hnk, hown⟩ := hrel
      have zr := hgb.size
      have HO := Lib.hid hown
      have HTr := Lib.hid (HT3.out.grown hgb (by simp))
      have HMr := Lib.hid (HMS.out.kept hgb (by simp))
      have HGB := Lib.hid hgb
      have HG := Lib.hid (gr_none HG3.out hgb)
      clear hgb hown
      by_cases hlt : k < ln
      · obtain ⟨g, o, ⟨id, frm, too, at_, ring, talk, how, car⟩, rfl, _, hgl, hz, hcc⟩ := (HRC.out.1.grown HG.out (fun g e => by cases e)).get RcV.row_len hlt
        obtain ⟨p1, p2, p3, p4, p5, p6⟩ := HRC.out.2 _ (mem_of_get hz)
        dsimp only at p1 p2 p3 p4 p5 p6
        have HZ := Lib.hid hz; have HC := Lib.hid hcc; clear hz hcc
        obtain ⟨wa, hwa⟩ : ∃ wa, wr.alloc (.cells #[.string id, .string frm, .string too, .int .i64 at_, .int .i64 ring, .int .i64 talk, .int .i64 how, .string car] 84) = wa := ⟨_, rfl⟩
        have HR := Lib.hid (show Blk wa wr.heap.size 84 #[.string id, .string frm, .string too, .int .i64 at_, .int .i64 ring, .int .i64 talk, .int .i64 how, .string car] by rw [← hwa]; exact Blk.new _ _ _)
        have HGa := Lib.hid (show wr.grownBy wa none by rw [← hwa]; exact gr_alloc (gr_refl _ _) _)
        have HWA := Lib.hid hwa; clear hwa
        have k1 := HR.out.cell 1
        have k2 := HR.out.cell 2
        obtain ⟨Y, hY⟩ : ∃ Y, F frm = Y := ⟨_, rfl⟩
        obtain ⟨YS, hYS⟩ : ∃ YS, Y.getD ⟨#[]⟩ = YS := ⟨_, rfl⟩
        obtain ⟨YB, hYB⟩ : ∃ YB, Y.isSome = YB := ⟨_, rfl⟩
        have HMa := Lib.hid (HMr.out.kept HGa.out (by simp))
        have HTa := Lib.hid (HTr.out.grown HGa.out (by simp))
        have HY := Lib.hid (show (payerOf p (nb frm)).isSome = YB by rw [← hYB, ← hY, HF.out frm, Option.isSome_map])
        go_wp2_with (first
          | (refine wpl_load_at Tryz.rcT rfl _ rfl _ rfl [.string id, .string frm, .string too, .int .i64 at_, .int .i64 ring, .int .i64 talk, .int .i64 how, .string car] rfl (fun j u hu => by rw [add_mk]; exact HC.out j u hu) ?_)
          | (rw [HWA.out]; refine wpl_sslook2 rfl _ _ rfl rfl frm rfl (by unfold maxLen; omega) (by exact HMa.out) ?_)
          | (refine wpl_load_all Tryz.tfT rfl _ rfl _ rfl _ _ HTa.out rfl ?_)
          | fail)
        refine (classOf_any lo ⟨cA, cn, cc, free, iA, en, ic, cl, ins⟩ too _ (HTF.out.grown (gr_none HG.out HGa.out) (fun g e => by cases e)) (by omega) HSR.out).mono ?_
        rintro e w4 ⟨rfl, hg4⟩
        clear hY hYS hYB k1 k2
        obtain ⟨C, hC⟩ : ∃ C, clsOf cl (nb too) = C := ⟨_, rfl⟩
        rw [show clsOf (TfV.cl ⟨cA, cn, cc, free, iA, en, ic, cl, ins⟩) (nb too) = C from hC]
        obtain ⟨q0, q1, i1, i2, i3, i4, hrow⟩ := clsRow_is C
        rw [hrow]
        obtain ⟨CB, hCB⟩ : ∃ CB, C.isSome = CB := ⟨_, rfl⟩
        rw [hCB]
        have HCC := Lib.hid (show (clsOf (TfV.cl ⟨cA, cn, cc, free, iA, en, ic, cl, ins⟩) (nb too)).isSome = CB by rw [← hCB, ← hC])
        clear hC hrow hCB
        have HG4 := Lib.hid (gr_none HGa.out hg4)
        obtain ⟨wb, hwb⟩ : ∃ wb, w4.alloc (.cells #[.string q0, .string q1, .int .i64 i1, .int .i64 i2, .int .i64 i3, .int .i64 i4] 113) = wb := ⟨_, rfl⟩
        have HGb := Lib.hid (show wr.grownBy wb none by rw [← hwb]; exact gr_alloc HG4.out _)
        have HRb := Lib.hid (show Blk wb wr.heap.size 84 #[.string id, .string frm, .string too, .int .i64 at_, .int .i64 ring, .int .i64 talk, .int .i64 how, .string car] by rw [← hwb]; exact (HR.out.grown hg4 (by simp)).alloc _)
        have zb := HGb.out.size
        clear hg4
        have k5 := HRb.out.cell 5
        have HOb := Lib.hid (HO.out.kept HGb.out (fun g e => by cases e))
        by_cases d1 : 0 < talk
        · have e1 : decide (0 < talk) = true := decide_eq_true d1
          have D1 := Lib.hid e1
          cases YB
          · have HU := Lib.hid (show unpB ⟨cA, cn, cc, free, iA, en, ic, cl, ins⟩ p ⟨id, frm, too, at_, ring, talk, how, car⟩ = true by exact (unpB_of (t := ⟨cA, cn, cc, free, iA, en, ic, cl, ins⟩) (p := p) (r := ⟨id, frm, too, at_, ring, talk, how, car⟩) D1.out HY.out HCC.out).trans rfl)
            go_wp2_with (first
              | (at_builtin
                 refine wpl_app _ rfl _ _ Tryz.intsT rfl w3.heap.size A n c _ rfl (by exact HOb.out.1.alloc _) _ _ 1 1 [.int .i64 k] rfl (by exact Reads.one _ _ _ _ rfl) (by simp [Value.oneCell']) (by unfold maxLen; omega) (by omega) (by simp; omega) ?_
                 intro A5 c5 w5 h5
                 have H5 := Lib.hid h5; clear h5)
              | fail)
            go_roundw
            case rel => exact ⟨k + 1, n + 1, c5, A5, by omega, by go_num, rfl, H5.out.gr (gr_alloc (gr_none HGB.out HGb.out) _) (HOb.out.1.alloc _) (Nat.le_refl _), by omega, by rw [unpTo_hit HZ.out HU.out]; exact (HOb.out.alloc _).app rfl H5.out⟩
            case measure => simp [intOf]; omega
          · cases CB
            · have HU := Lib.hid (show unpB ⟨cA, cn, cc, free, iA, en, ic, cl, ins⟩ p ⟨id, frm, too, at_, ring, talk, how, car⟩ = true by exact (unpB_of (t := ⟨cA, cn, cc, free, iA, en, ic, cl, ins⟩) (p := p) (r := ⟨id, frm, too, at_, ring, talk, how, car⟩) D1.out HY.out HCC.out).trans rfl)
              go_wp2_with (first
                | (at_builtin
                   refine wpl_app _ rfl _ _ Tryz.intsT rfl w3.heap.size A n c _ rfl (by exact HOb.out.1.alloc _) _ _ 1 1 [.int .i64 k] rfl (by exact Reads.one _ _ _ _ rfl) (by simp [Value.oneCell']) (by unfold maxLen; omega) (by omega) (by simp; omega) ?_
                   intro A5 c5 w5 h5
                   have H5 := Lib.hid h5; clear h5)
                | fail)
              go_roundw
              case rel => exact ⟨k + 1, n + 1, c5, A5, by omega, by go_num, rfl, H5.out.gr (gr_alloc (gr_none HGB.out HGb.out) _) (HOb.out.1.alloc _) (Nat.le_refl _), by omega, by rw [unpTo_hit HZ.out HU.out]; exact (HOb.out.alloc _).app rfl H5.out⟩
              case measure => simp [intOf]; omega
            · have HU := Lib.hid (show unpB ⟨cA, cn, cc, free, iA, en, ic, cl, ins⟩ p ⟨id, frm, too, at_, ring, talk, how, car⟩ = false by exact (unpB_of (t := ⟨cA, cn, cc, free, iA, en, ic, cl, ins⟩) (p := p) (r := ⟨id, frm, too, at_, ring, talk, how, car⟩) D1.out HY.out HCC.out).trans rfl)
              go_wp2_with fail
              go_roundw
              case rel => exact ⟨k + 1, n, c, A, by omega, by go_num, rfl, gr_none HGB.out HGb.out, by omega, by rw [unpTo_miss HZ.out HU.out]; exact HOb.out⟩
              case measure => simp [intOf]; omega
        · have e1 : decide (0 < talk) = false := decide_eq_false d1
          have D1 := Lib.hid e1
          have HU := Lib.hid (show unpB ⟨cA, cn, cc, free, iA, en, ic, cl, ins⟩ p ⟨id, frm, too, at_, ring, talk, how, car⟩ = false by exact (unpB_of (t := ⟨cA, cn, cc, free, iA, en, ic, cl, ins⟩) (p := p) (r := ⟨id, frm, too, at_, ring, talk, how, car⟩) D1.out HY.out HCC.out).trans rfl)
          go_wp2_with fail
          go_roundw
          case rel => exact ⟨k + 1, n, c, A, by omega, by go_num, rfl, gr_none HGB.out HGb.out, by omega, by rw [unpTo_miss HZ.out HU.out]; exact HOb.out⟩
          case measure => simp [intOf]; omega
      · obtain rfl : k = ln := by omega
        go_wp2_with fail
        go_ret2
        refine ⟨A, n, c, by rw [← HE0.out]; rfl, ?_, HG.out⟩
        rw [HFF.out]
        exact HO.out.lower (by omega)
  · have d1 : (E1 != 0) = true := by simpa using e1
    have HFF := Lib.hid (show unpL ⟨cA, cn, cc, free, iA, en, ic, cl, ins⟩ p l = [] by unfold unpL; rw [if_neg (by rw [h1]; exact e1)])
    rw [h1]
    clear e1 h1 htf hpy hrc
    go_enter Tryz.func12, Tryz.ntmps12
    go_wp2_with (first
      | (refine wpl_load_all Tryz.tfT rfl _ rfl _ rfl _ _ HT.out rfl ?_)
      | fail)
    refine (checkUse_any lo cA iA cn cc en ic free cl ins P pn pc p L ln lc l _ (HTF.out.grown HG.out (fun g e => by cases e)) (HPY.out.grown HG.out (fun g e => by cases e)) (HRC.out.grown HG.out (fun g e => by cases e)) hpn hln).mono ?_
    rintro e w2 ⟨rfl, hg2⟩
    rw [H1.out]
    have HT2 := Lib.hid (HT.out.grown hg2 (by simp))
    have HG2 := Lib.hid (gr_none HG.out hg2); clear hg2
    go_wp2_with fail
    go_ret2
    exact ⟨none, 0, 0, rfl, by rw [HFF.out]; exact OwnR.nil _ _ _, HG2.out⟩
end Go.Proofs.YtdgjjjdndedeiaaGreatDoor

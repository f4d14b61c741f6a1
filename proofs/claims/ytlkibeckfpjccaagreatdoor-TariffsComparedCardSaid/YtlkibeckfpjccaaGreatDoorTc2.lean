/- Contracts of account.Compare and of the document's CompareOf. Conditions: the table of powers of ten as laid; right arguments where the document answers. -/
import Derived.Test.YtlkibeckfpjccaaGreatDoorTc1
import Derived.Test.YtlkibeckfpjccaaGreatDoorBun7
namespace Go.Proofs.YtlkibeckfpjccaaGreatDoor
open Go.RowKit

theorem Tryz.paT : ElemT Tryz.prog 38 51 2 32 (.agg #[.string ⟨#[]⟩, .string ⟨#[]⟩]) := elemT_of Tryz.underlying38 (by kernel_rfl) rfl (by decide)
theorem chg_all_ok {w : World} {lo : Nat} {t : TfV} {P : Option Addr} {pn pc : Nat} {p : List PyV} {L : Option Addr} {ln lc : Nat} {l : List RcV} {month : Int} (h : UseOk w lo t P pn pc p L ln lc l) {x : ChV × RcV} (hx : x ∈ chgAll t p month l) : ChOk x :=
  chg_ok (tar_free h.et).1 (tar_right h.tf.2.1.len h.et).2 (rcs_right h.er).2.1 (fun _ _ h => clsOf_mem h) _ x hx
def cpE (t u : TfV) (p : List PyV) (l : List RcV) (month : Int) : Int := if tarE t = 0 then monE u p l month else tarE t
def cpL (t u : TfV) (p : List PyV) (l : List RcV) (month : Int) : List PaV := if cpE t u p l month = 0 then cmpPs (chgAll t p month l) (chgAll u p month l) p else []
set_option maxHeartbeats 16000000 in
set_option maxRecDepth 100000 in
theorem compare_any (lo : Nat) (cA iA : Option Addr) (cn cc en ic : Nat) (free : Int) (cl : List ClV) (ins : List ByteArray) (dA jA : Option Addr) (dn dc gn jc : Nat) (gfree : Int) (dl : List ClV) (jns : List ByteArray) (P : Option Addr) (pn pc : Nat) (p : List PyV) (L : Option Addr) (ln lc : Nat) (l : List RcV) (month : Int) (w : World) (htf : TfOk w lo ⟨cA, cn, cc, free, iA, en, ic, cl, ins⟩) (htf2 : TfOk w lo ⟨dA, dn, dc, gfree, jA, gn, jc, dl, jns⟩) (hpy : Pys w lo P pn pc p) (hrc : Rcs w lo L ln lc l) (hpn : pn ≤ 1000) (hln : ln ≤ 1000000000) (hpw : PwT w) :
    Calls Tryz.prog 8 #[.agg #[.slice cA cn cc, .int .i64 free, .slice iA en ic], .agg #[.slice dA dn dc, .int .i64 gfree, .slice jA gn jc], .slice P pn pc, .slice L ln lc, .int .i64 month] w (SlErr PaV.row 2 51 (cpL ⟨cA, cn, cc, free, iA, en, ic, cl, ins⟩ ⟨dA, dn, dc, gfree, jA, gn, jc, dl, jns⟩ p l month) (cpE ⟨cA, cn, cc, free, iA, en, ic, cl, ins⟩ ⟨dA, dn, dc, gfree, jA, gn, jc, dl, jns⟩ p l month) w) := by
  have HTF := Lib.hid htf; have HTF2 := Lib.hid htf2; have HPY := Lib.hid hpy; have HRC := Lib.hid hrc; have HPW0 := Lib.hid hpw
  clear htf htf2 hpy hrc hpw
  obtain ⟨W1, hW⟩ : ∃ W1, (w.alloc (.cells #[.slice cA cn cc, .int .i64 free, .slice iA en ic] 29)).alloc (.cells #[.slice dA dn dc, .int .i64 gfree, .slice jA gn jc] 29) = W1 := ⟨_, rfl⟩
  have HT := Lib.hid (show Blk W1 w.heap.size 29 #[.slice cA cn cc, .int .i64 free, .slice iA en ic] by rw [← hW]; exact (Blk.new _ _ _).alloc _)
  have HT2 := Lib.hid (show Blk W1 (w.heap.size + 1) 29 #[.slice dA dn dc, .int .i64 gfree, .slice jA gn jc] by
    rw [← hW]
    have h := Blk.new (w.alloc (.cells #[.slice cA cn cc, .int .i64 free, .slice iA en ic] 29)) 29 #[.slice dA dn dc, .int .i64 gfree, .slice jA gn jc]
    simpa using h)
  have HG := Lib.hid (show w.grownBy W1 none by rw [← hW]; exact gr_alloc (gr_alloc (gr_refl _ _) _) _)
  have HW := Lib.hid hW; clear hW
  have hmm := @run_makeMap Tryz.prog
  go_enter Tryz.func8, Tryz.ntmps8
  go_upto_region 1 with (fail)
  rw [HW.out]
  clear HW
  go_wp2_with (first
    | (refine wpl_load_all Tryz.tfT rfl _ rfl _ rfl _ _ HT.out rfl ?_)
    | fail)
  refine (checkTariff_any lo ⟨cA, cn, cc, free, iA, en, ic, cl, ins⟩ _ (HTF.out.grown HG.out (fun g e => by cases e))).mono ?_
  rintro e w1 ⟨rfl, hg1⟩
  replace HG := Lib.hid (gr_none HG.out hg1)
  replace HT := Lib.hid (HT.out.grown hg1 (by simp)); replace HT2 := Lib.hid (HT2.out.grown hg1 (by simp))
  clear hg1
  obtain ⟨E, hE⟩ : ∃ E, tarE ⟨cA, cn, cc, free, iA, en, ic, cl, ins⟩ = E := ⟨_, rfl⟩
  rw [hE]
  have HE1 := Lib.hid hE
  clear hE
  by_cases h0 : E = 0
  rotate_left 1
  · have HF := Lib.hid (show cpE ⟨cA, cn, cc, free, iA, en, ic, cl, ins⟩ ⟨dA, dn, dc, gfree, jA, gn, jc, dl, jns⟩ p l month = E from (if_neg (by rw [HE1.out]; exact h0)).trans HE1.out)
    have HF2 := Lib.hid (show cpL ⟨cA, cn, cc, free, iA, en, ic, cl, ins⟩ ⟨dA, dn, dc, gfree, jA, gn, jc, dl, jns⟩ p l month = [] from if_neg (by rw [HF.out]; exact h0))
    go_wp2_with fail
    go_ret2
    exact ⟨none, 0, 0, by rw [HF.out]; rfl, by rw [HF2.out]; exact OwnR.nil _ _ _, HG.out⟩
  subst h0
  go_wp2_with (first
    | (refine wpl_load_all Tryz.tfT rfl _ rfl _ rfl _ _ HT2.out rfl ?_)
    | fail)
  refine (checkMonth_any lo dA jA dn dc gn jc gfree dl jns P pn pc p L ln lc l month _ (HTF2.out.grown HG.out (fun g e => by cases e)) (HPY.out.grown HG.out (fun g e => by cases e)) (HRC.out.grown HG.out (fun g e => by cases e)) hpn hln).mono ?_
  rintro e w2 ⟨rfl, hg1⟩
  replace HG := Lib.hid (gr_none HG.out hg1)
  replace HT := Lib.hid (HT.out.grown hg1 (by simp)); replace HT2 := Lib.hid (HT2.out.grown hg1 (by simp))
  clear hg1
  obtain ⟨E, hE⟩ : ∃ E, monE ⟨dA, dn, dc, gfree, jA, gn, jc, dl, jns⟩ p l month = E := ⟨_, rfl⟩
  rw [hE]
  have HE2 := Lib.hid hE
  clear hE
  by_cases h0 : E = 0
  rotate_left 1
  · have HF := Lib.hid (show cpE ⟨cA, cn, cc, free, iA, en, ic, cl, ins⟩ ⟨dA, dn, dc, gfree, jA, gn, jc, dl, jns⟩ p l month = E from (if_pos HE1.out).trans HE2.out)
    have HF2 := Lib.hid (show cpL ⟨cA, cn, cc, free, iA, en, ic, cl, ins⟩ ⟨dA, dn, dc, gfree, jA, gn, jc, dl, jns⟩ p l month = [] from if_neg (by rw [HF.out]; exact h0))
    go_wp2_with fail
    go_ret2
    exact ⟨none, 0, 0, by rw [HF.out]; rfl, by rw [HF2.out]; exact OwnR.nil _ _ _, HG.out⟩
  subst h0
  have HFE := Lib.hid (show cpE ⟨cA, cn, cc, free, iA, en, ic, cl, ins⟩ ⟨dA, dn, dc, gfree, jA, gn, jc, dl, jns⟩ p l month = 0 from (if_pos HE1.out).trans HE2.out)
  obtain ⟨hu, -⟩ := mon_right HE2.out
  obtain ⟨r1, r2, r3⟩ := use_right hu
  have HU1 := Lib.hid (show UseOk w lo ⟨cA, cn, cc, free, iA, en, ic, cl, ins⟩ P pn pc p L ln lc l from ⟨HTF.out, HPY.out, HRC.out, HE1.out, r2, r3⟩)
  have HU2 := Lib.hid (show UseOk w lo ⟨dA, dn, dc, gfree, jA, gn, jc, dl, jns⟩ P pn pc p L ln lc l from ⟨HTF2.out, HPY.out, HRC.out, r1, r2, r3⟩)
  have HFR1 := Lib.hid (tar_free HE1.out); have HFR2 := Lib.hid (tar_free r1)
  have HPL := Lib.hid HPY.out.1.len
  have hok1 : ∀ x ∈ chgAll ⟨cA, cn, cc, free, iA, en, ic, cl, ins⟩ p month l, ChOk x := fun x hx => chg_all_ok HU1.out hx
  have hsz1 : ∀ x ∈ chgAll ⟨cA, cn, cc, free, iA, en, ic, cl, ins⟩ p month l, x.1.pay.size ≤ 1000 ∧ x.2.too.size ≤ 1000 := fun x hx => chg_size (fun y hy => (HU1.out.py.2 y hy).1.1) (fun r hr => (HU1.out.rc.2 r hr).2.2.1) _ x hx
  have hln1 : (chgAll ⟨cA, cn, cc, free, iA, en, ic, cl, ins⟩ p month l).length ≤ 3000 := Nat.le_trans (chgTo_len _ _ _ _ _) (rcs_right HU1.out.er).1
  obtain ⟨L1, hL1⟩ : ∃ X, chgAll ⟨cA, cn, cc, free, iA, en, ic, cl, ins⟩ p month l = X := ⟨_, rfl⟩
  rw [hL1] at hok1 hsz1 hln1
  have HL1 := Lib.hid hL1; have HOK1 := Lib.hid hok1; have HSZ1 := Lib.hid hsz1
  clear hL1 hok1 hsz1
  have hok2 : ∀ x ∈ chgAll ⟨dA, dn, dc, gfree, jA, gn, jc, dl, jns⟩ p month l, ChOk x := fun x hx => chg_all_ok HU2.out hx
  have hsz2 : ∀ x ∈ chgAll ⟨dA, dn, dc, gfree, jA, gn, jc, dl, jns⟩ p month l, x.1.pay.size ≤ 1000 ∧ x.2.too.size ≤ 1000 := fun x hx => chg_size (fun y hy => (HU2.out.py.2 y hy).1.1) (fun r hr => (HU2.out.rc.2 r hr).2.2.1) _ x hx
  have hln2 : (chgAll ⟨dA, dn, dc, gfree, jA, gn, jc, dl, jns⟩ p month l).length ≤ 3000 := Nat.le_trans (chgTo_len _ _ _ _ _) (rcs_right HU2.out.er).1
  obtain ⟨L2, hL2⟩ : ∃ X, chgAll ⟨dA, dn, dc, gfree, jA, gn, jc, dl, jns⟩ p month l = X := ⟨_, rfl⟩
  rw [hL2] at hok2 hsz2 hln2
  have HL2 := Lib.hid hL2; have HOK2 := Lib.hid hok2; have HSZ2 := Lib.hid hsz2
  clear hL2 hok2 hsz2
  clear hu r1 r2 r3 HTF HTF2 HPY HRC HE1 HE2
  go_upto_region 8 with (fail)
  clear hmm
  obtain ⟨mb, hmb⟩ : ∃ mb, w2.heap.size = mb := ⟨_, rfl⟩
  obtain ⟨wm, hwm⟩ : ∃ wm, w2.alloc (.map #[] 0) = wm := ⟨_, rfl⟩
  (try rw [hwm])
  (try rw [hmb])
  have HM := Lib.hid (show MapSI wm mb 0 (fun _ => 0) by rw [← hwm, ← hmb]; exact MapSI.new _)
  have hgm : w2.grownBy wm none := by rw [← hwm]; exact gr_alloc (gr_refl _ _) _
  have hzm : wm.heap.size = mb + 1 := by rw [← hwm, ← hmb]; simp
  have hmw : w.heap.size ≤ mb := by rw [← hmb]; exact HG.out.size
  have hT2 : w.heap.size + 1 < mb := by rw [← hmb]; exact HT2.out.lt
  have HW := Lib.hid (gr_none HG.out hgm)
  replace HT := Lib.hid (HT.out.grown hgm (by simp)); replace HT2 := Lib.hid (HT2.out.grown hgm (by simp))
  clear hwm hmb hgm HG
  go_wp2_with (first
    | (refine wpl_load_all Tryz.tfT rfl _ rfl _ rfl _ _ HT.out rfl ?_)
    | fail)
  refine (charges_any lo cA iA cn cc en ic free cl ins P pn pc p L ln lc l month _ (HU1.out.grown HW.out) hpn HFR1.out).mono ?_
  rintro e w3 ⟨A1, bn1, bc1, rfl, hown, hg3⟩
  rw [HL1.out] at hown
  have HLN1 := Lib.hid hown.2
  have hbn1 : bn1 ≤ 3000 := by have := hown.2; omega
  have H1 := Lib.hid hown.recs
  obtain ⟨lo1, hlo1⟩ : ∃ v, wm.heap.size = v := ⟨_, rfl⟩
  rw [hlo1] at H1 hzm
  replace HM := Lib.hid (HM.out.kept hg3 (by simp))
  replace HW := Lib.hid (gr_none HW.out hg3)
  replace HT2 := Lib.hid (HT2.out.grown hg3 (by simp))
  clear hown hg3 hlo1 HT
  go_wp2_with fail
  go_loopw [16, 43] (fun _ t wr => ∃ i : Nat, i ≤ bn1 ∧ t = .int .i64 i ∧ w3.grownBy wr (some mb) ∧ MapSI wr mb (0 + i) (fun k => -costK (·.1.pay) (L1.take i) k)) (fun _ t _ => bn1 - (intOf t).toNat)
  case atStart => exact ⟨0, Nat.zero_le _, rfl, gr_refl _ _, by simpa [costK] using HM.out⟩
  case round =>
    clear HM
    obtain ⟨i, hi, rfl, hg, hm⟩ := hrel
    have HG := Lib.hid hg; clear hg
    have HGw := Lib.hid (show w.grownBy wr none from gr_trans HW.out HG.out (fun g e => .inr (by injection e with e; omega)))
    have zr := HG.out.size
    by_cases hlt : i < bn1
    · obtain ⟨g, o, x, rfl, _, hgl, hz, hcc⟩ := (H1.out.grown HG.out (fun g e => by injection e with e; omega)).get cgRow_len hlt
      have HX := Lib.hid hz; have HC := Lib.hid hcc
      obtain ⟨s1, s2⟩ := HSZ1.out x (mem_of_get hz)
      have hbd := costK_take (f := (·.1.pay)) (i := i) (k := x.1.pay) HOK1.out hln1
      have hbd1 := costK_all (f := (·.1.pay)) (k := x.1.pay) HOK1.out hln1
      obtain ⟨_, _, b3, b4⟩ := HOK1.out x (mem_of_get hz)
      obtain ⟨F, hF⟩ : ∃ F, (fun k => -costK (·.1.pay) (L1.take i) k) = F := ⟨_, rfl⟩
      obtain ⟨V, hV⟩ : ∃ V, F x.1.pay = V := ⟨_, rfl⟩
      have hVv : V = -costK (·.1.pay) (L1.take i) x.1.pay := by rw [← hV, ← hF]
      have hsu : (fun k' => if nb x.1.pay = nb k' then V - x.1.cost else F k') = fun k => -costK (·.1.pay) (L1.take (i + 1)) k := by
        funext k
        have hs := costK_snoc (f := (·.1.pay)) (k := k) hz
        rw [hs, hVv, ← hF]
        dsimp only
        by_cases e : nb x.1.pay = nb k
        · rw [if_pos e, if_pos e, nb_inj e]; omega
        · rw [if_neg e, if_neg e]; omega
      have HSU := Lib.hid hsu; have HV := Lib.hid hV
      rw [hF] at hm
      have HM := Lib.hid hm
      have sw : IntKind.i64.wrap (V - x.1.cost) = V - x.1.cost := IntWalk.i64_in _ (by omega)
      have hb1 : -9223372036854775808 ≤ V - x.1.cost := by omega
      have hb2 : V - x.1.cost ≤ 9223372036854775807 := by omega
      clear hz hcc hF hV hVv hsu hm hbd hbd1 b3 b4
      obtain ⟨wa, hwa⟩ : ∃ wa, wr.alloc (.cells #[.string x.1.rec_, .string x.1.pay, .string x.1.cls, .int .i64 x.1.free, .int .i64 x.1.cost, .string x.2.id, .string x.2.frm, .string x.2.too, .int .i64 x.2.at_, .int .i64 x.2.ring, .int .i64 x.2.talk, .int .i64 x.2.how, .string x.2.car] 71) = wa := ⟨_, rfl⟩
      obtain ⟨zb, hzb⟩ : ∃ b, wr.heap.size = b := ⟨_, rfl⟩
      have HR := Lib.hid (show Blk wa zb 71 #[.string x.1.rec_, .string x.1.pay, .string x.1.cls, .int .i64 x.1.free, .int .i64 x.1.cost, .string x.2.id, .string x.2.frm, .string x.2.too, .int .i64 x.2.at_, .int .i64 x.2.ring, .int .i64 x.2.talk, .int .i64 x.2.how, .string x.2.car] by rw [← hwa, ← hzb]; exact Blk.new _ _ _)
      have hga : wr.grownBy wa none := by rw [← hwa]; exact gr_alloc (gr_refl _ _) _
      replace HM := Lib.hid (HM.out.kept hga (by simp))
      replace HG := Lib.hid (gr_none HG.out hga)
      have HWA := Lib.hid hwa; have HZB := Lib.hid hzb; clear hwa hzb hga
      go_upto_region 11 with (first
        | (refine wpl_load_at Tryz.cgS rfl _ rfl _ rfl [.string x.1.rec_, .string x.1.pay, .string x.1.cls, .int .i64 x.1.free, .int .i64 x.1.cost, .string x.2.id, .string x.2.frm, .string x.2.too, .int .i64 x.2.at_, .int .i64 x.2.ring, .int .i64 x.2.talk, .int .i64 x.2.how, .string x.2.car] rfl (fun j u hu => by rw [add_mk]; exact HC.out j u hu) ?_)
        | fail)
      rw [HWA.out]
      (try rw [HZB.out])
      clear HWA HZB HC
      have k1 := HR.out.cell 1; have k4 := HR.out.cell 4
      go_wp2_with (first
        | (refine wpl_silook rfl _ _ rfl rfl x.1.pay rfl (by unfold maxLen; omega) (by exact HM.out) ?_; rw [HV.out])
        | (at_mapUpdate
           refine wpl_siput rfl _ _ _ rfl rfl x.1.pay (V - x.1.cost) rfl rfl (by unfold maxLen; omega) (int_wf hb1 hb2) (by exact HM.out) (by unfold maxLen; omega) ?_
           intro we hse hge
           have HSe := Lib.hid hse; have HGe := Lib.hid hge
           clear hse hge)
        | fail)
      go_roundw
      case rel => exact ⟨i + 1, by omega, by go_num, gr_same HG.out HGe.out, by
        have h := HSe.out
        rw [HSU.out] at h
        exact h⟩
      case measure => simp [intOf]; omega
    · obtain rfl : bn1 = i := by omega
      have hm2 := hm
      rw [show L1.take bn1 = L1 from List.take_of_length_le (by rw [HLN1.out]; exact Nat.le_refl _)] at hm2
      replace HT2 := Lib.hid (HT2.out.grown HG.out (by simp; omega))
      replace HW := HGw
      have HM := Lib.hid hm2
      clear HG HGw hm hm2 hlt hi
      obtain ⟨wp, rfl⟩ : ∃ wp : World, wp = wr := ⟨_, rfl⟩
      have zp : mb < wp.heap.size := HM.out.lt
      go_wp2_with (first
        | (refine wpl_load_all Tryz.tfT rfl _ rfl _ rfl _ _ HT2.out rfl ?_)
        | fail)
      refine (charges_any lo dA jA dn dc gn jc gfree dl jns P pn pc p L ln lc l month _ (HU2.out.grown HW.out) hpn HFR2.out).mono ?_
      rintro e w4 ⟨A2, bn2, bc2, rfl, hown, hg4⟩
      rw [HL2.out] at hown
      have HLN2 := Lib.hid hown.2
      have hbn2 : bn2 ≤ 3000 := by have := hown.2; omega
      have H2 := Lib.hid hown.recs
      obtain ⟨lo2, hlo2⟩ : ∃ v, wp.heap.size = v := ⟨_, rfl⟩
      rw [hlo2] at H2 zp
      replace HM := Lib.hid (HM.out.kept hg4 (by simp))
      replace HW := Lib.hid (gr_none HW.out hg4)
      clear hown hg4 hlo2 HT2
      go_wp2_with fail
      go_loopw [18, 63] (fun _ t wr => ∃ i : Nat, i ≤ bn2 ∧ t = .int .i64 i ∧ w4.grownBy wr (some mb) ∧ MapSI wr mb (bn1 + i) (fun k => -costK (·.1.pay) L1 k + costK (·.1.pay) (L2.take i) k)) (fun _ t _ => bn2 - (intOf t).toNat)
      case atStart => exact ⟨0, Nat.zero_le _, rfl, gr_refl _ _, by simpa [costK] using HM.out⟩
      case round =>
        clear HM
        obtain ⟨i, hi, rfl, hg, hm⟩ := hrel
        have HG := Lib.hid hg; clear hg
        have HGw := Lib.hid (show w.grownBy wr none from gr_trans HW.out HG.out (fun g e => .inr (by injection e with e; omega)))
        have zr := HG.out.size
        by_cases hlt : i < bn2
        · obtain ⟨g, o, x, rfl, _, hgl, hz, hcc⟩ := (H2.out.grown HG.out (fun g e => by injection e with e; omega)).get cgRow_len hlt
          have HX := Lib.hid hz; have HC := Lib.hid hcc
          obtain ⟨s1, s2⟩ := HSZ2.out x (mem_of_get hz)
          have hbd := costK_take (f := (·.1.pay)) (i := i) (k := x.1.pay) HOK2.out hln2
          have hbd1 := costK_all (f := (·.1.pay)) (k := x.1.pay) HOK1.out hln1
          obtain ⟨_, _, b3, b4⟩ := HOK2.out x (mem_of_get hz)
          obtain ⟨F, hF⟩ : ∃ F, (fun k => -costK (·.1.pay) L1 k + costK (·.1.pay) (L2.take i) k) = F := ⟨_, rfl⟩
          obtain ⟨V, hV⟩ : ∃ V, F x.1.pay = V := ⟨_, rfl⟩
          have hVv : V = -costK (·.1.pay) L1 x.1.pay + costK (·.1.pay) (L2.take i) x.1.pay := by rw [← hV, ← hF]
          have hsu : (fun k' => if nb x.1.pay = nb k' then V + x.1.cost else F k') = fun k => -costK (·.1.pay) L1 k + costK (·.1.pay) (L2.take (i + 1)) k := by
            funext k
            have hs := costK_snoc (f := (·.1.pay)) (k := k) hz
            rw [hs, hVv, ← hF]
            dsimp only
            by_cases e : nb x.1.pay = nb k
            · rw [if_pos e, if_pos e, nb_inj e]; omega
            · rw [if_neg e, if_neg e]; omega
          have HSU := Lib.hid hsu; have HV := Lib.hid hV
          rw [hF] at hm
          have HM := Lib.hid hm
          have sw : IntKind.i64.wrap (V + x.1.cost) = V + x.1.cost := IntWalk.i64_in _ (by omega)
          have hb1 : -9223372036854775808 ≤ V + x.1.cost := by omega
          have hb2 : V + x.1.cost ≤ 9223372036854775807 := by omega
          clear hz hcc hF hV hVv hsu hm hbd hbd1 b3 b4
          obtain ⟨wa, hwa⟩ : ∃ wa, wr.alloc (.cells #[.string x.1.rec_, .string x.1.pay, .string x.1.cls, .int .i64 x.1.free, .int .i64 x.1.cost, .string x.2.id, .string x.2.frm, .string x.2.too, .int .i64 x.2.at_, .int .i64 x.2.ring, .int .i64 x.2.talk, .int .i64 x.2.how, .string x.2.car] 71) = wa := ⟨_, rfl⟩
          obtain ⟨zb, hzb⟩ : ∃ b, wr.heap.size = b := ⟨_, rfl⟩
          have HR := Lib.hid (show Blk wa zb 71 #[.string x.1.rec_, .string x.1.pay, .string x.1.cls, .int .i64 x.1.free, .int .i64 x.1.cost, .string x.2.id, .string x.2.frm, .string x.2.too, .int .i64 x.2.at_, .int .i64 x.2.ring, .int .i64 x.2.talk, .int .i64 x.2.how, .string x.2.car] by rw [← hwa, ← hzb]; exact Blk.new _ _ _)
          have hga : wr.grownBy wa none := by rw [← hwa]; exact gr_alloc (gr_refl _ _) _
          replace HM := Lib.hid (HM.out.kept hga (by simp))
          replace HG := Lib.hid (gr_none HG.out hga)
          have HWA := Lib.hid hwa; have HZB := Lib.hid hzb; clear hwa hzb hga
          go_upto_region 16 with (first
            | (refine wpl_load_at Tryz.cgS rfl _ rfl _ rfl [.string x.1.rec_, .string x.1.pay, .string x.1.cls, .int .i64 x.1.free, .int .i64 x.1.cost, .string x.2.id, .string x.2.frm, .string x.2.too, .int .i64 x.2.at_, .int .i64 x.2.ring, .int .i64 x.2.talk, .int .i64 x.2.how, .string x.2.car] rfl (fun j u hu => by rw [add_mk]; exact HC.out j u hu) ?_)
            | fail)
          rw [HWA.out]
          (try rw [HZB.out])
          clear HWA HZB HC
          have k1 := HR.out.cell 1; have k4 := HR.out.cell 4
          go_wp2_with (first
            | (refine wpl_silook rfl _ _ rfl rfl x.1.pay rfl (by unfold maxLen; omega) (by exact HM.out) ?_; rw [HV.out])
            | (at_mapUpdate
               refine wpl_siput rfl _ _ _ rfl rfl x.1.pay (V + x.1.cost) rfl rfl (by unfold maxLen; omega) (int_wf hb1 hb2) (by exact HM.out) (by unfold maxLen; omega) ?_
               intro we hse hge
               have HSe := Lib.hid hse; have HGe := Lib.hid hge
               clear hse hge)
            | fail)
          go_roundw
          case rel => exact ⟨i + 1, by omega, by go_num, gr_same HG.out HGe.out, by
            have h := HSe.out
            rw [HSU.out] at h
            exact h⟩
          case measure => simp [intOf]; omega
        · obtain rfl : bn2 = i := by omega
          have hm2 := hm
          rw [show L2.take bn2 = L2 from List.take_of_length_le (by rw [HLN2.out]; exact Nat.le_refl _)] at hm2
          replace HW := HGw
          have HM := Lib.hid hm2
          clear HG HGw hm hm2 zr hlt hi
          obtain ⟨wl, rfl⟩ : ∃ wl : World, wl = wr := ⟨_, rfl⟩
          go_wp2_with fail
          go_loopw [19, 21, 22, 79] (fun ov _ _ t wr => ∃ (j on oc : Nat) (O : Option Addr), j ≤ pn ∧ t = .int .i64 j ∧ ov = .slice O on oc ∧ wl.grownBy wr none ∧ on ≤ j ∧ OwnR PaV.row 2 wr wl.heap.size 51 O on oc (cmpPs L1 L2 (p.take j))) (fun _ _ _ t _ => pn - (intOf t).toNat)
          case atStart => exact ⟨0, 0, 0, none, Nat.zero_le _, rfl, rfl, gr_refl _ _, Nat.le_refl _, OwnR.nil _ _ _⟩
          case round =>
            obtain ⟨j, on, oc, O, hj, rfl, rfl, hg, hon, hown⟩ := hrel
            have HG := Lib.hid hg; have HO := Lib.hid hown
            have zr := hg.size
            clear hg hown
            by_cases hlt : j < pn
            · obtain ⟨g, o, ⟨key, nA, nn, nc, nums⟩, rfl, _, hgl, hz, hcc⟩ := (HU1.out.py.1.grown (gr_none HW.out HG.out) (fun g e => by cases e)).get PyV.row_len hlt
              have hks : key.size ≤ 1000 := (HU1.out.py.2 _ (mem_of_get hz)).1.1
              have hb1 := costK_all (f := (·.1.pay)) (k := key) HOK1.out hln1
              have hb2 := costK_all (f := (·.1.pay)) (k := key) HOK2.out hln2
              have hsu := cmpPs_succ (L1 := L1) (L2 := L2) hz
              dsimp only at hsu
              obtain ⟨X1, hX1⟩ : ∃ v, costK (·.1.pay) L1 key = v := ⟨_, rfl⟩
              obtain ⟨X2, hX2⟩ : ∃ v, costK (·.1.pay) L2 key = v := ⟨_, rfl⟩
              rw [hX1] at hb1; rw [hX2] at hb2; rw [hX1, hX2] at hsu
              obtain ⟨V, hV⟩ : ∃ v, X2 - X1 = v := ⟨_, rfl⟩
              rw [hV] at hsu
              have HV1 := Lib.hid hX1; have HV2 := Lib.hid hX2; have HSU := Lib.hid hsu; have HC := Lib.hid hcc
              have hVb : -300000000000000000 ≤ V ∧ V ≤ 300000000000000000 := by omega
              obtain ⟨hVb1, hVb2⟩ := hVb
              have hVs : -X1 + X2 = V := by omega
              have HVS := Lib.hid hVs
              clear hVs
              have HVV := Lib.hid hV
              clear hz hcc hsu hX1 hX2 hb1 hb2 hV
              obtain ⟨wa, hwa⟩ : ∃ wa, wr.alloc (.cells #[.string key, .slice nA nn nc] 73) = wa := ⟨_, rfl⟩
              obtain ⟨zb, hzb⟩ : ∃ b, wr.heap.size = b := ⟨_, rfl⟩
              have HR := Lib.hid (show Blk wa zb 73 #[.string key, .slice nA nn nc] by rw [← hwa, ← hzb]; exact Blk.new _ _ _)
              have hga : wr.grownBy wa none := by rw [← hwa]; exact gr_alloc (gr_refl _ _) _
              have HOa := Lib.hid (HO.out.kept hga (fun g e => by cases e))
              have HGa := Lib.hid (gr_none HG.out hga)
              have HWA := Lib.hid hwa; have HZB := Lib.hid hzb; clear hwa hzb hga
              go_upto_region 22 with (first
                | (refine wpl_load_at Tryz.pyT rfl _ rfl _ rfl [.string key, .slice nA nn nc] rfl (fun j u hu => by rw [add_mk]; exact HC.out j u hu) ?_)
                | fail)
              rw [HWA.out]
              (try rw [HZB.out])
              clear HWA HZB HC
              have k0 := HR.out.cell 0
              go_upto_region 23 with (first
                | (refine wpl_silook rfl _ _ rfl rfl key rfl (by unfold maxLen; omega) (by exact HM.out.kept HGa.out (by simp)) ?_; (try dsimp only); rw [HV1.out, HV2.out, HVS.out])
                | fail)
              clear k0
              by_cases h0 : V = 0
              · have d0 : (V != 0) = false := by simpa using h0
                have HSN := Lib.hid (HSU.out.trans (by rw [if_pos h0, List.append_nil]))
                clear h0
                go_wp2_with fail
                go_roundw
                case rel => exact ⟨j + 1, on, oc, O, by omega, by go_num, rfl, HGa.out, by omega, by rw [HSN.out]; exact HOa.out⟩
                case measure => simp [intOf]; omega
              · have d0 : (V != 0) = true := by simpa using h0
                have HSN := Lib.hid (HSU.out.trans (by rw [if_neg h0]))
                clear h0
                obtain ⟨I, hI⟩ : ∃ I, itS V = I := ⟨_, rfl⟩
                have HI := Lib.hid hI
                rw [hI] at HSN
                clear hI
                go_upto_region 24 with (fail)
                refine wp_region_B (fun w' => wa.grownBy w' none) 7 (by kernel_rfl) ?_
                have hHeld : wa.grownBy wa.drew none := gr_drew (gr_refl _ _)
                generalize wa.drew = wd at hHeld ⊢
                refine B_take (k := 0) false (v := ?_) (by rfl) (by kernel_rfl) (by exact fun _ _ _ h => h) (by rfl) ?_ (by first | exact .inr hHeld | exact .inl (by rfl)) ?_
                rotate_left 1
                · intro w hSw
                  clear hSw
                  go_simp
                  (try with_reducible rfl)
                (try simp only [Act.put, List.setIfInBounds_toArray, List.set_cons_zero, List.set_cons_succ])
                refine B_take (k := 1) false (v := ?_) (by rfl) (by kernel_rfl) (by exact fun _ _ _ h => h) (by rfl) ?_ (by first | exact .inr hHeld | exact .inl (by rfl)) ?_
                rotate_left 1
                · intro w hSw
                  clear hSw
                  go_simp
                  (try with_reducible rfl)
                (try simp only [Act.put, List.setIfInBounds_toArray, List.set_cons_zero, List.set_cons_succ])
                refine B_take (k := 2) true (v := ?_) (by rfl) (by kernel_rfl) (by exact fun _ _ _ h => h) (by rfl) ?_ (.inr hHeld) ?_
                rotate_left 1
                · intro w' hSw
                  have kc := (HR.out.grown hSw (by simp)).cell 0
                  go_simp
                  (try with_reducible rfl)
                (try simp only [Act.put, List.setIfInBounds_toArray, List.set_cons_zero, List.set_cons_succ])
                refine B_take (k := 3) false (v := ?_) (by rfl) (by kernel_rfl) (by exact fun _ _ _ h => h) (by rfl) ?_ (by first | exact .inr hHeld | exact .inl (by rfl)) ?_
                rotate_left 1
                · intro w hSw
                  clear hSw
                  go_simp
                  (try with_reducible rfl)
                (try simp only [Act.put, List.setIfInBounds_toArray, List.set_cons_zero, List.set_cons_succ])
                refine B_run (k := 4) (by rfl) (by kernel_rfl) (by rfl) (fun K hK => ?_)
                go_simp
                refine (itoaS_any V _ (by omega) (by omega) (HPW0.out.grown (gr_none HW.out (gr_none HGa.out hHeld)))).mono ?_
                rintro e w2 ⟨rfl, hg2⟩
                rw [HI.out]
                have hh1 := gr_none hHeld hg2
                refine hK _ _ (.inr hh1) ?_
                clear hK K hHeld hg2
                have hHeld := hh1
                clear hh1
                (try simp only [Act.put, List.setIfInBounds_toArray, List.set_cons_zero, List.set_cons_succ])
                refine B_take (k := 5) false (v := ?_) (by rfl) (by kernel_rfl) (by exact fun _ _ _ h => h) (by rfl) ?_ (by first | exact .inr hHeld | exact .inl (by rfl)) ?_
                rotate_left 1
                · intro w hSw
                  clear hSw
                  go_simp
                  (try with_reducible rfl)
                (try simp only [Act.put, List.setIfInBounds_toArray, List.set_cons_zero, List.set_cons_succ])
                refine B_run (k := 6) (by rfl) (by kernel_rfl) (by rfl) (fun K hK => ?_)
                go_simp
                have hh2 := gr_alloc hHeld (.cells #[.string key, .string I] 51)
                refine hK _ _ (.inr hh2) ?_
                clear hK K
                (try simp only [Act.put, List.setIfInBounds_toArray, List.set_cons_zero, List.set_cons_succ])
                have HOw := HOa.out.kept hh2 (fun g e => by cases e)
                refine B_run (k := 7) (by rfl) (by kernel_rfl) (by rfl) (fun K hK => ?_)
                refine wp_app _ _ _ Tryz.paT rfl wl.heap.size O on oc _ rfl (by exact HOw.1) _ _ 1 1 [.string key, .string I] rfl (by exact Reads.one _ _ _ _ rfl) (by simp [Value.oneCell']) (by unfold maxLen; omega) (by omega) (by have := hh2.size; have := HGa.out.size; omega) ?_
                intro A5 c5 w5 h5
                refine hK _ _ (.inl (by rfl)) ?_
                clear hK K
                (try simp only [Act.put, List.setIfInBounds_toArray, List.set_cons_zero, List.set_cons_succ])
                refine B_take (k := 8) false (v := ?_) (by rfl) (by kernel_rfl) (by exact fun _ _ _ h => h) (by rfl) ?_ (by first | exact .inr hHeld | exact .inl (by rfl)) ?_
                rotate_left 1
                · intro w hSw
                  clear hSw
                  go_simp
                  (try with_reducible rfl)
                (try simp only [Act.put, List.setIfInBounds_toArray, List.set_cons_zero, List.set_cons_succ])
                refine B_done (by kernel_rfl) ?_
                have HO5 := Lib.hid (HOw.app (a := ⟨key, I⟩) rfl h5)
                have HG5 := Lib.hid (h5.gr (gr_none HGa.out hh2) HOw.1 (Nat.le_refl _))
                clear h5 hh2 hHeld HOw
                go_wp2_with fail
                go_roundw
                case rel => exact ⟨j + 1, on + 1, c5, A5, by omega, by go_num, rfl, HG5.out, by omega, by rw [HSN.out]; exact HO5.out⟩
                case measure => simp [intOf]; omega
            · obtain rfl : pn = j := by omega
              have HFF := Lib.hid (show cpL ⟨cA, cn, cc, free, iA, en, ic, cl, ins⟩ ⟨dA, dn, dc, gfree, jA, gn, jc, dl, jns⟩ p l month = cmpPs L1 L2 p by unfold cpL; rw [if_pos HFE.out, HL1.out, HL2.out])
              have HPT := Lib.hid (show p.take pn = p from List.take_of_length_le (by rw [HPL.out]; exact Nat.le_refl _))
              go_wp2_with fail
              go_ret2
              refine ⟨O, on, oc, by rw [HFE.out]; rfl, ?_, gr_none HW.out HG.out⟩
              rw [HFF.out, ← HPT.out]
              exact HO.out.lower HW.out.size
end Go.Proofs.YtlkibeckfpjccaaGreatDoor

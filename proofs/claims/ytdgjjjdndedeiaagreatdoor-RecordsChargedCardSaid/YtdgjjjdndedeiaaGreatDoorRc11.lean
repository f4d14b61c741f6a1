/- Contracts of the document's UnpaidOf and InvoicesOf. Conditions: the arguments are right. -/
import Derived.Test.YtdgjjjdndedeiaaGreatDoorRc10
import Derived.Test.YtdgjjjdndedeiaaGreatDoorRc8
import Derived.Test.YtdgjjjdndedeiaaGreatDoorRc7
namespace Go.Proofs.YtdgjjjdndedeiaaGreatDoor
open Go.RowKit

def UnpaidOfV (t : TfV) (p : List PyV) (l : List RcV) (w : World) (e : Ending) (w' : World) : Prop := ∃ A n c, e = .returned (.slice A n c) ∧ OwnR irow 1 w' w.heap.size 3 A n c (unpTo t p l l.length) ∧ w.grownBy w' none
set_option maxHeartbeats 8000000 in
set_option maxRecDepth 100000 in
theorem unpaidOf_any (lo : Nat) (cA iA : Option Addr) (cn cc en ic : Nat) (free : Int) (cl : List ClV) (ins : List ByteArray) (P : Option Addr) (pn pc : Nat) (p : List PyV) (L : Option Addr) (ln lc : Nat) (l : List RcV) (w : World) (h : UseOk w lo ⟨cA, cn, cc, free, iA, en, ic, cl, ins⟩ P pn pc p L ln lc l) (hpn : pn ≤ 1000) :
    Calls Tryz.prog 17 #[.agg #[.slice cA cn cc, .int .i64 free, .slice iA en ic], .slice P pn pc, .slice L ln lc] w (UnpaidOfV ⟨cA, cn, cc, free, iA, en, ic, cl, ins⟩ p l w) := by
  have HUSE := Lib.hid h
  obtain ⟨htf, hpy, hrc, het, hep, her⟩ := h
  obtain ⟨hr1, hr2, hr3⟩ := rcs_right her
  have hln : ln ≤ 3000 := by rw [← hrc.1.len]; exact hr1
  have HRR := Lib.hid hr2
  clear htf hpy hrc het hep her hr1 hr2 hr3
  go_enter Tryz.func17, Tryz.ntmps17
  go_wp2_with fail
  have HT := Lib.hid (Blk.new w 29 #[.slice cA cn cc, .int .i64 free, .slice iA en ic])
  have HG1 := Lib.hid (gr_alloc (gr_refl w none) (.cells #[.slice cA cn cc, .int .i64 free, .slice iA en ic] 29))
  obtain ⟨w1, hw1⟩ : ∃ w1, w.alloc (.cells #[.slice cA cn cc, .int .i64 free, .slice iA en ic] 29) = w1 := ⟨_, rfl⟩
  rw [hw1] at HT HG1 ⊢
  have z1 : w.heap.size ≤ w1.heap.size := HG1.out.size
  clear hw1
  go_loopw [7, 8, 9, 10, 11, 12, 15] (fun out _ _ _ _ _ t wr => ∃ (k n c : Nat) (A : Option Addr), k ≤ ln ∧ t = .int .i64 k ∧ out = .slice A n c ∧ w1.grownBy wr none ∧ n ≤ k ∧ OwnR irow 1 wr w1.heap.size 3 A n c (unpTo ⟨cA, cn, cc, free, iA, en, ic, cl, ins⟩ p l k)) (fun _ _ _ _ _ _ t _ => ln - (intOf t).toNat)
  case atStart => exact ⟨0, 0, 0, none, Nat.zero_le _, rfl, rfl, gr_refl _ _, Nat.le_refl _, OwnR.nil _ _ _⟩
  case round =>
    obtain ⟨k, n, c, A, hk, rfl, rfl, hgb, hnk, hown⟩ := hrel
    have zr := hgb.size
    have HO := Lib.hid hown
    have HTr := Lib.hid (HT.out.grown hgb (by simp))
    have HGB := Lib.hid hgb
    have HG := Lib.hid (gr_none HG1.out hgb)
    clear hgb hown
    by_cases hlt : k < ln
    · obtain ⟨g, o, ⟨id, frm, too, at_, ring, talk, how, car⟩, rfl, _, hgl, hz, hcc⟩ := (HUSE.out.rc.1.grown HG.out (fun g e => by cases e)).get RcV.row_len hlt
      obtain ⟨p1, p2, p3, p4, p5, p6⟩ := HUSE.out.rc.2 _ (mem_of_get hz)
      obtain ⟨t1, t2, hw, -⟩ := (HRR.out _ (mem_of_get hz)).talk
      dsimp only at p1 p2 p3 p4 p5 p6 t1 t2 hw
      have HW1 := Lib.hid hw; clear hw
      have HZ := Lib.hid hz; have HC := Lib.hid hcc; clear hz hcc
      obtain ⟨wa, hwa⟩ : ∃ wa, wr.alloc (.cells #[.string id, .string frm, .string too, .int .i64 at_, .int .i64 ring, .int .i64 talk, .int .i64 how, .string car] 84) = wa := ⟨_, rfl⟩
      have HR := Lib.hid (show Blk wa wr.heap.size 84 #[.string id, .string frm, .string too, .int .i64 at_, .int .i64 ring, .int .i64 talk, .int .i64 how, .string car] by rw [← hwa]; exact Blk.new _ _ _)
      have HGa := Lib.hid (show wr.grownBy wa none by rw [← hwa]; exact gr_alloc (gr_refl _ _) _)
      have HTa := Lib.hid (HTr.out.grown HGa.out (by simp))
      have HWA := Lib.hid hwa; clear hwa
      go_upto_region 5 with (first
        | (refine wpl_load_at Tryz.rcT rfl _ rfl _ rfl [.string id, .string frm, .string too, .int .i64 at_, .int .i64 ring, .int .i64 talk, .int .i64 how, .string car] rfl (fun j u hu => by rw [add_mk]; exact HC.out j u hu) ?_)
        | fail)
      rw [HWA.out]
      go_wp2_with (first
        | (refine wpl_load_all Tryz.rcT rfl _ rfl _ rfl _ _ HR.out rfl ?_)
        | (refine wpl_load_all Tryz.tfT rfl _ rfl _ rfl _ _ HTa.out rfl ?_)
        | fail)
      refine (paying_any lo cA iA cn cc en ic free cl ins P pn pc p id frm too at_ ring talk how car _ (HUSE.out.tf.grown (gr_none HG.out HGa.out) (fun g e => by cases e)) (HUSE.out.py.grown (gr_none HG.out HGa.out) (fun g e => by cases e)) hpn p3).mono ?_
      rintro e w3 ⟨rfl, hg3⟩
      obtain ⟨YS, hYS⟩ : ∃ YS, optS ((payerOf p (nb frm)).map (·.key)) = YS := ⟨_, rfl⟩
      obtain ⟨C, hC⟩ : ∃ C, clsOf cl (nb too) = C := ⟨_, rfl⟩
      obtain ⟨PB, hPB⟩ : ∃ PB, paidB ⟨cA, cn, cc, free, iA, en, ic, cl, ins⟩ p ⟨id, frm, too, at_, ring, talk, how, car⟩ = PB := ⟨_, rfl⟩
      obtain ⟨q0, q1, i1, i2, i3, i4, hrow⟩ := clsRow_is C
      rw [show payVal ⟨cA, cn, cc, free, iA, en, ic, cl, ins⟩ p ⟨id, frm, too, at_, ring, talk, how, car⟩ = .tuple #[.string YS, .agg #[.string q0, .string q1, .int .i64 i1, .int .i64 i2, .int .i64 i3, .int .i64 i4], .bool PB] by unfold payVal; rw [hPB]; dsimp only; rw [hYS, hC, hrow]]
      have HPB := Lib.hid hPB
      clear hYS hC hPB hrow
      have HG3 := Lib.hid (gr_none HGa.out hg3)
      obtain ⟨wb, hwb⟩ : ∃ wb, w3.alloc (.cells #[.string q0, .string q1, .int .i64 i1, .int .i64 i2, .int .i64 i3, .int .i64 i4] 113) = wb := ⟨_, rfl⟩
      have HGb := Lib.hid (show wr.grownBy wb none by rw [← hwb]; exact gr_alloc HG3.out _)
      have HRb := Lib.hid (show Blk wb wr.heap.size 84 #[.string id, .string frm, .string too, .int .i64 at_, .int .i64 ring, .int .i64 talk, .int .i64 how, .string car] by rw [← hwb]; exact (HR.out.grown hg3 (by simp)).alloc _)
      have zb := HGb.out.size
      clear hg3
      go_upto_region 6 with (fail)
      clear hwb
      have k6 := HRb.out.cell 6
      have HOb := Lib.hid (HO.out.kept HGb.out (fun g e => by cases e))
      by_cases d1 : how = 1
      · have e1 : (how == 1) = true := by simpa using d1
        have D1 := Lib.hid (show decide (0 < talk) = true from decide_eq_true (HW1.out.1 d1)); clear d1
        cases PB
        · have HU := Lib.hid (show unpB ⟨cA, cn, cc, free, iA, en, ic, cl, ins⟩ p ⟨id, frm, too, at_, ring, talk, how, car⟩ = true by unfold unpB; rw [D1.out, HPB.out]; rfl)
          go_wp2_with (first
            | (at_builtin
               refine wpl_app _ rfl _ _ Tryz.intsT rfl w1.heap.size A n c _ rfl (by exact HOb.out.1.alloc _) _ _ 1 1 [.int .i64 k] rfl (by exact Reads.one _ _ _ _ rfl) (by simp [Value.oneCell']) (by unfold maxLen; omega) (by omega) (by simp; omega) ?_
               intro A5 c5 w5 h5
               have H5 := Lib.hid h5; clear h5)
            | fail)
          go_roundw
          case rel => exact ⟨k + 1, n + 1, c5, A5, by omega, by go_num, rfl, H5.out.gr (gr_alloc (gr_none HGB.out HGb.out) _) (HOb.out.1.alloc _) (Nat.le_refl _), by omega, by rw [unpTo_hit HZ.out HU.out]; exact (HOb.out.alloc _).app rfl H5.out⟩
          case measure => simp [intOf]; omega
        · have HU := Lib.hid (show unpB ⟨cA, cn, cc, free, iA, en, ic, cl, ins⟩ p ⟨id, frm, too, at_, ring, talk, how, car⟩ = false by unfold unpB; rw [D1.out, HPB.out]; rfl)
          go_wp2_with fail
          go_roundw
          case rel => exact ⟨k + 1, n, c, A, by omega, by go_num, rfl, gr_none HGB.out HGb.out, by omega, by rw [unpTo_miss HZ.out HU.out]; exact HOb.out⟩
          case measure => simp [intOf]; omega
      · have e1 : (how == 1) = false := by simpa using d1
        have D1 := Lib.hid (show decide (0 < talk) = false from decide_eq_false (fun h => d1 (HW1.out.2 h))); clear d1
        have HU := Lib.hid (show unpB ⟨cA, cn, cc, free, iA, en, ic, cl, ins⟩ p ⟨id, frm, too, at_, ring, talk, how, car⟩ = false by unfold unpB; rw [D1.out]; rfl)
        go_wp2_with fail
        go_roundw
        case rel => exact ⟨k + 1, n, c, A, by omega, by go_num, rfl, gr_none HGB.out HGb.out, by omega, by rw [unpTo_miss HZ.out HU.out]; exact HOb.out⟩
        case measure => simp [intOf]; omega
    · obtain rfl : k = ln := by omega
      go_wp2_with fail
      go_ret
      refine ⟨A, n, c, rfl, ?_, HG.out⟩
      rw [HUSE.out.rc.1.len]
      exact HO.out.lower (by omega)

/-! InvoicesOf. -/
set_option maxHeartbeats 1000000 in
theorem sameRec_any (x : RcV) (z : ChV) (cb : Nat) (w : World) (hb : Blk w cb 52 #[.string z.rec_, .string z.pay, .string z.cls, .int .i64 z.free, .int .i64 z.cost]) :
    Calls Tryz.prog 62 #[.agg #[.string x.id, .string x.frm, .string x.too, .int .i64 x.at_, .int .i64 x.ring, .int .i64 x.talk, .int .i64 x.how, .string x.car], .pointer (some ⟨cb, 0, none⟩)] w (RetV (.bool (nb x.id == nb z.rec_)) w) := by
  have hlt := hb.lt
  have kc := (hb.alloc (.cells #[.string x.id, .string x.frm, .string x.too, .int .i64 x.at_, .int .i64 x.ring, .int .i64 x.talk, .int .i64 x.how, .string x.car] 84)).cell 0
  have HE := Lib.hid (eqS_nb x.id z.rec_)
  have HB := Lib.hid hb; clear hb
  go_enter Tryz.func62, Tryz.ntmps62
  go_wp2_with fail
  go_ret
  exact ⟨by rw [← HE.out]; rfl, gr_alloc (gr_refl _ _) _⟩
set_option maxHeartbeats 2000000 in
theorem idxRec_any (lo : Nat) (A : Option Addr) (n c : Nat) (l : List RcV) (z : ChV) (cb : Nat) (w : World) (h : Recs RcV.row 8 w lo A n c l) (hn : n ≤ 1000000000000) (hb : Blk w cb 52 #[.string z.rec_, .string z.pay, .string z.cls, .int .i64 z.free, .int .i64 z.cost]) :
    Calls Tryz.prog 61 #[.slice A n c, .func (.func 62) #[] #[.pointer (some ⟨cb, 0, none⟩)]] w (RetV (.int .i64 (idxP (fun x : RcV => nb x.id == nb z.rec_) l)) w) := by
  have H := Lib.hid h; have HB := Lib.hid hb; clear h hb
  go_enter Tryz.func61, Tryz.ntmps61
  go_wp2_with fail
  go_loopw [5, 8] (fun _ t wr => ∃ i : Nat, i ≤ n ∧ t = .int .i64 i ∧ w.grownBy wr none ∧ (l.take i).all (fun x => !(nb x.id == nb z.rec_)) = true) (fun _ t _ => n - (intOf t).toNat)
  case atStart => exact ⟨0, Nat.zero_le _, rfl, gr_refl _ _, by simp⟩
  case round =>
    obtain ⟨i, hi, rfl, hg, ha⟩ := hrel
    have HA := Lib.hid ha; have HG := Lib.hid hg; clear ha hg
    by_cases hlt : i < n
    · obtain ⟨g, o, x, rfl, _, hgl, hz, hc⟩ := (H.out.grown HG.out (fun g e => by cases e)).get RcV.row_len hlt
      have HZ := Lib.hid hz; have HC := Lib.hid hc; clear hz hc
      obtain ⟨B, hB⟩ : ∃ B, (nb x.id == nb z.rec_) = B := ⟨_, rfl⟩
      have HE := Lib.hid hB; clear hB
      cases B
      all_goals
        go_wp2_with (first
          | (refine wpl_load_at Tryz.rcT rfl _ rfl _ rfl [.string x.id, .string x.frm, .string x.too, .int .i64 x.at_, .int .i64 x.ring, .int .i64 x.talk, .int .i64 x.how, .string x.car] rfl (fun j u hu => by rw [add_mk]; exact HC.out j u hu) ?_)
          | (go_at_call 62; refine (sameRec_any x z cb _ (HB.out.grown HG.out (by simp))).mono ?_; rintro e w2 ⟨rfl, hg2⟩; rw [HE.out]; have HG2 := Lib.hid (gr_none HG.out hg2); clear hg2)
          | fail)
      · go_roundw
        case rel => exact ⟨i + 1, by omega, by go_num, HG2.out, allP_succ (p := fun x : RcV => nb x.id == nb z.rec_) HA.out HZ.out HE.out⟩
        case measure => simp [intOf]; omega
      · go_ret
        exact ⟨by rw [idxP_some (p := fun x : RcV => nb x.id == nb z.rec_) HA.out HZ.out HE.out]; rfl, HG2.out⟩
    · obtain rfl : i = n := by omega
      go_wp2_with fail
      go_ret
      have h := HA.out
      rw [List.take_of_length_le (by rw [H.out.len]; exact Nat.le_refl _)] at h
      exact ⟨by rw [idxP_none (p := fun x : RcV => nb x.id == nb z.rec_) h]; rfl, HG.out⟩
def InvoicesOfV (t : TfV) (p : List PyV) (month : Int) (l : List RcV) (w : World) (e : Ending) (w' : World) : Prop := ∃ A n c, e = .returned (.slice A n c) ∧ OwnR InV.row 5 w' w.heap.size 55 A n c (invTo month (chgAll t p month l) p p.length) ∧ w.grownBy w' none
set_option maxHeartbeats 8000000 in
set_option maxRecDepth 100000 in
theorem invoicesOf_any (lo : Nat) (cA iA : Option Addr) (cn cc en ic : Nat) (free : Int) (cl : List ClV) (ins : List ByteArray) (P : Option Addr) (pn pc : Nat) (p : List PyV) (L : Option Addr) (ln lc : Nat) (l : List RcV) (month : Int) (w : World) (h : UseOk w lo ⟨cA, cn, cc, free, iA, en, ic, cl, ins⟩ P pn pc p L ln lc l) (hpn : pn ≤ 1000) (hfr : 0 ≤ free ∧ free ≤ 2592000000) :
    Calls Tryz.prog 16 #[.agg #[.slice cA cn cc, .int .i64 free, .slice iA en ic], .slice P pn pc, .slice L ln lc, .int .i64 month] w (InvoicesOfV ⟨cA, cn, cc, free, iA, en, ic, cl, ins⟩ p month l w) := by
  have HUSE := Lib.hid h
  have HFR := Lib.hid hfr
  obtain ⟨htf, hpy, hrc, het, hep, her⟩ := h
  obtain ⟨hr1, hr2, hr3⟩ := rcs_right her
  have hln : ln ≤ 3000 := by rw [← hrc.1.len]; exact hr1
  have HD := Lib.hid hr3
  have HCH := Lib.hid (chs_ok (t := ⟨cA, cn, cc, free, iA, en, ic, cl, ins⟩) (p := p) (month := month) htf.2.1.len het her)
  have HMM := Lib.hid (fun x (hx : x ∈ chgAll ⟨cA, cn, cc, free, iA, en, ic, cl, ins⟩ p month l) => chgTo_mem _ x hx : ∀ x ∈ chgAll ⟨cA, cn, cc, free, iA, en, ic, cl, ins⟩ p month l, x.2 ∈ l ∧ x.1.rec_ = x.2.id)
  clear htf hpy hrc het hep her hr1 hr2 hr3 hfr
  have HT := Lib.hid (Blk.new w 29 #[.slice cA cn cc, .int .i64 free, .slice iA en ic])
  have HG := Lib.hid (gr_alloc (gr_refl w none) (.cells #[.slice cA cn cc, .int .i64 free, .slice iA en ic] 29))
  go_enter Tryz.func16, Tryz.ntmps16
  go_wp2_with (first
    | (refine wpl_load_all Tryz.tfT rfl _ rfl _ rfl _ _ HT.out rfl ?_)
    | fail)
  refine (chargesOf_any lo cA iA cn cc en ic free cl ins P pn pc p L ln lc l month _ (HUSE.out.grown HG.out) hpn HFR.out).mono ?_
  rintro e w3 ⟨B, bn, bc, rfl, hown, hg3⟩
  have hlen : bn ≤ 3000 := by rw [← hown.2, List.length_map]; exact Nat.le_trans (chgTo_len _ _ _ _ _) (by rw [HUSE.out.rc.1.len]; exact hln)
  obtain ⟨ch, hch⟩ : ∃ ch, chgAll ⟨cA, cn, cc, free, iA, en, ic, cl, ins⟩ p month l = ch := ⟨_, rfl⟩
  have HIV := Lib.hid (show invTo month (chgAll ⟨cA, cn, cc, free, iA, en, ic, cl, ins⟩ p month l) p p.length = invTo month ch p pn by rw [hch, HUSE.out.py.1.len])
  rw [hch] at hown HCH HMM
  have HB := Lib.hid hown.recs
  have HG3 := Lib.hid (gr_none HG.out hg3)
  have z3w := HG3.out.size
  have HSB := Lib.hid (inSum_bd HCH.out)
  clear hown hg3 hch
  go_wp2_with fail
  go_loopw [9, 12, 13, 14, 16, 17, 25] (fun out _ _ _ _ _ t wr => ∃ (k n c : Nat) (A : Option Addr), k ≤ pn ∧ t = .int .i64 k ∧ out = .slice A n c ∧ w3.grownBy wr none ∧ n ≤ k ∧ OwnR InV.row 5 wr w3.heap.size 55 A n c (invTo month ch p k)) (fun _ _ _ _ _ _ t _ => pn - (intOf t).toNat)
  case atStart => exact ⟨0, 0, 0, none, Nat.zero_le _, rfl, rfl, gr_refl _ _, Nat.le_refl _, OwnR.nil _ _ _⟩
  case round =>
    obtain ⟨k, n, c, A, hk, rfl, rfl, hg, hnk, hown⟩ := hrel
    have zr := hg.size
    have HO := Lib.hid hown; have HGr := Lib.hid hg; clear hg hown
    by_cases hlt : k < pn
    · obtain ⟨g, o, ⟨key, nA, nn, nc, nums⟩, rfl, _, hgl, hz, hcc⟩ := (HUSE.out.py.1.grown (gr_none HG3.out HGr.out) (fun g e => by cases e)).get PyV.row_len hlt
      have HZ := Lib.hid hz; have HC := Lib.hid hcc; clear hz hcc
      obtain ⟨wa, hwa⟩ : ∃ wa, wr.alloc (.cells #[.string key, .slice nA nn nc] 107) = wa := ⟨_, rfl⟩
      have HP := Lib.hid (show Blk wa wr.heap.size 107 #[.string key, .slice nA nn nc] by rw [← hwa]; exact Blk.new _ _ _)
      have HGa := Lib.hid (show wr.grownBy wa none by rw [← hwa]; exact gr_alloc (gr_refl _ _) _)
      have HWA := Lib.hid hwa; clear hwa
      have kp0 := HP.out.cell 0
      go_upto_region 6 with (first
        | (refine wpl_load_at Tryz.pyT rfl _ rfl _ rfl [.string key, .slice nA nn nc] rfl (fun j u hu => by rw [add_mk]; exact HC.out j u hu) ?_)
        | fail)
      rw [HWA.out]
      go_upto_region 7 with (fail)
      obtain ⟨wb, hwb⟩ : ∃ wb, wa.alloc (.cells #[.string key, .int .i64 month, .int .i64 0, .int .i64 0, .int .i64 0] 55) = wb := ⟨_, rfl⟩
      rw [hwb]
      have HV := Lib.hid (show Blk wb wa.heap.size 55 #[.string key, .int .i64 month, .int .i64 0, .int .i64 0, .int .i64 0] by rw [← hwb]; exact Blk.new _ _ _)
      have HPb := Lib.hid (show Blk wb wr.heap.size 107 #[.string key, .slice nA nn nc] by rw [← hwb]; exact HP.out.alloc _)
      have HGb := Lib.hid (show wr.grownBy wb none by rw [← hwb]; exact gr_alloc HGa.out _)
      have za := HGa.out.size
      have zp := HP.out.lt
      have zv := HV.out.lt
      obtain ⟨V, hVa⟩ : ∃ V, wa.heap.size = V := ⟨_, rfl⟩
      rw [hVa] at HV zp zv ⊢
      clear hwb kp0 hVa
      go_wp2_with fail
      obtain ⟨wo, rfl⟩ : ∃ wo : World, wo = wr := ⟨_, rfl⟩
      go_loopw [14, 16, 17, 35] (fun cst _ _ t wr => ∃ j : Nat, j ≤ bn ∧ t = .int .i64 j ∧ cst = .int .i64 (inSum ch key j).2.2 ∧ wb.grownBy wr (some V) ∧ Blk wr V 55 #[.string key, .int .i64 month, .int .i64 (inSum ch key j).1, .int .i64 (inSum ch key j).2.1, .int .i64 0]) (fun _ _ _ t _ => bn - (intOf t).toNat)
      case atStart => exact ⟨0, Nat.zero_le _, rfl, rfl, gr_refl _ _, HV.out⟩
      case round =>
        obtain ⟨j, hj, rfl, rfl, hg, hv⟩ := hrel
        have HGj := Lib.hid hg; have HVj := Lib.hid hv; clear hg hv
        have zj := HGj.out.size
        have zvj := HVj.out.lt
        have HPj := Lib.hid (HPb.out.grown HGj.out (by simp; omega))
        obtain ⟨b1, b2, b3, b4, b5, b6⟩ := HSB.out key j
        obtain ⟨s1, hs1⟩ : ∃ s, (inSum ch key j).1 = s := ⟨_, rfl⟩
        obtain ⟨s2, hs2⟩ : ∃ s, (inSum ch key j).2.1 = s := ⟨_, rfl⟩
        obtain ⟨s3, hs3⟩ : ∃ s, (inSum ch key j).2.2 = s := ⟨_, rfl⟩
        rw [hs1] at b1 b2 HVj; rw [hs2] at b3 b4 HVj; rw [hs3] at b5 b6 ⊢
        have HS1 := Lib.hid hs1; have HS2 := Lib.hid hs2; have HS3 := Lib.hid hs3
        clear hs1 hs2 hs3
        have HGw := Lib.hid (gr_trans (row := none) (gr_none (gr_none HG3.out HGr.out) HGb.out) HGj.out (fun g e => .inr (by injection e with e; omega)))
        by_cases hlt2 : j < bn
        · obtain ⟨g, o, z, rfl, _, hgl2, hz, hcc⟩ := (HB.out.grown (gr_trans (row := none) (gr_none HGr.out HGb.out) HGj.out (fun g e => .inr (by injection e with e; omega))) (fun g e => by cases e)).get ChV.row_len hlt2
          rw [List.getElem?_map, Option.map_eq_some_iff] at hz
          obtain ⟨⟨⟨id, pay, name, fr, cost⟩, rr⟩, hz, rfl⟩ := hz
          obtain ⟨⟨a1, a2, a3, a4⟩, a5⟩ := HCH.out _ (mem_of_get hz)
          obtain ⟨m1, m2⟩ := HMM.out _ (mem_of_get hz)
          dsimp only at a1 a2 a3 a4 a5 m1 m2
          have HZ2 := Lib.hid hz; have HC2 := Lib.hid hcc
          obtain ⟨ki, hki, hkr⟩ := rc_find HD.out m1 (s := id) (by rw [m2])
          have hkl : ki < ln := by rw [← HUSE.out.rc.1.len]; exact (List.getElem?_eq_some_iff.1 hkr).1
          obtain ⟨gl, ol, rr2, hLA, _, hgl3, hz3, hcc3⟩ := (HUSE.out.rc.1.grown HGw.out (fun g e => by cases e)).get RcV.row_len hkl
          subst hLA
          rw [hkr] at hz3
          injection hz3 with hz3
          subst hz3
          have kl5 := hcc3 5 _ rfl
          have HKR := Lib.hid hkr; have HKI := Lib.hid hki
          clear hz hcc m1 m2 hki hkr hcc3 kl5
          obtain ⟨rt, hrt⟩ : ∃ rt, rr.talk = rt := ⟨_, rfl⟩
          rw [hrt] at a2 a5
          have HRT := Lib.hid hrt; clear hrt
          obtain ⟨wx, hwx⟩ : ∃ wx, wr.alloc (.cells #[.string id, .string pay, .string name, .int .i64 fr, .int .i64 cost] 52) = wx := ⟨_, rfl⟩
          have HX := Lib.hid (show Blk wx wr.heap.size 52 #[.string id, .string pay, .string name, .int .i64 fr, .int .i64 cost] by rw [← hwx]; exact Blk.new _ _ _)
          have HGx := Lib.hid (show wb.grownBy wx (some V) by rw [← hwx]; exact gr_alloc HGj.out _)
          have HGrx := Lib.hid (show wr.grownBy wx none by rw [← hwx]; exact gr_alloc (gr_refl _ _) _)
          have HVx := Lib.hid (show Blk wx V 55 #[.string key, .int .i64 month, .int .i64 s1, .int .i64 s2, .int .i64 0] by rw [← hwx]; exact HVj.out.alloc _)
          have HPx := Lib.hid (show Blk wx wo.heap.size 107 #[.string key, .slice nA nn nc] by rw [← hwx]; exact HPj.out.alloc _)
          have HWX := Lib.hid hwx; clear hwx
          go_upto_region 10 with (first
            | (refine wpl_load_at Tryz.chT rfl _ rfl _ rfl [.string id, .string pay, .string name, .int .i64 fr, .int .i64 cost] rfl (fun j u hu => by rw [add_mk]; exact HC2.out j u hu) ?_)
            | fail)
          rw [HWX.out]
          have kx1 := HX.out.cell 1
          have kp0 := HPx.out.cell 0
          have zxl := HX.out.lt
          obtain ⟨E, hE⟩ : ∃ E, (pay.toList == key.toList) = E := ⟨_, rfl⟩
          have HE := Lib.hid (show (nb pay == nb key) = E by rw [← hE, eqS_nb])
          cases E
          · have hE2 : (pay.toList != key.toList) = true := by rw [bne, hE]; rfl
            have HS := Lib.hid (show inSum ch key (j + 1) = inSum ch key j from inSum_miss HZ2.out (by have := HE.out; simpa using this))
            go_wp2_with fail
            go_roundw
            case rel => exact ⟨j + 1, by omega, by go_num, by rw [HS.out, HS3.out], HGx.out, by rw [HS.out, HS1.out, HS2.out]; exact HVx.out⟩
            case measure => simp [intOf]; omega
          · have hE2 : (pay.toList != key.toList) = false := by rw [bne, hE]; rfl
            have HS := Lib.hid (show inSum ch key (j + 1) = (s1 + 1, s2 + rt, s3 + cost) by rw [inSum_hit HZ2.out (by have := HE.out; simpa using this), HS1.out, HS2.out, HS3.out, HRT.out])
            have kx4 := HX.out.cell 4
            have kv2 := HVx.out.cell 2
            have fv2 := HVx.out.frozen 2
            go_upto_region 12 with (fail)
            obtain ⟨wy, hwy⟩ : ∃ wy, wx.setCell ⟨V, 2, none⟩ (.int .i64 (s1 + 1)) = wy := ⟨_, rfl⟩
            rw [hwy]
            have HVy := Lib.hid (show Blk wy V 55 #[.string key, .int .i64 month, .int .i64 (s1 + 1), .int .i64 s2, .int .i64 0] by rw [← hwy]; exact HVx.out.set_ 2 _)
            have HXy := Lib.hid (show Blk wy wr.heap.size 52 #[.string id, .string pay, .string name, .int .i64 fr, .int .i64 cost] by rw [← hwy]; exact HX.out.far (by show wr.heap.size ≠ V; omega) _)
            have HGy := Lib.hid (show wb.grownBy wy (some V) by rw [← hwy]; exact gr_setCell HGx.out (.inl rfl) _)
            have HGy2 := Lib.hid (show w.grownBy wy none by rw [← hwy]; exact gr_setCell (gr_none HGw.out HGrx.out) (.inr (by show w.heap.size ≤ V; have := HG3.out.size; omega)) _)
            clear hwy kx1 kp0 kx4 kv2 fv2 hE hE2
            have kx4 := HXy.out.cell 4
            go_wp2_with fail
            refine (idxRec_any lo _ ln lc l ⟨id, pay, name, fr, cost⟩ wr.heap.size _ (by exact HUSE.out.rc.1.grown HGy2.out (fun g e => by cases e)) (by omega) (by exact HXy.out)).mono ?_
            rintro e w9 ⟨rfl, hg9⟩
            rw [show idxP (fun x : RcV => nb x.id == nb (ChV.rec_ ⟨id, pay, name, fr, cost⟩)) l = (ki : Int) from HKI.out]
            have HV9 := Lib.hid (HVy.out.grown hg9 (by simp))
            have HG9 := Lib.hid (gr_none HGy.out hg9)
            have kl5 : w9.cell? ⟨gl, ol + ki * 8 + 5, none⟩ = some (.int .i64 rt) := by
              rw [← HRT.out]
              exact (HUSE.out.rc.1.grown (gr_none HGy2.out hg9) (fun g e => by cases e)).at_ RcV.row_len HKR.out 5 _ rfl
            clear hg9 kx4
            have kv3 := HV9.out.cell 3
            have fv3 := HV9.out.frozen 3
            have q2 : IntKind.i64.wrap (s2 + rt) = s2 + rt := IntWalk.i64_in _ (by omega)
            have i0 : (0 : Int) ≤ (ki : Int) := by omega
            have i1 : (ki : Int) < (ln : Int) := by omega
            go_wp2_with fail
            go_region
            obtain ⟨wz, hwz⟩ : ∃ wz, (w9.setCell ⟨V, 3, none⟩ (.int .i64 (s2 + rt))).drew = wz := ⟨_, rfl⟩
            rw [hwz]
            have HVz := Lib.hid (show Blk wz V 55 #[.string key, .int .i64 month, .int .i64 (s1 + 1), .int .i64 (s2 + rt), .int .i64 0] by rw [← hwz]; exact HV9.out.set_ 3 _)
            have HGz := Lib.hid (show wb.grownBy wz (some V) by rw [← hwz]; exact gr_drew (gr_setCell HG9.out (.inl rfl) _))
            clear hwz kl5 kv3 fv3 q2
            go_simp
            go_wp2_with fail
            go_roundw
            case rel => exact ⟨j + 1, by omega, by go_num, by rw [HS.out], HGz.out, by rw [HS.out]; exact HVz.out⟩
            case measure => simp [intOf]; omega
        · obtain rfl : j = bn := by omega
          have HLB := Lib.hid (show ch.length = j by have := HB.out.len; rwa [List.length_map] at this)
          have kv4 := HVj.out.cell 4
          have fv4 := HVj.out.frozen 4
          go_upto_region 17 with (fail)
          obtain ⟨wy, hwy⟩ : ∃ wy, wr.setCell ⟨V, 4, none⟩ (.int .i64 (s3 / 1000)) = wy := ⟨_, rfl⟩
          rw [hwy]
          have HVy := Lib.hid (show Blk wy V 55 #[.string key, .int .i64 month, .int .i64 s1, .int .i64 s2, .int .i64 (s3 / 1000)] by rw [← hwy]; exact HVj.out.set_ 4 _)
          have HGy := Lib.hid (show wo.grownBy wy none by rw [← hwy]; exact gr_setCell (gr_trans HGb.out HGj.out (fun g e => .inr (by injection e with e; omega))) (.inr (by show wo.heap.size ≤ V; omega)) _)
          clear hwy kv4 fv4
          have kv2 := HVy.out.cell 2
          have HOy := Lib.hid (HO.out.kept HGy.out (fun g e => by cases e))
          have zy := HGy.out.size
          by_cases hp : 0 < s1
          · have d2 : decide (0 < s1) = true := decide_eq_true hp
            have HIN := Lib.hid (show invTo month ch p (k + 1) = invTo month ch p k ++ [⟨key, month, s1, s2, s3 / 1000⟩] by rw [invTo_hit HZ.out (by rw [HLB.out, HS1.out]; exact hp)]; unfold invOf; rw [HLB.out, HS1.out, HS2.out, HS3.out])
            clear hp
            go_wp2_with (first
              | (refine wpl_load_all Tryz.inT rfl _ rfl _ rfl _ _ HVy.out rfl ?_)
              | (at_builtin
                 refine wpl_app _ rfl _ _ Tryz.insT rfl w3.heap.size A n c _ rfl (by exact HOy.out.1.alloc _) _ _ 1 1 [.string key, .int .i64 month, .int .i64 s1, .int .i64 s2, .int .i64 (s3 / 1000)] rfl (by exact Reads.one _ _ _ _ rfl) (by simp [Value.oneCell']) (by unfold maxLen; omega) (by omega) (by simp; omega) ?_
                 intro A5 c5 w5 h5
                 have H5 := Lib.hid h5; clear h5)
              | fail)
            go_roundw
            case rel => exact ⟨k + 1, n + 1, c5, A5, by omega, by go_num, rfl, H5.out.gr (gr_alloc (gr_none HGr.out HGy.out) _) (HOy.out.1.alloc _) (Nat.le_refl _), by omega, by rw [HIN.out]; exact (HOy.out.alloc _).app rfl H5.out⟩
            case measure => simp [intOf]; omega
          · have d2 : decide (0 < s1) = false := decide_eq_false hp
            have HIN := Lib.hid (show invTo month ch p (k + 1) = invTo month ch p k by rw [invTo_miss HZ.out (by rw [HLB.out, HS1.out]; exact hp)])
            clear hp
            go_wp2_with fail
            go_roundw
            case rel => exact ⟨k + 1, n, c, A, by omega, by go_num, rfl, gr_none HGr.out HGy.out, by omega, by rw [HIN.out]; exact HOy.out⟩
            case measure => simp [intOf]; omega
    · obtain rfl : k = pn := by omega
      go_wp2_with fail
      go_ret
      refine ⟨A, n, c, rfl, ?_, gr_none HG3.out HGr.out⟩
      rw [HIV.out]
      exact HO.out.lower (by have := HG3.out.size; omega)
end Go.Proofs.YtdgjjjdndedeiaaGreatDoor

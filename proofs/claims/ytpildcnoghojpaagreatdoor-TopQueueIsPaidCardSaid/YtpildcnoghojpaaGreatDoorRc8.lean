/- Contract of Invoices. Conditions: none. -/
import Derived.Test.YtpildcnoghojpaaGreatDoorRc6
import Derived.Test.YtpildcnoghojpaaGreatDoorBun4
import Derived.BigRegion
namespace Go.Proofs.YtpildcnoghojpaaGreatDoor
open Go.RowKit

theorem Tryz.ivT : StructT Tryz.prog 65 5 := ⟨_, Tryz.underlying65, rfl, by kernel_rfl⟩
theorem Tryz.insT : ElemT Tryz.prog 55 65 5 48 (.agg #[.string ⟨#[]⟩, .int .i64 0, .int .i64 0, .int .i64 0, .int .i64 0]) := elemT_of Tryz.underlying55 (by kernel_rfl) rfl (by decide)
def invL (t : TfV) (p : List PyV) (l : List RcV) (month : Int) : List InV := if monE t p l month = 0 then invTo month (chgAll t p month l) p p.length else []
/-- What is known of all charges. -/
theorem chs_ok {t : TfV} {p : List PyV} {l : List RcV} {month : Int} (h0 : t.cl.length = t.cn) (h1 : tarE t = 0) (h2 : rcsE l = 0) : ∀ x ∈ chgAll t p month l, ChOk x ∧ x.2.talk ≤ 86400000 := fun x hx =>
  ⟨chg_ok (tar_free h1).1 (tar_right h0 h1).2 (rcs_right h2).2.1 (fun _ _ h => clsOf_mem h) _ x hx, ((rcs_right h2).2.1 _ (chgTo_mem _ x hx).1).talk.2.1⟩
set_option maxHeartbeats 8000000 in
set_option maxRecDepth 100000 in
theorem Invoices_any (lo : Nat) (cA iA : Option Addr) (cn cc en ic : Nat) (free : Int) (cl : List ClV) (ins : List ByteArray) (P : Option Addr) (pn pc : Nat) (p : List PyV) (L : Option Addr) (ln lc : Nat) (l : List RcV) (month : Int) (w : World) (htf : TfOk w lo ⟨cA, cn, cc, free, iA, en, ic, cl, ins⟩) (hpy : Pys w lo P pn pc p) (hrc : Rcs w lo L ln lc l) (hpn : pn ≤ 1000) (hln : ln ≤ 1000000000) :
    Calls Tryz.prog 10 #[.agg #[.slice cA cn cc, .int .i64 free, .slice iA en ic], .slice P pn pc, .slice L ln lc, .int .i64 month] w (SlErr InV.row 5 65 (invL ⟨cA, cn, cc, free, iA, en, ic, cl, ins⟩ p l month) (monE ⟨cA, cn, cc, free, iA, en, ic, cl, ins⟩ p l month) w) := by
  have HTF := Lib.hid htf; have HPY := Lib.hid hpy; have HRC := Lib.hid hrc
  clear htf hpy hrc
  obtain ⟨E1, h1⟩ : ∃ E, monE ⟨cA, cn, cc, free, iA, en, ic, cl, ins⟩ p l month = E := ⟨_, rfl⟩
  have H1 := Lib.hid h1
  have HT := Lib.hid (Blk.new w 51 #[.slice cA cn cc, .int .i64 free, .slice iA en ic])
  have HG := Lib.hid (gr_alloc (gr_refl w none) (.cells #[.slice cA cn cc, .int .i64 free, .slice iA en ic] 51))
  by_cases e1 : E1 = 0
  · have d1 : (E1 != 0) = false := by simpa using e1
    obtain ⟨hu, -⟩ := mon_right (h1.trans e1)
    obtain ⟨r1, r2, r3⟩ := use_right hu
    have HUSE := Lib.hid (show UseOk w lo ⟨cA, cn, cc, free, iA, en, ic, cl, ins⟩ P pn pc p L ln lc l from ⟨HTF.out, HPY.out, HRC.out, r1, r2, r3⟩)
    have HFR := Lib.hid (tar_free r1)
    have HLL := Lib.hid (show ln ≤ 3000 by rw [← HRC.out.1.len]; exact (rcs_right r3).1)
    have HFF := Lib.hid (show invL ⟨cA, cn, cc, free, iA, en, ic, cl, ins⟩ p l month = invTo month (chgAll ⟨cA, cn, cc, free, iA, en, ic, cl, ins⟩ p month l) p pn by unfold invL; rw [if_pos (h1.trans e1), HPY.out.1.len])
    have HE0 := Lib.hid e1
    have HCH := Lib.hid (chs_ok (p := p) (month := month) HTF.out.2.1.len r1 r3)
    rw [h1]
    clear e1 h1 hu r1 r2 r3
    go_enter Tryz.func10, Tryz.ntmps10
    go_wp2_with (first
      | (refine wpl_load_all Tryz.tfT rfl _ rfl _ rfl _ _ HT.out rfl ?_)
      | fail)
    refine (checkMonth_any lo cA iA cn cc en ic free cl ins P pn pc p L ln lc l month _ (HTF.out.grown HG.out (fun g e => by cases e)) (HPY.out.grown HG.out (fun g e => by cases e)) (HRC.out.grown HG.out (fun g e => by cases e)) hpn hln).mono ?_
    rintro e w2 ⟨rfl, hg2⟩
    rw [H1.out]
    have HT2 := Lib.hid (HT.out.grown hg2 (by simp))
    have HG2 := Lib.hid (gr_none HG.out hg2); clear hg2
    go_wp2_with (first
      | (refine wpl_load_all Tryz.tfT rfl _ rfl _ rfl _ _ HT2.out rfl ?_)
      | fail)
    refine (charges_any lo cA iA cn cc en ic free cl ins P pn pc p L ln lc l month _ (HUSE.out.grown HG2.out) hpn HFR.out).mono ?_
    rintro e w3 ⟨B, bn, bc, rfl, hown, hg3⟩
    have hlen : bn ≤ 3000 := by rw [← hown.2]; exact Nat.le_trans (chgTo_len _ _ _ _ _) (by rw [HRC.out.1.len]; exact HLL.out)
    obtain ⟨ch, hch⟩ : ∃ ch, chgAll ⟨cA, cn, cc, free, iA, en, ic, cl, ins⟩ p month l = ch := ⟨_, rfl⟩
    rw [hch] at hown HCH HFF
    have HB := Lib.hid hown.recs
    have HG3 := Lib.hid (gr_none HG2.out hg3)
    have HSB := Lib.hid (inSum_bd HCH.out)
    clear hown hg3 hch
    go_wp2_with fail
    go_loopw [12, 14, 15, 16, 18, 34] (fun out _ _ _ _ t wr => ∃ (k n c : Nat) (A : Option Addr), k ≤ pn ∧ t = .int .i64 k ∧ out = .slice A n c ∧ w3.grownBy wr none ∧ n ≤ k ∧ OwnR InV.row 5 wr w3.heap.size 65 A n c (invTo month ch p k)) (fun _ _ _ _ _ t _ => pn - (intOf t).toNat)
    case atStart => exact ⟨0, 0, 0, none, Nat.zero_le _, rfl, rfl, gr_refl _ _, Nat.le_refl _, OwnR.nil _ _ _⟩
    case round =>
      obtain ⟨k, n, c, A, hk, rfl, rfl, hg, hnk, hown⟩ := hrel
      have zr := hg.size
      have HO := Lib.hid hown; have HGr := Lib.hid hg; clear hg hown
      by_cases hlt : k < pn
      · obtain ⟨g, o, ⟨key, nA, nn, nc, nums⟩, rfl, _, hgl, hz, hcc⟩ := (HPY.out.1.grown (gr_none HG3.out HGr.out) (fun g e => by cases e)).get PyV.row_len hlt
        have HZ := Lib.hid hz; have HC := Lib.hid hcc; clear hz hcc
        obtain ⟨wa, hwa⟩ : ∃ wa, wr.alloc (.cells #[.string key, .slice nA nn nc] 53) = wa := ⟨_, rfl⟩
        have HP := Lib.hid (show Blk wa wr.heap.size 53 #[.string key, .slice nA nn nc] by rw [← hwa]; exact Blk.new _ _ _)
        have HGa := Lib.hid (show wr.grownBy wa none by rw [← hwa]; exact gr_alloc (gr_refl _ _) _)
        have HWA := Lib.hid hwa; clear hwa
        have kp0 := HP.out.cell 0
        go_upto_region 9 with (first
          | (refine wpl_load_at Tryz.pyT rfl _ rfl _ rfl [.string key, .slice nA nn nc] rfl (fun j u hu => by rw [add_mk]; exact HC.out j u hu) ?_)
          | fail)
        rw [HWA.out]
        go_upto_region 10 with (fail)
        obtain ⟨wb, hwb⟩ : ∃ wb, wa.alloc (.cells #[.string key, .int .i64 month, .int .i64 0, .int .i64 0, .int .i64 0] 65) = wb := ⟨_, rfl⟩
        rw [hwb]
        have HV := Lib.hid (show Blk wb wa.heap.size 65 #[.string key, .int .i64 month, .int .i64 0, .int .i64 0, .int .i64 0] by rw [← hwb]; exact Blk.new _ _ _)
        have HPb := Lib.hid (show Blk wb wr.heap.size 53 #[.string key, .slice nA nn nc] by rw [← hwb]; exact HP.out.alloc _)
        have HGb := Lib.hid (show wr.grownBy wb none by rw [← hwb]; exact gr_alloc HGa.out _)
        have za := HGa.out.size
        have zp := HP.out.lt
        have zv := HV.out.lt
        obtain ⟨V, hVa⟩ : ∃ V, wa.heap.size = V := ⟨_, rfl⟩
        rw [hVa] at HV zp zv ⊢
        clear hwb kp0 hVa
        go_wp2_with fail
        obtain ⟨wo, rfl⟩ : ∃ wo : World, wo = wr := ⟨_, rfl⟩
        go_loopw [16, 18, 44] (fun cst _ t wr => ∃ j : Nat, j ≤ bn ∧ t = .int .i64 j ∧ cst = .int .i64 (inSum ch key j).2.2 ∧ wb.grownBy wr (some V) ∧ Blk wr V 65 #[.string key, .int .i64 month, .int .i64 (inSum ch key j).1, .int .i64 (inSum ch key j).2.1, .int .i64 0]) (fun _ _ t _ => bn - (intOf t).toNat)
        case atStart => exact ⟨0, Nat.zero_le _, rfl, rfl, gr_refl _ _, HV.out⟩
        case round =>
          obtain ⟨j, hj, rfl, rfl, hg, hv⟩ := hrel
          have HGj := Lib.hid hg; have HVj := Lib.hid hv; clear hg hv
          have zj := HGj.out.size
          have zvj := HVj.out.lt
          have HPj := Lib.hid (HPb.out.grown HGj.out (by simp; omega))
          obtain ⟨b1, b2, b3, b4, b5, b6⟩ := HSB.out key j
          obtain ⟨s1, hs1⟩ : ∃ s, (inSum ch key j).1 = s := ⟨_, rfl⟩
          obtain ⟨s2, hs2⟩ : ∃ s, (inSum ch key j).2.1 = s := ⟨_, rfl⟩
          obtain ⟨s3, hs3⟩ : ∃ s, (inSum ch key j).2.2 = s := ⟨_, rfl⟩
          rw [hs1] at b1 b2 HVj; rw [hs2] at b3 b4 HVj; rw [hs3] at b5 b6 ⊢
          have HS1 := Lib.hid hs1; have HS2 := Lib.hid hs2; have HS3 := Lib.hid hs3
          clear hs1 hs2 hs3
          by_cases hlt2 : j < bn
          · obtain ⟨g, o, ⟨⟨id, pay, name, fr, cost⟩, ⟨rid, frm, too, at_, ring, talk, how, car⟩⟩, rfl, _, hgl2, hz, hcc⟩ := (HB.out.grown (gr_trans (row := none) (gr_none HGr.out HGb.out) HGj.out (fun g e => .inr (by injection e with e; omega))) (fun g e => by cases e)).get cgRow_len hlt2
            obtain ⟨⟨a1, a2, a3, a4⟩, a5⟩ := HCH.out _ (mem_of_get hz)
            dsimp only at a1 a2 a3 a4 a5
            have HZ2 := Lib.hid hz; have HC2 := Lib.hid hcc; clear hz hcc
            obtain ⟨wx, hwx⟩ : ∃ wx, wr.alloc (.cells #[.string id, .string pay, .string name, .int .i64 fr, .int .i64 cost, .string rid, .string frm, .string too, .int .i64 at_, .int .i64 ring, .int .i64 talk, .int .i64 how, .string car] 91) = wx := ⟨_, rfl⟩
            have HX := Lib.hid (show Blk wx wr.heap.size 91 #[.string id, .string pay, .string name, .int .i64 fr, .int .i64 cost, .string rid, .string frm, .string too, .int .i64 at_, .int .i64 ring, .int .i64 talk, .int .i64 how, .string car] by rw [← hwx]; exact Blk.new _ _ _)
            have HGx := Lib.hid (show wb.grownBy wx (some V) by rw [← hwx]; exact gr_alloc HGj.out _)
            have HVx := Lib.hid (show Blk wx V 65 #[.string key, .int .i64 month, .int .i64 s1, .int .i64 s2, .int .i64 0] by rw [← hwx]; exact HVj.out.alloc _)
            have HPx := Lib.hid (show Blk wx wo.heap.size 53 #[.string key, .slice nA nn nc] by rw [← hwx]; exact HPj.out.alloc _)
            have HWX := Lib.hid hwx; clear hwx
            go_upto_region 14 with (first
              | (refine wpl_load_at Tryz.cgS rfl _ rfl _ rfl [.string id, .string pay, .string name, .int .i64 fr, .int .i64 cost, .string rid, .string frm, .string too, .int .i64 at_, .int .i64 ring, .int .i64 talk, .int .i64 how, .string car] rfl (fun j u hu => by rw [add_mk]; exact HC2.out j u hu) ?_)
              | fail)
            rw [HWX.out]
            have kx1 := HX.out.cell 1
            have kp0 := HPx.out.cell 0
            obtain ⟨E, hE⟩ : ∃ E, (pay.toList == key.toList) = E := ⟨_, rfl⟩
            have HE := Lib.hid (show (nb pay == nb key) = E by rw [← hE, eqS_nb])
            cases E
            · have HS := Lib.hid (show inSum ch key (j + 1) = inSum ch key j from inSum_miss HZ2.out (by have := HE.out; simpa using this))
              go_wp2_with fail
              go_roundw
              case rel => exact ⟨j + 1, by omega, by go_num, by rw [HS.out, HS3.out], HGx.out, by rw [HS.out, HS1.out, HS2.out]; exact HVx.out⟩
              case measure => simp [intOf]; omega
            · have HS := Lib.hid (show inSum ch key (j + 1) = (s1 + 1, s2 + talk, s3 + cost) by rw [inSum_hit HZ2.out (by have := HE.out; simpa using this), HS1.out, HS2.out, HS3.out])
              go_wp2_with fail
              clear kx1 kp0 hE
              have kx4 := HX.out.cell 4
              have kx10 := HX.out.cell 10
              have kv2 := HVx.out.cell 2
              have kv3 := HVx.out.cell 3
              have fv2 := HVx.out.frozen 2
              have fv3 := HVx.out.frozen 3
              have q1 : IntKind.i64.wrap (s1 + 1) = s1 + 1 := IntWalk.i64_in _ (by omega)
              have q2 : IntKind.i64.wrap (s2 + talk) = s2 + talk := IntWalk.i64_in _ (by omega)
              have q3 : IntKind.i64.wrap (s3 + cost) = s3 + cost := IntWalk.i64_in _ (by omega)
              go_region
              obtain ⟨wy, hwy⟩ : ∃ wy, ((wx.setCell ⟨V, 2, none⟩ (.int .i64 (s1 + 1))).setCell ⟨V, 3, none⟩ (.int .i64 (s2 + talk))).drew = wy := ⟨_, rfl⟩
              rw [hwy]
              have HVy := Lib.hid (show Blk wy V 65 #[.string key, .int .i64 month, .int .i64 (s1 + 1), .int .i64 (s2 + talk), .int .i64 0] by rw [← hwy]; exact (HVx.out.set_ 2 _).set_ 3 _)
              have HGy := Lib.hid (show wb.grownBy wy (some V) by rw [← hwy]; exact gr_drew (gr_setCell (gr_setCell HGx.out (.inl rfl) _) (.inl rfl) _))
              clear hwy kx4 kx10 kv2 kv3 fv2 fv3 q1 q2 q3
              go_simp
              go_wp2_with fail
              go_roundw
              case rel => exact ⟨j + 1, by omega, by go_num, by rw [HS.out], HGy.out, by rw [HS.out]; exact HVy.out⟩
              case measure => simp [intOf]; omega
          · obtain rfl : j = bn := by omega
            have HLB := Lib.hid HB.out.len
            have kv4 := HVj.out.cell 4
            have fv4 := HVj.out.frozen 4
            go_upto_region 18 with (fail)
            obtain ⟨wy, hwy⟩ : ∃ wy, wr.setCell ⟨V, 4, none⟩ (.int .i64 (s3 / 1000)) = wy := ⟨_, rfl⟩
            rw [hwy]
            have HVy := Lib.hid (show Blk wy V 65 #[.string key, .int .i64 month, .int .i64 s1, .int .i64 s2, .int .i64 (s3 / 1000)] by rw [← hwy]; exact HVj.out.set_ 4 _)
            have HGy := Lib.hid (show wo.grownBy wy none by rw [← hwy]; exact gr_setCell (gr_trans HGb.out HGj.out (fun g e => .inr (by injection e with e; omega))) (.inr (by show wo.heap.size ≤ V; omega)) _)
            clear hwy kv4 fv4
            have kv2 := HVy.out.cell 2
            have HOy := Lib.hid (HO.out.kept HGy.out (fun g e => by cases e))
            have zy := HGy.out.size
            by_cases hp : 0 < s1
            · have d2 : decide (0 < s1) = true := decide_eq_true hp
              have HIN := Lib.hid (show invTo month ch p (k + 1) = invTo month ch p k ++ [⟨key, month, s1, s2, s3 / 1000⟩] by rw [invTo_hit HZ.out (by rw [HLB.out, HS1.out]; exact hp)]; unfold invOf; rw [HLB.out, HS1.out, HS2.out, HS3.out])
              clear hp
              go_wp2_with (first
                | (refine wpl_load_all Tryz.ivT rfl _ rfl _ rfl _ _ HVy.out rfl ?_)
                | (at_builtin
                   refine wpl_app _ rfl _ _ Tryz.insT rfl w3.heap.size A n c _ rfl (by exact HOy.out.1.alloc _) _ _ 1 1 [.string key, .int .i64 month, .int .i64 s1, .int .i64 s2, .int .i64 (s3 / 1000)] rfl (by exact Reads.one _ _ _ _ rfl) (by simp [Value.oneCell']) (by unfold maxLen; omega) (by omega) (by simp; omega) ?_
                   intro A5 c5 w5 h5
                   have H5 := Lib.hid h5; clear h5)
                | fail)
              go_roundw
              case rel => exact ⟨k + 1, n + 1, c5, A5, by omega, by go_num, rfl, H5.out.gr (gr_alloc (gr_none HGr.out HGy.out) _) (HOy.out.1.alloc _) (Nat.le_refl _), by omega, by rw [HIN.out]; exact (HOy.out.alloc _).app rfl H5.out⟩
              case measure => simp [intOf]; omega
            · have d2 : decide (0 < s1) = false := decide_eq_false hp
              have HIN := Lib.hid (show invTo month ch p (k + 1) = invTo month ch p k by rw [invTo_miss HZ.out (by rw [HLB.out, HS1.out]; exact hp)])
              clear hp
              go_wp2_with fail
              go_roundw
              case rel => exact ⟨k + 1, n, c, A, by omega, by go_num, rfl, gr_none HGr.out HGy.out, by omega, by rw [HIN.out]; exact HOy.out⟩
              case measure => simp [intOf]; omega
      · obtain rfl : k = pn := by omega
        go_wp2_with fail
        go_ret2
        refine ⟨A, n, c, by rw [← HE0.out]; rfl, ?_, gr_none HG3.out HGr.out⟩
        rw [HFF.out]
        exact HO.out.lower (by have := HG3.out.size; omega)
  · have d1 : (E1 != 0) = true := by simpa using e1
    have HFF := Lib.hid (show invL ⟨cA, cn, cc, free, iA, en, ic, cl, ins⟩ p l month = [] by unfold invL; rw [if_neg (by rw [h1]; exact e1)])
    rw [h1]
    clear e1 h1
    go_enter Tryz.func10, Tryz.ntmps10
    go_wp2_with (first
      | (refine wpl_load_all Tryz.tfT rfl _ rfl _ rfl _ _ HT.out rfl ?_)
      | fail)
    refine (checkMonth_any lo cA iA cn cc en ic free cl ins P pn pc p L ln lc l month _ (HTF.out.grown HG.out (fun g e => by cases e)) (HPY.out.grown HG.out (fun g e => by cases e)) (HRC.out.grown HG.out (fun g e => by cases e)) hpn hln).mono ?_
    rintro e w2 ⟨rfl, hg2⟩
    rw [H1.out]
    have HT2 := Lib.hid (HT.out.grown hg2 (by simp))
    have HG2 := Lib.hid (gr_none HG.out hg2); clear hg2
    go_wp2_with (first
      | (refine wpl_load_all Tryz.tfT rfl _ rfl _ rfl _ _ HT2.out rfl ?_)
      | fail)
    go_ret2
    exact ⟨none, 0, 0, rfl, by rw [HFF.out]; exact OwnR.nil _ _ _, HG2.out⟩
end Go.Proofs.YtpildcnoghojpaaGreatDoor

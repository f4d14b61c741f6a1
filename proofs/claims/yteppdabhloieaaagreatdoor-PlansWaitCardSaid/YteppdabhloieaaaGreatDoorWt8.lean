/- Contract of Hidden. Conditions: a plan as it lies in memory. -/
import Derived.Test.YteppdabhloieaaaGreatDoorWt6
import Derived.Test.YteppdabhloieaaaGreatDoorWt7
namespace Go.Proofs.YteppdabhloieaaaGreatDoor
open Go.RowKit
theorem Tryz.hisT : ElemT Tryz.prog 36 49 5 64 (.agg #[.string ⟨#[]⟩, .int .i64 0, .int .i64 0, .string ⟨#[]⟩, .string ⟨#[]⟩]) := elemT_of Tryz.underlying36 (by kernel_rfl) rfl (by decide)
def HiV (p : PlV) (LB : Bool) (key : ByteArray) (w : World) (e : Ending) (w' : World) : Prop :=
 ∃ (A : Option Addr) (n c : Nat) (r : List Nat), e = .returned (.tuple #[.slice A n c, .int .i64 (hiE (opE p LB key) (pickC p.ctxs r))]) ∧ OwnR HidV.row 5 w' w.heap.size 49 A n c (hiL (opE p LB key) (pickC p.ctxs r)) ∧ w.grownBy w' none ∧ (opE p LB key = 0 → OrdOk p key r) ∧ n ≤ 12
theorem hiE_no {e : Int} {L : List CxV} (h : e ≠ 0) : hiE e L = e := by unfold hiE; rw [if_neg h]
theorem hiL_no {e : Int} {L : List CxV} (h : hiE e L ≠ 0) : hiL e L = [] := by unfold hiL; rw [if_neg h]
theorem hiE_big {L : List CxV} (h : 12 < manyR L L.length) : hiE 0 L = 2 := by unfold hiE; rw [if_pos rfl, if_pos h]
theorem hiE_ok {L : List CxV} (h : ¬ 12 < manyR L L.length) : hiE 0 L = 0 := by unfold hiE; rw [if_pos rfl, if_neg h]
theorem hiL_ok {L : List CxV} (h : ¬ 12 < manyR L L.length) : hiL 0 L = hdL L L.length := by unfold hiL; rw [if_pos (hiE_ok h)]
theorem oTo_yes {rules : List RuV} {r o : RuV} {i k : Nat} (h : rules[k]? = some o) (hb : befB r o i k = true) : oTo rules r i (k + 1) = oTo rules r i k ++ [o] := by rw [oTo_succ h, if_pos hb]
theorem oTo_no {rules : List RuV} {r o : RuV} {i k : Nat} (h : rules[k]? = some o) (hb : befB r o i k = false) : oTo rules r i (k + 1) = oTo rules r i k := by rw [oTo_succ h, if_neg (by rw [hb]; decide), List.append_nil]
set_option maxHeartbeats 32000000 in
set_option maxRecDepth 100000 in
theorem hidden_any (lo : Nat) (p : PlV) (LB : Bool) (key : ByteArray) (w : World) (h : PlOk w lo p) (hLB : LB = true ↔ Loops p.ctxs) :
   Calls Tryz.prog 10 #[.agg #[.slice p.cA p.cn p.cc, .slice p.hA p.hn p.hc], .string key] w (HiV p LB key w) := by
 obtain ⟨cA, cn, cc, hA, hn, hc, ctxs, hours⟩ := p
 have hcn : cn ≤ 1000000 := h.cn
 have hlen := h.ctxs.len
 dsimp only at hlen hLB ⊢
 obtain ⟨W1, hW⟩ : ∃ W1, w.alloc (.cells #[.slice cA cn cc, .slice hA hn hc] 29) = W1 := ⟨_, rfl⟩
 have HP := Lib.hid (show Blk W1 w.heap.size 29 #[.slice cA cn cc, .slice hA hn hc] by rw [← hW]; exact Blk.new _ _ _)
 have HG := Lib.hid (show w.grownBy W1 none by rw [← hW]; exact gr_alloc (gr_refl _ _) _)
 have HPL := Lib.hid (h.grown HG.out gn_)
 have HW := Lib.hid hW
 have HLB := Lib.hid hLB
 have HLEN := Lib.hid hlen
 have H0 := Lib.hid h
 clear h hW hLB hlen
 obtain ⟨E0, hE0⟩ : ∃ E, opE ⟨cA, cn, cc, hA, hn, hc, ctxs, hours⟩ LB key = E := ⟨_, rfl⟩
 have HE0 := Lib.hid hE0; clear hE0
 go_enter Tryz.func10, Tryz.ntmps10
 go_upto_region 1 with (fail)
 rw [HW.out]
 go_wp2_with (first
   | (refine wpl_load_all Tryz.plT rfl _ rfl _ rfl _ _ HP.out rfl ?_)
   | fail)
 refine (open_any lo ⟨cA, cn, cc, hA, hn, hc, ctxs, hours⟩ LB key _ HPL.out HLB.out).mono ?_
 rintro e w3 ⟨B, m, d, r, rfl, hob, hg3, hok, hno, hm50⟩
 rw [HE0.out]
 rw [HE0.out] at hok hno
 have HOB := Lib.hid (hob.lower (show w.heap.size ≤ W1.heap.size from HG.out.size))
 have HOK := Lib.hid hok; have HNO := Lib.hid hno
 clear hob hok hno
 replace HG := Lib.hid (gr_none HG.out hg3)
 clear hg3 HPL HP
 by_cases e0 : E0 = 0
 · have dE : (E0 != 0) = false := by simpa using e0
   have hpr := pl_right (p := ⟨cA, cn, cc, hA, hn, hc, ctxs, hours⟩) HLEN.out (opE_right (HE0.out.trans e0))
   have HPR := Lib.hid hpr
   have HOK2 := Lib.hid (HOK.out e0)
   obtain ⟨L, hL⟩ : ∃ L, pickC ctxs r = L := ⟨_, rfl⟩
   have HLM := Lib.hid (show ∀ c ∈ L, c ∈ ctxs from fun c hc => pickC_mem (by rw [hL]; exact hc))
   have HLL := Lib.hid hL
   rw [hL] at HOB
   have HLm := Lib.hid (show L.length = m from HOB.out.2)
   clear hpr hL
   go_wp2_with fail
   go_loopw [8, 10, 40] (fun v8 _ t40 wr => ∃ k : Nat, k ≤ m ∧ t40 = .int .i64 k ∧ v8 = .int .i64 ((manyR L k : Nat) : Int) ∧ w.grownBy wr none ∧ OwnR CxV.row 3 wr w.heap.size 70 B m d L ∧ manyR L k ≤ 200 * k) (fun _ _ t40 _ => m - (intOf t40).toNat)
   case atStart => exact ⟨0, Nat.zero_le _, rfl, rfl, HG.out, HOB.out, Nat.le_refl _⟩
   case round =>
     clear HG HOB
     obtain ⟨k, hk, rfl, rfl, hg, hob, hmr⟩ := hrel
     have HG := Lib.hid hg; have HOB := Lib.hid hob
     clear hg hob
     by_cases hlt : k < m
     · obtain ⟨g, o, ⟨ckey, crA, crn, crc, ciA, cen, cic, crules, cincs⟩, hBA, _, hgl, hc, hcc⟩ := HOB.out.recs.get CxV.row_len hlt
       subst hBA
       have hcm := HLM.out _ (mem_of_get hc)
       have hco := (H0.out.grown HG.out gn_).cok _ hcm
       have hcr : CxRight hours (⟨ckey, crA, crn, crc, ciA, cen, cic, crules, cincs⟩ : CxV) := by
         obtain ⟨i, hi⟩ := List.mem_iff_getElem?.1 hcm
         exact HPR.out.cx i _ hi
       have hcrn : crn ≤ 200 := hcr.rn
       have hrl : crules.length = crn := hco.rules.len
       have HMS := Lib.hid (show manyR L (k + 1) = manyR L k + crn by rw [manyR_succ hc]; dsimp only; rw [hrl])
       have HCC := Lib.hid hcc
       clear hcm hc hcc hgl hco hcr hrl
       obtain ⟨wc, hwc⟩ : ∃ wc, wr.alloc (.cells #[.string ckey, .slice crA crn crc, .slice ciA cen cic] 70) = wc := ⟨_, rfl⟩
       obtain ⟨cb, hcb⟩ : ∃ cb, wr.heap.size = cb := ⟨_, rfl⟩
       have HCB := Lib.hid (show Blk wc cb 70 #[.string ckey, .slice crA crn crc, .slice ciA cen cic] by rw [← hwc, ← hcb]; exact Blk.new _ _ _)
       have hg4 : wr.grownBy wc none := by rw [← hwc]; exact gr_alloc (gr_refl _ _) _
       have HWC := Lib.hid hwc; have HCBB := Lib.hid hcb; clear hwc hcb
       go_upto_region 8 with (first
         | (refine wpl_load_at Tryz.cxT rfl _ rfl _ rfl [.string ckey, .slice crA crn crc, .slice ciA cen cic] rfl (fun j u hu => by rw [add_mk]; exact HCC.out j u hu) ?_)
         | fail)
       rw [HWC.out]
       (try rw [HCBB.out])
       clear HWC HCC HCBB
       replace HOB := Lib.hid (HOB.out.low hg4 gn_)
       replace HG := Lib.hid (gr_none HG.out hg4)
       clear hg4
       have kc1 := HCB.out.cell 1
       go_wp2_with fail
       go_roundw
       case rel => exact ⟨k + 1, by omega, by go_num, by rw [HMS.out]; go_num, HG.out, HOB.out, by rw [HMS.out]; omega⟩
       case measure => simp [intOf]; omega
     · have hkm : k = m := by omega
       have dkm : decide ((k : Int) < (m : Int)) = false := decide_eq_false (by omega)
       obtain ⟨M, hM⟩ : ∃ M, manyR L k = M := ⟨_, rfl⟩
       have HMM := Lib.hid (show manyR L L.length = M by rw [HLm.out, ← hkm]; exact hM)
       rw [hM] at hmr ⊢
       clear hM
       by_cases h12 : 12 < M
       · have d12 : decide ((12 : Int) < (M : Int)) = true := decide_eq_true (by omega)
         have d12' : decide (12 < M) = true := decide_eq_true h12
         have HV := Lib.hid (show hiE 0 L = 2 from hiE_big (by rw [HMM.out]; exact h12))
         clear hkm h12
         go_wp2_with fail
         go_ret2
         exact ⟨none, 0, 0, r, by dsimp only; rw [HE0.out, e0, HLL.out, HV.out]; rfl, by dsimp only; rw [HE0.out, e0, HLL.out, hiL_no (by rw [HV.out]; decide)]; exact OwnR.nil _ _ _, HG.out, fun _ => HOK2.out, by omega⟩
       · have d12 : decide ((12 : Int) < (M : Int)) = false := decide_eq_false (by omega)
         have d12' : decide (12 < M) = false := decide_eq_false h12
         have HV := Lib.hid (show hiE 0 L = 0 from hiE_ok (by rw [HMM.out]; exact h12))
         have HVL := Lib.hid (show hiL 0 L = hdL L L.length from hiL_ok (by rw [HMM.out]; exact h12))
         have HM12 := Lib.hid (show ∀ j, j ≤ m → manyR L j ≤ 12 from fun j hj => by have := manyR_mono L (show j ≤ L.length by rw [HLm.out]; exact hj); rw [HMM.out] at this; omega)
         clear hkm h12
         obtain ⟨wo, rfl⟩ : ∃ wo : World, wo = wr := ⟨_, rfl⟩
         go_wp2_with fail
         go_loopw [11, 12, 14, 15, 16, 17, 18, 19, 20, 21, 22, 23, 24, 26, 27, 28, 54] (fun v11 v12 _ _ _ _ _ _ _ _ _ _ _ _ _ _ t54 wr => ∃ (k : Nat) (A1 : Option Addr) (n1 c1 : Nat) (ps1 : List PatV) (A2 : Option Addr) (n2 c2 : Nat), k ≤ m ∧ t54 = .int .i64 k ∧ v11 = .slice A1 n1 c1 ∧ v12 = .slice A2 n2 c2 ∧ w.grownBy wr none ∧ OwnR CxV.row 3 wr w.heap.size 70 B m d L ∧ PatsO wr w.heap.size A1 n1 c1 ps1 ∧ shps ps1 = (eaL L k).map ruS ∧ OwnR HidV.row 5 wr w.heap.size 49 A2 n2 c2 (hdL L k)) (fun _ _ _ _ _ _ _ _ _ _ _ _ _ _ _ _ t54 _ => m - (intOf t54).toNat)
         case atStart => exact ⟨0, none, 0, 0, [], none, 0, 0, Nat.zero_le _, rfl, rfl, rfl, HG.out, HOB.out, PatsO.nil _ _, rfl, OwnR.nil _ _ _⟩
         case round =>
           clear HG HOB hmr
           obtain ⟨k0, rfl⟩ : ∃ k0 : Nat, k0 = k := ⟨_, rfl⟩
           obtain ⟨k, A1, n1, c1, ps1, A2, n2, c2, hk, rfl, rfl, rfl, hg, hob, hps, hsh0, hou⟩ := hrel
           have HG := Lib.hid hg; have HOB := Lib.hid hob; have HPS := Lib.hid hps; have HSH0 := Lib.hid hsh0; have HOU := Lib.hid hou
           clear hg hob hps hsh0 hou
           by_cases hlt : k < m
           · have dkm : decide ((k : Int) < (m : Int)) = true := decide_eq_true (by omega)
             obtain ⟨g, o, ⟨ckey, crA, crn, crc, ciA, cen, cic, crules, cincs⟩, hBA, _, hgl, hc, hcc⟩ := HOB.out.recs.get CxV.row_len hlt
             subst hBA
             have hcm := HLM.out _ (mem_of_get hc)
             have HCM := Lib.hid hcm
             have hco := (H0.out.grown HG.out gn_).cok _ hcm
             have hcr : CxRight hours (⟨ckey, crA, crn, crc, ciA, cen, cic, crules, cincs⟩ : CxV) := by
               obtain ⟨i, hi⟩ := List.mem_iff_getElem?.1 hcm
               exact HPR.out.cx i _ hi
             have hcrn : crn ≤ 200 := hcr.rn
             have HRL := Lib.hid (show crules.length = crn from hco.rules.len)
             have HMS := Lib.hid (show manyR L (k + 1) = manyR L k + crn by rw [manyR_succ hc]; dsimp only; rw [HRL.out])
             have HRR := Lib.hid (show ∀ r ∈ crules, RuRight hours r from cx_rules hco.rules.len hcr)
             have HRK := Lib.hid (show ∀ r ∈ crules, RuOk r from hco.rok)
             have HLK := Lib.hid hc
             have HCC := Lib.hid hcc
             clear hcm hc hcc hgl hco hcr
             obtain ⟨wc, hwc⟩ : ∃ wc, wr.alloc (.cells #[.string ckey, .slice crA crn crc, .slice ciA cen cic] 70) = wc := ⟨_, rfl⟩
             obtain ⟨cb, hcb⟩ : ∃ cb, wr.heap.size = cb := ⟨_, rfl⟩
             have HCB := Lib.hid (show Blk wc cb 70 #[.string ckey, .slice crA crn crc, .slice ciA cen cic] by rw [← hwc, ← hcb]; exact Blk.new _ _ _)
             have hg4 : wr.grownBy wc none := by rw [← hwc]; exact gr_alloc (gr_refl _ _) _
             have HWC := Lib.hid hwc; have HCBB := Lib.hid hcb; clear hwc hcb
             go_upto_region 17 with (first
               | (refine wpl_load_at Tryz.cxT rfl _ rfl _ rfl [.string ckey, .slice crA crn crc, .slice ciA cen cic] rfl (fun j u hu => by rw [add_mk]; exact HCC.out j u hu) ?_)
               | fail)
             rw [HWC.out]
             (try rw [HCBB.out])
             clear HWC HCC HCBB
             replace HG := Lib.hid (gr_none HG.out hg4)
             replace HOB := Lib.hid (HOB.out.low hg4 gn_)
             replace HPS := Lib.hid (HPS.out.none_ hg4)
             replace HOU := Lib.hid (HOU.out.low hg4 gn_)
             clear hg4
             have kc1 := HCB.out.cell 1
             obtain ⟨wo2, rfl⟩ : ∃ wo2 : World, wo2 = wr := ⟨_, rfl⟩
             go_wp2_with fail
             clear kc1
             go_loopw [12, 15, 16, 17, 18, 19, 20, 21, 22, 23, 24, 61] (fun v12 _ _ _ _ _ _ _ _ _ _ t61 wr => ∃ (i : Nat) (A2 : Option Addr) (n2 c2 : Nat), i ≤ crn ∧ t61 = .int .i64 i ∧ v12 = .slice A2 n2 c2 ∧ w.grownBy wr none ∧ Blk wr cb 70 #[.string ckey, .slice crA crn crc, .slice ciA cen cic] ∧ OwnR CxV.row 3 wr w.heap.size 70 (some ⟨g, o, none⟩) m d L ∧ PatsO wr w.heap.size A1 n1 c1 ps1 ∧ OwnR HidV.row 5 wr w.heap.size 49 A2 n2 c2 (hdL L k ++ hdC (eaL L k) ckey crules i)) (fun _ _ _ _ _ _ _ _ _ _ _ t61 _ => crn - (intOf t61).toNat)
             case atStart => exact ⟨0, A2, n2, c2, Nat.zero_le _, rfl, rfl, HG.out, HCB.out, HOB.out, HPS.out, by show OwnR _ _ _ _ _ _ _ _ (hdL L k ++ []); rw [List.append_nil]; exact HOU.out⟩
             case round =>
               clear HG HCB HOB HPS HOU
               obtain ⟨i, A2, n2, c2, hi, rfl, rfl, hg, hcb, hob, hps, hou⟩ := hrel
               have HG := Lib.hid hg; have HCB := Lib.hid hcb; have HOB := Lib.hid hob; have HPS := Lib.hid hps; have HOU := Lib.hid hou
               clear hg hcb hob hps hou
               by_cases hil : i < crn
               · have dir : decide ((i : Int) < (crn : Int)) = true := decide_eq_true (by omega)
                 have hcoR := (H0.out.grown HG.out gn_).cok (⟨ckey, crA, crn, crc, ciA, cen, cic, crules, cincs⟩ : CxV) HCM.out
                 obtain ⟨g1, o1, r1, hrA, _, hgl1, hr1, hcc1⟩ := hcoR.rules.get RuV.row_len hil
                 dsimp only at hrA hr1
                 subst hrA
                 have hru1 := HRR.out r1 (mem_of_get hr1)
                 obtain ⟨x1, hx1⟩ := hru1.pat
                 have HPX1 := Lib.hid hx1
                 have HRS1 := Lib.hid (ruS_some hx1)
                 have HRG1 := Lib.hid hr1
                 have HRC1 := Lib.hid hcc1
                 clear hr1 hcc1 hgl1 hx1 hru1 hcoR
                 obtain ⟨wa, hwa⟩ : ∃ wa, wr.alloc (.cells #[.string r1.pat, .int .i64 r1.strip, .string r1.pre, .int .i64 r1.to_, .string r1.nam, .string r1.hrs] 73) = wa := ⟨_, rfl⟩
                 obtain ⟨rb1, hrb⟩ : ∃ rb, wr.heap.size = rb := ⟨_, rfl⟩
                 have HRB1 := Lib.hid (show Blk wa rb1 73 #[.string r1.pat, .int .i64 r1.strip, .string r1.pre, .int .i64 r1.to_, .string r1.nam, .string r1.hrs] by rw [← hwa, ← hrb]; exact Blk.new _ _ _)
                 have hga : wr.grownBy wa none := by rw [← hwa]; exact gr_alloc (gr_refl _ _) _
                 have HWA := Lib.hid hwa; have HRBB := Lib.hid hrb; clear hwa hrb
                 go_upto_region 20 with (first
                   | (refine wpl_load_at Tryz.ruT rfl _ rfl _ rfl [.string r1.pat, .int .i64 r1.strip, .string r1.pre, .int .i64 r1.to_, .string r1.nam, .string r1.hrs] rfl (fun j u hu => by rw [add_mk]; exact HRC1.out j u hu) ?_)
                   | fail)
                 rw [HWA.out]
                 (try rw [HRBB.out])
                 clear HWA HRC1 HRBB
                 replace HG := Lib.hid (gr_none HG.out hga)
                 replace HCB := Lib.hid (HCB.out.grown hga (by simp))
                 replace HOB := Lib.hid (HOB.out.low hga gn_)
                 replace HPS := Lib.hid (HPS.out.none_ hga)
                 replace HOU := Lib.hid (HOU.out.low hga gn_)
                 clear hga
                 have kr0 := HRB1.out.cell 0
                 go_wp2_with fail
                 refine (readO_any r1.pat x1 _ HPX1.out).mono ?_
                 rintro e w61 ⟨v6, rfl, ⟨xA1, xn1, xc1, rfl, hxi⟩, hg6⟩
                 replace HRB1 := Lib.hid (HRB1.out.grown hg6 (by simp))
                 replace HG := Lib.hid (gr_none HG.out hg6)
                 replace HCB := Lib.hid (HCB.out.grown hg6 (by simp))
                 replace HOB := Lib.hid (HOB.out.low hg6 gn_)
                 replace HPS := Lib.hid (HPS.out.none_ hg6)
                 replace HOU := Lib.hid (HOU.out.low hg6 gn_)
                 clear hg6 kr0
                 obtain ⟨wx, hwx⟩ : ∃ wx, w61.alloc (.cells #[.slice xA1 xn1 xc1, .int .u8 x1.2] 86) = wx := ⟨_, rfl⟩
                 obtain ⟨xb1, hxb⟩ : ∃ xb, w61.heap.size = xb := ⟨_, rfl⟩
                 have HX1 := Lib.hid (show Blk wx xb1 86 #[.slice xA1 xn1 xc1, .int .u8 x1.2] by rw [← hwx, ← hxb]; exact Blk.new _ _ _)
                 have hgx : w61.grownBy wx none := by rw [← hwx]; exact gr_alloc (gr_refl _ _) _
                 have HXI1 := Lib.hid (hxi.none_ hgx)
                 have HWX := Lib.hid hwx; have HXB := Lib.hid hxb
                 clear hwx hxb hxi
                 go_upto_region 21 with (fail)
                 rw [HWX.out]
                 (try rw [HXB.out])
                 clear HWX HXB
                 replace HRB1 := Lib.hid (HRB1.out.grown hgx (by simp))
                 replace HG := Lib.hid (gr_none HG.out hgx)
                 replace HCB := Lib.hid (HCB.out.grown hgx (by simp))
                 replace HOB := Lib.hid (HOB.out.low hgx gn_)
                 replace HPS := Lib.hid (HPS.out.none_ hgx)
                 replace HOU := Lib.hid (HOU.out.low hgx gn_)
                 clear hgx
                 have hn1 : n1 ≤ 12 := by
                   have h1 := HPS.out.own.2
                   have h2 := congrArg List.length HSH0.out
                   rw [shps_len, List.length_map] at h2
                   have h4 := eaL_len L k
                   have h5 := HM12.out k (by omega)
                   omega
                 obtain ⟨wI, rfl⟩ : ∃ wI : World, wI = wx := ⟨_, rfl⟩
                 have HGb := Lib.hid HG.out
                 obtain ⟨loc, hloc⟩ : ∃ loc, wI.heap.size = loc := ⟨_, rfl⟩
                 have HLC := Lib.hid hloc
                 have zwl : w.heap.size ≤ loc := by have := HGb.out.size; omega
                 clear hloc
                 go_wp2_with fail
                 refine (cloneP_any w.heap.size A1 n1 c1 ps1 _ HPS.out.own.recs (by omega)).mono ?_
                 rintro e w7 ⟨A19, c19, rfl, hc9, hg7⟩
                 have HC9 := Lib.hid (show OwnR patRow 2 w7 loc 86 A19 n1 c19 ps1 by rw [← HLC.out]; exact hc9)
                 have HGI := Lib.hid hg7
                 have HPI := Lib.hid (show ∀ p ∈ ps1, PatOw w7 p from fun p hp => (HPS.out.ok p hp).none_ hg7)
                 have hcb7 := HCB.out.grown HGI.out (by simp)
                 have HCB7 := Lib.hid hcb7
                 have kc1 := HCB7.out.cell 1
                 clear hc9 hg7 hcb7
                 obtain ⟨wo3, rfl⟩ : ∃ wo3 : World, wo3 = wr := ⟨_, rfl⟩
                 go_wp2_with fail
                 clear kc1 HCB7
                 go_loopw [19, 20, 21, 22, 23, 24, 77] (fun v19 _ _ _ _ _ t77 wr => ∃ (q : Nat) (A19 : Option Addr) (n19 c19 : Nat) (ps19 : List PatV), q ≤ crn ∧ t77 = .int .i64 q ∧ v19 = .slice A19 n19 c19 ∧ wI.grownBy wr none ∧ PatsO wr loc A19 n19 c19 ps19 ∧ shps ps19 = (eaL L k ++ oTo crules r1 i q).map ruS) (fun _ _ _ _ _ _ t77 _ => crn - (intOf t77).toNat)
                 case atStart => exact ⟨0, A19, n1, c19, ps1, Nat.zero_le _, rfl, rfl, HGI.out, ⟨HC9.out, HPI.out⟩, by rw [HSH0.out]; show _ = (eaL L k ++ []).map ruS; rw [List.append_nil]⟩
                 case round =>
                   clear HGI HC9 HPI
                   obtain ⟨q, A19, n19, c19, ps19, hq, rfl, rfl, hgi, hpo, hsh⟩ := hrel
                   have HGI := Lib.hid hgi; have HPO := Lib.hid hpo; have HSH := Lib.hid hsh
                   have HG := Lib.hid (gr_none HGb.out HGI.out)
                   have zloc : loc ≤ wr.heap.size := by have := HGI.out.size; have := HLC.out; omega
                   have hn19 : n19 ≤ 1000 := by
                     have h1 := hpo.own.2
                     have h2 := congrArg List.length hsh
                     rw [shps_len, List.length_map, List.length_append] at h2
                     have h3 := oTo_len crules r1 i q
                     have h4 := eaL_len L k
                     have h5 := HM12.out k (by omega)
                     omega
                   clear hgi hpo hsh
                   by_cases hql : q < crn
                   · have dqr : decide ((q : Int) < (crn : Int)) = true := decide_eq_true (by omega)
                     have hcoR := (H0.out.grown HG.out gn_).cok (⟨ckey, some ⟨g1, o1, none⟩, crn, crc, ciA, cen, cic, crules, cincs⟩ : CxV) HCM.out
                     obtain ⟨g2, o2, r2, hrA, _, hgl2, hr2, hcc2⟩ := hcoR.rules.get RuV.row_len hql
                     dsimp only at hrA hr2
                     obtain ⟨rfl, rfl⟩ : g1 = g2 ∧ o1 = o2 := by injection hrA with e; injection e with e1 e2; exact ⟨e1, e2⟩
                     clear hrA
                     have hru2 := HRR.out r2 (mem_of_get hr2)
                     obtain ⟨x2, hx2⟩ := hru2.pat
                     have HPX2 := Lib.hid hx2
                     have HRS2 := Lib.hid (ruS_some hx2)
                     have HRG2 := Lib.hid hr2
                     have HRC2 := Lib.hid hcc2
                     clear hr2 hcc2 hgl2 hx2 hru2 hcoR
                     obtain ⟨wa, hwa⟩ : ∃ wa, wr.alloc (.cells #[.string r2.pat, .int .i64 r2.strip, .string r2.pre, .int .i64 r2.to_, .string r2.nam, .string r2.hrs] 73) = wa := ⟨_, rfl⟩
                     obtain ⟨rb2, hrb⟩ : ∃ rb, wr.heap.size = rb := ⟨_, rfl⟩
                     have HRB2 := Lib.hid (show Blk wa rb2 73 #[.string r2.pat, .int .i64 r2.strip, .string r2.pre, .int .i64 r2.to_, .string r2.nam, .string r2.hrs] by rw [← hwa, ← hrb]; exact Blk.new _ _ _)
                     have hga : wr.grownBy wa none := by rw [← hwa]; exact gr_alloc (gr_refl _ _) _
                     have HWA := Lib.hid hwa; have HRBB := Lib.hid hrb; clear hwa hrb
                     go_upto_region 25 with (first
                       | (refine wpl_load_at Tryz.ruT rfl _ rfl _ rfl [.string r2.pat, .int .i64 r2.strip, .string r2.pre, .int .i64 r2.to_, .string r2.nam, .string r2.hrs] rfl (fun j u hu => by rw [add_mk]; exact HRC2.out j u hu) ?_)
                       | fail)
                     rw [HWA.out]
                     (try rw [HRBB.out])
                     clear HWA HRC2 HRBB
                     replace HG := Lib.hid (gr_none HG.out hga)
                     replace HGI := Lib.hid (gr_none HGI.out hga)
                     replace HPO := Lib.hid (HPO.out.none_ hga)
                     clear hga
                     have kr0 := HRB2.out.cell 0
                     go_wp2_with fail
                     refine (readO_any r2.pat x2 _ HPX2.out).mono ?_
                     rintro e w62 ⟨v6, rfl, ⟨xA2, xn2, xc2, rfl, hxi⟩, hg6⟩
                     replace HRB2 := Lib.hid (HRB2.out.grown hg6 (by simp))
                     replace HG := Lib.hid (gr_none HG.out hg6)
                     replace HGI := Lib.hid (gr_none HGI.out hg6)
                     replace HPO := Lib.hid (HPO.out.none_ hg6)
                     clear hg6 kr0
                     obtain ⟨wx, hwx⟩ : ∃ wx, w62.alloc (.cells #[.slice xA2 xn2 xc2, .int .u8 x2.2] 86) = wx := ⟨_, rfl⟩
                     obtain ⟨xb2, hxb⟩ : ∃ xb, w62.heap.size = xb := ⟨_, rfl⟩
                     have HX2 := Lib.hid (show Blk wx xb2 86 #[.slice xA2 xn2 xc2, .int .u8 x2.2] by rw [← hwx, ← hxb]; exact Blk.new _ _ _)
                     have hgx : w62.grownBy wx none := by rw [← hwx]; exact gr_alloc (gr_refl _ _) _
                     have HXI2 := Lib.hid (hxi.none_ hgx)
                     have HWX := Lib.hid hwx; have HXB := Lib.hid hxb
                     clear hwx hxb hxi
                     go_upto_region 26 with (fail)
                     rw [HWX.out]
                     (try rw [HXB.out])
                     clear HWX HXB
                     replace HRB2 := Lib.hid (HRB2.out.grown hgx (by simp))
                     replace HG := Lib.hid (gr_none HG.out hgx)
                     replace HGI := Lib.hid (gr_none HGI.out hgx)
                     replace HPO := Lib.hid (HPO.out.none_ hgx)
                     clear hgx
                     obtain ⟨D, hD⟩ : ∃ D, befL x2 x1 = D := ⟨_, rfl⟩
                     have HD := Lib.hid hD; clear hD
                     have HX1w := Lib.hid (HX1.out.grown HGI.out (by simp))
                     have HXI1w := Lib.hid (HXI1.out.none_ HGI.out)
                     go_wp2_with (first
                       | (refine wpl_load_all Tryz.patT rfl _ rfl _ rfl _ _ HX2.out rfl ?_)
                       | (refine wpl_load_all Tryz.patT rfl _ rfl _ rfl _ _ HX1w.out rfl ?_)
                       | fail)
                     refine (before_any xA2 xA1 xn2 xc2 xn1 xc1 x2 x1 _ HXI2.out.ok.1 HXI1w.out.ok.1 HXI2.out.rt HXI1w.out.rt HXI2.out.n HXI1w.out.n).mono ?_
                     rintro e w8 ⟨rfl, hg8⟩
                     rw [HD.out]
                     replace HRB2 := Lib.hid (HRB2.out.grown hg8 (by simp))
                     replace HX2 := Lib.hid (HX2.out.grown hg8 (by simp))
                     replace HXI2 := Lib.hid (HXI2.out.none_ hg8)
                     replace HG := Lib.hid (gr_none HG.out hg8)
                     replace HGI := Lib.hid (gr_none HGI.out hg8)
                     replace HPO := Lib.hid (HPO.out.none_ hg8)
                     clear hg8 HX1w HXI1w
                     have kr5 := HRB2.out.cell 5
                     have z8 : loc ≤ w8.heap.size := by have := HGI.out.size; have := HLC.out; omega
                     by_cases hh : nb r2.hrs = []
                     · have q0 := str_nil hh
                       have dD := (by omega : D < 0 ∨ D = 0 ∨ 0 < D)
                       rcases dD with h0 | h0 | h0
                       · have e1 : decide (D < 0) = true := decide_eq_true h0
                         have HBF := Lib.hid (show befB r1 r2 i q = true by unfold befB; rw [HRS2.out, HRS1.out, HD.out, decide_eq_true hh, e1]; rfl)
                         clear hh
                         go_upto_region 28 with (fail)
                         clear q0 kr5
                         go_wp2_with (first
                           | (refine wpl_load_all Tryz.patT rfl _ rfl _ rfl _ _ HX2.out rfl ?_)
                           | (at_builtin
                              refine wpl_app _ rfl _ _ Tryz.pasT rfl loc A19 n19 c19 _ rfl (by exact HPO.out.own.1.alloc _) _ _ 1 1 [.slice xA2 xn2 xc2, .int .u8 x2.2] rfl (by exact Reads.one _ _ _ _ rfl) (by simp [Value.oneCell']) (by unfold maxLen; omega) (by omega) (by simp; omega) ?_
                              intro A9 c9 w9 h9
                              have H9 := Lib.hid h9; clear h9)
                           | fail)
                         have hgal := gr_alloc (gr_refl w8 none) (.cells #[.slice xA2 xn2 xc2, .int .u8 x2.2] 86)
                         have hpo := HPO.out.none_ hgal
                         have hgi9 : wI.grownBy w9 none := gr_trans (gr_none HGI.out hgal) H9.out.2.1 (fun g e => .inr (by have := (hpo.own.1.lt e).1; have := HLC.out; omega))
                         have hpp := hpo.app (HXI2.out.none_ hgal) rfl H9.out
                         go_roundw
                         case rel => exact ⟨q + 1, A9, n19 + 1, c9, ps19 ++ [⟨xA2, xn2, xc2, x2⟩], by omega, by go_num, rfl, hgi9, hpp, by rw [shps_app, HSH.out, oTo_yes HRG2.out HBF.out, ← List.append_assoc, List.map_append, List.map_append]; simp [HRS2.out]⟩
                         case measure => simp [intOf]; omega
                       · have e1 : decide (D < 0) = false := decide_eq_false (by omega)
                         have e2 : (D == 0) = true := by rw [beq_iff_eq]; exact h0
                         by_cases hqi : q < i
                         · have e3 : decide ((q : Int) < (i : Int)) = true := decide_eq_true (by omega)
                           have e3' : decide (q < i) = true := decide_eq_true hqi
                           have HBF := Lib.hid (show befB r1 r2 i q = true by unfold befB; rw [HRS2.out, HRS1.out, HD.out, decide_eq_true hh, e1, decide_eq_true h0, e3']; rfl)
                           clear hh h0 hqi
                           go_upto_region 28 with (fail)
                           clear q0 kr5
                           go_wp2_with (first
                             | (refine wpl_load_all Tryz.patT rfl _ rfl _ rfl _ _ HX2.out rfl ?_)
                             | (at_builtin
                                refine wpl_app _ rfl _ _ Tryz.pasT rfl loc A19 n19 c19 _ rfl (by exact HPO.out.own.1.alloc _) _ _ 1 1 [.slice xA2 xn2 xc2, .int .u8 x2.2] rfl (by exact Reads.one _ _ _ _ rfl) (by simp [Value.oneCell']) (by unfold maxLen; omega) (by omega) (by simp; omega) ?_
                                intro A9 c9 w9 h9
                                have H9 := Lib.hid h9; clear h9)
                             | fail)
                           have hgal := gr_alloc (gr_refl w8 none) (.cells #[.slice xA2 xn2 xc2, .int .u8 x2.2] 86)
                           have hpo := HPO.out.none_ hgal
                           have hgi9 : wI.grownBy w9 none := gr_trans (gr_none HGI.out hgal) H9.out.2.1 (fun g e => .inr (by have := (hpo.own.1.lt e).1; have := HLC.out; omega))
                           have hpp := hpo.app (HXI2.out.none_ hgal) rfl H9.out
                           go_roundw
                           case rel => exact ⟨q + 1, A9, n19 + 1, c9, ps19 ++ [⟨xA2, xn2, xc2, x2⟩], by omega, by go_num, rfl, hgi9, hpp, by rw [shps_app, HSH.out, oTo_yes HRG2.out HBF.out, ← List.append_assoc, List.map_append, List.map_append]; simp [HRS2.out]⟩
                           case measure => simp [intOf]; omega
                         · have e3 : decide ((q : Int) < (i : Int)) = false := decide_eq_false (by omega)
                           have e3' : decide (q < i) = false := decide_eq_false hqi
                           have HBF := Lib.hid (show befB r1 r2 i q = false by unfold befB; rw [HRS2.out, HRS1.out, HD.out, e1, decide_eq_true h0, e3']; simp)
                           clear hh h0 hqi
                           go_upto_region 29 with (fail)
                           clear q0 kr5
                           go_wp2_with fail
                           go_roundw
                           case rel => exact ⟨q + 1, A19, n19, c19, ps19, by omega, by go_num, rfl, HGI.out, HPO.out, by rw [oTo_no HRG2.out HBF.out]; exact HSH.out⟩
                           case measure => simp [intOf]; omega
                       · have e1 : decide (D < 0) = false := decide_eq_false (by omega)
                         have e2 : (D == 0) = false := by rw [beq_eq_false_iff_ne]; omega
                         have HBF := Lib.hid (show befB r1 r2 i q = false by unfold befB; rw [HRS2.out, HRS1.out, HD.out, e1, decide_eq_false (show ¬ D = 0 by omega)]; simp)
                         clear hh
                         go_upto_region 29 with (fail)
                         clear q0 kr5
                         go_wp2_with fail
                         go_roundw
                         case rel => exact ⟨q + 1, A19, n19, c19, ps19, by omega, by go_num, rfl, HGI.out, HPO.out, by rw [oTo_no HRG2.out HBF.out]; exact HSH.out⟩
                         case measure => simp [intOf]; omega
                     · obtain ⟨q1, q2, q3⟩ := str_full hh
                       have HBF := Lib.hid (show befB r1 r2 i q = false by unfold befB; rw [decide_eq_false hh]; rfl)
                       clear hh
                       go_upto_region 29 with (fail)
                       clear q1 q2 q3 kr5
                       go_wp2_with fail
                       go_roundw
                       case rel => exact ⟨q + 1, A19, n19, c19, ps19, by omega, by go_num, rfl, HGI.out, HPO.out, by rw [oTo_no HRG2.out HBF.out]; exact HSH.out⟩
                       case measure => simp [intOf]; omega
                   · have hqc : q = crn := by omega
                     have dqr : decide ((q : Int) < (crn : Int)) = false := decide_eq_false (by omega)
                     have HSHF := Lib.hid (show shps ps19 = ((eaL L k) ++ oTo crules r1 i crules.length).map ruS by rw [HRL.out, ← hqc]; exact HSH.out)
                     clear hqc
                     have hn12 : n19 ≤ 12 := by
                       have h1 := HPO.out.own.2
                       have h2 := congrArg List.length HSHF.out
                       rw [shps_len, List.length_map, List.length_append] at h2
                       have h3 := oTo_len crules r1 i crules.length
                       have h4 := eaL_len L k
                       have h5 := HM12.out (k + 1) (by omega)
                       rw [HMS.out] at h5
                       have h6 := HRL.out
                       omega
                     obtain ⟨CV, hCV⟩ : ∃ CV, covB x1 (shps ps19) = CV := ⟨_, rfl⟩
                     have HCV := Lib.hid hCV
                     have HHB := Lib.hid (show hidB (eaL L k) crules r1 i = CV by unfold hidB; rw [HRS1.out, ← HSHF.out]; exact hCV)
                     clear hCV
                     have HX1w := Lib.hid (HX1.out.grown HGI.out (by simp))
                     have HXI1w := Lib.hid (HXI1.out.none_ HGI.out)
                     go_wp2_with (first
                       | (refine wpl_load_all Tryz.patT rfl _ rfl _ rfl _ _ HX1w.out rfl ?_)
                       | fail)
                     refine (covered_any loc xA1 xn1 xc1 x1 A19 n19 c19 ps19 _ HXI1w.out.ok.1 HXI1w.out.n HXI1w.out.rt HPO.out.pats hn12).mono ?_
                     rintro e wv ⟨rfl, hgv⟩
                     rw [HCV.out]
                     have HGV := Lib.hid (gr_none HGI.out hgv)
                     have HG := Lib.hid (gr_none HGb.out HGV.out)
                     have HCB2 := Lib.hid (HCB.out.grown HGV.out (by simp))
                     have HOB2 := Lib.hid (HOB.out.low HGV.out gn_)
                     have HPS2 := Lib.hid (HPS.out.none_ HGV.out)
                     have HOU2 := Lib.hid (HOU.out.low HGV.out gn_)
                     have HRB3 := Lib.hid (HRB1.out.grown HGV.out (by simp))
                     clear hgv
                     cases CV
                     · have HHD := Lib.hid (show hdC (eaL L k) ckey crules (i + 1) = hdC (eaL L k) ckey crules i by rw [hdC_succ HRG1.out, if_neg (by rw [HHB.out]; decide), List.append_nil])
                       go_wp2_with fail
                       go_roundw
                       case rel => exact ⟨i + 1, A2, n2, c2, by omega, by go_num, rfl, HG.out, HCB2.out, HOB2.out, HPS2.out, by rw [HHD.out]; exact HOU2.out⟩
                       case measure => simp [intOf]; omega
                     · have HHD := Lib.hid (show hdC (eaL L k) ckey crules (i + 1) = hdC (eaL L k) ckey crules i ++ [⟨ckey, i, r1.to_, r1.nam⟩] by rw [hdC_succ HRG1.out, if_pos (by rw [HHB.out])])
                       have hn2 : n2 ≤ 1000 := by
                         have h1 := HOU2.out.2
                         rw [List.length_append] at h1
                         have h2 := hdL_len L k
                         have h3 := hdC_len (eaL L k) ckey crules i
                         have h4 := HM12.out k (by omega)
                         omega
                       have kc0 := HCB2.out.cell 0
                       have kr3 := HRB3.out.cell 3
                       have kr4 := HRB3.out.cell 4
                       have zwv : w.heap.size ≤ wv.heap.size := HG.out.size
                       go_wp2_with (first
                         | (at_builtin
                            refine wpl_app _ rfl _ _ Tryz.hisT rfl w.heap.size A2 n2 c2 _ rfl (by exact HOU2.out.1.alloc _) _ _ 1 1 [.string ckey, .int .i64 i, .int .i64 r1.to_, .string r1.nam, .string ⟨#[]⟩] rfl (by exact Reads.one _ _ _ _ rfl) (by simp [Value.oneCell']) (by unfold maxLen; omega) (by omega) (by simp; omega) ?_
                            intro A9 c9 w9 h9
                            have H9 := Lib.hid h9; clear h9)
                         | fail)
                       have hgal := gr_alloc (gr_refl wv none) (.cells #[.string ckey, .int .i64 i, .int .i64 r1.to_, .string r1.nam, .string ⟨#[]⟩] 49)
                       have hou := HOU2.out.low hgal gn_
                       have hob := HOB2.out.low hgal gn_
                       have hps := HPS2.out.none_ hgal
                       have hcb := HCB2.out.grown hgal (by simp)
                       have hg9 : w.grownBy w9 none := gr_trans (gr_none HG.out hgal) H9.out.2.1 (fun g e => .inr (by have := (hou.1.lt e).1; omega))
                       go_roundw
                       case rel => exact ⟨i + 1, A9, n2 + 1, c9, by omega, by go_num, rfl, hg9, hcb.grown H9.out.2.1 (Ne.symm (hou.1.blk_ne hcb (by decide))), hob.kept H9.out.2.1 (fun _ e => Own.ne hou.1 hob.1 (by decide) e), hps.other hou.1 (by decide) (by decide) H9.out.2.1, by rw [HHD.out, ← List.append_assoc]; exact hou.app (a := ⟨ckey, i, r1.to_, r1.nam⟩) rfl H9.out⟩
                       case measure => simp [intOf]; omega
               · have hic : i = crn := by omega
                 have dir : decide ((i : Int) < (crn : Int)) = false := decide_eq_false (by omega)
                 have HHF := Lib.hid (show hdL L k ++ hdC (eaL L k) ckey crules i = hdL L (k + 1) by rw [hdL_succ HLK.out, hic]; dsimp only; rw [HRL.out])
                 clear hic
                 have kc1 := HCB.out.cell 1
                 obtain ⟨wo4, rfl⟩ : ∃ wo4 : World, wo4 = wr := ⟨_, rfl⟩
                 go_wp2_with fail
                 clear kc1
                 go_loopw [11, 26, 27, 28, 130] (fun v11 _ _ _ t130 wr => ∃ (j : Nat) (A1 : Option Addr) (n1 c1 : Nat) (ps1' : List PatV), j ≤ crn ∧ t130 = .int .i64 j ∧ v11 = .slice A1 n1 c1 ∧ w.grownBy wr none ∧ OwnR CxV.row 3 wr w.heap.size 70 (some ⟨g, o, none⟩) m d L ∧ PatsO wr w.heap.size A1 n1 c1 ps1' ∧ shps ps1' = (eaL L k ++ eaC crules j).map ruS ∧ OwnR HidV.row 5 wr w.heap.size 49 A2 n2 c2 (hdL L (k + 1))) (fun _ _ _ _ t130 _ => crn - (intOf t130).toNat)
                 case atStart => exact ⟨0, A1, n1, c1, ps1, Nat.zero_le _, rfl, rfl, HG.out, HOB.out, HPS.out, by rw [HSH0.out]; show _ = (eaL L k ++ []).map ruS; rw [List.append_nil], by rw [← HHF.out]; exact HOU.out⟩
                 case round =>
                   clear HG HOB HPS HOU HCB
                   obtain ⟨j, A1, n1, c1, ps1', hj, rfl, rfl, hg, hob, hps, hsh, hou⟩ := hrel
                   have HG := Lib.hid hg; have HOB := Lib.hid hob; have HPS := Lib.hid hps; have HSH := Lib.hid hsh; have HOU := Lib.hid hou
                   have zw : w.heap.size ≤ wr.heap.size := hg.size
                   have hn1 : n1 ≤ 1000 := by
                     have h1 := hps.own.2
                     have h2 := congrArg List.length hsh
                     rw [shps_len, List.length_map, List.length_append] at h2
                     have h3 := eaC_len crules j
                     have h4 := eaL_len L k
                     have h5 := HM12.out k (by omega)
                     omega
                   clear hg hob hps hsh hou
                   by_cases hjl : j < crn
                   · have djr : decide ((j : Int) < (crn : Int)) = true := decide_eq_true (by omega)
                     have hcoR := (H0.out.grown HG.out gn_).cok (⟨ckey, crA, crn, crc, ciA, cen, cic, crules, cincs⟩ : CxV) HCM.out
                     obtain ⟨g3, o3, r3, hrA, _, hgl3, hr3, hcc3⟩ := hcoR.rules.get RuV.row_len hjl
                     dsimp only at hrA hr3
                     subst hrA
                     have hru3 := HRR.out r3 (mem_of_get hr3)
                     obtain ⟨x3, hx3⟩ := hru3.pat
                     have HPX3 := Lib.hid hx3
                     have HRS3 := Lib.hid (ruS_some hx3)
                     have HRG3 := Lib.hid hr3
                     have HRC3 := Lib.hid hcc3
                     clear hr3 hcc3 hgl3 hx3 hru3 hcoR
                     obtain ⟨wa, hwa⟩ : ∃ wa, wr.alloc (.cells #[.string r3.pat, .int .i64 r3.strip, .string r3.pre, .int .i64 r3.to_, .string r3.nam, .string r3.hrs] 73) = wa := ⟨_, rfl⟩
                     obtain ⟨rb3, hrb⟩ : ∃ rb, wr.heap.size = rb := ⟨_, rfl⟩
                     have HRB3 := Lib.hid (show Blk wa rb3 73 #[.string r3.pat, .int .i64 r3.strip, .string r3.pre, .int .i64 r3.to_, .string r3.nam, .string r3.hrs] by rw [← hwa, ← hrb]; exact Blk.new _ _ _)
                     have hga : wr.grownBy wa none := by rw [← hwa]; exact gr_alloc (gr_refl _ _) _
                     have HWA := Lib.hid hwa; have HRBB := Lib.hid hrb; clear hwa hrb
                     go_upto_region 36 with (first
                       | (refine wpl_load_at Tryz.ruT rfl _ rfl _ rfl [.string r3.pat, .int .i64 r3.strip, .string r3.pre, .int .i64 r3.to_, .string r3.nam, .string r3.hrs] rfl (fun j u hu => by rw [add_mk]; exact HRC3.out j u hu) ?_)
                       | fail)
                     rw [HWA.out]
                     (try rw [HRBB.out])
                     clear HWA HRC3 HRBB
                     replace HG := Lib.hid (gr_none HG.out hga)
                     replace HOB := Lib.hid (HOB.out.low hga gn_)
                     replace HPS := Lib.hid (HPS.out.none_ hga)
                     replace HOU := Lib.hid (HOU.out.low hga gn_)
                     clear hga
                     have kr0 := HRB3.out.cell 0
                     go_wp2_with fail
                     refine (readO_any r3.pat x3 _ HPX3.out).mono ?_
                     rintro e w63 ⟨v6, rfl, ⟨xA3, xn3, xc3, rfl, hxi⟩, hg6⟩
                     replace HRB3 := Lib.hid (HRB3.out.grown hg6 (by simp))
                     replace HG := Lib.hid (gr_none HG.out hg6)
                     replace HOB := Lib.hid (HOB.out.low hg6 gn_)
                     replace HPS := Lib.hid (HPS.out.none_ hg6)
                     replace HOU := Lib.hid (HOU.out.low hg6 gn_)
                     clear hg6 kr0
                     obtain ⟨wx, hwx⟩ : ∃ wx, w63.alloc (.cells #[.slice xA3 xn3 xc3, .int .u8 x3.2] 86) = wx := ⟨_, rfl⟩
                     obtain ⟨xb3, hxb⟩ : ∃ xb, w63.heap.size = xb := ⟨_, rfl⟩
                     have HX3 := Lib.hid (show Blk wx xb3 86 #[.slice xA3 xn3 xc3, .int .u8 x3.2] by rw [← hwx, ← hxb]; exact Blk.new _ _ _)
                     have hgx : w63.grownBy wx none := by rw [← hwx]; exact gr_alloc (gr_refl _ _) _
                     have HXI3 := Lib.hid (hxi.none_ hgx)
                     have HWX := Lib.hid hwx; have HXB := Lib.hid hxb
                     clear hwx hxb hxi
                     go_upto_region 37 with (fail)
                     rw [HWX.out]
                     (try rw [HXB.out])
                     clear HWX HXB
                     replace HRB3 := Lib.hid (HRB3.out.grown hgx (by simp))
                     replace HG := Lib.hid (gr_none HG.out hgx)
                     replace HOB := Lib.hid (HOB.out.low hgx gn_)
                     replace HPS := Lib.hid (HPS.out.none_ hgx)
                     replace HOU := Lib.hid (HOU.out.low hgx gn_)
                     clear hgx
                     have kr5 := HRB3.out.cell 5
                     have zx : w.heap.size ≤ wx.heap.size := HG.out.size
                     by_cases hh : nb r3.hrs = []
                     · have q0 := str_nil hh
                       have HHH := Lib.hid hh
                       clear hh
                       go_upto_region 38 with (fail)
                       clear q0 kr5
                       go_wp2_with (first
                         | (refine wpl_load_all Tryz.patT rfl _ rfl _ rfl _ _ HX3.out rfl ?_)
                         | (at_builtin
                            refine wpl_app _ rfl _ _ Tryz.pasT rfl w.heap.size A1 n1 c1 _ rfl (by exact HPS.out.own.1.alloc _) _ _ 1 1 [.slice xA3 xn3 xc3, .int .u8 x3.2] rfl (by exact Reads.one _ _ _ _ rfl) (by simp [Value.oneCell']) (by unfold maxLen; omega) (by omega) (by simp; omega) ?_
                            intro A9 c9 w9 h9
                            have H9 := Lib.hid h9; clear h9)
                         | fail)
                       have hgal := gr_alloc (gr_refl wx none) (.cells #[.slice xA3 xn3 xc3, .int .u8 x3.2] 86)
                       have hpo := HPS.out.none_ hgal
                       have hou := HOU.out.low hgal gn_
                       have hob := HOB.out.low hgal gn_
                       have hg9 : w.grownBy w9 none := gr_trans (gr_none HG.out hgal) H9.out.2.1 (fun g e => .inr (by have := (hpo.own.1.lt e).1; omega))
                       go_roundw
                       case rel => exact ⟨j + 1, A9, n1 + 1, c9, ps1' ++ [⟨xA3, xn3, xc3, x3⟩], by omega, by go_num, rfl, hg9, hob.kept H9.out.2.1 (fun _ e => Own.ne hpo.own.1 hob.1 (by decide) e), hpo.app (HXI3.out.none_ hgal) rfl H9.out, by rw [shps_app, HSH.out, eaC_succ HRG3.out, if_pos HHH.out, ← List.append_assoc, List.map_append, List.map_append]; simp [HRS3.out], hou.kept H9.out.2.1 (fun _ e => Own.ne hpo.own.1 hou.1 (by decide) e)⟩
                       case measure => simp [intOf]; omega
                     · obtain ⟨q1, q2, q3⟩ := str_full hh
                       have HHH := Lib.hid hh
                       clear hh
                       go_upto_region 39 with (fail)
                       clear q1 q2 q3 kr5
                       go_wp2_with fail
                       go_roundw
                       case rel => exact ⟨j + 1, A1, n1, c1, ps1', by omega, by go_num, rfl, HG.out, HOB.out, HPS.out, by rw [eaC_succ HRG3.out, if_neg HHH.out, List.append_nil]; exact HSH.out, HOU.out⟩
                       case measure => simp [intOf]; omega
                   · have hjc : j = crn := by omega
                     have djr : decide ((j : Int) < (crn : Int)) = false := decide_eq_false (by omega)
                     have HSF := Lib.hid (show shps ps1' = (eaL L (k + 1)).map ruS by rw [HSH.out, eaL_succ HLK.out, hjc]; dsimp only; rw [HRL.out])
                     clear hjc
                     go_wp2_with fail
                     go_roundw
                     case rel => exact ⟨k + 1, A1, n1, c1, ps1', A2, n2, c2, by omega, by go_num, rfl, rfl, HG.out, HOB.out, HPS.out, HSF.out, HOU.out⟩
                     case measure => simp [intOf]; omega
           · have hkm : k = m := by omega
             have dkm : decide ((k : Int) < (m : Int)) = false := decide_eq_false (by omega)
             have HF := Lib.hid (show hdL L k = hdL L L.length by rw [HLm.out, hkm])
             have hn2 : n2 ≤ 12 := by have h1 := HOU.out.2; have h2 := hdL_len L k; have h3 := HM12.out k (by omega); omega
             clear hkm
             go_wp2_with fail
             go_ret2
             exact ⟨A2, n2, c2, r, by dsimp only; rw [HE0.out, e0, HLL.out, HV.out]; rfl, by dsimp only; rw [HE0.out, e0, HLL.out, HVL.out, ← HF.out]; exact HOU.out, HG.out, fun _ => HOK2.out, hn2⟩
 · have dE : (E0 != 0) = true := by simpa using e0
   have HV := Lib.hid (show hiE (opE ⟨cA, cn, cc, hA, hn, hc, ctxs, hours⟩ LB key) (pickC ctxs r) = E0 by rw [hiE_no (by rw [HE0.out]; exact e0), HE0.out])
   go_wp2_with fail
   go_ret2
   exact ⟨none, 0, 0, r, by dsimp only; rw [HV.out]; rfl, by dsimp only; rw [hiL_no (by rw [HV.out]; exact e0)]; exact OwnR.nil _ _ _, HG.out, (fun e => by rw [HE0.out] at e; exact absurd e e0), by omega⟩
end Go.Proofs.YteppdabhloieaaaGreatDoor

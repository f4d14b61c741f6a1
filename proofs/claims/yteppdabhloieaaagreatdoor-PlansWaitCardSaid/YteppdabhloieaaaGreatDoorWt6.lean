/- Contract of Waits. Conditions: a plan as it lies in memory. -/
import Derived.Test.YteppdabhloieaaaGreatDoorBun10
import Derived.Test.YteppdabhloieaaaGreatDoorBun8
import Derived.Test.YteppdabhloieaaaGreatDoorBun9
namespace Go.Proofs.YteppdabhloieaaaGreatDoor
open Go.RowKit
def WaiV (p : PlV) (LB : Bool) (key dial : ByteArray) (t : Int) (w : World) (e : Ending) (w' : World) : Prop :=
 ∃ (NW MO : Bool) (r : List Nat), e = .returned (.tuple #[.bool NW, .bool MO, .int .i64 (akE p LB key dial t)]) ∧ w.grownBy w' none ∧ (akE p LB key dial t = 0 → OrdOk p key r ∧ NW = (pickC p.ctxs r).any (noC p.hours (nb dial) t) ∧ MO = (pickC p.ctxs r).any (waC p.hours (nb dial) t)) ∧ (akE p LB key dial t ≠ 0 → NW = false ∧ MO = false)
theorem akE_parts {p : PlV} {LB : Bool} {key dial : ByteArray} {t : Int} (h : akE p LB key dial t = 0) : opE p LB key = 0 ∧ dialOk (nb dial) = true ∧ 0 ≤ t ∧ t ≤ 345686399999 := by
 unfold akE at h
 by_cases c : opE p LB key = 0
 · rw [if_pos c] at h
   by_cases c1 : dialOk (nb dial) = true
   · rw [if_pos c1] at h
     by_cases c2 : momB t = true
     · refine ⟨c, c1, ?_⟩
       unfold momB inB at c2; simpa using c2
     · rw [if_neg c2] at h; omega
   · rw [if_neg c1] at h; omega
 · rw [if_neg c] at h; exact absurd h c
theorem dial_parts {d : ByteArray} (h : dialOk (nb d) = true) : 1 ≤ d.size ∧ d.size ≤ 30 ∧ ∀ b ∈ nb d, b ∈ sgn := by
 unfold dialOk at h
 simp only [Bool.and_eq_true, decide_eq_true_eq, List.all_eq_true] at h
 rw [nb_len] at h
 exact ⟨h.1.1, h.1.2, h.2⟩
set_option maxHeartbeats 16000000 in
set_option maxRecDepth 100000 in
theorem waits_any (lo : Nat) (p : PlV) (LB : Bool) (key dial : ByteArray) (t : Int) (w : World) (h : PlOk w lo p) (hLB : LB = true ↔ Loops p.ctxs) (hd : dial.size ≤ 1000000) :
   Calls Tryz.prog 9 #[.agg #[.slice p.cA p.cn p.cc, .slice p.hA p.hn p.hc], .string key, .string dial, .int .i64 t] w (WaiV p LB key dial t w) := by
 obtain ⟨cA, cn, cc, hA, hn, hc, ctxs, hours⟩ := p
 have hcn : cn ≤ 1000000 := h.cn
 have hlen := h.ctxs.len
 dsimp only at hlen hLB ⊢
 obtain ⟨W1, hW⟩ : ∃ W1, w.alloc (.cells #[.slice cA cn cc, .slice hA hn hc] 29) = W1 := ⟨_, rfl⟩
 have HP := Lib.hid (show Blk W1 w.heap.size 29 #[.slice cA cn cc, .slice hA hn hc] by rw [← hW]; exact Blk.new _ _ _)
 have HG := Lib.hid (show w.grownBy W1 none by rw [← hW]; exact gr_alloc (gr_refl _ _) _)
 have HPL := Lib.hid (h.grown HG.out gn_)
 have HW := Lib.hid hW
 have HLB := Lib.hid hLB
 have HLEN := Lib.hid hlen
 have H0 := Lib.hid h
 clear h hW hLB hlen
 obtain ⟨E0, hE0⟩ : ∃ E, akE ⟨cA, cn, cc, hA, hn, hc, ctxs, hours⟩ LB key dial t = E := ⟨_, rfl⟩
 have HE0 := Lib.hid hE0; clear hE0
 go_enter Tryz.func9, Tryz.ntmps9
 go_upto_region 1 with (fail)
 rw [HW.out]
 go_wp2_with (first
   | (refine wpl_load_all Tryz.plT rfl _ rfl _ rfl _ _ HP.out rfl ?_)
   | fail)
 refine (ask_any lo ⟨cA, cn, cc, hA, hn, hc, ctxs, hours⟩ LB key dial t _ HPL.out HLB.out hd).mono ?_
 rintro e w3 ⟨B, m, d, r, rfl, hob, hg3, hok, hm50⟩
 rw [HE0.out]
 rw [HE0.out] at hok
 have HOB := Lib.hid (hob.lower (show w.heap.size ≤ W1.heap.size from HG.out.size))
 have HOK := Lib.hid hok
 clear hob hok
 replace HP := Lib.hid (HP.out.grown hg3 (by simp))
 replace HG := Lib.hid (gr_none HG.out hg3)
 clear hg3 HPL
 by_cases e0 : E0 = 0
 · have dE : (E0 != 0) = false := by simpa using e0
   obtain ⟨hop, hdial, m0, m1⟩ := akE_parts (HE0.out.trans e0)
   have hpr := pl_right (p := ⟨cA, cn, cc, hA, hn, hc, ctxs, hours⟩) HLEN.out (opE_right hop)
   have HPR := Lib.hid hpr
   have HDI := Lib.hid hdial
   obtain ⟨_, hd30, hdsg⟩ := dial_parts hdial
   have HSG := Lib.hid hdsg
   have HOK2 := Lib.hid (HOK.out e0)
   have HHR := Lib.hid (show ∀ a ∈ hours, HrRight a from fun a ha => right_of (H0.out.hours.2 a ha).2.1.len (H0.out.hours.2 a ha).2.2.len (hpr.hours a ha))
   obtain ⟨L, hL⟩ : ∃ L, pickC ctxs r = L := ⟨_, rfl⟩
   have HLM := Lib.hid (show ∀ c ∈ L, c ∈ ctxs from fun c hc => pickC_mem (by rw [hL]; exact hc))
   have HLL := Lib.hid hL
   rw [hL] at HOB
   clear hop hdial hdsg hpr hL
   go_wp2_with fail
   go_loopw [13, 14, 16, 18, 19, 20, 34] (fun v13 v14 _ _ _ _ t34 wr => ∃ (k : Nat) (NW MO : Bool), k ≤ m ∧ t34 = .int .i64 k ∧ v13 = .bool NW ∧ v14 = .bool MO ∧ w.grownBy wr none ∧ Blk wr w.heap.size 29 #[.slice cA cn cc, .slice hA hn hc] ∧ OwnR CxV.row 3 wr w.heap.size 70 B m d L ∧ NW = (L.take k).any (noC hours (nb dial) t) ∧ MO = (L.take k).any (waC hours (nb dial) t)) (fun _ _ _ _ _ _ t34 _ => m - (intOf t34).toNat)
   case atStart => exact ⟨0, false, false, Nat.zero_le _, rfl, rfl, rfl, HG.out, HP.out, HOB.out, rfl, rfl⟩
   case round =>
     clear HG HP HOB
     obtain ⟨k, NW, MO, hk, rfl, rfl, rfl, hg, hp, hob, hnw, hmo⟩ := hrel
     have HG := Lib.hid hg; have HP := Lib.hid hp; have HOB := Lib.hid hob; have HNW := Lib.hid hnw; have HMO := Lib.hid hmo
     have zr := hp.lt
     clear hg hp hob hnw hmo
     by_cases hlt : k < m
     · have dkm : decide ((k : Int) < (m : Int)) = true := decide_eq_true (by omega)
       obtain ⟨g, o, ⟨ckey, crA, crn, crc, ciA, cen, cic, crules, cincs⟩, hBA, _, hgl, hc, hcc⟩ := HOB.out.recs.get CxV.row_len hlt
       subst hBA
       have hcm := HLM.out _ (mem_of_get hc)
       have HCO := Lib.hid ((H0.out.grown HG.out gn_).cok _ hcm)
       have HCR := Lib.hid (show CxRight hours (⟨ckey, crA, crn, crc, ciA, cen, cic, crules, cincs⟩ : CxV) from by
         obtain ⟨i, hi⟩ := List.mem_iff_getElem?.1 hcm
         exact HPR.out.cx i _ hi)
       have HN1 := Lib.hid (any_take_succ (p := noC hours (nb dial) t) hc)
       have HM1 := Lib.hid (any_take_succ (p := waC hours (nb dial) t) hc)
       have HCM := Lib.hid hcm
       have HCC := Lib.hid hcc
       have hrn : crn ≤ 1000000 := HCO.out.rn
       have HRL := Lib.hid (show crules.length = crn from HCO.out.rules.len)
       clear hcm hc hcc hgl
       obtain ⟨wc, hwc⟩ : ∃ wc, wr.alloc (.cells #[.string ckey, .slice crA crn crc, .slice ciA cen cic] 70) = wc := ⟨_, rfl⟩
       obtain ⟨cb, hcb⟩ : ∃ cb, wr.heap.size = cb := ⟨_, rfl⟩
       have HCB := Lib.hid (show Blk wc cb 70 #[.string ckey, .slice crA crn crc, .slice ciA cen cic] by rw [← hwc, ← hcb]; exact Blk.new _ _ _)
       have hg4 : wr.grownBy wc none := by rw [← hwc]; exact gr_alloc (gr_refl _ _) _
       have HWC := Lib.hid hwc; have HCBB := Lib.hid hcb; clear hwc hcb
       go_upto_region 8 with (first
         | (refine wpl_load_at Tryz.cxT rfl _ rfl _ rfl [.string ckey, .slice crA crn crc, .slice ciA cen cic] rfl (fun j u hu => by rw [add_mk]; exact HCC.out j u hu) ?_)
         | fail)
       rw [HWC.out]
       (try rw [HCBB.out])
       clear HWC HCC HCBB
       replace HOB := Lib.hid (HOB.out.low hg4 gn_)
       replace HCO := Lib.hid (HCO.out.grown hg4 gn_)
       replace HP := Lib.hid (HP.out.grown hg4 (by simp))
       replace HG := Lib.hid (gr_none HG.out hg4)
       clear hg4
       cases NW
       · have cP := HP.out.cell
         have cC := HCB.out.cell
         go_wp2_with fail
         clear cP cC
         refine (decidesP_any lo ⟨cA, cn, cc, hA, hn, hc, ctxs, hours⟩ (⟨ckey, crA, crn, crc, ciA, cen, cic, crules, cincs⟩ : CxV) dial t _ (H0.out.grown HG.out gn_) HHR.out HCO.out (cx_rules HCO.out.rules.len HCR.out) HDI.out (by omega) (by omega)).mono ?_
         rintro e w5 ⟨rfl, hg5⟩
         dsimp only
         replace HOB := Lib.hid (HOB.out.low hg5 gn_)
         replace HCO := Lib.hid (HCO.out.grown hg5 gn_)
         replace HCB := Lib.hid (HCB.out.grown hg5 (by simp))
         replace HP := Lib.hid (HP.out.grown hg5 (by simp))
         replace HG := Lib.hid (gr_none HG.out hg5)
         clear hg5
         have hno : noC hours (nb dial) t (⟨ckey, crA, crn, crc, ciA, cen, cic, crules, cincs⟩ : CxV) = (decT hours (nb dial) t crules crn).isSome := by unfold noC; rw [HRL.out]
         cases hdk : decT hours (nb dial) t crules crn with
         | none =>
           have HN2 := Lib.hid (show false = (L.take (k + 1)).any (noC hours (nb dial) t) by rw [HN1.out, ← HNW.out, hno, hdk]; rfl)
           rw [show bestI none = -1 from rfl]
           clear hno hdk
           go_upto_region 9 with (fail)
           have kc1 := HCB.out.cell 1
           obtain ⟨wo, rfl⟩ : ∃ wo : World, wo = wr := ⟨_, rfl⟩
           go_wp2_with fail
           clear kc1
           go_loopw [14, 18, 19, 20, 50] (fun v14 _ _ _ t50 wr => ∃ (j : Nat) (MO' : Bool), j ≤ crn ∧ t50 = .int .i64 j ∧ v14 = .bool MO' ∧ w.grownBy wr none ∧ Blk wr w.heap.size 29 #[.slice cA cn cc, .slice hA hn hc] ∧ OwnR CxV.row 3 wr w.heap.size 70 (some ⟨g, o, none⟩) m d L ∧ MO' = ((L.take k).any (waC hours (nb dial) t) || (crules.take j).any (waitB hours (nb dial) t))) (fun _ _ _ _ t50 _ => crn - (intOf t50).toNat)
           case atStart => exact ⟨0, MO, Nat.zero_le _, rfl, rfl, HG.out, HP.out, HOB.out, by rw [← HMO.out]; simp⟩
           case round =>
             clear HG HP HOB HCB HCO
             obtain ⟨j, MO', hj, rfl, rfl, hg, hp, hob, hmo⟩ := hrel
             have HG := Lib.hid hg; have HP := Lib.hid hp; have HOB := Lib.hid hob; have HMJ := Lib.hid hmo
             clear hg hp hob hmo
             have HCO := Lib.hid ((H0.out.grown HG.out gn_).cok (⟨ckey, crA, crn, crc, ciA, cen, cic, crules, cincs⟩ : CxV) HCM.out)
             by_cases hjl : j < crn
             · have djr : decide ((j : Int) < (crn : Int)) = true := decide_eq_true (by omega)
               obtain ⟨g2, o2, r2, hrA, _, hgl2, hr2, hcc2⟩ := HCO.out.rules.get RuV.row_len hjl
               dsimp only at hrA hr2
               subst hrA
               have HRU := Lib.hid (cx_rules HCO.out.rules.len HCR.out r2 (mem_of_get hr2))
               obtain ⟨x, hx⟩ := HRU.out.pat
               have HPX := Lib.hid hx
               have HWB := Lib.hid (show waitB hours (nb dial) t r2 = (cntB hours r2.hrs t && longB x (nb dial)) by unfold waitB; rw [ruS_some hx])
               have HMN := Lib.hid (patX_many hx)
               have HTS := Lib.hid (any_take_succ (p := waitB hours (nb dial) t) hr2)
               obtain ⟨ro1, ro2, ro3, ro4⟩ := HCO.out.rok r2 (mem_of_get hr2)
               have HRC := Lib.hid hcc2
               clear hr2 hcc2 hgl2 hx
               obtain ⟨wa, hwa⟩ : ∃ wa, wr.alloc (.cells #[.string r2.pat, .int .i64 r2.strip, .string r2.pre, .int .i64 r2.to_, .string r2.nam, .string r2.hrs] 73) = wa := ⟨_, rfl⟩
               obtain ⟨rb, hrb⟩ : ∃ rb, wr.heap.size = rb := ⟨_, rfl⟩
               have HRB := Lib.hid (show Blk wa rb 73 #[.string r2.pat, .int .i64 r2.strip, .string r2.pre, .int .i64 r2.to_, .string r2.nam, .string r2.hrs] by rw [← hwa, ← hrb]; exact Blk.new _ _ _)
               have hga : wr.grownBy wa none := by rw [← hwa]; exact gr_alloc (gr_refl _ _) _
               have HWA := Lib.hid hwa; have HRBB := Lib.hid hrb; clear hwa hrb
               go_upto_region 12 with (first
                 | (refine wpl_load_at Tryz.ruT rfl _ rfl _ rfl [.string r2.pat, .int .i64 r2.strip, .string r2.pre, .int .i64 r2.to_, .string r2.nam, .string r2.hrs] rfl (fun j u hu => by rw [add_mk]; exact HRC.out j u hu) ?_)
                 | fail)
               rw [HWA.out]
               (try rw [HRBB.out])
               clear HWA HRC HRBB
               replace HG := Lib.hid (gr_none HG.out hga)
               replace HP := Lib.hid (HP.out.grown hga (by simp))
               replace HOB := Lib.hid (HOB.out.low hga gn_)
               clear hga
               have kr0 := HRB.out.cell 0
               go_wp2_with fail
               refine (read_all r2.pat _).mono ?_
               rintro e w6 ⟨v6, rfl, hv6, hg6⟩
               replace HRB := Lib.hid (HRB.out.grown hg6 (by simp))
               replace HG := Lib.hid (gr_none HG.out hg6)
               replace HP := Lib.hid (HP.out.grown hg6 (by simp))
               replace HOB := Lib.hid (HOB.out.low hg6 gn_)
               clear hg6 kr0
               rcases hv6 with ⟨x', xA, xn, xc, hx', rfl, hxi, hxn⟩ | ⟨hx', rfl⟩
               rotate_left 1
               · exfalso; rw [HPX.out] at hx'; cases hx'
               · obtain rfl : x = x' := by rw [HPX.out] at hx'; injection hx'
                 have HRT := Lib.hid (patX_right hx')
                 obtain ⟨wx, hwx⟩ : ∃ wx, w6.alloc (.cells #[.slice xA xn xc, .int .u8 x.2] 86) = wx := ⟨_, rfl⟩
                 obtain ⟨xb, hxb⟩ : ∃ xb, w6.heap.size = xb := ⟨_, rfl⟩
                 have HX := Lib.hid (show Blk wx xb 86 #[.slice xA xn xc, .int .u8 x.2] by rw [← hwx, ← hxb]; exact Blk.new _ _ _)
                 have hgx : w6.grownBy wx none := by rw [← hwx]; exact gr_alloc (gr_refl _ _) _
                 have HXI := Lib.hid ((hxi.lower (Nat.zero_le _)).grown hgx gn_)
                 have HWX := Lib.hid hwx; have HXB := Lib.hid hxb
                 clear hwx hxb hxi hx'
                 go_upto_region 13 with (fail)
                 rw [HWX.out]
                 (try rw [HXB.out])
                 clear HWX HXB
                 replace HRB := Lib.hid (HRB.out.grown hgx (by simp))
                 replace HG := Lib.hid (gr_none HG.out hgx)
                 replace HP := Lib.hid (HP.out.grown hgx (by simp))
                 replace HOB := Lib.hid (HOB.out.low hgx gn_)
                 clear hgx
                 cases MO'
                 · obtain ⟨C, hC⟩ : ∃ C, cntB hours r2.hrs t = C := ⟨_, rfl⟩
                   have HC := Lib.hid hC; clear hC
                   have kr5 := HRB.out.cell 5
                   have cP := HP.out.cell
                   go_wp2_with fail
                   clear kr5 cP
                   refine (counts_any lo ⟨cA, cn, cc, hA, hn, hc, ctxs, hours⟩ r2.hrs t _ (H0.out.grown HG.out gn_) HHR.out HRU.out.hrs (by omega) (by omega)).mono ?_
                   rintro e w8 ⟨rfl, hg8⟩
                   dsimp only
                   rw [HC.out]
                   replace HX := Lib.hid (HX.out.grown hg8 (by simp))
                   replace HXI := Lib.hid (HXI.out.grown hg8 gn_)
                   replace HG := Lib.hid (gr_none HG.out hg8)
                   replace HP := Lib.hid (HP.out.grown hg8 (by simp))
                   replace HOB := Lib.hid (HOB.out.low hg8 gn_)
                   clear hg8
                   cases C
                   · have HM2 := Lib.hid (show false = ((L.take k).any (waC hours (nb dial) t) || (crules.take (j + 1)).any (waitB hours (nb dial) t)) by rw [HTS.out, ← Bool.or_assoc, ← HMJ.out, HWB.out, HC.out]; rfl)
                     go_wp2_with fail
                     go_roundw
                     case rel => exact ⟨j + 1, false, by omega, by go_num, rfl, HG.out, HP.out, HOB.out, HM2.out⟩
                     case measure => simp [intOf]; omega
                   · obtain ⟨LG, hLG⟩ : ∃ LG, longB x (nb dial) = LG := ⟨_, rfl⟩
                     have HLG := Lib.hid hLG; clear hLG
                     have HM2 := Lib.hid (show LG = ((L.take k).any (waC hours (nb dial) t) || (crules.take (j + 1)).any (waitB hours (nb dial) t)) by rw [HTS.out, ← Bool.or_assoc, ← HMJ.out, HWB.out, HC.out, HLG.out]; rfl)
                     have cX := HX.out.cell
                     go_wp2_with fail
                     clear cX
                     refine (longer_any xA xn xc x dial _ HXI.out HRT.out HMN.out.2 hxn hd30 HSG.out).mono ?_
                     rintro e w9 ⟨rfl, hg9⟩
                     rw [HLG.out]
                     replace HG := Lib.hid (gr_none HG.out hg9)
                     replace HP := Lib.hid (HP.out.grown hg9 (by simp))
                     replace HOB := Lib.hid (HOB.out.low hg9 gn_)
                     clear hg9
                     cases LG
                     all_goals
                       go_wp2_with fail
                       go_roundw
                       case rel => exact ⟨j + 1, _, by omega, by go_num, rfl, HG.out, HP.out, HOB.out, HM2.out⟩
                       case measure => simp [intOf]; omega
                 · have HM2 := Lib.hid (show true = ((L.take k).any (waC hours (nb dial) t) || (crules.take (j + 1)).any (waitB hours (nb dial) t)) by rw [HTS.out, ← Bool.or_assoc, ← HMJ.out]; rfl)
                   go_wp2_with fail
                   go_roundw
                   case rel => exact ⟨j + 1, true, by omega, by go_num, rfl, HG.out, HP.out, HOB.out, HM2.out⟩
                   case measure => simp [intOf]; omega
             · have hjr : j = crn := by omega
               have djr : decide ((j : Int) < (crn : Int)) = false := decide_eq_false (by omega)
               have HM2 := Lib.hid (show MO' = (L.take (k + 1)).any (waC hours (nb dial) t) by rw [HMJ.out, HM1.out, any_take_all (l := crules) (by rw [HRL.out]; omega)]; rfl)
               clear hjr
               go_wp2_with fail
               go_roundw
               case rel => exact ⟨k + 1, false, MO', by omega, by go_num, rfl, rfl, HG.out, HP.out, HOB.out, HN2.out, HM2.out⟩
               case measure => simp [intOf]; omega
         | some b =>
           have HN2 := Lib.hid (show true = (L.take (k + 1)).any (noC hours (nb dial) t) by rw [HN1.out, ← HNW.out, hno, hdk]; rfl)
           rw [show bestI (some b) = (b : Int) from rfl]
           have db : decide ((0 : Int) ≤ (b : Int)) = true := decide_eq_true (by omega)
           clear hno hdk
           go_upto_region 9 with (fail)
           have kc1 := HCB.out.cell 1
           obtain ⟨wo, rfl⟩ : ∃ wo : World, wo = wr := ⟨_, rfl⟩
           go_wp2_with fail
           clear kc1
           go_loopw [14, 18, 19, 20, 50] (fun v14 _ _ _ t50 wr => ∃ (j : Nat) (MO' : Bool), j ≤ crn ∧ t50 = .int .i64 j ∧ v14 = .bool MO' ∧ w.grownBy wr none ∧ Blk wr w.heap.size 29 #[.slice cA cn cc, .slice hA hn hc] ∧ OwnR CxV.row 3 wr w.heap.size 70 (some ⟨g, o, none⟩) m d L ∧ MO' = ((L.take k).any (waC hours (nb dial) t) || (crules.take j).any (waitB hours (nb dial) t))) (fun _ _ _ _ t50 _ => crn - (intOf t50).toNat)
           case atStart => exact ⟨0, MO, Nat.zero_le _, rfl, rfl, HG.out, HP.out, HOB.out, by rw [← HMO.out]; simp⟩
           case round =>
             clear HG HP HOB HCB HCO
             obtain ⟨j, MO', hj, rfl, rfl, hg, hp, hob, hmo⟩ := hrel
             have HG := Lib.hid hg; have HP := Lib.hid hp; have HOB := Lib.hid hob; have HMJ := Lib.hid hmo
             clear hg hp hob hmo
             have HCO := Lib.hid ((H0.out.grown HG.out gn_).cok (⟨ckey, crA, crn, crc, ciA, cen, cic, crules, cincs⟩ : CxV) HCM.out)
             by_cases hjl : j < crn
             · have djr : decide ((j : Int) < (crn : Int)) = true := decide_eq_true (by omega)
               obtain ⟨g2, o2, r2, hrA, _, hgl2, hr2, hcc2⟩ := HCO.out.rules.get RuV.row_len hjl
               dsimp only at hrA hr2
               subst hrA
               have HRU := Lib.hid (cx_rules HCO.out.rules.len HCR.out r2 (mem_of_get hr2))
               obtain ⟨x, hx⟩ := HRU.out.pat
               have HPX := Lib.hid hx
               have HWB := Lib.hid (show waitB hours (nb dial) t r2 = (cntB hours r2.hrs t && longB x (nb dial)) by unfold waitB; rw [ruS_some hx])
               have HMN := Lib.hid (patX_many hx)
               have HTS := Lib.hid (any_take_succ (p := waitB hours (nb dial) t) hr2)
               obtain ⟨ro1, ro2, ro3, ro4⟩ := HCO.out.rok r2 (mem_of_get hr2)
               have HRC := Lib.hid hcc2
               clear hr2 hcc2 hgl2 hx
               obtain ⟨wa, hwa⟩ : ∃ wa, wr.alloc (.cells #[.string r2.pat, .int .i64 r2.strip, .string r2.pre, .int .i64 r2.to_, .string r2.nam, .string r2.hrs] 73) = wa := ⟨_, rfl⟩
               obtain ⟨rb, hrb⟩ : ∃ rb, wr.heap.size = rb := ⟨_, rfl⟩
               have HRB := Lib.hid (show Blk wa rb 73 #[.string r2.pat, .int .i64 r2.strip, .string r2.pre, .int .i64 r2.to_, .string r2.nam, .string r2.hrs] by rw [← hwa, ← hrb]; exact Blk.new _ _ _)
               have hga : wr.grownBy wa none := by rw [← hwa]; exact gr_alloc (gr_refl _ _) _
               have HWA := Lib.hid hwa; have HRBB := Lib.hid hrb; clear hwa hrb
               go_upto_region 12 with (first
                 | (refine wpl_load_at Tryz.ruT rfl _ rfl _ rfl [.string r2.pat, .int .i64 r2.strip, .string r2.pre, .int .i64 r2.to_, .string r2.nam, .string r2.hrs] rfl (fun j u hu => by rw [add_mk]; exact HRC.out j u hu) ?_)
                 | fail)
               rw [HWA.out]
               (try rw [HRBB.out])
               clear HWA HRC HRBB
               replace HG := Lib.hid (gr_none HG.out hga)
               replace HP := Lib.hid (HP.out.grown hga (by simp))
               replace HOB := Lib.hid (HOB.out.low hga gn_)
               clear hga
               have kr0 := HRB.out.cell 0
               go_wp2_with fail
               refine (read_all r2.pat _).mono ?_
               rintro e w6 ⟨v6, rfl, hv6, hg6⟩
               replace HRB := Lib.hid (HRB.out.grown hg6 (by simp))
               replace HG := Lib.hid (gr_none HG.out hg6)
               replace HP := Lib.hid (HP.out.grown hg6 (by simp))
               replace HOB := Lib.hid (HOB.out.low hg6 gn_)
               clear hg6 kr0
               rcases hv6 with ⟨x', xA, xn, xc, hx', rfl, hxi, hxn⟩ | ⟨hx', rfl⟩
               rotate_left 1
               · exfalso; rw [HPX.out] at hx'; cases hx'
               · obtain rfl : x = x' := by rw [HPX.out] at hx'; injection hx'
                 have HRT := Lib.hid (patX_right hx')
                 obtain ⟨wx, hwx⟩ : ∃ wx, w6.alloc (.cells #[.slice xA xn xc, .int .u8 x.2] 86) = wx := ⟨_, rfl⟩
                 obtain ⟨xb, hxb⟩ : ∃ xb, w6.heap.size = xb := ⟨_, rfl⟩
                 have HX := Lib.hid (show Blk wx xb 86 #[.slice xA xn xc, .int .u8 x.2] by rw [← hwx, ← hxb]; exact Blk.new _ _ _)
                 have hgx : w6.grownBy wx none := by rw [← hwx]; exact gr_alloc (gr_refl _ _) _
                 have HXI := Lib.hid ((hxi.lower (Nat.zero_le _)).grown hgx gn_)
                 have HWX := Lib.hid hwx; have HXB := Lib.hid hxb
                 clear hwx hxb hxi hx'
                 go_upto_region 13 with (fail)
                 rw [HWX.out]
                 (try rw [HXB.out])
                 clear HWX HXB
                 replace HRB := Lib.hid (HRB.out.grown hgx (by simp))
                 replace HG := Lib.hid (gr_none HG.out hgx)
                 replace HP := Lib.hid (HP.out.grown hgx (by simp))
                 replace HOB := Lib.hid (HOB.out.low hgx gn_)
                 clear hgx
                 cases MO'
                 · obtain ⟨C, hC⟩ : ∃ C, cntB hours r2.hrs t = C := ⟨_, rfl⟩
                   have HC := Lib.hid hC; clear hC
                   have kr5 := HRB.out.cell 5
                   have cP := HP.out.cell
                   go_wp2_with fail
                   clear kr5 cP
                   refine (counts_any lo ⟨cA, cn, cc, hA, hn, hc, ctxs, hours⟩ r2.hrs t _ (H0.out.grown HG.out gn_) HHR.out HRU.out.hrs (by omega) (by omega)).mono ?_
                   rintro e w8 ⟨rfl, hg8⟩
                   dsimp only
                   rw [HC.out]
                   replace HX := Lib.hid (HX.out.grown hg8 (by simp))
                   replace HXI := Lib.hid (HXI.out.grown hg8 gn_)
                   replace HG := Lib.hid (gr_none HG.out hg8)
                   replace HP := Lib.hid (HP.out.grown hg8 (by simp))
                   replace HOB := Lib.hid (HOB.out.low hg8 gn_)
                   clear hg8
                   cases C
                   · have HM2 := Lib.hid (show false = ((L.take k).any (waC hours (nb dial) t) || (crules.take (j + 1)).any (waitB hours (nb dial) t)) by rw [HTS.out, ← Bool.or_assoc, ← HMJ.out, HWB.out, HC.out]; rfl)
                     go_wp2_with fail
                     go_roundw
                     case rel => exact ⟨j + 1, false, by omega, by go_num, rfl, HG.out, HP.out, HOB.out, HM2.out⟩
                     case measure => simp [intOf]; omega
                   · obtain ⟨LG, hLG⟩ : ∃ LG, longB x (nb dial) = LG := ⟨_, rfl⟩
                     have HLG := Lib.hid hLG; clear hLG
                     have HM2 := Lib.hid (show LG = ((L.take k).any (waC hours (nb dial) t) || (crules.take (j + 1)).any (waitB hours (nb dial) t)) by rw [HTS.out, ← Bool.or_assoc, ← HMJ.out, HWB.out, HC.out, HLG.out]; rfl)
                     have cX := HX.out.cell
                     go_wp2_with fail
                     clear cX
                     refine (longer_any xA xn xc x dial _ HXI.out HRT.out HMN.out.2 hxn hd30 HSG.out).mono ?_
                     rintro e w9 ⟨rfl, hg9⟩
                     rw [HLG.out]
                     replace HG := Lib.hid (gr_none HG.out hg9)
                     replace HP := Lib.hid (HP.out.grown hg9 (by simp))
                     replace HOB := Lib.hid (HOB.out.low hg9 gn_)
                     clear hg9
                     cases LG
                     all_goals
                       go_wp2_with fail
                       go_roundw
                       case rel => exact ⟨j + 1, _, by omega, by go_num, rfl, HG.out, HP.out, HOB.out, HM2.out⟩
                       case measure => simp [intOf]; omega
                 · have HM2 := Lib.hid (show true = ((L.take k).any (waC hours (nb dial) t) || (crules.take (j + 1)).any (waitB hours (nb dial) t)) by rw [HTS.out, ← Bool.or_assoc, ← HMJ.out]; rfl)
                   go_wp2_with fail
                   go_roundw
                   case rel => exact ⟨j + 1, true, by omega, by go_num, rfl, HG.out, HP.out, HOB.out, HM2.out⟩
                   case measure => simp [intOf]; omega
             · have hjr : j = crn := by omega
               have djr : decide ((j : Int) < (crn : Int)) = false := decide_eq_false (by omega)
               have HM2 := Lib.hid (show MO' = (L.take (k + 1)).any (waC hours (nb dial) t) by rw [HMJ.out, HM1.out, any_take_all (l := crules) (by rw [HRL.out]; omega)]; rfl)
               clear hjr
               go_wp2_with fail
               go_roundw
               case rel => exact ⟨k + 1, true, MO', by omega, by go_num, rfl, rfl, HG.out, HP.out, HOB.out, HN2.out, HM2.out⟩
               case measure => simp [intOf]; omega
       · have HN2 := Lib.hid (show true = (L.take (k + 1)).any (noC hours (nb dial) t) by rw [HN1.out, ← HNW.out]; rfl)
         go_upto_region 9 with (fail)
         have kc1 := HCB.out.cell 1
         obtain ⟨wo, rfl⟩ : ∃ wo : World, wo = wr := ⟨_, rfl⟩
         go_wp2_with fail
         clear kc1
         go_loopw [14, 18, 19, 20, 50] (fun v14 _ _ _ t50 wr => ∃ (j : Nat) (MO' : Bool), j ≤ crn ∧ t50 = .int .i64 j ∧ v14 = .bool MO' ∧ w.grownBy wr none ∧ Blk wr w.heap.size 29 #[.slice cA cn cc, .slice hA hn hc] ∧ OwnR CxV.row 3 wr w.heap.size 70 (some ⟨g, o, none⟩) m d L ∧ MO' = ((L.take k).any (waC hours (nb dial) t) || (crules.take j).any (waitB hours (nb dial) t))) (fun _ _ _ _ t50 _ => crn - (intOf t50).toNat)
         case atStart => exact ⟨0, MO, Nat.zero_le _, rfl, rfl, HG.out, HP.out, HOB.out, by rw [← HMO.out]; simp⟩
         case round =>
           clear HG HP HOB HCB HCO
           obtain ⟨j, MO', hj, rfl, rfl, hg, hp, hob, hmo⟩ := hrel
           have HG := Lib.hid hg; have HP := Lib.hid hp; have HOB := Lib.hid hob; have HMJ := Lib.hid hmo
           clear hg hp hob hmo
           have HCO := Lib.hid ((H0.out.grown HG.out gn_).cok (⟨ckey, crA, crn, crc, ciA, cen, cic, crules, cincs⟩ : CxV) HCM.out)
           by_cases hjl : j < crn
           · have djr : decide ((j : Int) < (crn : Int)) = true := decide_eq_true (by omega)
             obtain ⟨g2, o2, r2, hrA, _, hgl2, hr2, hcc2⟩ := HCO.out.rules.get RuV.row_len hjl
             dsimp only at hrA hr2
             subst hrA
             have HRU := Lib.hid (cx_rules HCO.out.rules.len HCR.out r2 (mem_of_get hr2))
             obtain ⟨x, hx⟩ := HRU.out.pat
             have HPX := Lib.hid hx
             have HWB := Lib.hid (show waitB hours (nb dial) t r2 = (cntB hours r2.hrs t && longB x (nb dial)) by unfold waitB; rw [ruS_some hx])
             have HMN := Lib.hid (patX_many hx)
             have HTS := Lib.hid (any_take_succ (p := waitB hours (nb dial) t) hr2)
             obtain ⟨ro1, ro2, ro3, ro4⟩ := HCO.out.rok r2 (mem_of_get hr2)
             have HRC := Lib.hid hcc2
             clear hr2 hcc2 hgl2 hx
             obtain ⟨wa, hwa⟩ : ∃ wa, wr.alloc (.cells #[.string r2.pat, .int .i64 r2.strip, .string r2.pre, .int .i64 r2.to_, .string r2.nam, .string r2.hrs] 73) = wa := ⟨_, rfl⟩
             obtain ⟨rb, hrb⟩ : ∃ rb, wr.heap.size = rb := ⟨_, rfl⟩
             have HRB := Lib.hid (show Blk wa rb 73 #[.string r2.pat, .int .i64 r2.strip, .string r2.pre, .int .i64 r2.to_, .string r2.nam, .string r2.hrs] by rw [← hwa, ← hrb]; exact Blk.new _ _ _)
             have hga : wr.grownBy wa none := by rw [← hwa]; exact gr_alloc (gr_refl _ _) _
             have HWA := Lib.hid hwa; have HRBB := Lib.hid hrb; clear hwa hrb
             go_upto_region 12 with (first
               | (refine wpl_load_at Tryz.ruT rfl _ rfl _ rfl [.string r2.pat, .int .i64 r2.strip, .string r2.pre, .int .i64 r2.to_, .string r2.nam, .string r2.hrs] rfl (fun j u hu => by rw [add_mk]; exact HRC.out j u hu) ?_)
               | fail)
             rw [HWA.out]
             (try rw [HRBB.out])
             clear HWA HRC HRBB
             replace HG := Lib.hid (gr_none HG.out hga)
             replace HP := Lib.hid (HP.out.grown hga (by simp))
             replace HOB := Lib.hid (HOB.out.low hga gn_)
             clear hga
             have kr0 := HRB.out.cell 0
             go_wp2_with fail
             refine (read_all r2.pat _).mono ?_
             rintro e w6 ⟨v6, rfl, hv6, hg6⟩
             replace HRB := Lib.hid (HRB.out.grown hg6 (by simp))
             replace HG := Lib.hid (gr_none HG.out hg6)
             replace HP := Lib.hid (HP.out.grown hg6 (by simp))
             replace HOB := Lib.hid (HOB.out.low hg6 gn_)
             clear hg6 kr0
             rcases hv6 with ⟨x', xA, xn, xc, hx', rfl, hxi, hxn⟩ | ⟨hx', rfl⟩
             rotate_left 1
             · exfalso; rw [HPX.out] at hx'; cases hx'
             · obtain rfl : x = x' := by rw [HPX.out] at hx'; injection hx'
               have HRT := Lib.hid (patX_right hx')
               obtain ⟨wx, hwx⟩ : ∃ wx, w6.alloc (.cells #[.slice xA xn xc, .int .u8 x.2] 86) = wx := ⟨_, rfl⟩
               obtain ⟨xb, hxb⟩ : ∃ xb, w6.heap.size = xb := ⟨_, rfl⟩
               have HX := Lib.hid (show Blk wx xb 86 #[.slice xA xn xc, .int .u8 x.2] by rw [← hwx, ← hxb]; exact Blk.new _ _ _)
               have hgx : w6.grownBy wx none := by rw [← hwx]; exact gr_alloc (gr_refl _ _) _
               have HXI := Lib.hid ((hxi.lower (Nat.zero_le _)).grown hgx gn_)
               have HWX := Lib.hid hwx; have HXB := Lib.hid hxb
               clear hwx hxb hxi hx'
               go_upto_region 13 with (fail)
               rw [HWX.out]
               (try rw [HXB.out])
               clear HWX HXB
               replace HRB := Lib.hid (HRB.out.grown hgx (by simp))
               replace HG := Lib.hid (gr_none HG.out hgx)
               replace HP := Lib.hid (HP.out.grown hgx (by simp))
               replace HOB := Lib.hid (HOB.out.low hgx gn_)
               clear hgx
               cases MO'
               · obtain ⟨C, hC⟩ : ∃ C, cntB hours r2.hrs t = C := ⟨_, rfl⟩
                 have HC := Lib.hid hC; clear hC
                 have kr5 := HRB.out.cell 5
                 have cP := HP.out.cell
                 go_wp2_with fail
                 clear kr5 cP
                 refine (counts_any lo ⟨cA, cn, cc, hA, hn, hc, ctxs, hours⟩ r2.hrs t _ (H0.out.grown HG.out gn_) HHR.out HRU.out.hrs (by omega) (by omega)).mono ?_
                 rintro e w8 ⟨rfl, hg8⟩
                 dsimp only
                 rw [HC.out]
                 replace HX := Lib.hid (HX.out.grown hg8 (by simp))
                 replace HXI := Lib.hid (HXI.out.grown hg8 gn_)
                 replace HG := Lib.hid (gr_none HG.out hg8)
                 replace HP := Lib.hid (HP.out.grown hg8 (by simp))
                 replace HOB := Lib.hid (HOB.out.low hg8 gn_)
                 clear hg8
                 cases C
                 · have HM2 := Lib.hid (show false = ((L.take k).any (waC hours (nb dial) t) || (crules.take (j + 1)).any (waitB hours (nb dial) t)) by rw [HTS.out, ← Bool.or_assoc, ← HMJ.out, HWB.out, HC.out]; rfl)
                   go_wp2_with fail
                   go_roundw
                   case rel => exact ⟨j + 1, false, by omega, by go_num, rfl, HG.out, HP.out, HOB.out, HM2.out⟩
                   case measure => simp [intOf]; omega
                 · obtain ⟨LG, hLG⟩ : ∃ LG, longB x (nb dial) = LG := ⟨_, rfl⟩
                   have HLG := Lib.hid hLG; clear hLG
                   have HM2 := Lib.hid (show LG = ((L.take k).any (waC hours (nb dial) t) || (crules.take (j + 1)).any (waitB hours (nb dial) t)) by rw [HTS.out, ← Bool.or_assoc, ← HMJ.out, HWB.out, HC.out, HLG.out]; rfl)
                   have cX := HX.out.cell
                   go_wp2_with fail
                   clear cX
                   refine (longer_any xA xn xc x dial _ HXI.out HRT.out HMN.out.2 hxn hd30 HSG.out).mono ?_
                   rintro e w9 ⟨rfl, hg9⟩
                   rw [HLG.out]
                   replace HG := Lib.hid (gr_none HG.out hg9)
                   replace HP := Lib.hid (HP.out.grown hg9 (by simp))
                   replace HOB := Lib.hid (HOB.out.low hg9 gn_)
                   clear hg9
                   cases LG
                   all_goals
                     go_wp2_with fail
                     go_roundw
                     case rel => exact ⟨j + 1, _, by omega, by go_num, rfl, HG.out, HP.out, HOB.out, HM2.out⟩
                     case measure => simp [intOf]; omega
               · have HM2 := Lib.hid (show true = ((L.take k).any (waC hours (nb dial) t) || (crules.take (j + 1)).any (waitB hours (nb dial) t)) by rw [HTS.out, ← Bool.or_assoc, ← HMJ.out]; rfl)
                 go_wp2_with fail
                 go_roundw
                 case rel => exact ⟨j + 1, true, by omega, by go_num, rfl, HG.out, HP.out, HOB.out, HM2.out⟩
                 case measure => simp [intOf]; omega
           · have hjr : j = crn := by omega
             have djr : decide ((j : Int) < (crn : Int)) = false := decide_eq_false (by omega)
             have HM2 := Lib.hid (show MO' = (L.take (k + 1)).any (waC hours (nb dial) t) by rw [HMJ.out, HM1.out, any_take_all (l := crules) (by rw [HRL.out]; omega)]; rfl)
             clear hjr
             go_wp2_with fail
             go_roundw
             case rel => exact ⟨k + 1, true, MO', by omega, by go_num, rfl, rfl, HG.out, HP.out, HOB.out, HN2.out, HM2.out⟩
             case measure => simp [intOf]; omega
     · have hkm : k = m := by omega
       have dkm : decide ((k : Int) < (m : Int)) = false := decide_eq_false (by omega)
       have HFN := Lib.hid (show NW = L.any (noC hours (nb dial) t) by rw [HNW.out, any_take_all (by rw [HOB.out.2]; omega)])
       have HFM := Lib.hid (show MO = L.any (waC hours (nb dial) t) by rw [HMO.out, any_take_all (by rw [HOB.out.2]; omega)])
       clear hkm
       go_wp2_with fail
       go_ret3
       exact ⟨NW, MO, r, by rw [HE0.out, e0]; rfl, HG.out, fun _ => ⟨HOK2.out, by dsimp only; rw [HLL.out]; exact HFN.out, by dsimp only; rw [HLL.out]; exact HFM.out⟩, fun e => absurd (HE0.out.trans e0) e⟩
 · have dE : (E0 != 0) = true := by simpa using e0
   go_wp2_with fail
   go_ret3
   exact ⟨false, false, [], by rw [HE0.out]; rfl, HG.out, (fun e => by rw [HE0.out] at e; exact absurd e e0), fun _ => ⟨rfl, rfl⟩⟩
end Go.Proofs.YteppdabhloieaaaGreatDoor

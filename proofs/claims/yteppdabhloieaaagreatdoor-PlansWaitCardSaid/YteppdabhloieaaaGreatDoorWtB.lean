/- Contract of the document's WaitsOf. Conditions: a right plan, a right string dialled, a right moment. -/
import Derived.Test.YteppdabhloieaaaGreatDoorWtA
import Derived.Test.YteppdabhloieaaaGreatDoorBun2
namespace Go.Proofs.YteppdabhloieaaaGreatDoor
open Go.RowKit
theorem decOut_form (o : Option (CxV × Nat)) : ∃ (k : ByteArray) (b : Nat), decOut o = .tuple #[.string k, .int .i64 b, .bool o.isSome] := by
 cases o with
 | none => exact ⟨_, 0, rfl⟩
 | some c => exact ⟨_, _, rfl⟩
def WaiOfV (p : PlV) (i : Nat) (dial : ByteArray) (t : Int) (w : World) (e : Ending) (w' : World) : Prop :=
 ∃ r : List Nat, Ord (incIx p.ctxs) [i] [] r ∧ r.Nodup ∧ (∀ x ∈ r, x < p.ctxs.length) ∧ e = .returned (.tuple #[.bool ((pickC p.ctxs r).any (noC p.hours (nb dial) t)), .bool ((pickC p.ctxs r).any (waC p.hours (nb dial) t))]) ∧ w.grownBy w' none
set_option maxHeartbeats 32000000 in
set_option maxRecDepth 100000 in
theorem waitsOf_any (lo : Nat) (p : PlV) (i : Nat) (z0 : CxV) (dial : ByteArray) (t : Int) (w : World) (h : PlOk w lo p) (hpr : PlRight p) (hz : p.ctxs[i]? = some z0) (hd : dialOk (nb dial) = true) (t0 : -1 ≤ t) (t1 : t ≤ 345686400000) :
   Calls Tryz.prog 17 #[.agg #[.slice p.cA p.cn p.cc, .slice p.hA p.hn p.hc], .string z0.key, .string dial, .int .i64 t] w (WaiOfV p i dial t w) := by
 obtain ⟨cA, cn, cc, hA, hn, hc, ctxs, hours⟩ := p
 have hcn : cn ≤ 50 := hpr.cn
 have hlen := h.ctxs.len
 dsimp only at hlen hz ⊢
 have hc0 : 0 < cn := by rw [← hlen]; have := (List.getElem?_eq_some_iff.1 hz).1; omega
 obtain ⟨gP, oP, _, hcA0, _⟩ := h.ctxs.get CxV.row_len hc0
 dsimp only at hcA0
 subst hcA0
 obtain ⟨_, hd30, hdsg⟩ := dial_parts hd
 have HSG := Lib.hid hdsg
 have HD := Lib.hid hd
 obtain ⟨W1, hW⟩ : ∃ W1, w.alloc (.cells #[.slice (some ⟨gP, oP, none⟩) cn cc, .slice hA hn hc] 29) = W1 := ⟨_, rfl⟩
 have HP := Lib.hid (show Blk W1 w.heap.size 29 #[.slice (some ⟨gP, oP, none⟩) cn cc, .slice hA hn hc] by rw [← hW]; exact Blk.new _ _ _)
 have HG := Lib.hid (show w.grownBy W1 none by rw [← hW]; exact gr_alloc (gr_refl _ _) _)
 have HW := Lib.hid hW
 have HLEN := Lib.hid hlen
 have H0 := Lib.hid h
 have HPR := Lib.hid hpr
 have HKY1 := Lib.hid (show Keyed1 ctxs from keyed_of (by rw [hlen]; exact hpr.cxs))
 have HHR := Lib.hid (show ∀ a ∈ hours, HrRight a from fun a ha => right_of (h.hours.2 a ha).2.1.len (h.hours.2 a ha).2.2.len (hpr.hours a ha))
 have HZ0 := Lib.hid hz
 have HEN := Lib.hid (show ∀ c ∈ ctxs, c.en ≤ 10 from fun c hc => by
   obtain ⟨i, hi⟩ := List.mem_iff_getElem?.1 hc
   exact (hpr.cx i c hi).en)
 clear h hpr hz hW hlen hd hdsg
 go_enter Tryz.func17, Tryz.ntmps17
 go_upto_region 1 with (fail)
 rw [HW.out]
 go_wp2_with (first
   | (refine wpl_load_all Tryz.plT rfl _ rfl _ rfl _ _ HP.out rfl ?_)
   | fail)
 refine (decidesD_any lo ⟨some ⟨gP, oP, none⟩, cn, cc, hA, hn, hc, ctxs, hours⟩ i z0 dial t _ (H0.out.grown HG.out gn_) HPR.out HZ0.out HD.out t0 t1).mono ?_
 rintro e w2 ⟨r0, hord0, _, _, rfl, hg2⟩
 dsimp only at hord0 ⊢
 obtain ⟨ck, cb0, hck⟩ := decOut_form (decD hours (nb dial) t (pickC ctxs r0))
 rw [hck, decD_some]
 obtain ⟨NW, hNW⟩ : ∃ NW, (pickC ctxs r0).any (noC hours (nb dial) t) = NW := ⟨_, rfl⟩
 rw [hNW]
 have HNW := Lib.hid hNW
 have HORD0 := Lib.hid hord0
 clear hck hNW hord0
 replace HP := Lib.hid (HP.out.grown hg2 (by simp))
 replace HG := Lib.hid (gr_none HG.out hg2)
 clear hg2
 go_wp2_with (first
   | (refine wpl_load_all Tryz.plT rfl _ rfl _ rfl _ _ HP.out rfl ?_)
   | fail)
 refine (orderOf_any lo ⟨some ⟨gP, oP, none⟩, cn, cc, hA, hn, hc, ctxs, hours⟩ i z0 _ (H0.out.grown HG.out gn_) HPR.out.mis HKY1.out HZ0.out hcn HEN.out).mono ?_
 rintro e w3 ⟨B, m, d, r, rfl, hob, hord, hnd, hbd, hm50, hg2⟩
 obtain rfl : r0 = r := HORD0.out.det hord
 obtain ⟨r, rfl⟩ : ∃ r : List Nat, r = r0 := ⟨_, rfl⟩
 have HORD := Lib.hid hord; have HND := Lib.hid hnd; have HBD := Lib.hid (show ∀ x ∈ r, x < ctxs.length from fun x hx => by rw [HLEN.out]; exact hbd x hx)
 have HOB := Lib.hid (hob.lower (show w.heap.size ≤ _ from HG.out.size))
 have hrl : r.length = m := by have := hob.2; rw [keys_len] at this; exact this
 obtain ⟨L, hL⟩ : ∃ L, pickC ctxs r = L := ⟨_, rfl⟩
 have HLL := Lib.hid hL
 have HLm := Lib.hid (show L.length = m by rw [← hL, pickC_len HBD.out, hrl])
 clear hob hord hnd hbd hrl hL
 replace HP := Lib.hid (HP.out.grown hg2 (by simp))
 replace HG := Lib.hid (gr_none HG.out hg2)
 clear hg2
 go_wp2_with fail
 go_loopw [13, 15, 17, 18, 19, 20, 21, 35] (fun v13 _ _ _ _ _ _ t35 wr => ∃ (k : Nat) (MO : Bool), k ≤ m ∧ t35 = .int .i64 k ∧ v13 = .bool MO ∧ w.grownBy wr none ∧ Blk wr w.heap.size 29 #[.slice (some ⟨gP, oP, none⟩) cn cc, .slice hA hn hc] ∧ OwnR srow 1 wr w.heap.size 9 B m d (keysOf ctxs r) ∧ MO = (L.take k).any (waC hours (nb dial) t)) (fun _ _ _ _ _ _ _ t35 _ => m - (intOf t35).toNat)
 case atStart => exact ⟨0, false, Nat.zero_le _, rfl, rfl, HG.out, HP.out, HOB.out, by simp⟩
 case round =>
   clear HG HP HOB
   obtain ⟨k, MO, hk, rfl, rfl, hg, hp, hob, hmo⟩ := hrel
   have HG := Lib.hid hg; have HP := Lib.hid hp; have HOB := Lib.hid hob; have HMO := Lib.hid hmo
   clear hg hp hob hmo
   by_cases hlt : k < m
   · have dkm : decide ((k : Int) < (m : Int)) = true := decide_eq_true (by omega)
     obtain ⟨gB, oB, s, hBA, _, hgB, hs, hcs⟩ := HOB.out.recs.get srow_len hlt
     subst hBA
     obtain ⟨q, ⟨ykey, yrA, yrn, yrc, yiA, yen, yic, yrules, yincs⟩, hq1, hq2, hq3⟩ := keys_get hs HBD.out
     subst hq3
     have ks := hcs 0 _ rfl
     simp only [Nat.mul_one, Nat.add_zero] at ks
     have hqn : q < cn := by rw [← HLEN.out]; exact (List.getElem?_eq_some_iff.1 hq2).1
     have hqn2 : (q : Int) < (cn : Int) := by omega
     have HQ2 := Lib.hid hq2
     have HLK := Lib.hid (pickC_get HBD.out hq1 hq2)
     have HKI := Lib.hid (cxIx_at HKY1.out hq2 rfl)
     have HCO := Lib.hid (H0.out.cok _ (mem_of_get hq2))
     have hcr := HPR.out.cx q _ hq2
     have hcrn : yrn ≤ 200 := hcr.rn
     have HRL := Lib.hid (show yrules.length = yrn from HCO.out.rules.len)
     have HRR := Lib.hid (show ∀ r ∈ yrules, RuRight hours r from cx_rules HCO.out.rules.len hcr)
     rw [HLL.out] at HLK
     clear hs hcs hq1 hgB hcr
     obtain ⟨g, o, y', hcA, _, hgl, hy', hcc⟩ := H0.out.ctxs.get CxV.row_len hqn
     dsimp only at hcA hy'
     obtain ⟨rfl, rfl⟩ : gP = g ∧ oP = o := by injection hcA with e; injection e with e1 e2; exact ⟨e1, e2⟩
     clear hy' hcc hq2 hgl hcA
     go_upto_region 6 with (fail)
     clear ks
     obtain ⟨wv, rfl⟩ : ∃ wv : World, wv = wr := ⟨_, rfl⟩
     refine H_begin (fun w' => wv.grownBy w' none) (by kernel_rfl) ?_
     have hHeld : wv.grownBy wv.drew none := gr_drew (gr_refl _ _)
     refine H_take (k := 0) (v := ?_) (by rfl) (by kernel_rfl) (by kernel_rfl) (by kernel_rfl) (by exact fun _ _ _ h => h) (by rfl) ?_ (by assumption) ?_
     rotate_left 1
     · intro w hSw
       (try dsimp only at hSw)
       go_simp
       (try with_reducible rfl)
     (try simp only [Act.put, l1_, l2_, l3_])
     refine H_take (k := 1) (v := ?_) (by rfl) (by kernel_rfl) (by kernel_rfl) (by kernel_rfl) (by exact fun _ _ _ h => h) (by rfl) ?_ hHeld ?_
     rotate_left 1
     · intro w' hSw
       have kc := (HP.out.grown hSw (by simp)).cell 0
       go_simp
       (try with_reducible rfl)
     (try simp only [Act.put, l1_, l2_, l3_])
     refine H_take (k := 2) (v := .agg #[.slice (some ⟨gP, oP, none⟩) cn cc, .slice hA hn hc]) (by rfl) (by kernel_rfl) (by kernel_rfl) (by kernel_rfl) (by exact fun _ _ _ h => h) (by rfl) (fun w' hSw => exec_load_blk' Tryz.plT _ rfl _ rfl 29 [.slice (some ⟨gP, oP, none⟩) cn cc, .slice hA hn hc] (HP.out.grown hSw (by simp)) rfl) hHeld ?_
     (try simp only [Act.put, l1_, l2_, l3_])
     refine H_take (k := 3) (v := ?_) (by rfl) (by kernel_rfl) (by kernel_rfl) (by kernel_rfl) (by exact fun _ _ _ h => h) (by rfl) ?_ (by assumption) ?_
     rotate_left 1
     · intro w hSw
       (try dsimp only at hSw)
       go_simp
       (try with_reducible rfl)
     (try simp only [Act.put, l1_, l2_, l3_])
     refine H_take (k := 9) (v := ?_) (by rfl) (by kernel_rfl) (by kernel_rfl) (by kernel_rfl) (by exact fun _ _ _ h => h) (by rfl) ?_ (by assumption) ?_
     rotate_left 1
     · intro w hSw
       (try dsimp only at hSw)
       go_simp
       (try with_reducible rfl)
     (try simp only [Act.put, l1_, l2_, l3_])
     refine H_run (k := 4) (by rfl) (by kernel_rfl) (by rfl) (fun K hK => ?_)
     go_simp
     refine (contextAtR_any lo ⟨some ⟨gP, oP, none⟩, cn, cc, hA, hn, hc, ctxs, hours⟩ ykey _ (H0.out.ctxs.grown (gr_drew HG.out) gn_) (by dsimp only; omega)).mono ?_
     rintro e w3 ⟨rfl, hg3'⟩
     dsimp only
     rw [HKI.out]
     have hg3 := gr_none (gr_drew (gr_refl wv none)) hg3'
     refine hK _ _ hg3 ?_
     clear hK K hHeld hg3'
     have hHeld := hg3
     refine H_take (k := 5) (v := ?_) (by rfl) (by kernel_rfl) (by kernel_rfl) (by kernel_rfl) (by exact fun _ _ _ h => h) (by rfl) ?_ (by assumption) ?_
     rotate_left 1
     · intro w hSw
       (try dsimp only at hSw)
       go_simp
       (try with_reducible rfl)
     (try simp only [Act.put, l1_, l2_, l3_])
     refine H_take (k := 6) (v := ?_) (by rfl) (by kernel_rfl) (by kernel_rfl) (by kernel_rfl) (by exact fun _ _ _ h => h) (by rfl) ?_ (by assumption) ?_
     rotate_left 1
     · intro w hSw
       (try dsimp only at hSw)
       go_simp
       (try with_reducible rfl)
     (try simp only [Act.put, l1_, l2_, l3_])
     refine H_take (k := 7) (v := ?_) (by rfl) (by kernel_rfl) (by kernel_rfl) (by kernel_rfl) (by exact fun _ _ _ h => h) (by rfl) ?_ hHeld ?_
     rotate_left 1
     · intro w' hSw
       have kc := (H0.out.ctxs.grown (gr_none HG.out hSw) gn_).at_ CxV.row_len HQ2.out 1 _ rfl
       go_simp
       (try with_reducible rfl)
     (try simp only [Act.put, l1_, l2_, l3_])
     refine H_take (k := 8) (v := ?_) (by rfl) (by kernel_rfl) (by kernel_rfl) (by kernel_rfl) (by exact fun _ _ _ h => h) (by rfl) ?_ (by assumption) ?_
     rotate_left 1
     · intro w hSw
       (try dsimp only at hSw)
       go_simp
       (try with_reducible rfl)
     (try simp only [Act.put, l1_, l2_, l3_])
     refine H_done (by kernel_rfl) ?_
     clear hHeld
     replace HG := Lib.hid (gr_none HG.out hg3)
     replace HP := Lib.hid (HP.out.grown hg3 (by simp))
     replace HOB := Lib.hid (HOB.out.low hg3 gn_)
     clear hg3
     go_wp2_with fail
     go_loopw [13, 17, 18, 19, 20, 21, 48] (fun v13 _ _ _ _ _ t48 wr => ∃ (j : Nat) (MO : Bool), j ≤ yrn ∧ t48 = .int .i64 j ∧ v13 = .bool MO ∧ w.grownBy wr none ∧ Blk wr w.heap.size 29 #[.slice (some ⟨gP, oP, none⟩) cn cc, .slice hA hn hc] ∧ OwnR srow 1 wr w.heap.size 9 (some ⟨gB, oB, none⟩) m d (keysOf ctxs r) ∧ MO = ((L.take k).any (waC hours (nb dial) t) || (yrules.take j).any (waitB hours (nb dial) t))) (fun _ _ _ _ _ _ t48 _ => yrn - (intOf t48).toNat)
     case atStart => exact ⟨0, MO, Nat.zero_le _, rfl, rfl, HG.out, HP.out, HOB.out, by rw [HMO.out]; simp⟩
     case round =>
       clear HG HP HOB HMO
       obtain ⟨MO0, hMO0⟩ : ∃ b : Bool, b = MO := ⟨_, rfl⟩
       clear hMO0
       obtain ⟨j, MO, hj, rfl, rfl, hg, hp, hob, hmo⟩ := hrel
       have HG := Lib.hid hg; have HP := Lib.hid hp; have HOB := Lib.hid hob; have HMO := Lib.hid hmo
       clear hg hp hob hmo
       by_cases hjl : j < yrn
       · have djr : decide ((j : Int) < (yrn : Int)) = true := decide_eq_true (by omega)
         have hcoR := H0.out.cok _ (mem_of_get HQ2.out)
         have hrls := hcoR.rules.grown HG.out gn_
         dsimp only at hrls
         obtain ⟨g1, o1, r1, hrA, _, hgl1, hr1, hcc1⟩ := hrls.get RuV.row_len hjl
         subst hrA
         have hru1 := HRR.out r1 (mem_of_get hr1)
         obtain ⟨x1, hx1⟩ := hru1.pat
         have HPX1 := Lib.hid hx1
         have HRS1 := Lib.hid (ruS_some hx1)
         have HRG1 := Lib.hid hr1
         have HRC1 := Lib.hid hcc1
         clear hr1 hcc1 hgl1 hx1 hru1 hcoR hrls
         obtain ⟨wa1, hwa⟩ : ∃ wa, wr.alloc (.cells #[.string r1.pat, .int .i64 r1.strip, .string r1.pre, .int .i64 r1.to_, .string r1.nam, .string r1.hrs] 73) = wa := ⟨_, rfl⟩
         obtain ⟨rb1, hrb⟩ : ∃ rb, wr.heap.size = rb := ⟨_, rfl⟩
         have HRB1 := Lib.hid (show Blk wa1 rb1 73 #[.string r1.pat, .int .i64 r1.strip, .string r1.pre, .int .i64 r1.to_, .string r1.nam, .string r1.hrs] by rw [← hwa, ← hrb]; exact Blk.new _ _ _)
         have hga : wr.grownBy wa1 none := by rw [← hwa]; exact gr_alloc (gr_refl _ _) _
         have HWA := Lib.hid hwa; have HRBB := Lib.hid hrb; clear hwa hrb
         go_upto_region 9 with (first
           | (refine wpl_load_at Tryz.ruT rfl _ rfl _ rfl [.string r1.pat, .int .i64 r1.strip, .string r1.pre, .int .i64 r1.to_, .string r1.nam, .string r1.hrs] rfl (fun j u hu => by rw [add_mk]; exact HRC1.out j u hu) ?_)
           | fail)
         rw [HWA.out]
         (try rw [HRBB.out])
         clear HWA HRC1 HRBB
         replace HG := Lib.hid (gr_none HG.out hga)
         replace HP := Lib.hid (HP.out.grown hga (by simp))
         replace HOB := Lib.hid (HOB.out.low hga gn_)
         clear hga
         have hru := HRR.out r1 (mem_of_get HRG1.out)
         have HHK := Lib.hid hru.hrs
         have HRX := Lib.hid (patX_right HPX1.out)
         clear hru
         have kr0 := HRB1.out.cell 0
         go_wp2_with fail
         refine (shape_ok r1.pat x1 _ HPX1.out).mono ?_
         rintro e w5 ⟨v5, rfl, ⟨sA, sn, sc, rfl, hst, hsn⟩, hg5⟩
         have HSN := Lib.hid hst.len
         replace HRB1 := Lib.hid (HRB1.out.grown hg5 (by simp))
         replace HG := Lib.hid (gr_none HG.out hg5)
         replace HP := Lib.hid (HP.out.grown hg5 (by simp))
         replace HOB := Lib.hid (HOB.out.low hg5 gn_)
         clear hg5 kr0
         obtain ⟨wx, hwx⟩ : ∃ wx, w5.alloc (.cells #[.slice sA sn sc, .int .u8 x1.2] 109) = wx := ⟨_, rfl⟩
         obtain ⟨xb, hxb⟩ : ∃ xb, w5.heap.size = xb := ⟨_, rfl⟩
         have HSB := Lib.hid (show Blk wx xb 109 #[.slice sA sn sc, .int .u8 x1.2] by rw [← hwx, ← hxb]; exact Blk.new _ _ _)
         have hgx : w5.grownBy wx none := by rw [← hwx]; exact gr_alloc (gr_refl _ _) _
         have HST := Lib.hid (show Strs wx 0 sA sn sc x1.1 from (Reads.lower hst (Nat.zero_le _)).grown hgx gn_)
         have HWX := Lib.hid hwx; have HXB := Lib.hid hxb
         clear hwx hxb hst
         go_upto_region 10 with (fail)
         rw [HWX.out]
         (try rw [HXB.out])
         clear HWX HXB
         replace HRB1 := Lib.hid (HRB1.out.grown hgx (by simp))
         replace HG := Lib.hid (gr_none HG.out hgx)
         replace HP := Lib.hid (HP.out.grown hgx (by simp))
         replace HOB := Lib.hid (HOB.out.low hgx gn_)
         clear hgx
         obtain ⟨C, hC⟩ : ∃ C, cntB hours r1.hrs t = C := ⟨_, rfl⟩
         have HC := Lib.hid hC
         have HW1 := Lib.hid (show waitB hours (nb dial) t r1 = ((C && fitsL x1 (nb dial) dial.size) && decide (dial.size < 30) && (decide (dial.size < sn) || x1.2 != 0)) by
           unfold waitB
           rw [hC, HRS1.out, longB_doc HRX.out (patX_nz HPX1.out) HSG.out, nb_len, HSN.out]
           simp only [Bool.and_assoc])
         clear hC
         have kr5 := HRB1.out.cell 5
         go_wp2_with (first
           | (refine wpl_load_all Tryz.plT rfl _ rfl _ rfl _ _ HP.out rfl ?_)
           | fail)
         clear kr5
         refine (countsR_any lo ⟨some ⟨gP, oP, none⟩, cn, cc, hA, hn, hc, ctxs, hours⟩ r1.hrs t _ (H0.out.grown HG.out gn_) HHR.out HHK.out t0 t1).mono ?_
         rintro e w6 ⟨rfl, hg6⟩
         dsimp only
         rw [HC.out]
         replace HSB := Lib.hid (HSB.out.grown hg6 (by simp))
         replace HST := Lib.hid (HST.out.grown hg6 gn_)
         replace HG := Lib.hid (gr_none HG.out hg6)
         replace HP := Lib.hid (HP.out.grown hg6 (by simp))
         replace HOB := Lib.hid (HOB.out.low hg6 gn_)
         clear hg6
         obtain ⟨wl, rfl⟩ : ∃ wl : World, wl = w6 := ⟨_, rfl⟩
         go_wp2_with fail
         go_loopw [20, 21, 65] (fun v20 _ t65 wr => ∃ (q : Nat) (F : Bool), q ≤ dial.size ∧ t65 = .int .i64 q ∧ v20 = .bool F ∧ wl.grownBy wr none ∧ F = (C && fitsL x1 (nb dial) q)) (fun _ _ t65 _ => dial.size - (intOf t65).toNat)
         case atStart => exact ⟨0, C, Nat.zero_le _, rfl, rfl, gr_refl _ _, by unfold fitsL; rw [Bool.and_true]⟩
         case round =>
           obtain ⟨q, F, hq, rfl, rfl, hgl, hf⟩ := hrel
           have HGL := Lib.hid hgl; have HF := Lib.hid hf
           clear hgl hf
           by_cases hql : q < dial.size
           · have dq : decide ((q : Int) < (dial.size : Int)) = true := decide_eq_true (by omega)
             have dq' : decide (q < dial.size) = true := decide_eq_true hql
             cases F
             · go_upto_region 14 with (fail)
               clear dq dq'
               refine H_begin (fun w' => wl.grownBy w' none) (by kernel_rfl) ?_
               have hHeld : wl.grownBy wr.drew none := gr_drew HGL.out
               refine H_take (k := 0) (v := ?_) (by rfl) (by kernel_rfl) (by kernel_rfl) (by kernel_rfl) (by exact fun _ _ _ h => h) (by rfl) ?_ (by assumption) ?_
               rotate_left 1
               · intro w hSw
                 (try dsimp only at hSw)
                 go_simp
                 (try with_reducible rfl)
               (try simp only [Act.put, l1_, l2_, l3_])
               refine H_take (k := 1) (v := ?_) (by rfl) (by kernel_rfl) (by kernel_rfl) (by kernel_rfl) (by exact fun _ _ _ h => h) (by rfl) ?_ (by assumption) ?_
               rotate_left 1
               · intro w hSw
                 (try dsimp only at hSw)
                 go_simp
                 (try with_reducible rfl)
               (try simp only [Act.put, l1_, l2_, l3_])
               refine H_skip (k := 2) (by rfl) (by kernel_rfl) (by kernel_rfl) (by kernel_rfl) (by exact fun _ _ _ h => h) (by rfl) (by assumption) ?_
               (try simp only [Act.put, l1_, l2_, l3_])
               refine H_skip (k := 3) (by rfl) (by kernel_rfl) (by kernel_rfl) (by kernel_rfl) (by exact fun _ _ _ h => h) (by rfl) (by assumption) ?_
               (try simp only [Act.put, l1_, l2_, l3_])
               refine H_skip (k := 4) (by rfl) (by kernel_rfl) (by kernel_rfl) (by kernel_rfl) (by exact fun _ _ _ h => h) (by rfl) (by assumption) ?_
               (try simp only [Act.put, l1_, l2_, l3_])
               refine H_skip (k := 5) (by rfl) (by kernel_rfl) (by kernel_rfl) (by kernel_rfl) (by exact fun _ _ _ h => h) (by rfl) (by assumption) ?_
               (try simp only [Act.put, l1_, l2_, l3_])
               refine H_skip (k := 6) (by rfl) (by kernel_rfl) (by kernel_rfl) (by kernel_rfl) (by exact fun _ _ _ h => h) (by rfl) (by assumption) ?_
               (try simp only [Act.put, l1_, l2_, l3_])
               refine H_skip (k := 7) (by rfl) (by kernel_rfl) (by kernel_rfl) (by kernel_rfl) (by exact fun _ _ _ h => h) (by rfl) (by assumption) ?_
               (try simp only [Act.put, l1_, l2_, l3_])
               refine H_skip (k := 8) (by rfl) (by kernel_rfl) (by kernel_rfl) (by kernel_rfl) (by exact fun _ _ _ h => h) (by rfl) (by assumption) ?_
               (try simp only [Act.put, l1_, l2_, l3_])
               refine H_skip (k := 9) (by rfl) (by kernel_rfl) (by kernel_rfl) (by kernel_rfl) (by exact fun _ _ _ h => h) (by rfl) (by assumption) ?_
               (try simp only [Act.put, l1_, l2_, l3_])
               refine H_take (k := 10) (v := ?_) (by rfl) (by kernel_rfl) (by kernel_rfl) (by kernel_rfl) (by exact fun _ _ _ h => h) (by rfl) ?_ (by assumption) ?_
               rotate_left 1
               · intro w hSw
                 (try dsimp only at hSw)
                 go_simp
                 (try with_reducible rfl)
               (try simp only [Act.put, l1_, l2_, l3_])
               refine H_take (k := 11) (v := ?_) (by rfl) (by kernel_rfl) (by kernel_rfl) (by kernel_rfl) (by exact fun _ _ _ h => h) (by rfl) ?_ (by assumption) ?_
               rotate_left 1
               · intro w hSw
                 (try dsimp only at hSw)
                 go_simp
                 (try with_reducible rfl)
               (try simp only [Act.put, l1_, l2_, l3_])
               refine H_done (by kernel_rfl) ?_
               go_wp2_with fail
               go_roundw
               case rel => exact ⟨q + 1, false, by omega, by go_num, rfl, hHeld, by unfold fitsL; rw [← Bool.and_assoc, ← HF.out]; rfl⟩
               case measure => simp [intOf]; omega
             · obtain ⟨cq, hcq⟩ : ∃ cq, dial[q].toNat = cq := ⟨_, rfl⟩
               have q256 : cq < 256 := by rw [← hcq]; exact UInt8.toNat_lt _
               have HQ := Lib.hid (show (nb dial).getD q 0 = cq by rw [← nb_get hql, hcq])
               obtain ⟨bs, hbs⟩ : ∃ bs, strN (setAtL x1 q) = bs := ⟨_, rfl⟩
               have HBS := Lib.hid hbs
               have HNB := Lib.hid (show nb bs = setAtL x1 q by rw [← hbs]; exact nb_strN (setAt_bd _ _).2)
               obtain ⟨z, hz⟩ : ∃ z, idxL (setAtL x1 q) cq = z := ⟨_, rfl⟩
               have HZ := Lib.hid hz
               have HN := Lib.hid (show (C && fitsL x1 (nb dial) (q + 1)) = decide (0 ≤ z) by
                 unfold fitsL
                 rw [← Bool.and_assoc, ← HF.out, HQ.out, ← hz, Bool.true_and]
                 exact decide_eq_decide.2 idx_mem.1.symm)
               clear hbs hz
               go_upto_region 14 with (fail)
               clear dq dq'
               refine H_begin (fun w' => wl.grownBy w' none) (by kernel_rfl) ?_
               have hHeld : wl.grownBy wr.drew none := gr_drew HGL.out
               refine H_take (k := 0) (v := ?_) (by rfl) (by kernel_rfl) (by kernel_rfl) (by kernel_rfl) (by exact fun _ _ _ h => h) (by rfl) ?_ (by assumption) ?_
               rotate_left 1
               · intro w hSw
                 (try dsimp only at hSw)
                 go_simp
                 (try with_reducible rfl)
               (try simp only [Act.put, l1_, l2_, l3_])
               refine H_take (k := 1) (v := ?_) (by rfl) (by kernel_rfl) (by kernel_rfl) (by kernel_rfl) (by exact fun _ _ _ h => h) (by rfl) ?_ (by assumption) ?_
               rotate_left 1
               · intro w hSw
                 (try dsimp only at hSw)
                 go_simp
                 (try with_reducible rfl)
               (try simp only [Act.put, l1_, l2_, l3_])
               refine H_take (k := 2) (v := .agg #[.slice sA sn sc, .int .u8 x1.2]) (by rfl) (by kernel_rfl) (by kernel_rfl) (by kernel_rfl) (by exact fun _ _ _ h => h) (by rfl) (fun w' hSw => exec_load_blk' Tryz.shT2 _ rfl _ rfl 109 [.slice sA sn sc, .int .u8 x1.2] (HSB.out.grown hSw (by simp)) rfl) hHeld ?_
               (try simp only [Act.put, l1_, l2_, l3_])
               refine H_take (k := 3) (v := ?_) (by rfl) (by kernel_rfl) (by kernel_rfl) (by kernel_rfl) (by exact fun _ _ _ h => h) (by rfl) ?_ (by assumption) ?_
               rotate_left 1
               · intro w hSw
                 (try dsimp only at hSw)
                 go_simp
                 (try with_reducible rfl)
               (try simp only [Act.put, l1_, l2_, l3_])
               refine H_take (k := 5) (v := ?_) (by rfl) (by kernel_rfl) (by kernel_rfl) (by kernel_rfl) (by exact fun _ _ _ h => h) (by rfl) ?_ (by assumption) ?_
               rotate_left 1
               · intro w hSw
                 (try dsimp only at hSw)
                 go_simp
                 (try with_reducible rfl)
               (try simp only [Act.put, l1_, l2_, l3_])
               refine H_take (k := 6) (v := ?_) (by rfl) (by kernel_rfl) (by kernel_rfl) (by kernel_rfl) (by exact fun _ _ _ h => h) (by rfl) ?_ (by assumption) ?_
               rotate_left 1
               · intro w hSw
                 (try dsimp only at hSw)
                 go_simp
                 (try with_reducible rfl)
               (try simp only [Act.put, l1_, l2_, l3_])
               refine H_take (k := 7) (v := .int .u8 (cq : Int)) (by rfl) (by kernel_rfl) (by kernel_rfl) (by kernel_rfl) (by exact fun _ _ _ h => h) (by rfl) (fun w' hSw => by
                    go_simp
                    (try with_reducible rfl)) hHeld ?_
               (try simp only [Act.put, l1_, l2_, l3_])
               clear hcq
               refine H_run (k := 4) (by rfl) (by kernel_rfl) (by rfl) (fun K hK => ?_)
               go_simp
               refine (setAt_any sA sn sc q x1 _ (HST.out.grown hHeld gn_) (by omega) hsn).mono ?_
               rintro e w7 ⟨rfl, hg7'⟩
               rw [HBS.out]
               have hg7 := gr_none hHeld hg7'
               refine hK _ _ hg7 ?_
               clear hK K hHeld hg7'
               have hHeld := hg7
               clear hg7
               refine H_run (k := 8) (by rfl) (by kernel_rfl) (by rfl) (fun K hK => ?_)
               go_simp
               refine same_calls (indexByteN bs cq _ q256) ?_
               rw [HNB.out, HZ.out]
               refine hK _ _ hHeld ?_
               clear hK K
               refine H_take (k := 9) (v := ?_) (by rfl) (by kernel_rfl) (by kernel_rfl) (by kernel_rfl) (by exact fun _ _ _ h => h) (by rfl) ?_ (by assumption) ?_
               rotate_left 1
               · intro w hSw
                 (try dsimp only at hSw)
                 go_simp
                 (try with_reducible rfl)
               (try simp only [Act.put, l1_, l2_, l3_])
               refine H_take (k := 10) (v := ?_) (by rfl) (by kernel_rfl) (by kernel_rfl) (by kernel_rfl) (by exact fun _ _ _ h => h) (by rfl) ?_ (by assumption) ?_
               rotate_left 1
               · intro w hSw
                 (try dsimp only at hSw)
                 go_simp
                 (try with_reducible rfl)
               (try simp only [Act.put, l1_, l2_, l3_])
               refine H_take (k := 11) (v := ?_) (by rfl) (by kernel_rfl) (by kernel_rfl) (by kernel_rfl) (by exact fun _ _ _ h => h) (by rfl) ?_ (by assumption) ?_
               rotate_left 1
               · intro w hSw
                 (try dsimp only at hSw)
                 go_simp
                 (try with_reducible rfl)
               (try simp only [Act.put, l1_, l2_, l3_])
               refine H_done (by kernel_rfl) ?_
               go_wp2_with fail
               go_roundw
               case rel => exact ⟨q + 1, _, by omega, by go_num, rfl, hHeld, by rw [HN.out]⟩
               case measure => simp [intOf]; omega
           · have hqe : q = dial.size := by omega
             have dq : decide ((q : Int) < (dial.size : Int)) = false := decide_eq_false (by omega)
             have HF2 := Lib.hid (show F = (C && fitsL x1 (nb dial) dial.size) by rw [← hqe]; exact HF.out)
             have HNEW := Lib.hid (show ((L.take k).any (waC hours (nb dial) t) || (yrules.take (j + 1)).any (waitB hours (nb dial) t)) = (MO || (F && decide (dial.size < 30) && (decide (dial.size < sn) || x1.2 != 0))) by
               rw [any_take_succ HRG1.out, ← Bool.or_assoc, ← HMO.out, HW1.out, HF2.out])
             replace HG := Lib.hid (gr_none HG.out HGL.out)
             replace HP := Lib.hid (HP.out.grown HGL.out (by simp))
             replace HOB := Lib.hid (HOB.out.low HGL.out gn_)
             replace HSB := Lib.hid (HSB.out.grown HGL.out (by simp))
             clear hqe
             have kS0 := HSB.out.cell 0
             have kS1 := HSB.out.cell 1
             cases MO
             · cases F
               · go_wp2_with fail
                 go_roundw
                 case rel => exact ⟨j + 1, _, by omega, by go_num, rfl, HG.out, HP.out, HOB.out, by rw [HNEW.out]; rfl⟩
                 case measure => simp [intOf]; omega
               · by_cases h30 : dial.size < 30
                 · have d30 : decide ((dial.size : Int) < 30) = true := decide_eq_true (by omega)
                   have d30' : decide (dial.size < 30) = true := decide_eq_true h30
                   by_cases hls : dial.size < sn
                   · have dls : decide ((dial.size : Int) < (sn : Int)) = true := decide_eq_true (by omega)
                     have dls' : decide (dial.size < sn) = true := decide_eq_true hls
                     have HR := Lib.hid (show (true && decide (dial.size < 30) && (decide (dial.size < sn) || x1.2 != 0)) = true by rw [d30', dls']; rfl)
                     go_wp2_with fail
                     go_roundw
                     case rel => exact ⟨j + 1, _, by omega, by go_num, rfl, HG.out, HP.out, HOB.out, by rw [HNEW.out, HR.out]; rfl⟩
                     case measure => simp [intOf]; omega
                   · have dls : decide ((dial.size : Int) < (sn : Int)) = false := decide_eq_false (by omega)
                     have dls' : decide (dial.size < sn) = false := decide_eq_false hls
                     obtain ⟨Z, hZ⟩ : ∃ Z, (x1.2 != 0) = Z := ⟨_, rfl⟩
                     have hZ2 : ((x1.2 : Int) != 0) = Z := by rw [← hZ, Bool.eq_iff_iff, bne_iff_ne, bne_iff_ne]; omega
                     have HR := Lib.hid (show (true && decide (dial.size < 30) && (decide (dial.size < sn) || x1.2 != 0)) = Z by rw [d30', dls', hZ]; simp)
                     clear hZ
                     cases Z
                     · go_wp2_with fail
                       go_roundw
                       case rel => exact ⟨j + 1, _, by omega, by go_num, rfl, HG.out, HP.out, HOB.out, by rw [HNEW.out, HR.out]; rfl⟩
                       case measure => simp [intOf]; omega
                     · go_wp2_with fail
                       go_roundw
                       case rel => exact ⟨j + 1, _, by omega, by go_num, rfl, HG.out, HP.out, HOB.out, by rw [HNEW.out, HR.out]; rfl⟩
                       case measure => simp [intOf]; omega
                 · have d30 : decide ((dial.size : Int) < 30) = false := decide_eq_false (by omega)
                   have d30' : decide (dial.size < 30) = false := decide_eq_false h30
                   have HR := Lib.hid (show (true && decide (dial.size < 30) && (decide (dial.size < sn) || x1.2 != 0)) = false by rw [d30']; rfl)
                   go_wp2_with fail
                   go_roundw
                   case rel => exact ⟨j + 1, _, by omega, by go_num, rfl, HG.out, HP.out, HOB.out, by rw [HNEW.out, HR.out]; rfl⟩
                   case measure => simp [intOf]; omega
             · go_wp2_with fail
               go_roundw
               case rel => exact ⟨j + 1, _, by omega, by go_num, rfl, HG.out, HP.out, HOB.out, by rw [HNEW.out]; rfl⟩
               case measure => simp [intOf]; omega
       · have hjc : j = yrn := by omega
         have djr : decide ((j : Int) < (yrn : Int)) = false := decide_eq_false (by omega)
         have HSF := Lib.hid (show MO = (L.take (k + 1)).any (waC hours (nb dial) t) by
           rw [any_take_succ HLK.out, HMO.out, hjc, any_take_all (l := yrules) (by rw [HRL.out]; exact Nat.le_refl _)]; rfl)
         clear hjc
         go_wp2_with fail
         go_roundw
         case rel => exact ⟨k + 1, MO, by omega, by go_num, rfl, HG.out, HP.out, HOB.out, HSF.out⟩
         case measure => simp [intOf]; omega
   · have hkm : k = m := by omega
     have dkm : decide ((k : Int) < (m : Int)) = false := decide_eq_false (by omega)
     have HV := Lib.hid (show MO = L.any (waC hours (nb dial) t) by rw [HMO.out, any_take_all (by rw [HLm.out]; omega)])
     clear hkm
     go_wp2_with fail
     go_ret2
     exact ⟨r, HORD.out, HND.out, HBD.out, by dsimp only; rw [HNW.out, HLL.out, ← HV.out]; rfl, HG.out⟩
end Go.Proofs.YteppdabhloieaaaGreatDoor

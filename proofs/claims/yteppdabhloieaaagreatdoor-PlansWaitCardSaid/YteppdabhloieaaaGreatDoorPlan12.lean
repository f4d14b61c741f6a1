/- Contracts of the document's decides and DecideOf. Conditions: a plan, a context, a string and a moment that are right. -/
import Derived.Test.YteppdabhloieaaaGreatDoorPlan5
import Derived.Test.YteppdabhloieaaaGreatDoorBun10
import Derived.Test.YteppdabhloieaaaGreatDoorBun6
import Derived.Test.YteppdabhloieaaaGreatDoorBun8
namespace Go.Proofs.YteppdabhloieaaaGreatDoor
open Go.RowKit
theorem H_run2 {P : Program} {ls : List Oper} {md : Region.Mode} {Q : Exit → Act → World → Prop} {S : World → Prop} {fuel k1 k2 : Nat} {listed : Array Bool} {o1 o2 : Oper} {a : Act} {w : World} (ho1 : opAt ls k1 = some o1) (ho2 : opAt ls k2 = some o2) (hr : Region.ready md ls.toArray listed = [k1, k2]) (hw1 : Region.wanted o1 (yielded ls.toArray a.tmps) = true) (hw2 : Region.wanted o2 (yielded ls.toArray a.tmps) = true)
   (h1 : ∀ K : Act → World → Prop, (∀ a' w', S w' → wpAnyH P md ls.toArray Q S fuel (listed.setIfInBounds k1 true) a' w' → K a' w') → o1.wp P a w K Q)
   (h2 : ∀ K : Act → World → Prop, (∀ a' w', S w' → wpAnyH P md ls.toArray Q S fuel (listed.setIfInBounds k2 true) a' w' → K a' w') → o2.wp P a w K Q) : wpAnyH P md ls.toArray Q S (fuel + 1) listed a w := by
 refine ⟨fun h => (by rw [hr] at h; cases h), fun i hi => ?_⟩
 rw [hr] at hi
 have hik : i = k1 ∨ i = k2 := by simpa using hi
 rcases hik with rfl | rfl
 · rw [opAt_eq] at ho1
   unfold wpOp
   simp only [ho1, hw1, if_true]
   exact .inl (h1 _ fun a' w' hs h => ⟨hs, h⟩)
 · rw [opAt_eq] at ho2
   unfold wpOp
   simp only [ho2, hw2, if_true]
   exact .inl (h2 _ fun a' w' hs h => ⟨hs, h⟩)
def decOut (o : Option (CxV × Nat)) : Value := o.elim (.tuple #[.string ⟨#[]⟩, .int .i64 0, .bool false]) fun cb => .tuple #[.string cb.1.key, .int .i64 cb.2, .bool true]
def DecDV (p : PlV) (i : Nat) (dial : ByteArray) (t : Int) (w : World) (e : Ending) (w' : World) : Prop :=
 ∃ r : List Nat, Ord (incIx p.ctxs) [i] [] r ∧ r.Nodup ∧ (∀ x ∈ r, x < p.ctxs.length) ∧ e = .returned (decOut (decD p.hours (nb dial) t (pickC p.ctxs r))) ∧ w.grownBy w' none
theorem pickC_get {l : List CxV} {r : List Nat} {k q : Nat} {y : CxV} (hb : ∀ x ∈ r, x < l.length) (hq : r[k]? = some q) (hy : l[q]? = some y) : (pickC l r)[k]? = some y := by
 have h1 : r = r.take k ++ q :: r.drop (k + 1) := by rw [← drop_get hq, List.take_append_drop]
 have h2 : (pickC l (r.take k)).length = k := by
   rw [pickC_len (fun x hx => hb x (List.mem_of_mem_take hx)), List.length_take]
   have := (List.getElem?_eq_some_iff.1 hq).1
   omega
 have h3 : pickC l r = pickC l (r.take k) ++ y :: pickC l (r.drop (k + 1)) := by
   conv => lhs; rw [h1]
   unfold pickC
   rw [List.filterMap_append, List.filterMap_cons, hy]
 rw [h3, List.getElem?_append_right (by omega), h2, Nat.sub_self]; rfl
set_option maxHeartbeats 16000000 in
set_option maxRecDepth 100000 in
theorem decidesD_any (lo : Nat) (p : PlV) (i : Nat) (z0 : CxV) (dial : ByteArray) (t : Int) (w : World) (h : PlOk w lo p) (hpr : PlRight p) (hz : p.ctxs[i]? = some z0) (hd : dialOk (nb dial) = true) (t0 : -1 ≤ t) (t1 : t ≤ 345686400000) :
   Calls Tryz.prog 65 #[.agg #[.slice p.cA p.cn p.cc, .slice p.hA p.hn p.hc], .string z0.key, .string dial, .int .i64 t] w (DecDV p i dial t w) := by
 obtain ⟨cA, cn, cc, hA, hn, hc, ctxs, hours⟩ := p
 have hcn : cn ≤ 50 := hpr.cn
 have hlen := h.ctxs.len
 have hd30 : dial.size ≤ 30 := by
   have hb := hd
   unfold dialOk at hb
   simp only [Bool.and_eq_true, decide_eq_true_eq] at hb
   rw [← nb_len]; exact hb.1.2
 dsimp only at hlen hz ⊢
 obtain ⟨W1, hW⟩ : ∃ W1, w.alloc (.cells #[.slice cA cn cc, .slice hA hn hc] 29) = W1 := ⟨_, rfl⟩
 have HP := Lib.hid (show Blk W1 w.heap.size 29 #[.slice cA cn cc, .slice hA hn hc] by rw [← hW]; exact Blk.new _ _ _)
 have HG := Lib.hid (show w.grownBy W1 none by rw [← hW]; exact gr_alloc (gr_refl _ _) _)
 have HW := Lib.hid hW
 have HLEN := Lib.hid hlen
 have H0 := Lib.hid h
 have HPR := Lib.hid hpr
 have HKY1 := Lib.hid (show Keyed1 ctxs from keyed_of (by rw [hlen]; exact hpr.cxs))
 have HHR := Lib.hid (show ∀ a ∈ hours, HrRight a from fun a ha => right_of (h.hours.2 a ha).2.1.len (h.hours.2 a ha).2.2.len (hpr.hours a ha))
 have HZ0 := Lib.hid hz
 have HEN := Lib.hid (show ∀ c ∈ ctxs, c.en ≤ 10 from fun c hc => by
   obtain ⟨i, hi⟩ := List.mem_iff_getElem?.1 hc
   exact (hpr.cx i c hi).en)
 clear h hpr hz hW hlen hd
 go_enter Tryz.func65, Tryz.ntmps65
 go_upto_region 1 with (fail)
 rw [HW.out]
 go_wp2_with (first
   | (refine wpl_load_all Tryz.plT rfl _ rfl _ rfl _ _ HP.out rfl ?_)
   | fail)
 refine (orderOf_any lo ⟨cA, cn, cc, hA, hn, hc, ctxs, hours⟩ i z0 _ (H0.out.grown HG.out gn_) HPR.out.mis HKY1.out HZ0.out hcn HEN.out).mono ?_
 rintro e w2 ⟨B, m, d, r, rfl, hob, hord, hnd, hbd, hm50, hg2⟩
 have HORD := Lib.hid hord; have HND := Lib.hid hnd; have HBD := Lib.hid (show ∀ x ∈ r, x < ctxs.length from fun x hx => by rw [HLEN.out]; exact hbd x hx)
 have HOB := Lib.hid (hob.lower (show w.heap.size ≤ W1.heap.size from HG.out.size))
 have hrl : r.length = m := by have := hob.2; rw [keys_len] at this; exact this
 have HRL := Lib.hid hrl
 clear hob hord hnd hbd hrl
 replace HP := Lib.hid (HP.out.grown hg2 (by simp))
 replace HG := Lib.hid (gr_none HG.out hg2)
 clear hg2
 go_wp2_with fail
 go_loopw [12, 13, 14, 15, 16, 21] (fun _ _ _ _ _ t21 wr => ∃ k : Nat, k ≤ m ∧ t21 = .int .i64 k ∧ w.grownBy wr none ∧ Blk wr w.heap.size 29 #[.slice cA cn cc, .slice hA hn hc] ∧ OwnR srow 1 wr w.heap.size 9 B m d (keysOf ctxs r) ∧ decD hours (nb dial) t (pickC ctxs r) = decD hours (nb dial) t ((pickC ctxs r).drop k)) (fun _ _ _ _ _ t21 _ => m - (intOf t21).toNat)
 case atStart => exact ⟨0, Nat.zero_le _, rfl, HG.out, HP.out, HOB.out, rfl⟩
 case round =>
   clear HG HP HOB
   obtain ⟨k, hk, rfl, hg, hp, hob, hdd⟩ := hrel
   have HG := Lib.hid hg; have HP := Lib.hid hp; have HOB := Lib.hid hob; have HDD := Lib.hid hdd
   clear hg hp hob hdd
   by_cases hlt : k < m
   · obtain ⟨gB, oB, s, hBA, _, hgB, hs, hcs⟩ := HOB.out.recs.get srow_len hlt
     subst hBA
     obtain ⟨q, y, hq1, hq2, hq3⟩ := keys_get hs HBD.out
     subst hq3
     have ks := hcs 0 _ rfl
     simp only [Nat.mul_one, Nat.add_zero] at ks
     have hqn : q < cn := by rw [← HLEN.out]; exact (List.getElem?_eq_some_iff.1 hq2).1
     have hqn2 : (q : Int) < (cn : Int) := by omega
     have HQ2 := Lib.hid hq2
     have HPK := Lib.hid (pickC_get HBD.out hq1 hq2)
     have HKI := Lib.hid (cxIx_at HKY1.out hq2 rfl)
     have HCO := Lib.hid (H0.out.cok y (mem_of_get hq2))
     have HCR := Lib.hid (show CxRight hours y from HPR.out.cx q y hq2)
     have hrn : y.rn ≤ 1000000 := HCO.out.rn
     clear hs hcs hq1 hgB
     obtain ⟨g, o, y', hcA, _, hgl, hy', hcc⟩ := H0.out.ctxs.get CxV.row_len hqn
     dsimp only at hcA hy'
     obtain rfl : y = y' := by rw [hq2] at hy'; injection hy'
     subst hcA
     clear hy' hcc hq2 hgl
     go_upto_region 4 with (fail)
     clear ks
     obtain ⟨wv, rfl⟩ : ∃ wv : World, wv = wr := ⟨_, rfl⟩
     go_cut [13, 21] from 21 to 73 (fun v13 v21 wx => v21 = .int .i64 k ∧ ∃ cb : Nat, v13 = .pointer (some ⟨cb, 0, none⟩) ∧ wv.grownBy wx none ∧ Blk wx cb 70 #[.string y.key, .slice y.rA y.rn y.rc, .slice y.iA y.en y.ic])
     case first =>
       refine H_begin (fun w' => wv.grownBy w' none) (by kernel_rfl) ?_
       have hHeld : wv.grownBy wv.drew none := gr_drew (gr_refl _ _)
       refine H_take (k := 0) (v := ?_) (by rfl) (by kernel_rfl) (by kernel_rfl) (by kernel_rfl) (by exact fun _ _ _ h => h) (by rfl) ?_ (by assumption) ?_
       rotate_left 1
       · intro w hSw
         (try dsimp only at hSw)
         go_simp
         (try with_reducible rfl)
       (try simp only [Act.put, l1_, l2_, l3_])
       refine H_take (k := 1) (v := ?_) (by rfl) (by kernel_rfl) (by kernel_rfl) (by kernel_rfl) (by exact fun _ _ _ h => h) (by rfl) ?_ hHeld ?_
       rotate_left 1
       · intro w' hSw
         have kc := (HP.out.grown hSw (by simp)).cell 0
         go_simp
         (try with_reducible rfl)
       (try simp only [Act.put, l1_, l2_, l3_])
       refine H_take (k := 2) (v := .agg #[.slice (some ⟨g, o, none⟩) cn cc, .slice hA hn hc]) (by rfl) (by kernel_rfl) (by kernel_rfl) (by kernel_rfl) (by exact fun _ _ _ h => h) (by rfl) (fun w' hSw => exec_load_blk' Tryz.plT _ rfl _ rfl 29 [.slice (some ⟨g, o, none⟩) cn cc, .slice hA hn hc] (HP.out.grown hSw (by simp)) rfl) hHeld ?_
       (try simp only [Act.put, l1_, l2_, l3_])
       refine H_take (k := 3) (v := ?_) (by rfl) (by kernel_rfl) (by kernel_rfl) (by kernel_rfl) (by exact fun _ _ _ h => h) (by rfl) ?_ (by assumption) ?_
       rotate_left 1
       · intro w hSw
         (try dsimp only at hSw)
         go_simp
         (try with_reducible rfl)
       (try simp only [Act.put, l1_, l2_, l3_])
       refine H_run2 (k1 := 4) (k2 := 7) (by rfl) (by rfl) (by kernel_rfl) (by rfl) (by rfl) (fun K hK => ?_) (fun K hK => ?_)
       · go_simp
         refine (contextAtR_any lo ⟨some ⟨g, o, none⟩, cn, cc, hA, hn, hc, ctxs, hours⟩ y.key _ (H0.out.ctxs.grown (gr_drew HG.out) gn_) (by dsimp only; omega)).mono ?_
         rintro e w3 ⟨rfl, hg3'⟩
         dsimp only
         rw [HKI.out]
         have hg3 := gr_none (gr_drew (gr_refl wv none)) hg3'
         refine hK _ _ hg3 ?_
         clear hK K hHeld hg3'
         have hHeld := hg3
         refine H_take (k := 5) (v := ?_) (by rfl) (by kernel_rfl) (by kernel_rfl) (by kernel_rfl) (by exact fun _ _ _ h => h) (by rfl) ?_ (by assumption) ?_
         rotate_left 1
         · intro w hSw
           (try dsimp only at hSw)
           go_simp
           (try with_reducible rfl)
         (try simp only [Act.put, l1_, l2_, l3_])
         refine H_take (k := 6) (v := .agg #[.string y.key, .slice y.rA y.rn y.rc, .slice y.iA y.en y.ic]) (by rfl) (by kernel_rfl) (by kernel_rfl) (by kernel_rfl) (by exact fun _ _ _ h => h) (by rfl) (fun w' hSw => exec_load_rec Tryz.cxT _ rfl _ rfl [.string y.key, .slice y.rA y.rn y.rc, .slice y.iA y.en y.ic] (fun j u hu => by
                rw [add_mk]
                exact (H0.out.ctxs.grown (gr_none HG.out hSw) gn_).at_ CxV.row_len HQ2.out j u hu) rfl) hHeld ?_
         (try simp only [Act.put, l1_, l2_, l3_])
         refine H_run (k := 7) (by rfl) (by kernel_rfl) (by rfl) (fun K hK => ?_)
         go_simp
         refine hK _ _ (gr_alloc hHeld _) ?_
         clear hK K
         refine H_run (k := 8) (by rfl) (by kernel_rfl) (by rfl) (fun K hK => ?_)
         refine wp_store_all Tryz.cxT _ _ (by rfl) w3.heap.size (by rfl) 70 _ #[.string y.key, .slice y.rA y.rn y.rc, .slice y.iA y.en y.ic] (by rfl) (Blk.new _ _ _) rfl rfl (by simp [Value.oneCell']) ?_
         intro w9 h9
         have hg9 : wv.grownBy w9 none := gr_trans (gr_alloc hHeld _) h9.2.1 (fun g e => .inr (by injection e with e; have := hg3.size; omega))
         have HCB := Lib.hid h9.1
         refine hK _ _ hg9 ?_
         clear hK K hHeld h9 hg3
         refine H_done (by kernel_rfl) ?_
         go_wp2_with fail
         go_meet
         exact ⟨rfl, _, rfl, hg9, HCB.out⟩
       · go_simp
         refine hK _ _ (gr_alloc hHeld _) ?_
         clear hK K
         have HN0 := Lib.hid (Blk.new wv.drew 70 #[.string ⟨#[]⟩, .slice none 0 0, .slice none 0 0])
         refine H_run (k := 4) (by rfl) (by kernel_rfl) (by rfl) (fun K hK => ?_)
         go_simp
         refine (contextAtR_any lo ⟨some ⟨g, o, none⟩, cn, cc, hA, hn, hc, ctxs, hours⟩ y.key _ (H0.out.ctxs.grown (gr_alloc (gr_drew HG.out) _) gn_) (by dsimp only; omega)).mono ?_
         rintro e w3 ⟨rfl, hg3'⟩
         dsimp only
         rw [HKI.out]
         have hg3 := gr_none (gr_alloc (gr_drew (gr_refl wv none)) (.cells #[.string ⟨#[]⟩, .slice none 0 0, .slice none 0 0] 70)) hg3'
         have HN3 := Lib.hid (HN0.out.grown hg3' (by simp))
         refine hK _ _ hg3 ?_
         clear hK K hHeld hg3' HN0
         have hHeld := hg3
         refine H_take (k := 5) (v := ?_) (by rfl) (by kernel_rfl) (by kernel_rfl) (by kernel_rfl) (by exact fun _ _ _ h => h) (by rfl) ?_ (by assumption) ?_
         rotate_left 1
         · intro w hSw
           (try dsimp only at hSw)
           go_simp
           (try with_reducible rfl)
         (try simp only [Act.put, l1_, l2_, l3_])
         refine H_take (k := 6) (v := .agg #[.string y.key, .slice y.rA y.rn y.rc, .slice y.iA y.en y.ic]) (by rfl) (by kernel_rfl) (by kernel_rfl) (by kernel_rfl) (by exact fun _ _ _ h => h) (by rfl) (fun w' hSw => exec_load_rec Tryz.cxT _ rfl _ rfl [.string y.key, .slice y.rA y.rn y.rc, .slice y.iA y.en y.ic] (fun j u hu => by
                rw [add_mk]
                exact (H0.out.ctxs.grown (gr_none HG.out hSw) gn_).at_ CxV.row_len HQ2.out j u hu) rfl) hHeld ?_
         (try simp only [Act.put, l1_, l2_, l3_])
         refine H_run (k := 8) (by rfl) (by kernel_rfl) (by rfl) (fun K hK => ?_)
         refine wp_store_all Tryz.cxT _ _ (by rfl) wv.heap.size (by rfl) 70 _ #[.string y.key, .slice y.rA y.rn y.rc, .slice y.iA y.en y.ic] (by rfl) HN3.out rfl rfl (by simp [Value.oneCell']) ?_
         intro w9 h9
         have hg9 : wv.grownBy w9 none := gr_trans hHeld h9.2.1 (fun g e => .inr (by injection e with e; omega))
         have HCB := Lib.hid h9.1
         refine hK _ _ hg9 ?_
         clear hK K hHeld h9 hg3
         refine H_done (by kernel_rfl) ?_
         go_wp2_with fail
         go_meet
         exact ⟨rfl, _, rfl, hg9, HCB.out⟩
     case rest =>
       obtain ⟨rfl, cb, rfl, hg9, hcb9⟩ := hcut
       have HCB := Lib.hid hcb9
       clear hcb9
       replace HG := Lib.hid (gr_none HG.out hg9)
       replace HP := Lib.hid (HP.out.grown hg9 (by simp))
       replace HOB := Lib.hid (HOB.out.low hg9 gn_)
       clear hg9
       have kc1 := HCB.out.cell 1
       go_wp2_with fail
       clear kc1
       go_loopw [14, 15, 16, 35] (fun v14 _ _ t35 wr => ∃ j : Nat, j ≤ y.rn ∧ t35 = .int .i64 j ∧ v14 = .int .i64 (bestI (decT hours (nb dial) t y.rules j)) ∧ w.grownBy wr none ∧ Blk wr w.heap.size 29 #[.slice (some ⟨g, o, none⟩) cn cc, .slice hA hn hc] ∧ Blk wr cb 70 #[.string y.key, .slice y.rA y.rn y.rc, .slice y.iA y.en y.ic] ∧ OwnR srow 1 wr w.heap.size 9 (some ⟨gB, oB, none⟩) m d (keysOf ctxs r)) (fun _ _ _ t35 _ => y.rn - (intOf t35).toNat)
       case atStart => exact ⟨0, Nat.zero_le _, rfl, rfl, HG.out, HP.out, HCB.out, HOB.out⟩
       case round =>
         clear HG HP HCB HOB
         obtain ⟨j, hj, rfl, rfl, hg, hp, hcb, hob⟩ := hrel
         have HG := Lib.hid hg; have HP := Lib.hid hp; have HCB := Lib.hid hcb; have HOB := Lib.hid hob
         clear hg hp hcb hob
         by_cases hlt2 : j < y.rn
         · obtain ⟨gr_, or_, r, hrA, _, hgl, hz, hcc⟩ := (HCO.out.rules.grown HG.out gn_).get RuV.row_len hlt2
           have HZ := Lib.hid hz; have HRC := Lib.hid hcc; have HRA := Lib.hid hrA
           have HRU := Lib.hid (cx_rules HCO.out.rules.len HCR.out r (mem_of_get hz))
           obtain ⟨x, hx⟩ := HRU.out.pat
           have HPX := Lib.hid hx
           have hjj : (j : Int) < (y.rn : Int) := by omega
           clear hz hcc hx hgl hrA
           obtain ⟨wo, hwo⟩ : ∃ wo, wr.alloc (.cells #[.string r.pat, .int .i64 r.strip, .string r.pre, .int .i64 r.to_, .string r.nam, .string r.hrs] 73) = wo := ⟨_, rfl⟩
           have HRB := Lib.hid (show Blk wo wr.heap.size 73 #[.string r.pat, .int .i64 r.strip, .string r.pre, .int .i64 r.to_, .string r.nam, .string r.hrs] by rw [← hwo]; exact Blk.new _ _ _)
           have hga : wr.grownBy wo none := by rw [← hwo]; exact gr_alloc (gr_refl _ _) _
           have HWA := Lib.hid hwo; clear hwo
           have hA := HRA.out
           go_upto_region 9 with (first
             | (refine wpl_load_at Tryz.ruT rfl _ rfl _ rfl [.string r.pat, .int .i64 r.strip, .string r.pre, .int .i64 r.to_, .string r.nam, .string r.hrs] rfl (fun j u hu => by rw [add_mk]; exact HRC.out j u hu) ?_)
             | fail)
           rw [HWA.out]
           obtain ⟨rb, hrb⟩ : ∃ rb, wr.heap.size = rb := ⟨_, rfl⟩
           rw [hrb] at HRB ⊢
           clear hrb HWA HRC hA
           replace HG := Lib.hid (gr_none HG.out hga)
           replace HP := Lib.hid (HP.out.grown hga (by simp))
           replace HCB := Lib.hid (HCB.out.grown hga (by simp))
           replace HOB := Lib.hid (HOB.out.low hga gn_)
           clear hga
           obtain ⟨M, hM⟩ : ∃ M, matchL x (nb dial) = M := ⟨_, rfl⟩
           have HMT := Lib.hid hM; clear hM
           cases M
           · have HN := Lib.hid (show (decT hours (nb dial) t y.rules (j + 1)) = (decT hours (nb dial) t y.rules j) from decT_no HZ.out (by unfold fitB; rw [HPX.out]; show (matchL x (nb dial) && _) = false; rw [HMT.out]; rfl))
             refine H_begin (fun w' => wo.grownBy w' none) (by kernel_rfl) ?_
             have hHeld : wo.grownBy wo.drew none := gr_drew (gr_refl _ _)
             refine H_take (k := 0) (v := ?_) (by rfl) (by kernel_rfl) (by kernel_rfl) (by kernel_rfl) (by exact fun _ _ _ h => h) (by rfl) ?_ (by assumption) ?_
             rotate_left 1
             · intro w hSw
               (try dsimp only at hSw)
               go_simp
               (try with_reducible rfl)
             (try simp only [Act.put, l1_, l2_, l3_])
             refine H_take (k := 1) (v := ?_) (by rfl) (by kernel_rfl) (by kernel_rfl) (by kernel_rfl) (by exact fun _ _ _ h => h) (by rfl) ?_ hHeld ?_
             rotate_left 1
             · intro w' hSw
               have kc := (HRB.out.grown hSw (by simp)).cell 0
               go_simp
               (try with_reducible rfl)
             (try simp only [Act.put, l1_, l2_, l3_])
             refine H_take (k := 2) (v := ?_) (by rfl) (by kernel_rfl) (by kernel_rfl) (by kernel_rfl) (by exact fun _ _ _ h => h) (by rfl) ?_ (by assumption) ?_
             rotate_left 1
             · intro w hSw
               (try dsimp only at hSw)
               go_simp
               (try with_reducible rfl)
             (try simp only [Act.put, l1_, l2_, l3_])
             refine H_run (k := 3) (by rfl) (by kernel_rfl) (by rfl) (fun K hK => ?_)
             go_simp
             refine (matchesOf_any r.pat dial x _ HPX.out (by omega)).mono ?_
             rintro e w6 ⟨rfl, hg6'⟩
             rw [HMT.out]
             have hg6 := gr_none (gr_drew (gr_refl wo none)) hg6'
             refine hK _ _ hg6 ?_
             clear hK K hHeld hg6'
             have hHeld := hg6
             clear hg6
             refine H_take (k := 4) (v := ?_) (by rfl) (by kernel_rfl) (by kernel_rfl) (by kernel_rfl) (by exact fun _ _ _ h => h) (by rfl) ?_ (by assumption) ?_
             rotate_left 1
             · intro w hSw
               (try dsimp only at hSw)
               go_simp
               (try with_reducible rfl)
             (try simp only [Act.put, l1_, l2_, l3_])
             refine H_skip (k := 5) (by rfl) (by kernel_rfl) (by kernel_rfl) (by kernel_rfl) (by exact fun _ _ _ h => h) (by rfl) (by assumption) ?_
             (try simp only [Act.put, l1_, l2_, l3_])
             refine H_skip (k := 6) (by rfl) (by kernel_rfl) (by kernel_rfl) (by kernel_rfl) (by exact fun _ _ _ h => h) (by rfl) (by assumption) ?_
             (try simp only [Act.put, l1_, l2_, l3_])
             refine H_skip (k := 7) (by rfl) (by kernel_rfl) (by kernel_rfl) (by kernel_rfl) (by exact fun _ _ _ h => h) (by rfl) (by assumption) ?_
             (try simp only [Act.put, l1_, l2_, l3_])
             refine H_skip (k := 8) (by rfl) (by kernel_rfl) (by kernel_rfl) (by kernel_rfl) (by exact fun _ _ _ h => h) (by rfl) (by assumption) ?_
             (try simp only [Act.put, l1_, l2_, l3_])
             refine H_skip (k := 9) (by rfl) (by kernel_rfl) (by kernel_rfl) (by kernel_rfl) (by exact fun _ _ _ h => h) (by rfl) (by assumption) ?_
             (try simp only [Act.put, l1_, l2_, l3_])
             refine H_take (k := 10) (v := ?_) (by rfl) (by kernel_rfl) (by kernel_rfl) (by kernel_rfl) (by exact fun _ _ _ h => h) (by rfl) ?_ (by assumption) ?_
             rotate_left 1
             · intro w hSw
               (try dsimp only at hSw)
               go_simp
               (try with_reducible rfl)
             (try simp only [Act.put, l1_, l2_, l3_])
             refine H_take (k := 11) (v := ?_) (by rfl) (by kernel_rfl) (by kernel_rfl) (by kernel_rfl) (by exact fun _ _ _ h => h) (by rfl) ?_ (by assumption) ?_
             rotate_left 1
             · intro w hSw
               (try dsimp only at hSw)
               go_simp
               (try with_reducible rfl)
             (try simp only [Act.put, l1_, l2_, l3_])
             refine H_skip (k := 12) (by rfl) (by kernel_rfl) (by kernel_rfl) (by kernel_rfl) (by exact fun _ _ _ h => h) (by rfl) (by assumption) ?_
             (try simp only [Act.put, l1_, l2_, l3_])
             refine H_skip (k := 13) (by rfl) (by kernel_rfl) (by kernel_rfl) (by kernel_rfl) (by exact fun _ _ _ h => h) (by rfl) (by assumption) ?_
             (try simp only [Act.put, l1_, l2_, l3_])
             refine H_skip (k := 14) (by rfl) (by kernel_rfl) (by kernel_rfl) (by kernel_rfl) (by exact fun _ _ _ h => h) (by rfl) (by assumption) ?_
             (try simp only [Act.put, l1_, l2_, l3_])
             refine H_skip (k := 15) (by rfl) (by kernel_rfl) (by kernel_rfl) (by kernel_rfl) (by exact fun _ _ _ h => h) (by rfl) (by assumption) ?_
             (try simp only [Act.put, l1_, l2_, l3_])
             refine H_skip (k := 16) (by rfl) (by kernel_rfl) (by kernel_rfl) (by kernel_rfl) (by exact fun _ _ _ h => h) (by rfl) (by assumption) ?_
             (try simp only [Act.put, l1_, l2_, l3_])
             refine H_skip (k := 17) (by rfl) (by kernel_rfl) (by kernel_rfl) (by kernel_rfl) (by exact fun _ _ _ h => h) (by rfl) (by assumption) ?_
             (try simp only [Act.put, l1_, l2_, l3_])
             refine H_skip (k := 18) (by rfl) (by kernel_rfl) (by kernel_rfl) (by kernel_rfl) (by exact fun _ _ _ h => h) (by rfl) (by assumption) ?_
             (try simp only [Act.put, l1_, l2_, l3_])
             refine H_skip (k := 19) (by rfl) (by kernel_rfl) (by kernel_rfl) (by kernel_rfl) (by exact fun _ _ _ h => h) (by rfl) (by assumption) ?_
             (try simp only [Act.put, l1_, l2_, l3_])
             refine H_skip (k := 20) (by rfl) (by kernel_rfl) (by kernel_rfl) (by kernel_rfl) (by exact fun _ _ _ h => h) (by rfl) (by assumption) ?_
             (try simp only [Act.put, l1_, l2_, l3_])
             refine H_skip (k := 21) (by rfl) (by kernel_rfl) (by kernel_rfl) (by kernel_rfl) (by exact fun _ _ _ h => h) (by rfl) (by assumption) ?_
             (try simp only [Act.put, l1_, l2_, l3_])
             refine H_skip (k := 22) (by rfl) (by kernel_rfl) (by kernel_rfl) (by kernel_rfl) (by exact fun _ _ _ h => h) (by rfl) (by assumption) ?_
             (try simp only [Act.put, l1_, l2_, l3_])
             refine H_skip (k := 23) (by rfl) (by kernel_rfl) (by kernel_rfl) (by kernel_rfl) (by exact fun _ _ _ h => h) (by rfl) (by assumption) ?_
             (try simp only [Act.put, l1_, l2_, l3_])
             refine H_skip (k := 24) (by rfl) (by kernel_rfl) (by kernel_rfl) (by kernel_rfl) (by exact fun _ _ _ h => h) (by rfl) (by assumption) ?_
             (try simp only [Act.put, l1_, l2_, l3_])
             refine H_skip (k := 25) (by rfl) (by kernel_rfl) (by kernel_rfl) (by kernel_rfl) (by exact fun _ _ _ h => h) (by rfl) (by assumption) ?_
             (try simp only [Act.put, l1_, l2_, l3_])
             refine H_take (k := 26) (v := ?_) (by rfl) (by kernel_rfl) (by kernel_rfl) (by kernel_rfl) (by exact fun _ _ _ h => h) (by rfl) ?_ (by assumption) ?_
             rotate_left 1
             · intro w hSw
               (try dsimp only at hSw)
               go_simp
               (try with_reducible rfl)
             (try simp only [Act.put, l1_, l2_, l3_])
             refine H_done (by kernel_rfl) ?_
             have hgz := hHeld
             clear hHeld
             replace HG := Lib.hid (gr_none HG.out hgz)
             replace HP := Lib.hid (HP.out.grown hgz (by simp))
             replace HCB := Lib.hid (HCB.out.grown hgz (by simp))
             replace HOB := Lib.hid (HOB.out.low hgz gn_)
             clear hgz
             go_wp2_with fail
             rw [← HRA.out]
             go_roundw
             case rel => first
               | exact ⟨j + 1, by omega, by go_num, by rw [HN.out], HG.out, HP.out, HCB.out, HOB.out⟩
               | exact ⟨_, _, _, _, ⟨j + 1, by omega, by go_num, by rw [HN.out], HG.out, HP.out, HCB.out, HOB.out⟩, rfl, rfl, rfl, rfl, rfl⟩
             case measure => simp [intOf]; omega
           · obtain ⟨C, hC⟩ : ∃ C, cntB hours r.hrs t = C := ⟨_, rfl⟩
             have HCB2 := Lib.hid hC
             have HFB := Lib.hid (show fitB hours (nb dial) t r = C by unfold fitB; rw [HPX.out]; show (matchL x (nb dial) && _) = C; rw [HMT.out, hC]; rfl)
             clear hC
             refine H_begin (fun w' => wo.grownBy w' none) (by kernel_rfl) ?_
             have hHeld : wo.grownBy wo.drew none := gr_drew (gr_refl _ _)
             refine H_take (k := 0) (v := ?_) (by rfl) (by kernel_rfl) (by kernel_rfl) (by kernel_rfl) (by exact fun _ _ _ h => h) (by rfl) ?_ (by assumption) ?_
             rotate_left 1
             · intro w hSw
               (try dsimp only at hSw)
               go_simp
               (try with_reducible rfl)
             (try simp only [Act.put, l1_, l2_, l3_])
             refine H_take (k := 1) (v := ?_) (by rfl) (by kernel_rfl) (by kernel_rfl) (by kernel_rfl) (by exact fun _ _ _ h => h) (by rfl) ?_ hHeld ?_
             rotate_left 1
             · intro w' hSw
               have kc := (HRB.out.grown hSw (by simp)).cell 0
               go_simp
               (try with_reducible rfl)
             (try simp only [Act.put, l1_, l2_, l3_])
             refine H_take (k := 2) (v := ?_) (by rfl) (by kernel_rfl) (by kernel_rfl) (by kernel_rfl) (by exact fun _ _ _ h => h) (by rfl) ?_ (by assumption) ?_
             rotate_left 1
             · intro w hSw
               (try dsimp only at hSw)
               go_simp
               (try with_reducible rfl)
             (try simp only [Act.put, l1_, l2_, l3_])
             refine H_run (k := 3) (by rfl) (by kernel_rfl) (by rfl) (fun K hK => ?_)
             go_simp
             refine (matchesOf_any r.pat dial x _ HPX.out (by omega)).mono ?_
             rintro e w6 ⟨rfl, hg6'⟩
             rw [HMT.out]
             have hg6 := gr_none (gr_drew (gr_refl wo none)) hg6'
             refine hK _ _ hg6 ?_
             clear hK K hHeld hg6'
             have hHeld := hg6
             clear hg6
             refine H_take (k := 4) (v := ?_) (by rfl) (by kernel_rfl) (by kernel_rfl) (by kernel_rfl) (by exact fun _ _ _ h => h) (by rfl) ?_ (by assumption) ?_
             rotate_left 1
             · intro w hSw
               (try dsimp only at hSw)
               go_simp
               (try with_reducible rfl)
             (try simp only [Act.put, l1_, l2_, l3_])
             refine H_take (k := 5) (v := .agg #[.slice (some ⟨g, o, none⟩) cn cc, .slice hA hn hc]) (by rfl) (by kernel_rfl) (by kernel_rfl) (by kernel_rfl) (by exact fun _ _ _ h => h) (by rfl) (fun w' hSw => exec_load_blk' Tryz.plT _ rfl _ rfl 29 [.slice (some ⟨g, o, none⟩) cn cc, .slice hA hn hc] (HP.out.grown hSw (by simp)) rfl) hHeld ?_
             (try simp only [Act.put, l1_, l2_, l3_])
             refine H_take (k := 6) (v := ?_) (by rfl) (by kernel_rfl) (by kernel_rfl) (by kernel_rfl) (by exact fun _ _ _ h => h) (by rfl) ?_ (by assumption) ?_
             rotate_left 1
             · intro w hSw
               (try dsimp only at hSw)
               go_simp
               (try with_reducible rfl)
             (try simp only [Act.put, l1_, l2_, l3_])
             refine H_take (k := 7) (v := ?_) (by rfl) (by kernel_rfl) (by kernel_rfl) (by kernel_rfl) (by exact fun _ _ _ h => h) (by rfl) ?_ hHeld ?_
             rotate_left 1
             · intro w' hSw
               have kc := (HRB.out.grown hSw (by simp)).cell 5
               go_simp
               (try with_reducible rfl)
             (try simp only [Act.put, l1_, l2_, l3_])
             refine H_take (k := 8) (v := ?_) (by rfl) (by kernel_rfl) (by kernel_rfl) (by kernel_rfl) (by exact fun _ _ _ h => h) (by rfl) ?_ (by assumption) ?_
             rotate_left 1
             · intro w hSw
               (try dsimp only at hSw)
               go_simp
               (try with_reducible rfl)
             (try simp only [Act.put, l1_, l2_, l3_])
             refine H_run (k := 9) (by rfl) (by kernel_rfl) (by rfl) (fun K hK => ?_)
             go_simp
             refine (countsR_any lo ⟨some ⟨g, o, none⟩, cn, cc, hA, hn, hc, ctxs, hours⟩ r.hrs t _ (H0.out.grown (gr_none HG.out hHeld) gn_) HHR.out HRU.out.hrs t0 t1).mono ?_
             rintro e w7 ⟨rfl, hg7'⟩
             dsimp only
             rw [HCB2.out]
             have hg7 := gr_none hHeld hg7'
             refine hK _ _ hg7 ?_
             clear hK K hHeld hg7'
             have hHeld := hg7
             clear hg7
             refine H_take (k := 10) (v := ?_) (by rfl) (by kernel_rfl) (by kernel_rfl) (by kernel_rfl) (by exact fun _ _ _ h => h) (by rfl) ?_ (by assumption) ?_
             rotate_left 1
             · intro w hSw
               (try dsimp only at hSw)
               go_simp
               (try with_reducible rfl)
             (try simp only [Act.put, l1_, l2_, l3_])
             refine H_take (k := 11) (v := ?_) (by rfl) (by kernel_rfl) (by kernel_rfl) (by kernel_rfl) (by exact fun _ _ _ h => h) (by rfl) ?_ (by assumption) ?_
             rotate_left 1
             · intro w hSw
               (try dsimp only at hSw)
               go_simp
               (try with_reducible rfl)
             (try simp only [Act.put, l1_, l2_, l3_])
             cases C
             · have HN := Lib.hid (show (decT hours (nb dial) t y.rules (j + 1)) = (decT hours (nb dial) t y.rules j) from decT_no HZ.out HFB.out)
               refine H_skip (k := 12) (by rfl) (by kernel_rfl) (by kernel_rfl) (by kernel_rfl) (by exact fun _ _ _ h => h) (by rfl) (by assumption) ?_
               (try simp only [Act.put, l1_, l2_, l3_])
               refine H_skip (k := 13) (by rfl) (by kernel_rfl) (by kernel_rfl) (by kernel_rfl) (by exact fun _ _ _ h => h) (by rfl) (by assumption) ?_
               (try simp only [Act.put, l1_, l2_, l3_])
               refine H_skip (k := 14) (by rfl) (by kernel_rfl) (by kernel_rfl) (by kernel_rfl) (by exact fun _ _ _ h => h) (by rfl) (by assumption) ?_
               (try simp only [Act.put, l1_, l2_, l3_])
               refine H_skip (k := 15) (by rfl) (by kernel_rfl) (by kernel_rfl) (by kernel_rfl) (by exact fun _ _ _ h => h) (by rfl) (by assumption) ?_
               (try simp only [Act.put, l1_, l2_, l3_])
               refine H_skip (k := 16) (by rfl) (by kernel_rfl) (by kernel_rfl) (by kernel_rfl) (by exact fun _ _ _ h => h) (by rfl) (by assumption) ?_
               (try simp only [Act.put, l1_, l2_, l3_])
               refine H_skip (k := 17) (by rfl) (by kernel_rfl) (by kernel_rfl) (by kernel_rfl) (by exact fun _ _ _ h => h) (by rfl) (by assumption) ?_
               (try simp only [Act.put, l1_, l2_, l3_])
               refine H_skip (k := 18) (by rfl) (by kernel_rfl) (by kernel_rfl) (by kernel_rfl) (by exact fun _ _ _ h => h) (by rfl) (by assumption) ?_
               (try simp only [Act.put, l1_, l2_, l3_])
               refine H_skip (k := 19) (by rfl) (by kernel_rfl) (by kernel_rfl) (by kernel_rfl) (by exact fun _ _ _ h => h) (by rfl) (by assumption) ?_
               (try simp only [Act.put, l1_, l2_, l3_])
               refine H_skip (k := 20) (by rfl) (by kernel_rfl) (by kernel_rfl) (by kernel_rfl) (by exact fun _ _ _ h => h) (by rfl) (by assumption) ?_
               (try simp only [Act.put, l1_, l2_, l3_])
               refine H_skip (k := 21) (by rfl) (by kernel_rfl) (by kernel_rfl) (by kernel_rfl) (by exact fun _ _ _ h => h) (by rfl) (by assumption) ?_
               (try simp only [Act.put, l1_, l2_, l3_])
               refine H_skip (k := 22) (by rfl) (by kernel_rfl) (by kernel_rfl) (by kernel_rfl) (by exact fun _ _ _ h => h) (by rfl) (by assumption) ?_
               (try simp only [Act.put, l1_, l2_, l3_])
               refine H_skip (k := 23) (by rfl) (by kernel_rfl) (by kernel_rfl) (by kernel_rfl) (by exact fun _ _ _ h => h) (by rfl) (by assumption) ?_
               (try simp only [Act.put, l1_, l2_, l3_])
               refine H_skip (k := 24) (by rfl) (by kernel_rfl) (by kernel_rfl) (by kernel_rfl) (by exact fun _ _ _ h => h) (by rfl) (by assumption) ?_
               (try simp only [Act.put, l1_, l2_, l3_])
               refine H_skip (k := 25) (by rfl) (by kernel_rfl) (by kernel_rfl) (by kernel_rfl) (by exact fun _ _ _ h => h) (by rfl) (by assumption) ?_
               (try simp only [Act.put, l1_, l2_, l3_])
               refine H_take (k := 26) (v := ?_) (by rfl) (by kernel_rfl) (by kernel_rfl) (by kernel_rfl) (by exact fun _ _ _ h => h) (by rfl) ?_ (by assumption) ?_
               rotate_left 1
               · intro w hSw
                 (try dsimp only at hSw)
                 go_simp
                 (try with_reducible rfl)
               (try simp only [Act.put, l1_, l2_, l3_])
               refine H_done (by kernel_rfl) ?_
               have hgz := hHeld
               clear hHeld
               replace HG := Lib.hid (gr_none HG.out hgz)
               replace HP := Lib.hid (HP.out.grown hgz (by simp))
               replace HCB := Lib.hid (HCB.out.grown hgz (by simp))
               replace HOB := Lib.hid (HOB.out.low hgz gn_)
               clear hgz
               go_wp2_with fail
               rw [← HRA.out]
               go_roundw
               case rel => first
                 | exact ⟨j + 1, by omega, by go_num, by rw [HN.out], HG.out, HP.out, HCB.out, HOB.out⟩
                 | exact ⟨_, _, _, _, ⟨j + 1, by omega, by go_num, by rw [HN.out], HG.out, HP.out, HCB.out, HOB.out⟩, rfl, rfl, rfl, rfl, rfl⟩
               case measure => simp [intOf]; omega
             · cases hdk : (decT hours (nb dial) t y.rules j) with
               | none =>
                 have HN := Lib.hid (show (decT hours (nb dial) t y.rules (j + 1)) = some j from decT_first HZ.out HFB.out hdk)
                 rw [show bestI none = -1 from rfl]
                 clear hdk
                 refine H_take (k := 12) (v := ?_) (by rfl) (by kernel_rfl) (by kernel_rfl) (by kernel_rfl) (by exact fun _ _ _ h => h) (by rfl) ?_ (by assumption) ?_
                 rotate_left 1
                 · intro w hSw
                   (try dsimp only at hSw)
                   go_simp
                   (try with_reducible rfl)
                 (try simp only [Act.put, l1_, l2_, l3_])
                 refine H_take (k := 13) (v := ?_) (by rfl) (by kernel_rfl) (by kernel_rfl) (by kernel_rfl) (by exact fun _ _ _ h => h) (by rfl) ?_ (by assumption) ?_
                 rotate_left 1
                 · intro w hSw
                   (try dsimp only at hSw)
                   go_simp
                   (try with_reducible rfl)
                 (try simp only [Act.put, l1_, l2_, l3_])
                 refine H_take (k := 14) (v := ?_) (by rfl) (by kernel_rfl) (by kernel_rfl) (by kernel_rfl) (by exact fun _ _ _ h => h) (by rfl) ?_ (by assumption) ?_
                 rotate_left 1
                 · intro w hSw
                   (try dsimp only at hSw)
                   go_simp
                   (try with_reducible rfl)
                 (try simp only [Act.put, l1_, l2_, l3_])
                 refine H_skip (k := 15) (by rfl) (by kernel_rfl) (by kernel_rfl) (by kernel_rfl) (by exact fun _ _ _ h => h) (by rfl) (by assumption) ?_
                 (try simp only [Act.put, l1_, l2_, l3_])
                 refine H_skip (k := 16) (by rfl) (by kernel_rfl) (by kernel_rfl) (by kernel_rfl) (by exact fun _ _ _ h => h) (by rfl) (by assumption) ?_
                 (try simp only [Act.put, l1_, l2_, l3_])
                 refine H_skip (k := 17) (by rfl) (by kernel_rfl) (by kernel_rfl) (by kernel_rfl) (by exact fun _ _ _ h => h) (by rfl) (by assumption) ?_
                 (try simp only [Act.put, l1_, l2_, l3_])
                 refine H_skip (k := 18) (by rfl) (by kernel_rfl) (by kernel_rfl) (by kernel_rfl) (by exact fun _ _ _ h => h) (by rfl) (by assumption) ?_
                 (try simp only [Act.put, l1_, l2_, l3_])
                 refine H_skip (k := 19) (by rfl) (by kernel_rfl) (by kernel_rfl) (by kernel_rfl) (by exact fun _ _ _ h => h) (by rfl) (by assumption) ?_
                 (try simp only [Act.put, l1_, l2_, l3_])
                 refine H_skip (k := 20) (by rfl) (by kernel_rfl) (by kernel_rfl) (by kernel_rfl) (by exact fun _ _ _ h => h) (by rfl) (by assumption) ?_
                 (try simp only [Act.put, l1_, l2_, l3_])
                 refine H_skip (k := 21) (by rfl) (by kernel_rfl) (by kernel_rfl) (by kernel_rfl) (by exact fun _ _ _ h => h) (by rfl) (by assumption) ?_
                 (try simp only [Act.put, l1_, l2_, l3_])
                 refine H_skip (k := 22) (by rfl) (by kernel_rfl) (by kernel_rfl) (by kernel_rfl) (by exact fun _ _ _ h => h) (by rfl) (by assumption) ?_
                 (try simp only [Act.put, l1_, l2_, l3_])
                 refine H_skip (k := 23) (by rfl) (by kernel_rfl) (by kernel_rfl) (by kernel_rfl) (by exact fun _ _ _ h => h) (by rfl) (by assumption) ?_
                 (try simp only [Act.put, l1_, l2_, l3_])
                 refine H_skip (k := 24) (by rfl) (by kernel_rfl) (by kernel_rfl) (by kernel_rfl) (by exact fun _ _ _ h => h) (by rfl) (by assumption) ?_
                 (try simp only [Act.put, l1_, l2_, l3_])
                 refine H_take (k := 25) (v := ?_) (by rfl) (by kernel_rfl) (by kernel_rfl) (by kernel_rfl) (by exact fun _ _ _ h => h) (by rfl) ?_ (by assumption) ?_
                 rotate_left 1
                 · intro w hSw
                   (try dsimp only at hSw)
                   go_simp
                   (try with_reducible rfl)
                 (try simp only [Act.put, l1_, l2_, l3_])
                 refine H_take (k := 26) (v := ?_) (by rfl) (by kernel_rfl) (by kernel_rfl) (by kernel_rfl) (by exact fun _ _ _ h => h) (by rfl) ?_ (by assumption) ?_
                 rotate_left 1
                 · intro w hSw
                   (try dsimp only at hSw)
                   go_simp
                   (try with_reducible rfl)
                 (try simp only [Act.put, l1_, l2_, l3_])
                 refine H_done (by kernel_rfl) ?_
                 have hgz := hHeld
                 clear hHeld
                 replace HG := Lib.hid (gr_none HG.out hgz)
                 replace HP := Lib.hid (HP.out.grown hgz (by simp))
                 replace HCB := Lib.hid (HCB.out.grown hgz (by simp))
                 replace HOB := Lib.hid (HOB.out.low hgz gn_)
                 clear hgz
                 go_wp2_with fail
                 rw [← HRA.out]
                 go_roundw
                 case rel => first
                   | exact ⟨j + 1, by omega, by go_num, by rw [HN.out]; rfl, HG.out, HP.out, HCB.out, HOB.out⟩
                   | exact ⟨_, _, _, _, ⟨j + 1, by omega, by go_num, by rw [HN.out]; rfl, HG.out, HP.out, HCB.out, HOB.out⟩, rfl, rfl, rfl, rfl, rfl⟩
                 case measure => simp [intOf]; omega
               | some b =>
                 have hbj := decT_lt hdk
                 obtain ⟨g3, o3, ro, hrA3, _, _, hb1, hcc3⟩ := HCO.out.rules.get RuV.row_len (show b < y.rn by omega)
                 obtain ⟨z, hz2⟩ := (cx_rules HCO.out.rules.len HCR.out ro (mem_of_get hb1)).pat
                 have HBF := Lib.hid (show befR r ro = decide (befL x z < 0) by unfold befR; rw [HPX.out]; show ((patX (nb ro.pat)).elim false fun y => decide (befL x y < 0)) = _; rw [hz2]; rfl)
                 have HN0 := Lib.hid (decT_more HZ.out HFB.out hdk hb1)
                 have HZ2 := Lib.hid hz2; have HB1 := Lib.hid hb1
                 rw [HRA.out] at hrA3
                 injection hrA3 with e3
                 injection e3 with e4 e5
                 subst e4
                 subst e5
                 clear hdk hz2 hb1 hcc3
                 rw [show bestI (some b) = (b : Int) from rfl]
                 have db : decide ((b : Int) < 0) = false := decide_eq_false (by omega)
                 have hbr : (b : Int) < (y.rn : Int) := by omega
                 refine H_take (k := 12) (v := ?_) (by rfl) (by kernel_rfl) (by kernel_rfl) (by kernel_rfl) (by exact fun _ _ _ h => h) (by rfl) ?_ (by assumption) ?_
                 rotate_left 1
                 · intro w hSw
                   (try dsimp only at hSw)
                   go_simp
                   (try with_reducible rfl)
                 (try simp only [Act.put, l1_, l2_, l3_])
                 refine H_take (k := 13) (v := ?_) (by rfl) (by kernel_rfl) (by kernel_rfl) (by kernel_rfl) (by exact fun _ _ _ h => h) (by rfl) ?_ (by assumption) ?_
                 rotate_left 1
                 · intro w hSw
                   (try dsimp only at hSw)
                   go_simp
                   (try with_reducible rfl)
                 (try simp only [Act.put, l1_, l2_, l3_])
                 refine H_take (k := 14) (v := ?_) (by rfl) (by kernel_rfl) (by kernel_rfl) (by kernel_rfl) (by exact fun _ _ _ h => h) (by rfl) ?_ (by assumption) ?_
                 rotate_left 1
                 · intro w hSw
                   (try dsimp only at hSw)
                   go_simp
                   (try with_reducible rfl)
                 (try simp only [Act.put, l1_, l2_, l3_])
                 refine H_take (k := 15) (v := ?_) (by rfl) (by kernel_rfl) (by kernel_rfl) (by kernel_rfl) (by exact fun _ _ _ h => h) (by rfl) ?_ (by assumption) ?_
                 rotate_left 1
                 · intro w hSw
                   (try dsimp only at hSw)
                   go_simp
                   (try with_reducible rfl)
                 (try simp only [Act.put, l1_, l2_, l3_])
                 refine H_take (k := 16) (v := ?_) (by rfl) (by kernel_rfl) (by kernel_rfl) (by kernel_rfl) (by exact fun _ _ _ h => h) (by rfl) ?_ hHeld ?_
                 rotate_left 1
                 · intro w' hSw
                   have kc := (HRB.out.grown hSw (by simp)).cell 0
                   go_simp
                   (try with_reducible rfl)
                 (try simp only [Act.put, l1_, l2_, l3_])
                 refine H_take (k := 17) (v := ?_) (by rfl) (by kernel_rfl) (by kernel_rfl) (by kernel_rfl) (by exact fun _ _ _ h => h) (by rfl) ?_ (by assumption) ?_
                 rotate_left 1
                 · intro w hSw
                   (try dsimp only at hSw)
                   go_simp
                   (try with_reducible rfl)
                 (try simp only [Act.put, l1_, l2_, l3_])
                 refine H_take (k := 18) (v := ?_) (by rfl) (by kernel_rfl) (by kernel_rfl) (by kernel_rfl) (by exact fun _ _ _ h => h) (by rfl) ?_ hHeld ?_
                 rotate_left 1
                 · intro w' hSw
                   have kc := (HCB.out.grown hSw (by simp)).cell 1
                   go_simp
                   (try with_reducible rfl)
                 (try simp only [Act.put, l1_, l2_, l3_])
                 refine H_take (k := 19) (v := ?_) (by rfl) (by kernel_rfl) (by kernel_rfl) (by kernel_rfl) (by exact fun _ _ _ h => h) (by rfl) ?_ (by assumption) ?_
                 rotate_left 1
                 · intro w hSw
                   (try dsimp only at hSw)
                   go_simp
                   (try with_reducible rfl)
                 (try simp only [Act.put, l1_, l2_, l3_])
                 have hA := HRA.out
                 refine H_take (k := 20) (v := ?_) (by rfl) (by kernel_rfl) (by kernel_rfl) (by kernel_rfl) (by exact fun _ _ _ h => h) (by rfl) ?_ (by assumption) ?_
                 rotate_left 1
                 · intro w hSw
                   (try dsimp only at hSw)
                   go_simp
                   (try with_reducible rfl)
                 (try simp only [Act.put, l1_, l2_, l3_])
                 refine H_take (k := 21) (v := ?_) (by rfl) (by kernel_rfl) (by kernel_rfl) (by kernel_rfl) (by exact fun _ _ _ h => h) (by rfl) ?_ (by assumption) ?_
                 rotate_left 1
                 · intro w hSw
                   (try dsimp only at hSw)
                   go_simp
                   (try with_reducible rfl)
                 (try simp only [Act.put, l1_, l2_, l3_])
                 refine H_take (k := 22) (v := ?_) (by rfl) (by kernel_rfl) (by kernel_rfl) (by kernel_rfl) (by exact fun _ _ _ h => h) (by rfl) ?_ hHeld ?_
                 rotate_left 1
                 · intro w' hSw
                   have kc0 := (HCO.out.rules.grown (gr_none HG.out hSw) gn_)
                   rw [hA] at kc0
                   have kc := kc0.at_ RuV.row_len HB1.out 0 _ rfl
                   simp only [Nat.add_zero] at kc
                   clear kc0
                   go_simp
                   (try with_reducible rfl)
                 (try simp only [Act.put, l1_, l2_, l3_])
                 clear hA
                 refine H_run (k := 23) (by rfl) (by kernel_rfl) (by rfl) (fun K hK => ?_)
                 go_simp
                 refine (beforeOf_any r.pat ro.pat x z _ HPX.out HZ2.out).mono ?_
                 rintro e w8 ⟨rfl, hg8'⟩
                 obtain ⟨V, hV⟩ : ∃ V, befL x z = V := ⟨_, rfl⟩
                 rw [hV] at HBF ⊢
                 clear hV
                 have hg8 := gr_none hHeld hg8'
                 refine hK _ _ hg8 ?_
                 clear hK K hHeld hg8'
                 have hHeld := hg8
                 clear hg8
                 by_cases hV0 : V < 0
                 · have dV : decide (V < 0) = true := decide_eq_true hV0
                   have HN := Lib.hid (show (decT hours (nb dial) t y.rules (j + 1)) = some j by rw [HN0.out, HBF.out, dV]; rfl)
                   refine H_take (k := 24) (v := ?_) (by rfl) (by kernel_rfl) (by kernel_rfl) (by kernel_rfl) (by exact fun _ _ _ h => h) (by rfl) ?_ (by assumption) ?_
                   rotate_left 1
                   · intro w hSw
                     (try dsimp only at hSw)
                     go_simp
                     (try with_reducible rfl)
                   (try simp only [Act.put, l1_, l2_, l3_])
                   refine H_take (k := 25) (v := ?_) (by rfl) (by kernel_rfl) (by kernel_rfl) (by kernel_rfl) (by exact fun _ _ _ h => h) (by rfl) ?_ (by assumption) ?_
                   rotate_left 1
                   · intro w hSw
                     (try dsimp only at hSw)
                     go_simp
                     (try with_reducible rfl)
                   (try simp only [Act.put, l1_, l2_, l3_])
                   refine H_take (k := 26) (v := ?_) (by rfl) (by kernel_rfl) (by kernel_rfl) (by kernel_rfl) (by exact fun _ _ _ h => h) (by rfl) ?_ (by assumption) ?_
                   rotate_left 1
                   · intro w hSw
                     (try dsimp only at hSw)
                     go_simp
                     (try with_reducible rfl)
                   (try simp only [Act.put, l1_, l2_, l3_])
                   refine H_done (by kernel_rfl) ?_
                   have hgz := hHeld
                   clear hHeld
                   replace HG := Lib.hid (gr_none HG.out hgz)
                   replace HP := Lib.hid (HP.out.grown hgz (by simp))
                   replace HCB := Lib.hid (HCB.out.grown hgz (by simp))
                   replace HOB := Lib.hid (HOB.out.low hgz gn_)
                   clear hgz
                   go_wp2_with fail
                   rw [← HRA.out]
                   go_roundw
                   case rel => first
                     | exact ⟨j + 1, by omega, by go_num, by rw [HN.out]; rfl, HG.out, HP.out, HCB.out, HOB.out⟩
                     | exact ⟨_, _, _, _, ⟨j + 1, by omega, by go_num, by rw [HN.out]; rfl, HG.out, HP.out, HCB.out, HOB.out⟩, rfl, rfl, rfl, rfl, rfl⟩
                   case measure => simp [intOf]; omega
                 · have dV : decide (V < 0) = false := decide_eq_false hV0
                   have HN := Lib.hid (show (decT hours (nb dial) t y.rules (j + 1)) = some b by rw [HN0.out, HBF.out, dV]; rfl)
                   refine H_take (k := 24) (v := ?_) (by rfl) (by kernel_rfl) (by kernel_rfl) (by kernel_rfl) (by exact fun _ _ _ h => h) (by rfl) ?_ (by assumption) ?_
                   rotate_left 1
                   · intro w hSw
                     (try dsimp only at hSw)
                     go_simp
                     (try with_reducible rfl)
                   (try simp only [Act.put, l1_, l2_, l3_])
                   refine H_take (k := 25) (v := ?_) (by rfl) (by kernel_rfl) (by kernel_rfl) (by kernel_rfl) (by exact fun _ _ _ h => h) (by rfl) ?_ (by assumption) ?_
                   rotate_left 1
                   · intro w hSw
                     (try dsimp only at hSw)
                     go_simp
                     (try with_reducible rfl)
                   (try simp only [Act.put, l1_, l2_, l3_])
                   refine H_take (k := 26) (v := ?_) (by rfl) (by kernel_rfl) (by kernel_rfl) (by kernel_rfl) (by exact fun _ _ _ h => h) (by rfl) ?_ (by assumption) ?_
                   rotate_left 1
                   · intro w hSw
                     (try dsimp only at hSw)
                     go_simp
                     (try with_reducible rfl)
                   (try simp only [Act.put, l1_, l2_, l3_])
                   refine H_done (by kernel_rfl) ?_
                   have hgz := hHeld
                   clear hHeld
                   replace HG := Lib.hid (gr_none HG.out hgz)
                   replace HP := Lib.hid (HP.out.grown hgz (by simp))
                   replace HCB := Lib.hid (HCB.out.grown hgz (by simp))
                   replace HOB := Lib.hid (HOB.out.low hgz gn_)
                   clear hgz
                   go_wp2_with fail
                   rw [← HRA.out]
                   go_roundw
                   case rel => first
                     | exact ⟨j + 1, by omega, by go_num, by rw [HN.out]; rfl, HG.out, HP.out, HCB.out, HOB.out⟩
                     | exact ⟨_, _, _, _, ⟨j + 1, by omega, by go_num, by rw [HN.out]; rfl, HG.out, HP.out, HCB.out, HOB.out⟩, rfl, rfl, rfl, rfl, rfl⟩
                   case measure => simp [intOf]; omega
         · obtain rfl : j = y.rn := by omega
           have hD1 : decD hours (nb dial) t (pickC ctxs r) = (decT hours (nb dial) t y.rules y.rn).elim (decD hours (nb dial) t ((pickC ctxs r).drop (k + 1))) fun b => some (y, b) := by
             rw [HDD.out, decD_drop HPK.out, HCO.out.rules.len]
           cases hdk : decT hours (nb dial) t y.rules y.rn with
           | none =>
             rw [hdk] at hD1
             have HN := Lib.hid (show decD hours (nb dial) t (pickC ctxs r) = decD hours (nb dial) t ((pickC ctxs r).drop (k + 1)) from hD1)
             clear hD1 hdk
             rw [show bestI none = -1 from rfl]
             go_wp2_with fail
             go_roundw
             case rel => exact ⟨k + 1, by omega, by go_num, HG.out, HP.out, HOB.out, HN.out⟩
             case measure => simp [intOf]; omega
           | some b =>
             rw [hdk] at hD1
             have HN := Lib.hid (show decOut (decD hours (nb dial) t (pickC ctxs r)) = .tuple #[.string y.key, .int .i64 b, .bool true] by rw [hD1]; rfl)
             clear hD1 hdk
             rw [show bestI (some b) = (b : Int) from rfl]
             have db : decide ((0 : Int) ≤ (b : Int)) = true := decide_eq_true (by omega)
             go_wp2_with fail
             go_ret3
             exact ⟨r, HORD.out, HND.out, HBD.out, by rw [HN.out]; try rfl, HG.out⟩
   · obtain rfl : m = k := by omega
     have HN := Lib.hid (show decOut (decD hours (nb dial) t (pickC ctxs r)) = .tuple #[.string ⟨#[]⟩, .int .i64 0, .bool false] by
       rw [HDD.out, List.drop_of_length_le (by rw [pickC_len HBD.out, HRL.out]; exact Nat.le_refl _)]; rfl)
     go_wp2_with fail
     go_ret3
     exact ⟨r, HORD.out, HND.out, HBD.out, by rw [HN.out]; try rfl, HG.out⟩
end Go.Proofs.YteppdabhloieaaaGreatDoor

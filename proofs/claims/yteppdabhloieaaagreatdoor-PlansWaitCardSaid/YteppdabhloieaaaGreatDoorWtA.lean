/- Contract of the document's HiddenOf. Conditions: a right plan. -/
import Derived.Test.YteppdabhloieaaaGreatDoorWt5
import Derived.Test.YteppdabhloieaaaGreatDoorWt8
import Derived.Test.YteppdabhloieaaaGreatDoorPlan12
import Derived.Test.YteppdabhloieaaaGreatDoorGenPl1
import Derived.Test.YteppdabhloieaaaGreatDoorBun8
namespace Go.Proofs.YteppdabhloieaaaGreatDoor
open Go.RowKit
theorem oTo_mem {rules : List RuV} {r : RuV} {i : Nat} : ∀ {k : Nat} {q : RuV}, q ∈ oTo rules r i k → q ∈ rules
 | 0, q, h => by cases h
 | k + 1, q, h => by
   unfold oTo at h
   rcases List.mem_append.1 h with h1 | h1
   · exact oTo_mem h1
   · cases hr : rules[k]? with
     | none => rw [hr] at h1; cases h1
     | some o =>
       rw [hr] at h1
       have h2 : q ∈ (if befB r o i k then [o] else []) := h1
       split at h2
       · rw [List.mem_singleton.1 h2]; exact mem_of_get hr
       · cases h2
theorem eaC_mem {rules : List RuV} : ∀ {k : Nat} {q : RuV}, q ∈ eaC rules k → q ∈ rules
 | 0, q, h => by cases h
 | k + 1, q, h => by
   unfold eaC at h
   rcases List.mem_append.1 h with h1 | h1
   · exact eaC_mem h1
   · cases hr : rules[k]? with
     | none => rw [hr] at h1; cases h1
     | some o =>
       rw [hr] at h1
       have h2 : q ∈ (if nb o.hrs = [] then [o] else []) := h1
       split at h2
       · rw [List.mem_singleton.1 h2]; exact mem_of_get hr
       · cases h2
theorem eaL_mem {L : List CxV} : ∀ {k : Nat} {q : RuV}, q ∈ eaL L k → ∃ c ∈ L, q ∈ c.rules
 | 0, q, h => by cases h
 | k + 1, q, h => by
   unfold eaL at h
   rcases List.mem_append.1 h with h1 | h1
   · exact eaL_mem h1
   · cases hr : L[k]? with
     | none => rw [hr] at h1; cases h1
     | some c => rw [hr] at h1; exact ⟨c, mem_of_get hr, eaC_mem h1⟩
theorem ea_pat {L : List CxV} {rules : List RuV} {hs : List HrV} {k i n : Nat} {r q : RuV} (h1 : ∀ c ∈ L, ∀ r ∈ c.rules, ∃ y, patX (nb r.pat) = some y) (h2 : ∀ r ∈ rules, RuRight hs r) (h : q ∈ eaL L k ++ oTo rules r i n) : ∃ y, patX (nb q.pat) = some y := by
 rcases List.mem_append.1 h with h3 | h3
 · obtain ⟨c, hc, hr⟩ := eaL_mem h3
   exact h1 c hc q hr
 · exact (h2 q (oTo_mem h3)).pat
def HidOfV (p : PlV) (i : Nat) (w : World) (e : Ending) (w' : World) : Prop :=
 ∃ (A : Option Addr) (n c : Nat) (r : List Nat), Ord (incIx p.ctxs) [i] [] r ∧ r.Nodup ∧ (∀ x ∈ r, x < p.ctxs.length) ∧ e = .returned (.tuple #[.slice A n c, .int .i64 (hiE 0 (pickC p.ctxs r))]) ∧ OwnR HidV.row 5 w' w.heap.size 49 A n c (hiL 0 (pickC p.ctxs r)) ∧ w.grownBy w' none ∧ n ≤ 12
set_option maxHeartbeats 32000000 in
set_option maxRecDepth 100000 in
theorem hiddenOf_any (lo : Nat) (p : PlV) (i : Nat) (z0 : CxV) (w : World) (h : PlOk w lo p) (hpr : PlRight p) (hz : p.ctxs[i]? = some z0) :
   Calls Tryz.prog 18 #[.agg #[.slice p.cA p.cn p.cc, .slice p.hA p.hn p.hc], .string z0.key] w (HidOfV p i w) := by
 obtain ⟨cA, cn, cc, hA, hn, hc, ctxs, hours⟩ := p
 have hcn : cn ≤ 50 := hpr.cn
 have hlen := h.ctxs.len
 dsimp only at hlen hz ⊢
 have hc0 : 0 < cn := by rw [← hlen]; have := (List.getElem?_eq_some_iff.1 hz).1; omega
 obtain ⟨gP, oP, _, hcA0, _⟩ := h.ctxs.get CxV.row_len hc0
 dsimp only at hcA0
 subst hcA0
 obtain ⟨W1, hW⟩ : ∃ W1, w.alloc (.cells #[.slice (some ⟨gP, oP, none⟩) cn cc, .slice hA hn hc] 29) = W1 := ⟨_, rfl⟩
 have HP := Lib.hid (show Blk W1 w.heap.size 29 #[.slice (some ⟨gP, oP, none⟩) cn cc, .slice hA hn hc] by rw [← hW]; exact Blk.new _ _ _)
 have HG := Lib.hid (show w.grownBy W1 none by rw [← hW]; exact gr_alloc (gr_refl _ _) _)
 have HW := Lib.hid hW
 have HLEN := Lib.hid hlen
 have H0 := Lib.hid h
 have HPR := Lib.hid hpr
 have HKY1 := Lib.hid (show Keyed1 ctxs from keyed_of (by rw [hlen]; exact hpr.cxs))
 have HZ0 := Lib.hid hz
 have HEN := Lib.hid (show ∀ c ∈ ctxs, c.en ≤ 10 from fun c hc => by
   obtain ⟨i, hi⟩ := List.mem_iff_getElem?.1 hc
   exact (hpr.cx i c hi).en)
 clear h hpr hz hW hlen
 go_enter Tryz.func18, Tryz.ntmps18
 go_upto_region 1 with (fail)
 rw [HW.out]
 go_wp2_with (first
   | (refine wpl_load_all Tryz.plT rfl _ rfl _ rfl _ _ HP.out rfl ?_)
   | fail)
 refine (orderOf_any lo ⟨some ⟨gP, oP, none⟩, cn, cc, hA, hn, hc, ctxs, hours⟩ i z0 _ (H0.out.grown HG.out gn_) HPR.out.mis HKY1.out HZ0.out hcn HEN.out).mono ?_
 rintro e w2 ⟨B, m, d, r, rfl, hob, hord, hnd, hbd, hm50, hg2⟩
 have HORD := Lib.hid hord; have HND := Lib.hid hnd; have HBD := Lib.hid (show ∀ x ∈ r, x < ctxs.length from fun x hx => by rw [HLEN.out]; exact hbd x hx)
 have HOB := Lib.hid (hob.lower (show w.heap.size ≤ W1.heap.size from HG.out.size))
 have hrl : r.length = m := by have := hob.2; rw [keys_len] at this; exact this
 have HRLm := Lib.hid hrl
 obtain ⟨L, hL⟩ : ∃ L, pickC ctxs r = L := ⟨_, rfl⟩
 have HLL := Lib.hid hL
 have HLm := Lib.hid (show L.length = m by rw [← hL, pickC_len HBD.out, hrl])
 clear hob hord hnd hbd hrl hL
 replace HP := Lib.hid (HP.out.grown hg2 (by simp))
 replace HG := Lib.hid (gr_none HG.out hg2)
 clear hg2
 go_wp2_with fail
 go_loopw [6, 8, 26] (fun v6 _ t26 wr => ∃ k : Nat, k ≤ m ∧ t26 = .int .i64 k ∧ v6 = .int .i64 ((manyR L k : Nat) : Int) ∧ w.grownBy wr none ∧ Blk wr w.heap.size 29 #[.slice (some ⟨gP, oP, none⟩) cn cc, .slice hA hn hc] ∧ OwnR srow 1 wr w.heap.size 9 B m d (keysOf ctxs r) ∧ manyR L k ≤ 200 * k) (fun _ _ t26 _ => m - (intOf t26).toNat)
 case atStart => exact ⟨0, Nat.zero_le _, rfl, rfl, HG.out, HP.out, HOB.out, Nat.le_refl _⟩
 case round =>
   clear HG HP HOB
   obtain ⟨k, hk, rfl, rfl, hg, hp, hob, hmr⟩ := hrel
   have HG := Lib.hid hg; have HP := Lib.hid hp; have HOB := Lib.hid hob
   clear hg hp hob
   by_cases hlt : k < m
   · have dkm : decide ((k : Int) < (m : Int)) = true := decide_eq_true (by omega)
     obtain ⟨gB, oB, s, hBA, _, hgB, hs, hcs⟩ := HOB.out.recs.get srow_len hlt
     subst hBA
     obtain ⟨q, ⟨ykey, yrA, yrn, yrc, yiA, yen, yic, yrules, yincs⟩, hq1, hq2, hq3⟩ := keys_get hs HBD.out
     subst hq3
     have ks := hcs 0 _ rfl
     simp only [Nat.mul_one, Nat.add_zero] at ks
     have hqn : q < cn := by rw [← HLEN.out]; exact (List.getElem?_eq_some_iff.1 hq2).1
     have hqn2 : (q : Int) < (cn : Int) := by omega
     have HQ2 := Lib.hid hq2
     have HLK := Lib.hid (pickC_get HBD.out hq1 hq2)
     have HKI := Lib.hid (cxIx_at HKY1.out hq2 rfl)
     have HCO := Lib.hid (H0.out.cok _ (mem_of_get hq2))
     have hcr := HPR.out.cx q _ hq2
     have hcrn : yrn ≤ 200 := hcr.rn
     have HRL := Lib.hid (show yrules.length = yrn from HCO.out.rules.len)
     have HRR := Lib.hid (show ∀ r ∈ yrules, RuRight hours r from cx_rules HCO.out.rules.len hcr)
     have HMS := Lib.hid (show manyR L (k + 1) = manyR L k + yrn by rw [← HLL.out, manyR_succ HLK.out]; dsimp only; rw [HRL.out])
     rw [HLL.out] at HLK
     clear hs hcs hq1 hgB hcr
     obtain ⟨g, o, y', hcA, _, hgl, hy', hcc⟩ := H0.out.ctxs.get CxV.row_len hqn
     dsimp only at hcA hy'
     obtain ⟨rfl, rfl⟩ : gP = g ∧ oP = o := by injection hcA with e; injection e with e1 e2; exact ⟨e1, e2⟩
     clear hy' hcc hq2 hgl hcA
     have hsum : IntKind.i64.wrap (((manyR L k : Nat) : Int) + (yrn : Int)) = ((manyR L k : Nat) : Int) + (yrn : Int) := by rw [IntKind.wrap_i64]; omega
     go_upto_region 5 with (fail)
     clear ks
     obtain ⟨wv, rfl⟩ : ∃ wv : World, wv = wr := ⟨_, rfl⟩
     refine H_begin (fun w' => wv.grownBy w' none) (by kernel_rfl) ?_
     have hHeld : wv.grownBy wv.drew none := gr_drew (gr_refl _ _)
     refine H_take (k := 0) (v := ?_) (by rfl) (by kernel_rfl) (by kernel_rfl) (by kernel_rfl) (by exact fun _ _ _ h => h) (by rfl) ?_ (by assumption) ?_
     rotate_left 1
     · intro w hSw
       (try dsimp only at hSw)
       go_simp
       (try with_reducible rfl)
     (try simp only [Act.put, l1_, l2_, l3_])
     refine H_take (k := 1) (v := ?_) (by rfl) (by kernel_rfl) (by kernel_rfl) (by kernel_rfl) (by exact fun _ _ _ h => h) (by rfl) ?_ (by assumption) ?_
     rotate_left 1
     · intro w hSw
       (try dsimp only at hSw)
       go_simp
       (try with_reducible rfl)
     (try simp only [Act.put, l1_, l2_, l3_])
     refine H_take (k := 2) (v := ?_) (by rfl) (by kernel_rfl) (by kernel_rfl) (by kernel_rfl) (by exact fun _ _ _ h => h) (by rfl) ?_ hHeld ?_
     rotate_left 1
     · intro w' hSw
       have kc := (HP.out.grown hSw (by simp)).cell 0
       go_simp
       (try with_reducible rfl)
     (try simp only [Act.put, l1_, l2_, l3_])
     refine H_take (k := 3) (v := .agg #[.slice (some ⟨gP, oP, none⟩) cn cc, .slice hA hn hc]) (by rfl) (by kernel_rfl) (by kernel_rfl) (by kernel_rfl) (by exact fun _ _ _ h => h) (by rfl) (fun w' hSw => exec_load_blk' Tryz.plT _ rfl _ rfl 29 [.slice (some ⟨gP, oP, none⟩) cn cc, .slice hA hn hc] (HP.out.grown hSw (by simp)) rfl) hHeld ?_
     (try simp only [Act.put, l1_, l2_, l3_])
     refine H_take (k := 4) (v := ?_) (by rfl) (by kernel_rfl) (by kernel_rfl) (by kernel_rfl) (by exact fun _ _ _ h => h) (by rfl) ?_ (by assumption) ?_
     rotate_left 1
     · intro w hSw
       (try dsimp only at hSw)
       go_simp
       (try with_reducible rfl)
     (try simp only [Act.put, l1_, l2_, l3_])
     refine H_run (k := 5) (by rfl) (by kernel_rfl) (by rfl) (fun K hK => ?_)
     go_simp
     refine (contextAtR_any lo ⟨some ⟨gP, oP, none⟩, cn, cc, hA, hn, hc, ctxs, hours⟩ ykey _ (H0.out.ctxs.grown (gr_drew HG.out) gn_) (by dsimp only; omega)).mono ?_
     rintro e w3 ⟨rfl, hg3'⟩
     dsimp only
     rw [HKI.out]
     have hg3 := gr_none (gr_drew (gr_refl wv none)) hg3'
     refine hK _ _ hg3 ?_
     clear hK K hHeld hg3'
     have hHeld := hg3
     refine H_take (k := 6) (v := ?_) (by rfl) (by kernel_rfl) (by kernel_rfl) (by kernel_rfl) (by exact fun _ _ _ h => h) (by rfl) ?_ (by assumption) ?_
     rotate_left 1
     · intro w hSw
       (try dsimp only at hSw)
       go_simp
       (try with_reducible rfl)
     (try simp only [Act.put, l1_, l2_, l3_])
     refine H_take (k := 7) (v := ?_) (by rfl) (by kernel_rfl) (by kernel_rfl) (by kernel_rfl) (by exact fun _ _ _ h => h) (by rfl) ?_ (by assumption) ?_
     rotate_left 1
     · intro w hSw
       (try dsimp only at hSw)
       go_simp
       (try with_reducible rfl)
     (try simp only [Act.put, l1_, l2_, l3_])
     refine H_take (k := 8) (v := ?_) (by rfl) (by kernel_rfl) (by kernel_rfl) (by kernel_rfl) (by exact fun _ _ _ h => h) (by rfl) ?_ hHeld ?_
     rotate_left 1
     · intro w' hSw
       have kc := (H0.out.ctxs.grown (gr_none HG.out hSw) gn_).at_ CxV.row_len HQ2.out 1 _ rfl
       go_simp
       (try with_reducible rfl)
     (try simp only [Act.put, l1_, l2_, l3_])
     refine H_take (k := 9) (v := ?_) (by rfl) (by kernel_rfl) (by kernel_rfl) (by kernel_rfl) (by exact fun _ _ _ h => h) (by rfl) ?_ (by assumption) ?_
     rotate_left 1
     · intro w hSw
       (try dsimp only at hSw)
       go_simp
       (try with_reducible rfl)
     (try simp only [Act.put, l1_, l2_, l3_])
     refine H_take (k := 10) (v := ?_) (by rfl) (by kernel_rfl) (by kernel_rfl) (by kernel_rfl) (by exact fun _ _ _ h => h) (by rfl) ?_ (by assumption) ?_
     rotate_left 1
     · intro w hSw
       (try dsimp only at hSw)
       go_simp
       (try with_reducible rfl)
     (try simp only [Act.put, l1_, l2_, l3_])
     refine H_take (k := 11) (v := ?_) (by rfl) (by kernel_rfl) (by kernel_rfl) (by kernel_rfl) (by exact fun _ _ _ h => h) (by rfl) ?_ (by assumption) ?_
     rotate_left 1
     · intro w hSw
       (try dsimp only at hSw)
       go_simp
       (try with_reducible rfl)
     (try simp only [Act.put, l1_, l2_, l3_])
     refine H_done (by kernel_rfl) ?_
     clear hHeld
     clear hsum
     replace HG := Lib.hid (gr_none HG.out hg3)
     replace HP := Lib.hid (HP.out.grown hg3 (by simp))
     replace HOB := Lib.hid (HOB.out.low hg3 gn_)
     clear hg3
     go_wp2_with fail
     go_roundw
     case rel => exact ⟨k + 1, by omega, by go_num, by rw [HMS.out]; go_num, HG.out, HP.out, HOB.out, by rw [HMS.out]; omega⟩
     case measure => simp [intOf]; omega
   · have hkm : k = m := by omega
     have dkm : decide ((k : Int) < (m : Int)) = false := decide_eq_false (by omega)
     obtain ⟨M, hM⟩ : ∃ M, manyR L k = M := ⟨_, rfl⟩
     have HMM := Lib.hid (show manyR L L.length = M by rw [HLm.out, ← hkm]; exact hM)
     rw [hM] at hmr ⊢
     clear hM
     by_cases h12 : 12 < M
     · have d12 : decide ((12 : Int) < (M : Int)) = true := decide_eq_true (by omega)
       have d12' : decide (12 < M) = true := decide_eq_true h12
       have HV := Lib.hid (show hiE 0 L = 2 from hiE_big (by rw [HMM.out]; exact h12))
       clear hkm h12
       go_wp2_with fail
       go_ret2
       exact ⟨none, 0, 0, r, HORD.out, HND.out, HBD.out, by dsimp only; rw [HLL.out, HV.out]; rfl, by dsimp only; rw [HLL.out, hiL_no (by rw [HV.out]; decide)]; exact OwnR.nil _ _ _, HG.out, by omega⟩
     · have d12 : decide ((12 : Int) < (M : Int)) = false := decide_eq_false (by omega)
       have d12' : decide (12 < M) = false := decide_eq_false h12
       have HV := Lib.hid (show hiE 0 L = 0 from hiE_ok (by rw [HMM.out]; exact h12))
       have HVL := Lib.hid (show hiL 0 L = hdL L L.length from hiL_ok (by rw [HMM.out]; exact h12))
       have HM12 := Lib.hid (show ∀ j, j ≤ m → manyR L j ≤ 12 from fun j hj => by have := manyR_mono L (show j ≤ L.length by rw [HLm.out]; exact hj); rw [HMM.out] at this; omega)
       have HPRX := Lib.hid (show ∀ c ∈ L, ∀ r ∈ c.rules, ∃ y, patX (nb r.pat) = some y from fun c hc r hr => by
         have hcm := pickC_mem (by rw [HLL.out]; exact hc)
         obtain ⟨i, hi⟩ := List.mem_iff_getElem?.1 hcm
         exact (cx_rules (H0.out.cok c hcm).rules.len (HPR.out.cx i c hi) r hr).pat)
       clear hkm h12
       clear HOB
       go_wp2_with (first
         | (refine wpl_load_all Tryz.plT rfl _ rfl _ rfl _ _ HP.out rfl ?_)
         | fail)
       refine (orderOf_any lo ⟨some ⟨gP, oP, none⟩, cn, cc, hA, hn, hc, ctxs, hours⟩ i z0 _ (H0.out.grown HG.out gn_) HPR.out.mis HKY1.out HZ0.out hcn HEN.out).mono ?_
       rintro e w2 ⟨B, m', d, r', rfl, hob, hord, hnd, hbd, hm50', hg2⟩
       obtain rfl : r = r' := HORD.out.det hord
       obtain rfl : m = m' := by have h1 := hob.2; rw [keys_len] at h1; rw [← HRLm.out]; exact h1
       have HOB := Lib.hid (hob.lower (show w.heap.size ≤ wr.heap.size from HG.out.size))
       clear hob hord hnd hbd
       replace HP := Lib.hid (HP.out.grown hg2 (by simp))
       replace HG := Lib.hid (gr_none HG.out hg2)
       clear hg2
       obtain ⟨wo, rfl⟩ : ∃ wo : World, wo = wr := ⟨_, rfl⟩
       go_wp2_with fail
       go_loopw [9, 10, 12, 13, 14, 15, 16, 17, 18, 19, 21, 48] (fun v9 v10 _ _ _ _ _ _ _ _ _ t48 wr => ∃ (k : Nat) (A10 : Option Addr) (n10 c10 : Nat) (A9o : Option Addr) (n9o c9o : Nat), k ≤ m ∧ t48 = .int .i64 k ∧ v10 = .slice A10 n10 c10 ∧ v9 = .slice A9o n9o c9o ∧ w.grownBy wr none ∧ Blk wr w.heap.size 29 #[.slice (some ⟨gP, oP, none⟩) cn cc, .slice hA hn hc] ∧ OwnR srow 1 wr w.heap.size 9 B m d (keysOf ctxs r) ∧ OwnR srow 1 wr w.heap.size 9 A10 n10 c10 ((eaL L k).map (·.pat)) ∧ OwnR HidV.row 5 wr w.heap.size 49 A9o n9o c9o (hdL L k) ∧ (∀ g', blkOf A10 = some g' → blkOf B ≠ some g')) (fun _ _ _ _ _ _ _ _ _ _ _ t48 _ => m - (intOf t48).toNat)
       case atStart => exact ⟨0, none, 0, 0, none, 0, 0, Nat.zero_le _, rfl, rfl, rfl, HG.out, HP.out, HOB.out, OwnR.nil _ _ _, OwnR.nil _ _ _, (fun g' e => by cases e)⟩
       case round =>
         clear HG HP HOB hmr
         obtain ⟨k0, rfl⟩ : ∃ k0 : Nat, k0 = k := ⟨_, rfl⟩
         obtain ⟨k, A10, n10, c10, A9o, n9o, c9o, hk, rfl, rfl, rfl, hg, hp, hob, hps, hou, hne⟩ := hrel
         have HG := Lib.hid hg; have HP := Lib.hid hp; have HOB := Lib.hid hob; have HPS := Lib.hid hps; have HOU := Lib.hid hou; have HNE := Lib.hid hne
         clear hg hp hob hps hou hne
         by_cases hlt : k < m
         · have dkm : decide ((k : Int) < (m : Int)) = true := decide_eq_true (by omega)
           obtain ⟨gB, oB, s, hBA, _, hgB, hs, hcs⟩ := HOB.out.recs.get srow_len hlt
           subst hBA
           obtain ⟨q, ⟨ykey, yrA, yrn, yrc, yiA, yen, yic, yrules, yincs⟩, hq1, hq2, hq3⟩ := keys_get hs HBD.out
           subst hq3
           have ks := hcs 0 _ rfl
           simp only [Nat.mul_one, Nat.add_zero] at ks
           have hqn : q < cn := by rw [← HLEN.out]; exact (List.getElem?_eq_some_iff.1 hq2).1
           have hqn2 : (q : Int) < (cn : Int) := by omega
           have HQ2 := Lib.hid hq2
           have HLK := Lib.hid (pickC_get HBD.out hq1 hq2)
           have HKI := Lib.hid (cxIx_at HKY1.out hq2 rfl)
           have HCO := Lib.hid (H0.out.cok _ (mem_of_get hq2))
           have hcr := HPR.out.cx q _ hq2
           have hcrn : yrn ≤ 200 := hcr.rn
           have HRL := Lib.hid (show yrules.length = yrn from HCO.out.rules.len)
           have HRR := Lib.hid (show ∀ r ∈ yrules, RuRight hours r from cx_rules HCO.out.rules.len hcr)
           have HMS := Lib.hid (show manyR L (k + 1) = manyR L k + yrn by rw [← HLL.out, manyR_succ HLK.out]; dsimp only; rw [HRL.out])
           rw [HLL.out] at HLK
           clear hs hcs hq1 hgB hcr
           obtain ⟨g, o, y', hcA, _, hgl, hy', hcc⟩ := H0.out.ctxs.get CxV.row_len hqn
           dsimp only at hcA hy'
           obtain ⟨rfl, rfl⟩ : gP = g ∧ oP = o := by injection hcA with e; injection e with e1 e2; exact ⟨e1, e2⟩
           clear hy' hcc hq2 hgl hcA
           have HEA := Lib.hid (show ∀ r1 : RuV, ∀ ii : Nat, ∀ q' ∈ eaL L k ++ oTo yrules r1 ii yrules.length, ∃ y, patX (nb q'.pat) = some y from fun r1 ii q' hq' => ea_pat (fun c hc => HPRX.out c hc) (fun r hr => HRR.out r hr) hq')
           go_upto_region 14 with (fail)
           clear ks
           obtain ⟨wv, rfl⟩ : ∃ wv : World, wv = wr := ⟨_, rfl⟩
           refine H_begin (fun w' => wv.grownBy w' none) (by kernel_rfl) ?_
           have hHeld : wv.grownBy wv.drew none := gr_drew (gr_refl _ _)
           refine H_take (k := 0) (v := ?_) (by rfl) (by kernel_rfl) (by kernel_rfl) (by kernel_rfl) (by exact fun _ _ _ h => h) (by rfl) ?_ (by assumption) ?_
           rotate_left 1
           · intro w hSw
             (try dsimp only at hSw)
             go_simp
             (try with_reducible rfl)
           (try simp only [Act.put, l1_, l2_, l3_])
           refine H_take (k := 1) (v := ?_) (by rfl) (by kernel_rfl) (by kernel_rfl) (by kernel_rfl) (by exact fun _ _ _ h => h) (by rfl) ?_ hHeld ?_
           rotate_left 1
           · intro w' hSw
             have kc := (HP.out.grown hSw (by simp)).cell 0
             go_simp
             (try with_reducible rfl)
           (try simp only [Act.put, l1_, l2_, l3_])
           refine H_take (k := 2) (v := .agg #[.slice (some ⟨gP, oP, none⟩) cn cc, .slice hA hn hc]) (by rfl) (by kernel_rfl) (by kernel_rfl) (by kernel_rfl) (by exact fun _ _ _ h => h) (by rfl) (fun w' hSw => exec_load_blk' Tryz.plT _ rfl _ rfl 29 [.slice (some ⟨gP, oP, none⟩) cn cc, .slice hA hn hc] (HP.out.grown hSw (by simp)) rfl) hHeld ?_
           (try simp only [Act.put, l1_, l2_, l3_])
           refine H_take (k := 3) (v := ?_) (by rfl) (by kernel_rfl) (by kernel_rfl) (by kernel_rfl) (by exact fun _ _ _ h => h) (by rfl) ?_ (by assumption) ?_
           rotate_left 1
           · intro w hSw
             (try dsimp only at hSw)
             go_simp
             (try with_reducible rfl)
           (try simp only [Act.put, l1_, l2_, l3_])
           refine H_run (k := 4) (by rfl) (by kernel_rfl) (by rfl) (fun K hK => ?_)
           go_simp
           refine (contextAtR_any lo ⟨some ⟨gP, oP, none⟩, cn, cc, hA, hn, hc, ctxs, hours⟩ ykey _ (H0.out.ctxs.grown (gr_drew HG.out) gn_) (by dsimp only; omega)).mono ?_
           rintro e w3 ⟨rfl, hg3'⟩
           dsimp only
           rw [HKI.out]
           have hg3 := gr_none (gr_drew (gr_refl wv none)) hg3'
           refine hK _ _ hg3 ?_
           clear hK K hHeld hg3'
           have hHeld := hg3
           refine H_take (k := 5) (v := ?_) (by rfl) (by kernel_rfl) (by kernel_rfl) (by kernel_rfl) (by exact fun _ _ _ h => h) (by rfl) ?_ (by assumption) ?_
           rotate_left 1
           · intro w hSw
             (try dsimp only at hSw)
             go_simp
             (try with_reducible rfl)
           (try simp only [Act.put, l1_, l2_, l3_])
           refine H_take (k := 6) (v := ?_) (by rfl) (by kernel_rfl) (by kernel_rfl) (by kernel_rfl) (by exact fun _ _ _ h => h) (by rfl) ?_ (by assumption) ?_
           rotate_left 1
           · intro w hSw
             (try dsimp only at hSw)
             go_simp
             (try with_reducible rfl)
           (try simp only [Act.put, l1_, l2_, l3_])
           refine H_take (k := 7) (v := ?_) (by rfl) (by kernel_rfl) (by kernel_rfl) (by kernel_rfl) (by exact fun _ _ _ h => h) (by rfl) ?_ hHeld ?_
           rotate_left 1
           · intro w' hSw
             have kc := (H0.out.ctxs.grown (gr_none HG.out hSw) gn_).at_ CxV.row_len HQ2.out 1 _ rfl
             go_simp
             (try with_reducible rfl)
           (try simp only [Act.put, l1_, l2_, l3_])
           refine H_take (k := 8) (v := ?_) (by rfl) (by kernel_rfl) (by kernel_rfl) (by kernel_rfl) (by exact fun _ _ _ h => h) (by rfl) ?_ (by assumption) ?_
           rotate_left 1
           · intro w hSw
             (try dsimp only at hSw)
             go_simp
             (try with_reducible rfl)
           (try simp only [Act.put, l1_, l2_, l3_])
           refine H_done (by kernel_rfl) ?_
           clear hHeld
           replace HG := Lib.hid (gr_none HG.out hg3)
           replace HP := Lib.hid (HP.out.grown hg3 (by simp))
           replace HOB := Lib.hid (HOB.out.low hg3 gn_)
           replace HPS := Lib.hid (HPS.out.low hg3 gn_)
           replace HOU := Lib.hid (HOU.out.low hg3 gn_)
           clear hg3
           go_wp2_with fail
           go_loopw [9, 14, 15, 16, 17, 18, 19, 62] (fun v9 _ _ _ _ _ _ t62 wr => ∃ (ii : Nat) (A9o : Option Addr) (n9o c9o : Nat), ii ≤ yrn ∧ t62 = .int .i64 ii ∧ v9 = .slice A9o n9o c9o ∧ w.grownBy wr none ∧ Blk wr w.heap.size 29 #[.slice (some ⟨gP, oP, none⟩) cn cc, .slice hA hn hc] ∧ OwnR srow 1 wr w.heap.size 9 (some ⟨gB, oB, none⟩) m d (keysOf ctxs r) ∧ OwnR srow 1 wr w.heap.size 9 A10 n10 c10 ((eaL L k).map (·.pat)) ∧ OwnR HidV.row 5 wr w.heap.size 49 A9o n9o c9o (hdL L k ++ hdC (eaL L k) ykey yrules ii)) (fun _ _ _ _ _ _ _ t62 _ => yrn - (intOf t62).toNat)
           case atStart => exact ⟨0, A9o, n9o, c9o, Nat.zero_le _, rfl, rfl, HG.out, HP.out, HOB.out, HPS.out, by show OwnR _ _ _ _ _ _ _ _ (hdL L k ++ []); rw [List.append_nil]; exact HOU.out⟩
           case round =>
             clear HG HP HOB HPS HOU
             obtain ⟨ii, A9o, n9o, c9o, hi, rfl, rfl, hg, hp, hob, hps, hou⟩ := hrel
             have HG := Lib.hid hg; have HP := Lib.hid hp; have HOB := Lib.hid hob; have HPS := Lib.hid hps; have HOU := Lib.hid hou
             clear hg hp hob hps hou
             by_cases hil : ii < yrn
             · have dir : decide ((ii : Int) < (yrn : Int)) = true := decide_eq_true (by omega)
               have hcoR := H0.out.cok _ (mem_of_get HQ2.out)
               have hrls := hcoR.rules.grown HG.out gn_
               dsimp only at hrls
               obtain ⟨g1, o1, r1, hrA, _, hgl1, hr1, hcc1⟩ := hrls.get RuV.row_len hil
               subst hrA
               have hru1 := HRR.out r1 (mem_of_get hr1)
               obtain ⟨x1, hx1⟩ := hru1.pat
               have HPX1 := Lib.hid hx1
               have HRS1 := Lib.hid (ruS_some hx1)
               have HRG1 := Lib.hid hr1
               have HRC1 := Lib.hid hcc1
               clear hr1 hcc1 hgl1 hx1 hru1 hcoR hrls
               obtain ⟨wa1, hwa⟩ : ∃ wa, wr.alloc (.cells #[.string r1.pat, .int .i64 r1.strip, .string r1.pre, .int .i64 r1.to_, .string r1.nam, .string r1.hrs] 73) = wa := ⟨_, rfl⟩
               obtain ⟨rb1, hrb⟩ : ∃ rb, wr.heap.size = rb := ⟨_, rfl⟩
               have HRB1 := Lib.hid (show Blk wa1 rb1 73 #[.string r1.pat, .int .i64 r1.strip, .string r1.pre, .int .i64 r1.to_, .string r1.nam, .string r1.hrs] by rw [← hwa, ← hrb]; exact Blk.new _ _ _)
               have hga : wr.grownBy wa1 none := by rw [← hwa]; exact gr_alloc (gr_refl _ _) _
               have HWA := Lib.hid hwa; have HRBB := Lib.hid hrb; clear hwa hrb
               go_upto_region 18 with (first
                 | (refine wpl_load_at Tryz.ruT rfl _ rfl _ rfl [.string r1.pat, .int .i64 r1.strip, .string r1.pre, .int .i64 r1.to_, .string r1.nam, .string r1.hrs] rfl (fun j u hu => by rw [add_mk]; exact HRC1.out j u hu) ?_)
                 | fail)
               rw [HWA.out]
               (try rw [HRBB.out])
               clear HWA HRC1 HRBB
               replace HG := Lib.hid (gr_none HG.out hga)
               replace HP := Lib.hid (HP.out.grown hga (by simp))
               replace HOB := Lib.hid (HOB.out.low hga gn_)
               replace HPS := Lib.hid (HPS.out.low hga gn_)
               replace HOU := Lib.hid (HOU.out.low hga gn_)
               clear hga
               have hn10 : n10 ≤ 12 := by
                 have h1 := HPS.out.2
                 rw [List.length_map] at h1
                 have h4 := eaL_len L k
                 have h5 := HM12.out k (by omega)
                 omega
               obtain ⟨wI, rfl⟩ : ∃ wI : World, wI = wa1 := ⟨_, rfl⟩
               have HGb := Lib.hid HG.out
               obtain ⟨loc, hloc⟩ : ∃ loc, wI.heap.size = loc := ⟨_, rfl⟩
               have HLC := Lib.hid hloc
               have zwl : w.heap.size ≤ loc := by have := HGb.out.size; omega
               clear hloc
               go_wp2_with fail
               refine (cloneS_any w.heap.size A10 n10 c10 ((eaL L k).map (·.pat)) _ HPS.out.recs (by omega)).mono ?_
               rintro e w7 ⟨A16, c16, rfl, hc9, hg7⟩
               have HC9 := Lib.hid (show OwnR srow 1 w7 loc 9 A16 n10 c16 ((eaL L k).map (·.pat)) by rw [← HLC.out]; exact hc9)
               have HGI := Lib.hid hg7
               clear hc9 hg7
               obtain ⟨wo3, rfl⟩ : ∃ wo3 : World, wo3 = wr := ⟨_, rfl⟩
               go_wp2_with fail
               go_loopw [16, 17, 18, 19, 71] (fun v16 _ _ _ t71 wr => ∃ (j : Nat) (A16 : Option Addr) (n16 c16 : Nat) (E16 : List RuV), j ≤ yrn ∧ t71 = .int .i64 j ∧ v16 = .slice A16 n16 c16 ∧ wI.grownBy wr none ∧ OwnR srow 1 wr loc 9 A16 n16 c16 (E16.map (·.pat)) ∧ E16 = eaL L k ++ oTo yrules r1 ii j) (fun _ _ _ _ t71 _ => yrn - (intOf t71).toNat)
               case atStart => exact ⟨0, A16, n10, c16, eaL L k, Nat.zero_le _, rfl, rfl, HGI.out, HC9.out, by show _ = eaL L k ++ []; rw [List.append_nil]⟩
               case round =>
                 clear HGI HC9
                 obtain ⟨j, A16, n16, c16, E16, hj, rfl, rfl, hgi, hpo, hsh⟩ := hrel
                 have HGI := Lib.hid hgi; have HPO := Lib.hid hpo; have HSH := Lib.hid hsh
                 have HG := Lib.hid (gr_none HGb.out HGI.out)
                 have zloc : loc ≤ wr.heap.size := by have := HGI.out.size; have := HLC.out; omega
                 have hn16 : n16 ≤ 1000 := by
                   have h1 := hpo.2
                   rw [List.length_map, hsh, List.length_append] at h1
                   have h3 := oTo_len yrules r1 ii j
                   have h4 := eaL_len L k
                   have h5 := HM12.out k (by omega)
                   omega
                 clear hgi hpo hsh
                 by_cases hjl : j < yrn
                 · have djr : decide ((j : Int) < (yrn : Int)) = true := decide_eq_true (by omega)
                   have hcoR := H0.out.cok _ (mem_of_get HQ2.out)
                   have hrls := hcoR.rules.grown HG.out gn_
                   dsimp only at hrls
                   obtain ⟨g2, o2, r2, hrA, _, hgl2, hr2, hcc2⟩ := hrls.get RuV.row_len hjl
                   obtain ⟨rfl, rfl⟩ : g1 = g2 ∧ o1 = o2 := by injection hrA with e; injection e with e1 e2; exact ⟨e1, e2⟩
                   clear hrA
                   have hru2 := HRR.out r2 (mem_of_get hr2)
                   obtain ⟨x2, hx2⟩ := hru2.pat
                   have HPX2 := Lib.hid hx2
                   have HRS2 := Lib.hid (ruS_some hx2)
                   have HRG2 := Lib.hid hr2
                   have HRC2 := Lib.hid hcc2
                   clear hr2 hcc2 hgl2 hx2 hru2 hcoR hrls
                   obtain ⟨wa2, hwa⟩ : ∃ wa, wr.alloc (.cells #[.string r2.pat, .int .i64 r2.strip, .string r2.pre, .int .i64 r2.to_, .string r2.nam, .string r2.hrs] 73) = wa := ⟨_, rfl⟩
                   obtain ⟨rb2, hrb⟩ : ∃ rb, wr.heap.size = rb := ⟨_, rfl⟩
                   have HRB2 := Lib.hid (show Blk wa2 rb2 73 #[.string r2.pat, .int .i64 r2.strip, .string r2.pre, .int .i64 r2.to_, .string r2.nam, .string r2.hrs] by rw [← hwa, ← hrb]; exact Blk.new _ _ _)
                   have hga : wr.grownBy wa2 none := by rw [← hwa]; exact gr_alloc (gr_refl _ _) _
                   have HWA := Lib.hid hwa; have HRBB := Lib.hid hrb; clear hwa hrb
                   go_upto_region 22 with (first
                     | (refine wpl_load_at Tryz.ruT rfl _ rfl _ rfl [.string r2.pat, .int .i64 r2.strip, .string r2.pre, .int .i64 r2.to_, .string r2.nam, .string r2.hrs] rfl (fun j u hu => by rw [add_mk]; exact HRC2.out j u hu) ?_)
                     | fail)
                   rw [HWA.out]
                   (try rw [HRBB.out])
                   clear HWA HRC2 HRBB
                   replace HG := Lib.hid (gr_none HG.out hga)
                   replace HGI := Lib.hid (gr_none HGI.out hga)
                   replace HPO := Lib.hid (HPO.out.low hga gn_)
                   clear hga
                   obtain ⟨D, hD⟩ : ∃ D, befL x2 x1 = D := ⟨_, rfl⟩
                   have HD := Lib.hid hD; clear hD
                   have HRB1w := Lib.hid (HRB1.out.grown HGI.out (by simp))
                   have kr0 := HRB2.out.cell 0
                   have kr1 := HRB1w.out.cell 0
                   go_wp2_with fail
                   clear kr0 kr1
                   refine (beforeOf_any r2.pat r1.pat x2 x1 _ HPX2.out HPX1.out).mono ?_
                   rintro e w8 ⟨rfl, hg8⟩
                   rw [HD.out]
                   replace HRB2 := Lib.hid (HRB2.out.grown hg8 (by simp))
                   replace HG := Lib.hid (gr_none HG.out hg8)
                   replace HGI := Lib.hid (gr_none HGI.out hg8)
                   replace HPO := Lib.hid (HPO.out.low hg8 gn_)
                   clear hg8 HRB1w
                   have kr5 := HRB2.out.cell 5
                   have kr0 := HRB2.out.cell 0
                   have z8 : loc ≤ w8.heap.size := by have := HGI.out.size; have := HLC.out; omega
                   by_cases hh : nb r2.hrs = []
                   · have q0 := str_nil hh
                     have dD := (by omega : D < 0 ∨ D = 0 ∨ 0 < D)
                     rcases dD with h0 | h0 | h0
                     · have e1 : decide (D < 0) = true := decide_eq_true h0
                       have HBF := Lib.hid (show befB r1 r2 ii j = true by unfold befB; rw [HRS2.out, HRS1.out, HD.out, decide_eq_true hh, e1]; rfl)
                       clear hh
                       go_upto_region 24 with (fail)
                       clear q0 kr5
                       go_wp2_with (first
                         | (at_builtin
                            refine wpl_app _ rfl _ _ Tryz.stT rfl loc A16 n16 c16 _ rfl (by exact HPO.out.1.alloc _) _ _ 1 1 [.string r2.pat] rfl (by exact Reads.one _ _ _ _ rfl) (by simp [Value.oneCell']) (by unfold maxLen; omega) (by omega) (by simp; omega) ?_
                            intro A9 c9 w9 h9
                            have H9 := Lib.hid h9; clear h9)
                         | fail)
                       have hgal := gr_alloc (gr_refl w8 none) (.cells #[.string r2.pat] 9)
                       have hpo := HPO.out.low hgal gn_
                       have hgi9 : wI.grownBy w9 none := gr_trans (gr_none HGI.out hgal) H9.out.2.1 (fun g e => .inr (by have := (hpo.1.lt e).1; have := HLC.out; omega))
                       go_roundw
                       case rel => exact ⟨j + 1, A9, n16 + 1, c9, E16 ++ [r2], by omega, by go_num, rfl, hgi9, by rw [List.map_append]; exact hpo.app (a := r2.pat) rfl H9.out, by rw [HSH.out, oTo_yes HRG2.out HBF.out, ← List.append_assoc]⟩
                       case measure => simp [intOf]; omega
                     · have e1 : decide (D < 0) = false := decide_eq_false (by omega)
                       have e2 : (D == 0) = true := by rw [beq_iff_eq]; exact h0
                       by_cases hqi : j < ii
                       · have e3 : decide ((j : Int) < (ii : Int)) = true := decide_eq_true (by omega)
                         have e3' : decide (j < ii) = true := decide_eq_true hqi
                         have HBF := Lib.hid (show befB r1 r2 ii j = true by unfold befB; rw [HRS2.out, HRS1.out, HD.out, decide_eq_true hh, e1, decide_eq_true h0, e3']; rfl)
                         clear hh h0 hqi
                         go_upto_region 24 with (fail)
                         clear q0 kr5
                         go_wp2_with (first
                           | (at_builtin
                              refine wpl_app _ rfl _ _ Tryz.stT rfl loc A16 n16 c16 _ rfl (by exact HPO.out.1.alloc _) _ _ 1 1 [.string r2.pat] rfl (by exact Reads.one _ _ _ _ rfl) (by simp [Value.oneCell']) (by unfold maxLen; omega) (by omega) (by simp; omega) ?_
                              intro A9 c9 w9 h9
                              have H9 := Lib.hid h9; clear h9)
                           | fail)
                         have hgal := gr_alloc (gr_refl w8 none) (.cells #[.string r2.pat] 9)
                         have hpo := HPO.out.low hgal gn_
                         have hgi9 : wI.grownBy w9 none := gr_trans (gr_none HGI.out hgal) H9.out.2.1 (fun g e => .inr (by have := (hpo.1.lt e).1; have := HLC.out; omega))
                         go_roundw
                         case rel => exact ⟨j + 1, A9, n16 + 1, c9, E16 ++ [r2], by omega, by go_num, rfl, hgi9, by rw [List.map_append]; exact hpo.app (a := r2.pat) rfl H9.out, by rw [HSH.out, oTo_yes HRG2.out HBF.out, ← List.append_assoc]⟩
                         case measure => simp [intOf]; omega
                       · have e3 : decide ((j : Int) < (ii : Int)) = false := decide_eq_false (by omega)
                         have e3' : decide (j < ii) = false := decide_eq_false hqi
                         have HBF := Lib.hid (show befB r1 r2 ii j = false by unfold befB; rw [HRS2.out, HRS1.out, HD.out, e1, decide_eq_true h0, e3']; simp)
                         clear hh h0 hqi
                         go_upto_region 25 with (fail)
                         clear q0 kr5 kr0
                         go_wp2_with fail
                         go_roundw
                         case rel => exact ⟨j + 1, A16, n16, c16, E16, by omega, by go_num, rfl, HGI.out, HPO.out, by rw [oTo_no HRG2.out HBF.out]; exact HSH.out⟩
                         case measure => simp [intOf]; omega
                     · have e1 : decide (D < 0) = false := decide_eq_false (by omega)
                       have e2 : (D == 0) = false := by rw [beq_eq_false_iff_ne]; omega
                       have HBF := Lib.hid (show befB r1 r2 ii j = false by unfold befB; rw [HRS2.out, HRS1.out, HD.out, e1, decide_eq_false (show ¬ D = 0 by omega)]; simp)
                       clear hh
                       go_upto_region 25 with (fail)
                       clear q0 kr5 kr0
                       go_wp2_with fail
                       go_roundw
                       case rel => exact ⟨j + 1, A16, n16, c16, E16, by omega, by go_num, rfl, HGI.out, HPO.out, by rw [oTo_no HRG2.out HBF.out]; exact HSH.out⟩
                       case measure => simp [intOf]; omega
                   · obtain ⟨q1, q2, q3⟩ := str_full hh
                     have HBF := Lib.hid (show befB r1 r2 ii j = false by unfold befB; rw [decide_eq_false hh]; rfl)
                     clear hh
                     go_upto_region 25 with (fail)
                     clear q1 q2 q3 kr5 kr0
                     go_wp2_with fail
                     go_roundw
                     case rel => exact ⟨j + 1, A16, n16, c16, E16, by omega, by go_num, rfl, HGI.out, HPO.out, by rw [oTo_no HRG2.out HBF.out]; exact HSH.out⟩
                     case measure => simp [intOf]; omega
                 · have hjc : j = yrn := by omega
                   have djr : decide ((j : Int) < (yrn : Int)) = false := decide_eq_false (by omega)
                   have HSHF := Lib.hid (show E16 = eaL L k ++ oTo yrules r1 ii yrules.length by rw [HRL.out, ← hjc]; exact HSH.out)
                   clear hjc
                   have hn12 : n16 ≤ 12 := by
                     have h1 := HPO.out.2
                     rw [List.length_map, HSHF.out, List.length_append] at h1
                     have h3 := oTo_len yrules r1 ii yrules.length
                     have h4 := eaL_len L k
                     have h5 := HM12.out (k + 1) (by omega)
                     rw [HMS.out] at h5
                     have h6 := HRL.out
                     omega
                   obtain ⟨CV, hCV⟩ : ∃ CV, covB x1 ((E16.map (·.pat)).map shS) = CV := ⟨_, rfl⟩
                   have HCV := Lib.hid hCV
                   have HHB := Lib.hid (show hidB (eaL L k) yrules r1 ii = CV by
                     unfold hidB
                     rw [HRS1.out, ← HSHF.out]
                     rw [List.map_map] at hCV
                     exact hCV)
                   clear hCV
                   have HALL := Lib.hid (show ∀ s ∈ E16.map (·.pat), ∃ y, patX (nb s) = some y from fun s hs => by
                     obtain ⟨q', hq', rfl⟩ := List.mem_map.1 hs
                     rw [HSHF.out] at hq'
                     exact HEA.out r1 ii q' hq')
                   have HRB1w := Lib.hid (HRB1.out.grown HGI.out (by simp))
                   have kr1 := HRB1w.out.cell 0
                   go_wp2_with fail
                   clear kr1
                   refine (coveredD_any loc r1.pat x1 A16 n16 c16 (E16.map (·.pat)) _ HPX1.out HPO.out.recs HALL.out hn12).mono ?_
                   rintro e wv2 ⟨rfl, hgv⟩
                   rw [HCV.out]
                   have HGV := Lib.hid (gr_none HGI.out hgv)
                   have HG := Lib.hid (gr_none HGb.out HGV.out)
                   have HP2 := Lib.hid (HP.out.grown HGV.out (by simp))
                   have HOB2 := Lib.hid (HOB.out.low HGV.out gn_)
                   have HPS2 := Lib.hid (HPS.out.low HGV.out gn_)
                   have HOU2 := Lib.hid (HOU.out.low HGV.out gn_)
                   have HRB3 := Lib.hid (HRB1.out.grown HGV.out (by simp))
                   clear hgv
                   cases CV
                   · have HHD := Lib.hid (show hdC (eaL L k) ykey yrules (ii + 1) = hdC (eaL L k) ykey yrules ii by rw [hdC_succ HRG1.out, if_neg (by rw [HHB.out]; decide), List.append_nil])
                     go_wp2_with fail
                     go_roundw
                     case rel => exact ⟨ii + 1, A9o, n9o, c9o, by omega, by go_num, rfl, HG.out, HP2.out, HOB2.out, HPS2.out, by rw [HHD.out]; exact HOU2.out⟩
                     case measure => simp [intOf]; omega
                   · have HHD := Lib.hid (show hdC (eaL L k) ykey yrules (ii + 1) = hdC (eaL L k) ykey yrules ii ++ [⟨ykey, ii, r1.to_, r1.nam⟩] by rw [hdC_succ HRG1.out, if_pos (by rw [HHB.out])])
                     have hn2 : n9o ≤ 1000 := by
                       have h1 := HOU2.out.2
                       rw [List.length_append] at h1
                       have h2 := hdL_len L k
                       have h3 := hdC_len (eaL L k) ykey yrules ii
                       have h4 := HM12.out k (by omega)
                       omega
                     have kr3 := HRB3.out.cell 3
                     have kr4 := HRB3.out.cell 4
                     have zwv : w.heap.size ≤ wv2.heap.size := HG.out.size
                     go_wp2_with (first
                       | (at_builtin
                          refine wpl_app _ rfl _ _ Tryz.hisT rfl w.heap.size A9o n9o c9o _ rfl (by exact HOU2.out.1.alloc _) _ _ 1 1 [.string ykey, .int .i64 ii, .int .i64 r1.to_, .string r1.nam, .string ⟨#[]⟩] rfl (by exact Reads.one _ _ _ _ rfl) (by simp [Value.oneCell']) (by unfold maxLen; omega) (by omega) (by simp; omega) ?_
                          intro A9 c9 w9 h9
                          have H9 := Lib.hid h9; clear h9)
                       | fail)
                     have hgal := gr_alloc (gr_refl wv2 none) (.cells #[.string ykey, .int .i64 ii, .int .i64 r1.to_, .string r1.nam, .string ⟨#[]⟩] 49)
                     have hou := HOU2.out.low hgal gn_
                     have hob := HOB2.out.low hgal gn_
                     have hps := HPS2.out.low hgal gn_
                     have hcb := HP2.out.grown hgal (by simp)
                     have hg9 : w.grownBy w9 none := gr_trans (gr_none HG.out hgal) H9.out.2.1 (fun g e => .inr (by have := (hou.1.lt e).1; omega))
                     go_roundw
                     case rel => exact ⟨ii + 1, A9, n9o + 1, c9, by omega, by go_num, rfl, hg9, hcb.grown H9.out.2.1 (Ne.symm (hou.1.blk_ne hcb (by decide))), hob.kept H9.out.2.1 (fun _ e => Own.ne hou.1 hob.1 (by decide) e), hps.kept H9.out.2.1 (fun _ e => Own.ne hou.1 hps.1 (by decide) e), by rw [HHD.out, ← List.append_assoc]; exact hou.app (a := ⟨ykey, ii, r1.to_, r1.nam⟩) rfl H9.out⟩
                     case measure => simp [intOf]; omega
             · have hic : ii = yrn := by omega
               have dir : decide ((ii : Int) < (yrn : Int)) = false := decide_eq_false (by omega)
               have HHF := Lib.hid (show hdL L k ++ hdC (eaL L k) ykey yrules ii = hdL L (k + 1) by rw [hdL_succ HLK.out, hic]; dsimp only; rw [HRL.out])
               clear hic
               obtain ⟨wo4, rfl⟩ : ∃ wo4 : World, wo4 = wr := ⟨_, rfl⟩
               go_wp2_with fail
               go_loopw [10, 21, 120] (fun v10 _ t120 wr => ∃ (j : Nat) (A10 : Option Addr) (n10 c10 : Nat), j ≤ yrn ∧ t120 = .int .i64 j ∧ v10 = .slice A10 n10 c10 ∧ w.grownBy wr none ∧ Blk wr w.heap.size 29 #[.slice (some ⟨gP, oP, none⟩) cn cc, .slice hA hn hc] ∧ OwnR srow 1 wr w.heap.size 9 (some ⟨gB, oB, none⟩) m d (keysOf ctxs r) ∧ OwnR srow 1 wr w.heap.size 9 A10 n10 c10 ((eaL L k ++ eaC yrules j).map (·.pat)) ∧ OwnR HidV.row 5 wr w.heap.size 49 A9o n9o c9o (hdL L (k + 1)) ∧ (∀ g', blkOf A10 = some g' → blkOf (some (⟨gB, oB, none⟩ : Addr)) ≠ some g')) (fun _ _ t120 _ => yrn - (intOf t120).toNat)
               case atStart => exact ⟨0, A10, n10, c10, Nat.zero_le _, rfl, rfl, HG.out, HP.out, HOB.out, by show OwnR _ _ _ _ _ _ _ _ ((eaL L k ++ []).map _); rw [List.append_nil]; exact HPS.out, by rw [← HHF.out]; exact HOU.out, HNE.out⟩
               case round =>
                 clear HG HP HOB HPS HOU HNE
                 obtain ⟨j, A10, n10, c10, hj, rfl, rfl, hg, hp, hob, hps, hou, hne⟩ := hrel
                 have HG := Lib.hid hg; have HP := Lib.hid hp; have HOB := Lib.hid hob; have HPS := Lib.hid hps; have HOU := Lib.hid hou; have HNE := Lib.hid hne
                 have hn10 : n10 ≤ 1000 := by
                   have h1 := hps.2
                   rw [List.length_map, List.length_append] at h1
                   have h3 := eaC_len yrules j
                   have h4 := eaL_len L k
                   have h5 := HM12.out k (by omega)
                   omega
                 clear hg hp hob hps hou hne
                 by_cases hjl : j < yrn
                 · have djr : decide ((j : Int) < (yrn : Int)) = true := decide_eq_true (by omega)
                   have hcoR := H0.out.cok _ (mem_of_get HQ2.out)
                   have hrls := hcoR.rules.grown HG.out gn_
                   dsimp only at hrls
                   obtain ⟨g3, o3, r3, hrA, _, hgl3, hr3, hcc3⟩ := hrls.get RuV.row_len hjl
                   subst hrA
                   have hru3 := HRR.out r3 (mem_of_get hr3)
                   obtain ⟨x3, hx3⟩ := hru3.pat
                   have HPX3 := Lib.hid hx3
                   have HRS3 := Lib.hid (ruS_some hx3)
                   have HRG3 := Lib.hid hr3
                   have HRC3 := Lib.hid hcc3
                   clear hr3 hcc3 hgl3 hx3 hru3 hcoR hrls
                   obtain ⟨wa3, hwa⟩ : ∃ wa, wr.alloc (.cells #[.string r3.pat, .int .i64 r3.strip, .string r3.pre, .int .i64 r3.to_, .string r3.nam, .string r3.hrs] 73) = wa := ⟨_, rfl⟩
                   obtain ⟨rb3, hrb⟩ : ∃ rb, wr.heap.size = rb := ⟨_, rfl⟩
                   have HRB3 := Lib.hid (show Blk wa3 rb3 73 #[.string r3.pat, .int .i64 r3.strip, .string r3.pre, .int .i64 r3.to_, .string r3.nam, .string r3.hrs] by rw [← hwa, ← hrb]; exact Blk.new _ _ _)
                   have hga : wr.grownBy wa3 none := by rw [← hwa]; exact gr_alloc (gr_refl _ _) _
                   have HWA := Lib.hid hwa; have HRBB := Lib.hid hrb; clear hwa hrb
                   go_upto_region 32 with (first
                     | (refine wpl_load_at Tryz.ruT rfl _ rfl _ rfl [.string r3.pat, .int .i64 r3.strip, .string r3.pre, .int .i64 r3.to_, .string r3.nam, .string r3.hrs] rfl (fun j u hu => by rw [add_mk]; exact HRC3.out j u hu) ?_)
                     | fail)
                   rw [HWA.out]
                   (try rw [HRBB.out])
                   clear HWA HRC3 HRBB
                   replace HG := Lib.hid (gr_none HG.out hga)
                   replace HP := Lib.hid (HP.out.grown hga (by simp))
                   replace HOB := Lib.hid (HOB.out.low hga gn_)
                   replace HPS := Lib.hid (HPS.out.low hga gn_)
                   replace HOU := Lib.hid (HOU.out.low hga gn_)
                   clear hga
                   have kr5 := HRB3.out.cell 5
                   have kr0 := HRB3.out.cell 0
                   have zx : w.heap.size ≤ wa3.heap.size := HG.out.size
                   by_cases hh : nb r3.hrs = []
                   · have q0 := str_nil hh
                     have HHH := Lib.hid hh
                     clear hh
                     go_upto_region 33 with (fail)
                     clear q0 kr5
                     go_wp2_with (first
                       | (at_builtin
                          refine wpl_app _ rfl _ _ Tryz.stT rfl w.heap.size A10 n10 c10 _ rfl (by exact HPS.out.1.alloc _) _ _ 1 1 [.string r3.pat] rfl (by exact Reads.one _ _ _ _ rfl) (by simp [Value.oneCell']) (by unfold maxLen; omega) (by omega) (by simp; omega) ?_
                          intro A9 c9 w9 h9
                          have H9 := Lib.hid h9; clear h9)
                       | fail)
                     have hgal := gr_alloc (gr_refl wa3 none) (.cells #[.string r3.pat] 9)
                     have hpo := HPS.out.low hgal gn_
                     have hou := HOU.out.low hgal gn_
                     have hob := HOB.out.low hgal gn_
                     have hcb := HP.out.grown hgal (by simp)
                     have hg9 : w.grownBy w9 none := gr_trans (gr_none HG.out hgal) H9.out.2.1 (fun g e => .inr (by have := (hpo.1.lt e).1; omega))
                     have hzB := (hob.1.lt (g := gB) rfl).2
                     go_roundw
                     case rel =>
                       refine ⟨j + 1, A9, n10 + 1, c9, by omega, by go_num, rfl, hg9, hcb.grown H9.out.2.1 (Ne.symm (hpo.1.blk_ne hcb (by decide))), hob.kept H9.out.2.1 (fun g' e => HNE.out g' e), by rw [eaC_succ HRG3.out, if_pos HHH.out, ← List.append_assoc, List.map_append]; exact hpo.app (a := r3.pat) rfl H9.out, hou.kept H9.out.2.1 (fun _ e => Own.ne hpo.1 hou.1 (by decide) e), fun g' e e2 => ?_⟩
                       rcases H9.out.2.2 g' e with h1 | h1
                       · exact HNE.out g' h1 e2
                       · have e3 : gB = g' := by injection e2
                         omega
                     case measure => simp [intOf]; omega
                   · obtain ⟨q1, q2, q3⟩ := str_full hh
                     have HHH := Lib.hid hh
                     clear hh
                     go_upto_region 34 with (fail)
                     clear q1 q2 q3 kr5 kr0
                     go_wp2_with fail
                     go_roundw
                     case rel => exact ⟨j + 1, A10, n10, c10, by omega, by go_num, rfl, HG.out, HP.out, HOB.out, by rw [eaC_succ HRG3.out, if_neg HHH.out, List.append_nil]; exact HPS.out, HOU.out, HNE.out⟩
                     case measure => simp [intOf]; omega
                 · have hjc : j = yrn := by omega
                   have djr : decide ((j : Int) < (yrn : Int)) = false := decide_eq_false (by omega)
                   have HSF := Lib.hid (show eaL L k ++ eaC yrules j = eaL L (k + 1) by rw [eaL_succ HLK.out, hjc]; dsimp only; rw [HRL.out])
                   clear hjc
                   go_wp2_with fail
                   go_roundw
                   case rel => exact ⟨k + 1, A10, n10, c10, A9o, n9o, c9o, by omega, by go_num, rfl, rfl, HG.out, HP.out, HOB.out, by rw [← HSF.out]; exact HPS.out, HOU.out, HNE.out⟩
                   case measure => simp [intOf]; omega
         · have hkm : k = m := by omega
           have dkm : decide ((k : Int) < (m : Int)) = false := decide_eq_false (by omega)
           have HF := Lib.hid (show hdL L k = hdL L L.length by rw [HLm.out, hkm])
           have hn2 : n9o ≤ 12 := by have h1 := HOU.out.2; have h2 := hdL_len L k; have h3 := HM12.out k (by omega); omega
           clear hkm
           go_wp2_with fail
           go_ret2
           exact ⟨A9o, n9o, c9o, r, HORD.out, HND.out, HBD.out, by dsimp only; rw [HLL.out, HV.out]; rfl, by dsimp only; rw [HLL.out, HVL.out, ← HF.out]; exact HOU.out, HG.out, hn2⟩
end Go.Proofs.YteppdabhloieaaaGreatDoor

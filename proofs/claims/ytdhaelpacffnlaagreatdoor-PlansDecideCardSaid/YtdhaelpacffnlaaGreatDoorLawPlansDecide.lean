/- The law PlansDecide: CheckPlan, Order and Decide are as specified for all plans, contexts, numbers and moments. Conditions: none beside the row's own. -/
import Derived.Test.YtdhaelpacffnlaaGreatDoorBun1
import Derived.Test.YtdhaelpacffnlaaGreatDoorGenPl3
import Derived.Test.YtdhaelpacffnlaaGreatDoorBun10
import Derived.Test.YtdhaelpacffnlaaGreatDoorPlan13
import Derived.Test.YtdhaelpacffnlaaGreatDoorBun6
import Derived.Test.YtdhaelpacffnlaaGreatDoorBun7
import Derived.Test.YtdhaelpacffnlaaGreatDoorBun2
import Derived.Test.YtdhaelpacffnlaaGreatDoorBun4
import Derived.Test.YtdhaelpacffnlaaGreatDoorTie
import Derived.Test.YtdhaelpacffnlaaGreatDoorCards
import Derived.ProofKit
import Derived.Lay
import Derived.OpenShut
import Derived.Stop.Joined
import Derived.SevenTiedAt
import Derived.LaidMore
import Derived.MakeChecks
import Derived.LaidHandle
import Derived.Deep.CutBlock
namespace Go.Proofs.YtdhaelpacffnlaaGreatDoor
open Go.ChangeShapes Go.WideShapes Go.ChangeAt Go.RowKit

theorem hitR_shape (hs : List HrV) (dial : ByteArray) (t : Int) (L : List CxV) : ∃ (h1 : ByteArray) (h2 h3 : Int) (h4 h5 : ByteArray), (hitR hs dial t L).1 = [.string h1, .int .i64 h2, .int .i64 h3, .string h4, .string h5] := by
  induction L with
  | nil => exact ⟨_, _, _, _, _, rfl⟩
  | cons c L ih =>
    unfold hitR
    cases decT hs (nb dial) t c.rules c.rules.length with
    | none => exact ih
    | some b =>
      show ∃ h1 h2 h3 h4 h5, ((c.rules[b]?).elim (zeroH, 8) (hit1 dial c.key b)).1 = _
      cases c.rules[b]? with
      | none => exact ⟨_, _, _, _, _, rfl⟩
      | some r =>
        show ∃ h1 h2 h3 h4 h5, (hit1 dial c.key b r).1 = _
        unfold hit1
        split
        · exact ⟨_, _, _, _, _, rfl⟩
        · split
          · exact ⟨_, _, _, _, _, rfl⟩
          · exact ⟨_, _, _, _, _, rfl⟩
theorem akE_law (p : PlV) (LB : Bool) (key dial : ByteArray) (t : Int) : firstE [opE p LB key, dialE (nb dial), momF t] = akE p LB key dial t := by
  unfold akE dialE momF
  rw [firstE_cons, firstE_cons, firstE_cons, firstE_nil]
  by_cases h : opE p LB key = 0
  · rw [if_pos h, if_pos h]
    cases dialOk (nb dial) <;> cases momB t <;> simp
  · rw [if_neg h, if_neg h]
theorem opE_law (p : PlV) (LB : Bool) (key : ByteArray) : firstE [plE p LB, if decide (cxIx p.ctxs key < 0) then 8 else 0] = opE p LB key := by
  unfold opE
  rw [firstE_cons, firstE_cons, firstE_nil]
  by_cases h : plE p LB = 0
  · rw [if_pos h, if_pos h]
    by_cases h2 : cxIx p.ctxs key < 0 <;> simp [h2]
  · rw [if_neg h, if_neg h]
theorem akE_zero {p : PlV} {LB : Bool} {key dial : ByteArray} {t : Int} (h : akE p LB key dial t = 0) : opE p LB key = 0 ∧ dialOk (nb dial) = true ∧ -1 ≤ t ∧ t ≤ 345686400000 := by
  unfold akE at h
  by_cases h1 : opE p LB key = 0
  · rw [if_pos h1] at h
    by_cases h2 : dialOk (nb dial) = true
    · rw [if_pos h2] at h
      by_cases h3 : momB t = true
      · refine ⟨h1, h2, ?_⟩
        unfold momB inB at h3
        simp only [Bool.and_eq_true, decide_eq_true_eq] at h3
        omega
      · rw [if_neg h3] at h; exact absurd h (by decide)
    · rw [if_neg h2] at h; exact absurd h (by decide)
  · rw [if_neg h1] at h; exact absurd h h1
def PdRel (W : World) (sb pb lo : Nat) (p : PlV) (t : Value) (wr : World) : Prop := ∃ k : Nat, k ≤ 3 ∧ t = .int .i64 k ∧ Str wr sb (8100 + 20 * k) ∧ W.grownBy wr (some sb) ∧ Blk wr pb 29 #[.slice p.cA p.cn p.cc, .slice p.hA p.hn p.hc] ∧ PlOk wr lo p ∧ DbT wr
set_option maxRecDepth 100000 in
set_option maxHeartbeats 8000000 in
theorem walk_PlansDecide (a0 : Option Addr) (len cap : Nat) (zs : List Int) (W : World) (h : IsRow .i64 W a0 len cap zs) (ht : DbT W) :
    Calls Tryz.prog 3 #[.slice a0 len cap] W (fun e w' => e = .returned (.bool true) ∧ Below W.heap.size W w') := by
  have hs := str_new h
  have hpos := ht.pos
  obtain ⟨sb, hsb⟩ : ∃ sb, W.heap.size = sb := ⟨_, rfl⟩
  have HG := Lib.hid (show W.grownBy (W.alloc (.cells #[.slice a0 len cap, .int .i64 0] 25)) (some sb) from gr_alloc (gr_refl _ _) _)
  have HT := Lib.hid (ht.grown HG.out (by rw [← hsb]; intro e; injection e with e; omega))
  rw [hsb] at hs
  have hlt := hs.lt
  have HS := Lib.hid hs
  have HSB := Lib.hid hsb
  have hne : (some sb) ≠ some 0 := by rw [← hsb]; intro e; injection e with e; omega
  have HNE := Lib.hid hne
  clear h hs ht hne
  go_enter Tryz.func3, Tryz.ntmps3
  go_wp2_with fail
  refine (plan_any sb 0 5 _ HS.out (by omega) (by omega)).mono ?_
  rintro e w1 ⟨v1, rfl, ⟨p, rfl, hpl, hcn, hhn⟩, hs1, hg1⟩
  obtain ⟨lo, hlo⟩ : ∃ lo, (W.alloc (.cells #[.slice a0 len cap, .int .i64 0] 25)).heap.size = lo := ⟨_, rfl⟩
  rw [hlo] at hpl
  have zlo : sb < lo := by have := HS.out.lt; omega
  have z1 := hg1.size
  rw [hlo] at z1
  have HPL := Lib.hid hpl
  replace HT := Lib.hid (HT.out.grown hg1 HNE.out)
  replace HG := Lib.hid (gr_same HG.out hg1)
  replace HS := Lib.hid hs1
  clear hs1 hg1 hpl hlo
  obtain ⟨LB, hLB⟩ : ∃ LB : Bool, LB = true ↔ Loops p.ctxs := by
    by_cases c : Loops p.ctxs
    · exact ⟨true, by simp [c]⟩
    · exact ⟨false, by simp [c]⟩
  have HLB := Lib.hid hLB
  clear hLB
  go_wp2_with fail
  refine (contextKey_any sb _ _ HS.out (by omega)).mono ?_
  rintro e w2 ⟨v2, rfl, ⟨key, rfl, hkb⟩, hs2, hg2⟩
  have z2 := hg2.size; (try simp at z2)
  replace HPL := Lib.hid (HPL.out.grown hg2 (fun g e => by injection e with e; omega))
  replace HT := Lib.hid (HT.out.grown hg2 HNE.out)
  replace HG := Lib.hid (gr_same HG.out hg2)
  replace HS := Lib.hid hs2
  clear hs2 hg2
  go_wp2_with fail
  refine (moment_any sb _ _ HS.out (by omega)).mono ?_
  rintro e w3 ⟨v3, rfl, ⟨at_, rfl, at0, at1⟩, hs3, hg3⟩
  have z3 := hg3.size; (try simp at z3)
  replace HPL := Lib.hid (HPL.out.grown hg3 (fun g e => by injection e with e; omega))
  replace HT := Lib.hid (HT.out.grown hg3 HNE.out)
  replace HG := Lib.hid (gr_same HG.out hg3)
  replace HS := Lib.hid hs3
  clear hs3 hg3
  go_upto_region 3 with (fail)
  obtain ⟨w4, hw4⟩ : ∃ w4, w3.alloc (.cells #[.slice p.cA p.cn p.cc, .slice p.hA p.hn p.hc] 29) = w4 := ⟨_, rfl⟩
  rw [hw4]
  obtain ⟨pb, hpb⟩ : ∃ pb, w3.heap.size = pb := ⟨_, rfl⟩
  rw [hpb]
  have HPB := Lib.hid (show Blk w4 pb 29 #[.slice p.cA p.cn p.cc, .slice p.hA p.hn p.hc] by rw [← hw4, ← hpb]; exact Blk.new _ _ _)
  have zpb : sb < pb := by omega
  have hg4 : w3.grownBy w4 none := by rw [← hw4]; exact gr_alloc (gr_refl _ _) _
  replace HPL := Lib.hid (HPL.out.grown hg4 (fun g e => by cases e))
  replace HT := Lib.hid (HT.out.grown hg4 (by simp))
  replace HS := Lib.hid (HS.out.grown hg4 (fun g e => by cases e))
  replace HG := Lib.hid (gr_none HG.out hg4)
  have z4 := hg4.size; (try simp at z4)
  clear hg4
  clear hw4 hpb
  go_wp2_with (first
    | (refine wpl_load_all Tryz.plT rfl _ rfl _ rfl _ _ HPB.out rfl ?_)
    | fail)
  refine (Order_any lo p LB key _ HPL.out HLB.out).mono ?_
  rintro e w5 ⟨A, n, c, r, rfl, hown, hg5, hr0, hr1, hn50⟩
  have HOW := Lib.hid hown.recs
  have HR0 := Lib.hid hr0; have HR1 := Lib.hid hr1
  replace HPB := Lib.hid (HPB.out.grown hg5 (by simp))
  replace HPL := Lib.hid (HPL.out.grown hg5 (fun g e => by cases e))
  replace HT := Lib.hid (HT.out.grown hg5 (by simp))
  replace HS := Lib.hid (HS.out.grown hg5 (fun g e => by cases e))
  replace HG := Lib.hid (gr_none HG.out hg5)
  have z5 := hg5.size; (try simp at z5)
  clear hg5
  clear hown hr0 hr1
  obtain ⟨E, hE⟩ : ∃ E, opE p LB key = E := ⟨_, rfl⟩
  have HE := Lib.hid hE
  rw [hE]
  obtain ⟨F, hF⟩ : ∃ F, plE p LB = F := ⟨_, rfl⟩
  have HF := Lib.hid hF
  clear hE hF
  go_wp2_with (first
    | (refine wpl_load_all Tryz.plT rfl _ rfl _ rfl _ _ HPB.out rfl ?_)
    | fail)
  refine (planFault_any lo p LB _ HPL.out HLB.out).mono ?_
  rintro e w6 ⟨rfl, hg6⟩
  rw [HF.out]
  replace HPB := Lib.hid (HPB.out.grown hg6 (by simp))
  replace HPL := Lib.hid (HPL.out.grown hg6 (fun g e => by cases e))
  replace HT := Lib.hid (HT.out.grown hg6 (by simp))
  replace HS := Lib.hid (HS.out.grown hg6 (fun g e => by cases e))
  replace HG := Lib.hid (gr_none HG.out hg6)
  have z6 := hg6.size; (try simp at z6)
  replace HOW := Lib.hid (HOW.out.grown hg6 (fun g e => by cases e))
  clear hg6
  have q0 : (F != F) = false := by simp
  go_wp2_with (first
    | (refine wpl_load_all Tryz.plT rfl _ rfl _ rfl _ _ HPB.out rfl ?_)
    | fail)
  refine (checkPlan_any lo p LB _ HPL.out HLB.out).mono ?_
  rintro e w7 ⟨rfl, hg7⟩
  rw [HF.out]
  replace HPB := Lib.hid (HPB.out.grown hg7 (by simp))
  replace HPL := Lib.hid (HPL.out.grown hg7 (fun g e => by cases e))
  replace HT := Lib.hid (HT.out.grown hg7 (by simp))
  replace HS := Lib.hid (HS.out.grown hg7 (fun g e => by cases e))
  replace HG := Lib.hid (gr_none HG.out hg7)
  have z7 := hg7.size; (try simp at z7)
  replace HOW := Lib.hid (HOW.out.grown hg7 (fun g e => by cases e))
  clear hg7
  go_wp2_with (first
    | (refine wpl_load_all Tryz.plT rfl _ rfl _ rfl _ _ HPB.out rfl ?_)
    | fail)
  refine (contextAtR_any lo p key _ HPL.out.ctxs HPL.out.cn).mono ?_
  rintro e w8 ⟨rfl, hg8⟩
  replace HPB := Lib.hid (HPB.out.grown hg8 (by simp))
  replace HPL := Lib.hid (HPL.out.grown hg8 (fun g e => by cases e))
  replace HT := Lib.hid (HT.out.grown hg8 (by simp))
  replace HS := Lib.hid (HS.out.grown hg8 (fun g e => by cases e))
  replace HG := Lib.hid (gr_none HG.out hg8)
  have z8 := hg8.size; (try simp at z8)
  replace HOW := Lib.hid (HOW.out.grown hg8 (fun g e => by cases e))
  clear hg8
  obtain ⟨X, hX⟩ : ∃ X, decide (cxIx p.ctxs key < 0) = X := ⟨_, rfl⟩
  have HX := Lib.hid (show firstE [F, if X then 8 else 0] = E by rw [← hX, ← HF.out, ← HE.out]; exact opE_law p LB key)
  go_wp2_with fail
  refine (whenF_any X 8 _).mono ?_
  rintro e w9 ⟨rfl, rfl⟩
  obtain ⟨V, hV⟩ : ∃ V : Int, (if X then 8 else 0) = V := ⟨_, rfl⟩
  rw [hV] at HX ⊢
  clear hV hX
  go_wp2_with fail
  refine (errs_run 0 _ 2 2 [F, V] _ (by exact (Reads.blk (Blk.new _ _ _) 1 2 rfl).lower (Nat.zero_le _)) (by omega)).mono ?_
  rintro e w9 ⟨rfl, rfl⟩
  rw [HX.out]
  obtain ⟨w10, hw10⟩ : ∃ w10, w8.alloc (.cells #[.int .i64 F, .int .i64 V] 34) = w10 := ⟨_, rfl⟩
  rw [hw10]
  have hg10 : w8.grownBy w10 none := by rw [← hw10]; exact gr_alloc (gr_refl _ _) _
  replace HPB := Lib.hid (HPB.out.grown hg10 (by simp))
  replace HPL := Lib.hid (HPL.out.grown hg10 (fun g e => by cases e))
  replace HT := Lib.hid (HT.out.grown hg10 (by simp))
  replace HS := Lib.hid (HS.out.grown hg10 (fun g e => by cases e))
  replace HG := Lib.hid (gr_none HG.out hg10)
  have z10 := hg10.size; (try simp at z10)
  replace HOW := Lib.hid (HOW.out.grown hg10 (fun g e => by cases e))
  clear hg10
  clear hw10 q0
  have q1 : (E != E) = false := by simp
  have HRN := Lib.hid (show Recs srow 1 w10 w4.heap.size A n c (keysOf p.ctxs r) from HOW.out)
  by_cases e0 : E = 0
  · subst e0
    have hop := HE.out
    have hok := HR0.out hop
    obtain ⟨i, z, hz, hkz, hci, hord⟩ := hok.at_; clear hci
    have hkk := nb_inj hkz
    have hpr := pl_right (LB := LB) HPL.out.ctxs.len (opE_right hop)
    go_wp2_with (first
      | (refine wpl_load_all Tryz.plT rfl _ rfl _ rfl _ _ HPB.out rfl ?_)
      | fail)
    have hoo := fun w h => (orderOf_any lo p i z w h hpr.mis (keyed_of (by rw [HPL.out.ctxs.len]; exact hpr.cxs)) hz hpr.cn (fun a ha => by
      obtain ⟨j, hj⟩ := List.mem_iff_getElem?.1 ha
      exact (hpr.cx j a hj).en))
    rw [hkk] at hoo
    refine (hoo _ HPL.out).mono ?_
    rintro e w11 ⟨A2, n2, c2, r2, rfl, hown2, hord2, _, _, hn2, hg11⟩
    obtain rfl : r2 = r := hord2.det hord
    have HOW2 := Lib.hid hown2.recs
    replace HPB := Lib.hid (HPB.out.grown hg11 (by simp))
    replace HPL := Lib.hid (HPL.out.grown hg11 (fun g e => by cases e))
    replace HT := Lib.hid (HT.out.grown hg11 (by simp))
    replace HS := Lib.hid (HS.out.grown hg11 (fun g e => by cases e))
    replace HG := Lib.hid (gr_none HG.out hg11)
    have z11 := hg11.size; (try simp at z11)
    replace HRN := Lib.hid (HRN.out.grown hg11 (fun g e => by cases e))
    clear hg11
    clear hown2 hord2 hord hz hop hok hpr hkk hkz hoo
    go_wp2_with fail
    refine (equalS_same _ _ A A2 n c n2 c2 _ _ HRN.out HOW2.out (by omega)).mono ?_
    rintro e w12 ⟨rfl, k1, rfl⟩
    have hg12 : w11.grownBy (w11.drewN k1) none := gr_drewN (gr_refl _ _) k1
    replace HPB := Lib.hid (HPB.out.grown hg12 (by simp))
    replace HPL := Lib.hid (HPL.out.grown hg12 (fun g e => by cases e))
    replace HT := Lib.hid (HT.out.grown hg12 (by simp))
    replace HS := Lib.hid (HS.out.grown hg12 (fun g e => by cases e))
    replace HG := Lib.hid (gr_none HG.out hg12)
    have z12 := hg12.size; (try simp at z12)
    clear hg12
    clear HRN HOW2
    go_wp2_with fail
    go_loopw [11, 12, 13, 14, 15, 59] (fun _ _ _ _ _ t wr => PdRel W sb pb lo p t wr) (fun _ _ _ _ _ t _ => 3 - (intOf t).toNat)
    case atStart => exact ⟨0, Nat.zero_le _, rfl, HS.out.mono (by omega), HG.out, HPB.out, HPL.out, HT.out⟩
    case round =>
      clear HS HG HPB HPL HT HOW HR0 HR1
      obtain ⟨k, hk, rfl, hs, hg, hpb, hpl, ht⟩ := hrel
      have HS := Lib.hid hs; have HG := Lib.hid hg; have HPB := Lib.hid hpb; have HPL := Lib.hid hpl; have HT := Lib.hid ht
      have zpl := hpb.lt
      clear hs hg hpb hpl ht
      by_cases hk3 : k < 3
      · have dk : decide ((k : Int) < 3) = true := decide_eq_true (by omega)
        go_wp2_with fail
        refine (dialled_any sb _ _ HS.out (by omega)).mono ?_
        rintro e w13 ⟨v13, rfl, ⟨dial, rfl, hdb⟩, hs13, hg13⟩
        replace HPB := Lib.hid (HPB.out.grown hg13 (by simp; omega))
        have z13 := hg13.size; (try simp at z13)
        replace HPL := Lib.hid (HPL.out.grown hg13 (fun g e => by injection e with e; omega))
        replace HT := Lib.hid (HT.out.grown hg13 HNE.out)
        replace HG := Lib.hid (gr_same HG.out hg13)
        replace HS := Lib.hid hs13
        clear hs13 hg13
        go_wp2_with (first
          | (refine wpl_load_all Tryz.plT rfl _ rfl _ rfl _ _ HPB.out rfl ?_)
          | fail)
        refine (decide_any lo p LB key dial at_ _ HPL.out HLB.out (by omega)).mono ?_
        rintro e w14 ⟨⟨hc, he⟩, r3, rfl, hg14, hd0, hd1⟩
        replace HPB := Lib.hid (HPB.out.grown hg14 (by simp))
        replace HPL := Lib.hid (HPL.out.grown hg14 (fun g e => by cases e))
        replace HT := Lib.hid (HT.out.grown hg14 (by simp))
        replace HS := Lib.hid (HS.out.grown hg14 (fun g e => by cases e))
        replace HG := Lib.hid (gr_none HG.out hg14)
        have z14 := hg14.size; (try simp at z14)
        clear hg14
        obtain ⟨K, hK⟩ : ∃ K, akE p LB key dial at_ = K := ⟨_, rfl⟩
        rw [hK] at hd0 hd1
        obtain ⟨h1, h2, h3, h4, h5, rfl⟩ : ∃ (h1 : ByteArray) (h2 h3 : Int) (h4 h5 : ByteArray), hc = [.string h1, .int .i64 h2, .int .i64 h3, .string h4, .string h5] := by
          by_cases k0 : K = 0
          · obtain ⟨h1, h2, h3, h4, h5, e⟩ := hitR_shape p.hours dial at_ (pickC p.ctxs r3)
            have h := (hd0 k0).2
            rw [← h] at e
            exact ⟨h1, h2, h3, h4, h5, e⟩
          · have h := hd1 k0
            injection h with h _
            exact ⟨_, _, _, _, _, h⟩
        have HD0 := Lib.hid hd0; have HD1 := Lib.hid hd1; have HKK := Lib.hid hK
        have HKE := Lib.hid (show firstE [0, dialE (nb dial), momF at_] = K by rw [← hK, ← HE.out]; exact akE_law p LB key dial at_)
        clear hd0 hd1 hK
        dsimp only
        obtain ⟨D, hD⟩ : ∃ D, dialE (nb dial) = D := ⟨_, rfl⟩
        obtain ⟨M, hM⟩ : ∃ M, momF at_ = M := ⟨_, rfl⟩
        rw [hD, hM] at HKE
        go_upto_region 17 with (fail)
        obtain ⟨w15, hw15⟩ : ∃ w15, w14.alloc (.cells #[.string h1, .int .i64 h2, .int .i64 h3, .string h4, .string h5] 44) = w15 := ⟨_, rfl⟩
        rw [hw15]
        obtain ⟨ab, hab⟩ : ∃ ab, w14.heap.size = ab := ⟨_, rfl⟩
        rw [hab]
        have HA := Lib.hid (show Blk w15 ab 44 #[.string h1, .int .i64 h2, .int .i64 h3, .string h4, .string h5] by rw [← hw15, ← hab]; exact Blk.new _ _ _)
        have hg15 : w14.grownBy w15 none := by rw [← hw15]; exact gr_alloc (gr_refl _ _) _
        replace HPB := Lib.hid (HPB.out.grown hg15 (by simp))
        replace HPL := Lib.hid (HPL.out.grown hg15 (fun g e => by cases e))
        replace HT := Lib.hid (HT.out.grown hg15 (by simp))
        replace HS := Lib.hid (HS.out.grown hg15 (fun g e => by cases e))
        replace HG := Lib.hid (gr_none HG.out hg15)
        have z15 := hg15.size; (try simp at z15)
        clear hg15
        clear hw15 hab
        go_wp2_with fail
        refine (dialledFault_any dial _ (by omega)).mono ?_
        rintro e w16 ⟨rfl, rfl⟩
        rw [hD]
        go_wp2_with fail
        refine (momF_any at_ _).mono ?_
        rintro e w16 ⟨rfl, rfl⟩
        rw [hM]
        go_wp2_with fail
        refine (errs_run 0 _ 3 3 [0, D, M] _ (by exact (Reads.blk (Blk.new _ _ _) 1 3 rfl).lower (Nat.zero_le _)) (by omega)).mono ?_
        rintro e w16 ⟨rfl, rfl⟩
        rw [HKE.out]
        clear hD hM
        go_upto_region 19 with (fail)
        obtain ⟨w17, hw17⟩ : ∃ w17, (w15.alloc (.cells #[.int .i64 0, .int .i64 D, .int .i64 M] 34)).alloc (.cells #[.string ⟨#[]⟩, .int .i64 0, .int .i64 0, .string ⟨#[]⟩, .string ⟨#[]⟩] 44) = w17 := ⟨_, rfl⟩
        rw [hw17]
        obtain ⟨zb, hzb⟩ : ∃ zb, w15.heap.size + 1 = zb := ⟨_, rfl⟩
        rw [hzb]
        have HZ := Lib.hid (show Blk w17 zb 44 #[.string ⟨#[]⟩, .int .i64 0, .int .i64 0, .string ⟨#[]⟩, .string ⟨#[]⟩] by rw [← hw17, ← hzb]; exact blkNP _ _ _ (by simp))
        have hg17 : w15.grownBy w17 none := by rw [← hw17]; exact gr_alloc (gr_alloc (gr_refl _ _) _) _
        have zab : ab < zb := by have := HA.out.lt; omega
        have HPL0 := HPL; have HPB0 := HPB; have HT0 := HT; have HS0 := HS; have HG0 := HG; have HG17 := Lib.hid hg17
        replace HA := Lib.hid (HA.out.grown hg17 (by simp))
        replace HPB := Lib.hid (HPB.out.grown hg17 (by simp))
        replace HPL := Lib.hid (HPL.out.grown hg17 (fun g e => by cases e))
        replace HT := Lib.hid (HT.out.grown hg17 (by simp))
        replace HS := Lib.hid (HS.out.grown hg17 (fun g e => by cases e))
        replace HG := Lib.hid (gr_none HG.out hg17)
        have z17 := hg17.size; (try simp at z17)
        clear hg17
        have zzb : w15.heap.size < zb := by omega
        clear hw17 hzb
        have eqh := fun w => Tryz.eqHit h1 h2 h3 h4 h5 w
        by_cases k0 : K = 0
        · have dk0 : (K == 0) = true := by simpa using k0
          obtain ⟨hok, hh⟩ := HD0.out k0
          obtain ⟨a1, a2, a3, a4⟩ := akE_zero (HKK.out.trans k0)
          obtain ⟨i, z, hz, hkz, hci, hord⟩ := hok.at_; clear hci
          have hkk := nb_inj hkz
          have hpr := pl_right (LB := LB) HPL.out.ctxs.len (opE_right a1)
          go_wp2_with (first
            | (refine wpl_load_all Tryz.plT rfl _ rfl _ rfl _ _ HPB.out rfl ?_)
            | fail)
          have hdo := decideOf_any lo p i z dial at_ _ HPL.out hpr hz a2 a3 a4
          rw [hkk] at hdo
          refine hdo.mono ?_
          rintro e w18 ⟨r4, hord4, _, _, rfl, hg18⟩
          obtain rfl : r4 = r3 := hord4.det hord
          rw [← hh]
          dsimp only
          have HG18 := Lib.hid (gr_none HG17.out hg18)
          replace HA := Lib.hid (HA.out.grown hg18 (by simp))
          replace HZ := Lib.hid (HZ.out.grown hg18 (by simp))
          replace HPB := Lib.hid (HPB.out.grown hg18 (by simp))
          replace HPL := Lib.hid (HPL.out.grown hg18 (fun g e => by cases e))
          replace HT := Lib.hid (HT.out.grown hg18 (by simp))
          replace HS := Lib.hid (HS.out.grown hg18 (fun g e => by cases e))
          replace HG := Lib.hid (gr_none HG.out hg18)
          have z18 := hg18.size; (try simp at z18)
          clear hg18
          have qe : (he != he) = false := by simp
          clear hord4 hord hz hpr hok hh dk0 k0 hkk hkz hdo
          go_wp2_with (first
            | (refine wpl_load_all Tryz.hiT rfl _ rfl _ rfl _ _ HA.out rfl ?_)
            | (refine wpl_load_all Tryz.hiT rfl _ rfl _ rfl _ _ HZ.out rfl ?_)
            | (refine wpl_store_all Tryz.hiT rfl _ _ rfl _ rfl _ _ _ rfl HZ.out rfl rfl (by simp [Value.oneCell']) ?_
               intro w19 h19
               have hg19 := h19.2.1
               have hgA : w15.grownBy w19 none := gr_trans HG18.out hg19 (fun g e => .inr (by injection e with e; omega))
               replace HZ := Lib.hid h19.1
               replace HA := Lib.hid (HA.out.grown hg19 (by simp; omega))
               replace HPB := Lib.hid (HPB0.out.grown hgA (by simp))
               replace HPL := Lib.hid (HPL0.out.grown hgA (fun g e => by cases e))
               replace HT := Lib.hid (HT0.out.grown hgA (by simp))
               replace HS := Lib.hid (HS0.out.grown hgA (fun g e => by cases e))
               replace HG := Lib.hid (gr_none HG0.out hgA)
               clear h19 hg19 hgA
               have cHA := HA.out.cell
               have cHZ := HZ.out.cell)
            | fail)
          go_roundw
          case rel => exact ⟨k + 1, by omega, by go_num, HS.out.mono (by omega), HG.out, HPB.out, HPL.out, HT.out⟩
          case measure => simp [intOf]; omega
        · have dk0 : (K == 0) = false := by simpa using k0
          have hh := HD1.out k0
          unfold zeroH at hh
          simp only [Prod.mk.injEq, List.cons.injEq, Value.string.injEq, Value.int.injEq, true_and, and_true] at hh
          obtain ⟨⟨rfl, rfl, rfl, rfl, rfl⟩, rfl⟩ := hh
          have qe : (he != he) = false := by simp
          have cHA := HA.out.cell
          have cHZ := HZ.out.cell
          go_wp2_with fail
          go_roundw
          case rel => exact ⟨k + 1, by omega, by go_num, HS.out.mono (by omega), HG.out, HPB.out, HPL.out, HT.out⟩
          case measure => simp [intOf]; omega
      · obtain rfl : k = 3 := by omega
        go_wp2_with fail
        refine (planned_true _ HT.out).mono ?_
        rintro e w29 ⟨rfl, hg29⟩
        have HGE := Lib.hid (gr_none HG.out hg29)
        clear hg29
        go_wp2_with fail
        go_ret
        refine ⟨rfl, ?_⟩
        have hfin := HGE.out
        rw [← HSB.out] at hfin
        exact below_of_gr hfin
  · have d0 : (E == 0) = false := by simpa using e0
    have hr := HR1.out (by rw [HE.out]; exact e0)
    have HRM := Lib.hid (show Recs srow 1 w10 w4.heap.size A n c [] by have h := HRN.out; rw [hr] at h; exact h)
    clear hr e0
    go_wp2_with fail
    refine (equalS_same _ 0 A none n c 0 0 _ _ HRM.out (Recs.nil (lo := 0)) (by omega)).mono ?_
    rintro e w12 ⟨rfl, k1, rfl⟩
    have hg12 : w10.grownBy (w10.drewN k1) none := gr_drewN (gr_refl _ _) k1
    replace HPB := Lib.hid (HPB.out.grown hg12 (by simp))
    replace HPL := Lib.hid (HPL.out.grown hg12 (fun g e => by cases e))
    replace HT := Lib.hid (HT.out.grown hg12 (by simp))
    replace HS := Lib.hid (HS.out.grown hg12 (fun g e => by cases e))
    replace HG := Lib.hid (gr_none HG.out hg12)
    have z12 := hg12.size; (try simp at z12)
    clear hg12
    clear HRN HRM d0
    go_wp2_with fail
    go_loopw [11, 12, 13, 14, 15, 59] (fun _ _ _ _ _ t wr => PdRel W sb pb lo p t wr) (fun _ _ _ _ _ t _ => 3 - (intOf t).toNat)
    case atStart => exact ⟨0, Nat.zero_le _, rfl, HS.out.mono (by omega), HG.out, HPB.out, HPL.out, HT.out⟩
    case round =>
      clear HS HG HPB HPL HT HOW HR0 HR1
      obtain ⟨k, hk, rfl, hs, hg, hpb, hpl, ht⟩ := hrel
      have HS := Lib.hid hs; have HG := Lib.hid hg; have HPB := Lib.hid hpb; have HPL := Lib.hid hpl; have HT := Lib.hid ht
      have zpl := hpb.lt
      clear hs hg hpb hpl ht
      by_cases hk3 : k < 3
      · have dk : decide ((k : Int) < 3) = true := decide_eq_true (by omega)
        go_wp2_with fail
        refine (dialled_any sb _ _ HS.out (by omega)).mono ?_
        rintro e w13 ⟨v13, rfl, ⟨dial, rfl, hdb⟩, hs13, hg13⟩
        replace HPB := Lib.hid (HPB.out.grown hg13 (by simp; omega))
        have z13 := hg13.size; (try simp at z13)
        replace HPL := Lib.hid (HPL.out.grown hg13 (fun g e => by injection e with e; omega))
        replace HT := Lib.hid (HT.out.grown hg13 HNE.out)
        replace HG := Lib.hid (gr_same HG.out hg13)
        replace HS := Lib.hid hs13
        clear hs13 hg13
        go_wp2_with (first
          | (refine wpl_load_all Tryz.plT rfl _ rfl _ rfl _ _ HPB.out rfl ?_)
          | fail)
        refine (decide_any lo p LB key dial at_ _ HPL.out HLB.out (by omega)).mono ?_
        rintro e w14 ⟨⟨hc, he⟩, r3, rfl, hg14, hd0, hd1⟩
        replace HPB := Lib.hid (HPB.out.grown hg14 (by simp))
        replace HPL := Lib.hid (HPL.out.grown hg14 (fun g e => by cases e))
        replace HT := Lib.hid (HT.out.grown hg14 (by simp))
        replace HS := Lib.hid (HS.out.grown hg14 (fun g e => by cases e))
        replace HG := Lib.hid (gr_none HG.out hg14)
        have z14 := hg14.size; (try simp at z14)
        clear hg14
        obtain ⟨K, hK⟩ : ∃ K, akE p LB key dial at_ = K := ⟨_, rfl⟩
        rw [hK] at hd0 hd1
        obtain ⟨h1, h2, h3, h4, h5, rfl⟩ : ∃ (h1 : ByteArray) (h2 h3 : Int) (h4 h5 : ByteArray), hc = [.string h1, .int .i64 h2, .int .i64 h3, .string h4, .string h5] := by
          by_cases k0 : K = 0
          · obtain ⟨h1, h2, h3, h4, h5, e⟩ := hitR_shape p.hours dial at_ (pickC p.ctxs r3)
            have h := (hd0 k0).2
            rw [← h] at e
            exact ⟨h1, h2, h3, h4, h5, e⟩
          · have h := hd1 k0
            injection h with h _
            exact ⟨_, _, _, _, _, h⟩
        have HD0 := Lib.hid hd0; have HD1 := Lib.hid hd1; have HKK := Lib.hid hK
        have HKE := Lib.hid (show firstE [E, dialE (nb dial), momF at_] = K by rw [← hK, ← HE.out]; exact akE_law p LB key dial at_)
        clear hd0 hd1 hK
        dsimp only
        obtain ⟨D, hD⟩ : ∃ D, dialE (nb dial) = D := ⟨_, rfl⟩
        obtain ⟨M, hM⟩ : ∃ M, momF at_ = M := ⟨_, rfl⟩
        rw [hD, hM] at HKE
        go_upto_region 17 with (fail)
        obtain ⟨w15, hw15⟩ : ∃ w15, w14.alloc (.cells #[.string h1, .int .i64 h2, .int .i64 h3, .string h4, .string h5] 44) = w15 := ⟨_, rfl⟩
        rw [hw15]
        obtain ⟨ab, hab⟩ : ∃ ab, w14.heap.size = ab := ⟨_, rfl⟩
        rw [hab]
        have HA := Lib.hid (show Blk w15 ab 44 #[.string h1, .int .i64 h2, .int .i64 h3, .string h4, .string h5] by rw [← hw15, ← hab]; exact Blk.new _ _ _)
        have hg15 : w14.grownBy w15 none := by rw [← hw15]; exact gr_alloc (gr_refl _ _) _
        replace HPB := Lib.hid (HPB.out.grown hg15 (by simp))
        replace HPL := Lib.hid (HPL.out.grown hg15 (fun g e => by cases e))
        replace HT := Lib.hid (HT.out.grown hg15 (by simp))
        replace HS := Lib.hid (HS.out.grown hg15 (fun g e => by cases e))
        replace HG := Lib.hid (gr_none HG.out hg15)
        have z15 := hg15.size; (try simp at z15)
        clear hg15
        clear hw15 hab
        go_wp2_with fail
        refine (dialledFault_any dial _ (by omega)).mono ?_
        rintro e w16 ⟨rfl, rfl⟩
        rw [hD]
        go_wp2_with fail
        refine (momF_any at_ _).mono ?_
        rintro e w16 ⟨rfl, rfl⟩
        rw [hM]
        go_wp2_with fail
        refine (errs_run 0 _ 3 3 [E, D, M] _ (by exact (Reads.blk (Blk.new _ _ _) 1 3 rfl).lower (Nat.zero_le _)) (by omega)).mono ?_
        rintro e w16 ⟨rfl, rfl⟩
        rw [HKE.out]
        clear hD hM
        go_upto_region 19 with (fail)
        obtain ⟨w17, hw17⟩ : ∃ w17, (w15.alloc (.cells #[.int .i64 E, .int .i64 D, .int .i64 M] 34)).alloc (.cells #[.string ⟨#[]⟩, .int .i64 0, .int .i64 0, .string ⟨#[]⟩, .string ⟨#[]⟩] 44) = w17 := ⟨_, rfl⟩
        rw [hw17]
        obtain ⟨zb, hzb⟩ : ∃ zb, w15.heap.size + 1 = zb := ⟨_, rfl⟩
        rw [hzb]
        have HZ := Lib.hid (show Blk w17 zb 44 #[.string ⟨#[]⟩, .int .i64 0, .int .i64 0, .string ⟨#[]⟩, .string ⟨#[]⟩] by rw [← hw17, ← hzb]; exact blkNP _ _ _ (by simp))
        have hg17 : w15.grownBy w17 none := by rw [← hw17]; exact gr_alloc (gr_alloc (gr_refl _ _) _) _
        have zab : ab < zb := by have := HA.out.lt; omega
        have HPL0 := HPL; have HPB0 := HPB; have HT0 := HT; have HS0 := HS; have HG0 := HG; have HG17 := Lib.hid hg17
        replace HA := Lib.hid (HA.out.grown hg17 (by simp))
        replace HPB := Lib.hid (HPB.out.grown hg17 (by simp))
        replace HPL := Lib.hid (HPL.out.grown hg17 (fun g e => by cases e))
        replace HT := Lib.hid (HT.out.grown hg17 (by simp))
        replace HS := Lib.hid (HS.out.grown hg17 (fun g e => by cases e))
        replace HG := Lib.hid (gr_none HG.out hg17)
        have z17 := hg17.size; (try simp at z17)
        clear hg17
        have zzb : w15.heap.size < zb := by omega
        clear hw17 hzb
        have eqh := fun w => Tryz.eqHit h1 h2 h3 h4 h5 w
        by_cases k0 : K = 0
        · have dk0 : (K == 0) = true := by simpa using k0
          obtain ⟨hok, hh⟩ := HD0.out k0
          obtain ⟨a1, a2, a3, a4⟩ := akE_zero (HKK.out.trans k0)
          obtain ⟨i, z, hz, hkz, hci, hord⟩ := hok.at_; clear hci
          have hkk := nb_inj hkz
          have hpr := pl_right (LB := LB) HPL.out.ctxs.len (opE_right a1)
          go_wp2_with (first
            | (refine wpl_load_all Tryz.plT rfl _ rfl _ rfl _ _ HPB.out rfl ?_)
            | fail)
          have hdo := decideOf_any lo p i z dial at_ _ HPL.out hpr hz a2 a3 a4
          rw [hkk] at hdo
          refine hdo.mono ?_
          rintro e w18 ⟨r4, hord4, _, _, rfl, hg18⟩
          obtain rfl : r4 = r3 := hord4.det hord
          rw [← hh]
          dsimp only
          have HG18 := Lib.hid (gr_none HG17.out hg18)
          replace HA := Lib.hid (HA.out.grown hg18 (by simp))
          replace HZ := Lib.hid (HZ.out.grown hg18 (by simp))
          replace HPB := Lib.hid (HPB.out.grown hg18 (by simp))
          replace HPL := Lib.hid (HPL.out.grown hg18 (fun g e => by cases e))
          replace HT := Lib.hid (HT.out.grown hg18 (by simp))
          replace HS := Lib.hid (HS.out.grown hg18 (fun g e => by cases e))
          replace HG := Lib.hid (gr_none HG.out hg18)
          have z18 := hg18.size; (try simp at z18)
          clear hg18
          have qe : (he != he) = false := by simp
          clear hord4 hord hz hpr hok hh dk0 k0 hkk hkz hdo
          go_wp2_with (first
            | (refine wpl_load_all Tryz.hiT rfl _ rfl _ rfl _ _ HA.out rfl ?_)
            | (refine wpl_load_all Tryz.hiT rfl _ rfl _ rfl _ _ HZ.out rfl ?_)
            | (refine wpl_store_all Tryz.hiT rfl _ _ rfl _ rfl _ _ _ rfl HZ.out rfl rfl (by simp [Value.oneCell']) ?_
               intro w19 h19
               have hg19 := h19.2.1
               have hgA : w15.grownBy w19 none := gr_trans HG18.out hg19 (fun g e => .inr (by injection e with e; omega))
               replace HZ := Lib.hid h19.1
               replace HA := Lib.hid (HA.out.grown hg19 (by simp; omega))
               replace HPB := Lib.hid (HPB0.out.grown hgA (by simp))
               replace HPL := Lib.hid (HPL0.out.grown hgA (fun g e => by cases e))
               replace HT := Lib.hid (HT0.out.grown hgA (by simp))
               replace HS := Lib.hid (HS0.out.grown hgA (fun g e => by cases e))
               replace HG := Lib.hid (gr_none HG0.out hgA)
               clear h19 hg19 hgA
               have cHA := HA.out.cell
               have cHZ := HZ.out.cell)
            | fail)
          go_roundw
          case rel => exact ⟨k + 1, by omega, by go_num, HS.out.mono (by omega), HG.out, HPB.out, HPL.out, HT.out⟩
          case measure => simp [intOf]; omega
        · have dk0 : (K == 0) = false := by simpa using k0
          have hh := HD1.out k0
          unfold zeroH at hh
          simp only [Prod.mk.injEq, List.cons.injEq, Value.string.injEq, Value.int.injEq, true_and, and_true] at hh
          obtain ⟨⟨rfl, rfl, rfl, rfl, rfl⟩, rfl⟩ := hh
          have qe : (he != he) = false := by simp
          have cHA := HA.out.cell
          have cHZ := HZ.out.cell
          go_wp2_with fail
          go_roundw
          case rel => exact ⟨k + 1, by omega, by go_num, HS.out.mono (by omega), HG.out, HPB.out, HPL.out, HT.out⟩
          case measure => simp [intOf]; omega
      · obtain rfl : k = 3 := by omega
        go_wp2_with fail
        refine (planned_true _ HT.out).mono ?_
        rintro e w29 ⟨rfl, hg29⟩
        have HGE := Lib.hid (gr_none HG.out hg29)
        clear hg29
        go_wp2_with fail
        go_ret
        refine ⟨rfl, ?_⟩
        have hfin := HGE.out
        rw [← HSB.out] at hfin
        exact below_of_gr hfin
theorem gDbPd : Tryz.prog.globalNamed "math/bits.deBruijn32tab" = some 0 := by kernel_rfl
theorem met_PlansDecide {W : World} (h : laidMetH Tryz.prog Rows.plansDecideRow.laid W) : DbT W := by
  rw [MakeChecks.laidMetH_plain _ _ _ (by kernel_rfl)] at h
  obtain ⟨ps, ⟨g0, t0, cs0, f0, p0, q0, hg0, ht0, hv0, hd0, _⟩, _, _⟩ := h
  obtain rfl := Option.some.inj (gDbPd.symm.trans hg0)
  obtain rfl := Option.some.inj (tDb.symm.trans ht0)
  intro i hi
  rw [World.var?_cell hg0 hv0 i]
  have := tab_cells (l := dbTab) Tryz.underlying205 Tryz.underlying5 (by kernel_rfl) hd0 i hi
  simpa using this

theorem own_PlansDecide : ownKnob Tryz.prog.godebug = none := by kernel_rfl
theorem laidOut_PlansDecide : laidOutB Tryz.prog = true := by kernel_rfl
set_option maxRecDepth 100000 in
theorem lifted_PlansDecide (os : Os) (started : os.Started) (H : Type) (enc : TypeId × Value → H) :
    ReturnsInHanded {} Tryz.checked os 3 .any (fun w args => (Rows.plansDecideSpec.pre enc Tryz.prog Tryz.f3 [] false w args ∧ laidMetH Tryz.prog Rows.plansDecideRow.laid w) ∧ sizedMet enc Tryz.prog Tryz.f3 (OpenSpec.ofChange Rows.plansDecideSpec) false w args) (Rows.plansDecideSpec.post enc Tryz.prog Tryz.f3 false true false false) := by
  refine returnsInHanded_of_change_and (C := Tryz.checked) (X := fun w _ => laidMetH Tryz.prog Rows.plansDecideRow.laid w) (fun _ _ _ hh h => h.of_heap hh) own_PlansDecide started (by kernel_rfl) Tryz.func3
    (ChangeSpec.witness_shaped (enc := enc) (C := Tryz.checked) (os := os) (X := fun w _ => laidMetH Tryz.prog Rows.plansDecideRow.laid w) false (World.laidAll Tryz.prog os Rows.plansDecideRow.laid) #[.slice none 0 0] 8 (World.laidAll_os _ _ _) (World.shaped_of_ZipB (by kernel_rfl) (by kernel_rfl)) (by kernel_rfl) (by kernel_rfl) (by kernel_rfl)
      (by rw [MakeChecks.laidMetH_plain _ _ _ (by kernel_rfl)]; exact laidMet_laidAll _ (by kernel_rfl) (by kernel_rfl))) ?_
  intro W base args ds gs before hval0 hW _ _ hL _
  have hval : ∀ (j : Nat) t v, Tryz.f3.params[j]? = some t → args[j]? = some v → Value.okWide Tryz.prog W .any base t v := hval0
  have hW' := hW
  obtain ⟨p, q, hA0, hV, rfl, hfz, hnd⟩ := hW
  have hA : DataW.TrodAll enc Tryz.prog W 0 (fun _ => true) true Tryz.f3.params.toList args.toList ds p := hA0
  rw [Tryz.params3] at hA hval
  obtain ⟨v0, vs0, d0, ds0, p0, q0, hargs, rfl, rfl, h0, r0⟩ := trodAll_cons hA
  obtain ⟨rfl, rfl, rfl⟩ := trodAll_nil r0
  obtain rfl : args = #[v0] := by cases args; simp_all
  obtain ⟨rfl, rfl⟩ := trodVars_none hV
  obtain ⟨a0, len0, cap0, rfl⟩ := okWide_slice Tryz.underlying22 (hval 0 22 v0 rfl rfl)
  have k0 := h0
  have lt0 : ∀ x ∈ p0, x.block < W.heap.size := by obtain ⟨m, hm⟩ := k0; exact DataW.trod_lt m _ _ _ hm
  obtain ⟨z0, w0⟩ : ∃ zs, IsRow .i64 W a0 len0 cap0 zs := by
    obtain ⟨fuel, hf⟩ := h0
    rcases open_ints Tryz.underlying22 Tryz.underlying3 (by kernel_rfl) hf with ⟨hcs, _⟩ | ⟨x, l, c, zs, hcs, _, hl, hm, hz, _, hcell, hwz⟩
    · simp [Value.cells] at hcs
      obtain ⟨rfl, rfl, rfl⟩ := hcs
      exact ⟨[], .inl ⟨rfl, rfl, rfl, rfl⟩⟩
    · simp [Value.cells] at hcs
      obtain ⟨rfl, rfl, rfl⟩ := hcs
      exact ⟨zs, .inr ⟨_, rfl, hl, hm, by simpa using hz, hcell, hwz⟩⟩
  clear hA0 hval0
  refine (walk_PlansDecide a0 len0 cap0 z0 W w0 (met_PlansDecide hL)).mono fun e W' ⟨he, bel⟩ => ?_
  subst he
  exact ⟨_, rfl, _, _, _, [], _, [], hW', trodAll_mk1 (shut_bool Tryz.underlying4 _), (trodAll_cons_mk (Below.trod laidOut_PlansDecide (by kernel_rfl) (of_decide_eq_true (by kernel_rfl)) k0 bel lt0) trodAll_mk0), rfl, bel.frame _, fun h => by cases h⟩

theorem over_PlansDecide : Rows.plansDecideRow.holds Tryz.pinned (OpenSpec.ofChange Rows.plansDecideSpec) :=
  OpenClaim.holds_of_wide 3 Tryz.f3 rfl rfl rfl rfl rfl rfl rfl ⟨rfl, rfl, rfl, rfl, rfl⟩ rfl rfl rfl rfl rfl (by kernel_rfl) Tryz.func3 (by kernel_rfl)
    (of_decide_eq_true (by kernel_rfl)) (by unfold Func.isWrapper; first | (rw [if_pos (by decide +kernel)]; kernel_rfl) | (rw [if_neg (by decide +kernel)]; exact ⟨rfl, rfl⟩))
    (fun os started H enc _ => lifted_PlansDecide os started H enc)

theorem proved_PlansDecide : Rows.PlansDecideCardSaid :=
  Claim7.holds_tied_plain_at .later [] [.data, .data, .pinned] true Rows.plansDecideCard.stood.harness false
    over_PlansDecide (fun _ h => by cases h) (by kernel_rfl) (fun _ h => by cases h) plansDecide_row_tie rfl ⟨rfl, rfl⟩ (by kernel_rfl) rfl
    (fun f fn hf hfn => by
      obtain rfl : f = 3 := Option.some.inj ((show Tryz.prog.funcNamed Rows.plansDecideRow.func = some 3 by kernel_rfl).symm.trans hf) |>.symm
      obtain rfl : fn = Tryz.f3 := (Option.some.inj (Tryz.func3.symm.trans hfn)).symm
      exact ⟨by kernel_rfl, fun j t ht => by
        rw [Tryz.params3] at ht
        have h3 : t = 22 := by
          rcases j with _ | j
          · simpa using ht.symm
          · simp at ht
        subst h3
        exact (show Tryz.prog.wantsStandIn 22 = false by kernel_rfl)⟩)
    (by kernel_rfl)
end Go.Proofs.YtdhaelpacffnlaaGreatDoor


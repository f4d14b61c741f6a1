/- The law RecordsCharged: Charges, Invoices and Unpaid are as specified for all tariffs, payers and records. Conditions: none beside the row's own. -/
import Derived.Test.YtdgjjjdndedeiaaGreatDoorLawBase
import Derived.Test.YtdgjjjdndedeiaaGreatDoorBooks
import Derived.Test.YtdgjjjdndedeiaaGreatDoorRc11
import Derived.Test.YtdgjjjdndedeiaaGreatDoorEqCh
import Derived.Test.YtdgjjjdndedeiaaGreatDoorTie
import Derived.Test.YtdgjjjdndedeiaaGreatDoorCards
import Derived.ProofKit
import Derived.Lay
import Derived.OpenShut
import Derived.Stop.Joined
import Derived.SevenTiedAt
import Derived.LaidMore
import Derived.MakeChecks
import Derived.LaidHandle
import Derived.Deep.CutBlock
import Derived.Deep.RegionHeld3
namespace Go.Proofs.YtdgjjjdndedeiaaGreatDoor
open Go.ChangeShapes Go.WideShapes Go.ChangeAt Go.RowKit

theorem mon_first (t : TfV) (p : List PyV) (l : List RcV) (month : Int) : firstE [useE t p l, if inB month 0 132 then 0 else 1] = monE t p l month := by
  simp only [firstE_cons, firstE_nil]
  unfold monE
  by_cases h : useE t p l = 0
  · rw [if_pos h, if_pos h]
    cases inB month 0 132 <;> rfl
  · rw [if_neg h, if_neg h]
set_option maxRecDepth 100000 in
set_option maxHeartbeats 8000000 in
theorem walk_RecordsCharged (a0 : Option Addr) (len cap : Nat) (zs : List Int) (W : World) (h : IsRow .i64 W a0 len cap zs) (_ht : True) :
    Calls Tryz.prog 3 #[.slice a0 len cap] W (fun e w' => e = .returned (.bool true) ∧ Below W.heap.size W w') := by
  have hs := str_new h
  obtain ⟨sb, hsb⟩ : ∃ sb, W.heap.size = sb := ⟨_, rfl⟩
  have HG := Lib.hid (show W.grownBy (W.alloc (.cells #[.slice a0 len cap, .int .i64 0] 25)) (some sb) from gr_alloc (gr_refl _ _) _)
  rw [hsb] at hs
  have hlt := hs.lt
  have HS := Lib.hid hs
  have HSB := Lib.hid hsb
  clear h hs
  go_enter Tryz.func3, Tryz.ntmps3
  go_wp2_with fail
  refine (range_any sb 0 0 12 _ HS.out (by omega) (by omega) (by omega) (by omega)).mono ?_
  rintro e w1 ⟨v1, rfl, ⟨r1, hlo1, hhi1, rfl⟩, hs1, hg1⟩
  obtain ⟨many, rfl⟩ : ∃ many : Nat, r1 = many := ⟨r1.toNat, by omega⟩
  have hmany : many ≤ 14 := by omega
  replace HS := Lib.hid hs1
  replace HG := Lib.hid (gr_same HG.out hg1)
  have z1 := hg1.size
  clear hs1 hg1 hlo1
  go_wp2_with fail
  refine (books_any sb _ many _ HS.out (by omega) hmany).mono ?_
  rintro e w2 ⟨v2, rfl, ⟨cA, iA, cn, cc, en, ic, free, cl, ins, P, pn, pc, p, L, ln, lc, l, rfl, htf, hpy, hrc, hpn, hln⟩, hs2, hg2⟩
  obtain ⟨lo, hlo⟩ : ∃ lo, w1.heap.size = lo := ⟨_, rfl⟩
  rw [hlo] at htf hpy hrc
  rw [use_first]
  have zlo : sb < lo := by have := HS.out.lt; omega
  replace HS := Lib.hid hs2
  replace HG := Lib.hid (gr_same HG.out hg2)
  have z2 := hg2.size
  clear hs2 hg2 hlo hhi1
  obtain ⟨UE, hUE⟩ : ∃ E, useE ⟨cA, cn, cc, free, iA, en, ic, cl, ins⟩ p l = E := ⟨_, rfl⟩
  rw [hUE]
  have HUE := Lib.hid hUE; clear hUE
  go_upto_region 3 with (fail)
  obtain ⟨w3, hw3⟩ : ∃ w3, w2.alloc (.cells #[.slice cA cn cc, .int .i64 free, .slice iA en ic] 29) = w3 := ⟨_, rfl⟩
  rw [hw3]
  obtain ⟨tb, htb⟩ : ∃ tb, w2.heap.size = tb := ⟨_, rfl⟩
  rw [htb]
  have HT := Lib.hid (show Blk w3 tb 29 #[.slice cA cn cc, .int .i64 free, .slice iA en ic] by rw [← hw3, ← htb]; exact Blk.new _ _ _)
  have ztb : sb < tb := by omega
  have hg23 : w2.grownBy w3 none := by rw [← hw3]; exact gr_alloc (gr_refl _ _) _
  have HTF := Lib.hid (htf.grown hg23 (fun g e => by cases e))
  have HPY := Lib.hid (hpy.grown hg23 (fun g e => by cases e))
  have HRC := Lib.hid (hrc.grown hg23 (fun g e => by cases e))
  replace HG := Lib.hid (gr_none HG.out hg23)
  replace HS := Lib.hid (show Str w3 sb _ by rw [← hw3]; exact HS.out.alloc _)
  clear hw3 htb htf hpy hrc hg23
  go_wp2_with fail
  refine (pick_new sb _ [0, 0, 0, 1, 2, 132, -1, 133] _ HS.out (by omega) (by simp) rfl rfl (by simp) (by simp)).mono ?_
  rintro e w4 ⟨v4, rfl, ⟨month, hmo, rfl⟩, hs4, hg4⟩
  replace HT := Lib.hid (HT.out.grown hg4 (by simp; omega))
  replace HTF := Lib.hid (HTF.out.grown hg4 (fun g e => by injection e with e; omega))
  replace HPY := Lib.hid (HPY.out.grown hg4 (fun g e => by injection e with e; omega))
  replace HRC := Lib.hid (HRC.out.grown hg4 (fun g e => by injection e with e; omega))
  replace HG := Lib.hid (gr_same HG.out hg4)
  clear hs4 hg4 HS hmo
  obtain ⟨E1, hE1⟩ : ∃ E, monE ⟨cA, cn, cc, free, iA, en, ic, cl, ins⟩ p l month = E := ⟨_, rfl⟩
  have HE1 := Lib.hid hE1; clear hE1
  go_wp2_with (first
    | (refine wpl_load_all Tryz.tfT rfl _ rfl _ rfl _ _ HT.out rfl ?_)
    | fail)
  refine (Charges_any lo cA iA cn cc en ic free cl ins P pn pc p L ln lc l month _ HTF.out HPY.out HRC.out (by omega) (by omega)).mono ?_
  rintro e w5 ⟨cAd, cN, cC, rfl, hown, hg5⟩
  rw [HE1.out]
  have HC := Lib.hid hown.recs
  have hcN : cN ≤ 3000 := by
    rw [← hown.2]; unfold chgL
    split
    · rename_i h0
      rw [List.length_map]
      exact Nat.le_trans (chgTo_len _ _ _ _ _) (rcs_right (use_right (mon_right h0).1).2.2).1
    · exact Nat.zero_le _
  clear hown
  replace HT := Lib.hid (HT.out.grown hg5 (by simp))
  replace HTF := Lib.hid (HTF.out.grown hg5 (fun g e => by cases e))
  replace HPY := Lib.hid (HPY.out.grown hg5 (fun g e => by cases e))
  replace HRC := Lib.hid (HRC.out.grown hg5 (fun g e => by cases e))
  replace HG := Lib.hid (gr_none HG.out hg5)
  clear hg5
  go_wp2_with (first
    | (refine wpl_load_all Tryz.tfT rfl _ rfl _ rfl _ _ HT.out rfl ?_)
    | fail)
  refine (Invoices_any lo cA iA cn cc en ic free cl ins P pn pc p L ln lc l month _ HTF.out HPY.out HRC.out (by omega) (by omega)).mono ?_
  rintro e w6 ⟨iAd, iN, iC, rfl, hown, hg6⟩
  rw [HE1.out]
  have HI := Lib.hid hown.recs
  have hiN : iN ≤ 4 := by
    rw [← hown.2]; unfold invL
    split
    · exact Nat.le_trans (invTo_len _ _ _ _) (by rw [HPY.out.1.len]; exact hpn)
    · exact Nat.zero_le _
  clear hown
  replace HC := Lib.hid (HC.out.grown hg6 (fun g e => by cases e))
  replace HT := Lib.hid (HT.out.grown hg6 (by simp))
  replace HTF := Lib.hid (HTF.out.grown hg6 (fun g e => by cases e))
  replace HPY := Lib.hid (HPY.out.grown hg6 (fun g e => by cases e))
  replace HRC := Lib.hid (HRC.out.grown hg6 (fun g e => by cases e))
  replace HG := Lib.hid (gr_none HG.out hg6)
  clear hg6
  go_wp2_with (first
    | (refine wpl_load_all Tryz.tfT rfl _ rfl _ rfl _ _ HT.out rfl ?_)
    | fail)
  refine (Unpaid_any lo cA iA cn cc en ic free cl ins P pn pc p L ln lc l _ HTF.out HPY.out HRC.out (by omega) (by omega)).mono ?_
  rintro e w7 ⟨uAd, uN, uC, rfl, hown, hg7⟩
  rw [HUE.out]
  have HU := Lib.hid hown.recs
  have huN : uN ≤ 14 := by
    rw [← hown.2]; unfold unpL
    split
    · exact Nat.le_trans (unpTo_len _ _ _ _) (by rw [HRC.out.1.len]; omega)
    · exact Nat.zero_le _
  clear hown
  replace HC := Lib.hid (HC.out.grown hg7 (fun g e => by cases e))
  replace HI := Lib.hid (HI.out.grown hg7 (fun g e => by cases e))
  replace HT := Lib.hid (HT.out.grown hg7 (by simp))
  replace HTF := Lib.hid (HTF.out.grown hg7 (fun g e => by cases e))
  replace HPY := Lib.hid (HPY.out.grown hg7 (fun g e => by cases e))
  replace HRC := Lib.hid (HRC.out.grown hg7 (fun g e => by cases e))
  replace HG := Lib.hid (gr_none HG.out hg7)
  clear hg7
  go_upto_region 7 with (fail)
  go_cut [15] (fun x wx => x = .int .i64 E1 ∧ w7.grownBy wx none)
  case first =>
    by_cases t1 : month < 0
    · have d1 : decide (month < 0) = true := decide_eq_true t1
      have HX := Lib.hid (show firstE [UE, 1] = E1 by rw [← HE1.out, ← mon_first, HUE.out, show inB month 0 132 = false by unfold inB; rw [decide_eq_false (by omega)]; rfl]; rfl)
      go_wp2_with (first
        | (go_at_call 14; refine (whenE_any _ _ _).mono ?_; rintro e w' ⟨rfl, rfl⟩)
        | fail)
      refine (errs_new (n := 2) [UE, 1] _ rfl (by simp) rfl (by omega)).mono ?_
      rintro e w8 ⟨rfl, hg8⟩
      rw [HX.out]
      have HG8 := Lib.hid hg8; clear hg8
      go_wp2_with fail
      go_meet
      exact ⟨rfl, HG8.out⟩
    · have d1 : decide (month < 0) = false := decide_eq_false t1
      by_cases t2 : 132 < month
      · have d2 : decide (132 < month) = true := decide_eq_true t2
        have HX := Lib.hid (show firstE [UE, 1] = E1 by rw [← HE1.out, ← mon_first, HUE.out, show inB month 0 132 = false by unfold inB; rw [decide_eq_false (by omega : ¬ month ≤ 132), Bool.and_false]]; rfl)
        go_wp2_with (first
          | (go_at_call 14; refine (whenE_any _ _ _).mono ?_; rintro e w' ⟨rfl, rfl⟩)
          | fail)
        refine (errs_new (n := 2) [UE, 1] _ rfl (by simp) rfl (by omega)).mono ?_
        rintro e w8 ⟨rfl, hg8⟩
        rw [HX.out]
        have HG8 := Lib.hid hg8; clear hg8
        go_wp2_with fail
        go_meet
        exact ⟨rfl, HG8.out⟩
      · have d2 : decide (132 < month) = false := decide_eq_false t2
        have HX := Lib.hid (show firstE [UE, 0] = E1 by rw [← HE1.out, ← mon_first, HUE.out, show inB month 0 132 = true by unfold inB; rw [decide_eq_true (by omega), decide_eq_true (by omega)]; rfl]; rfl)
        go_wp2_with (first
          | (go_at_call 14; refine (whenE_any _ _ _).mono ?_; rintro e w' ⟨rfl, rfl⟩)
          | fail)
        refine (errs_new (n := 2) [UE, 0] _ rfl (by simp) rfl (by omega)).mono ?_
        rintro e w8 ⟨rfl, hg8⟩
        rw [HX.out]
        have HG8 := Lib.hid hg8; clear hg8
        go_wp2_with fail
        go_meet
        exact ⟨rfl, HG8.out⟩
  case rest =>
    obtain ⟨rfl, hg8⟩ := hcut
    obtain ⟨w8, rfl⟩ : ∃ w8 : World, w8 = wc := ⟨_, rfl⟩
    replace HC := Lib.hid (HC.out.grown hg8 (fun g e => by cases e))
    replace HI := Lib.hid (HI.out.grown hg8 (fun g e => by cases e))
    replace HU := Lib.hid (HU.out.grown hg8 (fun g e => by cases e))
    replace HT := Lib.hid (HT.out.grown hg8 (by simp))
    replace HTF := Lib.hid (HTF.out.grown hg8 (fun g e => by cases e))
    replace HPY := Lib.hid (HPY.out.grown hg8 (fun g e => by cases e))
    replace HRC := Lib.hid (HRC.out.grown hg8 (fun g e => by cases e))
    replace HG := Lib.hid (gr_none HG.out hg8)
    clear hg8
    have q1 : (E1 == E1) = true := beq_self_eq_true _
    have q2 : (UE == UE) = true := beq_self_eq_true _
    by_cases e1 : E1 = 0
    · have d1 : (E1 == 0) = true := by simpa using e1
      obtain ⟨hu, hmB⟩ := mon_right (HE1.out.trans e1)
      obtain ⟨r1, r2, r3⟩ := use_right hu
      have d2 : (UE == 0) = true := by rw [← HUE.out, hu]; rfl
      have HUSE := Lib.hid (show UseOk _ lo ⟨cA, cn, cc, free, iA, en, ic, cl, ins⟩ P pn pc p L ln lc l from ⟨HTF.out, HPY.out, HRC.out, r1, r2, r3⟩)
      have HFR := Lib.hid (tar_free r1)
      have HCL := Lib.hid (show chgL ⟨cA, cn, cc, free, iA, en, ic, cl, ins⟩ p l month = (chgAll ⟨cA, cn, cc, free, iA, en, ic, cl, ins⟩ p month l).map (·.1) by unfold chgL; rw [if_pos (HE1.out.trans e1)])
      have HIL := Lib.hid (show invL ⟨cA, cn, cc, free, iA, en, ic, cl, ins⟩ p l month = invTo month (chgAll ⟨cA, cn, cc, free, iA, en, ic, cl, ins⟩ p month l) p p.length by unfold invL; rw [if_pos (HE1.out.trans e1)])
      have HUL := Lib.hid (show unpL ⟨cA, cn, cc, free, iA, en, ic, cl, ins⟩ p l = unpTo ⟨cA, cn, cc, free, iA, en, ic, cl, ins⟩ p l l.length by unfold unpL; rw [if_pos hu])
      clear e1 hu hmB r1 r2 r3
      go_wp2_with fail
      refine H_begin (fun w' => w8.grownBy w' none) (by kernel_rfl) ?_
      have hHeld : w8.grownBy w8.drew none := gr_drew (gr_refl _ _)
      refine H_take (k := 0) (v := .agg #[.slice cA cn cc, .int .i64 free, .slice iA en ic]) (by rfl) (by kernel_rfl) (by kernel_rfl) (by kernel_rfl) (by exact fun _ _ _ h => h) (by rfl) (fun w' hSw => exec_load_at Tryz.tfT _ rfl _ rfl [.slice cA cn cc, .int .i64 free, .slice iA en ic] rfl (fun j u hu => by rw [add_mk, Nat.zero_add]; exact ((HT.out.grown hSw (by simp)).cell j).trans (by simpa using hu))) (by assumption) ?_
      (try simp only [Act.put, List.setIfInBounds_toArray, List.set_cons_zero, List.set_cons_succ])
      refine H_take (k := 1) (v := ?_) (by rfl) (by kernel_rfl) (by kernel_rfl) (by kernel_rfl) (by exact fun _ _ _ h => h) (by rfl) ?_ (by assumption) ?_
      rotate_left 1
      · intro w hSw
        (try dsimp only at hSw)
        go_simp
        (try with_reducible rfl)
      (try simp only [Act.put, List.setIfInBounds_toArray, List.set_cons_zero, List.set_cons_succ])
      refine H_take (k := 2) (v := ?_) (by rfl) (by kernel_rfl) (by kernel_rfl) (by kernel_rfl) (by exact fun _ _ _ h => h) (by rfl) ?_ (by assumption) ?_
      rotate_left 1
      · intro w hSw
        (try dsimp only at hSw)
        go_simp
        (try with_reducible rfl)
      (try simp only [Act.put, List.setIfInBounds_toArray, List.set_cons_zero, List.set_cons_succ])
      refine H_take (k := 3) (v := ?_) (by rfl) (by kernel_rfl) (by kernel_rfl) (by kernel_rfl) (by exact fun _ _ _ h => h) (by rfl) ?_ (by assumption) ?_
      rotate_left 1
      · intro w hSw
        (try dsimp only at hSw)
        go_simp
        (try with_reducible rfl)
      (try simp only [Act.put, List.setIfInBounds_toArray, List.set_cons_zero, List.set_cons_succ])
      refine H_take (k := 5) (v := .agg #[.slice cA cn cc, .int .i64 free, .slice iA en ic]) (by rfl) (by kernel_rfl) (by kernel_rfl) (by kernel_rfl) (by exact fun _ _ _ h => h) (by rfl) (fun w' hSw => exec_load_at Tryz.tfT _ rfl _ rfl [.slice cA cn cc, .int .i64 free, .slice iA en ic] rfl (fun j u hu => by rw [add_mk, Nat.zero_add]; exact ((HT.out.grown hSw (by simp)).cell j).trans (by simpa using hu))) (by assumption) ?_
      (try simp only [Act.put, List.setIfInBounds_toArray, List.set_cons_zero, List.set_cons_succ])
      refine H_take (k := 6) (v := ?_) (by rfl) (by kernel_rfl) (by kernel_rfl) (by kernel_rfl) (by exact fun _ _ _ h => h) (by rfl) ?_ (by assumption) ?_
      rotate_left 1
      · intro w hSw
        (try dsimp only at hSw)
        go_simp
        (try with_reducible rfl)
      (try simp only [Act.put, List.setIfInBounds_toArray, List.set_cons_zero, List.set_cons_succ])
      refine H_take (k := 7) (v := ?_) (by rfl) (by kernel_rfl) (by kernel_rfl) (by kernel_rfl) (by exact fun _ _ _ h => h) (by rfl) ?_ (by assumption) ?_
      rotate_left 1
      · intro w hSw
        (try dsimp only at hSw)
        go_simp
        (try with_reducible rfl)
      (try simp only [Act.put, List.setIfInBounds_toArray, List.set_cons_zero, List.set_cons_succ])
      refine H_take (k := 8) (v := ?_) (by rfl) (by kernel_rfl) (by kernel_rfl) (by kernel_rfl) (by exact fun _ _ _ h => h) (by rfl) ?_ (by assumption) ?_
      rotate_left 1
      · intro w hSw
        (try dsimp only at hSw)
        go_simp
        (try with_reducible rfl)
      (try simp only [Act.put, List.setIfInBounds_toArray, List.set_cons_zero, List.set_cons_succ])
      refine H_run (k := 4) (by rfl) (by kernel_rfl) (by rfl) (fun K hK => ?_)
      go_simp
      refine (chargesOf_any lo cA iA cn cc en ic free cl ins P pn pc p L ln lc l month _ (HUSE.out.grown (gr_drew (gr_refl w8 none))) (by omega) HFR.out).mono ?_
      rintro e w9 ⟨cBd, cM, cD, rfl, hown, hg9⟩
      rw [← HCL.out] at hown
      have HCB := Lib.hid hown.recs
      have hgA : w8.grownBy w9 none := gr_none (gr_drew (gr_refl w8 none)) hg9
      clear hg9 hown
      go_simp
      refine hK _ _ hgA ?_
      clear hK K hHeld
      have hHeld := hgA
      refine H_run (k := 9) (by rfl) (by kernel_rfl) (by rfl) (fun K hK => ?_)
      go_simp
      refine (invoicesOf_any lo cA iA cn cc en ic free cl ins P pn pc p L ln lc l month _ (HUSE.out.grown hgA) (by omega) HFR.out).mono ?_
      rintro e w10 ⟨iBd, iM, iD, rfl, hown, hg10⟩
      rw [← HIL.out] at hown
      have HIB := Lib.hid hown.recs
      replace HCB := Lib.hid (HCB.out.grown hg10 (fun g e => by cases e))
      have hgB : w8.grownBy w10 none := gr_none hgA hg10
      clear hg10 hown hgA hHeld
      go_simp
      refine hK _ _ hgB ?_
      clear hK K
      have hHeld := hgB
      refine H_take (k := 10) (v := ?_) (by rfl) (by kernel_rfl) (by kernel_rfl) (by kernel_rfl) (by exact fun _ _ _ h => h) (by rfl) ?_ (by assumption) ?_
      rotate_left 1
      · intro w hSw
        (try dsimp only at hSw)
        go_simp
        (try with_reducible rfl)
      (try simp only [Act.put, List.setIfInBounds_toArray, List.set_cons_zero, List.set_cons_succ])
      refine H_take (k := 11) (v := ?_) (by rfl) (by kernel_rfl) (by kernel_rfl) (by kernel_rfl) (by exact fun _ _ _ h => h) (by rfl) ?_ (by assumption) ?_
      rotate_left 1
      · intro w hSw
        (try dsimp only at hSw)
        go_simp
        (try with_reducible rfl)
      (try simp only [Act.put, List.setIfInBounds_toArray, List.set_cons_zero, List.set_cons_succ])
      refine H_done (by kernel_rfl) ?_
      have HT10 := Lib.hid (HT.out.grown hgB (by simp))
      replace HC := Lib.hid (HC.out.grown hgB (fun g e => by cases e))
      replace HI := Lib.hid (HI.out.grown hgB (fun g e => by cases e))
      replace HU := Lib.hid (HU.out.grown hgB (fun g e => by cases e))
      have HUSE10 := Lib.hid (HUSE.out.grown hgB)
      replace HG := Lib.hid (gr_none HG.out hgB)
      clear hHeld hgB
      go_wp2_with (first
        | (refine wpl_load_all Tryz.tfT rfl _ rfl _ rfl _ _ HT10.out rfl ?_)
        | fail)
      refine (unpaidOf_any lo cA iA cn cc en ic free cl ins P pn pc p L ln lc l _ HUSE10.out (by omega)).mono ?_
      rintro e w11 ⟨uBd, uM, uD, rfl, hown, hg11⟩
      rw [← HUL.out] at hown
      have HUB := Lib.hid hown.recs
      clear hown
      replace HC := Lib.hid (HC.out.grown hg11 (fun g e => by cases e))
      replace HI := Lib.hid (HI.out.grown hg11 (fun g e => by cases e))
      replace HU := Lib.hid (HU.out.grown hg11 (fun g e => by cases e))
      replace HG := Lib.hid (gr_none HG.out hg11)
      replace HCB := Lib.hid (HCB.out.grown hg11 (fun g e => by cases e))
      replace HIB := Lib.hid (HIB.out.grown hg11 (fun g e => by cases e))
      clear hg11
      go_wp2_with fail
      refine (equalCh_same _ _ cAd cBd cN cC cM cD _ _ HC.out HCB.out (by omega)).mono ?_
      rintro e w21 ⟨rfl, k1, rfl⟩
      go_wp2_with fail
      refine (equalIn_same _ _ iAd iBd iN iC iM iD _ _ (HI.out.grown (gr_drewN (gr_refl _ none) _) (fun g e => by cases e)) (HIB.out.grown (gr_drewN (gr_refl _ none) _) (fun g e => by cases e)) (by omega)).mono ?_
      rintro e w22 ⟨rfl, k2, rfl⟩
      go_wp2_with fail
      refine (equalN_same _ _ uAd uBd uN uC uM uD _ _ (HU.out.grown (gr_drewN (gr_refl _ none) _) (fun g e => by cases e)) (HUB.out.grown (gr_drewN (gr_refl _ none) _) (fun g e => by cases e)) (by omega)).mono ?_
      rintro e w23 ⟨rfl, k3, rfl⟩
      go_wp2_with fail
      refine (accounted_true _).mono ?_
      rintro e w24 ⟨rfl, hg24⟩
      have HGE := Lib.hid (gr_none (gr_drewN HG.out _) hg24)
      clear hg24
      go_wp2_with fail
      go_ret
      refine ⟨rfl, ?_⟩
      have hfin := HGE.out
      rw [← HSB.out] at hfin
      exact below_of_gr hfin
    · have d1 : (E1 == 0) = false := by simpa using e1
      have HCL := Lib.hid (show chgL ⟨cA, cn, cc, free, iA, en, ic, cl, ins⟩ p l month = [] by unfold chgL; rw [if_neg (by rw [HE1.out]; exact e1)])
      have HIL := Lib.hid (show invL ⟨cA, cn, cc, free, iA, en, ic, cl, ins⟩ p l month = [] by unfold invL; rw [if_neg (by rw [HE1.out]; exact e1)])
      rw [HCL.out] at HC
      rw [HIL.out] at HI
      by_cases e2 : UE = 0
      · have d2 : (UE == 0) = true := by simpa using e2
        obtain ⟨r1, r2, r3⟩ := use_right (HUE.out.trans e2)
        have HUSE := Lib.hid (show UseOk _ lo ⟨cA, cn, cc, free, iA, en, ic, cl, ins⟩ P pn pc p L ln lc l from ⟨HTF.out, HPY.out, HRC.out, r1, r2, r3⟩)
        have HUL := Lib.hid (show unpL ⟨cA, cn, cc, free, iA, en, ic, cl, ins⟩ p l = unpTo ⟨cA, cn, cc, free, iA, en, ic, cl, ins⟩ p l l.length by unfold unpL; rw [if_pos (HUE.out.trans e2)])
        clear e1 e2 r1 r2 r3
        go_wp2_with (first
          | (refine wpl_load_all Tryz.tfT rfl _ rfl _ rfl _ _ HT.out rfl ?_)
          | fail)
        refine (unpaidOf_any lo cA iA cn cc en ic free cl ins P pn pc p L ln lc l _ HUSE.out (by omega)).mono ?_
        rintro e w11 ⟨uBd, uM, uD, rfl, hown, hg11⟩
        rw [← HUL.out] at hown
        have HUB := Lib.hid hown.recs
        clear hown
        replace HC := Lib.hid (HC.out.grown hg11 (fun g e => by cases e))
        replace HI := Lib.hid (HI.out.grown hg11 (fun g e => by cases e))
        replace HU := Lib.hid (HU.out.grown hg11 (fun g e => by cases e))
        replace HG := Lib.hid (gr_none HG.out hg11)
        clear hg11
        go_wp2_with fail
        refine (equalCh_same _ _ cAd none cN cC 0 0 _ _ HC.out (Recs.nil (lo := 0)) (by omega)).mono ?_
        rintro e w21 ⟨rfl, k1, rfl⟩
        go_wp2_with fail
        refine (equalIn_same _ _ iAd none iN iC 0 0 _ _ (HI.out.grown (gr_drewN (gr_refl _ none) _) (fun g e => by cases e)) ((Recs.nil (lo := 0)).grown (gr_drewN (gr_refl _ none) _) (fun g e => by cases e)) (by omega)).mono ?_
        rintro e w22 ⟨rfl, k2, rfl⟩
        go_wp2_with fail
        refine (equalN_same _ _ uAd uBd uN uC uM uD _ _ (HU.out.grown (gr_drewN (gr_refl _ none) _) (fun g e => by cases e)) (HUB.out.grown (gr_drewN (gr_refl _ none) _) (fun g e => by cases e)) (by omega)).mono ?_
        rintro e w23 ⟨rfl, k3, rfl⟩
        go_wp2_with fail
        refine (accounted_true _).mono ?_
        rintro e w24 ⟨rfl, hg24⟩
        have HGE := Lib.hid (gr_none (gr_drewN HG.out _) hg24)
        clear hg24
        go_wp2_with fail
        go_ret
        refine ⟨rfl, ?_⟩
        have hfin := HGE.out
        rw [← HSB.out] at hfin
        exact below_of_gr hfin
      · have d2 : (UE == 0) = false := by simpa using e2
        have HUL := Lib.hid (show unpL ⟨cA, cn, cc, free, iA, en, ic, cl, ins⟩ p l = [] by unfold unpL; rw [if_neg (by rw [HUE.out]; exact e2)])
        rw [HUL.out] at HU
        clear e1 e2
        go_wp2_with fail
        go_wp2_with fail
        refine (equalCh_same _ _ cAd none cN cC 0 0 _ _ HC.out (Recs.nil (lo := 0)) (by omega)).mono ?_
        rintro e w21 ⟨rfl, k1, rfl⟩
        go_wp2_with fail
        refine (equalIn_same _ _ iAd none iN iC 0 0 _ _ (HI.out.grown (gr_drewN (gr_refl _ none) _) (fun g e => by cases e)) ((Recs.nil (lo := 0)).grown (gr_drewN (gr_refl _ none) _) (fun g e => by cases e)) (by omega)).mono ?_
        rintro e w22 ⟨rfl, k2, rfl⟩
        go_wp2_with fail
        refine (equalN_same _ _ uAd none uN uC 0 0 _ _ (HU.out.grown (gr_drewN (gr_refl _ none) _) (fun g e => by cases e)) ((Recs.nil (lo := 0)).grown (gr_drewN (gr_refl _ none) _) (fun g e => by cases e)) (by omega)).mono ?_
        rintro e w23 ⟨rfl, k3, rfl⟩
        go_wp2_with fail
        refine (accounted_true _).mono ?_
        rintro e w24 ⟨rfl, hg24⟩
        have HGE := Lib.hid (gr_none (gr_drewN HG.out _) hg24)
        clear hg24
        go_wp2_with fail
        go_ret
        refine ⟨rfl, ?_⟩
        have hfin := HGE.out
        rw [← HSB.out] at hfin
        exact below_of_gr hfin
theorem met_RecordsCharged {W : World} (_h : laidMetH Tryz.prog Rows.recordsChargedRow.laid W) : True := trivial

theorem own_RecordsCharged : ownKnob Tryz.prog.godebug = none := by kernel_rfl
theorem laidOut_RecordsCharged : laidOutB Tryz.prog = true := by kernel_rfl
set_option maxRecDepth 100000 in
theorem lifted_RecordsCharged (os : Os) (started : os.Started) (H : Type) (enc : TypeId × Value → H) :
    ReturnsInHanded {} Tryz.checked os 3 .any (fun w args => (Rows.recordsChargedSpec.pre enc Tryz.prog Tryz.f3 [] false w args ∧ laidMetH Tryz.prog Rows.recordsChargedRow.laid w) ∧ sizedMet enc Tryz.prog Tryz.f3 (OpenSpec.ofChange Rows.recordsChargedSpec) false w args) (Rows.recordsChargedSpec.post enc Tryz.prog Tryz.f3 false true false false) := by
  refine returnsInHanded_of_change_and (C := Tryz.checked) (X := fun w _ => laidMetH Tryz.prog Rows.recordsChargedRow.laid w) (fun _ _ _ hh h => h.of_heap hh) own_RecordsCharged started (by kernel_rfl) Tryz.func3
    (ChangeSpec.witness_shaped (enc := enc) (C := Tryz.checked) (os := os) (X := fun w _ => laidMetH Tryz.prog Rows.recordsChargedRow.laid w) false (World.laidAll Tryz.prog os Rows.recordsChargedRow.laid) #[.slice none 0 0] 8 (World.laidAll_os _ _ _) (World.shaped_of_ZipB (by kernel_rfl) (by kernel_rfl)) (by kernel_rfl) (by kernel_rfl) (by kernel_rfl)
      (by rw [MakeChecks.laidMetH_plain _ _ _ (by kernel_rfl)]; exact laidMet_laidAll _ (by kernel_rfl) (by kernel_rfl))) ?_
  intro W base args ds gs before hval0 hW _ _ hL _
  have hval : ∀ (j : Nat) t v, Tryz.f3.params[j]? = some t → args[j]? = some v → Value.okWide Tryz.prog W .any base t v := hval0
  have hW' := hW
  obtain ⟨p, q, hA0, hV, rfl, hfz, hnd⟩ := hW
  have hA : DataW.TrodAll enc Tryz.prog W 0 (fun _ => true) true Tryz.f3.params.toList args.toList ds p := hA0
  rw [Tryz.params3] at hA hval
  obtain ⟨v0, vs0, d0, ds0, p0, q0, hargs, rfl, rfl, h0, r0⟩ := trodAll_cons hA
  obtain ⟨rfl, rfl, rfl⟩ := trodAll_nil r0
  obtain rfl : args = #[v0] := by cases args; simp_all
  obtain ⟨rfl, rfl⟩ := trodVars_none hV
  obtain ⟨a0, len0, cap0, rfl⟩ := okWide_slice Tryz.underlying22 (hval 0 22 v0 rfl rfl)
  have k0 := h0
  have lt0 : ∀ x ∈ p0, x.block < W.heap.size := by obtain ⟨m, hm⟩ := k0; exact DataW.trod_lt m _ _ _ hm
  obtain ⟨z0, w0⟩ : ∃ zs, IsRow .i64 W a0 len0 cap0 zs := by
    obtain ⟨fuel, hf⟩ := h0
    rcases open_ints Tryz.underlying22 Tryz.underlying3 (by kernel_rfl) hf with ⟨hcs, _⟩ | ⟨x, l, c, zs, hcs, _, hl, hm, hz, _, hcell, hwz⟩
    · simp [Value.cells] at hcs
      obtain ⟨rfl, rfl, rfl⟩ := hcs
      exact ⟨[], .inl ⟨rfl, rfl, rfl, rfl⟩⟩
    · simp [Value.cells] at hcs
      obtain ⟨rfl, rfl, rfl⟩ := hcs
      exact ⟨zs, .inr ⟨_, rfl, hl, hm, by simpa using hz, hcell, hwz⟩⟩
  clear hA0 hval0
  refine (walk_RecordsCharged a0 len0 cap0 z0 W w0 (met_RecordsCharged hL)).mono fun e W' ⟨he, bel⟩ => ?_
  subst he
  exact ⟨_, rfl, _, _, _, [], _, [], hW', trodAll_mk1 (shut_bool Tryz.underlying4 _), (trodAll_cons_mk (Below.trod laidOut_RecordsCharged (by kernel_rfl) (of_decide_eq_true (by kernel_rfl)) k0 bel lt0) trodAll_mk0), rfl, bel.frame _, fun h => by cases h⟩

theorem over_RecordsCharged : Rows.recordsChargedRow.holds Tryz.pinned (OpenSpec.ofChange Rows.recordsChargedSpec) :=
  OpenClaim.holds_of_wide 3 Tryz.f3 rfl rfl rfl rfl rfl rfl rfl ⟨rfl, rfl, rfl, rfl, rfl⟩ rfl rfl rfl rfl rfl (by kernel_rfl) Tryz.func3 (by kernel_rfl)
    (of_decide_eq_true (by kernel_rfl)) (by unfold Func.isWrapper; first | (rw [if_pos (by decide +kernel)]; kernel_rfl) | (rw [if_neg (by decide +kernel)]; exact ⟨rfl, rfl⟩))
    (fun os started H enc _ => lifted_RecordsCharged os started H enc)

theorem proved_RecordsCharged : Rows.RecordsChargedCardSaid :=
  Claim7.holds_tied_plain_at .later [] [.data, .pinned] true Rows.recordsChargedCard.stood.harness false
    over_RecordsCharged (fun _ h => by cases h) (by kernel_rfl) (fun _ h => by cases h) recordsCharged_row_tie rfl ⟨rfl, rfl⟩ (by kernel_rfl) rfl
    (fun f fn hf hfn => by
      obtain rfl : f = 3 := Option.some.inj ((show Tryz.prog.funcNamed Rows.recordsChargedRow.func = some 3 by kernel_rfl).symm.trans hf) |>.symm
      obtain rfl : fn = Tryz.f3 := (Option.some.inj (Tryz.func3.symm.trans hfn)).symm
      exact ⟨by kernel_rfl, fun j t ht => by
        rw [Tryz.params3] at ht
        have h3 : t = 22 := by
          rcases j with _ | j
          · simpa using ht.symm
          · simp at ht
        subst h3
        exact (show Tryz.prog.wantsStandIn 22 = false by kernel_rfl)⟩)
    (by kernel_rfl)
end Go.Proofs.YtdgjjjdndedeiaaGreatDoor


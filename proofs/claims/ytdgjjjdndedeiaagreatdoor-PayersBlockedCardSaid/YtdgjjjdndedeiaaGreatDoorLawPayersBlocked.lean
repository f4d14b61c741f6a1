/- The law PayersBlocked: CheckWatches, Blocks, Blocked and Stopped are as specified for all watches and records. Conditions: none beside the row's own. -/
import Derived.Test.YtdgjjjdndedeiaaGreatDoorBun1
import Derived.Test.YtdgjjjdndedeiaaGreatDoorBun5
import Derived.Test.YtdgjjjdndedeiaaGreatDoorGenWat
import Derived.Test.YtdgjjjdndedeiaaGreatDoorWa5
import Derived.Test.YtdgjjjdndedeiaaGreatDoorWa6
import Derived.Test.YtdgjjjdndedeiaaGreatDoorBun3
import Derived.Test.YtdgjjjdndedeiaaGreatDoorTie
import Derived.Test.YtdgjjjdndedeiaaGreatDoorCards
import Derived.ProofKit
import Derived.Lay
import Derived.OpenShut
import Derived.Stop.Joined
import Derived.SevenTiedAt
import Derived.LaidMore
import Derived.MakeChecks
import Derived.LaidHandle
import Derived.Deep.CutBlock
import Derived.Deep.RegionHeld3
namespace Go.Proofs.YtdgjjjdndedeiaaGreatDoor
open Go.ChangeShapes Go.WideShapes Go.ChangeAt Go.RowKit

theorem wat_first (t : TfV) (p : List PyV) (ws : List WaV) (l : List RcV) : firstE [tarE t, pysE p, wasE ws, rcsE l] = watE t p ws l := by
  simp only [firstE_cons, firstE_nil]
  unfold watE
  by_cases h1 : tarE t = 0
  · rw [if_pos h1, if_pos h1]
    by_cases h2 : pysE p = 0
    · rw [if_pos h2, if_pos h2]
      by_cases h3 : wasE ws = 0
      · rw [if_pos h3, if_pos h3]
        by_cases h4 : rcsE l = 0
        · rw [if_pos h4, h4]
        · rw [if_neg h4]
      · rw [if_neg h3, if_neg h3]
    · rw [if_neg h2, if_neg h2]
  · rw [if_neg h1, if_neg h1]
set_option maxRecDepth 100000 in
set_option maxHeartbeats 8000000 in
theorem walk_PayersBlocked (a0 : Option Addr) (len cap : Nat) (zs : List Int) (W : World) (h : IsRow .i64 W a0 len cap zs) (_ht : True) :
    Calls Tryz.prog 4 #[.slice a0 len cap] W (fun e w' => e = .returned (.bool true) ∧ Below W.heap.size W w') := by
  have hs := str_new h
  obtain ⟨sb, hsb⟩ : ∃ sb, W.heap.size = sb := ⟨_, rfl⟩
  have HG := Lib.hid (show W.grownBy (W.alloc (.cells #[.slice a0 len cap, .int .i64 0] 25)) (some sb) from gr_alloc (gr_refl _ _) _)
  rw [hsb] at hs
  have hlt := hs.lt
  have HS := Lib.hid hs
  have HSB := Lib.hid hsb
  clear h hs
  go_enter Tryz.func4, Tryz.ntmps4
  go_wp2_with fail
  refine (range_any sb 0 0 14 _ HS.out (by omega) (by omega) (by omega) (by omega)).mono ?_
  rintro e w1 ⟨v1, rfl, ⟨r1, hlo1, hhi1, rfl⟩, hs1, hg1⟩
  obtain ⟨many, rfl⟩ : ∃ many : Nat, r1 = many := ⟨r1.toNat, by omega⟩
  have hmany : many ≤ 14 := by omega
  replace HS := Lib.hid hs1
  replace HG := Lib.hid (gr_same HG.out hg1)
  have z1 := hg1.size
  clear hs1 hg1 hlo1
  go_wp2_with fail
  refine (books_any sb _ many _ HS.out (by omega) hmany).mono ?_
  rintro e w2 ⟨v2, rfl, ⟨cA, iA, cn, cc, en, ic, free, cl, ins, P, pn, pc, p, L, ln, lc, l, rfl, htf, hpy, hrc, hpn, hln⟩, hs2, hg2⟩
  obtain ⟨lo, hlo⟩ : ∃ lo, w1.heap.size = lo := ⟨_, rfl⟩
  rw [hlo] at htf hpy hrc
  have zlo : sb < lo := by have := HS.out.lt; omega
  replace HS := Lib.hid hs2
  replace HG := Lib.hid (gr_same HG.out hg2)
  have z2 := hg2.size
  rw [hlo] at z2
  clear hs2 hg2 hlo hhi1
  obtain ⟨UE, hUE⟩ : ∃ E, firstE [tarE ⟨cA, cn, cc, free, iA, en, ic, cl, ins⟩, pysE p, rcsE l] = E := ⟨_, rfl⟩
  rw [hUE]
  clear hUE
  go_upto_region 3 with (fail)
  obtain ⟨w3, hw3⟩ : ∃ w3, w2.alloc (.cells #[.slice cA cn cc, .int .i64 free, .slice iA en ic] 29) = w3 := ⟨_, rfl⟩
  rw [hw3]
  obtain ⟨tb, htb⟩ : ∃ tb, w2.heap.size = tb := ⟨_, rfl⟩
  rw [htb]
  have HT := Lib.hid (show Blk w3 tb 29 #[.slice cA cn cc, .int .i64 free, .slice iA en ic] by rw [← hw3, ← htb]; exact Blk.new _ _ _)
  have ztb : sb < tb := by omega
  have hg23 : w2.grownBy w3 none := by rw [← hw3]; exact gr_alloc (gr_refl _ _) _
  have HTF := Lib.hid (htf.grown hg23 (fun g e => by cases e))
  have HPY := Lib.hid (hpy.grown hg23 (fun g e => by cases e))
  have HRC := Lib.hid (hrc.grown hg23 (fun g e => by cases e))
  replace HG := Lib.hid (gr_none HG.out hg23)
  replace HS := Lib.hid (show Str w3 sb _ by rw [← hw3]; exact HS.out.alloc _)
  have zw3 : lo ≤ w3.heap.size := by have := hg23.size; omega
  clear hw3 htb htf hpy hrc hg23
  go_wp2_with fail
  refine (watches_any sb _ _ HS.out (by omega)).mono ?_
  rintro e w4 ⟨v4, rfl, ⟨WA, wn, wc, ws, rfl, hwas, hwn⟩, hs4, hg4⟩
  have HWA := Lib.hid (show Was w4 lo WA wn wc ws from ⟨hwas.1.lower zw3, hwas.2⟩)
  replace HT := Lib.hid (HT.out.grown hg4 (by simp; omega))
  replace HTF := Lib.hid (HTF.out.grown hg4 (fun g e => by injection e with e; omega))
  replace HPY := Lib.hid (HPY.out.grown hg4 (fun g e => by injection e with e; omega))
  replace HRC := Lib.hid (HRC.out.grown hg4 (fun g e => by injection e with e; omega))
  replace HG := Lib.hid (gr_same HG.out hg4)
  replace HS := Lib.hid hs4
  have z4 := hg4.size
  clear hs4 hg4 hwas
  obtain ⟨E1, hE1⟩ : ∃ E, watE ⟨cA, cn, cc, free, iA, en, ic, cl, ins⟩ p ws l = E := ⟨_, rfl⟩
  have HE1 := Lib.hid hE1; clear hE1
  go_wp2_with (first
    | (refine wpl_load_all Tryz.tfT rfl _ rfl _ rfl _ _ HT.out rfl ?_)
    | fail)
  refine (Blocks_any lo cA iA cn cc en ic free cl ins P pn pc p L ln lc l WA wn wc ws _ HTF.out HPY.out HWA.out HRC.out (by omega) (by omega) (by omega)).mono ?_
  rintro e w5 ⟨bAd, bN, bC, rfl, hown, hg5⟩
  rw [HE1.out]
  have HB := Lib.hid (hown.recs.lower (show lo ≤ w4.heap.size by omega))
  have hbN : bN ≤ 3000 := by
    rw [← hown.2]; unfold blkL
    split
    · exact Nat.le_trans (wRun_ok _ _ _ _ _).bn (by rw [HRC.out.1.len]; omega)
    · exact Nat.zero_le _
  clear hown
  replace HT := Lib.hid (HT.out.grown hg5 (by simp))
  replace HTF := Lib.hid (HTF.out.grown hg5 (fun g e => by cases e))
  replace HPY := Lib.hid (HPY.out.grown hg5 (fun g e => by cases e))
  replace HRC := Lib.hid (HRC.out.grown hg5 (fun g e => by cases e))
  replace HWA := Lib.hid (HWA.out.grown hg5 (fun g e => by cases e))
  replace HS := Lib.hid (HS.out.grown hg5 (fun g e => by cases e))
  replace HG := Lib.hid (gr_none HG.out hg5)
  clear hg5
  go_wp2_with (first
    | (refine wpl_load_all Tryz.tfT rfl _ rfl _ rfl _ _ HT.out rfl ?_)
    | fail)
  refine (Stopped_any lo cA iA cn cc en ic free cl ins P pn pc p L ln lc l WA wn wc ws _ HTF.out HPY.out HWA.out HRC.out (by omega) (by omega) (by omega)).mono ?_
  rintro e w6 ⟨sAd, sN, sC, rfl, hown, hg6⟩
  rw [HE1.out]
  have HST := Lib.hid hown.recs
  have hsN : sN ≤ 3000 := by
    rw [← hown.2]; unfold stpL
    split
    · unfold natI; rw [List.length_map]; exact Nat.le_trans (wRun_ok _ _ _ _ _).sn (by rw [HRC.out.1.len]; omega)
    · exact Nat.zero_le _
  clear hown
  replace HB := Lib.hid (HB.out.grown hg6 (fun g e => by cases e))
  replace HT := Lib.hid (HT.out.grown hg6 (by simp))
  replace HTF := Lib.hid (HTF.out.grown hg6 (fun g e => by cases e))
  replace HPY := Lib.hid (HPY.out.grown hg6 (fun g e => by cases e))
  replace HRC := Lib.hid (HRC.out.grown hg6 (fun g e => by cases e))
  replace HWA := Lib.hid (HWA.out.grown hg6 (fun g e => by cases e))
  replace HS := Lib.hid (HS.out.grown hg6 (fun g e => by cases e))
  replace HG := Lib.hid (gr_none HG.out hg6)
  clear hg6
  go_wp2_with (first
    | (refine wpl_load_all Tryz.tfT rfl _ rfl _ rfl _ _ HT.out rfl ?_)
    | fail)
  refine (tariffFault_any lo ⟨cA, cn, cc, free, iA, en, ic, cl, ins⟩ _ HTF.out).mono ?_
  rintro e w7 ⟨rfl, hg7⟩
  replace HB := Lib.hid (HB.out.grown hg7 (fun g e => by cases e))
  replace HST := Lib.hid (HST.out.grown hg7 (fun g e => by cases e))
  replace HT := Lib.hid (HT.out.grown hg7 (by simp))
  replace HTF := Lib.hid (HTF.out.grown hg7 (fun g e => by cases e))
  replace HPY := Lib.hid (HPY.out.grown hg7 (fun g e => by cases e))
  replace HRC := Lib.hid (HRC.out.grown hg7 (fun g e => by cases e))
  replace HWA := Lib.hid (HWA.out.grown hg7 (fun g e => by cases e))
  replace HS := Lib.hid (HS.out.grown hg7 (fun g e => by cases e))
  replace HG := Lib.hid (gr_none HG.out hg7)
  clear hg7
  go_wp2_with fail
  refine (payersFault_any lo _ _ _ p _ HPY.out (by omega)).mono ?_
  rintro e w8 ⟨rfl, hg8⟩
  replace HB := Lib.hid (HB.out.grown hg8 (fun g e => by cases e))
  replace HST := Lib.hid (HST.out.grown hg8 (fun g e => by cases e))
  replace HT := Lib.hid (HT.out.grown hg8 (by simp))
  replace HTF := Lib.hid (HTF.out.grown hg8 (fun g e => by cases e))
  replace HPY := Lib.hid (HPY.out.grown hg8 (fun g e => by cases e))
  replace HRC := Lib.hid (HRC.out.grown hg8 (fun g e => by cases e))
  replace HWA := Lib.hid (HWA.out.grown hg8 (fun g e => by cases e))
  replace HS := Lib.hid (HS.out.grown hg8 (fun g e => by cases e))
  replace HG := Lib.hid (gr_none HG.out hg8)
  clear hg8
  go_wp2_with fail
  refine (watchesFault_any lo _ _ _ ws _ HWA.out (by omega)).mono ?_
  rintro e w9 ⟨rfl, hg9⟩
  replace HB := Lib.hid (HB.out.grown hg9 (fun g e => by cases e))
  replace HST := Lib.hid (HST.out.grown hg9 (fun g e => by cases e))
  replace HT := Lib.hid (HT.out.grown hg9 (by simp))
  replace HTF := Lib.hid (HTF.out.grown hg9 (fun g e => by cases e))
  replace HPY := Lib.hid (HPY.out.grown hg9 (fun g e => by cases e))
  replace HRC := Lib.hid (HRC.out.grown hg9 (fun g e => by cases e))
  replace HWA := Lib.hid (HWA.out.grown hg9 (fun g e => by cases e))
  replace HS := Lib.hid (HS.out.grown hg9 (fun g e => by cases e))
  replace HG := Lib.hid (gr_none HG.out hg9)
  clear hg9
  go_wp2_with fail
  refine (recordsFault_any lo _ _ _ l _ HRC.out (by omega)).mono ?_
  rintro e w10 ⟨rfl, hg10⟩
  replace HB := Lib.hid (HB.out.grown hg10 (fun g e => by cases e))
  replace HST := Lib.hid (HST.out.grown hg10 (fun g e => by cases e))
  replace HT := Lib.hid (HT.out.grown hg10 (by simp))
  replace HTF := Lib.hid (HTF.out.grown hg10 (fun g e => by cases e))
  replace HPY := Lib.hid (HPY.out.grown hg10 (fun g e => by cases e))
  replace HRC := Lib.hid (HRC.out.grown hg10 (fun g e => by cases e))
  replace HWA := Lib.hid (HWA.out.grown hg10 (fun g e => by cases e))
  replace HS := Lib.hid (HS.out.grown hg10 (fun g e => by cases e))
  replace HG := Lib.hid (gr_none HG.out hg10)
  clear hg10
  go_wp2_with fail
  refine (errs_new (n := 4) [tarE ⟨cA, cn, cc, free, iA, en, ic, cl, ins⟩, pysE p, wasE ws, rcsE l] _ rfl (by simp) rfl (by omega)).mono ?_
  rintro e w11 ⟨rfl, hg11⟩
  rw [wat_first, HE1.out]
  replace HB := Lib.hid (HB.out.grown hg11 (fun g e => by cases e))
  replace HST := Lib.hid (HST.out.grown hg11 (fun g e => by cases e))
  replace HT := Lib.hid (HT.out.grown hg11 (by simp))
  replace HTF := Lib.hid (HTF.out.grown hg11 (fun g e => by cases e))
  replace HPY := Lib.hid (HPY.out.grown hg11 (fun g e => by cases e))
  replace HRC := Lib.hid (HRC.out.grown hg11 (fun g e => by cases e))
  replace HWA := Lib.hid (HWA.out.grown hg11 (fun g e => by cases e))
  replace HS := Lib.hid (HS.out.grown hg11 (fun g e => by cases e))
  replace HG := Lib.hid (gr_none HG.out hg11)
  clear hg11
  go_wp2_with fail
  obtain ⟨EW, hEW⟩ : ∃ E, wasE ws = E := ⟨_, rfl⟩
  have HEW := Lib.hid hEW; clear hEW
  refine (checkWatches_any lo _ _ _ ws _ HWA.out (by omega)).mono ?_
  rintro e w12 ⟨rfl, hg12⟩
  rw [HEW.out]
  replace HB := Lib.hid (HB.out.grown hg12 (fun g e => by cases e))
  replace HST := Lib.hid (HST.out.grown hg12 (fun g e => by cases e))
  replace HT := Lib.hid (HT.out.grown hg12 (by simp))
  replace HTF := Lib.hid (HTF.out.grown hg12 (fun g e => by cases e))
  replace HPY := Lib.hid (HPY.out.grown hg12 (fun g e => by cases e))
  replace HRC := Lib.hid (HRC.out.grown hg12 (fun g e => by cases e))
  replace HWA := Lib.hid (HWA.out.grown hg12 (fun g e => by cases e))
  replace HS := Lib.hid (HS.out.grown hg12 (fun g e => by cases e))
  replace HG := Lib.hid (gr_none HG.out hg12)
  clear hg12
  go_wp2_with fail
  refine (watchesFault_any lo _ _ _ ws _ HWA.out (by omega)).mono ?_
  rintro e w13 ⟨rfl, hg13⟩
  rw [HEW.out]
  replace HB := Lib.hid (HB.out.grown hg13 (fun g e => by cases e))
  replace HST := Lib.hid (HST.out.grown hg13 (fun g e => by cases e))
  replace HT := Lib.hid (HT.out.grown hg13 (by simp))
  replace HTF := Lib.hid (HTF.out.grown hg13 (fun g e => by cases e))
  replace HPY := Lib.hid (HPY.out.grown hg13 (fun g e => by cases e))
  replace HRC := Lib.hid (HRC.out.grown hg13 (fun g e => by cases e))
  replace HWA := Lib.hid (HWA.out.grown hg13 (fun g e => by cases e))
  replace HS := Lib.hid (HS.out.grown hg13 (fun g e => by cases e))
  replace HG := Lib.hid (gr_none HG.out hg13)
  clear hg13
  have q0 : (EW != EW) = false := by simp
  have q1 : (E1 != E1) = false := by simp
  by_cases e1 : E1 = 0
  · have d1 : (E1 == 0) = true := by simpa using e1
    obtain ⟨r1, r2, r3, r4⟩ := wat_right (HE1.out.trans e1)
    have HOK := Lib.hid (show WatchOk _ lo ⟨cA, cn, cc, free, iA, en, ic, cl, ins⟩ P pn pc p WA wn wc ws L ln lc l from ⟨⟨HTF.out, HPY.out, HRC.out, r1, r2, r4⟩, HWA.out, r3⟩)
    have HBL := Lib.hid (show blkL ⟨cA, cn, cc, free, iA, en, ic, cl, ins⟩ p ws l = (wRun ⟨cA, cn, cc, free, iA, en, ic, cl, ins⟩ p ws l l.length).bl by unfold blkL; rw [if_pos (HE1.out.trans e1)])
    have HSL := Lib.hid (show stpL ⟨cA, cn, cc, free, iA, en, ic, cl, ins⟩ p ws l = natI (wRun ⟨cA, cn, cc, free, iA, en, ic, cl, ins⟩ p ws l l.length).st by unfold stpL; rw [if_pos (HE1.out.trans e1)])
    clear e1 r1 r2 r3 r4
    go_wp2_with (first
      | (refine wpl_load_all Tryz.tfT rfl _ rfl _ rfl _ _ HT.out rfl ?_)
      | fail)
    refine (watchedOf_any lo cA iA cn cc en ic free cl ins P pn pc p L ln lc l WA wn wc ws _ HOK.out (by omega)).mono ?_
    rintro e w14 ⟨bBd, bM, bD, sBd, sM, sD, rfl, hob, hos, hg14⟩
    rw [← HBL.out] at hob
    rw [← HSL.out] at hos
    have HBB := Lib.hid hob.recs; have HSS := Lib.hid hos.recs
    clear hob hos
    replace HB := Lib.hid (HB.out.grown hg14 (fun g e => by cases e))
    replace HST := Lib.hid (HST.out.grown hg14 (fun g e => by cases e))
    replace HT := Lib.hid (HT.out.grown hg14 (by simp))
    replace HTF := Lib.hid (HTF.out.grown hg14 (fun g e => by cases e))
    replace HPY := Lib.hid (HPY.out.grown hg14 (fun g e => by cases e))
    replace HRC := Lib.hid (HRC.out.grown hg14 (fun g e => by cases e))
    replace HWA := Lib.hid (HWA.out.grown hg14 (fun g e => by cases e))
    replace HS := Lib.hid (HS.out.grown hg14 (fun g e => by cases e))
    replace HG := Lib.hid (gr_none HG.out hg14)
    clear hg14
    go_wp2_with fail
    refine (equalBl_same _ _ bAd bBd bN bC bM bD _ _ HB.out HBB.out (by omega)).mono ?_
    rintro e w21 ⟨rfl, k1, rfl⟩
    go_wp2_with fail
    refine (equalN_same _ _ sAd sBd sN sC sM sD _ _ (HST.out.grown (gr_drewN (gr_refl _ none) _) (fun g e => by cases e)) (HSS.out.grown (gr_drewN (gr_refl _ none) _) (fun g e => by cases e)) (by omega)).mono ?_
    rintro e w22 ⟨rfl, k2, rfl⟩
    replace HB := Lib.hid (HB.out.grown (gr_drewN (gr_refl _ none) (k1 + k2)) (fun g e => by cases e))
    replace HS := Lib.hid (HS.out.drewN (k1 + k2))
    replace HG := Lib.hid (gr_drewN HG.out (k1 + k2))
    go_wp2_with fail
    refine (some_new (n := 3) sb _ 3 _ HS.out (by omega) (by simp) (by
      repeat (first | exact StrsOk.nil _ | refine StrsOk.cons (by decide) ?_)) rfl (by omega) (by omega)).mono ?_
    rintro e w23 ⟨v23, rfl, ⟨who, rfl, hwho⟩, hs23, hg23⟩
    replace HB := Lib.hid (HB.out.grown hg23 (fun g e => by injection e with e; omega))
    replace HG := Lib.hid (gr_same HG.out hg23)
    replace HS := Lib.hid hs23
    clear hs23 hg23
    go_wp2_with fail
    refine (pick_new sb _ [0, 101, 200, 1001, 61001, -1] _ HS.out (by omega) (by simp) rfl rfl (by simp) (by simp)).mono ?_
    rintro e w24 ⟨v24, rfl, ⟨mo, hmo, rfl⟩, hs24, hg24⟩
    replace HB := Lib.hid (HB.out.grown hg24 (fun g e => by injection e with e; omega))
    replace HG := Lib.hid (gr_same HG.out hg24)
    clear hs24 hg24 hmo HS
    obtain ⟨KB, hKB⟩ : ∃ K, keyOk (nb who) = K := ⟨_, rfl⟩
    obtain ⟨MB, hMB⟩ : ∃ M, momB mo = M := ⟨_, rfl⟩
    have HX := Lib.hid (show bkdE bN who mo = if KB then (if MB then 0 else 1) else 5 by unfold bkdE; rw [if_neg (by omega), hKB, hMB])
    have HKB := Lib.hid hKB; have HMB := Lib.hid hMB
    clear hKB hMB
    obtain ⟨BL, hbl⟩ : ∃ BL, Recs BlV.row 4 w24 lo bAd bN bC BL := ⟨_, HB.out⟩
    replace HB := Lib.hid hbl
    clear hbl
    obtain ⟨BV, hBV⟩ : ∃ B, blkB BL who mo = B := ⟨_, rfl⟩
    have HBV := Lib.hid hBV; clear hBV
    go_wp2_with fail
    refine (Blocked_any lo bAd bN bC BL who mo _ HB.out (by omega) (by omega)).mono ?_
    rintro e w25 ⟨rfl, hg25⟩
    replace HB := Lib.hid (HB.out.grown hg25 (fun g e => by cases e))
    replace HG := Lib.hid (gr_none HG.out hg25)
    clear hg25
    cases KB
    · have hv : bkdV BL bN who mo = false := by unfold bkdV; rw [show bkdE bN who mo = 5 from HX.out]; rfl
      cases MB
      · rw [show bkdE bN who mo = 5 from HX.out, hv]
        clear hv
        go_wp2_with fail
        refine (keyRefR_any who _ (by omega)).mono ?_
        rintro e w26 ⟨rfl, hg26⟩
        rw [HKB.out]
        replace HB := Lib.hid (HB.out.grown hg26 (fun g e => by cases e))
        replace HG := Lib.hid (gr_none HG.out hg26)
        clear hg26
        go_wp2_with (first
          | (go_at_call 14; refine (whenE_any _ _ _).mono ?_; rintro e w' ⟨rfl, rfl⟩)
          | (go_at_call 35; refine (momentFault_any _ _).mono ?_; rintro e w' ⟨rfl, rfl⟩; rw [HMB.out])
          | fail)
        refine (errs_new (n := 2) [5, 1] _ rfl (by simp) rfl (by omega)).mono ?_
        rintro e w27 ⟨rfl, hg27⟩
        rw [show firstE [5, 1] = 5 from by decide]
        replace HB := Lib.hid (HB.out.grown hg27 (fun g e => by cases e))
        replace HG := Lib.hid (gr_none HG.out hg27)
        clear hg27
        go_wp2_with fail
        go_wp2_with fail
        refine (accounted_true _).mono ?_
        rintro e w29 ⟨rfl, hg29⟩
        have HGE := Lib.hid (gr_none HG.out hg29)
        clear hg29
        go_wp2_with fail
        go_ret
        refine ⟨rfl, ?_⟩
        have hfin := HGE.out
        rw [← HSB.out] at hfin
        exact below_of_gr hfin
      · rw [show bkdE bN who mo = 5 from HX.out, hv]
        clear hv
        go_wp2_with fail
        refine (keyRefR_any who _ (by omega)).mono ?_
        rintro e w26 ⟨rfl, hg26⟩
        rw [HKB.out]
        replace HB := Lib.hid (HB.out.grown hg26 (fun g e => by cases e))
        replace HG := Lib.hid (gr_none HG.out hg26)
        clear hg26
        go_wp2_with (first
          | (go_at_call 14; refine (whenE_any _ _ _).mono ?_; rintro e w' ⟨rfl, rfl⟩)
          | (go_at_call 35; refine (momentFault_any _ _).mono ?_; rintro e w' ⟨rfl, rfl⟩; rw [HMB.out])
          | fail)
        refine (errs_new (n := 2) [5, 0] _ rfl (by simp) rfl (by omega)).mono ?_
        rintro e w27 ⟨rfl, hg27⟩
        rw [show firstE [5, 0] = 5 from by decide]
        replace HB := Lib.hid (HB.out.grown hg27 (fun g e => by cases e))
        replace HG := Lib.hid (gr_none HG.out hg27)
        clear hg27
        go_wp2_with fail
        go_wp2_with fail
        refine (accounted_true _).mono ?_
        rintro e w29 ⟨rfl, hg29⟩
        have HGE := Lib.hid (gr_none HG.out hg29)
        clear hg29
        go_wp2_with fail
        go_ret
        refine ⟨rfl, ?_⟩
        have hfin := HGE.out
        rw [← HSB.out] at hfin
        exact below_of_gr hfin
    · cases MB
      · have hv : bkdV BL bN who mo = false := by unfold bkdV; rw [show bkdE bN who mo = 1 from HX.out]; rfl
        rw [show bkdE bN who mo = 1 from HX.out, hv]
        clear hv
        go_wp2_with fail
        refine (keyRefR_any who _ (by omega)).mono ?_
        rintro e w26 ⟨rfl, hg26⟩
        rw [HKB.out]
        replace HB := Lib.hid (HB.out.grown hg26 (fun g e => by cases e))
        replace HG := Lib.hid (gr_none HG.out hg26)
        clear hg26
        go_wp2_with (first
          | (go_at_call 14; refine (whenE_any _ _ _).mono ?_; rintro e w' ⟨rfl, rfl⟩)
          | (go_at_call 35; refine (momentFault_any _ _).mono ?_; rintro e w' ⟨rfl, rfl⟩; rw [HMB.out])
          | fail)
        refine (errs_new (n := 2) [0, 1] _ rfl (by simp) rfl (by omega)).mono ?_
        rintro e w27 ⟨rfl, hg27⟩
        rw [show firstE [0, 1] = 1 from by decide]
        replace HB := Lib.hid (HB.out.grown hg27 (fun g e => by cases e))
        replace HG := Lib.hid (gr_none HG.out hg27)
        clear hg27
        go_wp2_with fail
        go_wp2_with fail
        refine (accounted_true _).mono ?_
        rintro e w29 ⟨rfl, hg29⟩
        have HGE := Lib.hid (gr_none HG.out hg29)
        clear hg29
        go_wp2_with fail
        go_ret
        refine ⟨rfl, ?_⟩
        have hfin := HGE.out
        rw [← HSB.out] at hfin
        exact below_of_gr hfin
      · have hv : bkdV BL bN who mo = BV := by unfold bkdV; rw [show bkdE bN who mo = 0 from HX.out, if_pos rfl]; exact HBV.out
        rw [show bkdE bN who mo = 0 from HX.out, hv]
        clear hv
        go_wp2_with fail
        refine (keyRefR_any who _ (by omega)).mono ?_
        rintro e w26 ⟨rfl, hg26⟩
        rw [HKB.out]
        replace HB := Lib.hid (HB.out.grown hg26 (fun g e => by cases e))
        replace HG := Lib.hid (gr_none HG.out hg26)
        clear hg26
        go_wp2_with (first
          | (go_at_call 14; refine (whenE_any _ _ _).mono ?_; rintro e w' ⟨rfl, rfl⟩)
          | (go_at_call 35; refine (momentFault_any _ _).mono ?_; rintro e w' ⟨rfl, rfl⟩; rw [HMB.out])
          | fail)
        refine (errs_new (n := 2) [0, 0] _ rfl (by simp) rfl (by omega)).mono ?_
        rintro e w27 ⟨rfl, hg27⟩
        rw [show firstE [0, 0] = 0 from by decide]
        replace HB := Lib.hid (HB.out.grown hg27 (fun g e => by cases e))
        replace HG := Lib.hid (gr_none HG.out hg27)
        clear hg27
        go_wp2_with fail
        refine (blockedOf_any lo bAd bN bC BL who mo _ HB.out (by omega)).mono ?_
        rintro e w28 ⟨rfl, hg28⟩
        rw [HBV.out]
        replace HG := Lib.hid (gr_none HG.out hg28)
        clear hg28
        have qv : (BV == BV) = true := beq_self_eq_true _
        go_wp2_with fail
        refine (accounted_true _).mono ?_
        rintro e w29 ⟨rfl, hg29⟩
        have HGE := Lib.hid (gr_none HG.out hg29)
        clear hg29
        go_wp2_with fail
        go_ret
        refine ⟨rfl, ?_⟩
        have hfin := HGE.out
        rw [← HSB.out] at hfin
        exact below_of_gr hfin
  · have d1 : (E1 == 0) = false := by simpa using e1
    have HBL := Lib.hid (show blkL ⟨cA, cn, cc, free, iA, en, ic, cl, ins⟩ p ws l = [] by unfold blkL; rw [if_neg (by rw [HE1.out]; exact e1)])
    have HSL := Lib.hid (show stpL ⟨cA, cn, cc, free, iA, en, ic, cl, ins⟩ p ws l = [] by unfold stpL; rw [if_neg (by rw [HE1.out]; exact e1)])
    rw [HBL.out] at HB
    rw [HSL.out] at HST
    clear e1
    go_wp2_with fail
    refine (equalBl_same _ _ bAd none bN bC 0 0 _ _ HB.out (Recs.nil (lo := 0)) (by omega)).mono ?_
    rintro e w21 ⟨rfl, k1, rfl⟩
    go_wp2_with fail
    refine (equalN_same _ _ sAd none sN sC 0 0 _ _ (HST.out.grown (gr_drewN (gr_refl _ none) _) (fun g e => by cases e)) ((Recs.nil (lo := 0)).grown (gr_drewN (gr_refl _ none) _) (fun g e => by cases e)) (by omega)).mono ?_
    rintro e w22 ⟨rfl, k2, rfl⟩
    replace HB := Lib.hid (HB.out.grown (gr_drewN (gr_refl _ none) (k1 + k2)) (fun g e => by cases e))
    replace HS := Lib.hid (HS.out.drewN (k1 + k2))
    replace HG := Lib.hid (gr_drewN HG.out (k1 + k2))
    go_wp2_with fail
    refine (some_new (n := 3) sb _ 3 _ HS.out (by omega) (by simp) (by
      repeat (first | exact StrsOk.nil _ | refine StrsOk.cons (by decide) ?_)) rfl (by omega) (by omega)).mono ?_
    rintro e w23 ⟨v23, rfl, ⟨who, rfl, hwho⟩, hs23, hg23⟩
    replace HB := Lib.hid (HB.out.grown hg23 (fun g e => by injection e with e; omega))
    replace HG := Lib.hid (gr_same HG.out hg23)
    replace HS := Lib.hid hs23
    clear hs23 hg23
    go_wp2_with fail
    refine (pick_new sb _ [0, 101, 200, 1001, 61001, -1] _ HS.out (by omega) (by simp) rfl rfl (by simp) (by simp)).mono ?_
    rintro e w24 ⟨v24, rfl, ⟨mo, hmo, rfl⟩, hs24, hg24⟩
    replace HB := Lib.hid (HB.out.grown hg24 (fun g e => by injection e with e; omega))
    replace HG := Lib.hid (gr_same HG.out hg24)
    clear hs24 hg24 hmo HS
    obtain ⟨KB, hKB⟩ : ∃ K, keyOk (nb who) = K := ⟨_, rfl⟩
    obtain ⟨MB, hMB⟩ : ∃ M, momB mo = M := ⟨_, rfl⟩
    have HX := Lib.hid (show bkdE bN who mo = if KB then (if MB then 0 else 1) else 5 by unfold bkdE; rw [if_neg (by omega), hKB, hMB])
    have HKB := Lib.hid hKB; have HMB := Lib.hid hMB
    clear hKB hMB
    obtain ⟨BL, hbl⟩ : ∃ BL, Recs BlV.row 4 w24 lo bAd bN bC BL := ⟨_, HB.out⟩
    replace HB := Lib.hid hbl
    clear hbl
    obtain ⟨BV, hBV⟩ : ∃ B, blkB BL who mo = B := ⟨_, rfl⟩
    have HBV := Lib.hid hBV; clear hBV
    go_wp2_with fail
    refine (Blocked_any lo bAd bN bC BL who mo _ HB.out (by omega) (by omega)).mono ?_
    rintro e w25 ⟨rfl, hg25⟩
    replace HB := Lib.hid (HB.out.grown hg25 (fun g e => by cases e))
    replace HG := Lib.hid (gr_none HG.out hg25)
    clear hg25
    cases KB
    · have hv : bkdV BL bN who mo = false := by unfold bkdV; rw [show bkdE bN who mo = 5 from HX.out]; rfl
      cases MB
      · rw [show bkdE bN who mo = 5 from HX.out, hv]
        clear hv
        go_wp2_with fail
        refine (keyRefR_any who _ (by omega)).mono ?_
        rintro e w26 ⟨rfl, hg26⟩
        rw [HKB.out]
        replace HB := Lib.hid (HB.out.grown hg26 (fun g e => by cases e))
        replace HG := Lib.hid (gr_none HG.out hg26)
        clear hg26
        go_wp2_with (first
          | (go_at_call 14; refine (whenE_any _ _ _).mono ?_; rintro e w' ⟨rfl, rfl⟩)
          | (go_at_call 35; refine (momentFault_any _ _).mono ?_; rintro e w' ⟨rfl, rfl⟩; rw [HMB.out])
          | fail)
        refine (errs_new (n := 2) [5, 1] _ rfl (by simp) rfl (by omega)).mono ?_
        rintro e w27 ⟨rfl, hg27⟩
        rw [show firstE [5, 1] = 5 from by decide]
        replace HB := Lib.hid (HB.out.grown hg27 (fun g e => by cases e))
        replace HG := Lib.hid (gr_none HG.out hg27)
        clear hg27
        go_wp2_with fail
        go_wp2_with fail
        refine (accounted_true _).mono ?_
        rintro e w29 ⟨rfl, hg29⟩
        have HGE := Lib.hid (gr_none HG.out hg29)
        clear hg29
        go_wp2_with fail
        go_ret
        refine ⟨rfl, ?_⟩
        have hfin := HGE.out
        rw [← HSB.out] at hfin
        exact below_of_gr hfin
      · rw [show bkdE bN who mo = 5 from HX.out, hv]
        clear hv
        go_wp2_with fail
        refine (keyRefR_any who _ (by omega)).mono ?_
        rintro e w26 ⟨rfl, hg26⟩
        rw [HKB.out]
        replace HB := Lib.hid (HB.out.grown hg26 (fun g e => by cases e))
        replace HG := Lib.hid (gr_none HG.out hg26)
        clear hg26
        go_wp2_with (first
          | (go_at_call 14; refine (whenE_any _ _ _).mono ?_; rintro e w' ⟨rfl, rfl⟩)
          | (go_at_call 35; refine (momentFault_any _ _).mono ?_; rintro e w' ⟨rfl, rfl⟩; rw [HMB.out])
          | fail)
        refine (errs_new (n := 2) [5, 0] _ rfl (by simp) rfl (by omega)).mono ?_
        rintro e w27 ⟨rfl, hg27⟩
        rw [show firstE [5, 0] = 5 from by decide]
        replace HB := Lib.hid (HB.out.grown hg27 (fun g e => by cases e))
        replace HG := Lib.hid (gr_none HG.out hg27)
        clear hg27
        go_wp2_with fail
        go_wp2_with fail
        refine (accounted_true _).mono ?_
        rintro e w29 ⟨rfl, hg29⟩
        have HGE := Lib.hid (gr_none HG.out hg29)
        clear hg29
        go_wp2_with fail
        go_ret
        refine ⟨rfl, ?_⟩
        have hfin := HGE.out
        rw [← HSB.out] at hfin
        exact below_of_gr hfin
    · cases MB
      · have hv : bkdV BL bN who mo = false := by unfold bkdV; rw [show bkdE bN who mo = 1 from HX.out]; rfl
        rw [show bkdE bN who mo = 1 from HX.out, hv]
        clear hv
        go_wp2_with fail
        refine (keyRefR_any who _ (by omega)).mono ?_
        rintro e w26 ⟨rfl, hg26⟩
        rw [HKB.out]
        replace HB := Lib.hid (HB.out.grown hg26 (fun g e => by cases e))
        replace HG := Lib.hid (gr_none HG.out hg26)
        clear hg26
        go_wp2_with (first
          | (go_at_call 14; refine (whenE_any _ _ _).mono ?_; rintro e w' ⟨rfl, rfl⟩)
          | (go_at_call 35; refine (momentFault_any _ _).mono ?_; rintro e w' ⟨rfl, rfl⟩; rw [HMB.out])
          | fail)
        refine (errs_new (n := 2) [0, 1] _ rfl (by simp) rfl (by omega)).mono ?_
        rintro e w27 ⟨rfl, hg27⟩
        rw [show firstE [0, 1] = 1 from by decide]
        replace HB := Lib.hid (HB.out.grown hg27 (fun g e => by cases e))
        replace HG := Lib.hid (gr_none HG.out hg27)
        clear hg27
        go_wp2_with fail
        go_wp2_with fail
        refine (accounted_true _).mono ?_
        rintro e w29 ⟨rfl, hg29⟩
        have HGE := Lib.hid (gr_none HG.out hg29)
        clear hg29
        go_wp2_with fail
        go_ret
        refine ⟨rfl, ?_⟩
        have hfin := HGE.out
        rw [← HSB.out] at hfin
        exact below_of_gr hfin
      · have hv : bkdV BL bN who mo = BV := by unfold bkdV; rw [show bkdE bN who mo = 0 from HX.out, if_pos rfl]; exact HBV.out
        rw [show bkdE bN who mo = 0 from HX.out, hv]
        clear hv
        go_wp2_with fail
        refine (keyRefR_any who _ (by omega)).mono ?_
        rintro e w26 ⟨rfl, hg26⟩
        rw [HKB.out]
        replace HB := Lib.hid (HB.out.grown hg26 (fun g e => by cases e))
        replace HG := Lib.hid (gr_none HG.out hg26)
        clear hg26
        go_wp2_with (first
          | (go_at_call 14; refine (whenE_any _ _ _).mono ?_; rintro e w' ⟨rfl, rfl⟩)
          | (go_at_call 35; refine (momentFault_any _ _).mono ?_; rintro e w' ⟨rfl, rfl⟩; rw [HMB.out])
          | fail)
        refine (errs_new (n := 2) [0, 0] _ rfl (by simp) rfl (by omega)).mono ?_
        rintro e w27 ⟨rfl, hg27⟩
        rw [show firstE [0, 0] = 0 from by decide]
        replace HB := Lib.hid (HB.out.grown hg27 (fun g e => by cases e))
        replace HG := Lib.hid (gr_none HG.out hg27)
        clear hg27
        go_wp2_with fail
        refine (blockedOf_any lo bAd bN bC BL who mo _ HB.out (by omega)).mono ?_
        rintro e w28 ⟨rfl, hg28⟩
        rw [HBV.out]
        replace HG := Lib.hid (gr_none HG.out hg28)
        clear hg28
        have qv : (BV == BV) = true := beq_self_eq_true _
        go_wp2_with fail
        refine (accounted_true _).mono ?_
        rintro e w29 ⟨rfl, hg29⟩
        have HGE := Lib.hid (gr_none HG.out hg29)
        clear hg29
        go_wp2_with fail
        go_ret
        refine ⟨rfl, ?_⟩
        have hfin := HGE.out
        rw [← HSB.out] at hfin
        exact below_of_gr hfin
theorem met_PayersBlocked {W : World} (_h : laidMetH Tryz.prog Rows.payersBlockedRow.laid W) : True := trivial

theorem own_PayersBlocked : ownKnob Tryz.prog.godebug = none := by kernel_rfl
theorem laidOut_PayersBlocked : laidOutB Tryz.prog = true := by kernel_rfl
set_option maxRecDepth 100000 in
theorem lifted_PayersBlocked (os : Os) (started : os.Started) (H : Type) (enc : TypeId × Value → H) :
    ReturnsInHanded {} Tryz.checked os 4 .any (fun w args => (Rows.payersBlockedSpec.pre enc Tryz.prog Tryz.f4 [] false w args ∧ laidMetH Tryz.prog Rows.payersBlockedRow.laid w) ∧ sizedMet enc Tryz.prog Tryz.f4 (OpenSpec.ofChange Rows.payersBlockedSpec) false w args) (Rows.payersBlockedSpec.post enc Tryz.prog Tryz.f4 false true false false) := by
  refine returnsInHanded_of_change_and (C := Tryz.checked) (X := fun w _ => laidMetH Tryz.prog Rows.payersBlockedRow.laid w) (fun _ _ _ hh h => h.of_heap hh) own_PayersBlocked started (by kernel_rfl) Tryz.func4
    (ChangeSpec.witness_shaped (enc := enc) (C := Tryz.checked) (os := os) (X := fun w _ => laidMetH Tryz.prog Rows.payersBlockedRow.laid w) false (World.laidAll Tryz.prog os Rows.payersBlockedRow.laid) #[.slice none 0 0] 8 (World.laidAll_os _ _ _) (World.shaped_of_ZipB (by kernel_rfl) (by kernel_rfl)) (by kernel_rfl) (by kernel_rfl) (by kernel_rfl)
      (by rw [MakeChecks.laidMetH_plain _ _ _ (by kernel_rfl)]; exact laidMet_laidAll _ (by kernel_rfl) (by kernel_rfl))) ?_
  intro W base args ds gs before hval0 hW _ _ hL _
  have hval : ∀ (j : Nat) t v, Tryz.f4.params[j]? = some t → args[j]? = some v → Value.okWide Tryz.prog W .any base t v := hval0
  have hW' := hW
  obtain ⟨p, q, hA0, hV, rfl, hfz, hnd⟩ := hW
  have hA : DataW.TrodAll enc Tryz.prog W 0 (fun _ => true) true Tryz.f4.params.toList args.toList ds p := hA0
  rw [Tryz.params4] at hA hval
  obtain ⟨v0, vs0, d0, ds0, p0, q0, hargs, rfl, rfl, h0, r0⟩ := trodAll_cons hA
  obtain ⟨rfl, rfl, rfl⟩ := trodAll_nil r0
  obtain rfl : args = #[v0] := by cases args; simp_all
  obtain ⟨rfl, rfl⟩ := trodVars_none hV
  obtain ⟨a0, len0, cap0, rfl⟩ := okWide_slice Tryz.underlying22 (hval 0 22 v0 rfl rfl)
  have k0 := h0
  have lt0 : ∀ x ∈ p0, x.block < W.heap.size := by obtain ⟨m, hm⟩ := k0; exact DataW.trod_lt m _ _ _ hm
  obtain ⟨z0, w0⟩ : ∃ zs, IsRow .i64 W a0 len0 cap0 zs := by
    obtain ⟨fuel, hf⟩ := h0
    rcases open_ints Tryz.underlying22 Tryz.underlying3 (by kernel_rfl) hf with ⟨hcs, _⟩ | ⟨x, l, c, zs, hcs, _, hl, hm, hz, _, hcell, hwz⟩
    · simp [Value.cells] at hcs
      obtain ⟨rfl, rfl, rfl⟩ := hcs
      exact ⟨[], .inl ⟨rfl, rfl, rfl, rfl⟩⟩
    · simp [Value.cells] at hcs
      obtain ⟨rfl, rfl, rfl⟩ := hcs
      exact ⟨zs, .inr ⟨_, rfl, hl, hm, by simpa using hz, hcell, hwz⟩⟩
  clear hA0 hval0
  refine (walk_PayersBlocked a0 len0 cap0 z0 W w0 (met_PayersBlocked hL)).mono fun e W' ⟨he, bel⟩ => ?_
  subst he
  exact ⟨_, rfl, _, _, _, [], _, [], hW', trodAll_mk1 (shut_bool Tryz.underlying4 _), (trodAll_cons_mk (Below.trod laidOut_PayersBlocked (by kernel_rfl) (of_decide_eq_true (by kernel_rfl)) k0 bel lt0) trodAll_mk0), rfl, bel.frame _, fun h => by cases h⟩

theorem over_PayersBlocked : Rows.payersBlockedRow.holds Tryz.pinned (OpenSpec.ofChange Rows.payersBlockedSpec) :=
  OpenClaim.holds_of_wide 4 Tryz.f4 rfl rfl rfl rfl rfl rfl rfl ⟨rfl, rfl, rfl, rfl, rfl⟩ rfl rfl rfl rfl rfl (by kernel_rfl) Tryz.func4 (by kernel_rfl)
    (of_decide_eq_true (by kernel_rfl)) (by unfold Func.isWrapper; first | (rw [if_pos (by decide +kernel)]; kernel_rfl) | (rw [if_neg (by decide +kernel)]; exact ⟨rfl, rfl⟩))
    (fun os started H enc _ => lifted_PayersBlocked os started H enc)

theorem proved_PayersBlocked : Rows.PayersBlockedCardSaid :=
  Claim7.holds_tied_plain_at .later [] [.data, .pinned] true Rows.payersBlockedCard.stood.harness false
    over_PayersBlocked (fun _ h => by cases h) (by kernel_rfl) (fun _ h => by cases h) payersBlocked_row_tie rfl ⟨rfl, rfl⟩ (by kernel_rfl) rfl
    (fun f fn hf hfn => by
      obtain rfl : f = 4 := Option.some.inj ((show Tryz.prog.funcNamed Rows.payersBlockedRow.func = some 4 by kernel_rfl).symm.trans hf) |>.symm
      obtain rfl : fn = Tryz.f4 := (Option.some.inj (Tryz.func4.symm.trans hfn)).symm
      exact ⟨by kernel_rfl, fun j t ht => by
        rw [Tryz.params4] at ht
        have h3 : t = 22 := by
          rcases j with _ | j
          · simpa using ht.symm
          · simp at ht
        subst h3
        exact (show Tryz.prog.wantsStandIn 22 = false by kernel_rfl)⟩)
    (by kernel_rfl)
end Go.Proofs.YtdgjjjdndedeiaaGreatDoor


/- The law TopBlockedAreNotCalled: records of a payer who was never blocked are never stopped. Conditions: none beside the row's own. -/
import Derived.Test.YtfakdalpaopjaaaGreatDoorBun1
import Derived.Test.YtfakdalpaopjaaaGreatDoorTie
import Derived.Test.YtfakdalpaopjaaaGreatDoorCards
import Derived.ChangeKeysEq
import Derived.ProofKit
import Derived.Lay
import Derived.OpenShut
import Derived.Stop.Joined
import Derived.SevenTiedAt
import Derived.LaidMore
import Derived.MakeChecks
import Derived.LaidHandle
import Derived.Lib.LaidTab
import Derived.Shelf.Vars
import Derived.Deep.CutBlock
import Derived.Deep.RegionHeld3
import Derived.Test.YtfakdalpaopjaaaGreatDoorBun15
import Derived.Test.YtfakdalpaopjaaaGreatDoorGenTarR
import Derived.Test.YtfakdalpaopjaaaGreatDoorBun12
import Derived.Test.YtfakdalpaopjaaaGreatDoorBun13
import Derived.Test.YtfakdalpaopjaaaGreatDoorBun4
import Derived.Test.YtfakdalpaopjaaaGreatDoorH10
namespace Go.Proofs.YtfakdalpaopjaaaGreatDoor
open Go.ChangeShapes Go.WideShapes Go.ChangeAt Go.RowKit

theorem two_plan {w : World} {lo : Nat} {A B : Option Addr} {c d : Nat} {l : List CxV} {hs : List HrV} (h1 : GCx w lo A 3 c l) (h2 : GHrs w lo B 2 d hs) : PlOk w lo ⟨A, 3, c, B, 2, d, l, hs⟩ :=
  ⟨by show 3 ≤ 1000000; omega, by show 2 ≤ 1000000; omega, h1.1.recs, fun x hx => (h1.2.1 x hx).ok, h2.hrs⟩
theorem natI_get {l : List Nat} {i : Nat} {z : Int} (h : (natI l)[i]? = some z) : ∃ k : Nat, z = k ∧ k ∈ l := by
  unfold natI at h
  rw [List.getElem?_map] at h
  cases hk : l[i]? with
  | none => rw [hk] at h; cases h
  | some k => rw [hk] at h; injection h with h; exact ⟨k, h.symm, mem_of_get hk⟩
set_option maxRecDepth 100000 in
set_option maxHeartbeats 8000000 in
theorem walk_TopBlockedAreNotCalled (a0 : Option Addr) (len cap : Nat) (zs : List Int) (W : World) (h : IsRow .i64 W a0 len cap zs) (ht : DbT W) :
    Calls Tryz.prog 3 #[.slice a0 len cap] W (fun e w' => e = .returned (.bool true) ∧ Below W.heap.size W w') := by
  have hs := str_new h
  have hpos := ht.pos
  obtain ⟨sb, hsb⟩ : ∃ sb, W.heap.size = sb := ⟨_, rfl⟩
  have HG := Lib.hid (show W.grownBy (W.alloc (.cells #[.slice a0 len cap, .int .i64 0] 25)) (some sb) from gr_alloc (gr_refl _ _) _)
  have HT := Lib.hid (ht.grown HG.out (by rw [← hsb]; intro e; injection e with e; omega))
  rw [hsb] at hs
  have hlt := hs.lt
  have HS := Lib.hid hs
  have HSB := Lib.hid hsb
  have hne : (some sb) ≠ some 1 := by rw [← hsb]; intro e; injection e with e; omega
  have HNE := Lib.hid hne
  clear h hs ht hne
  go_enter Tryz.func3, Tryz.ntmps3
  go_wp2_with fail
  refine (rightTariffR_any sb 0 _ HS.out (by omega)).mono ?_
  rintro e w1 ⟨v1, rfl, ⟨⟨cA, cn, cc, free, iA, en, ic, cl, ins⟩, rfl, hgt, hcn, hen, hte⟩, hs1, hg1⟩
  obtain ⟨lo, hlo⟩ : ∃ lo, (W.alloc (.cells #[.slice a0 len cap, .int .i64 0] 25)).heap.size = lo := ⟨_, rfl⟩
  have HTF := Lib.hid hgt.ok
  rw [hlo] at HTF
  have zlo : sb < lo := by have := HS.out.lt; omega
  have HTE := Lib.hid hte
  have z0 := hg1.size
  rw [hlo] at z0
  clear hgt hcn hen hte hlo
  have z1 := hg1.size; (try simp at z1)
  replace HT := Lib.hid (HT.out.grown hg1 HNE.out)
  replace HG := Lib.hid (gr_same HG.out hg1)
  replace HS := Lib.hid hs1
  clear hs1 hg1
  clear z1
  go_wp2_with fail
  refine (rightPayersR_any sb _ _ HS.out (by omega)).mono ?_
  rintro e w2 ⟨v2, rfl, ⟨P, pn, pc, p, rfl, hgp, hpn, hpe⟩, hs2, hg2⟩
  have HPY := Lib.hid (show Pys w2 lo P pn pc p from ⟨hgp.pys.1.lower z0, fun q hq => ⟨(hgp.pys.2 q hq).1, (hgp.pys.2 q hq).2.lower z0⟩⟩)
  have HPE := Lib.hid hpe
  clear hgp hpe
  have z2 := hg2.size; (try simp at z2)
  replace HTF := Lib.hid (HTF.out.grown hg2 (fun g e => by injection e with e; omega))
  replace HT := Lib.hid (HT.out.grown hg2 HNE.out)
  replace HG := Lib.hid (gr_same HG.out hg2)
  replace HS := Lib.hid hs2
  clear hs2 hg2
  go_wp2_with fail
  refine (rightWatchesR_any sb _ _ HS.out (by omega)).mono ?_
  rintro e w3 ⟨v3, rfl, ⟨WA, wn, wc, ws, rfl, hgw, hwn, hwe⟩, hs3, hg3⟩
  have HWA := Lib.hid (show Was w3 lo WA wn wc ws from ⟨hgw.1.recs.lower (by omega), hgw.2⟩)
  have HWE := Lib.hid hwe
  clear hgw hwe
  have z3 := hg3.size; (try simp at z3)
  replace HTF := Lib.hid (HTF.out.grown hg3 (fun g e => by injection e with e; omega))
  replace HPY := Lib.hid (HPY.out.grown hg3 (fun g e => by injection e with e; omega))
  replace HT := Lib.hid (HT.out.grown hg3 HNE.out)
  replace HG := Lib.hid (gr_same HG.out hg3)
  replace HS := Lib.hid hs3
  clear hs3 hg3
  go_wp2_with fail
  refine (rightRecordsR_any sb _ 10 _ HS.out (by omega) (by omega)).mono ?_
  rintro e w4 ⟨v4, rfl, ⟨L, ln, lc, l, rfl, hgr, hln, hre⟩, hs4, hg4⟩
  have HRC := Lib.hid (show Rcs w4 lo L ln lc l from ⟨hgr.1.lower (by omega), hgr.2⟩)
  have HE := Lib.hid (show watE ⟨cA, cn, cc, free, iA, en, ic, cl, ins⟩ p ws l = 0 by unfold watE; rw [if_pos HTE.out, if_pos HPE.out, if_pos HWE.out]; exact hre)
  have HRE := Lib.hid hre
  clear hgr hre
  have z4 := hg4.size; (try simp at z4)
  replace HTF := Lib.hid (HTF.out.grown hg4 (fun g e => by injection e with e; omega))
  replace HPY := Lib.hid (HPY.out.grown hg4 (fun g e => by injection e with e; omega))
  replace HWA := Lib.hid (HWA.out.grown hg4 (fun g e => by injection e with e; omega))
  replace HT := Lib.hid (HT.out.grown hg4 HNE.out)
  replace HG := Lib.hid (gr_same HG.out hg4)
  replace HS := Lib.hid hs4
  clear hs4 hg4
  go_upto_region 3 with (fail)
  obtain ⟨w5, hw5⟩ : ∃ w5, w4.alloc (.cells #[.slice cA cn cc, .int .i64 free, .slice iA en ic] 29) = w5 := ⟨_, rfl⟩
  rw [hw5]
  obtain ⟨tb, htb⟩ : ∃ tb, w4.heap.size = tb := ⟨_, rfl⟩
  rw [htb]
  have HTB := Lib.hid (show Blk w5 tb 29 #[.slice cA cn cc, .int .i64 free, .slice iA en ic] by rw [← hw5, ← htb]; exact Blk.new _ _ _)
  have ztb : sb < tb := by omega
  have hg5 : w4.grownBy w5 none := by rw [← hw5]; exact gr_alloc (gr_refl _ _) _
  clear hw5 htb
  have z5 := hg5.size; (try simp at z5)
  replace HTF := Lib.hid (HTF.out.grown hg5 (fun g e => by cases e))
  replace HPY := Lib.hid (HPY.out.grown hg5 (fun g e => by cases e))
  replace HWA := Lib.hid (HWA.out.grown hg5 (fun g e => by cases e))
  replace HRC := Lib.hid (HRC.out.grown hg5 (fun g e => by cases e))
  replace HT := Lib.hid (HT.out.grown hg5 (by simp))
  replace HG := Lib.hid (gr_none HG.out hg5)
  replace HS := Lib.hid (HS.out.grown hg5 (fun g e => by cases e))
  clear hg5
  go_wp2_with (first
    | (refine wpl_load_all Tryz.tfT rfl _ rfl _ rfl _ _ HTB.out rfl ?_)
    | fail)
  refine (Blocks_any lo cA iA cn cc en ic free cl ins P pn pc p L ln lc l WA wn wc ws _ HTF.out HPY.out HWA.out HRC.out (by omega) (by omega) (by omega)).mono ?_
  rintro e w6 ⟨bAd, bN, bC, rfl, hown, hg6⟩
  obtain ⟨BL, hBL⟩ : ∃ BL, (wRun ⟨cA, cn, cc, free, iA, en, ic, cl, ins⟩ p ws l l.length).bl = BL := ⟨_, rfl⟩
  have hbl : blkL ⟨cA, cn, cc, free, iA, en, ic, cl, ins⟩ p ws l = BL := by unfold blkL; rw [if_pos HE.out]; exact hBL
  rw [HE.out]
  rw [hbl] at hown
  have HB := Lib.hid (hown.recs.lower (show lo ≤ w5.heap.size by omega))
  have HBL := Lib.hid hBL
  clear hown hBL hbl
  have hbN : bN ≤ 3000 := by
    rw [← HB.out.2, ← HBL.out]
    exact Nat.le_trans (wRun_ok _ _ _ _ _).bn (by rw [HRC.out.1.len]; omega)
  have z6 := hg6.size; (try simp at z6)
  replace HTB := Lib.hid (HTB.out.grown hg6 (by simp))
  replace HTF := Lib.hid (HTF.out.grown hg6 (fun g e => by cases e))
  replace HPY := Lib.hid (HPY.out.grown hg6 (fun g e => by cases e))
  replace HWA := Lib.hid (HWA.out.grown hg6 (fun g e => by cases e))
  replace HRC := Lib.hid (HRC.out.grown hg6 (fun g e => by cases e))
  replace HT := Lib.hid (HT.out.grown hg6 (by simp))
  replace HG := Lib.hid (gr_none HG.out hg6)
  replace HS := Lib.hid (HS.out.grown hg6 (fun g e => by cases e))
  clear hg6
  go_wp2_with (first
    | (refine wpl_load_all Tryz.tfT rfl _ rfl _ rfl _ _ HTB.out rfl ?_)
    | fail)
  refine (Stopped_any lo cA iA cn cc en ic free cl ins P pn pc p L ln lc l WA wn wc ws _ HTF.out HPY.out HWA.out HRC.out (by omega) (by omega) (by omega)).mono ?_
  rintro e w7 ⟨sAd, sN, sC, rfl, hown, hg7⟩
  obtain ⟨ST, hST⟩ : ∃ ST, (wRun ⟨cA, cn, cc, free, iA, en, ic, cl, ins⟩ p ws l l.length).st = ST := ⟨_, rfl⟩
  have hsl : stpL ⟨cA, cn, cc, free, iA, en, ic, cl, ins⟩ p ws l = natI ST := by unfold stpL; rw [if_pos HE.out, hST]
  rw [HE.out]
  rw [hsl] at hown
  have HST := Lib.hid (hown.recs.lower (show lo ≤ w6.heap.size by omega))
  have hsN : sN ≤ 3000 := by
    rw [← hown.2, ← hST]; unfold natI; rw [List.length_map]
    exact Nat.le_trans (wRun_ok _ _ _ _ _).sn (by rw [HRC.out.1.len]; omega)
  have HSP := Lib.hid (show ∀ i ∈ ST, ∃ r who, l[i]? = some r ∧ payAns p r.frm = some who ∧ payErr p r.frm = 0 ∧ (BL.any fun b => b.pay.toList == who.toList) = true from fun i hi => by
    rw [← hST] at hi
    have h := stop_pay HPE.out HRE.out hi
    rw [HBL.out] at h
    exact h)
  clear hown hST hsl HBL
  have z7 := hg7.size; (try simp at z7)
  replace HPY := Lib.hid (HPY.out.grown hg7 (fun g e => by cases e))
  replace HRC := Lib.hid (HRC.out.grown hg7 (fun g e => by cases e))
  replace HB := Lib.hid (HB.out.grown hg7 (fun g e => by cases e))
  replace HT := Lib.hid (HT.out.grown hg7 (by simp))
  replace HG := Lib.hid (gr_none HG.out hg7)
  replace HS := Lib.hid (HS.out.grown hg7 (fun g e => by cases e))
  clear hg7
  clear HTB HTF HWA HE HTE HWE
  go_wp2_with fail
  refine (rightPlanR_any sb _ _ HS.out (by omega)).mono ?_
  rintro e w8 ⟨v8, rfl, ⟨CA, HA, cd, hd, cx, hh, rfl, hgcx, hghr, hbd, hhe, hhk, hplr⟩, hs8, hg8⟩
  have HPL := Lib.hid (two_plan hgcx hghr)
  obtain ⟨lo7, hlo7⟩ : ∃ lo7, w7.heap.size = lo7 := ⟨_, rfl⟩
  rw [hlo7] at HPL
  have zlo7 : sb < lo7 := by omega
  have HPR := Lib.hid hplr; have HHE := Lib.hid hhe; have HHK := Lib.hid hhk; have HBD := Lib.hid hbd
  clear hgcx hghr hbd hhe hhk hplr
  have z8 := hg8.size; (try simp at z8)
  replace HPY := Lib.hid (HPY.out.grown hg8 (fun g e => by injection e with e; omega))
  replace HRC := Lib.hid (HRC.out.grown hg8 (fun g e => by injection e with e; omega))
  replace HB := Lib.hid (HB.out.grown hg8 (fun g e => by injection e with e; omega))
  replace HST := Lib.hid (HST.out.grown hg8 (fun g e => by injection e with e; omega))
  replace HT := Lib.hid (HT.out.grown hg8 HNE.out)
  replace HG := Lib.hid (gr_same HG.out hg8)
  replace HS := Lib.hid hs8
  clear hs8 hg8
  rw [hlo7] at z8
  clear hlo7
  go_wp2_with fail
  refine (rightForwardsR_any sb _ _ HS.out (by omega)).mono ?_
  rintro e w9 ⟨v9, rfl, ⟨FA, fn, fc, fw, rfl, hfo, hfn, hfg⟩, hs9, hg9⟩
  have HFW := Lib.hid (show Fws w9 lo7 FA fn fc fw from ⟨hfo.1.recs.lower z8, fun f hf => (hfo.2 f hf).1⟩)
  have HPE0 := Lib.hid (HPR.out.e (p := ⟨CA, 3, cd, HA, 2, hd, cx, hh⟩) HHE.out rfl HBD.out)
  have HCH := Lib.hid (le_chain (p := ⟨CA, 3, cd, HA, 2, hd, cx, hh⟩) (l := fw) HPE0.out (hfg.e HHK.out) hfg.le)
  clear hfo hfg
  have z9 := hg9.size; (try simp at z9)
  replace HPY := Lib.hid (HPY.out.grown hg9 (fun g e => by injection e with e; omega))
  replace HRC := Lib.hid (HRC.out.grown hg9 (fun g e => by injection e with e; omega))
  replace HB := Lib.hid (HB.out.grown hg9 (fun g e => by injection e with e; omega))
  replace HST := Lib.hid (HST.out.grown hg9 (fun g e => by injection e with e; omega))
  replace HPL := Lib.hid (HPL.out.grown hg9 (fun g e => by injection e with e; omega))
  replace HT := Lib.hid (HT.out.grown hg9 HNE.out)
  replace HG := Lib.hid (gr_same HG.out hg9)
  replace HS := Lib.hid hs9
  clear hs9 hg9
  go_wp2_with fail
  refine (chain_any lo7 ⟨CA, 3, cd, HA, 2, hd, cx, hh⟩ false FA fn fc fw ⟨#[108, 101]⟩ 0 none 0 0 [] _ HPL.out ⟨(fun e => by cases e), (fun e => absurd e HPR.out.loops)⟩ HFW.out (by omega) ⟨Recs.nil, (fun f hf => by cases hf)⟩ (by omega) (by decide)).mono ?_
  rintro e w10 ⟨A1, n1, c1, rfl, hown, hg10⟩
  rw [HCH.out] at hown ⊢
  dsimp only at hown ⊢
  obtain rfl : n1 = 1 := by rw [← hown.2]; rfl
  obtain ⟨g1, rfl, _, _⟩ := hown.1.pos (by omega)
  have k1 : w10.cell? ⟨g1, 0, none⟩ = some (.string ⟨#[108, 101]⟩) := by
    have h := hown.recs.at_ (fun _ => rfl) (i := 0) (a := ⟨#[108, 101]⟩) rfl 0 _ rfl
    simpa using h
  clear hown HPL HFW HCH HPE0 HPR HHE HHK HBD
  have z10 := hg10.size; (try simp at z10)
  replace HPY := Lib.hid (HPY.out.grown hg10 (fun g e => by cases e))
  replace HRC := Lib.hid (HRC.out.grown hg10 (fun g e => by cases e))
  replace HB := Lib.hid (HB.out.grown hg10 (fun g e => by cases e))
  replace HST := Lib.hid (HST.out.grown hg10 (fun g e => by cases e))
  replace HT := Lib.hid (HT.out.grown hg10 (by simp))
  replace HG := Lib.hid (gr_none HG.out hg10)
  replace HS := Lib.hid (HS.out.grown hg10 (fun g e => by cases e))
  clear hg10
  go_wp2_with fail
  clear k1
  have HGA := Lib.hid HG.out
  go_loopw [15, 16, 17, 18, 85] (fun _ _ _ _ t wr => ∃ i : Nat, i ≤ sN ∧ t = .int .i64 i ∧ w10.grownBy wr none) (fun _ _ _ _ t _ => sN - (intOf t).toNat)
  case atStart => exact ⟨0, Nat.zero_le _, rfl, gr_refl _ _⟩
  case round =>
    clear HS
    obtain ⟨i, hi, rfl, hg⟩ := hrel
    have HGR := Lib.hid hg
    clear hg
    by_cases hlt3 : i < sN
    · have hin : decide ((i : Int) < (sN : Int)) = true := decide_eq_true (by omega)
      have hin2 : (i : Int) < (sN : Int) := by omega
      obtain ⟨gs, os, z, rfl, _, hgs, hz, hc⟩ := (HST.out.grown HGR.out (fun g e => by cases e)).get irow_len hlt3
      obtain ⟨k, rfl, hk⟩ := natI_get hz
      obtain ⟨r, who, hr, hpa, hper, hany⟩ := HSP.out k hk
      have ks := hc 0 _ rfl
      simp only [Nat.mul_one, Nat.add_zero] at ks
      have hkl := (List.getElem?_eq_some_iff.1 hr).1
      rw [HRC.out.1.2] at hkl
      have hkl2 : (k : Int) < (ln : Int) := by omega
      have hk0 : (0 : Int) ≤ (k : Int) := by omega
      obtain ⟨gr, or_, r2, rfl, _, hgr, hr2, hc2⟩ := (HRC.out.1.grown HGR.out (fun g e => by cases e)).get RcV.row_len hkl
      obtain rfl : r = r2 := Option.some.inj (hr.symm.trans hr2)
      go_upto_region 11 with (fail)
      clear ks hc hz
      have kr := hc2 1 _ rfl
      go_wp2_with fail
      refine (payerOf_any lo P pn pc p r.frm _ (HPY.out.grown HGR.out (fun g e => by cases e)) (by omega) (HRC.out.2 r (mem_of_get hr)).2.1).mono ?_
      rintro e w11 ⟨rfl, hg11⟩
      rw [hpa, hper]
      obtain ⟨w12, hw12⟩ : ∃ w12, w11.alloc (.cells #[.string who] 9) = w12 := ⟨_, rfl⟩
      obtain ⟨kb, hkb⟩ : ∃ kb, w11.heap.size = kb := ⟨_, rfl⟩
      have HKB := Lib.hid (show Blk w12 kb 9 #[.string who] by rw [← hw12, ← hkb]; exact Blk.new _ _ _)
      have HG12 := Lib.hid (show w10.grownBy w12 none by rw [← hw12]; exact gr_alloc (gr_none HGR.out hg11) _)
      have HW12 := Lib.hid hw12; have HKK := Lib.hid hkb; have HANY := Lib.hid hany
      clear hw12 hkb hg11 kr hpa hper hany
      go_upto_region 12 with (fail)
      rw [show optS (some who) = who from rfl, HW12.out]
      (try rw [HKK.out])
      go_wp2_with (first
        | (go_at_call 14; refine (tbHas_any lo bAd bN bC BL kb who _ (HB.out.grown HG12.out (fun g e => by cases e)) (by omega) HKB.out).mono ?_; rintro e w13 ⟨rfl, hg13⟩; rw [HANY.out]; have HG13 := Lib.hid (gr_none HG12.out hg13); clear hg13)
        | fail)
      go_roundw
      case rel => exact ⟨i + 1, by omega, by go_num, HG13.out⟩
      case measure => simp [intOf]; omega
    · obtain rfl : i = sN := by omega
      have hin : decide ((i : Int) < (i : Int)) = false := decide_eq_false (by omega)
      replace HT := Lib.hid (HT.out.grown HGR.out (by simp))
      replace HG := Lib.hid (gr_none HG.out HGR.out)
      clear hlt3
      go_wp2_with fail
      refine (h10_true _ HT.out).mono ?_
      rintro e w20 ⟨rfl, hg20⟩
      have HGE := Lib.hid (gr_none HG.out hg20)
      clear hg20
      go_wp2_with fail
      go_ret
      refine ⟨rfl, ?_⟩
      have hfin := HGE.out
      rw [← HSB.out] at hfin
      exact below_of_gr hfin
theorem gDbTb : Tryz.prog.globalNamed "math/bits.deBruijn32tab" = some 1 := by kernel_rfl
theorem met_TopBlockedAreNotCalled {W : World} (h : laidMetH Tryz.prog Rows.topBlockedAreNotCalledRow.laid W) : DbT W := by
  rw [MakeChecks.laidMetH_plain _ _ _ (by kernel_rfl)] at h
  obtain ⟨ps, ⟨g0, t0, cs0, f0, p0, q0, hg0, ht0, hv0, hd0, _⟩, _, _⟩ := h
  obtain rfl := Option.some.inj (gDbTb.symm.trans hg0)
  obtain rfl := Option.some.inj (tDb.symm.trans ht0)
  intro i hi
  rw [World.var?_cell hg0 hv0 i]
  have := tab_cells (l := dbTab) Tryz.underlying229 Tryz.underlying5 (by kernel_rfl) hd0 i hi
  simpa using this

theorem own_TopBlockedAreNotCalled : ownKnob Tryz.prog.godebug = none := by kernel_rfl
theorem laidOut_TopBlockedAreNotCalled : laidOutB Tryz.prog = true := by kernel_rfl
set_option maxRecDepth 100000 in
theorem lifted_TopBlockedAreNotCalled (os : Os) (started : os.Started) (H : Type) (enc : TypeId × Value → H) :
    ReturnsInHanded {} Tryz.checked os 3 .any (fun w args => (Rows.topBlockedAreNotCalledSpec.pre enc Tryz.prog Tryz.f3 [] false w args ∧ laidMetH Tryz.prog Rows.topBlockedAreNotCalledRow.laid w) ∧ sizedMet enc Tryz.prog Tryz.f3 (OpenSpec.ofChange Rows.topBlockedAreNotCalledSpec) false w args) (Rows.topBlockedAreNotCalledSpec.post enc Tryz.prog Tryz.f3 false true false false) := by
  refine returnsInHanded_of_change_and (C := Tryz.checked) (X := fun w _ => laidMetH Tryz.prog Rows.topBlockedAreNotCalledRow.laid w) (fun _ _ _ hh h => h.of_heap hh) own_TopBlockedAreNotCalled started (by kernel_rfl) Tryz.func3
    (ChangeSpec.witness_shaped (enc := enc) (C := Tryz.checked) (os := os) (X := fun w _ => laidMetH Tryz.prog Rows.topBlockedAreNotCalledRow.laid w) false (World.laidAll Tryz.prog os Rows.topBlockedAreNotCalledRow.laid) #[.slice none 0 0] 8 (World.laidAll_os _ _ _) (World.shaped_of_ZipB (by kernel_rfl) (by kernel_rfl)) (by kernel_rfl) (by kernel_rfl) (by kernel_rfl)
      (by rw [MakeChecks.laidMetH_plain _ _ _ (by kernel_rfl)]; exact laidMet_laidAll _ (by kernel_rfl) (by kernel_rfl))) ?_
  intro W base args ds gs before hval0 hW _ _ hL _
  have hval : ∀ (j : Nat) t v, Tryz.f3.params[j]? = some t → args[j]? = some v → Value.okWide Tryz.prog W .any base t v := hval0
  have hW' := hW
  obtain ⟨p, q, hA0, hV, rfl, hfz, hnd⟩ := hW
  have hA : DataW.TrodAll enc Tryz.prog W 0 (fun _ => true) true Tryz.f3.params.toList args.toList ds p := hA0
  rw [Tryz.params3] at hA hval
  obtain ⟨v0, vs0, d0, ds0, p0, q0, hargs, rfl, rfl, h0, r0⟩ := trodAll_cons hA
  obtain ⟨rfl, rfl, rfl⟩ := trodAll_nil r0
  obtain rfl : args = #[v0] := by cases args; simp_all
  obtain ⟨rfl, rfl⟩ := trodVars_none hV
  obtain ⟨a0, len0, cap0, rfl⟩ := okWide_slice Tryz.underlying22 (hval 0 22 v0 rfl rfl)
  have k0 := h0
  have lt0 : ∀ x ∈ p0, x.block < W.heap.size := by obtain ⟨m, hm⟩ := k0; exact DataW.trod_lt m _ _ _ hm
  obtain ⟨z0, w0⟩ : ∃ zs, IsRow .i64 W a0 len0 cap0 zs := by
    obtain ⟨fuel, hf⟩ := h0
    rcases open_ints Tryz.underlying22 Tryz.underlying3 (by kernel_rfl) hf with ⟨hcs, _⟩ | ⟨x, l, c, zs, hcs, _, hl, hm, hz, _, hcell, hwz⟩
    · simp [Value.cells] at hcs
      obtain ⟨rfl, rfl, rfl⟩ := hcs
      exact ⟨[], .inl ⟨rfl, rfl, rfl, rfl⟩⟩
    · simp [Value.cells] at hcs
      obtain ⟨rfl, rfl, rfl⟩ := hcs
      exact ⟨zs, .inr ⟨_, rfl, hl, hm, by simpa using hz, hcell, hwz⟩⟩
  clear hA0 hval0
  refine (walk_TopBlockedAreNotCalled a0 len0 cap0 z0 W w0 (met_TopBlockedAreNotCalled hL)).mono fun e W' ⟨he, bel⟩ => ?_
  subst he
  exact ⟨_, rfl, _, _, _, [], _, [], hW', trodAll_mk1 (shut_bool Tryz.underlying4 _), (trodAll_cons_mk (Below.trod laidOut_TopBlockedAreNotCalled (by kernel_rfl) (of_decide_eq_true (by kernel_rfl)) k0 bel lt0) trodAll_mk0), rfl, bel.frame _, fun h => by cases h⟩

theorem over_TopBlockedAreNotCalled : Rows.topBlockedAreNotCalledRow.holds Tryz.pinned (OpenSpec.ofChange Rows.topBlockedAreNotCalledSpec) :=
  OpenClaim.holds_of_wide 3 Tryz.f3 rfl rfl rfl rfl rfl rfl rfl ⟨rfl, rfl, rfl, rfl, rfl⟩ rfl rfl rfl rfl rfl (by kernel_rfl) Tryz.func3 (by kernel_rfl)
    (of_decide_eq_true (by kernel_rfl)) (by unfold Func.isWrapper; first | (rw [if_pos (by decide +kernel)]; kernel_rfl) | (rw [if_neg (by decide +kernel)]; exact ⟨rfl, rfl⟩))
    (fun os started H enc _ => lifted_TopBlockedAreNotCalled os started H enc)

theorem proved_TopBlockedAreNotCalled : Rows.TopBlockedAreNotCalledCardSaid :=
  Claim7.holds_tied_plain_at .later [] [.data, .data, .pinned] true Rows.topBlockedAreNotCalledCard.stood.harness false
    over_TopBlockedAreNotCalled (fun _ h => by cases h) (by kernel_rfl) (fun _ h => by cases h) topBlockedAreNotCalled_row_tie rfl ⟨rfl, rfl⟩ (by kernel_rfl) rfl
    (fun f fn hf hfn => by
      obtain rfl : f = 3 := Option.some.inj ((show Tryz.prog.funcNamed Rows.topBlockedAreNotCalledRow.func = some 3 by kernel_rfl).symm.trans hf) |>.symm
      obtain rfl : fn = Tryz.f3 := (Option.some.inj (Tryz.func3.symm.trans hfn)).symm
      exact ⟨by kernel_rfl, fun j t ht => by
        rw [Tryz.params3] at ht
        have h3 : t = 22 := by
          rcases j with _ | j
          · simpa using ht.symm
          · simp at ht
        subst h3
        exact (show Tryz.prog.wantsStandIn 22 = false by kernel_rfl)⟩)
    (by kernel_rfl)
end Go.Proofs.YtfakdalpaopjaaaGreatDoor


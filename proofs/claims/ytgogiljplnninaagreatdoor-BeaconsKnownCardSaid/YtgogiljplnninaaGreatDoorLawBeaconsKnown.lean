/- The law BeaconsKnown: CheckBeacons, Known, Presence and Reach are as specified for all beacons. Conditions: none. -/
import Derived.Test.YtgogiljplnninaaGreatDoorKn2
import Derived.Test.YtgogiljplnninaaGreatDoorBun7
import Derived.Test.YtgogiljplnninaaGreatDoorKn4
import Derived.Test.YtgogiljplnninaaGreatDoorBc3
import Derived.Test.YtgogiljplnninaaGreatDoorBun6
import Derived.Test.YtgogiljplnninaaGreatDoorBun2
import Derived.Test.YtgogiljplnninaaGreatDoorVoi
import Derived.Lib.LaidU8T
import Derived.Test.YtgogiljplnninaaGreatDoorTie
import Derived.Test.YtgogiljplnninaaGreatDoorCards
import Derived.ChangeKeysEq
import Derived.ProofKit
import Derived.Lay
import Derived.OpenShut
import Derived.Stop.Joined
import Derived.SevenTiedAt
import Derived.LaidMore
import Derived.MakeChecks
import Derived.LaidHandle
import Derived.Lib.LaidTab
import Derived.Shelf.Vars
import Derived.Deep.CutBlock
import Derived.Deep.RegionHeld3
namespace Go.Proofs.YtgogiljplnninaaGreatDoor
open Go.ChangeShapes Go.WideShapes Go.ChangeAt Go.RowKit

theorem firstE_two (a b : Int) : firstE [a, b] = if a = 0 then b else a := by
  rw [firstE_cons, firstE_cons, firstE_nil]
  by_cases h : b = 0
  · rw [if_pos h, h]
  · rw [if_neg h]
theorem firstE_three (a b c : Int) : firstE [a, b, c] = if a = 0 then (if b = 0 then c else b) else a := by
  rw [firstE_cons, firstE_cons, firstE_cons, firstE_nil]
  by_cases h : c = 0
  · rw [if_pos h, h]
  · rw [if_neg h]
theorem two_small {p : ByteArray} (h : p.size ≤ 1000) : ∀ s ∈ ([⟨#[98, 111, 98]⟩, p] : List ByteArray), s.size ≤ 1000 := by
  intro s hs
  rcases List.mem_cons.1 hs with rfl | hs
  · decide
  · rw [List.mem_singleton.1 hs]; exact h
theorem rcE_two (l : List BcV) (p : ByteArray) (t : Int) : rcE l [⟨#[98, 111, 98]⟩, p] t = prE l p t := by
  have hb : keyOk (nb ⟨#[98, 111, 98]⟩) = true := by decide
  unfold rcE prE
  rw [show ([⟨#[98, 111, 98]⟩, p] : List ByteArray).all (fun s => keyOk (nb s)) = keyOk (nb p) by simp [hb]]
set_option maxHeartbeats 1000000 in
theorem momentFaultK_any (t : Int) (w : World) : Calls Tryz.prog 39 #[.int .i64 t] w (Same (.int .i64 (if momB t = true then 0 else 1)) w) := by
  obtain ⟨M, hM⟩ : ∃ M, momB t = M := ⟨_, rfl⟩
  have HM := Lib.hid hM
  rw [hM]
  clear hM
  cases M
  all_goals
    go_enter Tryz.func39, Tryz.ntmps39
    go_wp2_with (first
      | (go_at_call 59; refine same_calls (momentB_any _ _) ?_; rw [HM.out])
      | (go_at_call 37; refine same_calls (whenF_any _ _ _) ?_)
      | fail)
    go_ret
    exact ⟨rfl, rfl⟩
set_option maxRecDepth 100000 in
set_option maxHeartbeats 16000000 in
theorem walk_BeaconsKnown (a0 : Option Addr) (len cap : Nat) (zs : List Int) (W : World) (h : IsRow .i64 W a0 len cap zs) (ht : U8T W ∧ MxT W) :
    Calls Tryz.prog 5 #[.slice a0 len cap] W (fun e w' => e = .returned (.bool true) ∧ Below W.heap.size W w') := by
  have hs := str_new h
  obtain ⟨sb, hsb⟩ : ∃ sb, W.heap.size = sb := ⟨_, rfl⟩
  have hg0 : W.grownBy (W.alloc (.cells #[.slice a0 len cap, .int .i64 0] 25)) (some sb) := gr_alloc (gr_refl _ _) _
  have HG := Lib.hid hg0
  rw [hsb] at hs
  have hlt := hs.lt
  have HS := Lib.hid hs
  have HSB := Lib.hid hsb
  have HU := Lib.hid ht.1; have HM := Lib.hid ht.2
  clear h hs hg0 ht
  go_enter Tryz.func5, Tryz.ntmps5
  go_wp2_with fail
  refine (range_any sb _ 0 9 _ HS.out (by omega) (by omega) (by omega) (by omega)).mono ?_
  rintro e w0 ⟨v0, rfl, ⟨r0, hlo0, hhi0, rfl⟩, hs0, hg0⟩
  replace HS := Lib.hid hs0
  replace HG := Lib.hid (gr_same HG.out hg0)
  have z0 := hg0.size
  obtain ⟨q0, rfl⟩ : ∃ q : Nat, r0 = q := ⟨r0.toNat, by omega⟩
  clear hs0 hg0
  go_wp2_with fail
  refine (beacons_any sb _ q0 _ HS.out (by omega) (by omega)).mono ?_
  rintro e w1 ⟨v1, rfl, ⟨aA, an, ac, la, rfl, hca, han⟩, hs1, hg1⟩
  replace HS := Lib.hid hs1
  replace HG := Lib.hid (gr_same HG.out hg1)
  have z1 := hg1.size
  obtain ⟨lo1, hlo1⟩ : ∃ lo, w0.heap.size = lo := ⟨_, rfl⟩
  rw [hlo1] at hca z0 z1
  have hl1 : sb < lo1 := by have := HS.out.lt; omega
  have HA := Lib.hid hca
  clear hca hlo1 hs1 hg1
  go_wp2_with fail
  refine (range_any sb _ 0 5 _ HS.out (by omega) (by omega) (by omega) (by omega)).mono ?_
  rintro e w2 ⟨v2, rfl, ⟨r2, hlo2, hhi2, rfl⟩, hs2, hg2⟩
  replace HS := Lib.hid hs2
  replace HG := Lib.hid (gr_same HG.out hg2)
  have z2 := hg2.size
  replace HA := Lib.hid (HA.out.grown hg2 (fun g e => by first | (cases e; done) | (injection e with e; omega)))
  obtain ⟨q2, rfl⟩ : ∃ q : Nat, r2 = q := ⟨r2.toNat, by omega⟩
  clear hs2 hg2
  go_wp2_with fail
  refine (beacons_any sb _ q2 _ HS.out (by omega) (by omega)).mono ?_
  rintro e w3 ⟨v3, rfl, ⟨bA, bn, bc, lb, rfl, hcb, hbn⟩, hs3, hg3⟩
  replace HS := Lib.hid hs3
  replace HG := Lib.hid (gr_same HG.out hg3)
  have z3 := hg3.size
  replace HA := Lib.hid (HA.out.grown hg3 (fun g e => by first | (cases e; done) | (injection e with e; omega)))
  obtain ⟨lo2, hlo2⟩ : ∃ lo, w2.heap.size = lo := ⟨_, rfl⟩
  rw [hlo2] at hcb z2 z3
  have HB := Lib.hid hcb
  have hl2 : sb < lo2 := by omega
  clear hcb hlo2 hs3 hg3
  go_wp2_with fail
  refine (pick_new sb _ [0, 5, 7, 12, 20, 40, -1] _ HS.out (by omega) (by simp) rfl rfl (by simp) (by simp)).mono ?_
  rintro e w4 ⟨v4, rfl, ⟨r3, hr3, rfl⟩, hs4, hg4⟩
  replace HS := Lib.hid hs4
  replace HG := Lib.hid (gr_same HG.out hg4)
  have z4 := hg4.size
  replace HA := Lib.hid (HA.out.grown hg4 (fun g e => by first | (cases e; done) | (injection e with e; omega)))
  replace HB := Lib.hid (HB.out.grown hg4 (fun g e => by first | (cases e; done) | (injection e with e; omega)))
  clear hs4 hg4 hr3
  go_wp2_with fail
  refine (some_newQ (n := 5) NmQ sb _ _ HS.out (by omega) (by simp) (by repeat (first | exact StrsQ.nil _ | refine StrsQ.cons (by first | (unfold NmQ; decide) | decide | assumption) ?_)) rfl (by omega) (by omega)).mono ?_
  rintro e w5 ⟨v5, rfl, ⟨p, rfl, hp⟩, hs5, hg5⟩
  replace HS := Lib.hid hs5
  replace HG := Lib.hid (gr_same HG.out hg5)
  have z5 := hg5.size
  replace HA := Lib.hid (HA.out.grown hg5 (fun g e => by first | (cases e; done) | (injection e with e; omega)))
  replace HB := Lib.hid (HB.out.grown hg5 (fun g e => by first | (cases e; done) | (injection e with e; omega)))
  have hp8 : p.size ≤ 8 := hp
  clear hs5 hg5 hp
  by_cases hn0 : 0 < an
  · have d0 : decide (0 < an) = true := decide_eq_true hn0
    have d0' : decide ((0 : Int) < (an : Int)) = true := decide_eq_true (by omega)
    go_wp2_with fail
    refine (flip_any sb _ 2 _ HS.out (by omega) (by omega) (by omega)).mono ?_
    rintro e w6 ⟨v6, rfl, ⟨f4, rfl⟩, hs6, hg6⟩
    replace HS := Lib.hid hs6
    replace HG := Lib.hid (gr_same HG.out hg6)
    have z6 := hg6.size
    replace HA := Lib.hid (HA.out.grown hg6 (fun g e => by first | (cases e; done) | (injection e with e; omega)))
    replace HB := Lib.hid (HB.out.grown hg6 (fun g e => by first | (cases e; done) | (injection e with e; omega)))
    clear hs6 hg6
    obtain ⟨wb0, hwb0⟩ : ∃ wb : World, wb = w6 := ⟨_, rfl⟩
    have HGb := Lib.hid (show wb0.grownBy w6 (some sb) by rw [hwb0]; exact gr_refl _ _)
    have HGW := Lib.hid (show W.grownBy wb0 (some sb) by rw [hwb0]; exact HG.out)
    clear hwb0
    go_upto_if 48 with (fail)
    go_cut [5] (fun bv wx => ∃ bA bn bc lb lo2, bv = .slice bA bn bc ∧ Bcs wx lo2 bA bn bc lb ∧ bn ≤ 9 ∧ Bcs wx lo1 aA an ac la ∧ wb0.grownBy wx (some sb))
    case first =>
      cases f4
      · go_wp2_with fail
        go_meet
        exact ⟨bA, bn, bc, lb, lo2, rfl, HB.out, by omega, HA.out, HGb.out⟩
      · clear HB HG
        have HG := HGb; clear HGb
        go_wp2_with fail
        refine (next_any sb _ an _ HS.out (by omega) (by omega) (by omega)).mono ?_
        rintro e w7 ⟨v7, rfl, ⟨r7, hlo7, hhi7, rfl⟩, hs7, hg7⟩
        replace HS := Lib.hid hs7
        replace HG := Lib.hid (gr_same HG.out hg7)
        have z7 := hg7.size
        replace HA := Lib.hid (HA.out.grown hg7 (fun g e => by first | (cases e; done) | (injection e with e; omega)))
        clear hs7 hg7
        obtain ⟨k, rfl⟩ : ∃ q : Nat, r7 = q := ⟨r7.toNat, by omega⟩
        obtain ⟨gA, oA, hAA, hgA, hgl, _⟩ := HA.out.1.1.2.2 hn0
        subst hAA
        have hcap := HA.out.1.cap
        have hck : ¬ ac = k := by omega
        have q5 : (0 : Int) ≤ (k : Int) := by omega
        have q6 : (k : Int) ≤ (an : Int) := by omega
        have HDR := Lib.hid (HA.out.1.dropK BcV.row_len (i := k) (by omega))
        go_wp2_with fail
        refine (cloneBc_any lo1 (some ⟨gA, oA + k * 6, none⟩) (an - k) (ac - k) (la.drop k) _ HDR.out (by omega)).mono ?_
        rintro e w8 ⟨bB, bc6, rfl, hown8, hg8⟩
        have HB8 := Lib.hid (show Bcs w8 w7.heap.size bB (an - k) bc6 (la.drop k) from ⟨hown8.recs, fun r hr => HA.out.2 r (List.mem_of_mem_drop hr)⟩)
        replace HA := Lib.hid (HA.out.grown hg8 (fun g e => by cases e))
        replace HG := Lib.hid (gr_none HG.out hg8)
        clear hown8 hg8 HDR hck q5 q6
        go_wp2_with fail
        go_meet
        exact ⟨_, _, _, _, _, rfl, HB8.out, by omega, HA.out, HG.out⟩
    case rest =>
      obtain ⟨bA, bn, bc, lb, lo2, rfl, hb, hbn, ha, hg⟩ := hcut
      obtain ⟨wv, rfl⟩ : ∃ wv : World, wv = wc := ⟨_, rfl⟩
      replace HB := Lib.hid hb; replace HA := Lib.hid ha; replace HG := Lib.hid (gr_same HGW.out hg)
      clear hb ha hg HGb HGW hn0 d0 d0' HS
      replace HU := Lib.hid (HU.out.low HG.out (fun g e => by injection e with e; have := HU.out.lt; omega))
      replace HM := Lib.hid (HM.out.low HG.out (fun g e => by injection e with e; have := HM.out.lt; omega))
      have HV := Lib.hid (gr_refl wv none)
      obtain ⟨E1, hE1⟩ : ∃ E, bcsE la = E := ⟨_, rfl⟩
      obtain ⟨E2, hE2⟩ : ∃ E, bcsE lb = E := ⟨_, rfl⟩
      obtain ⟨KN, hKN⟩ : ∃ E, knE la lb = E := ⟨_, rfl⟩
      obtain ⟨M, hM⟩ : ∃ E, kcE la lb = E := ⟨_, rfl⟩
      obtain ⟨PE, hPE⟩ : ∃ E, prE la p r3 = E := ⟨_, rfl⟩
      obtain ⟨PF, PV, hPV⟩ : ∃ F V, prV la p r3 = (F, V) := ⟨_, _, rfl⟩
      obtain ⟨RV, RB, hRV⟩ : ∃ F V, rcV la [⟨#[98, 111, 98]⟩, p] r3 = (F, V) := ⟨_, _, rfl⟩
      obtain ⟨KY, hKY⟩ : ∃ E, keyOk (nb p) = E := ⟨_, rfl⟩
      obtain ⟨VM, hVM⟩ : ∃ E, momB r3 = E := ⟨_, rfl⟩
      obtain ⟨X2, hX2⟩ : ∃ x, (if (!KY) = true then (5 : Int) else 0) = x := ⟨_, rfl⟩
      obtain ⟨X3, hX3⟩ : ∃ x, (if VM = true then (0 : Int) else 1) = x := ⟨_, rfl⟩
      obtain ⟨KB, hKB⟩ : ∃ b, (KN == 0) = b := ⟨_, rfl⟩
      obtain ⟨PB, hPB⟩ : ∃ b, (PE == 0) = b := ⟨_, rfl⟩
      have HFK := Lib.hid (show firstE [E1, E2] = KN by rw [firstE_two, ← hKN, ← hE1, ← hE2]; rfl)
      have HFE := Lib.hid (show firstE [E1, X2, X3] = PE by rw [firstE_three, ← hPE, ← hX2, ← hX3]; unfold prE; rw [hE1, hKY, hVM]; cases KY <;> cases VM <;> simp)
      have HRE := Lib.hid (show rcE la [⟨#[98, 111, 98]⟩, p] r3 = PE by rw [rcE_two, hPE])
      have HE1 := Lib.hid hE1; have HE2 := Lib.hid hE2; have HKN := Lib.hid hKN; have HME := Lib.hid hM; have HPE := Lib.hid hPE; have HPV := Lib.hid hPV; have HRV := Lib.hid hRV; have HKY := Lib.hid hKY; have HVM := Lib.hid hVM; have HX2 := Lib.hid hX2; have HX3 := Lib.hid hX3; have HKB := Lib.hid hKB; have HPP := Lib.hid hPB
      clear hE1 hE2 hKN hM hPE hPV hRV hKY hVM hX2 hX3 hKB hPB
      go_wp2_with fail
      refine (known_any lo1 lo2 aA bA an ac bn bc la lb _ HA.out HB.out (by omega) (by omega) HU.out HM.out).mono ?_
      rintro e w5 ⟨O, on, oc, o, rfl, ho0, ho1, horec, hon, hg5⟩
      rw [HME.out] at ho0 ho1 ⊢
      have HO := Lib.hid (horec.lower (Nat.zero_le _))
      have HO0 := Lib.hid ho0; have HO1 := Lib.hid ho1
      clear horec ho0 ho1
      replace HV := Lib.hid (gr_none HV.out hg5)
      clear hg5
      go_wp2_with fail
      refine (presence_any lo1 aA an ac la p r3 _ (HA.out.grown HV.out (fun g e => by cases e)) (by omega) (by omega) (HU.out.grown HV.out) (HM.out.grown HV.out)).mono ?_
      rintro e w6 ⟨rfl, hg6⟩
      rw [HPE.out, HPV.out]
      dsimp only
      replace HV := Lib.hid (gr_none HV.out hg6)
      replace HO := Lib.hid (HO.out.grown hg6 (fun g e => by cases e))
      clear hg6
      obtain ⟨w7, hw7⟩ : ∃ v, w6.alloc (.cells #[.string PV.psn, .string PV.dev, .int .i64 PV.st, .int .i64 PV.at_, .int .i64 PV.un, .string PV.note] 62) = v := ⟨_, rfl⟩
      obtain ⟨pb, hpb⟩ : ∃ b, w6.heap.size = b := ⟨_, rfl⟩
      have HPB := Lib.hid (show Blk w7 pb 62 #[.string PV.psn, .string PV.dev, .int .i64 PV.st, .int .i64 PV.at_, .int .i64 PV.un, .string PV.note] by rw [← hw7, ← hpb]; exact Blk.new _ _ _)
      have hg7 : w6.grownBy w7 none := by rw [← hw7]; exact gr_alloc (gr_refl _ _) _
      replace HV := Lib.hid (gr_none HV.out hg7)
      replace HO := Lib.hid (HO.out.grown hg7 (fun g e => by cases e))
      clear hg7
      go_upto_region 7 with (fail)
      (try rw [hw7])
      (try rw [hpb])
      clear hw7 hpb
      go_wp2_with fail
      refine (beaconsFault_any lo1 aA an ac la _ (HA.out.grown HV.out (fun g e => by cases e)) (by omega) (HU.out.grown HV.out) (HM.out.grown HV.out)).mono ?_
      rintro e w8 ⟨rfl, hg8⟩
      rw [HE1.out]
      replace HV := Lib.hid (gr_none HV.out hg8)
      replace HO := Lib.hid (HO.out.grown hg8 (fun g e => by cases e))
      replace HPB := Lib.hid (HPB.out.grown hg8 (by simp))
      clear hg8
      go_wp2_with fail
      refine (checkBeacons_any lo1 aA an ac la _ (HA.out.grown HV.out (fun g e => by cases e)) (by omega) (HU.out.grown HV.out) (HM.out.grown HV.out)).mono ?_
      rintro e w9 ⟨rfl, hg9⟩
      rw [HE1.out]
      replace HV := Lib.hid (gr_none HV.out hg9)
      replace HO := Lib.hid (HO.out.grown hg9 (fun g e => by cases e))
      replace HPB := Lib.hid (HPB.out.grown hg9 (by simp))
      clear hg9
      have qE : (E1 != E1) = false := by simp
      go_wp2_with fail
      clear qE
      refine (keyRefR_any p _ (by omega)).mono ?_
      rintro e w10 ⟨rfl, hg10⟩
      rw [HKY.out]
      replace HV := Lib.hid (gr_none HV.out hg10)
      replace HO := Lib.hid (HO.out.grown hg10 (fun g e => by cases e))
      replace HPB := Lib.hid (HPB.out.grown hg10 (by simp))
      clear hg10
      go_wp2_with fail
      refine same_calls (whenF_any (!KY) 5 _) ?_
      rw [HX2.out]
      go_wp2_with fail
      refine same_calls (momentFaultK_any r3 _) ?_
      rw [HVM.out, HX3.out]
      go_wp2_with fail
      refine (errs_new (n := 3) [E1, X2, X3] _ rfl (by simp) rfl (by omega)).mono ?_
      rintro e w11 ⟨rfl, hg11⟩
      rw [HFE.out]
      replace HV := Lib.hid (gr_none HV.out hg11)
      replace HO := Lib.hid (HO.out.grown hg11 (fun g e => by cases e))
      replace HPB := Lib.hid (HPB.out.grown hg11 (by simp))
      clear hg11
      go_wp2_with fail
      refine (beaconsFault_any lo2 bA bn bc lb _ (HB.out.grown HV.out (fun g e => by cases e)) (by omega) (HU.out.grown HV.out) (HM.out.grown HV.out)).mono ?_
      rintro e w12 ⟨rfl, hg12⟩
      rw [HE2.out]
      replace HV := Lib.hid (gr_none HV.out hg12)
      replace HO := Lib.hid (HO.out.grown hg12 (fun g e => by cases e))
      replace HPB := Lib.hid (HPB.out.grown hg12 (by simp))
      clear hg12
      go_wp2_with fail
      refine (errs_new (n := 2) [E1, E2] _ rfl (by simp) rfl (by omega)).mono ?_
      rintro e w13 ⟨rfl, hg13⟩
      rw [HFK.out]
      replace HV := Lib.hid (gr_none HV.out hg13)
      replace HO := Lib.hid (HO.out.grown hg13 (fun g e => by cases e))
      replace HPB := Lib.hid (HPB.out.grown hg13 (by simp))
      clear hg13
      go_upto_if 91 with (fail)
      rw [HKB.out]
      go_cut [15, 16] (fun xv ov wx => ∃ (B : Option Addr) (m c : Nat), xv = .slice B m c ∧ ov = .int .i64 M ∧ Recs BcV.row 6 wx 0 B m c o ∧ m ≤ 100000 ∧ w13.grownBy wx none)
      case first =>
        cases KB
        · have hkn : KN ≠ 0 := beq_eq_false_iff_ne.1 HKB.out
          have hmk : M = KN := by
            rw [← HME.out, ← HKN.out]
            unfold kcE
            exact if_neg (by rw [HKN.out]; exact hkn)
          subst hmk
          have hoe := HO1.out hkn
          subst hoe
          clear hkn
          go_wp2_with fail
          go_meet
          exact ⟨none, 0, 0, rfl, rfl, Recs.nil, by omega, gr_refl _ _⟩
        · have hkn : KN = 0 := eq_of_beq HKB.out
          have hz : bcsE la = 0 ∧ bcsE lb = 0 := by
            have h := HKN.out
            rw [hkn] at h
            unfold knE at h
            by_cases q : bcsE la = 0
            · rw [if_pos q] at h; exact ⟨q, h⟩
            · rw [if_neg q] at h; exact absurd h q
          have HZ1 := Lib.hid hz
          have HLA := Lib.hid (bAsc_of (bcs_all hz.1).2.2); have HLB := Lib.hid (bAsc_of (bcs_all hz.2).2.2)
          clear hkn hz
          go_wp2_with fail
          refine (beaconsOf_any lo1 lo2 aA bA an ac bn bc la lb _ (HA.out.grown HV.out (fun g e => by cases e)) (HB.out.grown HV.out (fun g e => by cases e)) (by omega)).mono ?_
          rintro e wb ⟨B, m, c, s, hp, ha, hgb, hor⟩
          have HBC := Lib.hid (bk_conf HLA.out HLB.out hp ha)
          rcases hor with ⟨hadj, rfl⟩ | ⟨hno, rfl, hrec, hm⟩
          · have hM : M = 13 := HME.out.symm.trans (kcE_c HZ1.out.1 HZ1.out.2 (HBC.out.1 hadj))
            subst hM
            have hoe := HO1.out (by decide)
            subst hoe
            clear hadj hp ha
            go_wp2_with fail
            go_meet
            exact ⟨none, 0, 0, rfl, rfl, Recs.nil, by omega, hgb⟩
          · have hM : M = 0 := HME.out.symm.trans (kcE_0 HZ1.out.1 HZ1.out.2 (fun h => hno (HBC.out.2 h)))
            subst hM
            have HOE := Lib.hid (bk_same HLA.out HLB.out hp ha (HO0.out rfl).1 (HO0.out rfl).2 (fun h => hno (HBC.out.2 h)))
            have HRX := Lib.hid hrec; have HGB := Lib.hid hgb
            clear hno hp ha hrec hgb
            go_wp2_with fail
            go_meet
            exact ⟨B, m, c, rfl, rfl, by rw [HOE.out]; exact HRX.out.lower (Nat.zero_le _), by omega, HGB.out⟩
      case rest =>
        obtain ⟨B, m, c, rfl, rfl, hrec, hm, hgk⟩ := hcut
        obtain ⟨wk, rfl⟩ : ∃ wk : World, wk = wc := ⟨_, rfl⟩
        have HX := Lib.hid hrec
        clear hrec HO0 HO1 HME HKB HKN HFK
        replace HV := Lib.hid (gr_none HV.out hgk)
        replace HO := Lib.hid (HO.out.grown hgk (fun g e => by cases e))
        replace HPB := Lib.hid (HPB.out.grown hgk (by simp))
        clear hgk
        obtain ⟨w15, hw15⟩ : ∃ v, wk.alloc (.cells #[.string ⟨#[]⟩, .string ⟨#[]⟩, .int .i64 0, .int .i64 0, .int .i64 0, .string ⟨#[]⟩] 62) = v := ⟨_, rfl⟩
        obtain ⟨qb, hqb⟩ : ∃ b, wk.heap.size = b := ⟨_, rfl⟩
        have HQB := Lib.hid (show Blk w15 qb 62 #[.string ⟨#[]⟩, .string ⟨#[]⟩, .int .i64 0, .int .i64 0, .int .i64 0, .string ⟨#[]⟩] by rw [← hw15, ← hqb]; exact Blk.new _ _ _)
        have hg15 : wk.grownBy w15 none := by rw [← hw15]; exact gr_alloc (gr_refl _ _) _
        have hpq : pb < qb := by rw [← hqb]; exact HPB.out.lt
        have hvq : wv.heap.size ≤ qb := by rw [← hqb]; exact HV.out.size
        have HW15 := Lib.hid hw15; have HQ15 := Lib.hid hqb
        have HK15 := Lib.hid hg15
        have HKQ := Lib.hid (show wk.heap.size ≤ qb by rw [hqb]; exact Nat.le_refl _)
        clear hw15 hqb
        replace HV := Lib.hid (gr_none HV.out hg15)
        replace HPB := Lib.hid (HPB.out.grown hg15 (by simp))
        clear hg15
        go_upto_region 16 with (fail)
        rw [HW15.out]
        (try rw [HQ15.out])
        clear HW15 HQ15
        go_upto_if 100 with (fail)
        rw [HPP.out]
        go_cut [18] (fun v wx => v = .bool PF ∧ Blk wx qb 62 #[.string PV.psn, .string PV.dev, .int .i64 PV.st, .int .i64 PV.at_, .int .i64 PV.un, .string PV.note] ∧ w15.grownBy wx (some qb))
        case first =>
          cases PB
          · have hne : prE la p r3 ≠ 0 := by rw [HPE.out]; exact beq_eq_false_iff_ne.1 HPP.out
            have hv : (PF, PV) = (false, bc0) := by rw [← HPV.out]; unfold prV; exact if_neg hne
            injection hv with h1 h2
            subst h1; subst h2
            clear hne
            go_wp2_with fail
            go_meet
            exact ⟨rfl, HQB.out, gr_refl _ _⟩
          · have hz : prE la p r3 = 0 := by rw [HPE.out]; exact eq_of_beq HPP.out
            have HPR := Lib.hid (show prs la p r3 = (PF, PV) by rw [← HPV.out]; unfold prV; exact (if_pos hz).symm)
            have HLA := Lib.hid (bAsc_of (bcs_all (pr_parts hz).1).2.2)
            clear hz
            go_wp2_with fail
            refine (presenceOf_any lo1 aA an ac la p r3 _ (HA.out.grown HV.out (fun g e => by cases e)) (by omega) HLA.out).mono ?_
            rintro e wb ⟨rfl, hgb⟩
            rw [HPR.out]
            dsimp only
            have HGB := Lib.hid hgb
            replace HQB := Lib.hid (HQB.out.grown hgb (by simp))
            clear hgb
            go_wp2_with (first
              | (refine wpl_store_all Tryz.bcT rfl _ _ rfl _ rfl _ _ _ rfl HQB.out rfl rfl (by simp [Value.oneCell']) ?_; intro wz hst; have HST := Lib.hid hst; clear hst)
              | fail)
            go_meet
            exact ⟨rfl, HST.out.1, gr_trans (gr_trans (gr_refl _ _) HGB.out (fun g e => by cases e)) HST.out.2.1 (fun g e => .inl e.symm)⟩
        case rest =>
          obtain ⟨rfl, hqb, hgq⟩ := hcut
          replace HQB := Lib.hid hqb
          have hgq2 := hgq
          replace HV := Lib.hid (gr_trans HV.out hgq (fun g e => .inr (by injection e with e; omega)))
          have hkq := gr_trans HK15.out hgq (fun g e => .inr (by injection e with e; have := HKQ.out; omega))
          replace HO := Lib.hid (HO.out.grown hkq (fun g e => by cases e))
          replace HX := Lib.hid (HX.out.grown hkq (fun g e => by cases e))
          clear hkq HK15 HKQ
          replace HPB := Lib.hid (HPB.out.grown hgq (by simp; omega))
          obtain ⟨wq, rfl⟩ : ∃ wq : World, wq = wc := ⟨_, rfl⟩
          clear hqb hgq hgq2
          have HEQ := Lib.hid (fun w' => (bcEq_neq PV PV w').trans (by rw [decide_eq_true rfl]))
          have qM : (M != M) = false := by simp
          have qP : (PE != PE) = false := by simp
          have qF : (PF != PF) = false := by simp
          go_wp2_with fail
          refine (equalBc_same 0 0 O B _ _ _ _ _ _ HO.out HX.out (by omega)).mono ?_
          rintro e wd ⟨rfl, k2, rfl⟩
          go_upto_region 20 with (first
            | (refine wplg_load_all Tryz.bcT (by rfl) _ rfl _ rfl _ _ (HPB.out.drewN k2) rfl ?_)
            | (refine wplg_load_all Tryz.bcT (by rfl) _ rfl _ rfl _ _ (HQB.out.drewN k2) rfl ?_)
            | (refine wplg_eqs (by rfl) _ _ rfl _ _ rfl rfl bcEq_guard (HEQ.out _) ?_)
            | fail)
          clear qM qP qF HEQ HPB HQB HO HX HPV
          obtain ⟨wl, hwl⟩ : ∃ v, (wq.drewN k2).alloc (.cells #[.string ⟨#[98, 111, 98]⟩, .string p] 9) = v := ⟨_, rfl⟩
          obtain ⟨gb, hgb⟩ : ∃ b, wq.heap.size = b := ⟨_, rfl⟩
          have HL := Lib.hid (show Recs srow 1 wl 0 (some ⟨gb, 0, none⟩) 2 2 [⟨#[98, 111, 98]⟩, p] by
            rw [← hwl, ← hgb]
            exact (show Recs srow 1 _ _ _ 2 2 [⟨#[98, 111, 98]⟩, p] from ⟨Reads.blk (Blk.new (wq.drewN k2) 9 #[.string ⟨#[98, 111, 98]⟩, .string p]) 1 2 rfl, rfl⟩).lower (Nat.zero_le _))
          replace HV := Lib.hid (show wv.grownBy wl none by rw [← hwl]; exact gr_alloc (gr_drewN HV.out k2) _)
          go_upto_region 21 with (fail)
          (try rw [hwl])
          (try rw [hgb])
          clear hwl hgb
          go_wp2_with fail
          refine (reach_any lo1 0 aA _ an ac 2 2 la [⟨#[98, 111, 98]⟩, p] r3 _ (HA.out.grown HV.out (fun g e => by cases e)) HL.out (by omega) (by omega) (two_small (by omega)) (HU.out.grown HV.out) (HM.out.grown HV.out)).mono ?_
          rintro e w21 ⟨rfl, hg21⟩
          rw [HRE.out, HRV.out]
          dsimp only
          replace HV := Lib.hid (gr_none HV.out hg21)
          replace HL := Lib.hid (HL.out.grown hg21 (fun g e => by cases e))
          clear hg21
          go_upto_if 143 with (fail)
          rw [HPP.out]
          go_cut [23, 24] (fun v u wx => v = .string RV ∧ u = .bool RB ∧ w21.grownBy wx none)
          case first =>
            cases PB
            · have hne : rcE la [⟨#[98, 111, 98]⟩, p] r3 ≠ 0 := by rw [HRE.out]; exact beq_eq_false_iff_ne.1 HPP.out
              have hv : (RV, RB) = (⟨#[]⟩, false) := by rw [← HRV.out]; exact rcV_no hne
              injection hv with h1 h2
              subst h1; subst h2
              clear hne
              go_wp2_with fail
              go_meet
              exact ⟨rfl, rfl, gr_refl _ _⟩
            · have hz : rcE la [⟨#[98, 111, 98]⟩, p] r3 = 0 := by rw [HRE.out]; exact eq_of_beq HPP.out
              have HZ2 := Lib.hid hz
              have HLA := Lib.hid (bAsc_of (bcs_all (pr_parts ((rcE_two la p r3).symm.trans hz)).1).2.2)
              clear hz
              go_wp2_with fail
              refine (reachOf_any lo1 0 aA _ an ac 2 2 la [⟨#[98, 111, 98]⟩, p] r3 _ (HA.out.grown HV.out (fun g e => by cases e)) HL.out (by omega) (by omega) HZ2.out HLA.out).mono ?_
              rintro e wb ⟨rfl, hgb⟩
              rw [HRV.out]
              dsimp only
              go_wp2_with fail
              go_meet
              exact ⟨rfl, rfl, hgb⟩
          case rest =>
            obtain ⟨rfl, rfl, hgk⟩ := hcut
            replace HV := Lib.hid (gr_none HV.out hgk)
            clear hgk
            have qE : (PE == PE) = true := by simp
            have qB : (RB == RB) = true := by simp
            go_wp2_with (first
              | (go_at_call 29; refine (voiced_true _).mono ?_; rintro e wz ⟨rfl, hgz⟩; have HGZ := Lib.hid hgz; clear hgz)
              | fail)
            go_ret
            refine ⟨rfl, ?_⟩
            have hfin := gr_none (gr_none HG.out HV.out) HGZ.out
            rw [← HSB.out] at hfin
            exact below_of_gr hfin
  · have d0 : decide (0 < an) = false := decide_eq_false hn0
    have d0' : decide ((0 : Int) < (an : Int)) = false := decide_eq_false (by omega)
    clear hn0 HS
    obtain ⟨wv, rfl⟩ : ∃ wv : World, wv = w5 := ⟨_, rfl⟩
    go_upto_region 5 with (fail)
    clear d0 d0'
    replace HU := Lib.hid (HU.out.low HG.out (fun g e => by injection e with e; have := HU.out.lt; omega))
    replace HM := Lib.hid (HM.out.low HG.out (fun g e => by injection e with e; have := HM.out.lt; omega))
    have HV := Lib.hid (gr_refl wv none)
    obtain ⟨E1, hE1⟩ : ∃ E, bcsE la = E := ⟨_, rfl⟩
    obtain ⟨E2, hE2⟩ : ∃ E, bcsE lb = E := ⟨_, rfl⟩
    obtain ⟨KN, hKN⟩ : ∃ E, knE la lb = E := ⟨_, rfl⟩
    obtain ⟨M, hM⟩ : ∃ E, kcE la lb = E := ⟨_, rfl⟩
    obtain ⟨PE, hPE⟩ : ∃ E, prE la p r3 = E := ⟨_, rfl⟩
    obtain ⟨PF, PV, hPV⟩ : ∃ F V, prV la p r3 = (F, V) := ⟨_, _, rfl⟩
    obtain ⟨RV, RB, hRV⟩ : ∃ F V, rcV la [⟨#[98, 111, 98]⟩, p] r3 = (F, V) := ⟨_, _, rfl⟩
    obtain ⟨KY, hKY⟩ : ∃ E, keyOk (nb p) = E := ⟨_, rfl⟩
    obtain ⟨VM, hVM⟩ : ∃ E, momB r3 = E := ⟨_, rfl⟩
    obtain ⟨X2, hX2⟩ : ∃ x, (if (!KY) = true then (5 : Int) else 0) = x := ⟨_, rfl⟩
    obtain ⟨X3, hX3⟩ : ∃ x, (if VM = true then (0 : Int) else 1) = x := ⟨_, rfl⟩
    obtain ⟨KB, hKB⟩ : ∃ b, (KN == 0) = b := ⟨_, rfl⟩
    obtain ⟨PB, hPB⟩ : ∃ b, (PE == 0) = b := ⟨_, rfl⟩
    have HFK := Lib.hid (show firstE [E1, E2] = KN by rw [firstE_two, ← hKN, ← hE1, ← hE2]; rfl)
    have HFE := Lib.hid (show firstE [E1, X2, X3] = PE by rw [firstE_three, ← hPE, ← hX2, ← hX3]; unfold prE; rw [hE1, hKY, hVM]; cases KY <;> cases VM <;> simp)
    have HRE := Lib.hid (show rcE la [⟨#[98, 111, 98]⟩, p] r3 = PE by rw [rcE_two, hPE])
    have HE1 := Lib.hid hE1; have HE2 := Lib.hid hE2; have HKN := Lib.hid hKN; have HME := Lib.hid hM; have HPE := Lib.hid hPE; have HPV := Lib.hid hPV; have HRV := Lib.hid hRV; have HKY := Lib.hid hKY; have HVM := Lib.hid hVM; have HX2 := Lib.hid hX2; have HX3 := Lib.hid hX3; have HKB := Lib.hid hKB; have HPP := Lib.hid hPB
    clear hE1 hE2 hKN hM hPE hPV hRV hKY hVM hX2 hX3 hKB hPB
    go_wp2_with fail
    refine (known_any lo1 lo2 aA bA an ac bn bc la lb _ HA.out HB.out (by omega) (by omega) HU.out HM.out).mono ?_
    rintro e w5 ⟨O, on, oc, o, rfl, ho0, ho1, horec, hon, hg5⟩
    rw [HME.out] at ho0 ho1 ⊢
    have HO := Lib.hid (horec.lower (Nat.zero_le _))
    have HO0 := Lib.hid ho0; have HO1 := Lib.hid ho1
    clear horec ho0 ho1
    replace HV := Lib.hid (gr_none HV.out hg5)
    clear hg5
    go_wp2_with fail
    refine (presence_any lo1 aA an ac la p r3 _ (HA.out.grown HV.out (fun g e => by cases e)) (by omega) (by omega) (HU.out.grown HV.out) (HM.out.grown HV.out)).mono ?_
    rintro e w6 ⟨rfl, hg6⟩
    rw [HPE.out, HPV.out]
    dsimp only
    replace HV := Lib.hid (gr_none HV.out hg6)
    replace HO := Lib.hid (HO.out.grown hg6 (fun g e => by cases e))
    clear hg6
    obtain ⟨w7, hw7⟩ : ∃ v, w6.alloc (.cells #[.string PV.psn, .string PV.dev, .int .i64 PV.st, .int .i64 PV.at_, .int .i64 PV.un, .string PV.note] 62) = v := ⟨_, rfl⟩
    obtain ⟨pb, hpb⟩ : ∃ b, w6.heap.size = b := ⟨_, rfl⟩
    have HPB := Lib.hid (show Blk w7 pb 62 #[.string PV.psn, .string PV.dev, .int .i64 PV.st, .int .i64 PV.at_, .int .i64 PV.un, .string PV.note] by rw [← hw7, ← hpb]; exact Blk.new _ _ _)
    have hg7 : w6.grownBy w7 none := by rw [← hw7]; exact gr_alloc (gr_refl _ _) _
    replace HV := Lib.hid (gr_none HV.out hg7)
    replace HO := Lib.hid (HO.out.grown hg7 (fun g e => by cases e))
    clear hg7
    go_upto_region 7 with (fail)
    (try rw [hw7])
    (try rw [hpb])
    clear hw7 hpb
    go_wp2_with fail
    refine (beaconsFault_any lo1 aA an ac la _ (HA.out.grown HV.out (fun g e => by cases e)) (by omega) (HU.out.grown HV.out) (HM.out.grown HV.out)).mono ?_
    rintro e w8 ⟨rfl, hg8⟩
    rw [HE1.out]
    replace HV := Lib.hid (gr_none HV.out hg8)
    replace HO := Lib.hid (HO.out.grown hg8 (fun g e => by cases e))
    replace HPB := Lib.hid (HPB.out.grown hg8 (by simp))
    clear hg8
    go_wp2_with fail
    refine (checkBeacons_any lo1 aA an ac la _ (HA.out.grown HV.out (fun g e => by cases e)) (by omega) (HU.out.grown HV.out) (HM.out.grown HV.out)).mono ?_
    rintro e w9 ⟨rfl, hg9⟩
    rw [HE1.out]
    replace HV := Lib.hid (gr_none HV.out hg9)
    replace HO := Lib.hid (HO.out.grown hg9 (fun g e => by cases e))
    replace HPB := Lib.hid (HPB.out.grown hg9 (by simp))
    clear hg9
    have qE : (E1 != E1) = false := by simp
    go_wp2_with fail
    clear qE
    refine (keyRefR_any p _ (by omega)).mono ?_
    rintro e w10 ⟨rfl, hg10⟩
    rw [HKY.out]
    replace HV := Lib.hid (gr_none HV.out hg10)
    replace HO := Lib.hid (HO.out.grown hg10 (fun g e => by cases e))
    replace HPB := Lib.hid (HPB.out.grown hg10 (by simp))
    clear hg10
    go_wp2_with fail
    refine same_calls (whenF_any (!KY) 5 _) ?_
    rw [HX2.out]
    go_wp2_with fail
    refine same_calls (momentFaultK_any r3 _) ?_
    rw [HVM.out, HX3.out]
    go_wp2_with fail
    refine (errs_new (n := 3) [E1, X2, X3] _ rfl (by simp) rfl (by omega)).mono ?_
    rintro e w11 ⟨rfl, hg11⟩
    rw [HFE.out]
    replace HV := Lib.hid (gr_none HV.out hg11)
    replace HO := Lib.hid (HO.out.grown hg11 (fun g e => by cases e))
    replace HPB := Lib.hid (HPB.out.grown hg11 (by simp))
    clear hg11
    go_wp2_with fail
    refine (beaconsFault_any lo2 bA bn bc lb _ (HB.out.grown HV.out (fun g e => by cases e)) (by omega) (HU.out.grown HV.out) (HM.out.grown HV.out)).mono ?_
    rintro e w12 ⟨rfl, hg12⟩
    rw [HE2.out]
    replace HV := Lib.hid (gr_none HV.out hg12)
    replace HO := Lib.hid (HO.out.grown hg12 (fun g e => by cases e))
    replace HPB := Lib.hid (HPB.out.grown hg12 (by simp))
    clear hg12
    go_wp2_with fail
    refine (errs_new (n := 2) [E1, E2] _ rfl (by simp) rfl (by omega)).mono ?_
    rintro e w13 ⟨rfl, hg13⟩
    rw [HFK.out]
    replace HV := Lib.hid (gr_none HV.out hg13)
    replace HO := Lib.hid (HO.out.grown hg13 (fun g e => by cases e))
    replace HPB := Lib.hid (HPB.out.grown hg13 (by simp))
    clear hg13
    go_upto_if 91 with (fail)
    rw [HKB.out]
    go_cut [15, 16] (fun xv ov wx => ∃ (B : Option Addr) (m c : Nat), xv = .slice B m c ∧ ov = .int .i64 M ∧ Recs BcV.row 6 wx 0 B m c o ∧ m ≤ 100000 ∧ w13.grownBy wx none)
    case first =>
      cases KB
      · have hkn : KN ≠ 0 := beq_eq_false_iff_ne.1 HKB.out
        have hmk : M = KN := by
          rw [← HME.out, ← HKN.out]
          unfold kcE
          exact if_neg (by rw [HKN.out]; exact hkn)
        subst hmk
        have hoe := HO1.out hkn
        subst hoe
        clear hkn
        go_wp2_with fail
        go_meet
        exact ⟨none, 0, 0, rfl, rfl, Recs.nil, by omega, gr_refl _ _⟩
      · have hkn : KN = 0 := eq_of_beq HKB.out
        have hz : bcsE la = 0 ∧ bcsE lb = 0 := by
          have h := HKN.out
          rw [hkn] at h
          unfold knE at h
          by_cases q : bcsE la = 0
          · rw [if_pos q] at h; exact ⟨q, h⟩
          · rw [if_neg q] at h; exact absurd h q
        have HZ1 := Lib.hid hz
        have HLA := Lib.hid (bAsc_of (bcs_all hz.1).2.2); have HLB := Lib.hid (bAsc_of (bcs_all hz.2).2.2)
        clear hkn hz
        go_wp2_with fail
        refine (beaconsOf_any lo1 lo2 aA bA an ac bn bc la lb _ (HA.out.grown HV.out (fun g e => by cases e)) (HB.out.grown HV.out (fun g e => by cases e)) (by omega)).mono ?_
        rintro e wb ⟨B, m, c, s, hp, ha, hgb, hor⟩
        have HBC := Lib.hid (bk_conf HLA.out HLB.out hp ha)
        rcases hor with ⟨hadj, rfl⟩ | ⟨hno, rfl, hrec, hm⟩
        · have hM : M = 13 := HME.out.symm.trans (kcE_c HZ1.out.1 HZ1.out.2 (HBC.out.1 hadj))
          subst hM
          have hoe := HO1.out (by decide)
          subst hoe
          clear hadj hp ha
          go_wp2_with fail
          go_meet
          exact ⟨none, 0, 0, rfl, rfl, Recs.nil, by omega, hgb⟩
        · have hM : M = 0 := HME.out.symm.trans (kcE_0 HZ1.out.1 HZ1.out.2 (fun h => hno (HBC.out.2 h)))
          subst hM
          have HOE := Lib.hid (bk_same HLA.out HLB.out hp ha (HO0.out rfl).1 (HO0.out rfl).2 (fun h => hno (HBC.out.2 h)))
          have HRX := Lib.hid hrec; have HGB := Lib.hid hgb
          clear hno hp ha hrec hgb
          go_wp2_with fail
          go_meet
          exact ⟨B, m, c, rfl, rfl, by rw [HOE.out]; exact HRX.out.lower (Nat.zero_le _), by omega, HGB.out⟩
    case rest =>
      obtain ⟨B, m, c, rfl, rfl, hrec, hm, hgk⟩ := hcut
      obtain ⟨wk, rfl⟩ : ∃ wk : World, wk = wc := ⟨_, rfl⟩
      have HX := Lib.hid hrec
      clear hrec HO0 HO1 HME HKB HKN HFK
      replace HV := Lib.hid (gr_none HV.out hgk)
      replace HO := Lib.hid (HO.out.grown hgk (fun g e => by cases e))
      replace HPB := Lib.hid (HPB.out.grown hgk (by simp))
      clear hgk
      obtain ⟨w15, hw15⟩ : ∃ v, wk.alloc (.cells #[.string ⟨#[]⟩, .string ⟨#[]⟩, .int .i64 0, .int .i64 0, .int .i64 0, .string ⟨#[]⟩] 62) = v := ⟨_, rfl⟩
      obtain ⟨qb, hqb⟩ : ∃ b, wk.heap.size = b := ⟨_, rfl⟩
      have HQB := Lib.hid (show Blk w15 qb 62 #[.string ⟨#[]⟩, .string ⟨#[]⟩, .int .i64 0, .int .i64 0, .int .i64 0, .string ⟨#[]⟩] by rw [← hw15, ← hqb]; exact Blk.new _ _ _)
      have hg15 : wk.grownBy w15 none := by rw [← hw15]; exact gr_alloc (gr_refl _ _) _
      have hpq : pb < qb := by rw [← hqb]; exact HPB.out.lt
      have hvq : wv.heap.size ≤ qb := by rw [← hqb]; exact HV.out.size
      have HW15 := Lib.hid hw15; have HQ15 := Lib.hid hqb
      have HK15 := Lib.hid hg15
      have HKQ := Lib.hid (show wk.heap.size ≤ qb by rw [hqb]; exact Nat.le_refl _)
      clear hw15 hqb
      replace HV := Lib.hid (gr_none HV.out hg15)
      replace HPB := Lib.hid (HPB.out.grown hg15 (by simp))
      clear hg15
      go_upto_region 16 with (fail)
      rw [HW15.out]
      (try rw [HQ15.out])
      clear HW15 HQ15
      go_upto_if 100 with (fail)
      rw [HPP.out]
      go_cut [18] (fun v wx => v = .bool PF ∧ Blk wx qb 62 #[.string PV.psn, .string PV.dev, .int .i64 PV.st, .int .i64 PV.at_, .int .i64 PV.un, .string PV.note] ∧ w15.grownBy wx (some qb))
      case first =>
        cases PB
        · have hne : prE la p r3 ≠ 0 := by rw [HPE.out]; exact beq_eq_false_iff_ne.1 HPP.out
          have hv : (PF, PV) = (false, bc0) := by rw [← HPV.out]; unfold prV; exact if_neg hne
          injection hv with h1 h2
          subst h1; subst h2
          clear hne
          go_wp2_with fail
          go_meet
          exact ⟨rfl, HQB.out, gr_refl _ _⟩
        · have hz : prE la p r3 = 0 := by rw [HPE.out]; exact eq_of_beq HPP.out
          have HPR := Lib.hid (show prs la p r3 = (PF, PV) by rw [← HPV.out]; unfold prV; exact (if_pos hz).symm)
          have HLA := Lib.hid (bAsc_of (bcs_all (pr_parts hz).1).2.2)
          clear hz
          go_wp2_with fail
          refine (presenceOf_any lo1 aA an ac la p r3 _ (HA.out.grown HV.out (fun g e => by cases e)) (by omega) HLA.out).mono ?_
          rintro e wb ⟨rfl, hgb⟩
          rw [HPR.out]
          dsimp only
          have HGB := Lib.hid hgb
          replace HQB := Lib.hid (HQB.out.grown hgb (by simp))
          clear hgb
          go_wp2_with (first
            | (refine wpl_store_all Tryz.bcT rfl _ _ rfl _ rfl _ _ _ rfl HQB.out rfl rfl (by simp [Value.oneCell']) ?_; intro wz hst; have HST := Lib.hid hst; clear hst)
            | fail)
          go_meet
          exact ⟨rfl, HST.out.1, gr_trans (gr_trans (gr_refl _ _) HGB.out (fun g e => by cases e)) HST.out.2.1 (fun g e => .inl e.symm)⟩
      case rest =>
        obtain ⟨rfl, hqb, hgq⟩ := hcut
        replace HQB := Lib.hid hqb
        have hgq2 := hgq
        replace HV := Lib.hid (gr_trans HV.out hgq (fun g e => .inr (by injection e with e; omega)))
        have hkq := gr_trans HK15.out hgq (fun g e => .inr (by injection e with e; have := HKQ.out; omega))
        replace HO := Lib.hid (HO.out.grown hkq (fun g e => by cases e))
        replace HX := Lib.hid (HX.out.grown hkq (fun g e => by cases e))
        clear hkq HK15 HKQ
        replace HPB := Lib.hid (HPB.out.grown hgq (by simp; omega))
        obtain ⟨wq, rfl⟩ : ∃ wq : World, wq = wc := ⟨_, rfl⟩
        clear hqb hgq hgq2
        have HEQ := Lib.hid (fun w' => (bcEq_neq PV PV w').trans (by rw [decide_eq_true rfl]))
        have qM : (M != M) = false := by simp
        have qP : (PE != PE) = false := by simp
        have qF : (PF != PF) = false := by simp
        go_wp2_with fail
        refine (equalBc_same 0 0 O B _ _ _ _ _ _ HO.out HX.out (by omega)).mono ?_
        rintro e wd ⟨rfl, k2, rfl⟩
        go_upto_region 20 with (first
          | (refine wplg_load_all Tryz.bcT (by rfl) _ rfl _ rfl _ _ (HPB.out.drewN k2) rfl ?_)
          | (refine wplg_load_all Tryz.bcT (by rfl) _ rfl _ rfl _ _ (HQB.out.drewN k2) rfl ?_)
          | (refine wplg_eqs (by rfl) _ _ rfl _ _ rfl rfl bcEq_guard (HEQ.out _) ?_)
          | fail)
        clear qM qP qF HEQ HPB HQB HO HX HPV
        obtain ⟨wl, hwl⟩ : ∃ v, (wq.drewN k2).alloc (.cells #[.string ⟨#[98, 111, 98]⟩, .string p] 9) = v := ⟨_, rfl⟩
        obtain ⟨gb, hgb⟩ : ∃ b, wq.heap.size = b := ⟨_, rfl⟩
        have HL := Lib.hid (show Recs srow 1 wl 0 (some ⟨gb, 0, none⟩) 2 2 [⟨#[98, 111, 98]⟩, p] by
          rw [← hwl, ← hgb]
          exact (show Recs srow 1 _ _ _ 2 2 [⟨#[98, 111, 98]⟩, p] from ⟨Reads.blk (Blk.new (wq.drewN k2) 9 #[.string ⟨#[98, 111, 98]⟩, .string p]) 1 2 rfl, rfl⟩).lower (Nat.zero_le _))
        replace HV := Lib.hid (show wv.grownBy wl none by rw [← hwl]; exact gr_alloc (gr_drewN HV.out k2) _)
        go_upto_region 21 with (fail)
        (try rw [hwl])
        (try rw [hgb])
        clear hwl hgb
        go_wp2_with fail
        refine (reach_any lo1 0 aA _ an ac 2 2 la [⟨#[98, 111, 98]⟩, p] r3 _ (HA.out.grown HV.out (fun g e => by cases e)) HL.out (by omega) (by omega) (two_small (by omega)) (HU.out.grown HV.out) (HM.out.grown HV.out)).mono ?_
        rintro e w21 ⟨rfl, hg21⟩
        rw [HRE.out, HRV.out]
        dsimp only
        replace HV := Lib.hid (gr_none HV.out hg21)
        replace HL := Lib.hid (HL.out.grown hg21 (fun g e => by cases e))
        clear hg21
        go_upto_if 143 with (fail)
        rw [HPP.out]
        go_cut [23, 24] (fun v u wx => v = .string RV ∧ u = .bool RB ∧ w21.grownBy wx none)
        case first =>
          cases PB
          · have hne : rcE la [⟨#[98, 111, 98]⟩, p] r3 ≠ 0 := by rw [HRE.out]; exact beq_eq_false_iff_ne.1 HPP.out
            have hv : (RV, RB) = (⟨#[]⟩, false) := by rw [← HRV.out]; exact rcV_no hne
            injection hv with h1 h2
            subst h1; subst h2
            clear hne
            go_wp2_with fail
            go_meet
            exact ⟨rfl, rfl, gr_refl _ _⟩
          · have hz : rcE la [⟨#[98, 111, 98]⟩, p] r3 = 0 := by rw [HRE.out]; exact eq_of_beq HPP.out
            have HZ2 := Lib.hid hz
            have HLA := Lib.hid (bAsc_of (bcs_all (pr_parts ((rcE_two la p r3).symm.trans hz)).1).2.2)
            clear hz
            go_wp2_with fail
            refine (reachOf_any lo1 0 aA _ an ac 2 2 la [⟨#[98, 111, 98]⟩, p] r3 _ (HA.out.grown HV.out (fun g e => by cases e)) HL.out (by omega) (by omega) HZ2.out HLA.out).mono ?_
            rintro e wb ⟨rfl, hgb⟩
            rw [HRV.out]
            dsimp only
            go_wp2_with fail
            go_meet
            exact ⟨rfl, rfl, hgb⟩
        case rest =>
          obtain ⟨rfl, rfl, hgk⟩ := hcut
          replace HV := Lib.hid (gr_none HV.out hgk)
          clear hgk
          have qE : (PE == PE) = true := by simp
          have qB : (RB == RB) = true := by simp
          go_wp2_with (first
            | (go_at_call 29; refine (voiced_true _).mono ?_; rintro e wz ⟨rfl, hgz⟩; have HGZ := Lib.hid hgz; clear hgz)
            | fail)
          go_ret
          refine ⟨rfl, ?_⟩
          have hfin := gr_none (gr_none HG.out HV.out) HGZ.out
          rw [← HSB.out] at hfin
          exact below_of_gr hfin
/-! The row's frame, the world's shape kept. -/
section
variable {H : Type} {enc : TypeId × Value → H}
theorem rih_shape {a : Assume} {C : Checked} {os : Os} {f : FuncId} {fn : Func} {s : ChangeSpec} {conds : List PathCond} {apart fresh handsOn again : Bool} {X : World → Array Value → Prop}
    (hX : ∀ (w w' : World) (args : Array Value), w.heap = w'.heap → X w args → X w' args)
    (own : ownKnob C.prog.godebug = none) (started : os.Started) (noInit : C.prog.inits.idxOf? f = none) (hfn : C.prog.funcs[f]? = some fn)
    (witness : ∃ (w : World) (tape : Tape) (i : Input), w.os = os ∧ (w.forCall tape i).Shaped C.prog ∧ i.vars = [] ∧ Input.okWide C.prog (w.forCall tape i) .any w.heap.size f i ∧
      ((s.pre enc C.prog fn conds apart (w.forCall tape i).memory i.args ∧ X (w.forCall tape i).memory i.args) ∧ sizedMet enc C.prog fn (OpenSpec.ofChange s) apart (w.forCall tape i).memory i.args) ∧ a.holds C.prog (lone (Frame.enter C.prog f i.args .normal) [] (w.forCall tape i)))
    (contract : ∀ (W : World) (base : Nat) (args : Array Value) (ds gs : List (DataW H)) (before : List MemPlace),
      (∀ (j : Nat) t v, fn.params[j]? = some t → args[j]? = some v → Value.okWide C.prog W .any base t v) →
      DataW.Whole enc C.prog fn.params.toList s.vars apart W args.toList ds gs before →
      X W args → W.ShapedOpen C.prog →
      Calls C.prog f args W fun e W' => ∃ v, e = .returned v ∧ s.post enc C.prog fn apart fresh handsOn again W args v W') :
    ReturnsInHanded a C os f .any (fun w args => (s.pre enc C.prog fn conds apart w args ∧ X w args) ∧ sizedMet enc C.prog fn (OpenSpec.ofChange s) apart w args) (s.post enc C.prog fn apart fresh handsOn again) := by
  refine returnsInHanded_of_calls own started noInit witness ?_
  intro w tape i _ hsh _ hok hpre _
  obtain ⟨_, _, _, fn', hfn', _, _, _, _, hval⟩ := hok
  obtain rfl : fn' = fn := Option.some.inj (hfn'.symm.trans hfn)
  obtain ⟨⟨⟨ds, gs, before, hw, _⟩, hx⟩, _⟩ := hpre
  refine (contract (w.forCall tape i) w.heap.size i.args ds gs before hval (DataW.Whole.of_heap (w' := w.forCall tape i) (by rfl) hw) (hX _ _ _ (by rfl) hx) hsh).mono fun e W' ⟨v, he, hp⟩ => ?_
  subst he
  exact ChangeSpec.post_blind hp
end
theorem laid_acc : (Rows.laid_unicode_utf8_acceptRanges : DataW Unit) = Lib.acceptData := by kernel_rfl
theorem laid_first : Rows.laid_unicode_utf8_first = Lib.firstData := by kernel_rfl
theorem met_BeaconsKnown {W : World} (h : laidMetH Tryz.prog Rows.beaconsKnownRow.laid W) (hsh : W.ShapedOpen Tryz.prog) : U8T W ∧ MxT W := by
  refine ⟨?_, cell_of_shapedOpen_int (zero := #[.int .i64 0]) (t := 3) hsh (of_decide_eq_true (by kernel_rfl)) (by kernel_rfl) rfl (by kernel_rfl) (by kernel_rfl) Tryz.underlying3⟩
  rw [MakeChecks.laidMetH_plain _ _ _ (by kernel_rfl)] at h
  have h1 := Lib.laidMet.reads h (.head _)
  have h2 := Lib.laidMet.reads h (.tail _ (.head _))
  rw [laid_acc] at h1
  rw [laid_first] at h2
  exact utf8Tabs_of_readsT (U8Types.of196 Tryz.laysValid) ⟨by kernel_rfl, by kernel_rfl, by kernel_rfl, by kernel_rfl, by kernel_rfl, by kernel_rfl, by kernel_rfl⟩ h2 h1

theorem own_BeaconsKnown : ownKnob Tryz.prog.godebug = none := by kernel_rfl
theorem laidOut_BeaconsKnown : laidOutB Tryz.prog = true := by kernel_rfl
set_option maxRecDepth 100000 in
theorem lifted_BeaconsKnown (os : Os) (started : os.Started) (H : Type) (enc : TypeId × Value → H) :
    ReturnsInHanded {} Tryz.checked os 5 .any (fun w args => (Rows.beaconsKnownSpec.pre enc Tryz.prog Tryz.f5 [] false w args ∧ laidMetH Tryz.prog Rows.beaconsKnownRow.laid w) ∧ sizedMet enc Tryz.prog Tryz.f5 (OpenSpec.ofChange Rows.beaconsKnownSpec) false w args) (Rows.beaconsKnownSpec.post enc Tryz.prog Tryz.f5 false true false false) := by
  refine rih_shape (C := Tryz.checked) (X := fun w _ => laidMetH Tryz.prog Rows.beaconsKnownRow.laid w) (fun _ _ _ hh h => h.of_heap hh) own_BeaconsKnown started (by kernel_rfl) Tryz.func5
    (ChangeSpec.witness_shaped (enc := enc) (C := Tryz.checked) (os := os) (X := fun w _ => laidMetH Tryz.prog Rows.beaconsKnownRow.laid w) false (World.laidAll Tryz.prog os Rows.beaconsKnownRow.laid) #[.slice none 0 0] 8 (World.laidAll_os _ _ _) (World.shaped_of_ZipB (by kernel_rfl) (by kernel_rfl)) (by kernel_rfl) (by kernel_rfl) (by kernel_rfl)
      (by rw [MakeChecks.laidMetH_plain _ _ _ (by kernel_rfl)]; exact laidMet_laidAll _ (by kernel_rfl) (by kernel_rfl))) ?_
  intro W base args ds gs before hval0 hW hL hsh
  have hval : ∀ (j : Nat) t v, Tryz.f5.params[j]? = some t → args[j]? = some v → Value.okWide Tryz.prog W .any base t v := hval0
  have hW' := hW
  obtain ⟨p, q, hA0, hV, rfl, hfz, hnd⟩ := hW
  have hA : DataW.TrodAll enc Tryz.prog W 0 (fun _ => true) true Tryz.f5.params.toList args.toList ds p := hA0
  rw [Tryz.params5] at hA hval
  obtain ⟨v0, vs0, d0, ds0, p0, q0, hargs, rfl, rfl, h0, r0⟩ := trodAll_cons hA
  obtain ⟨rfl, rfl, rfl⟩ := trodAll_nil r0
  obtain rfl : args = #[v0] := by cases args; simp_all
  obtain ⟨rfl, rfl⟩ := trodVars_none hV
  obtain ⟨a0, len0, cap0, rfl⟩ := okWide_slice Tryz.underlying22 (hval 0 22 v0 rfl rfl)
  have k0 := h0
  have lt0 : ∀ x ∈ p0, x.block < W.heap.size := by obtain ⟨m, hm⟩ := k0; exact DataW.trod_lt m _ _ _ hm
  obtain ⟨z0, w0⟩ : ∃ zs, IsRow .i64 W a0 len0 cap0 zs := by
    obtain ⟨fuel, hf⟩ := h0
    rcases open_ints Tryz.underlying22 Tryz.underlying3 (by kernel_rfl) hf with ⟨hcs, _⟩ | ⟨x, l, c, zs, hcs, _, hl, hm, hz, _, hcell, hwz⟩
    · simp [Value.cells] at hcs
      obtain ⟨rfl, rfl, rfl⟩ := hcs
      exact ⟨[], .inl ⟨rfl, rfl, rfl, rfl⟩⟩
    · simp [Value.cells] at hcs
      obtain ⟨rfl, rfl, rfl⟩ := hcs
      exact ⟨zs, .inr ⟨_, rfl, hl, hm, by simpa using hz, hcell, hwz⟩⟩
  clear hA0 hval0
  refine (walk_BeaconsKnown a0 len0 cap0 z0 W w0 (met_BeaconsKnown hL hsh)).mono fun e W' ⟨he, bel⟩ => ?_
  subst he
  exact ⟨_, rfl, _, _, _, [], _, [], hW', trodAll_mk1 (shut_bool Tryz.underlying4 _), (trodAll_cons_mk (Below.trod laidOut_BeaconsKnown (by kernel_rfl) (of_decide_eq_true (by kernel_rfl)) k0 bel lt0) trodAll_mk0), rfl, bel.frame _, fun h => by cases h⟩

theorem over_BeaconsKnown : Rows.beaconsKnownRow.holds Tryz.pinned (OpenSpec.ofChange Rows.beaconsKnownSpec) :=
  OpenClaim.holds_of_wide 5 Tryz.f5 rfl rfl rfl rfl rfl rfl rfl ⟨rfl, rfl, rfl, rfl, rfl⟩ rfl rfl rfl rfl rfl (by kernel_rfl) Tryz.func5 (by kernel_rfl)
    (of_decide_eq_true (by kernel_rfl)) (by unfold Func.isWrapper; first | (rw [if_pos (by decide +kernel)]; kernel_rfl) | (rw [if_neg (by decide +kernel)]; exact ⟨rfl, rfl⟩))
    (fun os started H enc _ => lifted_BeaconsKnown os started H enc)

theorem proved_BeaconsKnown : Rows.BeaconsKnownCardSaid :=
  Claim7.holds_tied_plain_at .later [] [.data, .pinned] true Rows.beaconsKnownCard.stood.harness true
    over_BeaconsKnown (fun _ h => by cases h) (by kernel_rfl) (fun _ h => by cases h) beaconsKnown_row_tie rfl ⟨rfl, rfl⟩ (by kernel_rfl) rfl
    (fun f fn hf hfn => by
      obtain rfl : f = 5 := Option.some.inj ((show Tryz.prog.funcNamed Rows.beaconsKnownRow.func = some 5 by kernel_rfl).symm.trans hf) |>.symm
      obtain rfl : fn = Tryz.f5 := (Option.some.inj (Tryz.func5.symm.trans hfn)).symm
      exact ⟨by kernel_rfl, fun j t ht => by
        rw [Tryz.params5] at ht
        have h3 : t = 22 := by
          rcases j with _ | j
          · simpa using ht.symm
          · simp at ht
        subst h3
        exact (show Tryz.prog.wantsStandIn 22 = false by kernel_rfl)⟩)
    (by kernel_rfl)
end Go.Proofs.YtgogiljplnninaaGreatDoor


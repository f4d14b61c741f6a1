/- The law CallsForwarded: CheckForwards, Chain and Circles are as specified for all forwards, lines and states. Conditions: none beside the row's own. -/
import Derived.Test.YtpjheibkacbbcaaGreatDoorBun1
import Derived.Test.YtpjheibkacbbcaaGreatDoorGenPl3
import Derived.Test.YtpjheibkacbbcaaGreatDoorGenFw
import Derived.Test.YtpjheibkacbbcaaGreatDoorCf2
import Derived.Test.YtpjheibkacbbcaaGreatDoorCf3
import Derived.Test.YtpjheibkacbbcaaGreatDoorCf6
import Derived.Test.YtpjheibkacbbcaaGreatDoorCf8
import Derived.Test.YtpjheibkacbbcaaGreatDoorBun7
import Derived.Test.YtpjheibkacbbcaaGreatDoorPlan5
import Derived.Test.YtpjheibkacbbcaaGreatDoorBun6
import Derived.Test.YtpjheibkacbbcaaGreatDoorBun2
import Derived.Test.YtpjheibkacbbcaaGreatDoorBun4
import Derived.Test.YtpjheibkacbbcaaGreatDoorTie
import Derived.Test.YtpjheibkacbbcaaGreatDoorCards
import Derived.Test.YtpjheibkacbbcaaGreatDoorCfJ
import Derived.ProofKit
import Derived.Lay
import Derived.OpenShut
import Derived.Stop.Joined
import Derived.SevenTiedAt
import Derived.LaidMore
import Derived.MakeChecks
import Derived.LaidHandle
import Derived.Deep.CutBlock
namespace Go.Proofs.YtpjheibkacbbcaaGreatDoor
open Go.ChangeShapes Go.WideShapes Go.ChangeAt Go.RowKit

theorem chV_no {p : PlV} {LB : Bool} {l : List FwV} {line : ByteArray} {t : Int} {sts : List PrV} (h : chP p LB l ≠ 0) : chV p LB l line t sts = ([], chP p LB l) := if_neg h
theorem chV_bad {p : PlV} {LB : Bool} {l : List FwV} {line : ByteArray} {t : Int} {sts : List PrV} (h : chP p LB l = 0) (h1 : chA line t sts ≠ 0) : chV p LB l line t sts = ([], chA line t sts) := (if_pos h).trans (if_neg h1)
theorem chV_yes {p : PlV} {LB : Bool} {l : List FwV} {line : ByteArray} {t : Int} {sts : List PrV} (h : chP p LB l = 0) (h1 : chA line t sts = 0) : chV p LB l line t sts = chn (nxF p.hours l t sts) 9 [line] line := (if_pos h).trans (if_pos h1)
theorem cirV_no {p : PlV} {LB : Bool} {l : List FwV} (h : chP p LB l ≠ 0) : cirV p LB l = ([], chP p LB l) := if_neg h
theorem cirV_yes {p : PlV} {LB : Bool} {l : List FwV} (h : chP p LB l = 0) : cirV p LB l = (dedS (srtS ((l.filter (cirF l)).map (·.line))), 0) := if_pos h
theorem chA_law (line : ByteArray) (t : Int) (sts : List PrV) : chA line t sts = firstE [if (!keyOk (nb line)) = true then 5 else 0, momF t, stE sts] := by
  unfold chA momF
  rw [firstE_cons, firstE_cons, firstE_cons, firstE_nil]
  have h1 : (if stE sts = 0 then (0 : Int) else stE sts) = stE sts := by split <;> omega
  rw [h1]
  cases keyOk (nb line) <;> cases momB t <;> simp
theorem chA_zero {line : ByteArray} {t : Int} {sts : List PrV} (h : chA line t sts = 0) : -1 ≤ t ∧ t ≤ 345686400000 := by
  unfold chA at h
  by_cases h1 : keyOk (nb line) = true
  · rw [if_pos h1] at h
    by_cases h3 : momB t = true
    · unfold momB inB at h3
      simp only [Bool.and_eq_true, decide_eq_true_eq] at h3
      omega
    · rw [if_neg h3] at h; exact absurd h (by decide)
  · rw [if_neg h1] at h; exact absurd h (by decide)
/-- The error of Chain is the first of the four. -/
theorem chn_len (nx : ByteArray → Option ByteArray) : ∀ (m : Nat) (out : List ByteArray) (line : ByteArray), (chn nx m out line).1.length ≤ out.length + m
  | 0, out, line => by
    cases h : nx line with
    | none => rw [chn_end h]; exact Nat.le_add_right _ _
    | some t =>
      cases h1 : memS out t
      · rw [chn_large h h1]; exact Nat.zero_le _
      · rw [chn_loop h h1]; exact Nat.zero_le _
  | m + 1, out, line => by
    cases h : nx line with
    | none => rw [chn_end h]; exact Nat.le_add_right _ _
    | some t =>
      cases h1 : memS out t
      · rw [chn_more h h1]
        have h2 := chn_len nx m (out ++ [t]) t
        rw [List.length_append, List.length_singleton] at h2
        omega
      · rw [chn_loop h h1]; exact Nat.zero_le _
theorem dedS_len (l : List ByteArray) : (dedS l).length ≤ l.length := by
  unfold dedS
  rw [List.length_map]
  refine Nat.le_trans ?_ (Nat.le_of_eq (show (bytesS l).length = l.length by unfold bytesS; rw [List.length_map]))
  unfold Lib.compact Lib.compactUpTo
  rw [List.length_map]
  exact Nat.le_trans (List.length_filter_le _ _) (Nat.le_of_eq List.length_range)
theorem cirV_e (p : PlV) (LB : Bool) (l : List FwV) : (cirV p LB l).2 = chP p LB l := by
  by_cases h : chP p LB l = 0
  · rw [cirV_yes h, h]
  · rw [cirV_no h]
set_option maxRecDepth 100000 in
set_option maxHeartbeats 8000000 in
theorem walk_CallsForwarded (a0 : Option Addr) (len cap : Nat) (zs : List Int) (W : World) (h : IsRow .i64 W a0 len cap zs) (ht : DbT W) :
    Calls Tryz.prog 5 #[.slice a0 len cap] W (fun e w' => e = .returned (.bool true) ∧ Below W.heap.size W w') := by
  have hs := str_new h
  have hpos := ht.pos
  obtain ⟨sb, hsb⟩ : ∃ sb, W.heap.size = sb := ⟨_, rfl⟩
  have HG := Lib.hid (show W.grownBy (W.alloc (.cells #[.slice a0 len cap, .int .i64 0] 25)) (some sb) from gr_alloc (gr_refl _ _) _)
  have HT := Lib.hid (ht.grown HG.out (by rw [← hsb]; intro e; injection e with e; omega))
  rw [hsb] at hs
  have hlt := hs.lt
  have HS := Lib.hid hs
  have HSB := Lib.hid hsb
  have hne : (some sb) ≠ some 1 := by rw [← hsb]; intro e; injection e with e; omega
  have HNE := Lib.hid hne
  clear h hs ht hne
  go_enter Tryz.func5, Tryz.ntmps5
  go_wp2_with fail
  refine (plan_any sb 0 1 _ HS.out (by omega) (by omega)).mono ?_
  rintro e w1 ⟨v1, rfl, ⟨p, rfl, hpl, hcn, hhn⟩, hs1, hg1⟩
  obtain ⟨lo, hlo⟩ : ∃ lo, (W.alloc (.cells #[.slice a0 len cap, .int .i64 0] 25)).heap.size = lo := ⟨_, rfl⟩
  rw [hlo] at hpl
  have zlo : sb < lo := by have := HS.out.lt; omega
  have z1 := hg1.size
  rw [hlo] at z1
  have HPL := Lib.hid hpl
  replace HT := Lib.hid (HT.out.grown hg1 HNE.out)
  replace HG := Lib.hid (gr_same HG.out hg1)
  replace HS := Lib.hid hs1
  clear hs1 hg1 hpl hlo
  obtain ⟨LB, hLB⟩ : ∃ LB : Bool, LB = true ↔ Loops p.ctxs := by
    by_cases c : Loops p.ctxs
    · exact ⟨true, by simp [c]⟩
    · exact ⟨false, by simp [c]⟩
  have HLB := Lib.hid hLB
  clear hLB
  go_wp2_with fail
  refine (forwards_any sb _ _ HS.out (by omega)).mono ?_
  rintro e w2 ⟨v2, rfl, ⟨A, n, c, l, rfl, hfw, hfo, hn7⟩, hs2, hg2⟩
  have HFW := Lib.hid (show Fws w2 lo A n c l from ⟨hfw.recs.lower (by omega), hfo⟩)
  clear hfw hfo
  have z2 := hg2.size; (try simp at z2)
  replace HPL := Lib.hid (HPL.out.grown hg2 (fun g e => by injection e with e; omega))
  replace HT := Lib.hid (HT.out.grown hg2 HNE.out)
  replace HG := Lib.hid (gr_same HG.out hg2)
  replace HS := Lib.hid hs2
  clear hs2 hg2
  go_wp2_with fail
  refine (some_new (n := 6) sb _ 2 _ HS.out (by omega) (by simp) (by
    repeat (first | exact StrsOk.nil _ | refine StrsOk.cons (by decide) ?_)) rfl (by omega) (by omega)).mono ?_
  rintro e w3 ⟨v3, rfl, ⟨line, rfl, hlb⟩, hs3, hg3⟩
  have z3 := hg3.size; (try simp at z3)
  replace HPL := Lib.hid (HPL.out.grown hg3 (fun g e => by injection e with e; omega))
  replace HFW := Lib.hid (HFW.out.grown hg3 (fun g e => by injection e with e; omega))
  replace HT := Lib.hid (HT.out.grown hg3 HNE.out)
  replace HG := Lib.hid (gr_same HG.out hg3)
  replace HS := Lib.hid hs3
  clear hs3 hg3
  go_wp2_with fail
  refine (moment_any sb _ _ HS.out (by omega)).mono ?_
  rintro e w4 ⟨v4, rfl, ⟨at_, rfl, at0, at1⟩, hs4, hg4⟩
  have z4 := hg4.size; (try simp at z4)
  replace HPL := Lib.hid (HPL.out.grown hg4 (fun g e => by injection e with e; omega))
  replace HFW := Lib.hid (HFW.out.grown hg4 (fun g e => by injection e with e; omega))
  replace HT := Lib.hid (HT.out.grown hg4 HNE.out)
  replace HG := Lib.hid (gr_same HG.out hg4)
  replace HS := Lib.hid hs4
  clear hs4 hg4
  go_wp2_with fail
  refine (states_any sb _ _ HS.out (by omega)).mono ?_
  rintro e w5 ⟨v5, rfl, ⟨B, m, d, sts, rfl, hst, hso, hm5⟩, hs5, hg5⟩
  have HST := Lib.hid (show Prs w5 lo B m d sts from ⟨hst.recs.lower (by omega), hso⟩)
  clear hst hso
  have z5 := hg5.size; (try simp at z5)
  replace HPL := Lib.hid (HPL.out.grown hg5 (fun g e => by injection e with e; omega))
  replace HFW := Lib.hid (HFW.out.grown hg5 (fun g e => by injection e with e; omega))
  replace HT := Lib.hid (HT.out.grown hg5 HNE.out)
  replace HG := Lib.hid (gr_same HG.out hg5)
  replace HS := Lib.hid hs5
  clear hs5 hg5
  go_upto_region 3 with (fail)
  obtain ⟨w6, hw6⟩ : ∃ w6, w5.alloc (.cells #[.slice p.cA p.cn p.cc, .slice p.hA p.hn p.hc] 48) = w6 := ⟨_, rfl⟩
  rw [hw6]
  obtain ⟨pb, hpb⟩ : ∃ pb, w5.heap.size = pb := ⟨_, rfl⟩
  rw [hpb]
  have HPB := Lib.hid (show Blk w6 pb 48 #[.slice p.cA p.cn p.cc, .slice p.hA p.hn p.hc] by rw [← hw6, ← hpb]; exact Blk.new _ _ _)
  have hg6 : w5.grownBy w6 none := by rw [← hw6]; exact gr_alloc (gr_refl _ _) _
  replace HT := Lib.hid (HT.out.grown hg6 (by simp))
  replace HG := Lib.hid (gr_none HG.out hg6)
  have z6 := hg6.size; (try simp at z6)
  replace HPL := Lib.hid (HPL.out.grown hg6 (fun g e => by cases e))
  replace HFW := Lib.hid (HFW.out.grown hg6 (fun g e => by cases e))
  replace HST := Lib.hid (HST.out.grown hg6 (fun g e => by cases e))
  clear hg6
  clear hw6 hpb HS
  go_wp2_with (first
    | (refine wpl_load_all Tryz.plT rfl _ rfl _ rfl _ _ HPB.out rfl ?_)
    | fail)
  refine (chain_any lo p LB A n c l line at_ B m d sts _ HPL.out HLB.out HFW.out (by omega) HST.out (by omega) (by omega)).mono ?_
  rintro e w7 ⟨A1, n1, c1, rfl, hown, hg7⟩
  obtain ⟨⟨C, E⟩, hCV⟩ : ∃ V, chV p LB l line at_ sts = V := ⟨_, rfl⟩
  rw [hCV] at hown ⊢
  have HC := Lib.hid hown.recs; have HCV := Lib.hid hCV
  have HCL := Lib.hid hown.1.len
  clear hown hCV
  dsimp only
  replace HPB := Lib.hid (HPB.out.grown hg7 (by simp))
  replace HT := Lib.hid (HT.out.grown hg7 (by simp))
  replace HG := Lib.hid (gr_none HG.out hg7)
  have z7 := hg7.size; (try simp at z7)
  replace HPL := Lib.hid (HPL.out.grown hg7 (fun g e => by cases e))
  replace HFW := Lib.hid (HFW.out.grown hg7 (fun g e => by cases e))
  replace HST := Lib.hid (HST.out.grown hg7 (fun g e => by cases e))
  clear hg7
  go_wp2_with (first
    | (refine wpl_load_all Tryz.plT rfl _ rfl _ rfl _ _ HPB.out rfl ?_)
    | fail)
  refine (circles_any lo p LB A n c l _ HPL.out HLB.out HFW.out (by omega)).mono ?_
  rintro e w8 ⟨A2, n2, c2, rfl, hown, hg8⟩
  obtain ⟨CH, hCH⟩ : ∃ CH, chP p LB l = CH := ⟨_, rfl⟩
  have HCH := Lib.hid hCH
  obtain ⟨O, hOV⟩ : ∃ O, cirV p LB l = (O, CH) := ⟨(cirV p LB l).1, by rw [← hCH]; exact Prod.ext rfl (cirV_e p LB l)⟩
  rw [hOV] at hown ⊢
  have HO := Lib.hid hown.recs; have HOV := Lib.hid hOV
  clear hown hOV hCH
  dsimp only
  replace HPB := Lib.hid (HPB.out.grown hg8 (by simp))
  replace HT := Lib.hid (HT.out.grown hg8 (by simp))
  replace HG := Lib.hid (gr_none HG.out hg8)
  have z8 := hg8.size; (try simp at z8)
  replace HPL := Lib.hid (HPL.out.grown hg8 (fun g e => by cases e))
  replace HFW := Lib.hid (HFW.out.grown hg8 (fun g e => by cases e))
  replace HST := Lib.hid (HST.out.grown hg8 (fun g e => by cases e))
  replace HC := Lib.hid (HC.out.grown hg8 (fun g e => by cases e))
  clear hg8
  obtain ⟨K, hK⟩ : ∃ K, keyOk (nb line) = K := ⟨_, rfl⟩
  obtain ⟨K5, hK5⟩ : ∃ K5 : Int, (if (!K) = true then 5 else 0) = K5 := ⟨_, rfl⟩
  obtain ⟨M, hM⟩ : ∃ M, momF at_ = M := ⟨_, rfl⟩
  obtain ⟨SE, hSE⟩ : ∃ SE, stE sts = SE := ⟨_, rfl⟩
  have HK := Lib.hid hK; have HK5 := Lib.hid hK5; have HM := Lib.hid hM; have HSE := Lib.hid hSE
  clear hK hK5 hM hSE
  obtain ⟨D, hD⟩ : ∃ D, firstE [CH, K5, M, SE] = D := ⟨_, rfl⟩
  have HEE := Lib.hid hD
  clear hD
  go_wp2_with (first
    | (refine wpl_load_all Tryz.plT rfl _ rfl _ rfl _ _ HPB.out rfl ?_)
    | fail)
  refine (planFault_any lo p LB _ HPL.out HLB.out).mono ?_
  rintro e w9 ⟨rfl, hg9⟩
  obtain ⟨F, hF⟩ : ∃ F, plE p LB = F := ⟨_, rfl⟩
  have HF := Lib.hid hF
  rw [hF]
  clear hF
  replace HPB := Lib.hid (HPB.out.grown hg9 (by simp))
  replace HT := Lib.hid (HT.out.grown hg9 (by simp))
  replace HG := Lib.hid (gr_none HG.out hg9)
  have z9 := hg9.size; (try simp at z9)
  replace HPL := Lib.hid (HPL.out.grown hg9 (fun g e => by cases e))
  replace HFW := Lib.hid (HFW.out.grown hg9 (fun g e => by cases e))
  replace HST := Lib.hid (HST.out.grown hg9 (fun g e => by cases e))
  replace HC := Lib.hid (HC.out.grown hg9 (fun g e => by cases e))
  replace HO := Lib.hid (HO.out.grown hg9 (fun g e => by cases e))
  clear hg9
  by_cases f0 : F = 0
  · have df0 : (F == 0) = true := by simpa using f0
    have HFE := Lib.hid (show fwE p.hours l = CH from by rw [← HCH.out, chP_yes (HF.out.trans f0)])
    clear f0
    go_wp2_with (first
      | (refine wpl_load_all Tryz.plT rfl _ rfl _ rfl _ _ HPB.out rfl ?_)
      | fail)
    refine (forwardsFault_any lo p A n c l _ HPL.out HFW.out (by omega)).mono ?_
    rintro e w10 ⟨rfl, hg10⟩
    rw [HFE.out]
    replace HPB := Lib.hid (HPB.out.grown hg10 (by simp))
    replace HT := Lib.hid (HT.out.grown hg10 (by simp))
    replace HG := Lib.hid (gr_none HG.out hg10)
    have z10 := hg10.size; (try simp at z10)
    replace HPL := Lib.hid (HPL.out.grown hg10 (fun g e => by cases e))
    replace HFW := Lib.hid (HFW.out.grown hg10 (fun g e => by cases e))
    replace HST := Lib.hid (HST.out.grown hg10 (fun g e => by cases e))
    replace HC := Lib.hid (HC.out.grown hg10 (fun g e => by cases e))
    replace HO := Lib.hid (HO.out.grown hg10 (fun g e => by cases e))
    clear hg10
    by_cases c0 : CH = 0
    · obtain ⟨hp0, hfr⟩ := chP_right (HCH.out.trans c0)
      have hpr := pl_right (LB := LB) HPL.out.ctxs.len hp0
      have HHR := Lib.hid (show ∀ a ∈ p.hours, HrRight a from fun a ha => right_of (HPL.out.hours.2 a ha).2.1.len (HPL.out.hours.2 a ha).2.2.len (hpr.hours a ha)); have HFR := Lib.hid hfr
      have HON := Lib.hid (show dedS (srtS ((l.filter (cirF l)).map (·.line))) = O from by have h := HOV.out; rw [cirV_yes (by rw [HCH.out]; exact c0)] at h; injection h)
      clear hp0 hfr hpr
      have dc0 : (CH == 0) = true := by simpa using c0
      go_wp2_with (first
        | (refine wpl_load_all Tryz.plT rfl _ rfl _ rfl _ _ HPB.out rfl ?_)
        | fail)
      refine (checkForwards_any lo p LB A n c l _ HPL.out HLB.out HFW.out (by omega)).mono ?_
      rintro e w11 ⟨rfl, hg11⟩
      rw [HCH.out]
      replace HPB := Lib.hid (HPB.out.grown hg11 (by simp))
      replace HT := Lib.hid (HT.out.grown hg11 (by simp))
      replace HG := Lib.hid (gr_none HG.out hg11)
      have z11 := hg11.size; (try simp at z11)
      replace HPL := Lib.hid (HPL.out.grown hg11 (fun g e => by cases e))
      replace HFW := Lib.hid (HFW.out.grown hg11 (fun g e => by cases e))
      replace HST := Lib.hid (HST.out.grown hg11 (fun g e => by cases e))
      replace HC := Lib.hid (HC.out.grown hg11 (fun g e => by cases e))
      replace HO := Lib.hid (HO.out.grown hg11 (fun g e => by cases e))
      clear hg11
      have q0 : (CH != CH) = false := by simp
      go_wp2_with fail
      refine (circlesOf_any lo A n c l _ HFW.out (by omega)).mono ?_
      rintro e w12 ⟨A3, n3, c3, rfl, hown3, hg12⟩
      rw [HON.out] at hown3
      have HO2 := Lib.hid hown3.recs
      clear hown3
      replace HPB := Lib.hid (HPB.out.grown hg12 (by simp))
      replace HT := Lib.hid (HT.out.grown hg12 (by simp))
      replace HG := Lib.hid (gr_none HG.out hg12)
      have z12 := hg12.size; (try simp at z12)
      replace HPL := Lib.hid (HPL.out.grown hg12 (fun g e => by cases e))
      replace HFW := Lib.hid (HFW.out.grown hg12 (fun g e => by cases e))
      replace HST := Lib.hid (HST.out.grown hg12 (fun g e => by cases e))
      replace HC := Lib.hid (HC.out.grown hg12 (fun g e => by cases e))
      replace HO := Lib.hid (HO.out.grown hg12 (fun g e => by cases e))
      clear hg12
      have HEE0 := Lib.hid (show firstE [0, K5, M, SE] = D from by have h := HEE.out; rw [c0] at h; exact h)
      go_wp2_with fail
      refine (keyRefR_any line _ (by omega)).mono ?_
      rintro e w20 ⟨rfl, hg20⟩
      rw [HK.out]
      replace HPB := Lib.hid (HPB.out.grown hg20 (by simp))
      replace HT := Lib.hid (HT.out.grown hg20 (by simp))
      replace HG := Lib.hid (gr_none HG.out hg20)
      have z20 := hg20.size; (try simp at z20)
      replace HPL := Lib.hid (HPL.out.grown hg20 (fun g e => by cases e))
      replace HFW := Lib.hid (HFW.out.grown hg20 (fun g e => by cases e))
      replace HST := Lib.hid (HST.out.grown hg20 (fun g e => by cases e))
      replace HC := Lib.hid (HC.out.grown hg20 (fun g e => by cases e))
      replace HO := Lib.hid (HO.out.grown hg20 (fun g e => by cases e))
      replace HO2 := Lib.hid (HO2.out.grown hg20 (fun g e => by cases e))
      clear hg20
      go_wp2_with fail
      refine same_calls (whenF_any (!K) 5 _) ?_
      rw [HK5.out]
      go_wp2_with fail
      refine same_calls (momF_any at_ _) ?_
      rw [HM.out]
      go_wp2_with (first
        | (refine wpl_load_all Tryz.plT rfl _ rfl _ rfl _ _ HPB.out rfl ?_)
        | fail)
      refine (statesFault_any lo B m d sts _ HST.out (by omega)).mono ?_
      rintro e w21 ⟨rfl, hg21⟩
      rw [HSE.out]
      replace HPB := Lib.hid (HPB.out.grown hg21 (by simp))
      replace HT := Lib.hid (HT.out.grown hg21 (by simp))
      replace HG := Lib.hid (gr_none HG.out hg21)
      have z21 := hg21.size; (try simp at z21)
      replace HPL := Lib.hid (HPL.out.grown hg21 (fun g e => by cases e))
      replace HFW := Lib.hid (HFW.out.grown hg21 (fun g e => by cases e))
      replace HST := Lib.hid (HST.out.grown hg21 (fun g e => by cases e))
      replace HC := Lib.hid (HC.out.grown hg21 (fun g e => by cases e))
      replace HO := Lib.hid (HO.out.grown hg21 (fun g e => by cases e))
      replace HO2 := Lib.hid (HO2.out.grown hg21 (fun g e => by cases e))
      clear hg21
      go_wp2_with fail
      refine same_calls (errs_run 0 _ 4 4 [0, K5, M, SE] _ (by exact (Reads.blk (Blk.new _ _ _) 1 4 rfl).lower (Nat.zero_le _)) (by omega)) ?_
      rw [HEE0.out]
      obtain ⟨w22, hw22⟩ : ∃ w22, w21.alloc (.cells #[.int .i64 0, .int .i64 K5, .int .i64 M, .int .i64 SE] 38) = w22 := ⟨_, rfl⟩
      rw [hw22]
      have hg22 : w21.grownBy w22 none := by rw [← hw22]; exact gr_alloc (gr_refl _ _) _
      replace HPB := Lib.hid (HPB.out.grown hg22 (by simp))
      replace HT := Lib.hid (HT.out.grown hg22 (by simp))
      replace HG := Lib.hid (gr_none HG.out hg22)
      have z22 := hg22.size; (try simp at z22)
      replace HPL := Lib.hid (HPL.out.grown hg22 (fun g e => by cases e))
      replace HFW := Lib.hid (HFW.out.grown hg22 (fun g e => by cases e))
      replace HST := Lib.hid (HST.out.grown hg22 (fun g e => by cases e))
      replace HC := Lib.hid (HC.out.grown hg22 (fun g e => by cases e))
      replace HO := Lib.hid (HO.out.grown hg22 (fun g e => by cases e))
      replace HO2 := Lib.hid (HO2.out.grown hg22 (fun g e => by cases e))
      clear hg22
      clear hw22
      have HDA := Lib.hid (show chA line at_ sts = D from by rw [chA_law, HK.out, HK5.out, HM.out, HSE.out]; have h := HEE.out; rw [firstE_cons, if_pos c0] at h; exact h)
      by_cases e0 : D = 0
      · have de0 : (D == 0) = true := by simpa using e0
        have qe : (E == E) = true := by simp
        have HA0 := Lib.hid (show chA line at_ sts = 0 from HDA.out.trans e0)
        have HM0 := Lib.hid (chA_zero HA0.out)
        have HCN := Lib.hid (show chn (nxF p.hours l at_ sts) 9 [line] line = (C, E) from by have h := HCV.out; rw [chV_yes (by rw [HCH.out]; exact c0) HA0.out] at h; exact h)
        go_wp2_with (first
          | (refine wpl_load_all Tryz.plT rfl _ rfl _ rfl _ _ HPB.out rfl ?_)
          | fail)
        refine (chainOf_any lo p A n c l line at_ B m d sts _ HPL.out HHR.out HFW.out HFR.out HST.out (by omega) (by omega) HM0.out.1 HM0.out.2).mono ?_
        rintro e w23 ⟨A4, n4, c4, rfl, hown4, hg23⟩
        rw [HCN.out] at hown4 ⊢
        have HC2 := Lib.hid hown4.recs
        clear hown4
        replace HPB := Lib.hid (HPB.out.grown hg23 (by simp))
        replace HT := Lib.hid (HT.out.grown hg23 (by simp))
        replace HG := Lib.hid (gr_none HG.out hg23)
        have z23 := hg23.size; (try simp at z23)
        replace HPL := Lib.hid (HPL.out.grown hg23 (fun g e => by cases e))
        replace HFW := Lib.hid (HFW.out.grown hg23 (fun g e => by cases e))
        replace HST := Lib.hid (HST.out.grown hg23 (fun g e => by cases e))
        replace HC := Lib.hid (HC.out.grown hg23 (fun g e => by cases e))
        replace HO := Lib.hid (HO.out.grown hg23 (fun g e => by cases e))
        replace HO2 := Lib.hid (HO2.out.grown hg23 (fun g e => by cases e))
        clear hg23
        dsimp only
        have zn1 : n1 ≤ 100 := by have h := chn_len (nxF p.hours l at_ sts) 9 [line] line; rw [HCN.out] at h; rw [← HC.out.2]; exact Nat.le_trans h (by show 1 + 9 ≤ 100; decide)
        have zn2 : n2 ≤ 100 := by rw [← HO.out.2, ← HON.out]; exact Nat.le_trans (dedS_len _) (by rw [srtS_len, List.length_map]; exact Nat.le_trans (List.length_filter_le _ _) (by rw [HFW.out.1.2]; omega))
        go_wp2_with fail
        refine (equalS_same _ _ A1 A4 n1 c1 n4 c4 C _ HC.out HC2.out (by omega)).mono ?_
        rintro e w25 ⟨rfl, k1, rfl⟩
        have hg25 : w23.grownBy (w23.drewN k1) none := gr_drewN (gr_refl _ _) k1
        replace HPB := Lib.hid (HPB.out.grown hg25 (by simp))
        replace HT := Lib.hid (HT.out.grown hg25 (by simp))
        replace HG := Lib.hid (gr_none HG.out hg25)
        have z25 := hg25.size; (try simp at z25)
        replace HPL := Lib.hid (HPL.out.grown hg25 (fun g e => by cases e))
        replace HFW := Lib.hid (HFW.out.grown hg25 (fun g e => by cases e))
        replace HST := Lib.hid (HST.out.grown hg25 (fun g e => by cases e))
        replace HC := Lib.hid (HC.out.grown hg25 (fun g e => by cases e))
        replace HO := Lib.hid (HO.out.grown hg25 (fun g e => by cases e))
        replace HO2 := Lib.hid (HO2.out.grown hg25 (fun g e => by cases e))
        clear hg25
        go_wp2_with fail
        refine (equalS_same _ _ A2 A3 n2 c2 n3 c3 O _ HO.out HO2.out (by omega)).mono ?_
        rintro e w26 ⟨rfl, k2, rfl⟩
        have hg26 : (w23.drewN k1).grownBy (w23.drewN (k1 + k2)) none := by rw [← World.drewN_drewN]; exact gr_drewN (gr_refl _ _) k2
        replace HPB := Lib.hid (HPB.out.grown hg26 (by simp))
        replace HT := Lib.hid (HT.out.grown hg26 (by simp))
        replace HG := Lib.hid (gr_none HG.out hg26)
        have z26 := hg26.size; (try simp at z26)
        replace HPL := Lib.hid (HPL.out.grown hg26 (fun g e => by cases e))
        replace HFW := Lib.hid (HFW.out.grown hg26 (fun g e => by cases e))
        replace HST := Lib.hid (HST.out.grown hg26 (fun g e => by cases e))
        clear hg26
        go_wp2_with fail
        refine (planned_true _ HT.out).mono ?_
        rintro e w29 ⟨rfl, hg29⟩
        have HGE := Lib.hid (gr_none HG.out hg29)
        clear hg29
        go_wp2_with fail
        go_ret
        refine ⟨rfl, ?_⟩
        have hfin := HGE.out
        rw [← HSB.out] at hfin
        exact below_of_gr hfin
      · have de0 : (D == 0) = false := by simpa using e0
        have HCB := Lib.hid (show (([], D) : List ByteArray × Int) = (C, E) from by have h := HCV.out; rw [chV_bad (by rw [HCH.out]; exact c0) (by rw [HDA.out]; exact e0), HDA.out] at h; exact h)
        have HCN := Lib.hid (show C = [] from by have h := HCB.out; injection h with h _; exact h.symm)
        have qe : (E == D) = true := by have h := HCB.out; injection h with _ h; rw [h]; simp
        have zn1 : n1 ≤ 100 := by rw [← HC.out.2, HCN.out]; exact Nat.zero_le _
        have zn2 : n2 ≤ 100 := by rw [← HO.out.2, ← HON.out]; exact Nat.le_trans (dedS_len _) (by rw [srtS_len, List.length_map]; exact Nat.le_trans (List.length_filter_le _ _) (by rw [HFW.out.1.2]; omega))
        go_wp2_with fail
        refine (equalS_same _ _ A1 none n1 c1 0 0 C _ HC.out (show Recs srow 1 _ 0 none 0 0 C by rw [HCN.out]; exact Recs.nil) (by omega)).mono ?_
        rintro e w25 ⟨rfl, k1, rfl⟩
        have hg25 : w22.grownBy (w22.drewN k1) none := gr_drewN (gr_refl _ _) k1
        replace HPB := Lib.hid (HPB.out.grown hg25 (by simp))
        replace HT := Lib.hid (HT.out.grown hg25 (by simp))
        replace HG := Lib.hid (gr_none HG.out hg25)
        have z25 := hg25.size; (try simp at z25)
        replace HPL := Lib.hid (HPL.out.grown hg25 (fun g e => by cases e))
        replace HFW := Lib.hid (HFW.out.grown hg25 (fun g e => by cases e))
        replace HST := Lib.hid (HST.out.grown hg25 (fun g e => by cases e))
        replace HC := Lib.hid (HC.out.grown hg25 (fun g e => by cases e))
        replace HO := Lib.hid (HO.out.grown hg25 (fun g e => by cases e))
        replace HO2 := Lib.hid (HO2.out.grown hg25 (fun g e => by cases e))
        clear hg25
        go_wp2_with fail
        refine (equalS_same _ _ A2 A3 n2 c2 n3 c3 O _ HO.out HO2.out (by omega)).mono ?_
        rintro e w26 ⟨rfl, k2, rfl⟩
        have hg26 : (w22.drewN k1).grownBy (w22.drewN (k1 + k2)) none := by rw [← World.drewN_drewN]; exact gr_drewN (gr_refl _ _) k2
        replace HPB := Lib.hid (HPB.out.grown hg26 (by simp))
        replace HT := Lib.hid (HT.out.grown hg26 (by simp))
        replace HG := Lib.hid (gr_none HG.out hg26)
        have z26 := hg26.size; (try simp at z26)
        replace HPL := Lib.hid (HPL.out.grown hg26 (fun g e => by cases e))
        replace HFW := Lib.hid (HFW.out.grown hg26 (fun g e => by cases e))
        replace HST := Lib.hid (HST.out.grown hg26 (fun g e => by cases e))
        clear hg26
        go_wp2_with fail
        refine (planned_true _ HT.out).mono ?_
        rintro e w29 ⟨rfl, hg29⟩
        have HGE := Lib.hid (gr_none HG.out hg29)
        clear hg29
        go_wp2_with fail
        go_ret
        refine ⟨rfl, ?_⟩
        have hfin := HGE.out
        rw [← HSB.out] at hfin
        exact below_of_gr hfin
    · have HCN := Lib.hid (show C = [] from by have h := HCV.out; rw [chV_no (by rw [HCH.out]; exact c0)] at h; injection h with h _; exact h.symm)
      have HON := Lib.hid (show O = [] from by have h := HOV.out; rw [cirV_no (by rw [HCH.out]; exact c0)] at h; injection h with h _; exact h.symm)
      have HDC := Lib.hid (show D = CH from by rw [← HEE.out, firstE_cons, if_neg c0])
      have HEC := Lib.hid (show E = CH from by have h := HCV.out; rw [chV_no (by rw [HCH.out]; exact c0)] at h; injection h with _ h; rw [← h]; exact HCH.out)
      have dc0 : (CH == 0) = false := by simpa using c0
      go_wp2_with (first
        | (refine wpl_load_all Tryz.plT rfl _ rfl _ rfl _ _ HPB.out rfl ?_)
        | fail)
      refine (checkForwards_any lo p LB A n c l _ HPL.out HLB.out HFW.out (by omega)).mono ?_
      rintro e w11 ⟨rfl, hg11⟩
      rw [HCH.out]
      replace HPB := Lib.hid (HPB.out.grown hg11 (by simp))
      replace HT := Lib.hid (HT.out.grown hg11 (by simp))
      replace HG := Lib.hid (gr_none HG.out hg11)
      have z11 := hg11.size; (try simp at z11)
      replace HPL := Lib.hid (HPL.out.grown hg11 (fun g e => by cases e))
      replace HFW := Lib.hid (HFW.out.grown hg11 (fun g e => by cases e))
      replace HST := Lib.hid (HST.out.grown hg11 (fun g e => by cases e))
      replace HC := Lib.hid (HC.out.grown hg11 (fun g e => by cases e))
      replace HO := Lib.hid (HO.out.grown hg11 (fun g e => by cases e))
      clear hg11
      have q0 : (CH != CH) = false := by simp
      go_wp2_with fail
      refine (keyRefR_any line _ (by omega)).mono ?_
      rintro e w20 ⟨rfl, hg20⟩
      rw [HK.out]
      replace HPB := Lib.hid (HPB.out.grown hg20 (by simp))
      replace HT := Lib.hid (HT.out.grown hg20 (by simp))
      replace HG := Lib.hid (gr_none HG.out hg20)
      have z20 := hg20.size; (try simp at z20)
      replace HPL := Lib.hid (HPL.out.grown hg20 (fun g e => by cases e))
      replace HFW := Lib.hid (HFW.out.grown hg20 (fun g e => by cases e))
      replace HST := Lib.hid (HST.out.grown hg20 (fun g e => by cases e))
      replace HC := Lib.hid (HC.out.grown hg20 (fun g e => by cases e))
      replace HO := Lib.hid (HO.out.grown hg20 (fun g e => by cases e))
      clear hg20
      go_wp2_with fail
      refine same_calls (whenF_any (!K) 5 _) ?_
      rw [HK5.out]
      go_wp2_with fail
      refine same_calls (momF_any at_ _) ?_
      rw [HM.out]
      go_wp2_with (first
        | (refine wpl_load_all Tryz.plT rfl _ rfl _ rfl _ _ HPB.out rfl ?_)
        | fail)
      refine (statesFault_any lo B m d sts _ HST.out (by omega)).mono ?_
      rintro e w21 ⟨rfl, hg21⟩
      rw [HSE.out]
      replace HPB := Lib.hid (HPB.out.grown hg21 (by simp))
      replace HT := Lib.hid (HT.out.grown hg21 (by simp))
      replace HG := Lib.hid (gr_none HG.out hg21)
      have z21 := hg21.size; (try simp at z21)
      replace HPL := Lib.hid (HPL.out.grown hg21 (fun g e => by cases e))
      replace HFW := Lib.hid (HFW.out.grown hg21 (fun g e => by cases e))
      replace HST := Lib.hid (HST.out.grown hg21 (fun g e => by cases e))
      replace HC := Lib.hid (HC.out.grown hg21 (fun g e => by cases e))
      replace HO := Lib.hid (HO.out.grown hg21 (fun g e => by cases e))
      clear hg21
      go_wp2_with fail
      refine same_calls (errs_run 0 _ 4 4 [CH, K5, M, SE] _ (by exact (Reads.blk (Blk.new _ _ _) 1 4 rfl).lower (Nat.zero_le _)) (by omega)) ?_
      rw [HEE.out]
      obtain ⟨w22, hw22⟩ : ∃ w22, w21.alloc (.cells #[.int .i64 CH, .int .i64 K5, .int .i64 M, .int .i64 SE] 38) = w22 := ⟨_, rfl⟩
      rw [hw22]
      have hg22 : w21.grownBy w22 none := by rw [← hw22]; exact gr_alloc (gr_refl _ _) _
      replace HPB := Lib.hid (HPB.out.grown hg22 (by simp))
      replace HT := Lib.hid (HT.out.grown hg22 (by simp))
      replace HG := Lib.hid (gr_none HG.out hg22)
      have z22 := hg22.size; (try simp at z22)
      replace HPL := Lib.hid (HPL.out.grown hg22 (fun g e => by cases e))
      replace HFW := Lib.hid (HFW.out.grown hg22 (fun g e => by cases e))
      replace HST := Lib.hid (HST.out.grown hg22 (fun g e => by cases e))
      replace HC := Lib.hid (HC.out.grown hg22 (fun g e => by cases e))
      replace HO := Lib.hid (HO.out.grown hg22 (fun g e => by cases e))
      clear hg22
      clear hw22
      have de0 : (D == 0) = false := by rw [HDC.out]; simpa using c0
      have qe : (E == D) = true := by rw [HDC.out, HEC.out]; simp
      have zn1 : n1 ≤ 100 := by rw [← HC.out.2, HCN.out]; exact Nat.zero_le _
      have zn2 : n2 ≤ 100 := by rw [← HO.out.2, HON.out]; exact Nat.zero_le _
      go_wp2_with fail
      refine (equalS_same _ _ A1 none n1 c1 0 0 C _ HC.out (show Recs srow 1 _ 0 none 0 0 C by rw [HCN.out]; exact Recs.nil) (by omega)).mono ?_
      rintro e w25 ⟨rfl, k1, rfl⟩
      have hg25 : w22.grownBy (w22.drewN k1) none := gr_drewN (gr_refl _ _) k1
      replace HPB := Lib.hid (HPB.out.grown hg25 (by simp))
      replace HT := Lib.hid (HT.out.grown hg25 (by simp))
      replace HG := Lib.hid (gr_none HG.out hg25)
      have z25 := hg25.size; (try simp at z25)
      replace HPL := Lib.hid (HPL.out.grown hg25 (fun g e => by cases e))
      replace HFW := Lib.hid (HFW.out.grown hg25 (fun g e => by cases e))
      replace HST := Lib.hid (HST.out.grown hg25 (fun g e => by cases e))
      replace HC := Lib.hid (HC.out.grown hg25 (fun g e => by cases e))
      replace HO := Lib.hid (HO.out.grown hg25 (fun g e => by cases e))
      clear hg25
      go_wp2_with fail
      refine (equalS_same _ _ A2 none n2 c2 0 0 O _ HO.out (show Recs srow 1 _ 0 none 0 0 O by rw [HON.out]; exact Recs.nil) (by omega)).mono ?_
      rintro e w26 ⟨rfl, k2, rfl⟩
      have hg26 : (w22.drewN k1).grownBy (w22.drewN (k1 + k2)) none := by rw [← World.drewN_drewN]; exact gr_drewN (gr_refl _ _) k2
      replace HPB := Lib.hid (HPB.out.grown hg26 (by simp))
      replace HT := Lib.hid (HT.out.grown hg26 (by simp))
      replace HG := Lib.hid (gr_none HG.out hg26)
      have z26 := hg26.size; (try simp at z26)
      replace HPL := Lib.hid (HPL.out.grown hg26 (fun g e => by cases e))
      replace HFW := Lib.hid (HFW.out.grown hg26 (fun g e => by cases e))
      replace HST := Lib.hid (HST.out.grown hg26 (fun g e => by cases e))
      clear hg26
      go_wp2_with fail
      refine (planned_true _ HT.out).mono ?_
      rintro e w29 ⟨rfl, hg29⟩
      have HGE := Lib.hid (gr_none HG.out hg29)
      clear hg29
      go_wp2_with fail
      go_ret
      refine ⟨rfl, ?_⟩
      have hfin := HGE.out
      rw [← HSB.out] at hfin
      exact below_of_gr hfin
  · have df0 : (F == 0) = false := by simpa using f0
    have hfc : F = CH := by rw [← HCH.out, ← HF.out]; exact (chP_no (by rw [HF.out]; exact f0)).symm
    rw [hfc] at f0 df0 ⊢
    have c0 := f0
    clear hfc f0 HF
    have HCN := Lib.hid (show C = [] from by have h := HCV.out; rw [chV_no (by rw [HCH.out]; exact c0)] at h; injection h with h _; exact h.symm)
    have HON := Lib.hid (show O = [] from by have h := HOV.out; rw [cirV_no (by rw [HCH.out]; exact c0)] at h; injection h with h _; exact h.symm)
    have HDC := Lib.hid (show D = CH from by rw [← HEE.out, firstE_cons, if_neg c0])
    have HEC := Lib.hid (show E = CH from by have h := HCV.out; rw [chV_no (by rw [HCH.out]; exact c0)] at h; injection h with _ h; rw [← h]; exact HCH.out)
    have dc0 : (CH == 0) = false := by simpa using c0
    go_wp2_with (first
      | (refine wpl_load_all Tryz.plT rfl _ rfl _ rfl _ _ HPB.out rfl ?_)
      | fail)
    refine (checkForwards_any lo p LB A n c l _ HPL.out HLB.out HFW.out (by omega)).mono ?_
    rintro e w11 ⟨rfl, hg11⟩
    rw [HCH.out]
    replace HPB := Lib.hid (HPB.out.grown hg11 (by simp))
    replace HT := Lib.hid (HT.out.grown hg11 (by simp))
    replace HG := Lib.hid (gr_none HG.out hg11)
    have z11 := hg11.size; (try simp at z11)
    replace HPL := Lib.hid (HPL.out.grown hg11 (fun g e => by cases e))
    replace HFW := Lib.hid (HFW.out.grown hg11 (fun g e => by cases e))
    replace HST := Lib.hid (HST.out.grown hg11 (fun g e => by cases e))
    replace HC := Lib.hid (HC.out.grown hg11 (fun g e => by cases e))
    replace HO := Lib.hid (HO.out.grown hg11 (fun g e => by cases e))
    clear hg11
    have q0 : (CH != CH) = false := by simp
    go_wp2_with fail
    refine (keyRefR_any line _ (by omega)).mono ?_
    rintro e w20 ⟨rfl, hg20⟩
    rw [HK.out]
    replace HPB := Lib.hid (HPB.out.grown hg20 (by simp))
    replace HT := Lib.hid (HT.out.grown hg20 (by simp))
    replace HG := Lib.hid (gr_none HG.out hg20)
    have z20 := hg20.size; (try simp at z20)
    replace HPL := Lib.hid (HPL.out.grown hg20 (fun g e => by cases e))
    replace HFW := Lib.hid (HFW.out.grown hg20 (fun g e => by cases e))
    replace HST := Lib.hid (HST.out.grown hg20 (fun g e => by cases e))
    replace HC := Lib.hid (HC.out.grown hg20 (fun g e => by cases e))
    replace HO := Lib.hid (HO.out.grown hg20 (fun g e => by cases e))
    clear hg20
    go_wp2_with fail
    refine same_calls (whenF_any (!K) 5 _) ?_
    rw [HK5.out]
    go_wp2_with fail
    refine same_calls (momF_any at_ _) ?_
    rw [HM.out]
    go_wp2_with (first
      | (refine wpl_load_all Tryz.plT rfl _ rfl _ rfl _ _ HPB.out rfl ?_)
      | fail)
    refine (statesFault_any lo B m d sts _ HST.out (by omega)).mono ?_
    rintro e w21 ⟨rfl, hg21⟩
    rw [HSE.out]
    replace HPB := Lib.hid (HPB.out.grown hg21 (by simp))
    replace HT := Lib.hid (HT.out.grown hg21 (by simp))
    replace HG := Lib.hid (gr_none HG.out hg21)
    have z21 := hg21.size; (try simp at z21)
    replace HPL := Lib.hid (HPL.out.grown hg21 (fun g e => by cases e))
    replace HFW := Lib.hid (HFW.out.grown hg21 (fun g e => by cases e))
    replace HST := Lib.hid (HST.out.grown hg21 (fun g e => by cases e))
    replace HC := Lib.hid (HC.out.grown hg21 (fun g e => by cases e))
    replace HO := Lib.hid (HO.out.grown hg21 (fun g e => by cases e))
    clear hg21
    go_wp2_with fail
    refine same_calls (errs_run 0 _ 4 4 [CH, K5, M, SE] _ (by exact (Reads.blk (Blk.new _ _ _) 1 4 rfl).lower (Nat.zero_le _)) (by omega)) ?_
    rw [HEE.out]
    obtain ⟨w22, hw22⟩ : ∃ w22, w21.alloc (.cells #[.int .i64 CH, .int .i64 K5, .int .i64 M, .int .i64 SE] 38) = w22 := ⟨_, rfl⟩
    rw [hw22]
    have hg22 : w21.grownBy w22 none := by rw [← hw22]; exact gr_alloc (gr_refl _ _) _
    replace HPB := Lib.hid (HPB.out.grown hg22 (by simp))
    replace HT := Lib.hid (HT.out.grown hg22 (by simp))
    replace HG := Lib.hid (gr_none HG.out hg22)
    have z22 := hg22.size; (try simp at z22)
    replace HPL := Lib.hid (HPL.out.grown hg22 (fun g e => by cases e))
    replace HFW := Lib.hid (HFW.out.grown hg22 (fun g e => by cases e))
    replace HST := Lib.hid (HST.out.grown hg22 (fun g e => by cases e))
    replace HC := Lib.hid (HC.out.grown hg22 (fun g e => by cases e))
    replace HO := Lib.hid (HO.out.grown hg22 (fun g e => by cases e))
    clear hg22
    clear hw22
    have de0 : (D == 0) = false := by rw [HDC.out]; simpa using c0
    have qe : (E == D) = true := by rw [HDC.out, HEC.out]; simp
    have zn1 : n1 ≤ 100 := by rw [← HC.out.2, HCN.out]; exact Nat.zero_le _
    have zn2 : n2 ≤ 100 := by rw [← HO.out.2, HON.out]; exact Nat.zero_le _
    go_wp2_with fail
    refine (equalS_same _ _ A1 none n1 c1 0 0 C _ HC.out (show Recs srow 1 _ 0 none 0 0 C by rw [HCN.out]; exact Recs.nil) (by omega)).mono ?_
    rintro e w25 ⟨rfl, k1, rfl⟩
    have hg25 : w22.grownBy (w22.drewN k1) none := gr_drewN (gr_refl _ _) k1
    replace HPB := Lib.hid (HPB.out.grown hg25 (by simp))
    replace HT := Lib.hid (HT.out.grown hg25 (by simp))
    replace HG := Lib.hid (gr_none HG.out hg25)
    have z25 := hg25.size; (try simp at z25)
    replace HPL := Lib.hid (HPL.out.grown hg25 (fun g e => by cases e))
    replace HFW := Lib.hid (HFW.out.grown hg25 (fun g e => by cases e))
    replace HST := Lib.hid (HST.out.grown hg25 (fun g e => by cases e))
    replace HC := Lib.hid (HC.out.grown hg25 (fun g e => by cases e))
    replace HO := Lib.hid (HO.out.grown hg25 (fun g e => by cases e))
    clear hg25
    go_wp2_with fail
    refine (equalS_same _ _ A2 none n2 c2 0 0 O _ HO.out (show Recs srow 1 _ 0 none 0 0 O by rw [HON.out]; exact Recs.nil) (by omega)).mono ?_
    rintro e w26 ⟨rfl, k2, rfl⟩
    have hg26 : (w22.drewN k1).grownBy (w22.drewN (k1 + k2)) none := by rw [← World.drewN_drewN]; exact gr_drewN (gr_refl _ _) k2
    replace HPB := Lib.hid (HPB.out.grown hg26 (by simp))
    replace HT := Lib.hid (HT.out.grown hg26 (by simp))
    replace HG := Lib.hid (gr_none HG.out hg26)
    have z26 := hg26.size; (try simp at z26)
    replace HPL := Lib.hid (HPL.out.grown hg26 (fun g e => by cases e))
    replace HFW := Lib.hid (HFW.out.grown hg26 (fun g e => by cases e))
    replace HST := Lib.hid (HST.out.grown hg26 (fun g e => by cases e))
    clear hg26
    go_wp2_with fail
    refine (planned_true _ HT.out).mono ?_
    rintro e w29 ⟨rfl, hg29⟩
    have HGE := Lib.hid (gr_none HG.out hg29)
    clear hg29
    go_wp2_with fail
    go_ret
    refine ⟨rfl, ?_⟩
    have hfin := HGE.out
    rw [← HSB.out] at hfin
    exact below_of_gr hfin
theorem gDbCf : Tryz.prog.globalNamed "math/bits.deBruijn32tab" = some 1 := by kernel_rfl
theorem met_CallsForwarded {W : World} (h : laidMetH Tryz.prog Rows.callsForwardedRow.laid W) : DbT W := by
  rw [MakeChecks.laidMetH_plain _ _ _ (by kernel_rfl)] at h
  obtain ⟨ps, ⟨g0, t0, cs0, f0, p0, q0, hg0, ht0, hv0, hd0, _⟩, _, _⟩ := h
  obtain rfl := Option.some.inj (gDbCf.symm.trans hg0)
  obtain rfl := Option.some.inj (tDb.symm.trans ht0)
  intro i hi
  rw [World.var?_cell hg0 hv0 i]
  have := tab_cells (l := dbTab) Tryz.underlying329 Tryz.underlying5 (by kernel_rfl) hd0 i hi
  simpa using this

theorem own_CallsForwarded : ownKnob Tryz.prog.godebug = none := by kernel_rfl
theorem laidOut_CallsForwarded : laidOutB Tryz.prog = true := by kernel_rfl
set_option maxRecDepth 100000 in
theorem lifted_CallsForwarded (os : Os) (started : os.Started) (H : Type) (enc : TypeId × Value → H) :
    ReturnsInHanded {} Tryz.checked os 5 .any (fun w args => (Rows.callsForwardedSpec.pre enc Tryz.prog Tryz.f5 [] false w args ∧ laidMetH Tryz.prog Rows.callsForwardedRow.laid w) ∧ sizedMet enc Tryz.prog Tryz.f5 (OpenSpec.ofChange Rows.callsForwardedSpec) false w args) (Rows.callsForwardedSpec.post enc Tryz.prog Tryz.f5 false true false false) := by
  refine returnsInHanded_of_change_and (C := Tryz.checked) (X := fun w _ => laidMetH Tryz.prog Rows.callsForwardedRow.laid w) (fun _ _ _ hh h => h.of_heap hh) own_CallsForwarded started (by kernel_rfl) Tryz.func5
    (ChangeSpec.witness_shaped (enc := enc) (C := Tryz.checked) (os := os) (X := fun w _ => laidMetH Tryz.prog Rows.callsForwardedRow.laid w) false (World.laidAll Tryz.prog os Rows.callsForwardedRow.laid) #[.slice none 0 0] 8 (World.laidAll_os _ _ _) (World.shaped_of_ZipB (by kernel_rfl) (by kernel_rfl)) (by kernel_rfl) (by kernel_rfl) (by kernel_rfl)
      (by rw [MakeChecks.laidMetH_plain _ _ _ (by kernel_rfl)]; exact laidMet_laidAll _ (by kernel_rfl) (by kernel_rfl))) ?_
  intro W base args ds gs before hval0 hW _ _ hL _
  have hval : ∀ (j : Nat) t v, Tryz.f5.params[j]? = some t → args[j]? = some v → Value.okWide Tryz.prog W .any base t v := hval0
  have hW' := hW
  obtain ⟨p, q, hA0, hV, rfl, hfz, hnd⟩ := hW
  have hA : DataW.TrodAll enc Tryz.prog W 0 (fun _ => true) true Tryz.f5.params.toList args.toList ds p := hA0
  rw [Tryz.params5] at hA hval
  obtain ⟨v0, vs0, d0, ds0, p0, q0, hargs, rfl, rfl, h0, r0⟩ := trodAll_cons hA
  obtain ⟨rfl, rfl, rfl⟩ := trodAll_nil r0
  obtain rfl : args = #[v0] := by cases args; simp_all
  obtain ⟨rfl, rfl⟩ := trodVars_none hV
  obtain ⟨a0, len0, cap0, rfl⟩ := okWide_slice Tryz.underlying22 (hval 0 22 v0 rfl rfl)
  have k0 := h0
  have lt0 : ∀ x ∈ p0, x.block < W.heap.size := by obtain ⟨m, hm⟩ := k0; exact DataW.trod_lt m _ _ _ hm
  obtain ⟨z0, w0⟩ : ∃ zs, IsRow .i64 W a0 len0 cap0 zs := by
    obtain ⟨fuel, hf⟩ := h0
    rcases open_ints Tryz.underlying22 Tryz.underlying3 (by kernel_rfl) hf with ⟨hcs, _⟩ | ⟨x, l, c, zs, hcs, _, hl, hm, hz, _, hcell, hwz⟩
    · simp [Value.cells] at hcs
      obtain ⟨rfl, rfl, rfl⟩ := hcs
      exact ⟨[], .inl ⟨rfl, rfl, rfl, rfl⟩⟩
    · simp [Value.cells] at hcs
      obtain ⟨rfl, rfl, rfl⟩ := hcs
      exact ⟨zs, .inr ⟨_, rfl, hl, hm, by simpa using hz, hcell, hwz⟩⟩
  clear hA0 hval0
  refine (walk_CallsForwarded a0 len0 cap0 z0 W w0 (met_CallsForwarded hL)).mono fun e W' ⟨he, bel⟩ => ?_
  subst he
  exact ⟨_, rfl, _, _, _, [], _, [], hW', trodAll_mk1 (shut_bool Tryz.underlying4 _), (trodAll_cons_mk (Below.trod laidOut_CallsForwarded (by kernel_rfl) (of_decide_eq_true (by kernel_rfl)) k0 bel lt0) trodAll_mk0), rfl, bel.frame _, fun h => by cases h⟩

theorem over_CallsForwarded : Rows.callsForwardedRow.holds Tryz.pinned (OpenSpec.ofChange Rows.callsForwardedSpec) :=
  OpenClaim.holds_of_wide 5 Tryz.f5 rfl rfl rfl rfl rfl rfl rfl ⟨rfl, rfl, rfl, rfl, rfl⟩ rfl rfl rfl rfl rfl (by kernel_rfl) Tryz.func5 (by unfold joinedFacts; rw [jCf_inPlace, jCf_unfollowed, jCf_recurses, jCf_named]; kernel_rfl)
    (of_decide_eq_true (by kernel_rfl)) (by unfold Func.isWrapper; first | (rw [if_pos (by decide +kernel)]; kernel_rfl) | (rw [if_neg (by decide +kernel)]; exact ⟨rfl, rfl⟩))
    (fun os started H enc _ => lifted_CallsForwarded os started H enc)

theorem proved_CallsForwarded : Rows.CallsForwardedCardSaid :=
  Claim7.holds_tied_plain_at .later [] [.data, .data, .data, .data, .pinned] true Rows.callsForwardedCard.stood.harness true
    over_CallsForwarded (fun _ h => by cases h) (by kernel_rfl) (fun _ h => by cases h) callsForwarded_row_tie rfl ⟨rfl, rfl⟩ (by kernel_rfl) rfl
    (fun f fn hf hfn => by
      obtain rfl : f = 5 := Option.some.inj ((show Tryz.prog.funcNamed Rows.callsForwardedRow.func = some 5 by kernel_rfl).symm.trans hf) |>.symm
      obtain rfl : fn = Tryz.f5 := (Option.some.inj (Tryz.func5.symm.trans hfn)).symm
      exact ⟨by kernel_rfl, fun j t ht => by
        rw [Tryz.params5] at ht
        have h3 : t = 22 := by
          rcases j with _ | j
          · simpa using ht.symm
          · simp at ht
        subst h3
        exact (show Tryz.prog.wantsStandIn 22 = false by kernel_rfl)⟩)
    (by kernel_rfl)
end Go.Proofs.YtpjheibkacbbcaaGreatDoor


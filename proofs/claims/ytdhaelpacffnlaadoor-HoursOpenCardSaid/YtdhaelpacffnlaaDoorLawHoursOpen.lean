/- The law HoursOpen: CheckHours, Open and Turns are as specified for all hours, moments and windows. Conditions: none beside the row's own. -/
import Derived.Test.YtdhaelpacffnlaaDoorLawBase
import Derived.Test.YtdhaelpacffnlaaDoorGenHou2
import Derived.Test.YtdhaelpacffnlaaDoorHou2
import Derived.Test.YtdhaelpacffnlaaDoorHou4
import Derived.Test.YtdhaelpacffnlaaDoorHou5
import Derived.Test.YtdhaelpacffnlaaDoorEqI
import Derived.Test.YtdhaelpacffnlaaDoorErrs
import Derived.Test.YtdhaelpacffnlaaDoorWhenF
import Derived.Test.YtdhaelpacffnlaaDoorLaidDb
import Derived.Test.YtdhaelpacffnlaaDoorPlanned
import Derived.Test.YtdhaelpacffnlaaDoorFloat
import Derived.Test.YtdhaelpacffnlaaDoorTie
import Derived.Test.YtdhaelpacffnlaaDoorCards
import Derived.ProofKit
import Derived.Lay
import Derived.OpenShut
import Derived.Stop.Joined
import Derived.SevenTiedAt
import Derived.LaidMore
import Derived.MakeChecks
import Derived.LaidHandle
import Derived.Deep.CutBlock
namespace Go.Proofs.YtdhaelpacffnlaaDoor
open Go.ChangeShapes Go.WideShapes Go.ChangeAt Go.RowKit

theorem openR_law (a : HrV) (t : Int) : openR a t = .tuple #[.bool (decide (firstE [hrsE [a], momF t] = 0) && openAt a.zone a.rows a.hol t), .int .i64 (firstE [hrsE [a], momF t])] := by
  unfold openR momF
  rw [firstE_cons, firstE_cons, firstE_nil]
  by_cases h : hrsE [a] = 0
  · rw [if_pos h, if_pos h]
    cases momB t <;> simp
  · rw [if_neg h, if_neg h]; simp [h]
theorem turnE_law (a : HrV) (fr til : Int) : firstE [hrsE [a], winE fr til] = turnE a fr til := by
  unfold turnE
  rw [firstE_cons, firstE_cons, firstE_nil]
  by_cases h : hrsE [a] = 0
  · rw [if_pos h, if_pos h]; by_cases h2 : winE fr til = 0
    · rw [if_pos h2, h2]
    · rw [if_neg h2]
  · rw [if_neg h, if_neg h]
theorem momF_law {a : HrV} {t : Int} (h : firstE [hrsE [a], momF t] = 0) : hrsE [a] = 0 ∧ 0 ≤ t ∧ t ≤ 345686400000 := by
  rw [firstE_cons, firstE_cons, firstE_nil] at h
  by_cases h1 : hrsE [a] = 0
  · rw [if_pos h1] at h
    refine ⟨h1, ?_⟩
    unfold momF at h
    by_cases c : momB t = true
    · unfold momB inB at c; simp only [Bool.and_eq_true, decide_eq_true_eq] at c; omega
    · rw [if_neg c] at h; simp at h
  · rw [if_neg h1] at h; exact absurd h h1
theorem winE_law {fr til : Int} (h : winE fr til = 0) : 0 ≤ fr ∧ fr ≤ til ∧ til ≤ 345686400000 ∧ til - fr ≤ 34560000000 := by
  unfold winE at h
  by_cases c : fr < 0 ∨ til < fr ∨ 345686400000 < til
  · rw [if_pos c] at h; omega
  · rw [if_neg c] at h
    by_cases c2 : 34560000000 < til - fr
    · rw [if_pos c2] at h; omega
    · omega
theorem turns_law {a : HrV} {fr til : Int} {l : List Int} (hr : HrRight a) (h : turnV a fr til l) : bndDays (openAt a.zone a.rows a.hol) fr til a.zone (msL a.rows a.hol) ((fr + a.zone * 60000) / 86400000) ((til + a.zone * 60000) / 86400000 - (fr + a.zone * 60000) / 86400000 + 1).toNat = l := by
  obtain ⟨N, h1, h2, rfl⟩ := h
  refine (turns_eq (msL_rise _ _) (fun m hm => ?_) (fun x hx => msL_mem.2 hx) h1 h2 rfl).symm
  obtain ⟨_, _, r1, r2⟩ := hr
  rcases msL_mem.1 hm with e | ⟨r, hrm, e⟩ | ⟨r, hrm, e⟩
  · omega
  · have := r1 r hrm; omega
  · have := r2 r hrm; omega
set_option maxRecDepth 100000 in
set_option maxHeartbeats 8000000 in
theorem walk_HoursOpen (a0 : Option Addr) (len cap : Nat) (zs : List Int) (W : World) (h : IsRow .i64 W a0 len cap zs) (ht : DbT W) :
    Calls Tryd.prog 3 #[.slice a0 len cap] W (fun e w' => e = .returned (.bool true) ∧ Below W.heap.size W w') := by
  have hs := str_new h
  have hpos := ht.pos
  obtain ⟨sb, hsb⟩ : ∃ sb, W.heap.size = sb := ⟨_, rfl⟩
  have HG := Lib.hid (show W.grownBy (W.alloc (.cells #[.slice a0 len cap, .int .i64 0] 25)) (some sb) from gr_alloc (gr_refl _ _) _)
  have HT := Lib.hid (ht.grown HG.out (by rw [← hsb]; intro e; injection e with e; omega))
  rw [hsb] at hs
  have hlt := hs.lt
  have HS := Lib.hid hs
  have HSB := Lib.hid hsb
  have hne : (some sb) ≠ some 0 := by rw [← hsb]; intro e; injection e with e; omega
  have HNE := Lib.hid hne
  clear h hs ht hne
  go_enter Tryd.func3, Tryd.ntmps3
  go_wp2_with fail
  refine (hours_any sb 0 _ HS.out (by omega)).mono ?_
  rintro e w1 ⟨v1, rfl, ⟨A, c, l, rfl, hhrs⟩, hs1, hg1⟩
  obtain ⟨lo, hlo⟩ : ∃ lo, (W.alloc (.cells #[.slice a0 len cap, .int .i64 0] 25)).heap.size = lo := ⟨_, rfl⟩
  rw [hlo] at hhrs
  have zlo : sb < lo := by have := HS.out.lt; omega
  have z1 := hg1.size
  rw [hlo] at z1
  have HHS := Lib.hid hhrs
  replace HT := Lib.hid (HT.out.grown hg1 HNE.out)
  replace HG := Lib.hid (gr_same HG.out hg1)
  replace HS := Lib.hid hs1
  clear hs1 hg1 hhrs hlo
  go_wp2_with fail
  refine (moment_any sb _ _ HS.out (by omega)).mono ?_
  rintro e w2 ⟨v2, rfl, ⟨at_, rfl, at0, at1⟩, hs2, hg2⟩
  have z2 := hg2.size
  replace HHS := Lib.hid (HHS.out.grown hg2 (fun g e => by injection e with e; omega))
  replace HT := Lib.hid (HT.out.grown hg2 HNE.out)
  replace HG := Lib.hid (gr_same HG.out hg2)
  replace HS := Lib.hid hs2
  clear hs2 hg2
  go_wp2_with fail
  refine (days_any sb _ _ HS.out (by omega)).mono ?_
  rintro e w3 ⟨v3, rfl, ⟨fr, til, rfl, b0, b1, b2, b3⟩, hs3, hg3⟩
  have z3 := hg3.size
  replace HHS := Lib.hid (HHS.out.grown hg3 (fun g e => by injection e with e; omega))
  replace HT := Lib.hid (HT.out.grown hg3 HNE.out)
  replace HG := Lib.hid (gr_same HG.out hg3)
  replace HS := Lib.hid hs3
  clear hs3 hg3
  go_upto_region 3 with (fail)
  obtain ⟨w4, hw4⟩ : ∃ w4, w3.alloc (.cells #[.int .i64 fr, .int .i64 til] 30) = w4 := ⟨_, rfl⟩
  rw [hw4]
  obtain ⟨wb, hwb⟩ : ∃ wb, w3.heap.size = wb := ⟨_, rfl⟩
  rw [hwb]
  have HW := Lib.hid (show Blk w4 wb 30 #[.int .i64 fr, .int .i64 til] by rw [← hw4, ← hwb]; exact Blk.new _ _ _)
  have zwb : sb < wb := by omega
  have hg4 : w3.grownBy w4 none := by rw [← hw4]; exact gr_alloc (gr_refl _ _) _
  have z4 := hg4.size
  replace HHS := Lib.hid (HHS.out.grown hg4 (fun g e => by cases e))
  replace HT := Lib.hid (HT.out.grown hg4 (by simp))
  replace HG := Lib.hid (gr_none HG.out hg4)
  replace HS := Lib.hid (HS.out.grown hg4 (fun g e => by cases e))
  clear hw4 hwb hg4
  obtain ⟨E0, hE0⟩ : ∃ E, hrsE l = E := ⟨_, rfl⟩
  have HE0 := Lib.hid hE0; clear hE0
  have q0 : (E0 != E0) = false := by simp
  go_wp2_with fail
  refine (checkHours_any lo A 2 c l _ HHS.out (by omega)).mono ?_
  rintro e w5 ⟨rfl, hg5⟩
  rw [HE0.out]
  have z5 := hg5.size
  replace HHS := Lib.hid (HHS.out.grown hg5 (fun g e => by cases e))
  replace HW := Lib.hid (HW.out.grown hg5 (by simp))
  replace HT := Lib.hid (HT.out.grown hg5 (by simp))
  replace HG := Lib.hid (gr_none HG.out hg5)
  replace HS := Lib.hid (HS.out.grown hg5 (fun g e => by cases e))
  clear hg5
  go_wp2_with fail
  refine (hoursFault_any lo A 2 c l _ HHS.out (by omega)).mono ?_
  rintro e w6 ⟨rfl, hg6⟩
  rw [HE0.out]
  have z6 := hg6.size
  replace HHS := Lib.hid (HHS.out.grown hg6 (fun g e => by cases e))
  replace HW := Lib.hid (HW.out.grown hg6 (by simp))
  replace HT := Lib.hid (HT.out.grown hg6 (by simp))
  replace HG := Lib.hid (gr_none HG.out hg6)
  replace HS := Lib.hid (HS.out.grown hg6 (fun g e => by cases e))
  clear hg6
  go_wp2_with fail
  refine (next_any sb _ 2 _ HS.out (by omega) (by omega) (by omega)).mono ?_
  rintro e w7 ⟨v7, rfl, ⟨r7, hlo7, hhi7, rfl⟩, hs7, hg7⟩
  obtain ⟨i, rfl⟩ : ∃ i : Nat, r7 = i := ⟨r7.toNat, by omega⟩
  have hin : i < 2 := by omega
  have hin' : (i : Int) < 2 := by omega
  have z7 := hg7.size
  replace HHS := Lib.hid (HHS.out.grown hg7 (fun g e => by injection e with e; omega))
  replace HW := Lib.hid (HW.out.grown hg7 (by simp; omega))
  replace HT := Lib.hid (HT.out.grown hg7 HNE.out)
  replace HG := Lib.hid (gr_same HG.out hg7)
  clear hs7 hg7 HS q0
  obtain ⟨g, o_, a, rfl, _, hgl, hz, hc⟩ := HHS.out.1.get HrV.row_len hin
  have HO := Lib.hid (HHS.out.2 a (mem_of_get hz))
  have HC := Lib.hid hc
  clear hz hc HHS
  go_upto_region 6 with (first
    | (refine wpl_load_at Tryd.hrT rfl _ rfl _ rfl [.string a.key, .int .i64 a.zone, .slice a.rA a.rn a.rc, .slice a.hA a.hn a.hc] rfl (fun j u hu => by rw [add_mk]; exact HC.out j u hu) ?_)
    | fail)
  obtain ⟨w8, hw8⟩ : ∃ w8, w7.alloc (.cells #[.string a.key, .int .i64 a.zone, .slice a.rA a.rn a.rc, .slice a.hA a.hn a.hc] 37) = w8 := ⟨_, rfl⟩
  rw [hw8]
  obtain ⟨hb, hhb⟩ : ∃ hb, w7.heap.size = hb := ⟨_, rfl⟩
  rw [hhb]
  have HH := Lib.hid (show Blk w8 hb 37 #[.string a.key, .int .i64 a.zone, .slice a.rA a.rn a.rc, .slice a.hA a.hn a.hc] by rw [← hw8, ← hhb]; exact Blk.new _ _ _)
  have hg8 : w7.grownBy w8 none := by rw [← hw8]; exact gr_alloc (gr_refl _ _) _
  replace HO := Lib.hid (HO.out.grown hg8 (fun g e => by cases e))
  replace HW := Lib.hid (HW.out.grown hg8 (by simp))
  replace HT := Lib.hid (HT.out.grown hg8 (by simp))
  replace HG := Lib.hid (gr_none HG.out hg8)
  clear hw8 hhb hg8 HC hgl
  go_wp2_with (first
    | (refine wpl_load_all Tryd.hrT rfl _ rfl _ rfl _ _ HH.out rfl ?_)
    | (refine wpl_load_all Tryd.wiT rfl _ rfl _ rfl _ _ HW.out rfl ?_)
    | fail)
  refine (Open_any lo a at_ _ HO.out).mono ?_
  rintro e w9 ⟨rfl, hg9⟩
  rw [openR_law]
  obtain ⟨O1, hO1⟩ : ∃ x, firstE [hrsE [a], momF at_] = x := ⟨_, rfl⟩
  rw [hO1]
  obtain ⟨OB, hOB⟩ : ∃ x, (decide (O1 = 0) && openAt a.zone a.rows a.hol at_) = x := ⟨_, rfl⟩
  rw [hOB]
  have HO1 := Lib.hid hO1; have HOB := Lib.hid hOB
  have HMOM := Lib.hid (show O1 = 0 → -1 ≤ at_ ∧ at_ ≤ 345686400000 ∧ HrRight a from fun e => by
    obtain ⟨q1, q2, q3⟩ := momF_law (hO1.trans e)
    exact ⟨by omega, q3, HO.out.right q1⟩)
  clear hO1 hOB
  replace HH := Lib.hid (HH.out.grown hg9 (by simp))
  replace HW := Lib.hid (HW.out.grown hg9 (by simp))
  replace HO := Lib.hid (HO.out.grown hg9 (fun g e => by cases e))
  replace HT := Lib.hid (HT.out.grown hg9 (by simp))
  replace HG := Lib.hid (gr_none HG.out hg9)
  clear hg9
  go_wp2_with (first
    | (refine wpl_load_all Tryd.hrT rfl _ rfl _ rfl _ _ HH.out rfl ?_)
    | (refine wpl_load_all Tryd.wiT rfl _ rfl _ rfl _ _ HW.out rfl ?_)
    | fail)
  refine (Turns_any lo a fr til _ HO.out b0 b1 b2 b3).mono ?_
  rintro e w10 ⟨tl, ⟨A7, n7, c7, rfl, hown, hg10⟩, htr, htn, htl⟩
  have HOT := Lib.hid hown.recs
  have hn7 : n7 ≤ 600000 := by rw [← hown.2]; exact htl
  obtain ⟨O2, hO2⟩ : ∃ x, turnE a fr til = x := ⟨_, rfl⟩
  rw [hO2] at htr htn
  rw [hO2]
  have HTR := Lib.hid htr; have HTN := Lib.hid htn
  have HO2 := Lib.hid ((turnE_law a fr til).trans hO2)
  have HO2b := Lib.hid hO2
  clear hown htr htn htl hO2
  replace HH := Lib.hid (HH.out.grown hg10 (by simp))
  replace HW := Lib.hid (HW.out.grown hg10 (by simp))
  replace HO := Lib.hid (HO.out.grown hg10 (fun g e => by cases e))
  replace HT := Lib.hid (HT.out.grown hg10 (by simp))
  replace HG := Lib.hid (gr_none HG.out hg10)
  clear hg10
  go_wp2_with (first
    | (refine wpl_load_all Tryd.hrT rfl _ rfl _ rfl _ _ HH.out rfl ?_)
    | (refine wpl_load_all Tryd.wiT rfl _ rfl _ rfl _ _ HW.out rfl ?_)
    | fail)
  refine (hoursFault_any 0 _ 1 1 [a] _ (hrs_one a HO.out rfl) (by omega)).mono ?_
  rintro e w11 ⟨rfl, hg11'⟩
  have hg11 := gr_none (gr_alloc (gr_refl w10 none) _) hg11'
  replace HOT := Lib.hid (HOT.out.grown hg11 (fun g e => by cases e))
  replace HH := Lib.hid (HH.out.grown hg11 (by simp))
  replace HW := Lib.hid (HW.out.grown hg11 (by simp))
  replace HO := Lib.hid (HO.out.grown hg11 (fun g e => by cases e))
  replace HT := Lib.hid (HT.out.grown hg11 (by simp))
  replace HG := Lib.hid (gr_none HG.out hg11)
  clear hg11
  clear hg11'
  obtain ⟨F, hF⟩ : ∃ x, hrsE [a] = x := ⟨_, rfl⟩
  rw [hF]
  have HF := Lib.hid hF
  obtain ⟨M, hM⟩ : ∃ x, momF at_ = x := ⟨_, rfl⟩
  have HM := Lib.hid hM
  obtain ⟨S, hS⟩ : ∃ x, winE fr til = x := ⟨_, rfl⟩
  have HSE := Lib.hid hS
  rw [hF, hM] at HO1
  rw [hF, hS] at HO2
  clear hF hM hS
  go_upto_region 9 with (fail)
  refine H_begin (fun w' => w11.grownBy w' none) (by kernel_rfl) ?_
  have hHeld : w11.grownBy w11.drew none := gr_drew (gr_refl _ _)
  refine H_take (k := 0) (v := ?_) (by rfl) (by kernel_rfl) (by kernel_rfl) (by kernel_rfl) (by exact fun _ _ _ h => h) (by rfl) ?_ (by assumption) ?_
  rotate_left 1
  · intro w hSw
    (try dsimp only at hSw)
    go_simp
    (try with_reducible rfl)
  (try simp only [Act.put, List.setIfInBounds_toArray, List.set_cons_zero, List.set_cons_succ])
  refine H_take (k := 1) (v := ?_) (by rfl) (by kernel_rfl) (by kernel_rfl) (by kernel_rfl) (by exact fun _ _ _ h => h) (by rfl) ?_ (by assumption) ?_
  rotate_left 1
  · intro w hSw
    (try dsimp only at hSw)
    go_simp
    (try with_reducible rfl)
  (try simp only [Act.put, List.setIfInBounds_toArray, List.set_cons_zero, List.set_cons_succ])
  refine H_take (k := 5) (v := ?_) (by rfl) (by kernel_rfl) (by kernel_rfl) (by kernel_rfl) (by exact fun _ _ _ h => h) (by rfl) ?_ (by assumption) ?_
  rotate_left 1
  · intro w hSw
    (try dsimp only at hSw)
    go_simp
    (try with_reducible rfl)
  (try simp only [Act.put, List.setIfInBounds_toArray, List.set_cons_zero, List.set_cons_succ])
  refine H_take (k := 6) (v := .agg #[.int .i64 fr, .int .i64 til]) (by rfl) (by kernel_rfl) (by kernel_rfl) (by kernel_rfl) (by exact fun _ _ _ h => h) (by rfl) (fun w' hSw => exec_load_blk Tryd.wiT _ rfl _ rfl 30 [.int .i64 fr, .int .i64 til] (HW.out.grown hSw (by simp)) rfl) hHeld ?_
  (try simp only [Act.put, List.setIfInBounds_toArray, List.set_cons_zero, List.set_cons_succ])
  refine H_run (k := 2) (by rfl) (by kernel_rfl) (by rfl) (fun K hK => ?_)
  go_simp
  refine (momF_any at_ _).mono ?_
  rintro e w' ⟨rfl, rfl⟩
  rw [HM.out]
  refine hK _ _ (by exact hHeld) ?_
  clear hK K
  refine H_run (k := 3) (by rfl) (by kernel_rfl) (by rfl) (fun K hK => ?_)
  go_simp
  have hh1 := gr_alloc hHeld (.cells #[.int .i64 F, .int .i64 M] 32)
  refine hK _ _ hh1 ?_
  clear hK K hHeld
  have hHeld := hh1
  clear hh1
  refine H_run (k := 4) (by rfl) (by kernel_rfl) (by rfl) (fun K hK => ?_)
  go_simp
  refine (errs_run 0 _ 2 2 [F, M] _ (by exact (Reads.blk (Blk.new _ _ _) 1 2 rfl).lower (Nat.zero_le _)) (by omega)).mono ?_
  rintro e w' ⟨rfl, rfl⟩
  rw [HO1.out]
  refine hK _ _ (by exact hHeld) ?_
  clear hK K
  refine H_run (k := 7) (by rfl) (by kernel_rfl) (by rfl) (fun K hK => ?_)
  go_simp
  refine (spanFault_any fr til _ b0 b1 b2 b3).mono ?_
  rintro e w12 ⟨rfl, hg12⟩
  rw [HSE.out]
  have hh2 := gr_none hHeld hg12
  refine hK _ _ hh2 ?_
  clear hK K hHeld hg12
  have hHeld := hh2
  clear hh2
  refine H_run (k := 8) (by rfl) (by kernel_rfl) (by rfl) (fun K hK => ?_)
  go_simp
  have hh3 := gr_alloc hHeld (.cells #[.int .i64 F, .int .i64 S] 32)
  refine hK _ _ hh3 ?_
  clear hK K hHeld
  have hHeld := hh3
  clear hh3
  refine H_run (k := 9) (by rfl) (by kernel_rfl) (by rfl) (fun K hK => ?_)
  go_simp
  refine (errs_run 0 _ 2 2 [F, S] _ (by exact (Reads.blk (Blk.new _ _ _) 1 2 rfl).lower (Nat.zero_le _)) (by omega)).mono ?_
  rintro e w' ⟨rfl, rfl⟩
  rw [HO2.out]
  refine hK _ _ (by exact hHeld) ?_
  clear hK K
  refine H_take (k := 10) (v := ?_) (by rfl) (by kernel_rfl) (by kernel_rfl) (by kernel_rfl) (by exact fun _ _ _ h => h) (by rfl) ?_ (by assumption) ?_
  rotate_left 1
  · intro w hSw
    (try dsimp only at hSw)
    go_simp
    (try with_reducible rfl)
  (try simp only [Act.put, List.setIfInBounds_toArray, List.set_cons_zero, List.set_cons_succ])
  refine H_take (k := 11) (v := ?_) (by rfl) (by kernel_rfl) (by kernel_rfl) (by kernel_rfl) (by exact fun _ _ _ h => h) (by rfl) ?_ (by assumption) ?_
  rotate_left 1
  · intro w hSw
    (try dsimp only at hSw)
    go_simp
    (try with_reducible rfl)
  (try simp only [Act.put, List.setIfInBounds_toArray, List.set_cons_zero, List.set_cons_succ])
  refine H_done (by kernel_rfl) ?_
  obtain ⟨w13, hw13⟩ : ∃ w13, w12.alloc (.cells #[.int .i64 F, .int .i64 S] 32) = w13 := ⟨_, rfl⟩
  rw [hw13] at hHeld
  rw [hw13]
  have hg13 := hHeld
  replace HOT := Lib.hid (HOT.out.grown hg13 (fun g e => by cases e))
  replace HH := Lib.hid (HH.out.grown hg13 (by simp))
  replace HW := Lib.hid (HW.out.grown hg13 (by simp))
  replace HO := Lib.hid (HO.out.grown hg13 (fun g e => by cases e))
  replace HT := Lib.hid (HT.out.grown hg13 (by simp))
  replace HG := Lib.hid (gr_none HG.out hg13)
  clear hg13
  clear hHeld hw13
  by_cases o2 : O2 = 0
  · have d2 : (O2 == 0) = true := by simpa using o2
    have ho2 := HO2b.out
    rw [o2] at ho2
    obtain ⟨hf0, hs0⟩ : hrsE [a] = 0 ∧ winE fr til = 0 := by
      unfold turnE at ho2
      by_cases c1 : hrsE [a] = 0
      · rw [if_pos c1] at ho2; exact ⟨c1, ho2⟩
      · rw [if_neg c1] at ho2; exact absurd ho2 c1
    obtain ⟨p0, p1, p2, p3⟩ := winE_law hs0
    have hri := HO.out.right hf0
    have HTL := Lib.hid (turns_law hri (HTR.out o2))
    have HRI := Lib.hid hri
    clear ho2 hf0 hs0 hri o2
    go_wp2_with (first
      | (refine wpl_load_all Tryd.hrT rfl _ rfl _ rfl _ _ HH.out rfl ?_)
      | (refine wpl_load_all Tryd.wiT rfl _ rfl _ rfl _ _ HW.out rfl ?_)
      | fail)
    refine (turnsOf_any lo a fr til _ HO.out HRI.out p0 p1 p2 p3).mono ?_
    rintro e w14 ⟨B7, m7, d7, rfl, hown, hg14⟩
    rw [HTL.out] at hown
    replace HOT := Lib.hid (HOT.out.grown hg14 (fun g e => by cases e))
    have HOB2 := Lib.hid hown.recs
    clear hown HRI
    replace HH := Lib.hid (HH.out.grown hg14 (by simp))
    replace HW := Lib.hid (HW.out.grown hg14 (by simp))
    replace HO := Lib.hid (HO.out.grown hg14 (fun g e => by cases e))
    replace HT := Lib.hid (HT.out.grown hg14 (by simp))
    replace HG := Lib.hid (gr_none HG.out hg14)
    clear hg14
    by_cases o1 : O1 = 0
    · have d1 : (O1 == 0) = true := by simpa using o1
      obtain ⟨X, hX⟩ : ∃ X, openAt a.zone a.rows a.hol at_ = X := ⟨_, rfl⟩
      have hob := HOB.out
      rw [decide_eq_true o1, Bool.true_and, hX] at hob
      have hm := HMOM.out o1
      have HX := Lib.hid hX
      have q7 : (X == X) = true := beq_self_eq_true _
      have q8 : (O1 == O1) = true := beq_self_eq_true _
      have q9 : (O2 == O2) = true := beq_self_eq_true _
      subst hob
      obtain ⟨m0, m1, hri⟩ := hm
      have HRI := Lib.hid hri
      clear hX hri o1
      have cY := HH.out.cell
      go_wp2_with fail
      clear cY
      refine (openOf_any lo a at_ _ HO.out HRI.out m0 m1).mono ?_
      rintro e w20 ⟨rfl, hg20⟩
      rw [HX.out]
      replace HOT := Lib.hid (HOT.out.grown hg20 (fun g e => by cases e))
      replace HOB2 := Lib.hid (HOB2.out.grown hg20 (fun g e => by cases e))
      replace HH := Lib.hid (HH.out.grown hg20 (by simp))
      replace HW := Lib.hid (HW.out.grown hg20 (by simp))
      replace HO := Lib.hid (HO.out.grown hg20 (fun g e => by cases e))
      replace HT := Lib.hid (HT.out.grown hg20 (by simp))
      replace HG := Lib.hid (gr_none HG.out hg20)
      clear hg20
      go_wp2_with fail
      refine (equalI_same _ _ A7 B7 n7 c7 m7 d7 _ _ HOT.out HOB2.out (by omega)).mono ?_
      rintro e w28 ⟨rfl, k1, rfl⟩
      replace HT := Lib.hid (HT.out.grown (gr_drewN (gr_refl _ none) k1) (by simp))
      replace HG := Lib.hid (gr_drewN HG.out k1)
      go_wp2_with fail
      refine (planned_true _ HT.out).mono ?_
      rintro e w29 ⟨rfl, hg29⟩
      have HGE := Lib.hid (gr_none HG.out hg29)
      clear hg29
      go_wp2_with fail
      go_ret
      refine ⟨rfl, ?_⟩
      have hfin := HGE.out
      rw [← HSB.out] at hfin
      exact below_of_gr hfin
    · have d1 : (O1 == 0) = false := by simpa using o1
      have hob := HOB.out
      rw [decide_eq_false o1, Bool.false_and] at hob
      subst hob
      have q8 : (O1 == O1) = true := beq_self_eq_true _
      have q9 : (O2 == O2) = true := beq_self_eq_true _
      clear o1
      go_wp2_with fail
      refine (equalI_same _ _ A7 B7 n7 c7 m7 d7 _ _ HOT.out HOB2.out (by omega)).mono ?_
      rintro e w28 ⟨rfl, k1, rfl⟩
      replace HT := Lib.hid (HT.out.grown (gr_drewN (gr_refl _ none) k1) (by simp))
      replace HG := Lib.hid (gr_drewN HG.out k1)
      go_wp2_with fail
      refine (planned_true _ HT.out).mono ?_
      rintro e w29 ⟨rfl, hg29⟩
      have HGE := Lib.hid (gr_none HG.out hg29)
      clear hg29
      go_wp2_with fail
      go_ret
      refine ⟨rfl, ?_⟩
      have hfin := HGE.out
      rw [← HSB.out] at hfin
      exact below_of_gr hfin
  · have d2 : (O2 == 0) = false := by simpa using o2
    have htl := HTN.out o2
    subst htl
    clear o2
    by_cases o1 : O1 = 0
    · have d1 : (O1 == 0) = true := by simpa using o1
      obtain ⟨X, hX⟩ : ∃ X, openAt a.zone a.rows a.hol at_ = X := ⟨_, rfl⟩
      have hob := HOB.out
      rw [decide_eq_true o1, Bool.true_and, hX] at hob
      have hm := HMOM.out o1
      have HX := Lib.hid hX
      have q7 : (X == X) = true := beq_self_eq_true _
      have q8 : (O1 == O1) = true := beq_self_eq_true _
      have q9 : (O2 == O2) = true := beq_self_eq_true _
      subst hob
      obtain ⟨m0, m1, hri⟩ := hm
      have HRI := Lib.hid hri
      clear hX hri o1
      have cY := HH.out.cell
      go_wp2_with fail
      clear cY
      refine (openOf_any lo a at_ _ HO.out HRI.out m0 m1).mono ?_
      rintro e w20 ⟨rfl, hg20⟩
      rw [HX.out]
      replace HOT := Lib.hid (HOT.out.grown hg20 (fun g e => by cases e))
      skip
      replace HH := Lib.hid (HH.out.grown hg20 (by simp))
      replace HW := Lib.hid (HW.out.grown hg20 (by simp))
      replace HO := Lib.hid (HO.out.grown hg20 (fun g e => by cases e))
      replace HT := Lib.hid (HT.out.grown hg20 (by simp))
      replace HG := Lib.hid (gr_none HG.out hg20)
      clear hg20
      go_wp2_with fail
      refine (equalI_same _ _ A7 none n7 c7 0 0 _ _ HOT.out (Recs.nil (lo := 0)) (by omega)).mono ?_
      rintro e w28 ⟨rfl, k1, rfl⟩
      replace HT := Lib.hid (HT.out.grown (gr_drewN (gr_refl _ none) k1) (by simp))
      replace HG := Lib.hid (gr_drewN HG.out k1)
      go_wp2_with fail
      refine (planned_true _ HT.out).mono ?_
      rintro e w29 ⟨rfl, hg29⟩
      have HGE := Lib.hid (gr_none HG.out hg29)
      clear hg29
      go_wp2_with fail
      go_ret
      refine ⟨rfl, ?_⟩
      have hfin := HGE.out
      rw [← HSB.out] at hfin
      exact below_of_gr hfin
    · have d1 : (O1 == 0) = false := by simpa using o1
      have hob := HOB.out
      rw [decide_eq_false o1, Bool.false_and] at hob
      subst hob
      have q8 : (O1 == O1) = true := beq_self_eq_true _
      have q9 : (O2 == O2) = true := beq_self_eq_true _
      clear o1
      go_wp2_with fail
      refine (equalI_same _ _ A7 none n7 c7 0 0 _ _ HOT.out (Recs.nil (lo := 0)) (by omega)).mono ?_
      rintro e w28 ⟨rfl, k1, rfl⟩
      replace HT := Lib.hid (HT.out.grown (gr_drewN (gr_refl _ none) k1) (by simp))
      replace HG := Lib.hid (gr_drewN HG.out k1)
      go_wp2_with fail
      refine (planned_true _ HT.out).mono ?_
      rintro e w29 ⟨rfl, hg29⟩
      have HGE := Lib.hid (gr_none HG.out hg29)
      clear hg29
      go_wp2_with fail
      go_ret
      refine ⟨rfl, ?_⟩
      have hfin := HGE.out
      rw [← HSB.out] at hfin
      exact below_of_gr hfin
theorem gDbHo : Tryd.prog.globalNamed "math/bits.deBruijn32tab" = some 0 := by kernel_rfl
theorem met_HoursOpen {W : World} (h : laidMetH Tryd.prog Rows.hoursOpenRow.laid W) : DbT W := by
  rw [MakeChecks.laidMetH_plain _ _ _ (by kernel_rfl)] at h
  obtain ⟨ps, ⟨g0, t0, cs0, f0, p0, q0, hg0, ht0, hv0, hd0, _⟩, _, _⟩ := h
  obtain rfl := Option.some.inj (gDbHo.symm.trans hg0)
  obtain rfl := Option.some.inj (tDb.symm.trans ht0)
  intro i hi
  rw [World.var?_cell hg0 hv0 i]
  have := tab_cells (l := dbTab) Tryd.underlying130 Tryd.underlying5 (by kernel_rfl) hd0 i hi
  simpa using this

theorem own_HoursOpen : ownKnob Tryd.prog.godebug = none := by kernel_rfl
theorem laidOut_HoursOpen : laidOutB Tryd.prog = true := by kernel_rfl
set_option maxRecDepth 100000 in
theorem lifted_HoursOpen (os : Os) (started : os.Started) (H : Type) (enc : TypeId × Value → H) :
    ReturnsInHanded {} Tryd.checked os 3 .any (fun w args => (Rows.hoursOpenSpec.pre enc Tryd.prog Tryd.f3 [] false w args ∧ laidMetH Tryd.prog Rows.hoursOpenRow.laid w) ∧ sizedMet enc Tryd.prog Tryd.f3 (OpenSpec.ofChange Rows.hoursOpenSpec) false w args) (Rows.hoursOpenSpec.post enc Tryd.prog Tryd.f3 false true false false) := by
  refine returnsInHanded_of_change_and (C := Tryd.checked) (X := fun w _ => laidMetH Tryd.prog Rows.hoursOpenRow.laid w) (fun _ _ _ hh h => h.of_heap hh) own_HoursOpen started (by kernel_rfl) Tryd.func3
    (ChangeSpec.witness_shaped (enc := enc) (C := Tryd.checked) (os := os) (X := fun w _ => laidMetH Tryd.prog Rows.hoursOpenRow.laid w) false (World.laidAll Tryd.prog os Rows.hoursOpenRow.laid) #[.slice none 0 0] 8 (World.laidAll_os _ _ _) (World.shaped_of_ZipB (by kernel_rfl) (by kernel_rfl)) (by kernel_rfl) (by kernel_rfl) (by kernel_rfl)
      (by rw [MakeChecks.laidMetH_plain _ _ _ (by kernel_rfl)]; exact laidMet_laidAll _ (by kernel_rfl) (by kernel_rfl))) ?_
  intro W base args ds gs before hval0 hW _ _ hL _
  have hval : ∀ (j : Nat) t v, Tryd.f3.params[j]? = some t → args[j]? = some v → Value.okWide Tryd.prog W .any base t v := hval0
  have hW' := hW
  obtain ⟨p, q, hA0, hV, rfl, hfz, hnd⟩ := hW
  have hA : DataW.TrodAll enc Tryd.prog W 0 (fun _ => true) true Tryd.f3.params.toList args.toList ds p := hA0
  rw [Tryd.params3] at hA hval
  obtain ⟨v0, vs0, d0, ds0, p0, q0, hargs, rfl, rfl, h0, r0⟩ := trodAll_cons hA
  obtain ⟨rfl, rfl, rfl⟩ := trodAll_nil r0
  obtain rfl : args = #[v0] := by cases args; simp_all
  obtain ⟨rfl, rfl⟩ := trodVars_none hV
  obtain ⟨a0, len0, cap0, rfl⟩ := okWide_slice Tryd.underlying22 (hval 0 22 v0 rfl rfl)
  have k0 := h0
  have lt0 : ∀ x ∈ p0, x.block < W.heap.size := by obtain ⟨m, hm⟩ := k0; exact DataW.trod_lt m _ _ _ hm
  obtain ⟨z0, w0⟩ : ∃ zs, IsRow .i64 W a0 len0 cap0 zs := by
    obtain ⟨fuel, hf⟩ := h0
    rcases open_ints Tryd.underlying22 Tryd.underlying3 (by kernel_rfl) hf with ⟨hcs, _⟩ | ⟨x, l, c, zs, hcs, _, hl, hm, hz, _, hcell, hwz⟩
    · simp [Value.cells] at hcs
      obtain ⟨rfl, rfl, rfl⟩ := hcs
      exact ⟨[], .inl ⟨rfl, rfl, rfl, rfl⟩⟩
    · simp [Value.cells] at hcs
      obtain ⟨rfl, rfl, rfl⟩ := hcs
      exact ⟨zs, .inr ⟨_, rfl, hl, hm, by simpa using hz, hcell, hwz⟩⟩
  clear hA0 hval0
  refine (walk_HoursOpen a0 len0 cap0 z0 W w0 (met_HoursOpen hL)).mono fun e W' ⟨he, bel⟩ => ?_
  subst he
  exact ⟨_, rfl, _, _, _, [], _, [], hW', trodAll_mk1 (shut_bool Tryd.underlying4 _), (trodAll_cons_mk (Below.trod laidOut_HoursOpen (by kernel_rfl) (of_decide_eq_true (by kernel_rfl)) k0 bel lt0) trodAll_mk0), rfl, bel.frame _, fun h => by cases h⟩

theorem over_HoursOpen : Rows.hoursOpenRow.holds Tryd.pinned (OpenSpec.ofChange Rows.hoursOpenSpec) :=
  OpenClaim.holds_of_wide 3 Tryd.f3 rfl rfl rfl rfl rfl rfl rfl ⟨rfl, rfl, rfl, rfl, rfl⟩ rfl rfl rfl rfl rfl (by kernel_rfl) Tryd.func3 (by kernel_rfl)
    (of_decide_eq_true (by kernel_rfl)) (by unfold Func.isWrapper; first | (rw [if_pos (by decide +kernel)]; kernel_rfl) | (rw [if_neg (by decide +kernel)]; exact ⟨rfl, rfl⟩))
    (fun os started H enc _ => lifted_HoursOpen os started H enc)

theorem proved_HoursOpen : Rows.HoursOpenCardSaid :=
  Claim7.holds_tied_plain_at .later [] [.data, .data, .pinned] true Rows.hoursOpenCard.stood.harness false
    over_HoursOpen (fun _ h => by cases h) (by kernel_rfl) (fun _ h => by cases h) hoursOpen_row_tie rfl ⟨rfl, rfl⟩ (by kernel_rfl) rfl
    (fun f fn hf hfn => by
      obtain rfl : f = 3 := Option.some.inj ((show Tryd.prog.funcNamed Rows.hoursOpenRow.func = some 3 by kernel_rfl).symm.trans hf) |>.symm
      obtain rfl : fn = Tryd.f3 := (Option.some.inj (Tryd.func3.symm.trans hfn)).symm
      exact ⟨by kernel_rfl, fun j t ht => by
        rw [Tryd.params3] at ht
        have h3 : t = 22 := by
          rcases j with _ | j
          · simpa using ht.symm
          · simp at ht
        subst h3
        exact (show Tryd.prog.wantsStandIn 22 = false by kernel_rfl)⟩)
    (by kernel_rfl)
end Go.Proofs.YtdhaelpacffnlaaDoor


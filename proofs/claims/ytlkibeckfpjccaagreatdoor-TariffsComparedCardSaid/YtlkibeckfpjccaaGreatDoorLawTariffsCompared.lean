/- The law TariffsCompared: Compare and Top are as specified for all tariffs, payers and records. Conditions: none. -/
import Derived.Test.YtlkibeckfpjccaaGreatDoorBun8
import Derived.Test.YtlkibeckfpjccaaGreatDoorBun7
import Derived.Test.YtlkibeckfpjccaaGreatDoorGenTar
import Derived.Test.YtlkibeckfpjccaaGreatDoorRc4
import Derived.Test.YtlkibeckfpjccaaGreatDoorBun6
import Derived.Test.YtlkibeckfpjccaaGreatDoorBun2
import Derived.Test.YtlkibeckfpjccaaGreatDoorTie
import Derived.Test.YtlkibeckfpjccaaGreatDoorCards
import Derived.ChangeKeysEq
import Derived.ProofKit
import Derived.Lay
import Derived.OpenShut
import Derived.Stop.Joined
import Derived.SevenTiedAt
import Derived.LaidMore
import Derived.MakeChecks
import Derived.LaidHandle
import Derived.Lib.LaidTab
import Derived.Shelf.Vars
import Derived.Deep.CutBlock
import Derived.Deep.RegionHeld3
namespace Go.Proofs.YtlkibeckfpjccaaGreatDoor
open Go.ChangeShapes Go.WideShapes Go.ChangeAt Go.RowKit

theorem TfOk.lower {w : World} {lo lo' : Nat} {t : TfV} (h : TfOk w lo t) (hl : lo' ≤ lo) : TfOk w lo' t := ⟨h.1, h.2.1.lower hl, h.2.2.lower hl⟩
theorem when_inB (m hi : Int) : (if decide (m < 0) || decide (hi < m) then (1 : Int) else 0) = if inB m 0 hi then 0 else 1 := by
  unfold inB
  by_cases h1 : m < 0
  · rw [decide_eq_true h1, decide_eq_false (show ¬ 0 ≤ m by omega)]; rfl
  · rw [decide_eq_false h1, decide_eq_true (show 0 ≤ m by omega)]
    by_cases h2 : hi < m
    · rw [decide_eq_true h2, decide_eq_false (show ¬ m ≤ hi by omega)]; rfl
    · rw [decide_eq_false h2, decide_eq_true (show m ≤ hi by omega)]; rfl
theorem fE5 (a b c d e : Int) : firstE [a, b, c, d, e] = if a = 0 then (if b = 0 then (if c = 0 then (if d = 0 then e else d) else c) else b) else a := by
  simp only [firstE_cons, firstE_nil]
  by_cases h : e = 0
  · rw [if_pos h, h]
  · rw [if_neg h]
theorem fE3 (a b c : Int) : firstE [a, b, c] = if a = 0 then (if b = 0 then c else b) else a := by
  simp only [firstE_cons, firstE_nil]
  by_cases h : c = 0
  · rw [if_pos h, h]
  · rw [if_neg h]
theorem cp_first (t u : TfV) (p : List PyV) (l : List RcV) (month : Int) : firstE [tarE t, tarE u, pysE p, rcsE l, if inB month 0 132 then 0 else 1] = cpE t u p l month := by
  rw [fE5]
  unfold cpE monE useE
  by_cases h1 : tarE t = 0
  · rw [if_pos h1, if_pos h1]
    by_cases h2 : tarE u = 0
    · rw [if_pos h2, if_pos h2]
      by_cases h3 : pysE p = 0
      · rw [if_pos h3, if_pos h3]
      · rw [if_neg h3, if_neg h3, if_neg h3]
    · rw [if_neg h2, if_neg h2, if_neg h2]
  · rw [if_neg h1, if_neg h1]
theorem tp_first (t : TfV) (p : List PyV) (l : List RcV) (month many : Int) : firstE [useE t p l, if inB month 0 132 then 0 else 1, if inB many 0 100 then 0 else 1] = tpE t p l month many := by
  rw [fE3]
  unfold tpE monE
  by_cases h1 : useE t p l = 0
  · rw [if_pos h1, if_pos h1]
  · rw [if_neg h1, if_neg h1, if_neg h1]
theorem cp_right {t u : TfV} {p : List PyV} {l : List RcV} {month : Int} (h : cpE t u p l month = 0) : tarE t = 0 ∧ tarE u = 0 ∧ pysE p = 0 ∧ rcsE l = 0 := by
  unfold cpE at h
  by_cases h1 : tarE t = 0
  · rw [if_pos h1] at h
    obtain ⟨y1, y2, y3⟩ := use_right (mon_right h).1
    exact ⟨h1, y1, y2, y3⟩
  · rw [if_neg h1] at h; exact absurd h h1
theorem tp_right {t : TfV} {p : List PyV} {l : List RcV} {month many : Int} (h : tpE t p l month many = 0) : monE t p l month = 0 ∧ (0 ≤ many ∧ many ≤ 100) := by
  unfold tpE at h
  by_cases h1 : monE t p l month = 0
  · rw [if_pos h1] at h
    cases hb : inB many 0 100
    · rw [hb] at h; exact absurd h (by decide)
    · unfold inB at hb
      exact ⟨h1, by simpa using hb⟩
  · rw [if_neg h1] at h; exact absurd h h1
set_option maxRecDepth 100000 in
set_option maxHeartbeats 16000000 in
theorem walk_TariffsCompared (a0 : Option Addr) (len cap : Nat) (zs : List Int) (W : World) (h : IsRow .i64 W a0 len cap zs) (ht : PwT W) :
    Calls Tryz.prog 3 #[.slice a0 len cap] W (fun e w' => e = .returned (.bool true) ∧ Below W.heap.size W w') := by
  have hs := str_new h
  obtain ⟨sb, hsb⟩ : ∃ sb, W.heap.size = sb := ⟨_, rfl⟩
  have HG := Lib.hid (show W.grownBy (W.alloc (.cells #[.slice a0 len cap, .int .i64 0] 25)) (some sb) from gr_alloc (gr_refl _ _) _)
  rw [hsb] at hs
  have hlt := hs.lt
  have HS := Lib.hid hs
  have HSB := Lib.hid hsb
  have HPW := Lib.hid ht
  clear h hs ht
  go_enter Tryz.func3, Tryz.ntmps3
  go_wp2_with fail
  refine (range_any sb 0 0 10 _ HS.out (by omega) (by omega) (by omega) (by omega)).mono ?_
  rintro e w1 ⟨v1, rfl, ⟨r1, hlo1, hhi1, rfl⟩, hs1, hg1⟩
  obtain ⟨many0, rfl⟩ : ∃ many0 : Nat, r1 = many0 := ⟨r1.toNat, by omega⟩
  have hmany0 : many0 ≤ 14 := by omega
  replace HS := Lib.hid hs1
  replace HG := Lib.hid (gr_same HG.out hg1)
  have z1 := hg1.size
  clear hs1 hg1 hlo1
  go_wp2_with fail
  refine (books_any sb _ many0 _ HS.out (by omega) hmany0).mono ?_
  rintro e w2 ⟨v2, rfl, ⟨cA, iA, cn, cc, en, ic, free, cl, ins, P, pn, pc, p, L, ln, lc, l, rfl, htf, hpy, hrc, hpn, hln⟩, hs2, hg2⟩
  obtain ⟨lo, hlo⟩ : ∃ lo, w1.heap.size = lo := ⟨_, rfl⟩
  rw [hlo] at htf hpy hrc
  rw [use_first]
  have zlo : sb < lo := by have := HS.out.lt; omega
  replace HS := Lib.hid hs2
  replace HG := Lib.hid (gr_same HG.out hg2)
  have z2 := hg2.size
  clear hs2 hg2 hhi1
  obtain ⟨UE, hUE⟩ : ∃ E, useE ⟨cA, cn, cc, free, iA, en, ic, cl, ins⟩ p l = E := ⟨_, rfl⟩
  rw [hUE]
  have HUE := Lib.hid hUE; clear hUE
  obtain ⟨w3, hw3⟩ : ∃ w3, w2.alloc (.cells #[.slice cA cn cc, .int .i64 free, .slice iA en ic] 29) = w3 := ⟨_, rfl⟩
  obtain ⟨tb, htb⟩ : ∃ tb, w2.heap.size = tb := ⟨_, rfl⟩
  have HT := Lib.hid (show Blk w3 tb 29 #[.slice cA cn cc, .int .i64 free, .slice iA en ic] by rw [← hw3, ← htb]; exact Blk.new _ _ _)
  have ztb : sb < tb := by omega
  have hg23 : w2.grownBy w3 none := by rw [← hw3]; exact gr_alloc (gr_refl _ _) _
  have HTF := Lib.hid (htf.grown hg23 (fun g e => by cases e))
  have HPY := Lib.hid (hpy.grown hg23 (fun g e => by cases e))
  have HRC := Lib.hid (hrc.grown hg23 (fun g e => by cases e))
  replace HG := Lib.hid (gr_none HG.out hg23)
  replace HS := Lib.hid (show Str w3 sb _ by rw [← hw3]; exact HS.out.alloc _)
  have z3 := hg23.size
  go_upto_region 3 with (fail)
  (try rw [hw3])
  (try rw [htb])
  clear hw3 htb htf hpy hrc hg23
  go_wp2_with fail
  refine (tariff_any sb _ _ HS.out (by omega)).mono ?_
  rintro e w4 ⟨v4, rfl, ⟨⟨dA, dn, dc, gfree, jA, gn, jc, dl, jns⟩, rfl, hgt, hdn, hgn⟩, hs4, hg4⟩
  have HTF2 := Lib.hid (hgt.ok.lower (lo' := lo) (by omega))
  have z4 := hg4.size
  replace HS := Lib.hid hs4
  replace HG := Lib.hid (gr_same HG.out hg4)
  replace HT := Lib.hid (HT.out.grown hg4 (by simp; omega))
  replace HTF := Lib.hid (HTF.out.grown hg4 (fun g e => by injection e with e; omega)); replace HPY := Lib.hid (HPY.out.grown hg4 (fun g e => by injection e with e; omega)); replace HRC := Lib.hid (HRC.out.grown hg4 (fun g e => by injection e with e; omega))
  dsimp only at hdn hgn
  clear hgt hs4 hg4
  go_wp2_with fail
  refine (pick_new sb _ [0, 0, 1, -1, 133] _ HS.out (by omega) (by simp) rfl rfl (by simp) (by simp)).mono ?_
  rintro e w5 ⟨v5, rfl, ⟨month, hmo, rfl⟩, hs5, hg5⟩
  have z5 := hg5.size
  replace HS := Lib.hid hs5
  replace HG := Lib.hid (gr_same HG.out hg5)
  replace HT := Lib.hid (HT.out.grown hg5 (by simp; omega))
  replace HTF := Lib.hid (HTF.out.grown hg5 (fun g e => by injection e with e; omega)); replace HTF2 := Lib.hid (HTF2.out.grown hg5 (fun g e => by injection e with e; omega)); replace HPY := Lib.hid (HPY.out.grown hg5 (fun g e => by injection e with e; omega)); replace HRC := Lib.hid (HRC.out.grown hg5 (fun g e => by injection e with e; omega))
  clear hs5 hg5 hmo
  go_wp2_with fail
  refine (pick_new sb _ [0, 1, 3, 100, -1, 101] _ HS.out (by omega) (by simp) rfl rfl (by simp) (by simp)).mono ?_
  rintro e w6 ⟨v6, rfl, ⟨many, hma, rfl⟩, hs6, hg6⟩
  have z6 := hg6.size
  replace HG := Lib.hid (gr_same HG.out hg6)
  replace HT := Lib.hid (HT.out.grown hg6 (by simp; omega))
  replace HTF := Lib.hid (HTF.out.grown hg6 (fun g e => by injection e with e; omega)); replace HTF2 := Lib.hid (HTF2.out.grown hg6 (fun g e => by injection e with e; omega)); replace HPY := Lib.hid (HPY.out.grown hg6 (fun g e => by injection e with e; omega)); replace HRC := Lib.hid (HRC.out.grown hg6 (fun g e => by injection e with e; omega))
  clear hs6 hg6 hma HS
  obtain ⟨wv, hwv⟩ : ∃ v, w6.alloc (.cells #[.slice dA dn dc, .int .i64 gfree, .slice jA gn jc] 29) = v := ⟨_, rfl⟩
  obtain ⟨ub, hub⟩ : ∃ b, w6.heap.size = b := ⟨_, rfl⟩
  have HT2 := Lib.hid (show Blk wv ub 29 #[.slice dA dn dc, .int .i64 gfree, .slice jA gn jc] by rw [← hwv, ← hub]; exact Blk.new _ _ _)
  have hg7 : w6.grownBy wv none := by rw [← hwv]; exact gr_alloc (gr_refl _ _) _
  replace HG := Lib.hid (gr_none HG.out hg7)
  replace HT := Lib.hid (HT.out.grown hg7 (by simp))
  replace HTF := Lib.hid (HTF.out.grown hg7 (fun g e => by cases e)); replace HTF2 := Lib.hid (HTF2.out.grown hg7 (fun g e => by cases e)); replace HPY := Lib.hid (HPY.out.grown hg7 (fun g e => by cases e)); replace HRC := Lib.hid (HRC.out.grown hg7 (fun g e => by cases e))
  go_upto_region 4 with (fail)
  (try rw [hwv])
  (try rw [hub])
  clear hwv hub hg7
  replace HPW := Lib.hid (HPW.out.low HG.out (fun g e => by injection e with e; have := HPW.out.lt; omega))
  have HV := Lib.hid (gr_refl wv none)
  obtain ⟨E1, hE1⟩ : ∃ E, cpE ⟨cA, cn, cc, free, iA, en, ic, cl, ins⟩ ⟨dA, dn, dc, gfree, jA, gn, jc, dl, jns⟩ p l month = E := ⟨_, rfl⟩
  obtain ⟨E2, hE2⟩ : ∃ E, tpE ⟨cA, cn, cc, free, iA, en, ic, cl, ins⟩ p l month many = E := ⟨_, rfl⟩
  obtain ⟨MV, hMV⟩ : ∃ E : Int, (if inB month 0 132 then (0 : Int) else 1) = E := ⟨_, rfl⟩
  obtain ⟨MN, hMN⟩ : ∃ E : Int, (if inB many 0 100 then (0 : Int) else 1) = E := ⟨_, rfl⟩
  obtain ⟨X1, hX1⟩ : ∃ E, tarE ⟨cA, cn, cc, free, iA, en, ic, cl, ins⟩ = E := ⟨_, rfl⟩
  obtain ⟨X2, hX2⟩ : ∃ E, tarE ⟨dA, dn, dc, gfree, jA, gn, jc, dl, jns⟩ = E := ⟨_, rfl⟩
  obtain ⟨X3, hX3⟩ : ∃ E, pysE p = E := ⟨_, rfl⟩
  obtain ⟨X4, hX4⟩ : ∃ E, rcsE l = E := ⟨_, rfl⟩
  have HFE := Lib.hid (show firstE [X1, X2, X3, X4, MV] = E1 by rw [← hE1, ← hX1, ← hX2, ← hX3, ← hX4, ← hMV]; exact cp_first _ _ _ _ _)
  have HFT := Lib.hid (show firstE [UE, MV, MN] = E2 by rw [← hE2, ← HUE.out, ← hMV, ← hMN]; exact tp_first _ _ _ _ _)
  obtain ⟨EB1, hEB1⟩ : ∃ b, (E1 == 0) = b := ⟨_, rfl⟩
  obtain ⟨EB2, hEB2⟩ : ∃ b, (E2 == 0) = b := ⟨_, rfl⟩
  obtain ⟨CL, hCL⟩ : ∃ v, cpL ⟨cA, cn, cc, free, iA, en, ic, cl, ins⟩ ⟨dA, dn, dc, gfree, jA, gn, jc, dl, jns⟩ p l month = v := ⟨_, rfl⟩
  have HE1 := Lib.hid hE1; have HE2 := Lib.hid hE2; have HMV := Lib.hid hMV; have HMN := Lib.hid hMN; have HA1 := Lib.hid hX1; have HA2 := Lib.hid hX2; have HA3 := Lib.hid hX3; have HA4 := Lib.hid hX4; have HB1 := Lib.hid hEB1; have HB2 := Lib.hid hEB2; have HCL := Lib.hid hCL
  clear hE1 hE2 hMV hMN hX1 hX2 hX3 hX4 hEB1 hEB2 hCL
  go_wp2_with (first
    | (refine wpl_load_all Tryz.tfT rfl _ rfl _ rfl _ _ HT.out rfl ?_)
    | (refine wpl_load_all Tryz.tfT rfl _ rfl _ rfl _ _ HT2.out rfl ?_)
    | fail)
  refine (compare_any lo cA iA cn cc en ic free cl ins dA jA dn dc gn jc gfree dl jns P pn pc p L ln lc l month _ HTF.out HTF2.out HPY.out HRC.out (by omega) (by omega) HPW.out).mono ?_
  rintro e w7 ⟨aA, aN, aC, rfl, hown, hg7⟩
  rw [HE1.out]
  rw [HCL.out] at hown
  have haN : aN ≤ 1000 := by
    rw [← hown.2, ← HCL.out]
    unfold cpL
    split
    · exact Nat.le_trans (List.length_filterMap_le _ _) (by rw [HPY.out.1.len]; omega)
    · exact Nat.zero_le _
  have HXA := Lib.hid (hown.recs.lower (Nat.zero_le _))
  clear hown
  replace HV := Lib.hid (gr_none HV.out hg7)
  replace HT := Lib.hid (HT.out.grown hg7 (by simp))
  replace HT2 := Lib.hid (HT2.out.grown hg7 (by simp))
  clear hg7
  go_wp2_with (first
    | (refine wpl_load_all Tryz.tfT rfl _ rfl _ rfl _ _ HT.out rfl ?_)
    | (refine wpl_load_all Tryz.tfT rfl _ rfl _ rfl _ _ HT2.out rfl ?_)
    | fail)
  refine (top_any lo cA iA cn cc en ic free cl ins P pn pc p L ln lc l month many _ (HTF.out.grown HV.out (fun g e => by cases e)) (HPY.out.grown HV.out (fun g e => by cases e)) (HRC.out.grown HV.out (fun g e => by cases e)) (by omega) (by omega) (HPW.out.grown HV.out)).mono ?_
  rintro e w8 ⟨bA, bN, bC, r, rfl, hrec, hg8, hr0, hr1, hbN⟩
  rw [HE2.out] at hr0 hr1 ⊢
  have HXB := Lib.hid (hrec.lower (Nat.zero_le _)); have HR0 := Lib.hid hr0; have HR1 := Lib.hid hr1
  clear hrec hr0 hr1
  replace HV := Lib.hid (gr_none HV.out hg8)
  replace HT := Lib.hid (HT.out.grown hg8 (by simp))
  replace HT2 := Lib.hid (HT2.out.grown hg8 (by simp))
  replace HXA := Lib.hid (HXA.out.grown hg8 (fun g e => by cases e))
  clear hg8
  go_upto_region 6 with (fail)
  go_cut [15] (fun v wx => v = .int .i64 MV ∧ w8.grownBy wx none)
  case first =>
    obtain ⟨V1, hV1⟩ : ∃ V, decide (month < 0) = V := ⟨_, rfl⟩
    obtain ⟨V2, hV2⟩ : ∃ V, decide (132 < month) = V := ⟨_, rfl⟩
    have HMM := Lib.hid (show (if V1 || V2 then (1 : Int) else 0) = MV by rw [← hV1, ← hV2, ← HMV.out]; exact when_inB _ _)
    cases V1
    · cases V2
      · have HX := Lib.hid (show MV = 0 by rw [← HMM.out]; rfl)
        go_wp2_with (first
          | (go_at_call 10; refine (whenE_any _ _ _).mono ?_; rintro e w' ⟨rfl, rfl⟩)
          | fail)
        go_meet
        exact ⟨by rw [HX.out], gr_refl _ _⟩
      · have HX := Lib.hid (show MV = 1 by rw [← HMM.out]; rfl)
        go_wp2_with (first
          | (go_at_call 10; refine (whenE_any _ _ _).mono ?_; rintro e w' ⟨rfl, rfl⟩)
          | fail)
        go_meet
        exact ⟨by rw [HX.out], gr_refl _ _⟩
    · have HX := Lib.hid (show MV = 1 by rw [← HMM.out]; rfl)
      go_wp2_with (first
        | (go_at_call 10; refine (whenE_any _ _ _).mono ?_; rintro e w' ⟨rfl, rfl⟩)
        | fail)
      go_meet
      exact ⟨by rw [HX.out], gr_refl _ _⟩
  case rest =>
    obtain ⟨rfl, hgk⟩ := hcut
    obtain ⟨wq, rfl⟩ : ∃ wq : World, wq = wc := ⟨_, rfl⟩
    replace HV := Lib.hid (gr_none HV.out hgk)
    replace HT := Lib.hid (HT.out.grown hgk (by simp))
    replace HT2 := Lib.hid (HT2.out.grown hgk (by simp))
    replace HXA := Lib.hid (HXA.out.grown hgk (fun g e => by cases e))
    replace HXB := Lib.hid (HXB.out.grown hgk (fun g e => by cases e))
    clear hgk
    go_upto_region 7 with (fail)
    refine H_begin (fun w' => wq.grownBy w' none) (by kernel_rfl) ?_
    have hHeld : wq.grownBy wq.drew none := gr_drew (gr_refl _ _)
    generalize wq.drew = wd at hHeld ⊢
    refine H_take (k := 0) (v := .agg #[.slice cA cn cc, .int .i64 free, .slice iA en ic]) (by rfl) (by kernel_rfl) (by kernel_rfl) (by kernel_rfl) (by exact fun _ _ _ h => h) (by rfl) (fun w' hSw => exec_ldb Tryz.tfT _ rfl _ rfl 29 [.slice cA cn cc, .int .i64 free, .slice iA en ic] (HT.out.grown hSw (by simp)) rfl) (by assumption) ?_
    (try simp only [Act.put, List.setIfInBounds_toArray, List.set_cons_zero, List.set_cons_succ])
    refine H_take (k := 2) (v := .agg #[.slice dA dn dc, .int .i64 gfree, .slice jA gn jc]) (by rfl) (by kernel_rfl) (by kernel_rfl) (by kernel_rfl) (by exact fun _ _ _ h => h) (by rfl) (fun w' hSw => exec_ldb Tryz.tfT _ rfl _ rfl 29 [.slice dA dn dc, .int .i64 gfree, .slice jA gn jc] (HT2.out.grown hSw (by simp)) rfl) (by assumption) ?_
    (try simp only [Act.put, List.setIfInBounds_toArray, List.set_cons_zero, List.set_cons_succ])
    refine H_take (k := 4) (v := ?_) (by rfl) (by kernel_rfl) (by kernel_rfl) (by kernel_rfl) (by exact fun _ _ _ h => h) (by rfl) ?_ (by assumption) ?_
    rotate_left 1
    · intro w hSw
      (try dsimp only at hSw)
      go_simp
      (try with_reducible rfl)
    (try simp only [Act.put, List.setIfInBounds_toArray, List.set_cons_zero, List.set_cons_succ])
    refine H_take (k := 6) (v := ?_) (by rfl) (by kernel_rfl) (by kernel_rfl) (by kernel_rfl) (by exact fun _ _ _ h => h) (by rfl) ?_ (by assumption) ?_
    rotate_left 1
    · intro w hSw
      (try dsimp only at hSw)
      go_simp
      (try with_reducible rfl)
    (try simp only [Act.put, List.setIfInBounds_toArray, List.set_cons_zero, List.set_cons_succ])
    refine H_take (k := 8) (v := ?_) (by rfl) (by kernel_rfl) (by kernel_rfl) (by kernel_rfl) (by exact fun _ _ _ h => h) (by rfl) ?_ (by assumption) ?_
    rotate_left 1
    · intro w hSw
      (try dsimp only at hSw)
      go_simp
      (try with_reducible rfl)
    (try simp only [Act.put, List.setIfInBounds_toArray, List.set_cons_zero, List.set_cons_succ])
    refine H_run (k := 1) (by rfl) (by kernel_rfl) (by rfl) (fun K hK => ?_)
    go_simp
    refine (tariffFault_any lo ⟨cA, cn, cc, free, iA, en, ic, cl, ins⟩ _ (HTF.out.grown (gr_none HV.out hHeld) (fun g e => by cases e))).mono ?_
    rintro e w' ⟨rfl, hg9⟩
    rw [HA1.out]
    have hh1 := gr_none hHeld hg9
    refine hK _ _ hh1 ?_
    clear hK K hHeld hg9
    have hHeld := hh1
    clear hh1
    (try simp only [Act.put, List.setIfInBounds_toArray, List.set_cons_zero, List.set_cons_succ])
    refine H_run (k := 3) (by rfl) (by kernel_rfl) (by rfl) (fun K hK => ?_)
    go_simp
    refine (tariffFault_any lo ⟨dA, dn, dc, gfree, jA, gn, jc, dl, jns⟩ _ (HTF2.out.grown (gr_none HV.out hHeld) (fun g e => by cases e))).mono ?_
    rintro e w' ⟨rfl, hg9⟩
    rw [HA2.out]
    have hh1 := gr_none hHeld hg9
    refine hK _ _ hh1 ?_
    clear hK K hHeld hg9
    have hHeld := hh1
    clear hh1
    (try simp only [Act.put, List.setIfInBounds_toArray, List.set_cons_zero, List.set_cons_succ])
    refine H_run (k := 5) (by rfl) (by kernel_rfl) (by rfl) (fun K hK => ?_)
    go_simp
    refine (payersFault_any lo P pn pc p _ (HPY.out.grown (gr_none HV.out hHeld) (fun g e => by cases e)) (by omega)).mono ?_
    rintro e w' ⟨rfl, hg9⟩
    rw [HA3.out]
    have hh1 := gr_none hHeld hg9
    refine hK _ _ hh1 ?_
    clear hK K hHeld hg9
    have hHeld := hh1
    clear hh1
    (try simp only [Act.put, List.setIfInBounds_toArray, List.set_cons_zero, List.set_cons_succ])
    refine H_run (k := 7) (by rfl) (by kernel_rfl) (by rfl) (fun K hK => ?_)
    go_simp
    refine (recordsFault_any lo L ln lc l _ (HRC.out.grown (gr_none HV.out hHeld) (fun g e => by cases e)) (by omega)).mono ?_
    rintro e w' ⟨rfl, hg9⟩
    rw [HA4.out]
    have hh1 := gr_none hHeld hg9
    refine hK _ _ hh1 ?_
    clear hK K hHeld hg9
    have hHeld := hh1
    clear hh1
    (try simp only [Act.put, List.setIfInBounds_toArray, List.set_cons_zero, List.set_cons_succ])
    refine H_run (k := 9) (by rfl) (by kernel_rfl) (by rfl) (fun K hK => ?_)
    go_simp
    obtain ⟨w9, hw9⟩ : ∃ v, World.alloc w' (.cells #[.int .i64 X1, .int .i64 X2, .int .i64 X3, .int .i64 X4, .int .i64 MV] 32) = v := ⟨_, rfl⟩
    obtain ⟨eb, heb⟩ : ∃ b, w'.heap.size = b := ⟨_, rfl⟩
    have HEBK := Lib.hid (show Blk w9 eb 32 #[.int .i64 X1, .int .i64 X2, .int .i64 X3, .int .i64 X4, .int .i64 MV] by rw [← hw9, ← heb]; exact Blk.new _ _ _)
    have hh3 : wq.grownBy w9 none := by rw [← hw9]; exact gr_alloc hHeld _
    (try rw [hw9])
    (try rw [heb])
    refine hK _ _ hh3 ?_
    clear hK K hHeld hw9 heb
    have hHeld := hh3
    clear hh3
    (try simp only [Act.put, List.setIfInBounds_toArray, List.set_cons_zero, List.set_cons_succ])
    refine H_run (k := 10) (by rfl) (by kernel_rfl) (by rfl) (fun K hK => ?_)
    go_simp
    refine same_calls (errs_run 0 _ 5 5 [X1, X2, X3, X4, MV] _ (by exact (Reads.blk HEBK.out 1 5 rfl).lower (Nat.zero_le _)) (by omega)) ?_
    rw [HFE.out]
    refine hK _ _ (by exact hHeld) ?_
    clear hK K HEBK
    (try simp only [Act.put, List.setIfInBounds_toArray, List.set_cons_zero, List.set_cons_succ])
    refine H_take (k := 11) (v := ?_) (by rfl) (by kernel_rfl) (by kernel_rfl) (by kernel_rfl) (by exact fun _ _ _ h => h) (by rfl) ?_ (by assumption) ?_
    rotate_left 1
    · intro w hSw
      (try dsimp only at hSw)
      go_simp
      (try with_reducible rfl)
    (try simp only [Act.put, List.setIfInBounds_toArray, List.set_cons_zero, List.set_cons_succ])
    refine H_done (by kernel_rfl) ?_
    have hg9 := hHeld
    clear hHeld

    replace HV := Lib.hid (gr_none HV.out hg9)
    replace HT := Lib.hid (HT.out.grown hg9 (by simp))
    replace HT2 := Lib.hid (HT2.out.grown hg9 (by simp))
    replace HXA := Lib.hid (HXA.out.grown hg9 (fun g e => by cases e))
    replace HXB := Lib.hid (HXB.out.grown hg9 (fun g e => by cases e))
    clear hg9
    go_upto_region 8 with (fail)
    go_cut [17] (fun v wx => v = .int .i64 E2 ∧ w9.grownBy wx none)
    case first =>
      obtain ⟨V1, hV1⟩ : ∃ V, decide (many < 0) = V := ⟨_, rfl⟩
      obtain ⟨V2, hV2⟩ : ∃ V, decide (100 < many) = V := ⟨_, rfl⟩
      have HMM := Lib.hid (show (if V1 || V2 then (1 : Int) else 0) = MN by rw [← hV1, ← hV2, ← HMN.out]; exact when_inB _ _)
      cases V1
      · cases V2
        · have HX := Lib.hid (show firstE [UE, MV, 0] = E2 by rw [← HFT.out, ← HMM.out]; rfl)
          go_wp2_with (first
            | (go_at_call 10; refine (whenE_any _ _ _).mono ?_; rintro e w' ⟨rfl, rfl⟩)
            | fail)
          refine (errs_new (n := 3) [UE, MV, 0] _ rfl (by simp) rfl (by omega)).mono ?_
          rintro e w8 ⟨rfl, hg8⟩
          rw [HX.out]
          have HG8 := Lib.hid hg8; clear hg8
          go_wp2_with fail
          go_meet
          exact ⟨rfl, HG8.out⟩
        · have HX := Lib.hid (show firstE [UE, MV, 1] = E2 by rw [← HFT.out, ← HMM.out]; rfl)
          go_wp2_with (first
            | (go_at_call 10; refine (whenE_any _ _ _).mono ?_; rintro e w' ⟨rfl, rfl⟩)
            | fail)
          refine (errs_new (n := 3) [UE, MV, 1] _ rfl (by simp) rfl (by omega)).mono ?_
          rintro e w8 ⟨rfl, hg8⟩
          rw [HX.out]
          have HG8 := Lib.hid hg8; clear hg8
          go_wp2_with fail
          go_meet
          exact ⟨rfl, HG8.out⟩
      · have HX := Lib.hid (show firstE [UE, MV, 1] = E2 by rw [← HFT.out, ← HMM.out]; rfl)
        go_wp2_with (first
          | (go_at_call 10; refine (whenE_any _ _ _).mono ?_; rintro e w' ⟨rfl, rfl⟩)
          | fail)
        refine (errs_new (n := 3) [UE, MV, 1] _ rfl (by simp) rfl (by omega)).mono ?_
        rintro e w8 ⟨rfl, hg8⟩
        rw [HX.out]
        have HG8 := Lib.hid hg8; clear hg8
        go_wp2_with fail
        go_meet
        exact ⟨rfl, HG8.out⟩
    case rest =>
      obtain ⟨rfl, hgk⟩ := hcut
      obtain ⟨wk, rfl⟩ : ∃ wk : World, wk = wc := ⟨_, rfl⟩
      replace HV := Lib.hid (gr_none HV.out hgk)
      replace HT := Lib.hid (HT.out.grown hgk (by simp))
      replace HT2 := Lib.hid (HT2.out.grown hgk (by simp))
      replace HXA := Lib.hid (HXA.out.grown hgk (fun g e => by cases e))
      replace HXB := Lib.hid (HXB.out.grown hgk (fun g e => by cases e))
      clear hgk
      go_upto_if 88 with (fail)
      rw [HB1.out]
      go_cut [18] (fun v wx => ∃ (B : Option Addr) (m c : Nat), v = .slice B m c ∧ Recs PaV.row 2 wx 0 B m c CL ∧ wk.grownBy wx none)
      case first =>
        cases EB1
        · have hne : cpE ⟨cA, cn, cc, free, iA, en, ic, cl, ins⟩ ⟨dA, dn, dc, gfree, jA, gn, jc, dl, jns⟩ p l month ≠ 0 := by rw [HE1.out]; exact beq_eq_false_iff_ne.1 HB1.out
          have hcl : CL = [] := by rw [← HCL.out]; exact if_neg hne
          subst hcl
          clear hne
          go_wp2_with fail
          go_meet
          exact ⟨none, 0, 0, rfl, Recs.nil, gr_refl _ _⟩
        · have hz : cpE ⟨cA, cn, cc, free, iA, en, ic, cl, ins⟩ ⟨dA, dn, dc, gfree, jA, gn, jc, dl, jns⟩ p l month = 0 := by rw [HE1.out]; exact eq_of_beq HB1.out
          have hcl : CL = cmpPs (chgAll ⟨cA, cn, cc, free, iA, en, ic, cl, ins⟩ p month l) (chgAll ⟨dA, dn, dc, gfree, jA, gn, jc, dl, jns⟩ p month l) p := by rw [← HCL.out]; exact if_pos hz
          obtain ⟨y1, y2, y3, y4⟩ := cp_right hz
          have HU1 := Lib.hid (show UseOk wk lo ⟨cA, cn, cc, free, iA, en, ic, cl, ins⟩ P pn pc p L ln lc l from ⟨(HTF.out.grown HV.out (fun g e => by cases e)), (HPY.out.grown HV.out (fun g e => by cases e)), (HRC.out.grown HV.out (fun g e => by cases e)), y1, y3, y4⟩)
          have HU2 := Lib.hid (show UseOk wk lo ⟨dA, dn, dc, gfree, jA, gn, jc, dl, jns⟩ P pn pc p L ln lc l from ⟨(HTF2.out.grown HV.out (fun g e => by cases e)), (HPY.out.grown HV.out (fun g e => by cases e)), (HRC.out.grown HV.out (fun g e => by cases e)), y2, y3, y4⟩)
          have HCC := Lib.hid hcl
          clear hz hcl y1 y2 y3 y4
          go_wp2_with (first
            | (refine wpl_load_all Tryz.tfT rfl _ rfl _ rfl _ _ HT.out rfl ?_)
            | (refine wpl_load_all Tryz.tfT rfl _ rfl _ rfl _ _ HT2.out rfl ?_)
            | fail)
          refine (compareOf_any lo cA iA cn cc en ic free cl ins dA jA dn dc gn jc gfree dl jns P pn pc p L ln lc l month _ HU1.out HU2.out (by omega) (HPW.out.grown HV.out)).mono ?_
          rintro e wb ⟨B, m, c, rfl, hown, hgb⟩
          have HOW := Lib.hid hown; have HGB := Lib.hid hgb
          clear hown hgb
          go_wp2_with fail
          go_meet
          exact ⟨B, m, c, rfl, by rw [HCC.out]; exact HOW.out.recs.lower (Nat.zero_le _), HGB.out⟩
      case rest =>
        obtain ⟨B1, m1, c1, rfl, hrec, hgk⟩ := hcut
        obtain ⟨wl, rfl⟩ : ∃ wl : World, wl = wc := ⟨_, rfl⟩
        have HY1 := Lib.hid hrec
        clear hrec HB1 HCL
        replace HV := Lib.hid (gr_none HV.out hgk)
        replace HT := Lib.hid (HT.out.grown hgk (by simp))
        replace HT2 := Lib.hid (HT2.out.grown hgk (by simp))
        replace HXA := Lib.hid (HXA.out.grown hgk (fun g e => by cases e))
        replace HXB := Lib.hid (HXB.out.grown hgk (fun g e => by cases e))
        clear hgk
        go_upto_if 96 with (fail)
        rw [HB2.out]
        go_cut [19] (fun v wx => ∃ (B : Option Addr) (m c : Nat), v = .slice B m c ∧ Recs PaV.row 2 wx 0 B m c r ∧ wl.grownBy wx none)
        case first =>
          cases EB2
          · have hne : E2 ≠ 0 := beq_eq_false_iff_ne.1 HB2.out
            have hr := HR1.out hne
            subst hr
            clear hne
            go_wp2_with fail
            go_meet
            exact ⟨none, 0, 0, rfl, Recs.nil, gr_refl _ _⟩
          · have hz2 : E2 = 0 := eq_of_beq HB2.out
            have hz : tpE ⟨cA, cn, cc, free, iA, en, ic, cl, ins⟩ p l month many = 0 := by rw [HE2.out]; exact hz2
            obtain ⟨s, a, ht1, hp1, ha1, hrr⟩ := HR0.out hz2
            obtain ⟨hm0, hmy⟩ := tp_right hz
            obtain ⟨hu, -⟩ := mon_right hm0
            obtain ⟨y1, y2, y3⟩ := use_right hu
            have HU1 := Lib.hid (show UseOk wl lo ⟨cA, cn, cc, free, iA, en, ic, cl, ins⟩ P pn pc p L ln lc l from ⟨(HTF.out.grown HV.out (fun g e => by cases e)), (HPY.out.grown HV.out (fun g e => by cases e)), (HRC.out.grown HV.out (fun g e => by cases e)), y1, y2, y3⟩)
            have HT1 := Lib.hid ht1; have HP1 := Lib.hid hp1; have HAS1 := Lib.hid ha1; have HRR := Lib.hid hrr
            clear hz hz2 hm0 hu y1 y2 y3 ht1 hp1 ha1 hrr
            go_wp2_with (first
              | (refine wpl_load_all Tryz.tfT rfl _ rfl _ rfl _ _ HT.out rfl ?_)
              | (refine wpl_load_all Tryz.tfT rfl _ rfl _ rfl _ _ HT2.out rfl ?_)
              | fail)
            refine (topOf_any lo cA iA cn cc en ic free cl ins P pn pc p L ln lc l month many _ HU1.out (by omega) hmy (HPW.out.grown HV.out)).mono ?_
            rintro e wb ⟨B, m, c, s2, a2, rfl, ht2, hp2, ha2, hrec2, hgb, _⟩
            have HSE := Lib.hid (top_one HT1.out ht2 HP1.out hp2 HAS1.out ha2)
            have HRX := Lib.hid hrec2; have HGB := Lib.hid hgb
            clear ht2 hp2 ha2 hrec2 hgb
            go_wp2_with fail
            go_meet
            exact ⟨B, m, c, rfl, by rw [HRR.out, HSE.out]; exact HRX.out.lower (Nat.zero_le _), HGB.out⟩
        case rest =>
          obtain ⟨B2, m2, c2, rfl, hrec, hgk⟩ := hcut
          obtain ⟨wz, rfl⟩ : ∃ wz : World, wz = wc := ⟨_, rfl⟩
          have HY2 := Lib.hid hrec
          clear hrec HB2 HR0 HR1
          replace HV := Lib.hid (gr_none HV.out hgk)
          replace HXA := Lib.hid (HXA.out.grown hgk (fun g e => by cases e))
          replace HXB := Lib.hid (HXB.out.grown hgk (fun g e => by cases e))
          replace HY1 := Lib.hid (HY1.out.grown hgk (fun g e => by cases e))
          clear hgk
          have q1 : (E1 == E1) = true := beq_self_eq_true _
          have q2 : (E2 == E2) = true := beq_self_eq_true _
          go_wp2_with fail
          refine (equalPa_same 0 0 aA B1 _ _ _ _ _ _ HXA.out HY1.out (by omega)).mono ?_
          rintro e wd ⟨rfl, k1, rfl⟩
          go_wp2_with fail
          refine (equalPa_same 0 0 bA B2 _ _ _ _ _ _ (HXB.out.grown (gr_drewN (gr_refl _ none) _) (fun g e => by cases e)) (HY2.out.grown (gr_drewN (gr_refl _ none) _) (fun g e => by cases e)) (by omega)).mono ?_
          rintro e wd ⟨rfl, k2, rfl⟩
          replace HV := Lib.hid (gr_drewN HV.out (k1 + k2))
          go_wp2_with (first
            | (go_at_call 18; refine (accounted_true _).mono ?_; rintro e wz ⟨rfl, hgz⟩; have HGZ := Lib.hid hgz; clear hgz)
            | fail)
          go_ret
          refine ⟨rfl, ?_⟩
          have hfin := gr_none (gr_none HG.out HV.out) HGZ.out
          rw [← HSB.out] at hfin
          exact below_of_gr hfin
/-! The row's frame, the world's shape kept. -/
section
variable {H : Type} {enc : TypeId × Value → H}
theorem rih_shape {a : Assume} {C : Checked} {os : Os} {f : FuncId} {fn : Func} {s : ChangeSpec} {conds : List PathCond} {apart fresh handsOn again : Bool} {X : World → Array Value → Prop}
    (hX : ∀ (w w' : World) (args : Array Value), w.heap = w'.heap → X w args → X w' args)
    (own : ownKnob C.prog.godebug = none) (started : os.Started) (noInit : C.prog.inits.idxOf? f = none) (hfn : C.prog.funcs[f]? = some fn)
    (witness : ∃ (w : World) (tape : Tape) (i : Input), w.os = os ∧ (w.forCall tape i).Shaped C.prog ∧ i.vars = [] ∧ Input.okWide C.prog (w.forCall tape i) .any w.heap.size f i ∧
      ((s.pre enc C.prog fn conds apart (w.forCall tape i).memory i.args ∧ X (w.forCall tape i).memory i.args) ∧ sizedMet enc C.prog fn (OpenSpec.ofChange s) apart (w.forCall tape i).memory i.args) ∧ a.holds C.prog (lone (Frame.enter C.prog f i.args .normal) [] (w.forCall tape i)))
    (contract : ∀ (W : World) (base : Nat) (args : Array Value) (ds gs : List (DataW H)) (before : List MemPlace),
      (∀ (j : Nat) t v, fn.params[j]? = some t → args[j]? = some v → Value.okWide C.prog W .any base t v) →
      DataW.Whole enc C.prog fn.params.toList s.vars apart W args.toList ds gs before →
      X W args → W.ShapedOpen C.prog →
      Calls C.prog f args W fun e W' => ∃ v, e = .returned v ∧ s.post enc C.prog fn apart fresh handsOn again W args v W') :
    ReturnsInHanded a C os f .any (fun w args => (s.pre enc C.prog fn conds apart w args ∧ X w args) ∧ sizedMet enc C.prog fn (OpenSpec.ofChange s) apart w args) (s.post enc C.prog fn apart fresh handsOn again) := by
  refine returnsInHanded_of_calls own started noInit witness ?_
  intro w tape i _ hsh _ hok hpre _
  obtain ⟨_, _, _, fn', hfn', _, _, _, _, hval⟩ := hok
  obtain rfl : fn' = fn := Option.some.inj (hfn'.symm.trans hfn)
  obtain ⟨⟨⟨ds, gs, before, hw, _⟩, hx⟩, _⟩ := hpre
  refine (contract (w.forCall tape i) w.heap.size i.args ds gs before hval (DataW.Whole.of_heap (w' := w.forCall tape i) (by rfl) hw) (hX _ _ _ (by rfl) hx) hsh).mono fun e W' ⟨v, he, hp⟩ => ?_
  subst he
  exact ChangeSpec.post_blind hp
end
theorem gPw : Tryz.prog.globalNamed "internal/strconv.uint64pow10" = some 1 := by kernel_rfl
theorem tPw : (Tryz.prog.globals[1]?).map (·.type) = some 154 := by kernel_rfl
theorem laid_pw : (Rows.laid_internal_strconv_uint64pow10 : DataW Unit) = Lib.tabData .u64 Lib.pow10Tab := rfl
theorem met_TariffsCompared {W : World} (h : laidMetH Tryz.prog Rows.tariffsComparedRow.laid W) (_ : W.ShapedOpen Tryz.prog) : PwT W := by
  rw [MakeChecks.laidMetH_plain _ _ _ (by kernel_rfl)] at h
  obtain ⟨ps, ⟨_, _, _, _, _, _, _, _, _, _, ⟨_, _, _, _, _, _, _, _, _, _, ⟨g0, t0, cs0, f0, p0, q0, hg0, ht0, hv0, hd0, _⟩, _⟩, _⟩, _, _⟩ := h
  obtain rfl := Option.some.inj (gPw.symm.trans hg0)
  obtain rfl := Option.some.inj (tPw.symm.trans ht0)
  rw [laid_pw] at hd0
  show W.var? _ _ = _
  rw [hv0, ← Lib.cells_of_tab Tryz.underlying154 Tryz.underlying126 (by kernel_rfl) (by kernel_rfl) hd0]

theorem own_TariffsCompared : ownKnob Tryz.prog.godebug = none := by kernel_rfl
theorem laidOut_TariffsCompared : laidOutB Tryz.prog = true := by kernel_rfl
set_option maxRecDepth 100000 in
theorem lifted_TariffsCompared (os : Os) (started : os.Started) (H : Type) (enc : TypeId × Value → H) :
    ReturnsInHanded {} Tryz.checked os 3 .any (fun w args => (Rows.tariffsComparedSpec.pre enc Tryz.prog Tryz.f3 [] false w args ∧ laidMetH Tryz.prog Rows.tariffsComparedRow.laid w) ∧ sizedMet enc Tryz.prog Tryz.f3 (OpenSpec.ofChange Rows.tariffsComparedSpec) false w args) (Rows.tariffsComparedSpec.post enc Tryz.prog Tryz.f3 false true false false) := by
  refine rih_shape (C := Tryz.checked) (X := fun w _ => laidMetH Tryz.prog Rows.tariffsComparedRow.laid w) (fun _ _ _ hh h => h.of_heap hh) own_TariffsCompared started (by kernel_rfl) Tryz.func3
    (ChangeSpec.witness_shaped (enc := enc) (C := Tryz.checked) (os := os) (X := fun w _ => laidMetH Tryz.prog Rows.tariffsComparedRow.laid w) false (World.laidAll Tryz.prog os Rows.tariffsComparedRow.laid) #[.slice none 0 0] 8 (World.laidAll_os _ _ _) (World.shaped_of_ZipB (by kernel_rfl) (by kernel_rfl)) (by kernel_rfl) (by kernel_rfl) (by kernel_rfl)
      (by rw [MakeChecks.laidMetH_plain _ _ _ (by kernel_rfl)]; exact laidMet_laidAll _ (by kernel_rfl) (by kernel_rfl))) ?_
  intro W base args ds gs before hval0 hW hL hsh
  have hval : ∀ (j : Nat) t v, Tryz.f3.params[j]? = some t → args[j]? = some v → Value.okWide Tryz.prog W .any base t v := hval0
  have hW' := hW
  obtain ⟨p, q, hA0, hV, rfl, hfz, hnd⟩ := hW
  have hA : DataW.TrodAll enc Tryz.prog W 0 (fun _ => true) true Tryz.f3.params.toList args.toList ds p := hA0
  rw [Tryz.params3] at hA hval
  obtain ⟨v0, vs0, d0, ds0, p0, q0, hargs, rfl, rfl, h0, r0⟩ := trodAll_cons hA
  obtain ⟨rfl, rfl, rfl⟩ := trodAll_nil r0
  obtain rfl : args = #[v0] := by cases args; simp_all
  obtain ⟨rfl, rfl⟩ := trodVars_none hV
  obtain ⟨a0, len0, cap0, rfl⟩ := okWide_slice Tryz.underlying22 (hval 0 22 v0 rfl rfl)
  have k0 := h0
  have lt0 : ∀ x ∈ p0, x.block < W.heap.size := by obtain ⟨m, hm⟩ := k0; exact DataW.trod_lt m _ _ _ hm
  obtain ⟨z0, w0⟩ : ∃ zs, IsRow .i64 W a0 len0 cap0 zs := by
    obtain ⟨fuel, hf⟩ := h0
    rcases open_ints Tryz.underlying22 Tryz.underlying3 (by kernel_rfl) hf with ⟨hcs, _⟩ | ⟨x, l, c, zs, hcs, _, hl, hm, hz, _, hcell, hwz⟩
    · simp [Value.cells] at hcs
      obtain ⟨rfl, rfl, rfl⟩ := hcs
      exact ⟨[], .inl ⟨rfl, rfl, rfl, rfl⟩⟩
    · simp [Value.cells] at hcs
      obtain ⟨rfl, rfl, rfl⟩ := hcs
      exact ⟨zs, .inr ⟨_, rfl, hl, hm, by simpa using hz, hcell, hwz⟩⟩
  clear hA0 hval0
  refine (walk_TariffsCompared a0 len0 cap0 z0 W w0 (met_TariffsCompared hL hsh)).mono fun e W' ⟨he, bel⟩ => ?_
  subst he
  exact ⟨_, rfl, _, _, _, [], _, [], hW', trodAll_mk1 (shut_bool Tryz.underlying4 _), (trodAll_cons_mk (Below.trod laidOut_TariffsCompared (by kernel_rfl) (of_decide_eq_true (by kernel_rfl)) k0 bel lt0) trodAll_mk0), rfl, bel.frame _, fun h => by cases h⟩

theorem over_TariffsCompared : Rows.tariffsComparedRow.holds Tryz.pinned (OpenSpec.ofChange Rows.tariffsComparedSpec) :=
  OpenClaim.holds_of_wide 3 Tryz.f3 rfl rfl rfl rfl rfl rfl rfl ⟨rfl, rfl, rfl, rfl, rfl⟩ rfl rfl rfl rfl rfl (by kernel_rfl) Tryz.func3 (by kernel_rfl)
    (of_decide_eq_true (by kernel_rfl)) (by unfold Func.isWrapper; first | (rw [if_pos (by decide +kernel)]; kernel_rfl) | (rw [if_neg (by decide +kernel)]; exact ⟨rfl, rfl⟩))
    (fun os started H enc _ => lifted_TariffsCompared os started H enc)

theorem proved_TariffsCompared : Rows.TariffsComparedCardSaid :=
  Claim7.holds_tied_plain_at .later [] [.data, .data, .data, .data, .pinned] true Rows.tariffsComparedCard.stood.harness false
    over_TariffsCompared (fun _ h => by cases h) (by kernel_rfl) (fun _ h => by cases h) tariffsCompared_row_tie rfl ⟨rfl, rfl⟩ (by kernel_rfl) rfl
    (fun f fn hf hfn => by
      obtain rfl : f = 3 := Option.some.inj ((show Tryz.prog.funcNamed Rows.tariffsComparedRow.func = some 3 by kernel_rfl).symm.trans hf) |>.symm
      obtain rfl : fn = Tryz.f3 := (Option.some.inj (Tryz.func3.symm.trans hfn)).symm
      exact ⟨by kernel_rfl, fun j t ht => by
        rw [Tryz.params3] at ht
        have h3 : t = 22 := by
          rcases j with _ | j
          · simpa using ht.symm
          · simp at ht
        subst h3
        exact (show Tryz.prog.wantsStandIn 22 = false by kernel_rfl)⟩)
    (by kernel_rfl)
end Go.Proofs.YtlkibeckfpjccaaGreatDoor


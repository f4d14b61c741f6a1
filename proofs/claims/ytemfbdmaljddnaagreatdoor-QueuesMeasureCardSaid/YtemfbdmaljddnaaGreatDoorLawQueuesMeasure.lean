/- The law QueuesMeasure: Longest, Busy and Most are as specified for all callers, seats, agents and windows. Conditions: none beside the row's own. -/
import Derived.Test.YtemfbdmaljddnaaGreatDoorBun1
import Derived.Test.YtemfbdmaljddnaaGreatDoorBun4
import Derived.Test.YtemfbdmaljddnaaGreatDoorGenQue4
import Derived.Test.YtemfbdmaljddnaaGreatDoorMe1
import Derived.Test.YtemfbdmaljddnaaGreatDoorMe2
import Derived.Test.YtemfbdmaljddnaaGreatDoorMe5
import Derived.Test.YtemfbdmaljddnaaGreatDoorTie
import Derived.Test.YtemfbdmaljddnaaGreatDoorCards
import Derived.ChangeKeysEq
import Derived.ProofKit
import Derived.Lay
import Derived.OpenShut
import Derived.Stop.Joined
import Derived.SevenTiedAt
import Derived.LaidMore
import Derived.MakeChecks
import Derived.LaidHandle
namespace Go.Proofs.YtemfbdmaljddnaaGreatDoor
open Go.ChangeShapes Go.WideShapes Go.ChangeAt Go.RowKit

theorem Tryz.eqFr (p q : Int) (w : World) : (Op.equalIn 10000 52 (.agg #[.int .i64 p, .int .i64 q]) (.agg #[.int .i64 p, .int .i64 q])).run Tryz.prog w = .ok true w := by
  have hpI : ∀ (cs : Array Value) (j : Nat) (v : Value) (w : World), cs[j]? = some v → (part 3 cs j).run Tryz.prog w = .ok v w := by
    intro cs j v w h
    simp [part, isAgg, run_underlying Tryz.underlying3, h]
  have hI : ∀ (z : Int) (w : World), (Op.equalIn 9999 3 (.int .i64 z) (.int .i64 z)).run Tryz.prog w = .ok true w := fun z w => by
    rw [run_equalIn_int w 9998 3 .i64 .i64 _ _ Tryz.underlying3]; simp
  rw [run_equalIn_struct w 9999 _ _ _ (by kernel_rfl) (by kernel_rfl)]
  simp [Program.fieldsOf, Tryz.underlying52, Op.eqFields, hpI, hI]
/-- A number and the document's: alike if nothing is wrong; else the first error. -/
theorem longest_law (C : List CaV) (l : List SeV) (f t : Int) (D1 D2 D3 : Bool) (h1 : decide (f < 0) = D1) (h2 : decide (t < f) = D2) (h3 : decide (345686400000 < t) = D3) :
    ∃ N, longestV C l f t = twoV N (firstE [chkE C l, if (D1 || (D2 || D3)) = true then 1 else 0]) ∧
      (firstE [chkE C l, if (D1 || (D2 || D3)) = true then 1 else 0] = 0 → chkE C l = 0 ∧ winOkB f t = true ∧ N = lngN f t C l l.length) ∧ (firstE [chkE C l, if (D1 || (D2 || D3)) = true then 1 else 0] ≠ 0 → N = 0) := by
  have hw : winOkB f t = !(D1 || (D2 || D3)) := by
    rw [← h1, ← h2, ← h3]
    unfold winOkB
    by_cases a1 : f < 0 <;> by_cases a2 : t < f <;> by_cases a3 : 345686400000 < t <;> simp [a1, a2, a3] <;> omega
  unfold longestV
  rw [hw]
  simp only [firstE_cons, firstE_nil]
  by_cases h : chkE C l = 0
  · rw [if_pos h, if_pos h]
    cases hd : (D1 || (D2 || D3))
    · exact ⟨_, rfl, fun _ => ⟨h, rfl, rfl⟩, fun e => absurd rfl e⟩
    · exact ⟨0, rfl, fun e => absurd e (by decide), fun _ => rfl⟩
  · rw [if_neg h, if_neg h]
    exact ⟨0, rfl, fun e => absurd e h, fun _ => rfl⟩
theorem most_law (C : List CaV) (l : List SeV) : ∃ N, mostV C l = twoV N (chkE C l) ∧ (chkE C l = 0 → N = (mstN C l C.length : Int)) ∧ (chkE C l ≠ 0 → N = 0) := by
  unfold mostV
  by_cases h : chkE C l = 0
  · rw [if_pos h, h]; exact ⟨_, rfl, fun _ => rfl, fun e => absurd rfl e⟩
  · rw [if_neg h]; exact ⟨0, rfl, fun e => absurd e h, fun _ => rfl⟩
def AlikeB (two P Q E : Int) (D : Value) : Prop := (two = 0 → ∃ B : Bool, D = .tuple #[.agg #[.int .i64 P, .int .i64 Q], .bool B] ∧ E = if B then 0 else 8) ∧ (two ≠ 0 → P = 0 ∧ Q = 0 ∧ E = two)
theorem busy_both (a : AgV) (C : List CaV) (l : List SeV) : ∃ P Q E, busyV a C l = frV P Q E ∧ AlikeB (firstE [agsE [a], chkE C l]) P Q E (busyD a l) := by
  unfold busyV busyD AlikeB
  simp only [firstE_cons, firstE_nil]
  by_cases h : agsE [a] = 0
  · rw [if_pos h, if_pos h]
    by_cases h2 : chkE C l = 0
    · rw [if_pos h2, if_pos h2]
      by_cases h3 : longW (preW a) = 0
      · rw [if_pos h3, if_pos h3]; exact ⟨0, 0, 8, rfl, fun _ => ⟨false, rfl, rfl⟩, fun e => absurd rfl e⟩
      · rw [if_neg h3, if_neg h3]; exact ⟨_, _, 0, rfl, fun _ => ⟨true, rfl, rfl⟩, fun e => absurd rfl e⟩
    · rw [if_neg h2, if_neg h2]; exact ⟨0, 0, _, rfl, fun e => absurd e h2, fun _ => ⟨rfl, rfl, rfl⟩⟩
  · rw [if_neg h, if_neg h]; exact ⟨0, 0, _, rfl, fun e => absurd e h, fun _ => ⟨rfl, rfl, rfl⟩⟩
theorem first_two {a b : Int} (h : firstE [a, b] = 0) : a = 0 ∧ b = 0 := by
  rw [firstE_cons, firstE_cons, firstE_nil] at h
  by_cases c : a = 0
  · rw [if_pos c] at h
    refine ⟨c, ?_⟩
    by_cases d : b = 0
    · exact d
    · rw [if_neg d] at h; exact absurd h d
  · rw [if_neg c] at h; exact absurd h c
set_option maxRecDepth 100000 in
set_option maxHeartbeats 16000000 in
theorem walk_QueuesMeasure (a0 : Option Addr) (len cap : Nat) (zs : List Int) (W : World) (h : IsRow .i64 W a0 len cap zs) (_ht : True) :
    Calls Tryz.prog 3 #[.slice a0 len cap] W (fun e w' => e = .returned (.bool true) ∧ Below W.heap.size W w') := by
  have hs := str_new h
  obtain ⟨sb, hsb⟩ : ∃ sb, W.heap.size = sb := ⟨_, rfl⟩
  have HG := Lib.hid (show W.grownBy (W.alloc (.cells #[.slice a0 len cap, .int .i64 0] 25)) (some sb) from gr_alloc (gr_refl _ _) _)
  rw [hsb] at hs
  have hlt := hs.lt
  have HS := Lib.hid hs
  have HSB := Lib.hid hsb
  clear h hs
  go_enter Tryz.func3, Tryz.ntmps3
  go_wp2_with fail
  refine (callers_any sb _ 8 _ HS.out (by omega) (by omega) (by omega)).mono ?_
  rintro e w1 ⟨v1, rfl, ⟨cA, n, cc, C, rfl, hcas, hn⟩, hs1, hg1⟩
  replace HS := Lib.hid hs1
  replace HG := Lib.hid (gr_same HG.out hg1)

  have z1 := hg1.size
  clear hs1 hg1
  have HC := Lib.hid (hcas.cas)
  clear hcas
  go_wp2_with fail
  refine (agents_any sb _ _ HS.out (by omega)).mono ?_
  rintro e w2 ⟨v2, rfl, ⟨gA, ng, gc, L, rfl, hags, hng⟩, hs2, hg2⟩
  replace HS := Lib.hid hs2
  replace HG := Lib.hid (gr_same HG.out hg2)
  replace HC := Lib.hid (HC.out.grown hg2 (fun g e => by first | (cases e; done) | (injection e with e; omega)))
  have z2 := hg2.size
  clear hs2 hg2
  have HAG := Lib.hid hags
  clear hags
  have hn8 : n ≤ 8 := by simpa using hn
  obtain ⟨lo1, hlo1⟩ : ∃ lo, (W.alloc (.cells #[.slice a0 len cap, .int .i64 0] 25)).heap.size = lo := ⟨_, rfl⟩
  rw [hlo1] at HC hlt z1
  obtain ⟨lo3, hlo3⟩ : ∃ lo, w1.heap.size = lo := ⟨_, rfl⟩
  rw [hlo3] at HAG z1 z2
  clear hlo1 hn hlo3
  go_wp2_with fail
  refine (seats_any sb lo1 _ cA n cc C _ HS.out (by omega) HC.out hlt (by omega)).mono ?_
  rintro e w3 ⟨v3, rfl, ⟨sA, k, sc, l, rfl, hses, hk⟩, hs3, hg3⟩
  replace HS := Lib.hid hs3
  replace HG := Lib.hid (gr_same HG.out hg3)
  replace HC := Lib.hid (HC.out.grown hg3 (fun g e => by first | (cases e; done) | (injection e with e; omega)))
  replace HAG := Lib.hid (HAG.out.grown hg3 (fun g e => by first | (cases e; done) | (injection e with e; omega)))
  have z3 := hg3.size
  clear hs3 hg3
  have HSE := Lib.hid hses
  clear hses
  obtain ⟨lo2, hlo2⟩ : ∃ lo, w2.heap.size = lo := ⟨_, rfl⟩
  rw [hlo2] at HSE z2 z3
  have hl2 : sb < lo2 := by omega
  have hl3 : sb < lo3 := by omega
  clear hlo2
  go_wp2_with fail
  refine (pick_new sb _ [0, 5, 20] _ HS.out (by omega) rfl rfl rfl (by simp) (by simp)).mono ?_
  rintro e w4 ⟨v4, rfl, ⟨f1, hf1, rfl⟩, hs4, hg4⟩
  replace HS := Lib.hid hs4
  replace HG := Lib.hid (gr_same HG.out hg4)
  replace HC := Lib.hid (HC.out.grown hg4 (fun g e => by first | (cases e; done) | (injection e with e; omega)))
  replace HAG := Lib.hid (HAG.out.grown hg4 (fun g e => by first | (cases e; done) | (injection e with e; omega)))
  replace HSE := Lib.hid (HSE.out.grown hg4 (fun g e => by first | (cases e; done) | (injection e with e; omega)))
  have z4 := hg4.size
  clear hs4 hg4
  clear hf1
  go_wp2_with fail
  refine (pick_new sb _ [10, 30, 100] _ HS.out (by omega) rfl rfl rfl (by simp) (by simp)).mono ?_
  rintro e w5 ⟨v5, rfl, ⟨t1, ht1, rfl⟩, hs5, hg5⟩
  replace HS := Lib.hid hs5
  replace HG := Lib.hid (gr_same HG.out hg5)
  replace HC := Lib.hid (HC.out.grown hg5 (fun g e => by first | (cases e; done) | (injection e with e; omega)))
  replace HAG := Lib.hid (HAG.out.grown hg5 (fun g e => by first | (cases e; done) | (injection e with e; omega)))
  replace HSE := Lib.hid (HSE.out.grown hg5 (fun g e => by first | (cases e; done) | (injection e with e; omega)))
  have z5 := hg5.size
  clear hs5 hg5
  clear ht1
  obtain ⟨w5b, hw5b⟩ : ∃ v, w5.alloc (.cells #[.int .i64 f1, .int .i64 t1] 34) = v := ⟨_, rfl⟩
  obtain ⟨wb, hwb⟩ : ∃ b, w5.heap.size = b := ⟨_, rfl⟩
  have HW5 := Lib.hid hw5b; have HZ5 := Lib.hid hwb
  have YW := Lib.hid (show Blk w5b wb 34 #[.int .i64 f1, .int .i64 t1] by rw [← hw5b, ← hwb]; exact Blk.new _ _ _)
  have hgb5 : w5.grownBy w5b (some sb) := by rw [← hw5b]; exact gr_alloc (gr_refl _ _) _
  replace HS := Lib.hid (show Str w5b sb _ by rw [← hw5b]; exact HS.out.alloc _)
  have HG5 := Lib.hid hgb5
  have zw : sb < wb := by omega
  clear hw5b hgb5 hwb
  go_upto_region 4 with (fail)
  rw [HW5.out]
  (try rw [HZ5.out])
  clear HW5
  go_wp2_with fail
  refine (flip_any sb _ 12 _ HS.out (by omega) (by omega) (by omega)).mono ?_
  rintro e w6 ⟨v6, rfl, ⟨b6, rfl⟩, hs6, hg6⟩
  replace HS := Lib.hid hs6
  replace HG5 := Lib.hid (gr_same HG5.out hg6)
  replace YW := Lib.hid (YW.out.grown hg6 (by simp; omega))
  have z6 := YW.out.lt
  clear hs6 hg6
  go_upto_if 42 with (fail)
  have hz5 := HZ5.out
  go_cut [7] (fun v wx => ∃ f t : Int, v = .pointer (some ⟨wb, 0, none⟩) ∧ w5.grownBy wx (some sb) ∧ Blk wx wb 34 #[.int .i64 f, .int .i64 t])
  case first =>
    cases b6
    · go_wp2_with fail
      go_meet
      exact ⟨f1, t1, rfl, HG5.out, YW.out⟩
    · go_wp2_with fail
      refine (odd_any sb _ 0 50 _ HS.out (by omega) (by omega) (by omega) (by omega)).mono ?_
      rintro e w7 ⟨v7, rfl, ⟨f2, _, _, rfl⟩, hs7, hg7⟩
      replace HS := Lib.hid hs7
      replace HG5 := Lib.hid (gr_same HG5.out hg7)
      replace YW := Lib.hid (YW.out.grown hg7 (by simp; omega))
      clear hs7 hg7
      go_wp2_with fail
      refine (odd_any sb _ 0 100 _ HS.out (by omega) (by omega) (by omega) (by omega)).mono ?_
      rintro e w8 ⟨v8, rfl, ⟨t2, _, _, rfl⟩, hs8, hg8⟩
      replace HG5 := Lib.hid (gr_same HG5.out hg8)
      replace YW := Lib.hid (YW.out.grown hg8 (by simp; omega))
      clear hs8 hg8 HS
      go_wp2_with (first
        | (refine wpl_store_all Tryz.winT rfl _ _ rfl _ rfl _ _ _ rfl YW.out rfl rfl (by simp [Value.oneCell']) ?_
           intro wz hst
           have HST := Lib.hid hst; clear hst)
        | fail)
      go_meet
      exact ⟨f2, t2, rfl, gr_trans HG5.out HST.out.2.1 (fun g e => .inr (by injection e with e; omega)), HST.out.1⟩
  case rest =>
    obtain ⟨f, t, rfl, hg6, hy6⟩ := hcut
    obtain ⟨w7, rfl⟩ : ∃ w7 : World, w7 = wc := ⟨_, rfl⟩
    replace HG := Lib.hid (gr_same HG.out hg6)
    replace HC := Lib.hid (HC.out.grown hg6 (fun g e => by first | (cases e; done) | (injection e with e; omega)))
    replace HAG := Lib.hid (HAG.out.grown hg6 (fun g e => by first | (cases e; done) | (injection e with e; omega)))
    replace HSE := Lib.hid (HSE.out.grown hg6 (fun g e => by first | (cases e; done) | (injection e with e; omega)))
    replace YW := Lib.hid hy6
    clear hg6 hy6 HS HG5 HZ5 hz5 z6 b6 f1 t1
    obtain ⟨F, hF⟩ : ∃ F, chkE C l = F := ⟨_, rfl⟩
    obtain ⟨D1, hD1⟩ : ∃ S, decide (f < 0) = S := ⟨_, rfl⟩
    obtain ⟨D2, hD2⟩ : ∃ S, decide (t < f) = S := ⟨_, rfl⟩
    obtain ⟨D3, hD3⟩ : ∃ S, decide (345686400000 < t) = S := ⟨_, rfl⟩
    obtain ⟨N, hv1, hn1, hn2⟩ := longest_law C l f t D1 D2 D3 hD1 hD2 hD3
    obtain ⟨M, hv2, hm1, hm2⟩ := most_law C l
    rw [hF] at hv1 hn1 hn2 hv2 hm1 hm2
    obtain ⟨ONE, hONE⟩ : ∃ X, firstE [F, if (D1 || (D2 || D3)) = true then 1 else 0] = X := ⟨_, rfl⟩
    rw [hONE] at hv1 hn1 hn2
    have HF := Lib.hid hF; have HO1 := Lib.hid hONE
    have HV1 := Lib.hid hv1; have HN1 := Lib.hid hn1; have HN2 := Lib.hid hn2; have HV2 := Lib.hid hv2; have HM1 := Lib.hid hm1; have HM2 := Lib.hid hm2
    clear hF hONE hv1 hn1 hn2 hv2 hm1 hm2
    go_wp2_with (first
      | (refine wpl_load_all Tryz.winT rfl _ rfl _ rfl _ _ YW.out rfl ?_)
      | fail)
    refine (Longest_any lo1 lo2 cA n cc C sA k sc l _ f t HC.out HSE.out (by omega) (by omega)).mono ?_
    rintro e w8 ⟨rfl, hg8⟩
    rw [HV1.out]
    unfold twoV
    replace HG := Lib.hid (gr_none HG.out hg8)
    replace HC := Lib.hid (HC.out.grown hg8 (fun g e => by first | (cases e; done) | (injection e with e; omega)))
    replace HAG := Lib.hid (HAG.out.grown hg8 (fun g e => by first | (cases e; done) | (injection e with e; omega)))
    replace HSE := Lib.hid (HSE.out.grown hg8 (fun g e => by first | (cases e; done) | (injection e with e; omega)))
    replace YW := Lib.hid (YW.out.grown hg8 (by simp))
    clear hg8
    go_wp2_with fail
    refine (Most_any lo1 lo2 cA n cc C sA k sc l _ HC.out HSE.out (by omega) (by omega)).mono ?_
    rintro e w9 ⟨rfl, hg9⟩
    rw [HV2.out]
    unfold twoV
    replace HG := Lib.hid (gr_none HG.out hg9)
    replace HC := Lib.hid (HC.out.grown hg9 (fun g e => by first | (cases e; done) | (injection e with e; omega)))
    replace HAG := Lib.hid (HAG.out.grown hg9 (fun g e => by first | (cases e; done) | (injection e with e; omega)))
    replace HSE := Lib.hid (HSE.out.grown hg9 (fun g e => by first | (cases e; done) | (injection e with e; omega)))
    replace YW := Lib.hid (YW.out.grown hg9 (by simp))
    clear hg9
    obtain ⟨CE, hCE⟩ : ∃ E, casE C = E := ⟨_, rfl⟩
    have HCE := Lib.hid hCE
    clear hCE
    go_wp2_with fail
    refine (callersFault_any lo1 cA n cc C _ HC.out (by omega)).mono ?_
    rintro e w10 ⟨rfl, hg10⟩
    rw [HCE.out]
    replace HG := Lib.hid (gr_none HG.out hg10)
    replace HC := Lib.hid (HC.out.grown hg10 (fun g e => by first | (cases e; done) | (injection e with e; omega)))
    replace HAG := Lib.hid (HAG.out.grown hg10 (fun g e => by first | (cases e; done) | (injection e with e; omega)))
    replace HSE := Lib.hid (HSE.out.grown hg10 (fun g e => by first | (cases e; done) | (injection e with e; omega)))
    replace YW := Lib.hid (YW.out.grown hg10 (by simp))
    clear hg10
    go_upto_if 64 with (fail)
    obtain ⟨wv, rfl⟩ : ∃ wv : World, wv = w10 := ⟨_, rfl⟩
    go_cut [12] (fun v wx => v = .int .i64 F ∧ wv.grownBy wx none)
    case first =>
      by_cases c0 : CE = 0
      · have d0 : (CE == 0) = true := by simpa using c0
        have hce := HCE.out.trans c0
        have HFS := Lib.hid (show seatsE C l = F by rw [← HF.out]; unfold chkE; rw [if_pos hce])
        clear c0
        go_wp2_with fail
        refine (seatsFault_any lo1 lo2 cA n cc C sA k sc l _ HC.out HSE.out (by omega) (by omega) (fun x hx => caNum_n (casE_num hce x hx))).mono ?_
        rintro e w9 ⟨rfl, hg9⟩
        rw [HFS.out]
        go_wp2_with fail
        go_meet
        exact ⟨rfl, hg9⟩
      · have d0 : (CE == 0) = false := by simpa using c0
        have HFS := Lib.hid (show CE = F by rw [← HF.out]; unfold chkE; rw [if_neg (by rw [HCE.out]; exact c0)]; exact HCE.out.symm)
        clear c0
        go_wp2_with fail
        go_meet
        exact ⟨by rw [HFS.out], gr_refl _ _⟩
    case rest =>
      obtain ⟨rfl, hg10⟩ := hcut
      obtain ⟨w11, rfl⟩ : ∃ w11 : World, w11 = wc := ⟨_, rfl⟩
      replace HG := Lib.hid (gr_none HG.out hg10)
      replace HC := Lib.hid (HC.out.grown hg10 (fun g e => by first | (cases e; done) | (injection e with e; omega)))
      replace HAG := Lib.hid (HAG.out.grown hg10 (fun g e => by first | (cases e; done) | (injection e with e; omega)))
      replace HSE := Lib.hid (HSE.out.grown hg10 (fun g e => by first | (cases e; done) | (injection e with e; omega)))
      replace YW := Lib.hid (YW.out.grown hg10 (by simp))
      clear hg10 HCE
      have y0 := YW.out.cell 0
      have y1 := YW.out.cell 1
      (try go_upto_region 11 with (fail))
      go_cut [13] (fun v wx => v = .int .i64 ONE ∧ w11.grownBy wx none)
      case first =>
        cases D1
        · cases D2
          · cases D3
            · go_wp2_with (first
                | (go_at_call 18; refine (when_any _ 1 _).mono ?_; rintro e w' ⟨rfl, rfl⟩)
                | fail)
              refine (errs_new (n := 2) [F, 0] _ rfl (by simp) rfl (by omega)).mono ?_
              rintro e w12 ⟨rfl, hg12⟩
              rw [show firstE [F, 0] = ONE from HO1.out]
              go_wp2_with fail
              go_meet
              exact ⟨rfl, hg12⟩
            · go_wp2_with (first
                | (go_at_call 18; refine (when_any _ 1 _).mono ?_; rintro e w' ⟨rfl, rfl⟩)
                | fail)
              refine (errs_new (n := 2) [F, 1] _ rfl (by simp) rfl (by omega)).mono ?_
              rintro e w12 ⟨rfl, hg12⟩
              rw [show firstE [F, 1] = ONE from HO1.out]
              go_wp2_with fail
              go_meet
              exact ⟨rfl, hg12⟩
          · go_wp2_with (first
              | (go_at_call 18; refine (when_any _ 1 _).mono ?_; rintro e w' ⟨rfl, rfl⟩)
              | fail)
            refine (errs_new (n := 2) [F, 1] _ rfl (by simp) rfl (by omega)).mono ?_
            rintro e w12 ⟨rfl, hg12⟩
            rw [show firstE [F, 1] = ONE from HO1.out]
            go_wp2_with fail
            go_meet
            exact ⟨rfl, hg12⟩
        · go_wp2_with (first
            | (go_at_call 18; refine (when_any _ 1 _).mono ?_; rintro e w' ⟨rfl, rfl⟩)
            | fail)
          refine (errs_new (n := 2) [F, 1] _ rfl (by simp) rfl (by omega)).mono ?_
          rintro e w12 ⟨rfl, hg12⟩
          rw [show firstE [F, 1] = ONE from HO1.out]
          go_wp2_with fail
          go_meet
          exact ⟨rfl, hg12⟩
      case rest =>
        obtain ⟨rfl, hg12⟩ := hcut
        obtain ⟨w12, rfl⟩ : ∃ w12 : World, w12 = wc := ⟨_, rfl⟩
        replace HG := Lib.hid (gr_none HG.out hg12)
        replace HC := Lib.hid (HC.out.grown hg12 (fun g e => by first | (cases e; done) | (injection e with e; omega)))
        replace HAG := Lib.hid (HAG.out.grown hg12 (fun g e => by first | (cases e; done) | (injection e with e; omega)))
        replace HSE := Lib.hid (HSE.out.grown hg12 (fun g e => by first | (cases e; done) | (injection e with e; omega)))
        replace YW := Lib.hid (YW.out.grown hg12 (by simp))
        clear hg12 hD1 hD2 hD3 y0 y1
        go_upto_if 88 with (fail)
        go_cut [14] (fun v wx => v = .int .i64 N ∧ w12.grownBy wx none)
        case first =>
          by_cases hz : ONE = 0
          · obtain ⟨hf, ho, hN⟩ := HN1.out hz
            have hc0 := HF.out.trans hf
            obtain ⟨h1, h2, h3, h4⟩ := chkE_num hc0
            have dz : (ONE == 0) = true := by simpa using hz
            obtain rfl : k = n := by rw [← HSE.out.1.len, ← HC.out.1.len]; exact h3
            have HNN := Lib.hid hN
            clear hz hf hc0 hN
            go_wp2_with (first
              | (refine wpl_load_all Tryz.winT rfl _ rfl _ rfl _ _ YW.out rfl ?_)
              | fail)
            refine (longestOf_any lo1 lo2 cA k cc C sA sc l _ f t HC.out HSE.out (fun x hx => caNum_n (casE_num h1 x hx)) ho (by omega)).mono ?_
            rintro e wd ⟨rfl, hgd⟩
            go_wp2_with fail
            go_meet
            exact ⟨by rw [HNN.out, HSE.out.1.len], hgd⟩
          · have dz : (ONE == 0) = false := by simpa using hz
            have HNN := Lib.hid (HN2.out hz)
            clear hz
            go_wp2_with fail
            go_meet
            exact ⟨by rw [HNN.out], gr_refl _ _⟩
        case rest =>
          obtain ⟨rfl, hg13⟩ := hcut
          obtain ⟨w13, rfl⟩ : ∃ w13 : World, w13 = wc := ⟨_, rfl⟩
          replace HG := Lib.hid (gr_none HG.out hg13)
          replace HC := Lib.hid (HC.out.grown hg13 (fun g e => by first | (cases e; done) | (injection e with e; omega)))
          replace HAG := Lib.hid (HAG.out.grown hg13 (fun g e => by first | (cases e; done) | (injection e with e; omega)))
          replace HSE := Lib.hid (HSE.out.grown hg13 (fun g e => by first | (cases e; done) | (injection e with e; omega)))
          clear hg13 YW
          go_upto_if 94 with (fail)
          go_cut [15] (fun v wx => v = .int .i64 M ∧ w13.grownBy wx none)
          case first =>
            by_cases hz : F = 0
            · have hM := HM1.out hz
              have hc0 := HF.out.trans hz
              obtain ⟨h1, h2, h3, h4⟩ := chkE_num hc0
              have dz : (F == 0) = true := by simpa using hz
              obtain rfl : k = n := by rw [← HSE.out.1.len, ← HC.out.1.len]; exact h3
              have HNN := Lib.hid hM
              clear hz hc0 hM
              go_wp2_with fail
              refine (mostOf_any lo1 lo2 cA k cc C sA sc l _ HC.out HSE.out (by omega)).mono ?_
              rintro e wd ⟨rfl, hgd⟩
              go_wp2_with fail
              go_meet
              exact ⟨by rw [HNN.out, HC.out.1.len], hgd⟩
            · have dz : (F == 0) = false := by simpa using hz
              have HNN := Lib.hid (HM2.out hz)
              clear hz
              go_wp2_with fail
              go_meet
              exact ⟨by rw [HNN.out], gr_refl _ _⟩
          case rest =>
            obtain ⟨rfl, hg14⟩ := hcut
            obtain ⟨wq, rfl⟩ : ∃ wq : World, wq = wc := ⟨_, rfl⟩
            replace HG := Lib.hid (gr_none HG.out hg14)
            replace HC := Lib.hid (HC.out.grown hg14 (fun g e => by first | (cases e; done) | (injection e with e; omega)))
            replace HAG := Lib.hid (HAG.out.grown hg14 (fun g e => by first | (cases e; done) | (injection e with e; omega)))
            replace HSE := Lib.hid (HSE.out.grown hg14 (fun g e => by first | (cases e; done) | (injection e with e; omega)))
            clear hg14 HN1 HN2 HV1 HV2 HM1 HM2 HO1
            have q1 : (ONE != ONE) = false := by simp
            have q2 : (N != N) = false := by simp
            have q3 : (F != F) = false := by simp
            have q4 : (M != M) = false := by simp
            go_wp2_with fail
            clear q1 q2 q3 q4
            go_loopw [17, 18, 19, 20, 21, 22, 23, 118] (fun _ _ _ _ _ _ _ t' wr => ∃ i : Nat, i ≤ ng ∧ t' = .int .i64 i ∧ wq.grownBy wr none) (fun _ _ _ _ _ _ _ t' _ => ng - (intOf t').toNat)
            case atStart => exact ⟨0, Nat.zero_le _, rfl, gr_refl _ _⟩
            case round =>
              obtain ⟨i, hi, rfl, hg⟩ := hrel
              have HGR := Lib.hid hg
              have zr := hg.size
              clear hg
              by_cases hlt2 : i < ng
              · obtain ⟨g, o, a, rfl, _, hgl, hz, hc⟩ := (HAG.out.1.grown HGR.out (fun g e => by cases e)).get AgV.row_len hlt2
                have HOK := Lib.hid ((HAG.out.2 a (mem_of_get hz)).grown HGR.out (fun g e => by cases e))
                have hlt3 : (i : Int) < (ng : Int) := by omega
                have HAC := Lib.hid hc
                have hpl := HOK.out.2.2.len
                clear hz hc
                obtain ⟨P, Q, E, hv, hal⟩ := busy_both a C l
                obtain ⟨AE, hAE⟩ : ∃ X, agsE [a] = X := ⟨_, rfl⟩
                rw [HF.out, hAE] at hal
                obtain ⟨TWO, hTWO⟩ : ∃ X, firstE [AE, F] = X := ⟨_, rfl⟩
                rw [hTWO] at hal
                have HV := Lib.hid hv; have HAL := Lib.hid hal; have HAE := Lib.hid hAE; have HTW := Lib.hid hTWO
                clear hv hal hAE hTWO
                obtain ⟨wo, rfl⟩ : ∃ wo : World, wo = wr := ⟨_, rfl⟩
                obtain ⟨wa, hwa⟩ : ∃ wa, wo.alloc (.cells #[.string a.key, .slice a.sA a.sn a.sc, .int .i64 a.fr, .int .i64 a.til, .slice a.pA a.pn a.pc, .int .i64 a.wrap] 50) = wa := ⟨_, rfl⟩
                obtain ⟨ab, hab⟩ : ∃ zb, wo.heap.size = zb := ⟨_, rfl⟩
                have HA := Lib.hid (show Blk wa ab 50 #[.string a.key, .slice a.sA a.sn a.sc, .int .i64 a.fr, .int .i64 a.til, .slice a.pA a.pn a.pc, .int .i64 a.wrap] by rw [← hwa, ← hab]; exact Blk.new _ _ _)
                have hga : wo.grownBy wa none := by rw [← hwa]; exact gr_alloc (gr_refl _ _) _
                have HWA := Lib.hid hwa; have HZB := Lib.hid hab
                clear hwa hab
                go_upto_region 22 with (first
                  | (refine wpl_load_at Tryz.agT rfl _ rfl _ rfl [.string a.key, .slice a.sA a.sn a.sc, .int .i64 a.fr, .int .i64 a.til, .slice a.pA a.pn a.pc, .int .i64 a.wrap] rfl (fun j u hu => by rw [add_mk]; exact HAC.out j u hu) ?_)
                  | fail)
                rw [HWA.out]
                (try rw [HZB.out])
                replace HOK := Lib.hid (HOK.out.grown hga (fun g e => by cases e))
                replace HGR := Lib.hid (gr_none HGR.out hga)
                clear HWA HZB HAC hga
                go_wp2_with (first
                  | (refine wpl_load_all Tryz.agT rfl _ rfl _ rfl _ _ HA.out rfl ?_)
                  | fail)
                refine (Busy_any lo3 lo1 lo2 a cA n cc C sA k sc l _ HOK.out (HC.out.grown HGR.out (fun g e => by cases e)) (HSE.out.grown HGR.out (fun g e => by cases e)) (by omega) (by omega)).mono ?_
                rintro e w2 ⟨rfl, hg2⟩
                rw [HV.out]
                unfold frV
                replace HOK := Lib.hid (HOK.out.grown hg2 (fun g e => by cases e))
                replace HA := Lib.hid (HA.out.grown hg2 (by simp))
                replace HGR := Lib.hid (gr_none HGR.out hg2)
                clear hg2
                obtain ⟨w3, hw3⟩ : ∃ v, w2.alloc (.cells #[.int .i64 P, .int .i64 Q] 52) = v := ⟨_, rfl⟩
                obtain ⟨bb, hbb⟩ : ∃ b, w2.heap.size = b := ⟨_, rfl⟩
                have HW3 := Lib.hid hw3; have HZ3 := Lib.hid hbb
                have YB := Lib.hid (show Blk w3 bb 52 #[.int .i64 P, .int .i64 Q] by rw [← hw3, ← hbb]; exact Blk.new _ _ _)
                have hg3 : w2.grownBy w3 none := by rw [← hw3]; exact gr_alloc (gr_refl _ _) _
                replace HOK := Lib.hid (HOK.out.grown hg3 (fun g e => by cases e))
                replace HA := Lib.hid (HA.out.grown hg3 (by simp))
                replace HGR := Lib.hid (gr_none HGR.out hg3)
                clear hw3 hbb hg3
                go_upto_region 23 with (fail)
                rw [HW3.out]
                (try rw [HZ3.out])
                clear HW3 HZ3
                go_wp2_with (first
                  | (refine wpl_load_all Tryz.agT rfl _ rfl _ rfl _ _ HA.out rfl ?_)
                  | fail)
                refine (agentsFault_any 0 _ 1 1 [a] _ (ags_one a HOK.out (by simp)) (by omega)).mono ?_
                rintro e w4 ⟨rfl, hg4⟩
                rw [HAE.out]
                have hg4' : w3.grownBy w4 none := gr_none (gr_alloc (gr_refl _ _) _) hg4
                replace HOK := Lib.hid (HOK.out.grown hg4' (fun g e => by cases e))
                replace HA := Lib.hid (HA.out.grown hg4' (by simp))
                replace YB := Lib.hid (YB.out.grown hg4' (by simp))
                replace HGR := Lib.hid (gr_none HGR.out hg4')
                clear hg4 hg4'
                go_wp2_with fail
                refine (errs_new (n := 2) [AE, F] _ rfl (by simp) rfl (by omega)).mono ?_
                rintro e w5 ⟨rfl, hg5⟩
                rw [HTW.out]
                replace HOK := Lib.hid (HOK.out.grown hg5 (fun g e => by cases e))
                replace HA := Lib.hid (HA.out.grown hg5 (by simp))
                replace YB := Lib.hid (YB.out.grown hg5 (by simp))
                replace HGR := Lib.hid (gr_none HGR.out hg5)
                have zb := YB.out.lt
                clear hg5
                obtain ⟨wv, hwv⟩ : ∃ v, w5.alloc (.cells #[.int .i64 0, .int .i64 0] 52) = v := ⟨_, rfl⟩
                obtain ⟨cb, hcb⟩ : ∃ b, w5.heap.size = b := ⟨_, rfl⟩
                have HWV := Lib.hid hwv; have HCB := Lib.hid hcb
                have YC := Lib.hid (show Blk wv cb 52 #[.int .i64 0, .int .i64 0] by rw [← hwv, ← hcb]; exact Blk.new _ _ _)
                have hgv : w5.grownBy wv none := by rw [← hwv]; exact gr_alloc (gr_refl _ _) _
                have HGV := Lib.hid hgv
                replace HOK := Lib.hid (HOK.out.grown hgv (fun g e => by cases e))
                replace HA := Lib.hid (HA.out.grown hgv (by simp))
                replace YB := Lib.hid (YB.out.grown hgv (by simp))
                have HGW := Lib.hid (gr_none HGR.out hgv)
                have nbc : bb < cb := by omega
                have zq : wq.heap.size ≤ cb := by have := HGR.out.size; omega
                clear hwv hcb hgv
                go_upto_region 25 with (fail)
                rw [HWV.out]
                (try rw [HCB.out])
                clear HWV HCB
                go_upto_if 137 with (fail)
                go_cut [20, 22, 23] (fun v _ _ wx => v = .int .i64 E ∧ wv.grownBy wx (some cb) ∧ Blk wx cb 52 #[.int .i64 P, .int .i64 Q])
                case first =>
                  by_cases hz : TWO = 0
                  · obtain ⟨B, hD, hE⟩ := HAL.out.1 hz
                    have HD := Lib.hid hD; have HE := Lib.hid hE
                    clear hD hE
                    have dz : (TWO == 0) = true := by simpa using hz
                    obtain ⟨ha0, hf0⟩ := first_two (HTW.out.trans hz)
                    have HAR := Lib.hid (agR_of hpl (HAE.out.trans ha0))
                    have HSR := Lib.hid (seatsR_of (HF.out.trans hf0))
                    clear hz ha0 hf0
                    go_wp2_with (first
                      | (refine wpl_load_all Tryz.agT rfl _ rfl _ rfl _ _ HA.out rfl ?_)
                      | fail)
                    refine (busyOf_any lo3 lo2 a sA k sc l _ HOK.out (HSE.out.grown HGW.out (fun g e => by cases e)) (by omega) HAR.out HSR.out).mono ?_
                    rintro e wd ⟨rfl, hgd⟩
                    rw [HD.out]
                    have hbd := YC.out.lt
                    clear HD dz
                    obtain ⟨we, hwe⟩ : ∃ v, wd.alloc (.cells #[.int .i64 P, .int .i64 Q] 52) = v := ⟨_, rfl⟩
                    obtain ⟨eb, heb⟩ : ∃ b, wd.heap.size = b := ⟨_, rfl⟩
                    have HWE := Lib.hid hwe; have HEB := Lib.hid heb
                    have YE := Lib.hid (show Blk we eb 52 #[.int .i64 P, .int .i64 Q] by rw [← hwe, ← heb]; exact Blk.new _ _ _)
                    have hge : wv.grownBy we none := by rw [← hwe]; exact gr_alloc hgd _
                    have hne : eb ≠ cb := by have := hgd.size; omega
                    have YCe := Lib.hid (YC.out.grown hge (by simp))
                    have HGE := Lib.hid hge
                    clear hwe heb hgd hge
                    go_upto_region 27 with (fail)
                    rw [HWE.out]
                    (try rw [HEB.out])
                    clear HWE HEB
                    refine H_begin (fun w' => we.grownBy w' (some cb)) (by kernel_rfl) ?_
                    have hHeld : we.grownBy we.drew (some cb) := gr_drew (gr_refl _ _)
                    refine H_take (k := 0) (v := .agg #[.int .i64 P, .int .i64 Q]) (by rfl) (by kernel_rfl) (by kernel_rfl) (by kernel_rfl) (by exact fun _ _ _ h => h) (by rfl) (fun w' hSw => exec_ldb Tryz.frT _ rfl _ rfl 52 [.int .i64 P, .int .i64 Q] (YE.out.grown hSw (by intro e; injection e with e; omega)) rfl) (by assumption) ?_
                    (try simp only [Act.put, List.setIfInBounds_toArray, List.set_cons_zero, List.set_cons_succ])
                    refine H_take (k := 1) (v := ?_) (by rfl) (by kernel_rfl) (by kernel_rfl) (by kernel_rfl) (by exact fun _ _ _ h => h) (by rfl) ?_ (by assumption) ?_
                    rotate_left 1
                    · intro w hSw
                      (try dsimp only at hSw)
                      go_simp
                      (try with_reducible rfl)
                    (try simp only [Act.put, List.setIfInBounds_toArray, List.set_cons_zero, List.set_cons_succ])
                    refine H_take (k := 2) (v := ?_) (by rfl) (by kernel_rfl) (by kernel_rfl) (by kernel_rfl) (by exact fun _ _ _ h => h) (by rfl) ?_ (by assumption) ?_
                    rotate_left 1
                    · intro w hSw
                      (try dsimp only at hSw)
                      go_simp
                      (try with_reducible rfl)
                    (try simp only [Act.put, List.setIfInBounds_toArray, List.set_cons_zero, List.set_cons_succ])
                    refine H_run (k := 3) (by rfl) (by kernel_rfl) (by rfl) (fun K hK => ?_)
                    go_simp
                    refine (when_any (!B) 8 _).mono ?_
                    rintro e wf ⟨rfl, rfl⟩
                    rw [show (if (!B) = true then (8 : Int) else 0) = E from by rw [HE.out]; cases B <;> rfl]
                    refine hK _ _ hHeld ?_
                    clear hK K
                    (try simp only [Act.put, List.setIfInBounds_toArray, List.set_cons_zero, List.set_cons_succ])
                    refine H_run (k := 4) (by rfl) (by kernel_rfl) (by rfl) (fun K hK => ?_)
                    refine wp_store_all Tryz.frT _ _ (by rfl) cb (by rfl) 52 _ #[.int .i64 P, .int .i64 Q] (by rfl) YCe.out.drew rfl rfl (by simp [Value.oneCell']) ?_
                    intro wg hwg
                    have hgg : we.grownBy wg (some cb) := gr_same hHeld hwg.2.1
                    have YG := Lib.hid hwg.1
                    refine hK _ _ hgg ?_
                    clear hK K hwg
                    (try simp only [Act.put, List.setIfInBounds_toArray, List.set_cons_zero, List.set_cons_succ])
                    refine H_take (k := 5) (v := ?_) (by rfl) (by kernel_rfl) (by kernel_rfl) (by kernel_rfl) (by exact fun _ _ _ h => h) (by rfl) ?_ (by assumption) ?_
                    rotate_left 1
                    · intro w hSw
                      (try dsimp only at hSw)
                      go_simp
                      (try with_reducible rfl)
                    (try simp only [Act.put, List.setIfInBounds_toArray, List.set_cons_zero, List.set_cons_succ])
                    refine H_done (by kernel_rfl) ?_
                    go_wp2_with fail
                    go_meet
                    exact ⟨rfl, gr_same (gr_trans (gr_refl _ _) HGE.out (fun g e => by cases e)) hgg, YG.out⟩
                  · obtain ⟨rfl, rfl, hE⟩ := HAL.out.2 hz
                    have dz : (TWO == 0) = false := by simpa using hz
                    have HE := Lib.hid hE
                    clear hE hz
                    go_wp2_with fail
                    go_meet
                    exact ⟨by rw [HE.out], gr_refl _ _, YC.out⟩
                case rest =>
                  obtain ⟨rfl, hgx, hyx⟩ := hcut
                  obtain ⟨wz, rfl⟩ : ∃ wz : World, wz = wc := ⟨_, rfl⟩
                  have HGZ := Lib.hid (show wq.grownBy wz none from gr_trans HGW.out hgx (fun g e => .inr (by injection e with e; omega)))
                  replace YB := Lib.hid (YB.out.grown hgx (by simp; omega))
                  replace YC := Lib.hid hyx
                  clear hgx hyx
                  have yb := YB.out.cell
                  have yc := YC.out.cell
                  have f1 := fun w => Tryz.eqFr P Q w
                  have r1 : (E != E) = false := by simp
                  go_wp2_with fail
                  go_roundw
                  case rel => exact ⟨i + 1, by omega, by go_num, HGZ.out⟩
                  case measure => simp [intOf]; omega
              · obtain rfl : i = ng := by omega
                go_wp2_with (first
                  | (go_at_call 24; refine (queued_true _).mono ?_; rintro e wz ⟨rfl, hgz⟩; have HGZ := Lib.hid hgz; clear hgz)
                  | fail)
                go_ret
                refine ⟨rfl, ?_⟩
                have hfin := gr_none HG.out (gr_none HGR.out HGZ.out)
                rw [← HSB.out] at hfin
                exact below_of_gr hfin
theorem met_QueuesMeasure {W : World} (_h : laidMetH Tryz.prog Rows.queuesMeasureRow.laid W) : True := trivial

theorem own_QueuesMeasure : ownKnob Tryz.prog.godebug = none := by kernel_rfl
theorem laidOut_QueuesMeasure : laidOutB Tryz.prog = true := by kernel_rfl
set_option maxRecDepth 100000 in
theorem lifted_QueuesMeasure (os : Os) (started : os.Started) (H : Type) (enc : TypeId × Value → H) :
    ReturnsInHanded {} Tryz.checked os 3 .any (fun w args => (Rows.queuesMeasureSpec.pre enc Tryz.prog Tryz.f3 [] false w args ∧ laidMetH Tryz.prog Rows.queuesMeasureRow.laid w) ∧ sizedMet enc Tryz.prog Tryz.f3 (OpenSpec.ofChange Rows.queuesMeasureSpec) false w args) (Rows.queuesMeasureSpec.post enc Tryz.prog Tryz.f3 false true false false) := by
  refine returnsInHanded_of_change_and (C := Tryz.checked) (X := fun w _ => laidMetH Tryz.prog Rows.queuesMeasureRow.laid w) (fun _ _ _ hh h => h.of_heap hh) own_QueuesMeasure started (by kernel_rfl) Tryz.func3
    (ChangeSpec.witness_shaped (enc := enc) (C := Tryz.checked) (os := os) (X := fun w _ => laidMetH Tryz.prog Rows.queuesMeasureRow.laid w) false (World.laidAll Tryz.prog os Rows.queuesMeasureRow.laid) #[.slice none 0 0] 8 (World.laidAll_os _ _ _) (World.shaped_of_ZipB (by kernel_rfl) (by kernel_rfl)) (by kernel_rfl) (by kernel_rfl) (by kernel_rfl)
      (by rw [MakeChecks.laidMetH_plain _ _ _ (by kernel_rfl)]; exact laidMet_laidAll _ (by kernel_rfl) (by kernel_rfl))) ?_
  intro W base args ds gs before hval0 hW _ _ hL _
  have hval : ∀ (j : Nat) t v, Tryz.f3.params[j]? = some t → args[j]? = some v → Value.okWide Tryz.prog W .any base t v := hval0
  have hW' := hW
  obtain ⟨p, q, hA0, hV, rfl, hfz, hnd⟩ := hW
  have hA : DataW.TrodAll enc Tryz.prog W 0 (fun _ => true) true Tryz.f3.params.toList args.toList ds p := hA0
  rw [Tryz.params3] at hA hval
  obtain ⟨v0, vs0, d0, ds0, p0, q0, hargs, rfl, rfl, h0, r0⟩ := trodAll_cons hA
  obtain ⟨rfl, rfl, rfl⟩ := trodAll_nil r0
  obtain rfl : args = #[v0] := by cases args; simp_all
  obtain ⟨rfl, rfl⟩ := trodVars_none hV
  obtain ⟨a0, len0, cap0, rfl⟩ := okWide_slice Tryz.underlying22 (hval 0 22 v0 rfl rfl)
  have k0 := h0
  have lt0 : ∀ x ∈ p0, x.block < W.heap.size := by obtain ⟨m, hm⟩ := k0; exact DataW.trod_lt m _ _ _ hm
  obtain ⟨z0, w0⟩ : ∃ zs, IsRow .i64 W a0 len0 cap0 zs := by
    obtain ⟨fuel, hf⟩ := h0
    rcases open_ints Tryz.underlying22 Tryz.underlying3 (by kernel_rfl) hf with ⟨hcs, _⟩ | ⟨x, l, c, zs, hcs, _, hl, hm, hz, _, hcell, hwz⟩
    · simp [Value.cells] at hcs
      obtain ⟨rfl, rfl, rfl⟩ := hcs
      exact ⟨[], .inl ⟨rfl, rfl, rfl, rfl⟩⟩
    · simp [Value.cells] at hcs
      obtain ⟨rfl, rfl, rfl⟩ := hcs
      exact ⟨zs, .inr ⟨_, rfl, hl, hm, by simpa using hz, hcell, hwz⟩⟩
  clear hA0 hval0
  refine (walk_QueuesMeasure a0 len0 cap0 z0 W w0 (met_QueuesMeasure hL)).mono fun e W' ⟨he, bel⟩ => ?_
  subst he
  exact ⟨_, rfl, _, _, _, [], _, [], hW', trodAll_mk1 (shut_bool Tryz.underlying4 _), (trodAll_cons_mk (Below.trod laidOut_QueuesMeasure (by kernel_rfl) (of_decide_eq_true (by kernel_rfl)) k0 bel lt0) trodAll_mk0), rfl, bel.frame _, fun h => by cases h⟩

theorem over_QueuesMeasure : Rows.queuesMeasureRow.holds Tryz.pinned (OpenSpec.ofChange Rows.queuesMeasureSpec) :=
  OpenClaim.holds_of_wide 3 Tryz.f3 rfl rfl rfl rfl rfl rfl rfl ⟨rfl, rfl, rfl, rfl, rfl⟩ rfl rfl rfl rfl rfl (by kernel_rfl) Tryz.func3 (by kernel_rfl)
    (of_decide_eq_true (by kernel_rfl)) (by unfold Func.isWrapper; first | (rw [if_pos (by decide +kernel)]; kernel_rfl) | (rw [if_neg (by decide +kernel)]; exact ⟨rfl, rfl⟩))
    (fun os started H enc _ => lifted_QueuesMeasure os started H enc)

theorem proved_QueuesMeasure : Rows.QueuesMeasureCardSaid :=
  Claim7.holds_tied_plain_at .later [] [.data, .pinned] true Rows.queuesMeasureCard.stood.harness false
    over_QueuesMeasure (fun _ h => by cases h) (by kernel_rfl) (fun _ h => by cases h) queuesMeasure_row_tie rfl ⟨rfl, rfl⟩ (by kernel_rfl) rfl
    (fun f fn hf hfn => by
      obtain rfl : f = 3 := Option.some.inj ((show Tryz.prog.funcNamed Rows.queuesMeasureRow.func = some 3 by kernel_rfl).symm.trans hf) |>.symm
      obtain rfl : fn = Tryz.f3 := (Option.some.inj (Tryz.func3.symm.trans hfn)).symm
      exact ⟨by kernel_rfl, fun j t ht => by
        rw [Tryz.params3] at ht
        have h3 : t = 22 := by
          rcases j with _ | j
          · simpa using ht.symm
          · simp at ht
        subst h3
        exact (show Tryz.prog.wantsStandIn 22 = false by kernel_rfl)⟩)
    (by kernel_rfl)
end Go.Proofs.YtemfbdmaljddnaaGreatDoor


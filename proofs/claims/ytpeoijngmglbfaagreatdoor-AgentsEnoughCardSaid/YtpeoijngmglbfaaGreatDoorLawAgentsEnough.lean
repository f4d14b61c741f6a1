/- The law AgentsEnough: Enough is as specified for all styles, agents and callers. Conditions: none beside the row's own. -/
import Derived.Test.YtpeoijngmglbfaaGreatDoorBun1
import Derived.Test.YtpeoijngmglbfaaGreatDoorGenQue4
import Derived.Test.YtpeoijngmglbfaaGreatDoorGenQue2
import Derived.Test.YtpeoijngmglbfaaGreatDoorRo7
import Derived.Test.YtpeoijngmglbfaaGreatDoorBun5
import Derived.Test.YtpeoijngmglbfaaGreatDoorBun3
import Derived.Test.YtpeoijngmglbfaaGreatDoorTie
import Derived.Test.YtpeoijngmglbfaaGreatDoorCards
import Derived.ChangeKeysEq
import Derived.ProofKit
import Derived.Lay
import Derived.OpenShut
import Derived.Stop.Joined
import Derived.SevenTiedAt
import Derived.LaidMore
import Derived.MakeChecks
import Derived.LaidHandle
namespace Go.Proofs.YtpeoijngmglbfaaGreatDoor
open Go.ChangeShapes Go.WideShapes Go.ChangeAt Go.RowKit

/-- The first error of the three is the play's. -/
theorem pch_first (s : StyV) (A : List AgV) (C : List CaV) : firstE [styleE s.kind s.age s.say, agsE A, casE C] = pchE s A C := by
  unfold pchE
  simp only [firstE_cons, firstE_nil]
  by_cases h1 : styleE s.kind s.age s.say = 0
  · rw [if_pos h1, if_pos h1]
    by_cases h2 : agsE A = 0
    · rw [if_pos h2, if_pos h2]
      by_cases h3 : casE C = 0
      · rw [if_pos h3, h3]
      · rw [if_neg h3]
    · rw [if_neg h2, if_neg h2]
  · rw [if_neg h1, if_neg h1]

/-- The number and the document's: alike if nothing is wrong; else the first error. -/
theorem enough_law (s : StyV) (A : List AgV) (C : List CaV) (most short part : Int) (hm : most ≤ 86400000) (hs : short ≤ 86400000) (D1 D2 D3 D4 : Bool) (h1 : decide (most < 0) = D1) (h2 : decide (short < 0) = D2) (h3 : decide (part < 0) = D3) (h4 : decide (1000 < part) = D4) :
    ∃ (N : Int) (B : Bool), enoughV s A C most short part = .tuple #[.int .i64 N, .int .i64 (if firstE [styleE s.kind s.age s.say, agsE A, casE C, if (D1 || D2 || D3 || D4) = true then 1 else 0] = 0 then (if B then 0 else 8) else firstE [styleE s.kind s.age s.say, agsE A, casE C, if (D1 || D2 || D3 || D4) = true then 1 else 0])] ∧
      (firstE [styleE s.kind s.age s.say, agsE A, casE C, if (D1 || D2 || D3 || D4) = true then 1 else 0] = 0 → pchE s A C = 0 ∧ 0 ≤ part ∧ part ≤ 1000 ∧ enoughD s A C most short part = .tuple #[.int .i64 N, .bool B]) ∧
      (firstE [styleE s.kind s.age s.say, agsE A, casE C, if (D1 || D2 || D3 || D4) = true then 1 else 0] ≠ 0 → N = 0) := by
  have e1 : firstE [styleE s.kind s.age s.say, agsE A, casE C, if (D1 || D2 || D3 || D4) = true then 1 else 0] = if pchE s A C = 0 then (if (D1 || D2 || D3 || D4) = true then 1 else 0) else pchE s A C := by
    rw [← pch_first]
    simp only [firstE_cons, firstE_nil]
    by_cases a1 : styleE s.kind s.age s.say = 0
    · by_cases a2 : agsE A = 0
      · by_cases a3 : casE C = 0
        · simp only [a1, a2, a3, if_true]; cases (D1 || D2 || D3 || D4) <;> rfl
        · simp only [a1, a2, a3, if_true, if_false]
      · simp only [a1, a2, if_true, if_false]
    · simp only [a1, if_false]
  rw [e1]
  have e2 : (inB most 0 86400000 && inB short 0 86400000 && inB part 0 1000) = !(D1 || D2 || D3 || D4) := by
    rw [← h1, ← h2, ← h3, ← h4]
    unfold inB
    by_cases a1 : most < 0 <;> by_cases a2 : short < 0 <;> by_cases a3 : part < 0 <;> by_cases a4 : 1000 < part <;> simp [a1, a2, a3, a4] <;> omega
  unfold enoughV enoughD
  rw [e2]
  by_cases h : pchE s A C = 0
  · simp only [h, if_true]
    cases hd : (D1 || D2 || D3 || D4)
    · simp only [Bool.or_eq_false_iff] at hd
      have p1 : 0 ≤ part := by have := hd.1.2; rw [← h3] at this; have := of_decide_eq_false this; omega
      have p2 : part ≤ 1000 := by have := hd.2; rw [← h4] at this; have := of_decide_eq_false this; omega
      cases enN s A C most short part with
      | none => exact ⟨0, false, rfl, fun _ => ⟨trivial, p1, p2, rfl⟩, fun e => absurd rfl e⟩
      | some n => exact ⟨n, true, rfl, fun _ => ⟨trivial, p1, p2, rfl⟩, fun e => absurd rfl e⟩
    · exact ⟨0, false, rfl, fun e => absurd e (by decide), fun _ => rfl⟩
  · simp only [h, if_false]
    exact ⟨0, false, rfl, fun e => e.elim, fun _ => rfl⟩
set_option maxRecDepth 100000 in
set_option maxHeartbeats 8000000 in
theorem walk_AgentsEnough (a0 : Option Addr) (len cap : Nat) (zs : List Int) (W : World) (h : IsRow .i64 W a0 len cap zs) (_ht : True) :
    Calls Tryz.prog 4 #[.slice a0 len cap] W (fun e w' => e = .returned (.bool true) ∧ Below W.heap.size W w') := by
  have hs := str_new h
  obtain ⟨sb, hsb⟩ : ∃ sb, W.heap.size = sb := ⟨_, rfl⟩
  have HG := Lib.hid (show W.grownBy (W.alloc (.cells #[.slice a0 len cap, .int .i64 0] 25)) (some sb) from gr_alloc (gr_refl _ _) _)
  rw [hsb] at hs
  have hlt := hs.lt
  have HS := Lib.hid hs
  have HSB := Lib.hid hsb
  clear h hs
  go_enter Tryz.func4, Tryz.ntmps4
  go_wp2_with fail
  refine (style_any sb _ _ HS.out (by omega)).mono ?_
  rintro e w1 ⟨v1, rfl, ⟨s1, s2, s3, rfl⟩, hs1, hg1⟩
  replace HS := Lib.hid hs1
  replace HG := Lib.hid (gr_same HG.out hg1)

  have z1 := hg1.size
  clear hs1 hg1
  go_wp2_with fail
  refine (agents_any sb _ _ HS.out (by omega)).mono ?_
  rintro e w2 ⟨v2, rfl, ⟨gA, ng, gc, A, rfl, hags, hng⟩, hs2, hg2⟩
  replace HS := Lib.hid hs2
  replace HG := Lib.hid (gr_same HG.out hg2)

  have z2 := hg2.size
  clear hs2 hg2
  have HAG := Lib.hid hags
  clear hags
  obtain ⟨lo3, hlo3⟩ : ∃ lo, w1.heap.size = lo := ⟨_, rfl⟩
  rw [hlo3] at HAG z1 z2
  go_wp2_with fail
  refine (callers_any sb _ 6 _ HS.out (by omega) (by omega) (by omega)).mono ?_
  rintro e w3 ⟨v3, rfl, ⟨cA, n, cc, C, rfl, hcas, hn⟩, hs3, hg3⟩
  replace HS := Lib.hid hs3
  replace HG := Lib.hid (gr_same HG.out hg3)
  replace HAG := Lib.hid (HAG.out.grown hg3 (fun g e => by first | (cases e; done) | (injection e with e; omega)))
  have z3 := hg3.size
  clear hs3 hg3
  have HC := Lib.hid (hcas.cas)
  clear hcas
  obtain ⟨lo1, hlo1⟩ : ∃ lo, w2.heap.size = lo := ⟨_, rfl⟩
  rw [hlo1] at HC z2 z3
  have hn9 : n ≤ 6 := by simpa using hn
  clear hn hlo1 hlo3
  obtain rfl : C.length = n := HC.out.1.len
  obtain rfl : A.length = ng := HAG.out.1.len
  obtain ⟨w4, hw4⟩ : ∃ v, w3.alloc (.cells #[.int .i64 s1, .int .i64 s2, .int .i64 s3] 27) = v := ⟨_, rfl⟩
  obtain ⟨xb, hxb⟩ : ∃ b, w3.heap.size = b := ⟨_, rfl⟩
  have HW4 := Lib.hid hw4; have HZ4 := Lib.hid hxb
  have YX := Lib.hid (show Blk w4 xb 27 #[.int .i64 s1, .int .i64 s2, .int .i64 s3] by rw [← hw4, ← hxb]; exact Blk.new _ _ _)
  have hg4 : w3.grownBy w4 none := by rw [← hw4]; exact gr_alloc (gr_refl _ _) _
  replace HS := Lib.hid (show Str w4 sb _ by rw [← hw4]; exact HS.out.alloc _)
  replace HG := Lib.hid (gr_none HG.out hg4)
  replace HC := Lib.hid (HC.out.grown hg4 (fun g e => by first | (cases e; done) | (injection e with e; omega)))
  replace HAG := Lib.hid (HAG.out.grown hg4 (fun g e => by first | (cases e; done) | (injection e with e; omega)))
  have zxb : sb < xb := by omega
  clear hw4 hxb hg4
  go_upto_region 3 with (fail)
  rw [HW4.out]
  (try rw [HZ4.out])
  clear HW4 HZ4
  go_wp2_with fail
  refine (pick_new sb _ [0, 5, 20, 1000, -1] _ HS.out (by omega) rfl rfl rfl (by simp) (by simp)).mono ?_
  rintro e w5 ⟨v5, rfl, ⟨most, hm, rfl⟩, hs5, hg5⟩
  replace HS := Lib.hid hs5
  replace HG := Lib.hid (gr_same HG.out hg5)
  replace HC := Lib.hid (HC.out.grown hg5 (fun g e => by first | (cases e; done) | (injection e with e; omega)))
  replace HAG := Lib.hid (HAG.out.grown hg5 (fun g e => by first | (cases e; done) | (injection e with e; omega)))
  replace YX := Lib.hid (YX.out.grown hg5 (by simp; omega))
  have z5 := hg5.size
  clear hs5 hg5
  go_wp2_with fail
  refine (pick_new sb _ [0, 0, 6, -1] _ HS.out (by omega) rfl rfl rfl (by simp) (by simp)).mono ?_
  rintro e w6 ⟨v6, rfl, ⟨short, hsh, rfl⟩, hs6, hg6⟩
  replace HS := Lib.hid hs6
  replace HG := Lib.hid (gr_same HG.out hg6)
  replace HC := Lib.hid (HC.out.grown hg6 (fun g e => by first | (cases e; done) | (injection e with e; omega)))
  replace HAG := Lib.hid (HAG.out.grown hg6 (fun g e => by first | (cases e; done) | (injection e with e; omega)))
  replace YX := Lib.hid (YX.out.grown hg6 (by simp; omega))
  have z6 := hg6.size
  clear hs6 hg6
  go_wp2_with fail
  refine (pick_new sb _ [0, 500, 800, 1000, -1, 1001] _ HS.out (by omega) rfl rfl rfl (by simp) (by simp)).mono ?_
  rintro e w7 ⟨v7, rfl, ⟨part, hpt, rfl⟩, hs7, hg7⟩
  replace HS := Lib.hid hs7
  replace HG := Lib.hid (gr_same HG.out hg7)
  replace HC := Lib.hid (HC.out.grown hg7 (fun g e => by first | (cases e; done) | (injection e with e; omega)))
  replace HAG := Lib.hid (HAG.out.grown hg7 (fun g e => by first | (cases e; done) | (injection e with e; omega)))
  replace YX := Lib.hid (YX.out.grown hg7 (by simp; omega))
  have z7 := hg7.size
  clear hs7 hg7
  have hm2 : most ≤ 86400000 := by simp only [List.mem_cons, List.not_mem_nil, or_false] at hm; omega
  have hs2 : short ≤ 86400000 := by simp only [List.mem_cons, List.not_mem_nil, or_false] at hsh; omega
  clear hm hsh hpt HS
  obtain ⟨D1, hD1⟩ : ∃ S, decide (most < 0) = S := ⟨_, rfl⟩
  obtain ⟨D2, hD2⟩ : ∃ S, decide (short < 0) = S := ⟨_, rfl⟩
  obtain ⟨D3, hD3⟩ : ∃ S, decide (part < 0) = S := ⟨_, rfl⟩
  obtain ⟨D4, hD4⟩ : ∃ S, decide (1000 < part) = S := ⟨_, rfl⟩
  obtain ⟨N, B, hv, hz0, hz1⟩ := enough_law ⟨s1, s2, s3⟩ A C most short part hm2 hs2 D1 D2 D3 D4 hD1 hD2 hD3 hD4
  change enoughV ⟨s1, s2, s3⟩ A C most short part = .tuple #[.int .i64 N, .int .i64 (if firstE [styleE s1 s2 s3, agsE A, casE C, if (D1 || D2 || D3 || D4) = true then 1 else 0] = 0 then (if B then 0 else 8) else firstE [styleE s1 s2 s3, agsE A, casE C, if (D1 || D2 || D3 || D4) = true then 1 else 0])] at hv
  change firstE [styleE s1 s2 s3, agsE A, casE C, if (D1 || D2 || D3 || D4) = true then 1 else 0] = 0 → _ at hz0
  change firstE [styleE s1 s2 s3, agsE A, casE C, if (D1 || D2 || D3 || D4) = true then 1 else 0] ≠ 0 → _ at hz1
  obtain ⟨E1, hE1⟩ : ∃ E, styleE s1 s2 s3 = E := ⟨_, rfl⟩
  obtain ⟨E2, hE2⟩ : ∃ E, agsE A = E := ⟨_, rfl⟩
  obtain ⟨E3, hE3⟩ : ∃ E, casE C = E := ⟨_, rfl⟩
  rw [hE1, hE2, hE3] at hv hz0 hz1
  obtain ⟨ONE, hONE⟩ : ∃ X, firstE [E1, E2, E3, if (D1 || D2 || D3 || D4) = true then 1 else 0] = X := ⟨_, rfl⟩
  rw [hONE] at hv hz0 hz1
  obtain ⟨E, hE⟩ : ∃ E : Int, (if ONE = 0 then (if B then 0 else 8) else ONE) = E := ⟨_, rfl⟩
  rw [hE] at hv
  have HE1 := Lib.hid hE1; have HE2 := Lib.hid hE2; have HE3 := Lib.hid hE3; have HV := Lib.hid hv; have HZ0 := Lib.hid hz0; have HZ1 := Lib.hid hz1; have HO1 := Lib.hid hONE; have HE := Lib.hid hE
  clear hE1 hE2 hE3 hv hz0 hz1 hONE hE hm2 hs2
  go_wp2_with (first
    | (refine wpl_load_all Tryz.syT rfl _ rfl _ rfl _ _ YX.out rfl ?_)
    | fail)
  refine (Enough_any lo3 lo1 ⟨s1, s2, s3⟩ gA gc A cA cc C most short part _ HAG.out HC.out (by omega) (by omega)).mono ?_
  rintro e w8 ⟨rfl, hg8⟩
  rw [HV.out]
  replace HG := Lib.hid (gr_none HG.out hg8)
  replace HC := Lib.hid (HC.out.grown hg8 (fun g e => by first | (cases e; done) | (injection e with e; omega)))
  replace HAG := Lib.hid (HAG.out.grown hg8 (fun g e => by first | (cases e; done) | (injection e with e; omega)))
  replace YX := Lib.hid (YX.out.grown hg8 (by simp))
  clear hg8 HV
  go_upto_region 5 with (fail)
  obtain ⟨wv, rfl⟩ : ∃ wv : World, wv = w8 := ⟨_, rfl⟩
  go_cut [12] (fun v wx => v = .int .i64 ONE ∧ wv.grownBy wx none)
  case first =>
    have HGX := Lib.hid (gr_refl wv none)
    go_wp2_with (first
      | (refine wpl_load_all Tryz.syT rfl _ rfl _ rfl _ _ YX.out rfl ?_)
      | fail)
    refine (styleFault_any s1 s2 s3 _).mono ?_
    rintro e w9 ⟨rfl, hg9⟩
    rw [HE1.out]
    replace HGX := Lib.hid (gr_none HGX.out hg9)
    clear hg9
    go_wp2_with fail
    refine (agentsFault_any lo3 gA _ gc A _ (HAG.out.grown HGX.out (fun g e => by cases e)) (by omega)).mono ?_
    rintro e w10 ⟨rfl, hg10⟩
    rw [HE2.out]
    replace HGX := Lib.hid (gr_none HGX.out hg10)
    clear hg10
    go_wp2_with fail
    refine (callersFault_any lo1 cA _ cc C _ (HC.out.grown HGX.out (fun g e => by cases e)) (by omega)).mono ?_
    rintro e w11 ⟨rfl, hg11⟩
    rw [HE3.out]
    replace HGX := Lib.hid (gr_none HGX.out hg11)
    clear hg11
    cases D1
    · cases D2
      · cases D3
        · cases D4
          · go_wp2_with (first
              | (go_at_call 19; refine (when_any _ 1 _).mono ?_; rintro e w' ⟨rfl, rfl⟩)
              | fail)
            refine (errs_new (n := 4) [E1, E2, E3, 0] _ rfl (by simp) rfl (by omega)).mono ?_
            rintro e w14 ⟨rfl, hg14⟩
            rw [show firstE [E1, E2, E3, 0] = ONE from HO1.out]
            go_wp2_with fail
            go_meet
            exact ⟨rfl, gr_none HGX.out hg14⟩
          · go_wp2_with (first
              | (go_at_call 19; refine (when_any _ 1 _).mono ?_; rintro e w' ⟨rfl, rfl⟩)
              | fail)
            refine (errs_new (n := 4) [E1, E2, E3, 1] _ rfl (by simp) rfl (by omega)).mono ?_
            rintro e w14 ⟨rfl, hg14⟩
            rw [show firstE [E1, E2, E3, 1] = ONE from HO1.out]
            go_wp2_with fail
            go_meet
            exact ⟨rfl, gr_none HGX.out hg14⟩
        · go_wp2_with (first
            | (go_at_call 19; refine (when_any _ 1 _).mono ?_; rintro e w' ⟨rfl, rfl⟩)
            | fail)
          refine (errs_new (n := 4) [E1, E2, E3, 1] _ rfl (by simp) rfl (by omega)).mono ?_
          rintro e w14 ⟨rfl, hg14⟩
          rw [show firstE [E1, E2, E3, 1] = ONE from HO1.out]
          go_wp2_with fail
          go_meet
          exact ⟨rfl, gr_none HGX.out hg14⟩
      · go_wp2_with (first
          | (go_at_call 19; refine (when_any _ 1 _).mono ?_; rintro e w' ⟨rfl, rfl⟩)
          | fail)
        refine (errs_new (n := 4) [E1, E2, E3, 1] _ rfl (by simp) rfl (by omega)).mono ?_
        rintro e w14 ⟨rfl, hg14⟩
        rw [show firstE [E1, E2, E3, 1] = ONE from HO1.out]
        go_wp2_with fail
        go_meet
        exact ⟨rfl, gr_none HGX.out hg14⟩
    · go_wp2_with (first
        | (go_at_call 19; refine (when_any _ 1 _).mono ?_; rintro e w' ⟨rfl, rfl⟩)
        | fail)
      refine (errs_new (n := 4) [E1, E2, E3, 1] _ rfl (by simp) rfl (by omega)).mono ?_
      rintro e w14 ⟨rfl, hg14⟩
      rw [show firstE [E1, E2, E3, 1] = ONE from HO1.out]
      go_wp2_with fail
      go_meet
      exact ⟨rfl, gr_none HGX.out hg14⟩
  case rest =>
    obtain ⟨rfl, hg12⟩ := hcut
    obtain ⟨w12, rfl⟩ : ∃ w12 : World, w12 = wc := ⟨_, rfl⟩
    replace HG := Lib.hid (gr_none HG.out hg12)
    replace HC := Lib.hid (HC.out.grown hg12 (fun g e => by first | (cases e; done) | (injection e with e; omega)))
    replace HAG := Lib.hid (HAG.out.grown hg12 (fun g e => by first | (cases e; done) | (injection e with e; omega)))
    replace YX := Lib.hid (YX.out.grown hg12 (by simp))
    clear hg12 hD1 hD2 hD3 hD4
    go_upto_if 68 with (fail)
    go_cut [12, 13, 14, 15] (fun v u _ _ wx => v = .int .i64 E ∧ u = .int .i64 N ∧ w12.grownBy wx none)
    case first =>
      by_cases hz : ONE = 0
      · obtain ⟨hp0, p1, p2, hD⟩ := HZ0.out hz
        have dz : (ONE == 0) = true := by simpa using hz
        obtain ⟨⟨k1, k2, k3⟩, han, hcn⟩ := pch_right HAG.out HC.out.2 hp0
        have HD := Lib.hid hD
        have HEB := Lib.hid (show (if (!B) = true then (8 : Int) else 0) = E by rw [← HE.out, if_pos hz]; cases B <;> rfl)
        clear hD hp0 hz
        go_wp2_with (first
          | (refine wpl_load_all Tryz.syT rfl _ rfl _ rfl _ _ YX.out rfl ?_)
          | fail)
        refine (enoughOf_any lo3 lo1 ⟨s1, s2, s3⟩ gA gc A cA cc C most short part _ HAG.out HC.out (by omega) (by omega) ⟨p1, p2⟩ han hcn k1 k2 k3).mono ?_
        rintro e wd ⟨rfl, hgd⟩
        rw [HD.out]
        clear HD dz han hcn k1 k2 k3 p1 p2
        go_wp2_with (first
          | (go_at_call 19; refine (when_any _ 8 _).mono ?_; rintro e w' ⟨rfl, rfl⟩; rw [HEB.out])
          | fail)
        go_meet
        exact ⟨rfl, rfl, hgd⟩
      · have dz : (ONE == 0) = false := by simpa using hz
        have HN := Lib.hid (HZ1.out hz)
        have HEE := Lib.hid (show ONE = E by rw [← HE.out, if_neg hz])
        clear hz
        go_wp2_with fail
        go_meet
        exact ⟨by rw [HEE.out], by rw [HN.out], gr_refl _ _⟩
    case rest =>
      obtain ⟨rfl, rfl, hg13⟩ := hcut
      obtain ⟨w13, rfl⟩ : ∃ w13 : World, w13 = wc := ⟨_, rfl⟩
      replace HG := Lib.hid (gr_none HG.out hg13)
      clear hg13
      have q1 : (E == E) = true := by simp
      have q2 : (N == N) = true := by simp
      go_wp2_with (first
  | (go_at_call 14; refine (queued_true _).mono ?_; rintro e wz ⟨rfl, hgz⟩; have HGZ := Lib.hid hgz; clear hgz)
  | fail)
      go_ret
      refine ⟨rfl, ?_⟩
      have hfin := gr_none HG.out HGZ.out
      rw [← HSB.out] at hfin
      exact below_of_gr hfin
theorem met_AgentsEnough {W : World} (_h : laidMetH Tryz.prog Rows.agentsEnoughRow.laid W) : True := trivial

theorem own_AgentsEnough : ownKnob Tryz.prog.godebug = none := by kernel_rfl
theorem laidOut_AgentsEnough : laidOutB Tryz.prog = true := by kernel_rfl
set_option maxRecDepth 100000 in
theorem lifted_AgentsEnough (os : Os) (started : os.Started) (H : Type) (enc : TypeId × Value → H) :
    ReturnsInHanded {} Tryz.checked os 4 .any (fun w args => (Rows.agentsEnoughSpec.pre enc Tryz.prog Tryz.f4 [] false w args ∧ laidMetH Tryz.prog Rows.agentsEnoughRow.laid w) ∧ sizedMet enc Tryz.prog Tryz.f4 (OpenSpec.ofChange Rows.agentsEnoughSpec) false w args) (Rows.agentsEnoughSpec.post enc Tryz.prog Tryz.f4 false true false false) := by
  refine returnsInHanded_of_change_and (C := Tryz.checked) (X := fun w _ => laidMetH Tryz.prog Rows.agentsEnoughRow.laid w) (fun _ _ _ hh h => h.of_heap hh) own_AgentsEnough started (by kernel_rfl) Tryz.func4
    (ChangeSpec.witness_shaped (enc := enc) (C := Tryz.checked) (os := os) (X := fun w _ => laidMetH Tryz.prog Rows.agentsEnoughRow.laid w) false (World.laidAll Tryz.prog os Rows.agentsEnoughRow.laid) #[.slice none 0 0] 8 (World.laidAll_os _ _ _) (World.shaped_of_ZipB (by kernel_rfl) (by kernel_rfl)) (by kernel_rfl) (by kernel_rfl) (by kernel_rfl)
      (by rw [MakeChecks.laidMetH_plain _ _ _ (by kernel_rfl)]; exact laidMet_laidAll _ (by kernel_rfl) (by kernel_rfl))) ?_
  intro W base args ds gs before hval0 hW _ _ hL _
  have hval : ∀ (j : Nat) t v, Tryz.f4.params[j]? = some t → args[j]? = some v → Value.okWide Tryz.prog W .any base t v := hval0
  have hW' := hW
  obtain ⟨p, q, hA0, hV, rfl, hfz, hnd⟩ := hW
  have hA : DataW.TrodAll enc Tryz.prog W 0 (fun _ => true) true Tryz.f4.params.toList args.toList ds p := hA0
  rw [Tryz.params4] at hA hval
  obtain ⟨v0, vs0, d0, ds0, p0, q0, hargs, rfl, rfl, h0, r0⟩ := trodAll_cons hA
  obtain ⟨rfl, rfl, rfl⟩ := trodAll_nil r0
  obtain rfl : args = #[v0] := by cases args; simp_all
  obtain ⟨rfl, rfl⟩ := trodVars_none hV
  obtain ⟨a0, len0, cap0, rfl⟩ := okWide_slice Tryz.underlying22 (hval 0 22 v0 rfl rfl)
  have k0 := h0
  have lt0 : ∀ x ∈ p0, x.block < W.heap.size := by obtain ⟨m, hm⟩ := k0; exact DataW.trod_lt m _ _ _ hm
  obtain ⟨z0, w0⟩ : ∃ zs, IsRow .i64 W a0 len0 cap0 zs := by
    obtain ⟨fuel, hf⟩ := h0
    rcases open_ints Tryz.underlying22 Tryz.underlying3 (by kernel_rfl) hf with ⟨hcs, _⟩ | ⟨x, l, c, zs, hcs, _, hl, hm, hz, _, hcell, hwz⟩
    · simp [Value.cells] at hcs
      obtain ⟨rfl, rfl, rfl⟩ := hcs
      exact ⟨[], .inl ⟨rfl, rfl, rfl, rfl⟩⟩
    · simp [Value.cells] at hcs
      obtain ⟨rfl, rfl, rfl⟩ := hcs
      exact ⟨zs, .inr ⟨_, rfl, hl, hm, by simpa using hz, hcell, hwz⟩⟩
  clear hA0 hval0
  refine (walk_AgentsEnough a0 len0 cap0 z0 W w0 (met_AgentsEnough hL)).mono fun e W' ⟨he, bel⟩ => ?_
  subst he
  exact ⟨_, rfl, _, _, _, [], _, [], hW', trodAll_mk1 (shut_bool Tryz.underlying4 _), (trodAll_cons_mk (Below.trod laidOut_AgentsEnough (by kernel_rfl) (of_decide_eq_true (by kernel_rfl)) k0 bel lt0) trodAll_mk0), rfl, bel.frame _, fun h => by cases h⟩

theorem over_AgentsEnough : Rows.agentsEnoughRow.holds Tryz.pinned (OpenSpec.ofChange Rows.agentsEnoughSpec) :=
  OpenClaim.holds_of_wide 4 Tryz.f4 rfl rfl rfl rfl rfl rfl rfl ⟨rfl, rfl, rfl, rfl, rfl⟩ rfl rfl rfl rfl rfl (by kernel_rfl) Tryz.func4 (by kernel_rfl)
    (of_decide_eq_true (by kernel_rfl)) (by unfold Func.isWrapper; first | (rw [if_pos (by decide +kernel)]; kernel_rfl) | (rw [if_neg (by decide +kernel)]; exact ⟨rfl, rfl⟩))
    (fun os started H enc _ => lifted_AgentsEnough os started H enc)

theorem proved_AgentsEnough : Rows.AgentsEnoughCardSaid :=
  Claim7.holds_tied_plain_at .later [] [.data, .pinned] true Rows.agentsEnoughCard.stood.harness false
    over_AgentsEnough (fun _ h => by cases h) (by kernel_rfl) (fun _ h => by cases h) agentsEnough_row_tie rfl ⟨rfl, rfl⟩ (by kernel_rfl) rfl
    (fun f fn hf hfn => by
      obtain rfl : f = 4 := Option.some.inj ((show Tryz.prog.funcNamed Rows.agentsEnoughRow.func = some 4 by kernel_rfl).symm.trans hf) |>.symm
      obtain rfl : fn = Tryz.f4 := (Option.some.inj (Tryz.func4.symm.trans hfn)).symm
      exact ⟨by kernel_rfl, fun j t ht => by
        rw [Tryz.params4] at ht
        have h3 : t = 22 := by
          rcases j with _ | j
          · simpa using ht.symm
          · simp at ht
        subst h3
        exact (show Tryz.prog.wantsStandIn 22 = false by kernel_rfl)⟩)
    (by kernel_rfl)
end Go.Proofs.YtpeoijngmglbfaaGreatDoor


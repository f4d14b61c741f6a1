/- The law PatternsMatch: CheckPattern, Matches and Before are as specified for all patterns and strings. Conditions: none beside the row's own. -/
import Derived.Test.YtkkpioinccoinaaDoorLawBase
import Derived.Test.YtkkpioinccoinaaDoorGenPat
import Derived.Test.YtkkpioinccoinaaDoorErrs
import Derived.Test.YtkkpioinccoinaaDoorPatM4
import Derived.Test.YtkkpioinccoinaaDoorLaidDb
import Derived.Test.YtkkpioinccoinaaDoorPlanned
import Derived.Test.YtkkpioinccoinaaDoorTie
import Derived.Test.YtkkpioinccoinaaDoorCards
import Derived.ProofKit
import Derived.Lay
import Derived.OpenShut
import Derived.Stop.Joined
import Derived.SevenTiedAt
namespace Go.Proofs.YtkkpioinccoinaaDoor
open Go.ChangeShapes Go.WideShapes Go.ChangeAt Go.RowKit

set_option maxRecDepth 100000 in
set_option maxHeartbeats 4000000 in
theorem rightDialled_any (sb : Nat) (m : Int) (w : World) (hs : Str w sb m) (hm : m ≤ 1000000000000) :
    Calls Tryd.prog 95 #[.pointer (some ⟨sb, 0, none⟩)] w (Drawn sb (m + 8) (StrBd 40) w) := by
  have HS := Lib.hid hs; clear hs
  go_enter Tryd.func95, Tryd.ntmps95
  go_wp2_with fail
  refine (range_any sb m 1 6 _ HS.out (by omega) (by omega) (by omega) (by omega)).mono ?_
  rintro e w1 ⟨v1, rfl, ⟨r, r0, r1, rfl⟩, hs1, hg1⟩
  obtain ⟨N, rfl⟩ : ∃ N : Nat, r = N := ⟨r.toNat, by omega⟩
  have HS1 := Lib.hid hs1; have HG1 := Lib.hid hg1; clear hs1 hg1
  go_wp2_with fail
  go_loopw [3, 6] (fun s t wr => ∃ (i : Nat) (x : ByteArray), i ≤ N ∧ t = .int .i64 i ∧ s = .string x ∧ x.size ≤ i ∧ Str wr sb (m + 1 + i) ∧ w.grownBy wr (some sb)) (fun _ t _ => N - (intOf t).toNat)
  case atStart => exact ⟨0, ⟨#[]⟩, Nat.zero_le _, rfl, rfl, by decide, HS1.out.mono (by omega), HG1.out⟩
  case round =>
    obtain ⟨i, x, hi, rfl, rfl, hx, hs2, hg2⟩ := hrel
    have HS2 := Lib.hid hs2; have HG2 := Lib.hid hg2; clear hs2 hg2
    by_cases hlt : i < N
    · have d1 : decide ((i : Int) < (N : Int)) = true := decide_eq_true (by omega)
      have d1' : decide (i < N) = true := decide_eq_true hlt
      go_wp2_with fail
      refine (some_new (n := 8) sb _ 1 _ HS2.out (by omega) rfl (by
        repeat (first | exact StrsOk.nil _ | refine StrsOk.cons (by decide) ?_)) rfl (by omega) (by omega)).mono ?_
      rintro e w3 ⟨v3, rfl, ⟨y, rfl, hy⟩, hs3, hg3⟩
      have HS3 := Lib.hid hs3; have HG3 := Lib.hid (gr_same HG2.out hg3); clear hs3 hg3
      go_wp2_with fail
      go_roundw
      case rel => exact ⟨i + 1, x ++ y, by omega, by go_num, rfl, by rw [app_size]; omega, HS3.out.mono (by omega), HG3.out⟩
      case measure => simp [intOf]; omega
    · obtain rfl : i = N := by omega
      have d1 : decide ((i : Int) < (i : Int)) = false := decide_eq_false (by omega)
      go_wp2_with fail
      go_ret
      exact ⟨_, rfl, ⟨_, rfl, by omega⟩, HS2.out.mono (by omega), HG2.out⟩
set_option maxRecDepth 100000 in
set_option maxHeartbeats 4000000 in
theorem dialled_any (sb : Nat) (m : Int) (w : World) (hs : Str w sb m) (hm : m ≤ 999999999990) :
    Calls Tryd.prog 46 #[.pointer (some ⟨sb, 0, none⟩)] w (Drawn sb (m + 10) (StrBd 40) w) := by
  have hlt := hs.lt
  have HS := Lib.hid hs; clear hs
  go_enter Tryd.func46, Tryd.ntmps46
  go_wp2_with fail
  refine (flip_any sb _ 25 _ HS.out (by omega) (by omega) (by omega)).mono ?_
  rintro e w2 ⟨v2, rfl, ⟨f2, rfl⟩, hs2, hg2⟩
  have HS2 := Lib.hid hs2; have HG2 := Lib.hid hg2; clear hs2 hg2
  cases f2
  · go_wp2_with fail
    refine (rightDialled_any sb _ _ HS2.out (by omega)).mono ?_
    rintro e w3 ⟨v3, rfl, ⟨y, rfl, hy⟩, hs3, hg3⟩
    have HS3 := Lib.hid hs3; have HG3 := Lib.hid (gr_same HG2.out hg3); clear hs3 hg3
    go_wp2_with fail
    go_ret
    exact ⟨_, rfl, ⟨_, rfl, hy⟩, HS3.out.mono (by omega), HG3.out⟩
  · go_wp2_with fail
    refine (repeat_any ⟨#[49]⟩ 30 30 _ (by omega) (by decide) (by decide)).mono ?_
    rintro e w3 ⟨v3, rfl, ⟨t3, rfl, ht3⟩, hg3⟩
    have HS3 := Lib.hid (HS2.out.grown hg3 (fun g e => by cases e)); have HG3 := Lib.hid (gr_none HG2.out hg3); clear hg3
    go_wp2_with fail
    refine (repeat_any ⟨#[49]⟩ 31 31 _ (by omega) (by decide) (by decide)).mono ?_
    rintro e w4 ⟨v4, rfl, ⟨t4, rfl, ht4⟩, hg4⟩
    have HS4 := Lib.hid (HS3.out.grown hg4 (fun g e => by cases e)); have HG4 := Lib.hid (gr_none HG3.out hg4); clear hg4
    go_wp2_with fail
    refine (some_new (n := 6) sb _ 40 _ HS4.out (by omega) rfl (by
      repeat (first | exact StrsOk.nil _ | refine StrsOk.cons (by first | omega | decide) ?_)) rfl (by omega) (by omega)).mono ?_
    rintro e w6 ⟨v6, rfl, ⟨y, rfl, hy⟩, hs6, hg6⟩
    have HS6 := Lib.hid hs6; have HG6 := Lib.hid (gr_same HG4.out hg6); clear hs6 hg6
    go_wp2_with fail
    go_ret
    exact ⟨_, rfl, ⟨_, rfl, hy⟩, HS6.out.mono (by omega), HG6.out⟩

set_option maxRecDepth 100000 in
set_option maxHeartbeats 8000000 in
theorem walk_PatternsMatch (a0 : Option Addr) (len cap : Nat) (zs : List Int) (W : World) (h : IsRow .i64 W a0 len cap zs) (ht : DbT W) :
    Calls Tryd.prog 6 #[.slice a0 len cap] W (fun e w' => e = .returned (.bool true) ∧ Below W.heap.size W w') := by
  have hs := str_new h
  have hpos := ht.pos
  obtain ⟨sb, hsb⟩ : ∃ sb, W.heap.size = sb := ⟨_, rfl⟩
  have HG := Lib.hid (show W.grownBy (W.alloc (.cells #[.slice a0 len cap, .int .i64 0] 25)) (some sb) from gr_alloc (gr_refl _ _) _)
  have HT := Lib.hid (ht.grown HG.out (by rw [← hsb]; intro e; injection e with e; omega))
  rw [hsb] at hs
  have HS := Lib.hid hs
  have HSB := Lib.hid hsb
  have hne : (some sb) ≠ some 0 := by rw [← hsb]; intro e; injection e with e; omega
  have HNE := Lib.hid hne
  clear h hs ht hne
  go_enter Tryd.func6, Tryd.ntmps6
  go_wp2_with fail
  refine (pattern_any sb 0 _ HS.out (by omega)).mono ?_
  rintro e w1 ⟨v1, rfl, ⟨s, rfl, hs1⟩, hst1, hg1⟩
  have HS1 := Lib.hid hst1; have HG1 := Lib.hid (gr_same HG.out hg1); have HT1 := Lib.hid (HT.out.grown hg1 HNE.out); clear hst1 hg1 HS HG HT
  go_wp2_with fail
  refine (pattern_any sb _ _ HS1.out (by omega)).mono ?_
  rintro e w2 ⟨v2, rfl, ⟨t, rfl, hs2⟩, hst2, hg2⟩
  have HS2 := Lib.hid hst2; have HG2 := Lib.hid (gr_same HG1.out hg2); have HT2 := Lib.hid (HT1.out.grown hg2 HNE.out); clear hst2 hg2 HS1 HG1 HT1
  go_wp2_with fail
  refine (dialled_any sb _ _ HS2.out (by omega)).mono ?_
  rintro e w3 ⟨v3, rfl, ⟨d, rfl, hs3⟩, hst3, hg3⟩
  have HG3 := Lib.hid (gr_same HG2.out hg3); have HT3 := Lib.hid (HT2.out.grown hg3 HNE.out); clear hst3 hg3 HS2 HG2 HT2
  go_wp2_with fail
  refine (matches_any s d _ (by omega)).mono ?_
  rintro e w4 ⟨rfl, hg4⟩
  have HG4 := Lib.hid (gr_none HG3.out hg4); have HT4 := Lib.hid (HT3.out.grown hg4 (by simp)); clear hg4 HG3 HT3
  go_wp2_with fail
  refine (beforeFn_any s t _).mono ?_
  rintro e w5 ⟨rfl, hg5⟩
  have HG5 := Lib.hid (gr_none HG4.out hg5); have HT5 := Lib.hid (HT4.out.grown hg5 (by simp)); clear hg5 HG4 HT4
  go_wp2_with fail
  refine (patternFault_any s _).mono ?_
  rintro e w6 ⟨rfl, hg6⟩
  have HG6 := Lib.hid (gr_none HG5.out hg6); have HT6 := Lib.hid (HT5.out.grown hg6 (by simp)); clear hg6 HG5 HT5
  go_wp2_with fail
  refine (patternFault_any s _).mono ?_
  rintro e w7 ⟨rfl, hg7⟩
  have HG7 := Lib.hid (gr_none HG6.out hg7); have HT7 := Lib.hid (HT6.out.grown hg7 (by simp)); clear hg7 HG6 HT6
  go_wp2_with fail
  refine (patternFault_any t _).mono ?_
  rintro e w8 ⟨rfl, hg8⟩
  have HG8 := Lib.hid (gr_none HG7.out hg8); have HT8 := Lib.hid (HT7.out.grown hg8 (by simp)); clear hg8 HG7 HT7
  go_wp2_with fail
  refine (errs_new (n := 2) [patF (nb s), patF (nb t)] _ rfl rfl rfl (by omega)).mono ?_
  rintro e w9 ⟨rfl, hg9⟩
  have HG9 := Lib.hid (gr_none HG8.out hg9); have HT9 := Lib.hid (HT8.out.grown hg9 (by simp)); clear hg9 HG8 HT8
  obtain ⟨two, htwo⟩ : ∃ two, firstE [patF (nb s), patF (nb t)] = two := ⟨_, rfl⟩
  rw [htwo]
  rw [firstE_cons, firstE_cons, firstE_nil] at htwo
  have HTWO := Lib.hid htwo
  clear htwo
  go_wp2_with fail
  refine (dialledFault_any d _ (by omega)).mono ?_
  rintro e w10 ⟨rfl, rfl⟩
  go_wp2_with fail
  refine (errs_new (n := 2) [patF (nb s), dialE (nb d)] _ rfl rfl rfl (by omega)).mono ?_
  rintro e w11 ⟨rfl, hg11⟩
  have HG11 := Lib.hid (gr_none HG9.out hg11); have HT11 := Lib.hid (HT9.out.grown hg11 (by simp)); clear hg11 HG9 HT9
  obtain ⟨mt, hmt⟩ : ∃ mt, firstE [patF (nb s), dialE (nb d)] = mt := ⟨_, rfl⟩
  rw [hmt]
  rw [firstE_cons, firstE_cons, firstE_nil] at hmt
  have HMT := Lib.hid hmt
  clear hmt
  obtain ⟨l1, hl1⟩ : ∃ l1, nb s = l1 := ⟨_, rfl⟩
  obtain ⟨l2, hl2⟩ : ∃ l2, nb t = l2 := ⟨_, rfl⟩
  obtain ⟨l3, hl3⟩ : ∃ l3, nb d = l3 := ⟨_, rfl⟩
  have HL1 := Lib.hid hl1; have HL2 := Lib.hid hl2; have HL3 := Lib.hid hl3
  have htwo := HTWO.out
  have hmt := HMT.out
  rw [hl1, hl2] at htwo
  rw [hl1, hl3] at hmt
  rw [hl1, hl2, hl3]
  clear hl1 hl2 hl3 HTWO HMT
  cases h1 : patX l1 with
  | none =>
    have hf := patF_none h1
    have e1 : maR l1 l3 = (false, patF l1) := by unfold maR; rw [h1]; rfl
    have e2 : beR l1 l2 = (0, patF l1) := by unfold beR; rw [h1]; rfl
    rw [e1, e2]
    obtain ⟨z, hz⟩ : ∃ z, patF l1 = z := ⟨_, rfl⟩
    have HZ := Lib.hid (show patF (nb s) = z by rw [HL1.out]; exact hz)
    rw [hz] at hf htwo hmt ⊢
    rw [if_neg (show ¬ z = 0 by omega)] at htwo hmt
    subst htwo
    subst hmt
    have b1 : (z == 0) = false := by rw [beq_eq_false_iff_ne]; omega
    clear h1 e1 e2 hz
    go_wp2_with (first
      | (go_at_call 50
         refine (beforeOf_any s t P Q _ HP.out HQ.out).mono ?_
         rintro e w12 ⟨rfl, hg12⟩
         rw [HBZ.out]
         replace HG11 := Lib.hid (gr_none HG11.out hg12); replace HT11 := Lib.hid (HT11.out.grown hg12 (by simp)); clear hg12)
      | (go_at_call 51
         refine (checkPattern_any s _).mono ?_
         rintro e w13 ⟨rfl, hg13⟩
         rw [HZ.out]
         replace HG11 := Lib.hid (gr_none HG11.out hg13); replace HT11 := Lib.hid (HT11.out.grown hg13 (by simp)); clear hg13)
      | (go_at_call 52
         refine (matchesOf_any s d P _ HP.out (by omega)).mono ?_
         rintro e w14 ⟨rfl, hg14⟩
         rw [HMB.out]
         replace HG11 := Lib.hid (gr_none HG11.out hg14); replace HT11 := Lib.hid (HT11.out.grown hg14 (by simp)); clear hg14)
      | (go_at_call 13
         refine (planned_true _ HT11.out).mono ?_
         rintro e w15 ⟨rfl, hg15⟩
         replace HG11 := Lib.hid (gr_none HG11.out hg15); clear hg15)
      | fail)
    go_ret
    refine ⟨by first | rfl | simp | fail, ?_⟩
    have hfin := HG11.out
    rw [← HSB.out] at hfin
    exact below_of_gr hfin
  | some P =>
    have hf1 := patF_some h1
    have HZ := Lib.hid (show patF (nb s) = 0 by rw [HL1.out]; exact hf1)
    have HP := Lib.hid (show patX (nb s) = some P by rw [HL1.out]; exact h1)
    obtain ⟨B, hB⟩ : ∃ B, dialOk l3 = B := ⟨_, rfl⟩
    obtain ⟨MB, hMB⟩ : ∃ MB, matchL P l3 = MB := ⟨_, rfl⟩
    have HMB := Lib.hid (show matchL P (nb d) = MB by rw [HL3.out]; exact hMB)
    have e1 : maR l1 l3 = if B then (MB, 0) else (false, 3) := by unfold maR; rw [h1]; show (if dialOk l3 then _ else _) = _; rw [hB, hMB]
    have e3 : dialE l3 = if B then 0 else 3 := by unfold dialE; rw [hB]
    cases h2 : patX l2 with
    | none =>
      have hf := patF_none h2
      have e2 : beR l1 l2 = (0, patF l2) := by unfold beR; rw [h1, h2]; rfl
      rw [e1, e2, hf1]
      obtain ⟨z, hz⟩ : ∃ z, patF l2 = z := ⟨_, rfl⟩
      rw [hz] at hf ⊢
      rw [hf1, hz, if_pos rfl, if_neg (show ¬ z = 0 by omega)] at htwo
      rw [hf1, if_pos rfl, e3] at hmt
      subst htwo
      have b1 : (z == 0) = false := by rw [beq_eq_false_iff_ne]; omega
      clear h1 h2 e1 e2 e3 hz hMB hB
      cases B
      · have hmt' : mt = 3 := hmt.symm
        subst hmt'
        clear hmt
        go_wp2_with (first
          | (go_at_call 50
             refine (beforeOf_any s t P Q _ HP.out HQ.out).mono ?_
             rintro e w12 ⟨rfl, hg12⟩
             rw [HBZ.out]
             replace HG11 := Lib.hid (gr_none HG11.out hg12); replace HT11 := Lib.hid (HT11.out.grown hg12 (by simp)); clear hg12)
          | (go_at_call 51
             refine (checkPattern_any s _).mono ?_
             rintro e w13 ⟨rfl, hg13⟩
             rw [HZ.out]
             replace HG11 := Lib.hid (gr_none HG11.out hg13); replace HT11 := Lib.hid (HT11.out.grown hg13 (by simp)); clear hg13)
          | (go_at_call 52
             refine (matchesOf_any s d P _ HP.out (by omega)).mono ?_
             rintro e w14 ⟨rfl, hg14⟩
             rw [HMB.out]
             replace HG11 := Lib.hid (gr_none HG11.out hg14); replace HT11 := Lib.hid (HT11.out.grown hg14 (by simp)); clear hg14)
          | (go_at_call 13
             refine (planned_true _ HT11.out).mono ?_
             rintro e w15 ⟨rfl, hg15⟩
             replace HG11 := Lib.hid (gr_none HG11.out hg15); clear hg15)
          | fail)
        go_ret
        refine ⟨by first | rfl | simp | fail, ?_⟩
        have hfin := HG11.out
        rw [← HSB.out] at hfin
        exact below_of_gr hfin
      · have hmt' : mt = 0 := hmt.symm
        subst hmt'
        clear hmt
        cases MB
        · go_wp2_with (first
            | (go_at_call 50
               refine (beforeOf_any s t P Q _ HP.out HQ.out).mono ?_
               rintro e w12 ⟨rfl, hg12⟩
               rw [HBZ.out]
               replace HG11 := Lib.hid (gr_none HG11.out hg12); replace HT11 := Lib.hid (HT11.out.grown hg12 (by simp)); clear hg12)
            | (go_at_call 51
               refine (checkPattern_any s _).mono ?_
               rintro e w13 ⟨rfl, hg13⟩
               rw [HZ.out]
               replace HG11 := Lib.hid (gr_none HG11.out hg13); replace HT11 := Lib.hid (HT11.out.grown hg13 (by simp)); clear hg13)
            | (go_at_call 52
               refine (matchesOf_any s d P _ HP.out (by omega)).mono ?_
               rintro e w14 ⟨rfl, hg14⟩
               rw [HMB.out]
               replace HG11 := Lib.hid (gr_none HG11.out hg14); replace HT11 := Lib.hid (HT11.out.grown hg14 (by simp)); clear hg14)
            | (go_at_call 13
               refine (planned_true _ HT11.out).mono ?_
               rintro e w15 ⟨rfl, hg15⟩
               replace HG11 := Lib.hid (gr_none HG11.out hg15); clear hg15)
            | fail)
          go_ret
          refine ⟨by first | rfl | simp | fail, ?_⟩
          have hfin := HG11.out
          rw [← HSB.out] at hfin
          exact below_of_gr hfin
        · go_wp2_with (first
            | (go_at_call 50
               refine (beforeOf_any s t P Q _ HP.out HQ.out).mono ?_
               rintro e w12 ⟨rfl, hg12⟩
               rw [HBZ.out]
               replace HG11 := Lib.hid (gr_none HG11.out hg12); replace HT11 := Lib.hid (HT11.out.grown hg12 (by simp)); clear hg12)
            | (go_at_call 51
               refine (checkPattern_any s _).mono ?_
               rintro e w13 ⟨rfl, hg13⟩
               rw [HZ.out]
               replace HG11 := Lib.hid (gr_none HG11.out hg13); replace HT11 := Lib.hid (HT11.out.grown hg13 (by simp)); clear hg13)
            | (go_at_call 52
               refine (matchesOf_any s d P _ HP.out (by omega)).mono ?_
               rintro e w14 ⟨rfl, hg14⟩
               rw [HMB.out]
               replace HG11 := Lib.hid (gr_none HG11.out hg14); replace HT11 := Lib.hid (HT11.out.grown hg14 (by simp)); clear hg14)
            | (go_at_call 13
               refine (planned_true _ HT11.out).mono ?_
               rintro e w15 ⟨rfl, hg15⟩
               replace HG11 := Lib.hid (gr_none HG11.out hg15); clear hg15)
            | fail)
          go_ret
          refine ⟨by first | rfl | simp | fail, ?_⟩
          have hfin := HG11.out
          rw [← HSB.out] at hfin
          exact below_of_gr hfin
    | some Q =>
      have hf2 := patF_some h2
      have HQ := Lib.hid (show patX (nb t) = some Q by rw [HL2.out]; exact h2)
      have e2 : beR l1 l2 = (befL P Q, 0) := by unfold beR; rw [h1, h2]; rfl
      rw [e1, e2, hf1]
      rw [hf1, hf2, if_pos rfl, if_pos rfl] at htwo
      rw [hf1, if_pos rfl, e3] at hmt
      subst htwo
      obtain ⟨bz, hbz⟩ : ∃ bz, befL P Q = bz := ⟨_, rfl⟩
      rw [hbz]
      have HBZ := Lib.hid hbz
      clear h1 h2 e1 e2 e3 hMB hB hbz
      cases B
      · have hmt' : mt = 3 := hmt.symm
        subst hmt'
        clear hmt
        go_wp2_with (first
          | (go_at_call 50
             refine (beforeOf_any s t P Q _ HP.out HQ.out).mono ?_
             rintro e w12 ⟨rfl, hg12⟩
             rw [HBZ.out]
             replace HG11 := Lib.hid (gr_none HG11.out hg12); replace HT11 := Lib.hid (HT11.out.grown hg12 (by simp)); clear hg12)
          | (go_at_call 51
             refine (checkPattern_any s _).mono ?_
             rintro e w13 ⟨rfl, hg13⟩
             rw [HZ.out]
             replace HG11 := Lib.hid (gr_none HG11.out hg13); replace HT11 := Lib.hid (HT11.out.grown hg13 (by simp)); clear hg13)
          | (go_at_call 52
             refine (matchesOf_any s d P _ HP.out (by omega)).mono ?_
             rintro e w14 ⟨rfl, hg14⟩
             rw [HMB.out]
             replace HG11 := Lib.hid (gr_none HG11.out hg14); replace HT11 := Lib.hid (HT11.out.grown hg14 (by simp)); clear hg14)
          | (go_at_call 13
             refine (planned_true _ HT11.out).mono ?_
             rintro e w15 ⟨rfl, hg15⟩
             replace HG11 := Lib.hid (gr_none HG11.out hg15); clear hg15)
          | fail)
        go_ret
        refine ⟨by first | rfl | simp | fail, ?_⟩
        have hfin := HG11.out
        rw [← HSB.out] at hfin
        exact below_of_gr hfin
      · have hmt' : mt = 0 := hmt.symm
        subst hmt'
        clear hmt
        cases MB
        · go_wp2_with (first
            | (go_at_call 50
               refine (beforeOf_any s t P Q _ HP.out HQ.out).mono ?_
               rintro e w12 ⟨rfl, hg12⟩
               rw [HBZ.out]
               replace HG11 := Lib.hid (gr_none HG11.out hg12); replace HT11 := Lib.hid (HT11.out.grown hg12 (by simp)); clear hg12)
            | (go_at_call 51
               refine (checkPattern_any s _).mono ?_
               rintro e w13 ⟨rfl, hg13⟩
               rw [HZ.out]
               replace HG11 := Lib.hid (gr_none HG11.out hg13); replace HT11 := Lib.hid (HT11.out.grown hg13 (by simp)); clear hg13)
            | (go_at_call 52
               refine (matchesOf_any s d P _ HP.out (by omega)).mono ?_
               rintro e w14 ⟨rfl, hg14⟩
               rw [HMB.out]
               replace HG11 := Lib.hid (gr_none HG11.out hg14); replace HT11 := Lib.hid (HT11.out.grown hg14 (by simp)); clear hg14)
            | (go_at_call 13
               refine (planned_true _ HT11.out).mono ?_
               rintro e w15 ⟨rfl, hg15⟩
               replace HG11 := Lib.hid (gr_none HG11.out hg15); clear hg15)
            | fail)
          go_ret
          refine ⟨by first | rfl | simp | fail, ?_⟩
          have hfin := HG11.out
          rw [← HSB.out] at hfin
          exact below_of_gr hfin
        · go_wp2_with (first
            | (go_at_call 50
               refine (beforeOf_any s t P Q _ HP.out HQ.out).mono ?_
               rintro e w12 ⟨rfl, hg12⟩
               rw [HBZ.out]
               replace HG11 := Lib.hid (gr_none HG11.out hg12); replace HT11 := Lib.hid (HT11.out.grown hg12 (by simp)); clear hg12)
            | (go_at_call 51
               refine (checkPattern_any s _).mono ?_
               rintro e w13 ⟨rfl, hg13⟩
               rw [HZ.out]
               replace HG11 := Lib.hid (gr_none HG11.out hg13); replace HT11 := Lib.hid (HT11.out.grown hg13 (by simp)); clear hg13)
            | (go_at_call 52
               refine (matchesOf_any s d P _ HP.out (by omega)).mono ?_
               rintro e w14 ⟨rfl, hg14⟩
               rw [HMB.out]
               replace HG11 := Lib.hid (gr_none HG11.out hg14); replace HT11 := Lib.hid (HT11.out.grown hg14 (by simp)); clear hg14)
            | (go_at_call 13
               refine (planned_true _ HT11.out).mono ?_
               rintro e w15 ⟨rfl, hg15⟩
               replace HG11 := Lib.hid (gr_none HG11.out hg15); clear hg15)
            | fail)
          go_ret
          refine ⟨by first | rfl | simp | fail, ?_⟩
          have hfin := HG11.out
          rw [← HSB.out] at hfin
          exact below_of_gr hfin

theorem met_PatternsMatch {W : World} (h : laidMetH Tryd.prog Rows.patternsMatchRow.laid W) : DbT W := by
  rw [MakeChecks.laidMetH_plain _ _ _ (by kernel_rfl)] at h
  obtain ⟨ps, ⟨g0, t0, cs0, f0, p0, q0, hg0, ht0, hv0, hd0, _⟩, _, _⟩ := h
  obtain rfl := Option.some.inj (gDb.symm.trans hg0)
  obtain rfl := Option.some.inj (tDb.symm.trans ht0)
  intro i hi
  rw [World.var?_cell hg0 hv0 i]
  have := tab_cells (l := dbTab) Tryd.underlying176 Tryd.underlying5 (by kernel_rfl) hd0 i hi
  simpa using this

theorem own_PatternsMatch : ownKnob Tryd.prog.godebug = none := by kernel_rfl
theorem laidOut_PatternsMatch : laidOutB Tryd.prog = true := by kernel_rfl
set_option maxRecDepth 100000 in
theorem lifted_PatternsMatch (os : Os) (started : os.Started) (H : Type) (enc : TypeId × Value → H) :
    ReturnsInHanded {} Tryd.checked os 6 .any (fun w args => (Rows.patternsMatchSpec.pre enc Tryd.prog Tryd.f6 [] false w args ∧ laidMetH Tryd.prog Rows.patternsMatchRow.laid w) ∧ sizedMet enc Tryd.prog Tryd.f6 (OpenSpec.ofChange Rows.patternsMatchSpec) false w args) (Rows.patternsMatchSpec.post enc Tryd.prog Tryd.f6 false true false false) := by
  refine returnsInHanded_of_change_and (C := Tryd.checked) (X := fun w _ => laidMetH Tryd.prog Rows.patternsMatchRow.laid w) (fun _ _ _ hh h => h.of_heap hh) own_PatternsMatch started (by kernel_rfl) Tryd.func6
    (ChangeSpec.witness_shaped (enc := enc) (C := Tryd.checked) (os := os) (X := fun w _ => laidMetH Tryd.prog Rows.patternsMatchRow.laid w) false (World.laidAll Tryd.prog os Rows.patternsMatchRow.laid) #[.slice none 0 0] 8 (World.laidAll_os _ _ _) (World.shaped_of_ZipB (by kernel_rfl) (by kernel_rfl)) (by kernel_rfl) (by kernel_rfl) (by kernel_rfl)
      (by rw [MakeChecks.laidMetH_plain _ _ _ (by kernel_rfl)]; exact laidMet_laidAll _ (by kernel_rfl) (by kernel_rfl))) ?_
  intro W base args ds gs before hval0 hW _ _ hL _
  have hval : ∀ (j : Nat) t v, Tryd.f6.params[j]? = some t → args[j]? = some v → Value.okWide Tryd.prog W .any base t v := hval0
  have hW' := hW
  obtain ⟨p, q, hA0, hV, rfl, hfz, hnd⟩ := hW
  have hA : DataW.TrodAll enc Tryd.prog W 0 (fun _ => true) true Tryd.f6.params.toList args.toList ds p := hA0
  rw [Tryd.params6] at hA hval
  obtain ⟨v0, vs0, d0, ds0, p0, q0, hargs, rfl, rfl, h0, r0⟩ := trodAll_cons hA
  obtain ⟨rfl, rfl, rfl⟩ := trodAll_nil r0
  obtain rfl : args = #[v0] := by cases args; simp_all
  obtain ⟨rfl, rfl⟩ := trodVars_none hV
  obtain ⟨a0, len0, cap0, rfl⟩ := okWide_slice Tryd.underlying22 (hval 0 22 v0 rfl rfl)
  have k0 := h0
  have lt0 : ∀ x ∈ p0, x.block < W.heap.size := by obtain ⟨m, hm⟩ := k0; exact DataW.trod_lt m _ _ _ hm
  obtain ⟨z0, w0⟩ : ∃ zs, IsRow .i64 W a0 len0 cap0 zs := by
    obtain ⟨fuel, hf⟩ := h0
    rcases open_ints Tryd.underlying22 Tryd.underlying3 (by kernel_rfl) hf with ⟨hcs, _⟩ | ⟨x, l, c, zs, hcs, _, hl, hm, hz, _, hcell, hwz⟩
    · simp [Value.cells] at hcs
      obtain ⟨rfl, rfl, rfl⟩ := hcs
      exact ⟨[], .inl ⟨rfl, rfl, rfl, rfl⟩⟩
    · simp [Value.cells] at hcs
      obtain ⟨rfl, rfl, rfl⟩ := hcs
      exact ⟨zs, .inr ⟨_, rfl, hl, hm, by simpa using hz, hcell, hwz⟩⟩
  clear hA0 hval0
  refine (walk_PatternsMatch a0 len0 cap0 z0 W w0 (met_PatternsMatch hL)).mono fun e W' ⟨he, bel⟩ => ?_
  subst he
  exact ⟨_, rfl, _, _, _, [], _, [], hW', trodAll_mk1 (shut_bool Tryd.underlying4 _), (trodAll_cons_mk (Below.trod laidOut_PatternsMatch (by kernel_rfl) (of_decide_eq_true (by kernel_rfl)) k0 bel lt0) trodAll_mk0), rfl, bel.frame _, fun h => by cases h⟩

theorem over_PatternsMatch : Rows.patternsMatchRow.holds Tryd.pinned (OpenSpec.ofChange Rows.patternsMatchSpec) :=
  OpenClaim.holds_of_wide 6 Tryd.f6 rfl rfl rfl rfl rfl rfl rfl ⟨rfl, rfl, rfl, rfl, rfl⟩ rfl rfl rfl rfl rfl (by kernel_rfl) Tryd.func6 (by kernel_rfl)
    (of_decide_eq_true (by kernel_rfl)) (by unfold Func.isWrapper; first | (rw [if_pos (by decide +kernel)]; kernel_rfl) | (rw [if_neg (by decide +kernel)]; exact ⟨rfl, rfl⟩))
    (fun os started H enc _ => lifted_PatternsMatch os started H enc)

theorem proved_PatternsMatch : Rows.PatternsMatchCardSaid :=
  Claim7.holds_tied_plain_at .later [] [.data, .data, .pinned] true Rows.patternsMatchCard.stood.harness false
    over_PatternsMatch (fun _ h => by cases h) (by kernel_rfl) (fun _ h => by cases h) patternsMatch_row_tie rfl ⟨rfl, rfl⟩ (by kernel_rfl) rfl
    (fun f fn hf hfn => by
      obtain rfl : f = 6 := Option.some.inj ((show Tryd.prog.funcNamed Rows.patternsMatchRow.func = some 6 by kernel_rfl).symm.trans hf) |>.symm
      obtain rfl : fn = Tryd.f6 := (Option.some.inj (Tryd.func6.symm.trans hfn)).symm
      exact ⟨by kernel_rfl, fun j t ht => by
        rw [Tryd.params6] at ht
        have h3 : t = 22 := by
          rcases j with _ | j
          · simpa using ht.symm
          · simp at ht
        subst h3
        exact (show Tryd.prog.wantsStandIn 22 = false by kernel_rfl)⟩)
    (by kernel_rfl)
end Go.Proofs.YtkkpioinccoinaaDoor

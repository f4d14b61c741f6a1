/- The law PatternsShare: Shared and Least are as specified for all patterns. Conditions: none beside the row's own. -/
import Derived.Test.YtkkpioinccoinaaDoorLawBase
import Derived.Test.YtkkpioinccoinaaDoorGenPat
import Derived.Test.YtkkpioinccoinaaDoorErrs
import Derived.Test.YtkkpioinccoinaaDoorRefPat7
import Derived.Test.YtkkpioinccoinaaDoorLaidDb
import Derived.Test.YtkkpioinccoinaaDoorTie
import Derived.Test.YtkkpioinccoinaaDoorCards
import Derived.ProofKit
import Derived.LaidMore
import Derived.OpenShut
import Derived.Stop.Joined
import Derived.SevenTiedAt
namespace Go.Proofs.YtkkpioinccoinaaDoor
open Go.ChangeShapes Go.WideShapes Go.ChangeAt Go.RowKit

theorem leR_n1 : leR (nb ⟨#[78, 49]⟩) = ([50, 49], 0) := by decide +kernel
set_option maxHeartbeats 2000000 in
theorem planned_true (w : World) (ht : DbT w) : Calls Tryd.prog 13 #[] w (RetV (.bool true) w) := by
  have HT := Lib.hid ht; clear ht
  have hx : (strN [50, 49]).toList = [50, 49] := by rw [ByteArray.toList_eq]; decide
  go_enter Tryd.func13, Tryd.ntmps13
  go_wp2_with (first
    | (go_at_call 9
       refine (least_any ⟨#[78, 49]⟩ _ HT.out).mono ?_
       rintro e w1 ⟨rfl, hg1⟩
       rw [leR_n1]
       have HG := Lib.hid hg1; clear hg1)
    | fail)
  go_ret
  exact ⟨rfl, HG.out⟩
theorem DbT.pos {w : World} (h : DbT w) : 0 < w.heap.size := World.block_lt_of_cell? w _ (h 0 (by omega))

set_option maxRecDepth 100000 in
set_option maxHeartbeats 8000000 in
theorem walk_PatternsShare (a0 : Option Addr) (len cap : Nat) (zs : List Int) (W : World) (h : IsRow .i64 W a0 len cap zs) (ht : DbT W) :
    Calls Tryd.prog 3 #[.slice a0 len cap] W (fun e w' => e = .returned (.bool true) ∧ Below W.heap.size W w') := by
  have hs := str_new h
  have hpos := ht.pos
  obtain ⟨sb, hsb⟩ : ∃ sb, W.heap.size = sb := ⟨_, rfl⟩
  have HG := Lib.hid (show W.grownBy (W.alloc (.cells #[.slice a0 len cap, .int .i64 0] 25)) (some sb) from gr_alloc (gr_refl _ _) _)
  have HT := Lib.hid (ht.grown HG.out (by rw [← hsb]; intro e; injection e with e; omega))
  rw [hsb] at hs
  have HS := Lib.hid hs
  have HSB := Lib.hid hsb
  have hne : (some sb) ≠ some 0 := by rw [← hsb]; intro e; injection e with e; omega
  have HNE := Lib.hid hne
  clear h hs ht hne
  go_enter Tryd.func3, Tryd.ntmps3
  go_wp2_with fail
  refine (pattern_any sb 0 _ HS.out (by omega)).mono ?_
  rintro e w1 ⟨v1, rfl, ⟨s, rfl, hs1⟩, hst1, hg1⟩
  have HS1 := Lib.hid hst1; have HG1 := Lib.hid (gr_same HG.out hg1); have HT1 := Lib.hid (HT.out.grown hg1 HNE.out); clear hst1 hg1 HS HG HT
  go_wp2_with fail
  refine (pattern_any sb _ _ HS1.out (by omega)).mono ?_
  rintro e w2 ⟨v2, rfl, ⟨t, rfl, hs2⟩, hst2, hg2⟩
  have HG2 := Lib.hid (gr_same HG1.out hg2); have HT2 := Lib.hid (HT1.out.grown hg2 HNE.out); clear hst2 hg2 HS1 HG1 HT1
  go_wp2_with fail
  refine (sharedFn_any s t _ HT2.out).mono ?_
  rintro e w3 ⟨rfl, hg3⟩
  have HG3 := Lib.hid (gr_none HG2.out hg3); have HT3 := Lib.hid (HT2.out.grown hg3 (by simp)); clear hg3 HG2 HT2
  go_wp2_with fail
  refine (least_any s _ HT3.out).mono ?_
  rintro e w4 ⟨rfl, hg4⟩
  have HG4 := Lib.hid (gr_none HG3.out hg4); have HT4 := Lib.hid (HT3.out.grown hg4 (by simp)); clear hg4 HG3 HT3
  go_wp2_with fail
  refine (patternFault_any s _).mono ?_
  rintro e w5 ⟨rfl, hg5⟩
  have HG5 := Lib.hid (gr_none HG4.out hg5); have HT5 := Lib.hid (HT4.out.grown hg5 (by simp)); clear hg5 HG4 HT4
  go_wp2_with fail
  refine (patternFault_any s _).mono ?_
  rintro e w6 ⟨rfl, hg6⟩
  have HG6 := Lib.hid (gr_none HG5.out hg6); have HT6 := Lib.hid (HT5.out.grown hg6 (by simp)); clear hg6 HG5 HT5
  go_wp2_with fail
  refine (patternFault_any t _).mono ?_
  rintro e w7 ⟨rfl, hg7⟩
  have HG7 := Lib.hid (gr_none HG6.out hg7); have HT7 := Lib.hid (HT6.out.grown hg7 (by simp)); clear hg7 HG6 HT6
  go_wp2_with fail
  refine (errs_new (n := 2) [patF (nb s), patF (nb t)] _ rfl rfl rfl (by omega)).mono ?_
  rintro e w8 ⟨rfl, hg8⟩
  have HG8 := Lib.hid (gr_none HG7.out hg8); have HT8 := Lib.hid (HT7.out.grown hg8 (by simp)); clear hg8 HG7 HT7
  rw [firstE_cons, firstE_cons, firstE_nil]
  obtain ⟨l1, hl1⟩ : ∃ l1, nb s = l1 := ⟨_, rfl⟩
  obtain ⟨l2, hl2⟩ : ∃ l2, nb t = l2 := ⟨_, rfl⟩
  have HL1 := Lib.hid hl1; have HL2 := Lib.hid hl2
  rw [hl1, hl2]
  clear hl1 hl2
  cases h1 : patX l1 with
  | none =>
    have hf := patF_none h1
    have e1 : shR l1 l2 = ([], false, patF l1) := by unfold shR; rw [h1]; rfl
    have e2 : leR l1 = ([], patF l1) := by unfold leR; rw [h1]; rfl
    rw [e1, e2]
    obtain ⟨z, hz⟩ : ∃ z, patF l1 = z := ⟨_, rfl⟩
    rw [hz] at hf ⊢
    rw [if_neg (show ¬ z = 0 by omega)]
    have b1 : (z == 0) = false := by rw [beq_eq_false_iff_ne]; omega
    have hnil : strN [] = ⟨#[]⟩ := rfl
    rw [hnil]
    clear h1 e1 e2 hz
    go_wp2_with (first
      | (go_at_call 12
         ((with_reducible refine (sharedOf_any s t P Q _ HP.out HQ.out).mono ?_)
          rintro e w9 ⟨rfl, hg9⟩
          rw [HRQ.out, HSY.out, HBY.out]
          replace HG8 := Lib.hid (gr_none HG8.out hg9); replace HT8 := Lib.hid (HT8.out.grown hg9 (by simp)); clear hg9))
      | (go_at_call 12
         ((with_reducible refine (sharedOf_any s s P P _ HP.out HP.out).mono ?_)
          rintro e w10 ⟨rfl, hg10⟩
          rw [HRP.out, HSX.out]
          replace HG8 := Lib.hid (gr_none HG8.out hg10); replace HT8 := Lib.hid (HT8.out.grown hg10 (by simp)); clear hg10))
      | (go_at_call 13
         refine (planned_true _ HT8.out).mono ?_
         rintro e w11 ⟨rfl, hg11⟩
         replace HG8 := Lib.hid (gr_none HG8.out hg11); clear hg11)
      | fail)
    go_ret
    refine ⟨by first | rfl | simp | fail, ?_⟩
    have hfin := HG8.out
    rw [← HSB.out] at hfin
    exact below_of_gr hfin
  | some P =>
    have hf1 := patF_some h1
    have e2 : leR l1 = ((sharedL [P]).1, 0) := by unfold leR; rw [h1]; rfl
    have HP := Lib.hid (show patX (nb s) = some P by rw [HL1.out]; exact h1)
    have HRP := Lib.hid (show (refL P P).1 = (sharedL [P]).1 by rw [refL_shared (patX_right h1) (patX_right h1), sharedL_two])
    cases h2 : patX l2 with
    | none =>
      have hf := patF_none h2
      have e1 : shR l1 l2 = ([], false, patF l2) := by unfold shR; rw [h1, h2]; rfl
      rw [e1, e2, hf1]
      obtain ⟨z, hz⟩ : ∃ z, patF l2 = z := ⟨_, rfl⟩
      rw [hz] at hf ⊢
      rw [if_pos rfl, if_neg (show ¬ z = 0 by omega)]
      have b1 : (z == 0) = false := by rw [beq_eq_false_iff_ne]; omega
      have hnil : strN [] = ⟨#[]⟩ := rfl
      rw [hnil]
      obtain ⟨sx, hsx⟩ : ∃ sx, strN (sharedL [P]).1 = sx := ⟨_, rfl⟩
      rw [hsx]
      have HSX := Lib.hid hsx
      clear h1 h2 e1 e2 hz hsx
      go_wp2_with (first
        | (go_at_call 12
           ((with_reducible refine (sharedOf_any s t P Q _ HP.out HQ.out).mono ?_)
            rintro e w9 ⟨rfl, hg9⟩
            rw [HRQ.out, HSY.out, HBY.out]
            replace HG8 := Lib.hid (gr_none HG8.out hg9); replace HT8 := Lib.hid (HT8.out.grown hg9 (by simp)); clear hg9))
        | (go_at_call 12
           ((with_reducible refine (sharedOf_any s s P P _ HP.out HP.out).mono ?_)
            rintro e w10 ⟨rfl, hg10⟩
            rw [HRP.out, HSX.out]
            replace HG8 := Lib.hid (gr_none HG8.out hg10); replace HT8 := Lib.hid (HT8.out.grown hg10 (by simp)); clear hg10))
        | (go_at_call 13
           refine (planned_true _ HT8.out).mono ?_
           rintro e w11 ⟨rfl, hg11⟩
           replace HG8 := Lib.hid (gr_none HG8.out hg11); clear hg11)
        | fail)
      go_ret
      refine ⟨by first | rfl | simp | fail, ?_⟩
      have hfin := HG8.out
      rw [← HSB.out] at hfin
      exact below_of_gr hfin
    | some Q =>
      have hf2 := patF_some h2
      have e1 : shR l1 l2 = ((sharedL [P, Q]).1, (sharedL [P, Q]).2, 0) := by unfold shR; rw [h1, h2]; rfl
      have HQ := Lib.hid (show patX (nb t) = some Q by rw [HL2.out]; exact h2)
      have HRQ := Lib.hid (show refL P Q = sharedL [P, Q] from refL_shared (patX_right h1) (patX_right h2))
      rw [e1, e2, hf1, hf2, if_pos rfl, if_pos rfl]
      obtain ⟨sx, hsx⟩ : ∃ sx, strN (sharedL [P]).1 = sx := ⟨_, rfl⟩
      obtain ⟨sy, hsy⟩ : ∃ sy, strN (sharedL [P, Q]).1 = sy := ⟨_, rfl⟩
      obtain ⟨by_, hby⟩ : ∃ by_, (sharedL [P, Q]).2 = by_ := ⟨_, rfl⟩
      rw [hsx, hsy, hby]
      have HSX := Lib.hid hsx; have HSY := Lib.hid hsy; have HBY := Lib.hid hby
      clear h1 h2 e1 e2 hsx hsy hby
      go_wp2_with (first
        | (go_at_call 12
           ((with_reducible refine (sharedOf_any s t P Q _ HP.out HQ.out).mono ?_)
            rintro e w9 ⟨rfl, hg9⟩
            rw [HRQ.out, HSY.out, HBY.out]
            replace HG8 := Lib.hid (gr_none HG8.out hg9); replace HT8 := Lib.hid (HT8.out.grown hg9 (by simp)); clear hg9))
        | (go_at_call 12
           ((with_reducible refine (sharedOf_any s s P P _ HP.out HP.out).mono ?_)
            rintro e w10 ⟨rfl, hg10⟩
            rw [HRP.out, HSX.out]
            replace HG8 := Lib.hid (gr_none HG8.out hg10); replace HT8 := Lib.hid (HT8.out.grown hg10 (by simp)); clear hg10))
        | (go_at_call 13
           refine (planned_true _ HT8.out).mono ?_
           rintro e w11 ⟨rfl, hg11⟩
           replace HG8 := Lib.hid (gr_none HG8.out hg11); clear hg11)
        | fail)
      go_ret
      refine ⟨by first | rfl | simp | fail, ?_⟩
      have hfin := HG8.out
      rw [← HSB.out] at hfin
      exact below_of_gr hfin

theorem met_PatternsShare {W : World} (h : laidMetH Tryd.prog Rows.patternsShareRow.laid W) : DbT W := by
  rw [MakeChecks.laidMetH_plain _ _ _ (by kernel_rfl)] at h
  obtain ⟨ps, ⟨g0, t0, cs0, f0, p0, q0, hg0, ht0, hv0, hd0, _⟩, _, _⟩ := h
  obtain rfl := Option.some.inj (gDb.symm.trans hg0)
  obtain rfl := Option.some.inj (tDb.symm.trans ht0)
  intro i hi
  rw [World.var?_cell hg0 hv0 i]
  have := tab_cells (l := dbTab) Tryd.underlying176 Tryd.underlying5 (by kernel_rfl) hd0 i hi
  simpa using this

theorem own_PatternsShare : ownKnob Tryd.prog.godebug = none := by kernel_rfl
theorem laidOut_PatternsShare : laidOutB Tryd.prog = true := by kernel_rfl
/-- The heap that the program's own initialisers leave meets the condition. -/
theorem door_PatternsShare (os : Os) (args : Array Value) : laidMetH Tryd.prog Rows.patternsShareRow.laid ((World.doorLaid Tryd.prog 400 os).forCall (fun _ _ => 0) ⟨#[], args, []⟩).memory :=
  laidMetH_of_parts3 (fuel := 8) (laidMet_of_run' 8 (by kernel_rfl) (by kernel_rfl)) (by kernel_rfl) (by kernel_rfl)

set_option maxRecDepth 100000 in
theorem lifted_PatternsShare (os : Os) (started : os.Started) (H : Type) (enc : TypeId × Value → H) :
    ReturnsInHanded {} Tryd.checked os 3 .any (fun w args => (Rows.patternsShareSpec.pre enc Tryd.prog Tryd.f3 [] false w args ∧ laidMetH Tryd.prog Rows.patternsShareRow.laid w) ∧ sizedMet enc Tryd.prog Tryd.f3 (OpenSpec.ofChange Rows.patternsShareSpec) false w args) (Rows.patternsShareSpec.post enc Tryd.prog Tryd.f3 false true false false) := by
  refine returnsInHanded_of_change_and (C := Tryd.checked) (X := fun w _ => laidMetH Tryd.prog Rows.patternsShareRow.laid w) (fun _ _ _ hh h => h.of_heap hh) own_PatternsShare started (by kernel_rfl) Tryd.func3
    (ChangeSpec.witness_shaped (enc := enc) (C := Tryd.checked) (os := os) (X := fun w _ => laidMetH Tryd.prog Rows.patternsShareRow.laid w) false (World.doorLaid Tryd.prog 400 os) #[.slice none 0 0] 8 rfl (World.shaped_of_RefB (by kernel_rfl) (by kernel_rfl)) (by kernel_rfl) (by kernel_rfl) (by kernel_rfl) (door_PatternsShare os _)) ?_
  intro W base args ds gs before hval0 hW _ _ hL _
  have hval : ∀ (j : Nat) t v, Tryd.f3.params[j]? = some t → args[j]? = some v → Value.okWide Tryd.prog W .any base t v := hval0
  have hW' := hW
  obtain ⟨p, q, hA0, hV, rfl, hfz, hnd⟩ := hW
  have hA : DataW.TrodAll enc Tryd.prog W 0 (fun _ => true) true Tryd.f3.params.toList args.toList ds p := hA0
  rw [Tryd.params3] at hA hval
  obtain ⟨v0, vs0, d0, ds0, p0, q0, hargs, rfl, rfl, h0, r0⟩ := trodAll_cons hA
  obtain ⟨rfl, rfl, rfl⟩ := trodAll_nil r0
  obtain rfl : args = #[v0] := by cases args; simp_all
  obtain ⟨rfl, rfl⟩ := trodVars_none hV
  obtain ⟨a0, len0, cap0, rfl⟩ := okWide_slice Tryd.underlying22 (hval 0 22 v0 rfl rfl)
  have k0 := h0
  have lt0 : ∀ x ∈ p0, x.block < W.heap.size := by obtain ⟨m, hm⟩ := k0; exact DataW.trod_lt m _ _ _ hm
  obtain ⟨z0, w0⟩ : ∃ zs, IsRow .i64 W a0 len0 cap0 zs := by
    obtain ⟨fuel, hf⟩ := h0
    rcases open_ints Tryd.underlying22 Tryd.underlying3 (by kernel_rfl) hf with ⟨hcs, _⟩ | ⟨x, l, c, zs, hcs, _, hl, hm, hz, _, hcell, hwz⟩
    · simp [Value.cells] at hcs
      obtain ⟨rfl, rfl, rfl⟩ := hcs
      exact ⟨[], .inl ⟨rfl, rfl, rfl, rfl⟩⟩
    · simp [Value.cells] at hcs
      obtain ⟨rfl, rfl, rfl⟩ := hcs
      exact ⟨zs, .inr ⟨_, rfl, hl, hm, by simpa using hz, hcell, hwz⟩⟩
  clear hA0 hval0
  refine (walk_PatternsShare a0 len0 cap0 z0 W w0 (met_PatternsShare hL)).mono fun e W' ⟨he, bel⟩ => ?_
  subst he
  exact ⟨_, rfl, _, _, _, [], _, [], hW', trodAll_mk1 (shut_bool Tryd.underlying4 _), (trodAll_cons_mk (Below.trod laidOut_PatternsShare (by kernel_rfl) (of_decide_eq_true (by kernel_rfl)) k0 bel lt0) trodAll_mk0), rfl, bel.frame _, fun h => by cases h⟩

theorem over_PatternsShare : Rows.patternsShareRow.holds Tryd.pinned (OpenSpec.ofChange Rows.patternsShareSpec) :=
  OpenClaim.holds_of_wide 3 Tryd.f3 rfl rfl rfl rfl rfl rfl rfl ⟨rfl, rfl, rfl, rfl, rfl⟩ rfl rfl rfl rfl rfl (by kernel_rfl) Tryd.func3 (by kernel_rfl)
    (of_decide_eq_true (by kernel_rfl)) (by unfold Func.isWrapper; first | (rw [if_pos (by decide +kernel)]; kernel_rfl) | (rw [if_neg (by decide +kernel)]; exact ⟨rfl, rfl⟩))
    (fun os started H enc _ => lifted_PatternsShare os started H enc)

theorem proved_PatternsShare : Rows.PatternsShareCardSaid :=
  Claim7.holds_tied_plain_at .later [] [.data] true Rows.patternsShareCard.stood.harness false
    over_PatternsShare (fun _ h => by cases h) (by kernel_rfl) (fun _ h => by cases h) patternsShare_row_tie rfl ⟨rfl, rfl⟩ (by kernel_rfl) rfl
    (fun f fn hf hfn => by
      obtain rfl : f = 3 := Option.some.inj ((show Tryd.prog.funcNamed Rows.patternsShareRow.func = some 3 by kernel_rfl).symm.trans hf) |>.symm
      obtain rfl : fn = Tryd.f3 := (Option.some.inj (Tryd.func3.symm.trans hfn)).symm
      exact ⟨by kernel_rfl, fun j t ht => by
        rw [Tryd.params3] at ht
        have h3 : t = 22 := by
          rcases j with _ | j
          · simpa using ht.symm
          · simp at ht
        subst h3
        exact (show Tryd.prog.wantsStandIn 22 = false by kernel_rfl)⟩)
    (by kernel_rfl)
end Go.Proofs.YtkkpioinccoinaaDoor

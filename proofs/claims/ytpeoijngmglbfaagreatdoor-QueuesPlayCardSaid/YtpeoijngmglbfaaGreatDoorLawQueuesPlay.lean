/- The law QueuesPlay: Play is as specified for all styles, agents and callers. Conditions: none beside the row's own. -/
import Derived.Test.YtpeoijngmglbfaaGreatDoorBun1
import Derived.Test.YtpeoijngmglbfaaGreatDoorGenQue4
import Derived.Test.YtpeoijngmglbfaaGreatDoorGenQue2
import Derived.Test.YtpeoijngmglbfaaGreatDoorRo7
import Derived.Test.YtpeoijngmglbfaaGreatDoorPl9
import Derived.Test.YtpeoijngmglbfaaGreatDoorBun3
import Derived.Test.YtpeoijngmglbfaaGreatDoorTie
import Derived.Test.YtpeoijngmglbfaaGreatDoorCards
import Derived.ChangeKeysEq
import Derived.ProofKit
import Derived.Lay
import Derived.OpenShut
import Derived.Stop.Joined
import Derived.SevenTiedAt
import Derived.LaidMore
import Derived.MakeChecks
import Derived.LaidHandle
namespace Go.Proofs.YtpeoijngmglbfaaGreatDoor
open Go.ChangeShapes Go.WideShapes Go.ChangeAt Go.RowKit

/-- The first error of the three is the play's. -/
theorem pch_first (s : StyV) (A : List AgV) (C : List CaV) : firstE [styleE s.kind s.age s.say, agsE A, casE C] = pchE s A C := by
  unfold pchE
  simp only [firstE_cons, firstE_nil]
  by_cases h1 : styleE s.kind s.age s.say = 0
  · rw [if_pos h1, if_pos h1]
    by_cases h2 : agsE A = 0
    · rw [if_pos h2, if_pos h2]
      by_cases h3 : casE C = 0
      · rw [if_pos h3, h3]
      · rw [if_neg h3]
    · rw [if_neg h2, if_neg h2]
  · rw [if_neg h1, if_neg h1]
set_option maxRecDepth 100000 in
set_option maxHeartbeats 8000000 in
theorem walk_QueuesPlay (a0 : Option Addr) (len cap : Nat) (zs : List Int) (W : World) (h : IsRow .i64 W a0 len cap zs) (_ht : True) :
    Calls Tryz.prog 3 #[.slice a0 len cap] W (fun e w' => e = .returned (.bool true) ∧ Below W.heap.size W w') := by
  have hs := str_new h
  obtain ⟨sb, hsb⟩ : ∃ sb, W.heap.size = sb := ⟨_, rfl⟩
  have HG := Lib.hid (show W.grownBy (W.alloc (.cells #[.slice a0 len cap, .int .i64 0] 25)) (some sb) from gr_alloc (gr_refl _ _) _)
  rw [hsb] at hs
  have hlt := hs.lt
  have HS := Lib.hid hs
  have HSB := Lib.hid hsb
  clear h hs
  go_enter Tryz.func3, Tryz.ntmps3
  go_wp2_with fail
  refine (style_any sb _ _ HS.out (by omega)).mono ?_
  rintro e w1 ⟨v1, rfl, ⟨s1, s2, s3, rfl⟩, hs1, hg1⟩
  replace HS := Lib.hid hs1
  replace HG := Lib.hid (gr_same HG.out hg1)

  have z1 := hg1.size
  clear hs1 hg1
  go_wp2_with fail
  refine (agents_any sb _ _ HS.out (by omega)).mono ?_
  rintro e w2 ⟨v2, rfl, ⟨gA, ng, gc, A, rfl, hags, hng⟩, hs2, hg2⟩
  replace HS := Lib.hid hs2
  replace HG := Lib.hid (gr_same HG.out hg2)

  have z2 := hg2.size
  clear hs2 hg2
  have HAG := Lib.hid hags
  clear hags
  obtain ⟨lo3, hlo3⟩ : ∃ lo, w1.heap.size = lo := ⟨_, rfl⟩
  rw [hlo3] at HAG z1 z2
  go_wp2_with fail
  refine (callers_any sb _ 9 _ HS.out (by omega) (by omega) (by omega)).mono ?_
  rintro e w3 ⟨v3, rfl, ⟨cA, n, cc, C, rfl, hcas, hn⟩, hs3, hg3⟩
  replace HS := Lib.hid hs3
  replace HG := Lib.hid (gr_same HG.out hg3)
  replace HAG := Lib.hid (HAG.out.grown hg3 (fun g e => by first | (cases e; done) | (injection e with e; omega)))
  have z3 := hg3.size
  clear hs3 hg3
  have HC := Lib.hid (hcas.cas)
  clear hcas
  obtain ⟨lo1, hlo1⟩ : ∃ lo, w2.heap.size = lo := ⟨_, rfl⟩
  rw [hlo1] at HC z2 z3
  have hn9 : n ≤ 9 := by simpa using hn
  clear hn hlo1 hlo3
  obtain rfl : C.length = n := HC.out.1.len
  obtain rfl : A.length = ng := HAG.out.1.len
  obtain ⟨w4, hw4⟩ : ∃ v, w3.alloc (.cells #[.int .i64 s1, .int .i64 s2, .int .i64 s3] 27) = v := ⟨_, rfl⟩
  obtain ⟨xb, hxb⟩ : ∃ b, w3.heap.size = b := ⟨_, rfl⟩
  have HW4 := Lib.hid hw4; have HZ4 := Lib.hid hxb
  have YX := Lib.hid (show Blk w4 xb 27 #[.int .i64 s1, .int .i64 s2, .int .i64 s3] by rw [← hw4, ← hxb]; exact Blk.new _ _ _)
  have hg4 : w3.grownBy w4 none := by rw [← hw4]; exact gr_alloc (gr_refl _ _) _
  replace HG := Lib.hid (gr_none HG.out hg4)
  replace HC := Lib.hid (HC.out.grown hg4 (fun g e => by first | (cases e; done) | (injection e with e; omega)))
  replace HAG := Lib.hid (HAG.out.grown hg4 (fun g e => by first | (cases e; done) | (injection e with e; omega)))
  obtain ⟨E1, hE1⟩ : ∃ E, styleE s1 s2 s3 = E := ⟨_, rfl⟩
  obtain ⟨E2, hE2⟩ : ∃ E, agsE A = E := ⟨_, rfl⟩
  obtain ⟨E3, hE3⟩ : ∃ E, casE C = E := ⟨_, rfl⟩
  obtain ⟨F, hF⟩ : ∃ F, pchE ⟨s1, s2, s3⟩ A C = F := ⟨_, rfl⟩
  have HF1 := Lib.hid (show firstE [E1, E2, E3] = F by rw [← hE1, ← hE2, ← hE3, ← hF]; exact pch_first ⟨s1, s2, s3⟩ A C)
  have HE1 := Lib.hid hE1; have HE2 := Lib.hid hE2; have HE3 := Lib.hid hE3; have HF := Lib.hid hF
  clear hw4 hxb hg4 hE1 hE2 hE3 hF
  go_upto_region 3 with (fail)
  rw [HW4.out]
  (try rw [HZ4.out])
  clear HW4 HZ4
  go_wp2_with (first
    | (refine wpl_load_all Tryz.syT rfl _ rfl _ rfl _ _ YX.out rfl ?_)
    | fail)
  refine (Play_any lo3 lo1 ⟨s1, s2, s3⟩ gA gc A cA cc C _ HAG.out HC.out (by omega) (by omega)).mono ?_
  rintro e w5 ⟨hg5, hcase⟩
  replace HG := Lib.hid (gr_none HG.out hg5)
  replace HC := Lib.hid (HC.out.grown hg5 (fun g e => by first | (cases e; done) | (injection e with e; omega)))
  replace HAG := Lib.hid (HAG.out.grown hg5 (fun g e => by first | (cases e; done) | (injection e with e; omega)))
  replace YX := Lib.hid (YX.out.grown hg5 (by simp))
  have z5 := hg5.size
  clear hg5
  by_cases hz : F = 0
  · have dz : (F != 0) = false := by simpa using hz
    obtain ⟨B, m, c, rfl, hown⟩ : ∃ B m c, e = .returned (.tuple #[.slice B m c, .int .i64 0]) ∧ OwnR SeV.row 5 w5 w4.heap.size 44 B m c (playOf ⟨s1, s2, s3⟩ A C).se := by
      rcases hcase with ⟨hne, _⟩ | ⟨_, B, m, c, h1, h2⟩
      · exact absurd (HF.out.trans hz) hne
      · exact ⟨B, m, c, h1, h2⟩
    obtain ⟨⟨k1, k2, k3⟩, han, hcn⟩ := pch_right HAG.out HC.out.2 (HF.out.trans hz)
    have HAN := Lib.hid han; have HCN := Lib.hid hcn
    have hlen := (playOf_ok (s := ⟨s1, s2, s3⟩) (A := A) hcn han).s
    obtain ⟨L, hL⟩ : ∃ L, (playOf ⟨s1, s2, s3⟩ A C).se = L := ⟨_, rfl⟩
    rw [hL] at hown hlen
    obtain rfl : m = C.length := by rw [← hlen]; exact hown.2.symm
    have HO := Lib.hid hown.recs
    have HLL := Lib.hid hL
    clear hcase hown han hcn hlen hL
    go_wp2_with (first
      | (refine wpl_load_all Tryz.syT rfl _ rfl _ rfl _ _ YX.out rfl ?_)
      | fail)
    refine (styleFault_any s1 s2 s3 _).mono ?_
    rintro e w6 ⟨rfl, hg6⟩
    rw [HE1.out]
    replace HG := Lib.hid (gr_none HG.out hg6)
    replace HC := Lib.hid (HC.out.grown hg6 (fun g e => by first | (cases e; done) | (injection e with e; omega)))
    replace HAG := Lib.hid (HAG.out.grown hg6 (fun g e => by first | (cases e; done) | (injection e with e; omega)))
    replace YX := Lib.hid (YX.out.grown hg6 (by simp))
    (try replace HO := Lib.hid (HO.out.grown hg6 (fun g e => by cases e)))
    clear hg6
    go_wp2_with fail
    refine (agentsFault_any lo3 gA _ gc A _ HAG.out (by omega)).mono ?_
    rintro e w7 ⟨rfl, hg7⟩
    rw [HE2.out]
    replace HG := Lib.hid (gr_none HG.out hg7)
    replace HC := Lib.hid (HC.out.grown hg7 (fun g e => by first | (cases e; done) | (injection e with e; omega)))
    replace HAG := Lib.hid (HAG.out.grown hg7 (fun g e => by first | (cases e; done) | (injection e with e; omega)))
    replace YX := Lib.hid (YX.out.grown hg7 (by simp))
    (try replace HO := Lib.hid (HO.out.grown hg7 (fun g e => by cases e)))
    clear hg7
    go_wp2_with fail
    refine (callersFault_any lo1 cA _ cc C _ HC.out (by omega)).mono ?_
    rintro e w8 ⟨rfl, hg8⟩
    rw [HE3.out]
    replace HG := Lib.hid (gr_none HG.out hg8)
    replace HC := Lib.hid (HC.out.grown hg8 (fun g e => by first | (cases e; done) | (injection e with e; omega)))
    replace HAG := Lib.hid (HAG.out.grown hg8 (fun g e => by first | (cases e; done) | (injection e with e; omega)))
    replace YX := Lib.hid (YX.out.grown hg8 (by simp))
    (try replace HO := Lib.hid (HO.out.grown hg8 (fun g e => by cases e)))
    clear hg8
    go_wp2_with fail
    refine (errs_new (n := 3) [E1, E2, E3] _ rfl (by simp) rfl (by omega)).mono ?_
    rintro e w9 ⟨rfl, hg9⟩
    rw [HF1.out]
    replace HG := Lib.hid (gr_none HG.out hg9)
    replace HC := Lib.hid (HC.out.grown hg9 (fun g e => by first | (cases e; done) | (injection e with e; omega)))
    replace HAG := Lib.hid (HAG.out.grown hg9 (fun g e => by first | (cases e; done) | (injection e with e; omega)))
    replace YX := Lib.hid (YX.out.grown hg9 (by simp))
    (try replace HO := Lib.hid (HO.out.grown hg9 (fun g e => by cases e)))
    clear hg9
    subst hz
    have y0 := YX.out.cell 0
    have y1 := YX.out.cell 1
    have y2 := YX.out.cell 2
    go_wp2_with fail
    refine (playOf_any ⟨s1, s2, s3⟩ gA gc A cA cc C _ ⟨HAG.out.1.lower (Nat.zero_le _), fun a ha => (HAG.out.2 a ha).lower (Nat.zero_le _)⟩ ⟨HC.out.1.lower (Nat.zero_le _), HC.out.2⟩ (by omega) (by omega) HAN.out HCN.out k3 k1 k2).mono ?_
    rintro e w10 ⟨B2, c2, rfl, hown2, hg10, _⟩
    rw [HLL.out] at hown2
    have HO2 := Lib.hid hown2.recs
    replace HG := Lib.hid (gr_none HG.out hg10)
    replace HO := Lib.hid (HO.out.grown hg10 (fun g e => by cases e))
    clear y0 y1 y2 hown2 hg10
    go_wp2_with fail
    refine (equalSe_same _ _ B B2 _ c _ c2 _ _ HO.out HO2.out (by omega)).mono ?_
    rintro e w11 ⟨rfl, k, rfl⟩
    go_wp2_with (first
  | (go_at_call 14; refine (queued_true _).mono ?_; rintro e wz ⟨rfl, hgz⟩; have HGZ := Lib.hid hgz; clear hgz)
  | fail)
    go_ret
    refine ⟨rfl, ?_⟩
    have hfin := gr_none HG.out (gr_none (gr_drewN (gr_refl _ none) k) HGZ.out)
    rw [← HSB.out] at hfin
    exact below_of_gr hfin
  · have dz : (F != 0) = true := by simpa using hz
    obtain rfl : e = .returned (.tuple #[.slice none 0 0, .int .i64 F]) := by
      rcases hcase with ⟨_, h⟩ | ⟨h, _⟩
      · rw [h, HF.out]
      · exact absurd (HF.out.symm.trans h) hz
    clear hcase
    go_wp2_with (first
      | (refine wpl_load_all Tryz.syT rfl _ rfl _ rfl _ _ YX.out rfl ?_)
      | fail)
    refine (styleFault_any s1 s2 s3 _).mono ?_
    rintro e w6 ⟨rfl, hg6⟩
    rw [HE1.out]
    replace HG := Lib.hid (gr_none HG.out hg6)
    replace HC := Lib.hid (HC.out.grown hg6 (fun g e => by first | (cases e; done) | (injection e with e; omega)))
    replace HAG := Lib.hid (HAG.out.grown hg6 (fun g e => by first | (cases e; done) | (injection e with e; omega)))
    replace YX := Lib.hid (YX.out.grown hg6 (by simp))
    (try replace HO := Lib.hid (HO.out.grown hg6 (fun g e => by cases e)))
    clear hg6
    go_wp2_with fail
    refine (agentsFault_any lo3 gA _ gc A _ HAG.out (by omega)).mono ?_
    rintro e w7 ⟨rfl, hg7⟩
    rw [HE2.out]
    replace HG := Lib.hid (gr_none HG.out hg7)
    replace HC := Lib.hid (HC.out.grown hg7 (fun g e => by first | (cases e; done) | (injection e with e; omega)))
    replace HAG := Lib.hid (HAG.out.grown hg7 (fun g e => by first | (cases e; done) | (injection e with e; omega)))
    replace YX := Lib.hid (YX.out.grown hg7 (by simp))
    (try replace HO := Lib.hid (HO.out.grown hg7 (fun g e => by cases e)))
    clear hg7
    go_wp2_with fail
    refine (callersFault_any lo1 cA _ cc C _ HC.out (by omega)).mono ?_
    rintro e w8 ⟨rfl, hg8⟩
    rw [HE3.out]
    replace HG := Lib.hid (gr_none HG.out hg8)
    replace HC := Lib.hid (HC.out.grown hg8 (fun g e => by first | (cases e; done) | (injection e with e; omega)))
    replace HAG := Lib.hid (HAG.out.grown hg8 (fun g e => by first | (cases e; done) | (injection e with e; omega)))
    replace YX := Lib.hid (YX.out.grown hg8 (by simp))
    (try replace HO := Lib.hid (HO.out.grown hg8 (fun g e => by cases e)))
    clear hg8
    go_wp2_with fail
    refine (errs_new (n := 3) [E1, E2, E3] _ rfl (by simp) rfl (by omega)).mono ?_
    rintro e w9 ⟨rfl, hg9⟩
    rw [HF1.out]
    replace HG := Lib.hid (gr_none HG.out hg9)
    replace HC := Lib.hid (HC.out.grown hg9 (fun g e => by first | (cases e; done) | (injection e with e; omega)))
    replace HAG := Lib.hid (HAG.out.grown hg9 (fun g e => by first | (cases e; done) | (injection e with e; omega)))
    replace YX := Lib.hid (YX.out.grown hg9 (by simp))
    (try replace HO := Lib.hid (HO.out.grown hg9 (fun g e => by cases e)))
    clear hg9
    have q1 : (F == F) = true := by simp
    go_wp2_with (first
  | (go_at_call 14; refine (queued_true _).mono ?_; rintro e wz ⟨rfl, hgz⟩; have HGZ := Lib.hid hgz; clear hgz)
  | fail)
    go_ret
    refine ⟨rfl, ?_⟩
    have hfin := gr_none HG.out HGZ.out
    rw [← HSB.out] at hfin
    exact below_of_gr hfin
theorem met_QueuesPlay {W : World} (_h : laidMetH Tryz.prog Rows.queuesPlayRow.laid W) : True := trivial

theorem own_QueuesPlay : ownKnob Tryz.prog.godebug = none := by kernel_rfl
theorem laidOut_QueuesPlay : laidOutB Tryz.prog = true := by kernel_rfl
set_option maxRecDepth 100000 in
theorem lifted_QueuesPlay (os : Os) (started : os.Started) (H : Type) (enc : TypeId × Value → H) :
    ReturnsInHanded {} Tryz.checked os 3 .any (fun w args => (Rows.queuesPlaySpec.pre enc Tryz.prog Tryz.f3 [] false w args ∧ laidMetH Tryz.prog Rows.queuesPlayRow.laid w) ∧ sizedMet enc Tryz.prog Tryz.f3 (OpenSpec.ofChange Rows.queuesPlaySpec) false w args) (Rows.queuesPlaySpec.post enc Tryz.prog Tryz.f3 false true false false) := by
  refine returnsInHanded_of_change_and (C := Tryz.checked) (X := fun w _ => laidMetH Tryz.prog Rows.queuesPlayRow.laid w) (fun _ _ _ hh h => h.of_heap hh) own_QueuesPlay started (by kernel_rfl) Tryz.func3
    (ChangeSpec.witness_shaped (enc := enc) (C := Tryz.checked) (os := os) (X := fun w _ => laidMetH Tryz.prog Rows.queuesPlayRow.laid w) false (World.laidAll Tryz.prog os Rows.queuesPlayRow.laid) #[.slice none 0 0] 8 (World.laidAll_os _ _ _) (World.shaped_of_ZipB (by kernel_rfl) (by kernel_rfl)) (by kernel_rfl) (by kernel_rfl) (by kernel_rfl)
      (by rw [MakeChecks.laidMetH_plain _ _ _ (by kernel_rfl)]; exact laidMet_laidAll _ (by kernel_rfl) (by kernel_rfl))) ?_
  intro W base args ds gs before hval0 hW _ _ hL _
  have hval : ∀ (j : Nat) t v, Tryz.f3.params[j]? = some t → args[j]? = some v → Value.okWide Tryz.prog W .any base t v := hval0
  have hW' := hW
  obtain ⟨p, q, hA0, hV, rfl, hfz, hnd⟩ := hW
  have hA : DataW.TrodAll enc Tryz.prog W 0 (fun _ => true) true Tryz.f3.params.toList args.toList ds p := hA0
  rw [Tryz.params3] at hA hval
  obtain ⟨v0, vs0, d0, ds0, p0, q0, hargs, rfl, rfl, h0, r0⟩ := trodAll_cons hA
  obtain ⟨rfl, rfl, rfl⟩ := trodAll_nil r0
  obtain rfl : args = #[v0] := by cases args; simp_all
  obtain ⟨rfl, rfl⟩ := trodVars_none hV
  obtain ⟨a0, len0, cap0, rfl⟩ := okWide_slice Tryz.underlying22 (hval 0 22 v0 rfl rfl)
  have k0 := h0
  have lt0 : ∀ x ∈ p0, x.block < W.heap.size := by obtain ⟨m, hm⟩ := k0; exact DataW.trod_lt m _ _ _ hm
  obtain ⟨z0, w0⟩ : ∃ zs, IsRow .i64 W a0 len0 cap0 zs := by
    obtain ⟨fuel, hf⟩ := h0
    rcases open_ints Tryz.underlying22 Tryz.underlying3 (by kernel_rfl) hf with ⟨hcs, _⟩ | ⟨x, l, c, zs, hcs, _, hl, hm, hz, _, hcell, hwz⟩
    · simp [Value.cells] at hcs
      obtain ⟨rfl, rfl, rfl⟩ := hcs
      exact ⟨[], .inl ⟨rfl, rfl, rfl, rfl⟩⟩
    · simp [Value.cells] at hcs
      obtain ⟨rfl, rfl, rfl⟩ := hcs
      exact ⟨zs, .inr ⟨_, rfl, hl, hm, by simpa using hz, hcell, hwz⟩⟩
  clear hA0 hval0
  refine (walk_QueuesPlay a0 len0 cap0 z0 W w0 (met_QueuesPlay hL)).mono fun e W' ⟨he, bel⟩ => ?_
  subst he
  exact ⟨_, rfl, _, _, _, [], _, [], hW', trodAll_mk1 (shut_bool Tryz.underlying4 _), (trodAll_cons_mk (Below.trod laidOut_QueuesPlay (by kernel_rfl) (of_decide_eq_true (by kernel_rfl)) k0 bel lt0) trodAll_mk0), rfl, bel.frame _, fun h => by cases h⟩

theorem over_QueuesPlay : Rows.queuesPlayRow.holds Tryz.pinned (OpenSpec.ofChange Rows.queuesPlaySpec) :=
  OpenClaim.holds_of_wide 3 Tryz.f3 rfl rfl rfl rfl rfl rfl rfl ⟨rfl, rfl, rfl, rfl, rfl⟩ rfl rfl rfl rfl rfl (by kernel_rfl) Tryz.func3 (by kernel_rfl)
    (of_decide_eq_true (by kernel_rfl)) (by unfold Func.isWrapper; first | (rw [if_pos (by decide +kernel)]; kernel_rfl) | (rw [if_neg (by decide +kernel)]; exact ⟨rfl, rfl⟩))
    (fun os started H enc _ => lifted_QueuesPlay os started H enc)

theorem proved_QueuesPlay : Rows.QueuesPlayCardSaid :=
  Claim7.holds_tied_plain_at .later [] [.data, .pinned] true Rows.queuesPlayCard.stood.harness false
    over_QueuesPlay (fun _ h => by cases h) (by kernel_rfl) (fun _ h => by cases h) queuesPlay_row_tie rfl ⟨rfl, rfl⟩ (by kernel_rfl) rfl
    (fun f fn hf hfn => by
      obtain rfl : f = 3 := Option.some.inj ((show Tryz.prog.funcNamed Rows.queuesPlayRow.func = some 3 by kernel_rfl).symm.trans hf) |>.symm
      obtain rfl : fn = Tryz.f3 := (Option.some.inj (Tryz.func3.symm.trans hfn)).symm
      exact ⟨by kernel_rfl, fun j t ht => by
        rw [Tryz.params3] at ht
        have h3 : t = 22 := by
          rcases j with _ | j
          · simpa using ht.symm
          · simp at ht
        subst h3
        exact (show Tryz.prog.wantsStandIn 22 = false by kernel_rfl)⟩)
    (by kernel_rfl)
end Go.Proofs.YtpeoijngmglbfaaGreatDoor


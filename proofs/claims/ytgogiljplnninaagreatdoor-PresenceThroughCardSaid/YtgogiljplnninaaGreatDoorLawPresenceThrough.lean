/- The law PresenceThrough: Through is as specified for all beacons, persons and windows. Conditions: none. -/
import Derived.Test.YtgogiljplnninaaGreatDoorTh1
import Derived.Test.YtgogiljplnninaaGreatDoorTh2
import Derived.Test.YtgogiljplnninaaGreatDoorBun3
import Derived.Test.YtgogiljplnninaaGreatDoorBun2
import Derived.Test.YtgogiljplnninaaGreatDoorBun1
import Derived.Test.YtgogiljplnninaaGreatDoorBun5
import Derived.Lib.LaidU8T
import Derived.Test.YtgogiljplnninaaGreatDoorTie
import Derived.Test.YtgogiljplnninaaGreatDoorCards
import Derived.ChangeKeysEq
import Derived.ProofKit
import Derived.Lay
import Derived.OpenShut
import Derived.Stop.Joined
import Derived.SevenTiedAt
import Derived.LaidMore
import Derived.MakeChecks
import Derived.LaidHandle
import Derived.Lib.LaidTab
import Derived.Shelf.Vars
import Derived.Deep.CutBlock
import Derived.Deep.RegionHeld3
namespace Go.Proofs.YtgogiljplnninaaGreatDoor
open Go.ChangeShapes Go.WideShapes Go.ChangeAt Go.RowKit

theorem firstE_three (a b c : Int) : firstE [a, b, c] = if a = 0 then (if b = 0 then c else b) else a := by
  rw [firstE_cons, firstE_cons, firstE_cons, firstE_nil]
  by_cases h : c = 0
  · rw [if_pos h, h]
  · rw [if_neg h]
section
variable {l : List BcV} {p : ByteArray} {fr til : Int}
theorem th_parts (h : thE l p fr til = 0) : bcsE l = 0 ∧ keyOk (nb p) = true := by
  unfold thE at h
  by_cases h1 : bcsE l = 0
  · rw [if_pos h1] at h
    cases hk : keyOk (nb p)
    · rw [hk] at h; simp at h
    · exact ⟨h1, rfl⟩
  · rw [if_neg h1] at h; exact absurd h h1
theorem th_right (h : thE l p fr til = 0) : BAsc l := bAsc_of (bcs_all (th_parts h).1).2.2
theorem th_law (h : thE l p fr til = 0) : thL l p fr til = thD l p fr til := by
  unfold thL thD
  rw [if_pos h]
  exact through_same (th_parts h).2
theorem th_nil (h : thE l p fr til ≠ 0) : thL l p fr til = [] := by unfold thL; exact if_neg h
end
set_option maxRecDepth 100000 in
set_option maxHeartbeats 16000000 in
theorem walk_PresenceThrough (a0 : Option Addr) (len cap : Nat) (zs : List Int) (W : World) (h : IsRow .i64 W a0 len cap zs) (ht : U8T W ∧ MxT W) :
    Calls Tryz.prog 6 #[.slice a0 len cap] W (fun e w' => e = .returned (.bool true) ∧ Below W.heap.size W w') := by
  have hs := str_new h
  obtain ⟨sb, hsb⟩ : ∃ sb, W.heap.size = sb := ⟨_, rfl⟩
  have hg0 : W.grownBy (W.alloc (.cells #[.slice a0 len cap, .int .i64 0] 25)) (some sb) := gr_alloc (gr_refl _ _) _
  have HG := Lib.hid hg0
  rw [hsb] at hs
  have hlt := hs.lt
  have HS := Lib.hid hs
  have HSB := Lib.hid hsb
  have HU := Lib.hid ht.1; have HM := Lib.hid ht.2
  clear h hs hg0 ht
  go_enter Tryz.func6, Tryz.ntmps6
  go_wp2_with fail
  refine (range_any sb _ 0 9 _ HS.out (by omega) (by omega) (by omega) (by omega)).mono ?_
  rintro e w0 ⟨v0, rfl, ⟨r0, hlo0, hhi0, rfl⟩, hs0, hg0⟩
  replace HS := Lib.hid hs0; replace HG := Lib.hid (gr_same HG.out hg0)
  have z0 := hg0.size
  obtain ⟨q0, rfl⟩ : ∃ q : Nat, r0 = q := ⟨r0.toNat, by omega⟩
  clear hs0 hg0
  go_wp2_with fail
  refine (beacons_any sb _ q0 _ HS.out (by omega) (by omega)).mono ?_
  rintro e w1 ⟨v1, rfl, ⟨aA, an, ac, la, rfl, hca, han⟩, hs1, hg1⟩
  replace HS := Lib.hid hs1; replace HG := Lib.hid (gr_same HG.out hg1)
  have z1 := hg1.size
  obtain ⟨lo1, hlo1⟩ : ∃ lo, w0.heap.size = lo := ⟨_, rfl⟩
  rw [hlo1] at hca z0 z1
  have hl1 : sb < lo1 := by have := HS.out.lt; omega
  have HA := Lib.hid hca
  clear hca hlo1 hs1 hg1
  go_wp2_with fail
  refine (some_newQ (n := 4) NmQ sb _ _ HS.out (by omega) (by simp) (by repeat (first | exact StrsQ.nil _ | refine StrsQ.cons (by first | (unfold NmQ; decide) | decide | assumption) ?_)) rfl (by omega) (by omega)).mono ?_
  rintro e w2 ⟨v2, rfl, ⟨p, rfl, hp⟩, hs2, hg2⟩
  have hp8 : p.size ≤ 8 := hp
  replace HS := Lib.hid hs2; replace HG := Lib.hid (gr_same HG.out hg2); replace HA := Lib.hid (HA.out.grown hg2 (fun g e => by first | (cases e; done) | (injection e with e; omega)))
  have z2 := hg2.size
  clear hs2 hg2 hp
  go_wp2_with fail
  refine (pick_new sb _ [0, 3, 5, 20] _ HS.out (by omega) (by simp) rfl rfl (by simp) (by simp)).mono ?_
  rintro e w3 ⟨v3, rfl, ⟨r3, hr3, rfl⟩, hs3, hg3⟩
  replace HS := Lib.hid hs3; replace HG := Lib.hid (gr_same HG.out hg3); replace HA := Lib.hid (HA.out.grown hg3 (fun g e => by first | (cases e; done) | (injection e with e; omega)))
  have z3 := hg3.size
  clear hs3 hg3 hr3
  go_wp2_with fail
  refine (pick_new sb _ [10, 30, 200] _ HS.out (by omega) (by simp) rfl rfl (by simp) (by simp)).mono ?_
  rintro e w4 ⟨v4, rfl, ⟨r4, hr4, rfl⟩, hs4, hg4⟩
  have z4 := hg4.size
  replace HS := Lib.hid hs4; replace HG := Lib.hid (gr_same HG.out hg4); replace HA := Lib.hid (HA.out.grown hg4 (fun g e => by first | (cases e; done) | (injection e with e; omega)))
  clear hs4 hg4 hr4
  obtain ⟨fr, hfr⟩ : ∃ v, r3 = v := ⟨_, rfl⟩
  obtain ⟨til, htil⟩ : ∃ v, r4 = v := ⟨_, rfl⟩
  subst hfr; subst htil
  obtain ⟨wb, hwb⟩ : ∃ b, w4.heap.size = b := ⟨_, rfl⟩
  obtain ⟨w5, hw5⟩ : ∃ v, w4.alloc (.cells #[.int .i64 r3, .int .i64 r4] 79) = v := ⟨_, rfl⟩
  have HW := Lib.hid (show Blk w5 wb 79 #[.int .i64 r3, .int .i64 r4] by rw [← hw5, ← hwb]; exact Blk.new _ _ _)
  have hsw : sb < wb := by rw [← hwb]; exact HS.out.lt
  have hw4 : w4.heap.size ≤ wb := by rw [hwb]; exact Nat.le_refl _
  have HA4 := Lib.hid HA.out
  have HGb := Lib.hid (show w4.grownBy w5 (some sb) by rw [← hw5]; exact gr_alloc (gr_refl _ _) _)
  replace HS := Lib.hid (show Str w5 sb _ by rw [← hw5]; exact HS.out.alloc _)
  replace HG := Lib.hid (show W.grownBy w5 (some sb) by rw [← hw5]; exact gr_alloc HG.out _)
  replace HA := Lib.hid (show Bcs w5 lo1 aA an ac la by rw [← hw5]; exact HA.out.grown (gr_alloc (gr_refl _ none) _) (fun g e => by cases e))
  go_wp2_with fail
  (try rw [hw5])
  (try rw [hwb])
  clear hw5 hwb
  refine (flip_any sb _ 12 _ HS.out (by omega) (by omega) (by omega)).mono ?_
  rintro e w6 ⟨v6, rfl, ⟨f6, rfl⟩, hs6, hg6⟩
  replace HS := Lib.hid hs6; replace HGb := Lib.hid (gr_same HGb.out hg6); replace HG := Lib.hid (gr_same HG.out hg6); replace HA := Lib.hid (HA.out.grown hg6 (fun g e => by first | (cases e; done) | (injection e with e; omega))); replace HW := Lib.hid (HW.out.grown hg6 (by simp; omega))
  clear hs6 hg6
  cases f6
  · clear HS
    obtain ⟨fr, hfr⟩ : ∃ v, r3 = v := ⟨_, rfl⟩
    obtain ⟨til, htil⟩ : ∃ v, r4 = v := ⟨_, rfl⟩
    rw [hfr, htil] at HW
    simp only [hfr, htil]
    clear hfr htil
    obtain ⟨E1, hE1⟩ : ∃ E, bcsE la = E := ⟨_, rfl⟩
    obtain ⟨KY, hKY⟩ : ∃ E, keyOk (nb p) = E := ⟨_, rfl⟩
    obtain ⟨E, hEE⟩ : ∃ E, thE la p fr til = E := ⟨_, rfl⟩
    have HE1 := Lib.hid hE1; have HKY := Lib.hid hKY; have HEE := Lib.hid hEE
    clear hE1 hKY hEE
    replace HU := Lib.hid (HU.out.low HG.out (fun g e => by injection e with e; have := HU.out.lt; omega))
    replace HM := Lib.hid (HM.out.low HG.out (fun g e => by injection e with e; have := HM.out.lt; omega))
    go_wp2_with (first
      | (refine wpl_load_all Tryz.winTh rfl _ rfl _ rfl _ _ HW.out rfl ?_)
      | fail)
    refine (through_any lo1 aA an ac la p fr til _ HA.out (by omega) (by omega) HU.out HM.out).mono ?_
    rintro e w7 ⟨A7, n7, c7, rfl, hrec, hn7, hg7⟩
    rw [HEE.out]
    have HX := Lib.hid (hrec.lower (Nat.zero_le _))
    clear hrec
    replace HU := Lib.hid (HU.out.grown hg7)
    replace HM := Lib.hid (HM.out.grown hg7)
    replace HG := Lib.hid (gr_none HG.out hg7)
    replace HA := Lib.hid (HA.out.grown hg7 (fun g e => by cases e))
    replace HW := Lib.hid (HW.out.grown hg7 (by simp))
    clear hg7
    obtain ⟨V1, hV1⟩ : ∃ V, decide (fr < 0) = V := ⟨_, rfl⟩
    obtain ⟨V2, hV2⟩ : ∃ V, decide (til < fr) = V := ⟨_, rfl⟩
    obtain ⟨V3, hV3⟩ : ∃ V, decide (345686400000 < til) = V := ⟨_, rfl⟩
    have HTE := Lib.hid (show thE la p fr til = if E1 = 0 then (if KY then (if V1 || (V2 || V3) then 1 else 0) else 5) else E1 by unfold thE; rw [HE1.out, HKY.out, hV1, hV2, hV3])
    go_upto_region 6 with (fail)
    refine H_begin (fun w' => w7.grownBy w' none) (by kernel_rfl) ?_
    have hHeld : w7.grownBy w7.drew none := gr_drew (gr_refl _ _)
    generalize w7.drew = wd7 at hHeld ⊢
    refine H_take (k := 0) (v := ?_) (by rfl) (by kernel_rfl) (by kernel_rfl) (by kernel_rfl) (by exact fun _ _ _ h => h) (by rfl) ?_ (by assumption) ?_
    rotate_left 1
    · intro w hSw
      (try dsimp only at hSw)
      go_simp
      (try with_reducible rfl)
    (try simp only [Act.put, List.setIfInBounds_toArray, List.set_cons_zero, List.set_cons_succ])
    refine H_take (k := 2) (v := ?_) (by rfl) (by kernel_rfl) (by kernel_rfl) (by kernel_rfl) (by exact fun _ _ _ h => h) (by rfl) ?_ (by assumption) ?_
    rotate_left 1
    · intro w hSw
      (try dsimp only at hSw)
      go_simp
      (try with_reducible rfl)
    (try simp only [Act.put, List.setIfInBounds_toArray, List.set_cons_zero, List.set_cons_succ])
    refine H_take (k := 6) (v := ?_) (by rfl) (by kernel_rfl) (by kernel_rfl) (by kernel_rfl) (by exact fun _ _ _ h => h) (by rfl) ?_ (by assumption) ?_
    rotate_left 1
    · intro w hSw
      (try dsimp only at hSw)
      go_simp
      (try with_reducible rfl)
    (try simp only [Act.put, List.setIfInBounds_toArray, List.set_cons_zero, List.set_cons_succ])
    refine H_take (k := 7) (v := ?_) (by rfl) (by kernel_rfl) (by kernel_rfl) (by kernel_rfl) (by exact fun _ _ _ h => h) (by rfl) ?_ (by assumption) ?_
    rotate_left 1
    · intro w' hSw
      have kc := (HW.out.grown hSw (by simp)).cell 0
      go_simp
      (try with_reducible rfl)
    (try simp only [Act.put, List.setIfInBounds_toArray, List.set_cons_zero, List.set_cons_succ])
    refine H_take (k := 8) (v := ?_) (by rfl) (by kernel_rfl) (by kernel_rfl) (by kernel_rfl) (by exact fun _ _ _ h => h) (by rfl) ?_ (by assumption) ?_
    rotate_left 1
    · intro w hSw
      (try dsimp only at hSw)
      go_simp
      (try with_reducible rfl)
    (try simp only [Act.put, List.setIfInBounds_toArray, List.set_cons_zero, List.set_cons_succ])
    cases V1
    · cases V2
      · refine H_run (k := 1) (by rfl) (by kernel_rfl) (by rfl) (fun K hK => ?_)
        go_simp
        refine (beaconsFault_any lo1 aA an ac la _ (HA.out.grown hHeld (fun g e => by cases e)) (by omega) (HU.out.grown hHeld) (HM.out.grown hHeld)).mono ?_
        rintro e w' ⟨rfl, hg8⟩
        rw [HE1.out]
        have hh1 := gr_none hHeld hg8
        refine hK _ _ hh1 ?_
        clear hK K hHeld hg8
        have hHeld := hh1
        clear hh1
        (try simp only [Act.put, List.setIfInBounds_toArray, List.set_cons_zero, List.set_cons_succ])
        refine H_run (k := 3) (by rfl) (by kernel_rfl) (by rfl) (fun K hK => ?_)
        go_simp
        refine (keyRefR_any p _ (by omega)).mono ?_
        rintro e w' ⟨rfl, hg8⟩
        rw [HKY.out]
        have hh1 := gr_none hHeld hg8
        refine hK _ _ hh1 ?_
        clear hK K hHeld hg8
        have hHeld := hh1
        clear hh1
        (try simp only [Act.put, List.setIfInBounds_toArray, List.set_cons_zero, List.set_cons_succ])
        refine H_take (k := 4) (v := ?_) (by rfl) (by kernel_rfl) (by kernel_rfl) (by kernel_rfl) (by exact fun _ _ _ h => h) (by rfl) ?_ (by assumption) ?_
        rotate_left 1
        · intro w hSw
          (try dsimp only at hSw)
          go_simp
          (try with_reducible rfl)
        (try simp only [Act.put, List.setIfInBounds_toArray, List.set_cons_zero, List.set_cons_succ])
        refine H_run (k := 5) (by rfl) (by kernel_rfl) (by rfl) (fun K hK => ?_)
        go_simp
        refine (whenF_any (!KY) 5 _).mono ?_
        rintro e w' ⟨rfl, rfl⟩
        obtain ⟨E2, hE2⟩ : ∃ x, (if (!KY) = true then (5 : Int) else 0) = x := ⟨_, rfl⟩
        rw [hE2]
        have HE2 := Lib.hid hE2
        clear hE2
        refine hK _ _ (by exact hHeld) ?_
        clear hK K
        (try simp only [Act.put, List.setIfInBounds_toArray, List.set_cons_zero, List.set_cons_succ])
        refine H_take (k := 9) (v := ?_) (by rfl) (by kernel_rfl) (by kernel_rfl) (by kernel_rfl) (by exact fun _ _ _ h => h) (by rfl) ?_ (by assumption) ?_
        rotate_left 1
        · intro w hSw
          (try dsimp only at hSw)
          go_simp
          (try with_reducible rfl)
        (try simp only [Act.put, List.setIfInBounds_toArray, List.set_cons_zero, List.set_cons_succ])
        refine H_take (k := 10) (v := ?_) (by rfl) (by kernel_rfl) (by kernel_rfl) (by kernel_rfl) (by exact fun _ _ _ h => h) (by rfl) ?_ (by assumption) ?_
        rotate_left 1
        · intro w hSw
          (try dsimp only at hSw)
          go_simp
          (try with_reducible rfl)
        (try simp only [Act.put, List.setIfInBounds_toArray, List.set_cons_zero, List.set_cons_succ])
        refine H_take (k := 11) (v := ?_) (by rfl) (by kernel_rfl) (by kernel_rfl) (by kernel_rfl) (by exact fun _ _ _ h => h) (by rfl) ?_ (by assumption) ?_
        rotate_left 1
        · intro w' hSw
          have kc := (HW.out.grown hSw (by simp)).cell 0
          go_simp
          (try with_reducible rfl)
        (try simp only [Act.put, List.setIfInBounds_toArray, List.set_cons_zero, List.set_cons_succ])
        refine H_take (k := 12) (v := ?_) (by rfl) (by kernel_rfl) (by kernel_rfl) (by kernel_rfl) (by exact fun _ _ _ h => h) (by rfl) ?_ (by assumption) ?_
        rotate_left 1
        · intro w hSw
          (try dsimp only at hSw)
          go_simp
          (try with_reducible rfl)
        (try simp only [Act.put, List.setIfInBounds_toArray, List.set_cons_zero, List.set_cons_succ])
        refine H_take (k := 13) (v := ?_) (by rfl) (by kernel_rfl) (by kernel_rfl) (by kernel_rfl) (by exact fun _ _ _ h => h) (by rfl) ?_ (by assumption) ?_
        rotate_left 1
        · intro w' hSw
          have kc := (HW.out.grown hSw (by simp)).cell 1
          go_simp
          (try with_reducible rfl)
        (try simp only [Act.put, List.setIfInBounds_toArray, List.set_cons_zero, List.set_cons_succ])
        refine H_take (k := 14) (v := ?_) (by rfl) (by kernel_rfl) (by kernel_rfl) (by kernel_rfl) (by exact fun _ _ _ h => h) (by rfl) ?_ (by assumption) ?_
        rotate_left 1
        · intro w hSw
          (try dsimp only at hSw)
          go_simp
          (try with_reducible rfl)
        (try simp only [Act.put, List.setIfInBounds_toArray, List.set_cons_zero, List.set_cons_succ])
        refine H_take (k := 15) (v := ?_) (by rfl) (by kernel_rfl) (by kernel_rfl) (by kernel_rfl) (by exact fun _ _ _ h => h) (by rfl) ?_ (by assumption) ?_
        rotate_left 1
        · intro w hSw
          (try dsimp only at hSw)
          go_simp
          (try with_reducible rfl)
        (try simp only [Act.put, List.setIfInBounds_toArray, List.set_cons_zero, List.set_cons_succ])
        refine H_take (k := 16) (v := ?_) (by rfl) (by kernel_rfl) (by kernel_rfl) (by kernel_rfl) (by exact fun _ _ _ h => h) (by rfl) ?_ (by assumption) ?_
        rotate_left 1
        · intro w hSw
          (try dsimp only at hSw)
          go_simp
          (try with_reducible rfl)
        (try simp only [Act.put, List.setIfInBounds_toArray, List.set_cons_zero, List.set_cons_succ])
        refine H_take (k := 17) (v := ?_) (by rfl) (by kernel_rfl) (by kernel_rfl) (by kernel_rfl) (by exact fun _ _ _ h => h) (by rfl) ?_ (by assumption) ?_
        rotate_left 1
        · intro w hSw
          (try dsimp only at hSw)
          go_simp
          (try with_reducible rfl)
        (try simp only [Act.put, List.setIfInBounds_toArray, List.set_cons_zero, List.set_cons_succ])
        refine H_take (k := 18) (v := ?_) (by rfl) (by kernel_rfl) (by kernel_rfl) (by kernel_rfl) (by exact fun _ _ _ h => h) (by rfl) ?_ (by assumption) ?_
        rotate_left 1
        · intro w' hSw
          have kc := (HW.out.grown hSw (by simp)).cell 1
          go_simp
          (try with_reducible rfl)
        (try simp only [Act.put, List.setIfInBounds_toArray, List.set_cons_zero, List.set_cons_succ])
        refine H_take (k := 19) (v := ?_) (by rfl) (by kernel_rfl) (by kernel_rfl) (by kernel_rfl) (by exact fun _ _ _ h => h) (by rfl) ?_ (by assumption) ?_
        rotate_left 1
        · intro w hSw
          (try dsimp only at hSw)
          go_simp
          (try with_reducible rfl)
        (try simp only [Act.put, List.setIfInBounds_toArray, List.set_cons_zero, List.set_cons_succ])
        refine H_take (k := 20) (v := ?_) (by rfl) (by kernel_rfl) (by kernel_rfl) (by kernel_rfl) (by exact fun _ _ _ h => h) (by rfl) ?_ (by assumption) ?_
        rotate_left 1
        · intro w hSw
          (try dsimp only at hSw)
          go_simp
          (try with_reducible rfl)
        (try simp only [Act.put, List.setIfInBounds_toArray, List.set_cons_zero, List.set_cons_succ])
        refine H_run (k := 21) (by rfl) (by kernel_rfl) (by rfl) (fun K hK => ?_)
        go_simp
        refine (whenF_any V3 1 _).mono ?_
        rintro e w' ⟨rfl, rfl⟩
        obtain ⟨E3, hE3⟩ : ∃ x, (if V3 = true then (1 : Int) else 0) = x := ⟨_, rfl⟩
        rw [hE3]
        have HE3 := Lib.hid hE3
        clear hE3
        refine hK _ _ (by exact hHeld) ?_
        clear hK K
        (try simp only [Act.put, List.setIfInBounds_toArray, List.set_cons_zero, List.set_cons_succ])
        have HFE := Lib.hid (show firstE [E1, E2, E3] = thE la p fr til by rw [firstE_three, HTE.out, ← HE2.out, ← HE3.out]; cases KY <;> simp)
        refine H_run (k := 22) (by rfl) (by kernel_rfl) (by rfl) (fun K hK => ?_)
        go_simp
        have hh3 := gr_alloc hHeld (.cells #[.int .i64 E1, .int .i64 E2, .int .i64 E3] 36)
        refine hK _ _ hh3 ?_
        clear hK K hHeld
        have hHeld := hh3
        clear hh3
        (try simp only [Act.put, List.setIfInBounds_toArray, List.set_cons_zero, List.set_cons_succ])
        refine H_run (k := 23) (by rfl) (by kernel_rfl) (by rfl) (fun K hK => ?_)
        go_simp
        refine (errs_run 0 _ 3 3 [E1, E2, E3] _ (by exact (Reads.blk (Blk.new _ _ _) 1 3 rfl).lower (Nat.zero_le _)) (by omega)).mono ?_
        rintro e w' ⟨rfl, rfl⟩
        rw [HFE.out, HEE.out]
        refine hK _ _ (by exact hHeld) ?_
        clear hK K
        (try simp only [Act.put, List.setIfInBounds_toArray, List.set_cons_zero, List.set_cons_succ])
        refine H_take (k := 24) (v := ?_) (by rfl) (by kernel_rfl) (by kernel_rfl) (by kernel_rfl) (by exact fun _ _ _ h => h) (by rfl) ?_ (by assumption) ?_
        rotate_left 1
        · intro w hSw
          (try dsimp only at hSw)
          go_simp
          (try with_reducible rfl)
        (try simp only [Act.put, List.setIfInBounds_toArray, List.set_cons_zero, List.set_cons_succ])
        refine H_done (by kernel_rfl) ?_
        have hg9 := hHeld
        clear hHeld
        replace HG := Lib.hid (gr_none HG.out hg9)
        replace HA := Lib.hid (HA.out.grown hg9 (fun g e => by cases e))
        replace HX := Lib.hid (HX.out.grown hg9 (fun g e => by cases e))
        replace HW := Lib.hid (HW.out.grown hg9 (by simp))
        clear hg9
        by_cases he : E = 0
        · have q1 : (E == 0) = true := by rw [he]; rfl
          have q2 : (E == E) = true := beq_self_eq_true _
          have HRI := Lib.hid (th_right (HEE.out.trans he))
          have hth := th_law (HEE.out.trans he)
          have HTH := Lib.hid hth
          clear he hth
          go_wp2_with (first
            | (refine wpl_load_all Tryz.winTh rfl _ rfl _ rfl _ _ HW.out rfl ?_)
            | fail)
          refine (throughOf_any lo1 aA an ac la p fr til _ HA.out (by omega) HRI.out).mono ?_
          rintro e wb ⟨B7, m7, d7, rfl, hrec2, hm7, hgb⟩
          rw [← HTH.out] at hrec2
          have HY := Lib.hid (hrec2.lower (Nat.zero_le _))
          clear hrec2
          replace HG := Lib.hid (gr_none HG.out hgb)
          replace HX := Lib.hid (HX.out.grown hgb (fun g e => by cases e))
          clear hgb
          go_wp2_with fail
          refine (equalBc_same 0 0 A7 B7 _ _ _ _ _ _ HX.out HY.out (by omega)).mono ?_
          rintro e wd ⟨rfl, k2, rfl⟩
          replace HG := Lib.hid (gr_drewN HG.out k2)
          go_wp2_with (first
            | (go_at_call 29; refine (voiced_true _).mono ?_; rintro e wz ⟨rfl, hgz⟩; have HGZ := Lib.hid hgz; clear hgz)
            | fail)
          go_ret
          refine ⟨rfl, ?_⟩
          have hfin := gr_none HG.out HGZ.out
          rw [← HSB.out] at hfin
          exact below_of_gr hfin
        · have q1 : (E == 0) = false := beq_eq_false_iff_ne.2 he
          have q2 : (E == E) = true := beq_self_eq_true _
          have hnl := th_nil (l := la) (p := p) (fr := fr) (til := til) (by rw [HEE.out]; exact he)
          rw [hnl] at HX
          clear he hnl
          go_wp2_with fail
          refine (equalBc_same 0 0 A7 none _ _ _ _ [] _ HX.out (Recs.nil (lo := 0)) (by omega)).mono ?_
          rintro e wd ⟨rfl, k2, rfl⟩
          replace HG := Lib.hid (gr_drewN HG.out k2)
          go_wp2_with (first
            | (go_at_call 29; refine (voiced_true _).mono ?_; rintro e wz ⟨rfl, hgz⟩; have HGZ := Lib.hid hgz; clear hgz)
            | fail)
          go_ret
          refine ⟨rfl, ?_⟩
          have hfin := gr_none HG.out HGZ.out
          rw [← HSB.out] at hfin
          exact below_of_gr hfin
      · refine H_run (k := 1) (by rfl) (by kernel_rfl) (by rfl) (fun K hK => ?_)
        go_simp
        refine (beaconsFault_any lo1 aA an ac la _ (HA.out.grown hHeld (fun g e => by cases e)) (by omega) (HU.out.grown hHeld) (HM.out.grown hHeld)).mono ?_
        rintro e w' ⟨rfl, hg8⟩
        rw [HE1.out]
        have hh1 := gr_none hHeld hg8
        refine hK _ _ hh1 ?_
        clear hK K hHeld hg8
        have hHeld := hh1
        clear hh1
        (try simp only [Act.put, List.setIfInBounds_toArray, List.set_cons_zero, List.set_cons_succ])
        refine H_run (k := 3) (by rfl) (by kernel_rfl) (by rfl) (fun K hK => ?_)
        go_simp
        refine (keyRefR_any p _ (by omega)).mono ?_
        rintro e w' ⟨rfl, hg8⟩
        rw [HKY.out]
        have hh1 := gr_none hHeld hg8
        refine hK _ _ hh1 ?_
        clear hK K hHeld hg8
        have hHeld := hh1
        clear hh1
        (try simp only [Act.put, List.setIfInBounds_toArray, List.set_cons_zero, List.set_cons_succ])
        refine H_take (k := 4) (v := ?_) (by rfl) (by kernel_rfl) (by kernel_rfl) (by kernel_rfl) (by exact fun _ _ _ h => h) (by rfl) ?_ (by assumption) ?_
        rotate_left 1
        · intro w hSw
          (try dsimp only at hSw)
          go_simp
          (try with_reducible rfl)
        (try simp only [Act.put, List.setIfInBounds_toArray, List.set_cons_zero, List.set_cons_succ])
        refine H_run (k := 5) (by rfl) (by kernel_rfl) (by rfl) (fun K hK => ?_)
        go_simp
        refine (whenF_any (!KY) 5 _).mono ?_
        rintro e w' ⟨rfl, rfl⟩
        obtain ⟨E2, hE2⟩ : ∃ x, (if (!KY) = true then (5 : Int) else 0) = x := ⟨_, rfl⟩
        rw [hE2]
        have HE2 := Lib.hid hE2
        clear hE2
        refine hK _ _ (by exact hHeld) ?_
        clear hK K
        (try simp only [Act.put, List.setIfInBounds_toArray, List.set_cons_zero, List.set_cons_succ])
        refine H_take (k := 9) (v := ?_) (by rfl) (by kernel_rfl) (by kernel_rfl) (by kernel_rfl) (by exact fun _ _ _ h => h) (by rfl) ?_ (by assumption) ?_
        rotate_left 1
        · intro w hSw
          (try dsimp only at hSw)
          go_simp
          (try with_reducible rfl)
        (try simp only [Act.put, List.setIfInBounds_toArray, List.set_cons_zero, List.set_cons_succ])
        refine H_take (k := 10) (v := ?_) (by rfl) (by kernel_rfl) (by kernel_rfl) (by kernel_rfl) (by exact fun _ _ _ h => h) (by rfl) ?_ (by assumption) ?_
        rotate_left 1
        · intro w hSw
          (try dsimp only at hSw)
          go_simp
          (try with_reducible rfl)
        (try simp only [Act.put, List.setIfInBounds_toArray, List.set_cons_zero, List.set_cons_succ])
        refine H_take (k := 11) (v := ?_) (by rfl) (by kernel_rfl) (by kernel_rfl) (by kernel_rfl) (by exact fun _ _ _ h => h) (by rfl) ?_ (by assumption) ?_
        rotate_left 1
        · intro w' hSw
          have kc := (HW.out.grown hSw (by simp)).cell 0
          go_simp
          (try with_reducible rfl)
        (try simp only [Act.put, List.setIfInBounds_toArray, List.set_cons_zero, List.set_cons_succ])
        refine H_take (k := 12) (v := ?_) (by rfl) (by kernel_rfl) (by kernel_rfl) (by kernel_rfl) (by exact fun _ _ _ h => h) (by rfl) ?_ (by assumption) ?_
        rotate_left 1
        · intro w hSw
          (try dsimp only at hSw)
          go_simp
          (try with_reducible rfl)
        (try simp only [Act.put, List.setIfInBounds_toArray, List.set_cons_zero, List.set_cons_succ])
        refine H_take (k := 13) (v := ?_) (by rfl) (by kernel_rfl) (by kernel_rfl) (by kernel_rfl) (by exact fun _ _ _ h => h) (by rfl) ?_ (by assumption) ?_
        rotate_left 1
        · intro w' hSw
          have kc := (HW.out.grown hSw (by simp)).cell 1
          go_simp
          (try with_reducible rfl)
        (try simp only [Act.put, List.setIfInBounds_toArray, List.set_cons_zero, List.set_cons_succ])
        refine H_take (k := 14) (v := ?_) (by rfl) (by kernel_rfl) (by kernel_rfl) (by kernel_rfl) (by exact fun _ _ _ h => h) (by rfl) ?_ (by assumption) ?_
        rotate_left 1
        · intro w hSw
          (try dsimp only at hSw)
          go_simp
          (try with_reducible rfl)
        (try simp only [Act.put, List.setIfInBounds_toArray, List.set_cons_zero, List.set_cons_succ])
        refine H_take (k := 15) (v := ?_) (by rfl) (by kernel_rfl) (by kernel_rfl) (by kernel_rfl) (by exact fun _ _ _ h => h) (by rfl) ?_ (by assumption) ?_
        rotate_left 1
        · intro w hSw
          (try dsimp only at hSw)
          go_simp
          (try with_reducible rfl)
        (try simp only [Act.put, List.setIfInBounds_toArray, List.set_cons_zero, List.set_cons_succ])
        refine H_take (k := 16) (v := ?_) (by rfl) (by kernel_rfl) (by kernel_rfl) (by kernel_rfl) (by exact fun _ _ _ h => h) (by rfl) ?_ (by assumption) ?_
        rotate_left 1
        · intro w hSw
          (try dsimp only at hSw)
          go_simp
          (try with_reducible rfl)
        (try simp only [Act.put, List.setIfInBounds_toArray, List.set_cons_zero, List.set_cons_succ])
        refine H_skip (k := 17) (by rfl) (by kernel_rfl) (by kernel_rfl) (by kernel_rfl) (by exact fun _ _ _ h => h) (by rfl) (by assumption) ?_
        (try simp only [Act.put, List.setIfInBounds_toArray, List.set_cons_zero, List.set_cons_succ])
        refine H_skip (k := 18) (by rfl) (by kernel_rfl) (by kernel_rfl) (by kernel_rfl) (by exact fun _ _ _ h => h) (by rfl) (by assumption) ?_
        (try simp only [Act.put, List.setIfInBounds_toArray, List.set_cons_zero, List.set_cons_succ])
        refine H_skip (k := 19) (by rfl) (by kernel_rfl) (by kernel_rfl) (by kernel_rfl) (by exact fun _ _ _ h => h) (by rfl) (by assumption) ?_
        (try simp only [Act.put, List.setIfInBounds_toArray, List.set_cons_zero, List.set_cons_succ])
        refine H_take (k := 20) (v := ?_) (by rfl) (by kernel_rfl) (by kernel_rfl) (by kernel_rfl) (by exact fun _ _ _ h => h) (by rfl) ?_ (by assumption) ?_
        rotate_left 1
        · intro w hSw
          (try dsimp only at hSw)
          go_simp
          (try with_reducible rfl)
        (try simp only [Act.put, List.setIfInBounds_toArray, List.set_cons_zero, List.set_cons_succ])
        refine H_run (k := 21) (by rfl) (by kernel_rfl) (by rfl) (fun K hK => ?_)
        go_simp
        refine (whenF_any true 1 _).mono ?_
        rintro e w' ⟨rfl, rfl⟩
        obtain ⟨E3, hE3⟩ : ∃ x, (if true = true then (1 : Int) else 0) = x := ⟨_, rfl⟩
        rw [hE3]
        have HE3 := Lib.hid hE3
        clear hE3
        refine hK _ _ (by exact hHeld) ?_
        clear hK K
        (try simp only [Act.put, List.setIfInBounds_toArray, List.set_cons_zero, List.set_cons_succ])
        have HFE := Lib.hid (show firstE [E1, E2, E3] = thE la p fr til by rw [firstE_three, HTE.out, ← HE2.out, ← HE3.out]; cases KY <;> simp)
        refine H_run (k := 22) (by rfl) (by kernel_rfl) (by rfl) (fun K hK => ?_)
        go_simp
        have hh3 := gr_alloc hHeld (.cells #[.int .i64 E1, .int .i64 E2, .int .i64 E3] 36)
        refine hK _ _ hh3 ?_
        clear hK K hHeld
        have hHeld := hh3
        clear hh3
        (try simp only [Act.put, List.setIfInBounds_toArray, List.set_cons_zero, List.set_cons_succ])
        refine H_run (k := 23) (by rfl) (by kernel_rfl) (by rfl) (fun K hK => ?_)
        go_simp
        refine (errs_run 0 _ 3 3 [E1, E2, E3] _ (by exact (Reads.blk (Blk.new _ _ _) 1 3 rfl).lower (Nat.zero_le _)) (by omega)).mono ?_
        rintro e w' ⟨rfl, rfl⟩
        rw [HFE.out, HEE.out]
        refine hK _ _ (by exact hHeld) ?_
        clear hK K
        (try simp only [Act.put, List.setIfInBounds_toArray, List.set_cons_zero, List.set_cons_succ])
        refine H_take (k := 24) (v := ?_) (by rfl) (by kernel_rfl) (by kernel_rfl) (by kernel_rfl) (by exact fun _ _ _ h => h) (by rfl) ?_ (by assumption) ?_
        rotate_left 1
        · intro w hSw
          (try dsimp only at hSw)
          go_simp
          (try with_reducible rfl)
        (try simp only [Act.put, List.setIfInBounds_toArray, List.set_cons_zero, List.set_cons_succ])
        refine H_done (by kernel_rfl) ?_
        have hg9 := hHeld
        clear hHeld
        replace HG := Lib.hid (gr_none HG.out hg9)
        replace HA := Lib.hid (HA.out.grown hg9 (fun g e => by cases e))
        replace HX := Lib.hid (HX.out.grown hg9 (fun g e => by cases e))
        replace HW := Lib.hid (HW.out.grown hg9 (by simp))
        clear hg9
        by_cases he : E = 0
        · have q1 : (E == 0) = true := by rw [he]; rfl
          have q2 : (E == E) = true := beq_self_eq_true _
          have HRI := Lib.hid (th_right (HEE.out.trans he))
          have hth := th_law (HEE.out.trans he)
          have HTH := Lib.hid hth
          clear he hth
          go_wp2_with (first
            | (refine wpl_load_all Tryz.winTh rfl _ rfl _ rfl _ _ HW.out rfl ?_)
            | fail)
          refine (throughOf_any lo1 aA an ac la p fr til _ HA.out (by omega) HRI.out).mono ?_
          rintro e wb ⟨B7, m7, d7, rfl, hrec2, hm7, hgb⟩
          rw [← HTH.out] at hrec2
          have HY := Lib.hid (hrec2.lower (Nat.zero_le _))
          clear hrec2
          replace HG := Lib.hid (gr_none HG.out hgb)
          replace HX := Lib.hid (HX.out.grown hgb (fun g e => by cases e))
          clear hgb
          go_wp2_with fail
          refine (equalBc_same 0 0 A7 B7 _ _ _ _ _ _ HX.out HY.out (by omega)).mono ?_
          rintro e wd ⟨rfl, k2, rfl⟩
          replace HG := Lib.hid (gr_drewN HG.out k2)
          go_wp2_with (first
            | (go_at_call 29; refine (voiced_true _).mono ?_; rintro e wz ⟨rfl, hgz⟩; have HGZ := Lib.hid hgz; clear hgz)
            | fail)
          go_ret
          refine ⟨rfl, ?_⟩
          have hfin := gr_none HG.out HGZ.out
          rw [← HSB.out] at hfin
          exact below_of_gr hfin
        · have q1 : (E == 0) = false := beq_eq_false_iff_ne.2 he
          have q2 : (E == E) = true := beq_self_eq_true _
          have hnl := th_nil (l := la) (p := p) (fr := fr) (til := til) (by rw [HEE.out]; exact he)
          rw [hnl] at HX
          clear he hnl
          go_wp2_with fail
          refine (equalBc_same 0 0 A7 none _ _ _ _ [] _ HX.out (Recs.nil (lo := 0)) (by omega)).mono ?_
          rintro e wd ⟨rfl, k2, rfl⟩
          replace HG := Lib.hid (gr_drewN HG.out k2)
          go_wp2_with (first
            | (go_at_call 29; refine (voiced_true _).mono ?_; rintro e wz ⟨rfl, hgz⟩; have HGZ := Lib.hid hgz; clear hgz)
            | fail)
          go_ret
          refine ⟨rfl, ?_⟩
          have hfin := gr_none HG.out HGZ.out
          rw [← HSB.out] at hfin
          exact below_of_gr hfin
    · refine H_run (k := 1) (by rfl) (by kernel_rfl) (by rfl) (fun K hK => ?_)
      go_simp
      refine (beaconsFault_any lo1 aA an ac la _ (HA.out.grown hHeld (fun g e => by cases e)) (by omega) (HU.out.grown hHeld) (HM.out.grown hHeld)).mono ?_
      rintro e w' ⟨rfl, hg8⟩
      rw [HE1.out]
      have hh1 := gr_none hHeld hg8
      refine hK _ _ hh1 ?_
      clear hK K hHeld hg8
      have hHeld := hh1
      clear hh1
      (try simp only [Act.put, List.setIfInBounds_toArray, List.set_cons_zero, List.set_cons_succ])
      refine H_run (k := 3) (by rfl) (by kernel_rfl) (by rfl) (fun K hK => ?_)
      go_simp
      refine (keyRefR_any p _ (by omega)).mono ?_
      rintro e w' ⟨rfl, hg8⟩
      rw [HKY.out]
      have hh1 := gr_none hHeld hg8
      refine hK _ _ hh1 ?_
      clear hK K hHeld hg8
      have hHeld := hh1
      clear hh1
      (try simp only [Act.put, List.setIfInBounds_toArray, List.set_cons_zero, List.set_cons_succ])
      refine H_take (k := 4) (v := ?_) (by rfl) (by kernel_rfl) (by kernel_rfl) (by kernel_rfl) (by exact fun _ _ _ h => h) (by rfl) ?_ (by assumption) ?_
      rotate_left 1
      · intro w hSw
        (try dsimp only at hSw)
        go_simp
        (try with_reducible rfl)
      (try simp only [Act.put, List.setIfInBounds_toArray, List.set_cons_zero, List.set_cons_succ])
      refine H_run (k := 5) (by rfl) (by kernel_rfl) (by rfl) (fun K hK => ?_)
      go_simp
      refine (whenF_any (!KY) 5 _).mono ?_
      rintro e w' ⟨rfl, rfl⟩
      obtain ⟨E2, hE2⟩ : ∃ x, (if (!KY) = true then (5 : Int) else 0) = x := ⟨_, rfl⟩
      rw [hE2]
      have HE2 := Lib.hid hE2
      clear hE2
      refine hK _ _ (by exact hHeld) ?_
      clear hK K
      (try simp only [Act.put, List.setIfInBounds_toArray, List.set_cons_zero, List.set_cons_succ])
      refine H_take (k := 9) (v := ?_) (by rfl) (by kernel_rfl) (by kernel_rfl) (by kernel_rfl) (by exact fun _ _ _ h => h) (by rfl) ?_ (by assumption) ?_
      rotate_left 1
      · intro w hSw
        (try dsimp only at hSw)
        go_simp
        (try with_reducible rfl)
      (try simp only [Act.put, List.setIfInBounds_toArray, List.set_cons_zero, List.set_cons_succ])
      refine H_skip (k := 10) (by rfl) (by kernel_rfl) (by kernel_rfl) (by kernel_rfl) (by exact fun _ _ _ h => h) (by rfl) (by assumption) ?_
      (try simp only [Act.put, List.setIfInBounds_toArray, List.set_cons_zero, List.set_cons_succ])
      refine H_skip (k := 11) (by rfl) (by kernel_rfl) (by kernel_rfl) (by kernel_rfl) (by exact fun _ _ _ h => h) (by rfl) (by assumption) ?_
      (try simp only [Act.put, List.setIfInBounds_toArray, List.set_cons_zero, List.set_cons_succ])
      refine H_skip (k := 12) (by rfl) (by kernel_rfl) (by kernel_rfl) (by kernel_rfl) (by exact fun _ _ _ h => h) (by rfl) (by assumption) ?_
      (try simp only [Act.put, List.setIfInBounds_toArray, List.set_cons_zero, List.set_cons_succ])
      refine H_skip (k := 13) (by rfl) (by kernel_rfl) (by kernel_rfl) (by kernel_rfl) (by exact fun _ _ _ h => h) (by rfl) (by assumption) ?_
      (try simp only [Act.put, List.setIfInBounds_toArray, List.set_cons_zero, List.set_cons_succ])
      refine H_skip (k := 14) (by rfl) (by kernel_rfl) (by kernel_rfl) (by kernel_rfl) (by exact fun _ _ _ h => h) (by rfl) (by assumption) ?_
      (try simp only [Act.put, List.setIfInBounds_toArray, List.set_cons_zero, List.set_cons_succ])
      refine H_take (k := 15) (v := ?_) (by rfl) (by kernel_rfl) (by kernel_rfl) (by kernel_rfl) (by exact fun _ _ _ h => h) (by rfl) ?_ (by assumption) ?_
      rotate_left 1
      · intro w hSw
        (try dsimp only at hSw)
        go_simp
        (try with_reducible rfl)
      (try simp only [Act.put, List.setIfInBounds_toArray, List.set_cons_zero, List.set_cons_succ])
      refine H_take (k := 16) (v := ?_) (by rfl) (by kernel_rfl) (by kernel_rfl) (by kernel_rfl) (by exact fun _ _ _ h => h) (by rfl) ?_ (by assumption) ?_
      rotate_left 1
      · intro w hSw
        (try dsimp only at hSw)
        go_simp
        (try with_reducible rfl)
      (try simp only [Act.put, List.setIfInBounds_toArray, List.set_cons_zero, List.set_cons_succ])
      refine H_skip (k := 17) (by rfl) (by kernel_rfl) (by kernel_rfl) (by kernel_rfl) (by exact fun _ _ _ h => h) (by rfl) (by assumption) ?_
      (try simp only [Act.put, List.setIfInBounds_toArray, List.set_cons_zero, List.set_cons_succ])
      refine H_skip (k := 18) (by rfl) (by kernel_rfl) (by kernel_rfl) (by kernel_rfl) (by exact fun _ _ _ h => h) (by rfl) (by assumption) ?_
      (try simp only [Act.put, List.setIfInBounds_toArray, List.set_cons_zero, List.set_cons_succ])
      refine H_skip (k := 19) (by rfl) (by kernel_rfl) (by kernel_rfl) (by kernel_rfl) (by exact fun _ _ _ h => h) (by rfl) (by assumption) ?_
      (try simp only [Act.put, List.setIfInBounds_toArray, List.set_cons_zero, List.set_cons_succ])
      refine H_take (k := 20) (v := ?_) (by rfl) (by kernel_rfl) (by kernel_rfl) (by kernel_rfl) (by exact fun _ _ _ h => h) (by rfl) ?_ (by assumption) ?_
      rotate_left 1
      · intro w hSw
        (try dsimp only at hSw)
        go_simp
        (try with_reducible rfl)
      (try simp only [Act.put, List.setIfInBounds_toArray, List.set_cons_zero, List.set_cons_succ])
      refine H_run (k := 21) (by rfl) (by kernel_rfl) (by rfl) (fun K hK => ?_)
      go_simp
      refine (whenF_any true 1 _).mono ?_
      rintro e w' ⟨rfl, rfl⟩
      obtain ⟨E3, hE3⟩ : ∃ x, (if true = true then (1 : Int) else 0) = x := ⟨_, rfl⟩
      rw [hE3]
      have HE3 := Lib.hid hE3
      clear hE3
      refine hK _ _ (by exact hHeld) ?_
      clear hK K
      (try simp only [Act.put, List.setIfInBounds_toArray, List.set_cons_zero, List.set_cons_succ])
      have HFE := Lib.hid (show firstE [E1, E2, E3] = thE la p fr til by rw [firstE_three, HTE.out, ← HE2.out, ← HE3.out]; cases KY <;> simp)
      refine H_run (k := 22) (by rfl) (by kernel_rfl) (by rfl) (fun K hK => ?_)
      go_simp
      have hh3 := gr_alloc hHeld (.cells #[.int .i64 E1, .int .i64 E2, .int .i64 E3] 36)
      refine hK _ _ hh3 ?_
      clear hK K hHeld
      have hHeld := hh3
      clear hh3
      (try simp only [Act.put, List.setIfInBounds_toArray, List.set_cons_zero, List.set_cons_succ])
      refine H_run (k := 23) (by rfl) (by kernel_rfl) (by rfl) (fun K hK => ?_)
      go_simp
      refine (errs_run 0 _ 3 3 [E1, E2, E3] _ (by exact (Reads.blk (Blk.new _ _ _) 1 3 rfl).lower (Nat.zero_le _)) (by omega)).mono ?_
      rintro e w' ⟨rfl, rfl⟩
      rw [HFE.out, HEE.out]
      refine hK _ _ (by exact hHeld) ?_
      clear hK K
      (try simp only [Act.put, List.setIfInBounds_toArray, List.set_cons_zero, List.set_cons_succ])
      refine H_take (k := 24) (v := ?_) (by rfl) (by kernel_rfl) (by kernel_rfl) (by kernel_rfl) (by exact fun _ _ _ h => h) (by rfl) ?_ (by assumption) ?_
      rotate_left 1
      · intro w hSw
        (try dsimp only at hSw)
        go_simp
        (try with_reducible rfl)
      (try simp only [Act.put, List.setIfInBounds_toArray, List.set_cons_zero, List.set_cons_succ])
      refine H_done (by kernel_rfl) ?_
      have hg9 := hHeld
      clear hHeld
      replace HG := Lib.hid (gr_none HG.out hg9)
      replace HA := Lib.hid (HA.out.grown hg9 (fun g e => by cases e))
      replace HX := Lib.hid (HX.out.grown hg9 (fun g e => by cases e))
      replace HW := Lib.hid (HW.out.grown hg9 (by simp))
      clear hg9
      by_cases he : E = 0
      · have q1 : (E == 0) = true := by rw [he]; rfl
        have q2 : (E == E) = true := beq_self_eq_true _
        have HRI := Lib.hid (th_right (HEE.out.trans he))
        have hth := th_law (HEE.out.trans he)
        have HTH := Lib.hid hth
        clear he hth
        go_wp2_with (first
          | (refine wpl_load_all Tryz.winTh rfl _ rfl _ rfl _ _ HW.out rfl ?_)
          | fail)
        refine (throughOf_any lo1 aA an ac la p fr til _ HA.out (by omega) HRI.out).mono ?_
        rintro e wb ⟨B7, m7, d7, rfl, hrec2, hm7, hgb⟩
        rw [← HTH.out] at hrec2
        have HY := Lib.hid (hrec2.lower (Nat.zero_le _))
        clear hrec2
        replace HG := Lib.hid (gr_none HG.out hgb)
        replace HX := Lib.hid (HX.out.grown hgb (fun g e => by cases e))
        clear hgb
        go_wp2_with fail
        refine (equalBc_same 0 0 A7 B7 _ _ _ _ _ _ HX.out HY.out (by omega)).mono ?_
        rintro e wd ⟨rfl, k2, rfl⟩
        replace HG := Lib.hid (gr_drewN HG.out k2)
        go_wp2_with (first
          | (go_at_call 29; refine (voiced_true _).mono ?_; rintro e wz ⟨rfl, hgz⟩; have HGZ := Lib.hid hgz; clear hgz)
          | fail)
        go_ret
        refine ⟨rfl, ?_⟩
        have hfin := gr_none HG.out HGZ.out
        rw [← HSB.out] at hfin
        exact below_of_gr hfin
      · have q1 : (E == 0) = false := beq_eq_false_iff_ne.2 he
        have q2 : (E == E) = true := beq_self_eq_true _
        have hnl := th_nil (l := la) (p := p) (fr := fr) (til := til) (by rw [HEE.out]; exact he)
        rw [hnl] at HX
        clear he hnl
        go_wp2_with fail
        refine (equalBc_same 0 0 A7 none _ _ _ _ [] _ HX.out (Recs.nil (lo := 0)) (by omega)).mono ?_
        rintro e wd ⟨rfl, k2, rfl⟩
        replace HG := Lib.hid (gr_drewN HG.out k2)
        go_wp2_with (first
          | (go_at_call 29; refine (voiced_true _).mono ?_; rintro e wz ⟨rfl, hgz⟩; have HGZ := Lib.hid hgz; clear hgz)
          | fail)
        go_ret
        refine ⟨rfl, ?_⟩
        have hfin := gr_none HG.out HGZ.out
        rw [← HSB.out] at hfin
        exact below_of_gr hfin
  · go_wp2_with fail
    refine (odd_any sb _ 0 50 _ HS.out (by omega) (by omega) (by omega) (by omega)).mono ?_
    rintro e w8 ⟨v8, rfl, ⟨fr, hf0, hf1, rfl⟩, hs8, hg8⟩
    replace HS := Lib.hid hs8; replace HGb := Lib.hid (gr_same HGb.out hg8); replace HG := Lib.hid (gr_same HG.out hg8); replace HA := Lib.hid (HA.out.grown hg8 (fun g e => by first | (cases e; done) | (injection e with e; omega))); replace HW := Lib.hid (HW.out.grown hg8 (by simp; omega))
    clear hs8 hg8
    go_wp2_with fail
    refine (odd_any sb _ 0 100 _ HS.out (by omega) (by omega) (by omega) (by omega)).mono ?_
    rintro e w9 ⟨v9, rfl, ⟨til, ht0, ht1, rfl⟩, hs9, hg9⟩
    replace HS := Lib.hid hs9; replace HGb := Lib.hid (gr_same HGb.out hg9); replace HG := Lib.hid (gr_same HG.out hg9); replace HA := Lib.hid (HA.out.grown hg9 (fun g e => by first | (cases e; done) | (injection e with e; omega))); replace HW := Lib.hid (HW.out.grown hg9 (by simp; omega))
    clear hs9 hg9 HS
    go_upto_region 5 with (first
      | (refine wpl_store_all Tryz.winTh rfl _ _ rfl _ rfl _ _ _ rfl HW.out rfl rfl (by simp [Value.oneCell']) ?_; intro wz hst; have HST := Lib.hid hst; clear hst)
      | fail)
    replace HW := Lib.hid HST.out.1
    replace HG := Lib.hid (gr_trans HG.out HST.out.2.1 (fun g e => .inr (by injection e with e; have := HSB.out; omega)))
    replace HGb := Lib.hid (gr_trans HGb.out HST.out.2.1 (fun g e => .inr (by injection e with e; omega)))
    replace HA := Lib.hid (HA4.out.grown HGb.out (fun g e => by injection e with e; omega))
    clear HST
    obtain ⟨E1, hE1⟩ : ∃ E, bcsE la = E := ⟨_, rfl⟩
    obtain ⟨KY, hKY⟩ : ∃ E, keyOk (nb p) = E := ⟨_, rfl⟩
    obtain ⟨E, hEE⟩ : ∃ E, thE la p fr til = E := ⟨_, rfl⟩
    have HE1 := Lib.hid hE1; have HKY := Lib.hid hKY; have HEE := Lib.hid hEE
    clear hE1 hKY hEE
    replace HU := Lib.hid (HU.out.low HG.out (fun g e => by injection e with e; have := HU.out.lt; omega))
    replace HM := Lib.hid (HM.out.low HG.out (fun g e => by injection e with e; have := HM.out.lt; omega))
    go_wp2_with (first
      | (refine wpl_load_all Tryz.winTh rfl _ rfl _ rfl _ _ HW.out rfl ?_)
      | fail)
    refine (through_any lo1 aA an ac la p fr til _ HA.out (by omega) (by omega) HU.out HM.out).mono ?_
    rintro e w7 ⟨A7, n7, c7, rfl, hrec, hn7, hg7⟩
    rw [HEE.out]
    have HX := Lib.hid (hrec.lower (Nat.zero_le _))
    clear hrec
    replace HU := Lib.hid (HU.out.grown hg7)
    replace HM := Lib.hid (HM.out.grown hg7)
    replace HG := Lib.hid (gr_none HG.out hg7)
    replace HA := Lib.hid (HA.out.grown hg7 (fun g e => by cases e))
    replace HW := Lib.hid (HW.out.grown hg7 (by simp))
    clear hg7
    obtain ⟨V1, hV1⟩ : ∃ V, decide (fr < 0) = V := ⟨_, rfl⟩
    obtain ⟨V2, hV2⟩ : ∃ V, decide (til < fr) = V := ⟨_, rfl⟩
    obtain ⟨V3, hV3⟩ : ∃ V, decide (345686400000 < til) = V := ⟨_, rfl⟩
    have HTE := Lib.hid (show thE la p fr til = if E1 = 0 then (if KY then (if V1 || (V2 || V3) then 1 else 0) else 5) else E1 by unfold thE; rw [HE1.out, HKY.out, hV1, hV2, hV3])
    go_upto_region 6 with (fail)
    refine H_begin (fun w' => w7.grownBy w' none) (by kernel_rfl) ?_
    have hHeld : w7.grownBy w7.drew none := gr_drew (gr_refl _ _)
    generalize w7.drew = wd7 at hHeld ⊢
    refine H_take (k := 0) (v := ?_) (by rfl) (by kernel_rfl) (by kernel_rfl) (by kernel_rfl) (by exact fun _ _ _ h => h) (by rfl) ?_ (by assumption) ?_
    rotate_left 1
    · intro w hSw
      (try dsimp only at hSw)
      go_simp
      (try with_reducible rfl)
    (try simp only [Act.put, List.setIfInBounds_toArray, List.set_cons_zero, List.set_cons_succ])
    refine H_take (k := 2) (v := ?_) (by rfl) (by kernel_rfl) (by kernel_rfl) (by kernel_rfl) (by exact fun _ _ _ h => h) (by rfl) ?_ (by assumption) ?_
    rotate_left 1
    · intro w hSw
      (try dsimp only at hSw)
      go_simp
      (try with_reducible rfl)
    (try simp only [Act.put, List.setIfInBounds_toArray, List.set_cons_zero, List.set_cons_succ])
    refine H_take (k := 6) (v := ?_) (by rfl) (by kernel_rfl) (by kernel_rfl) (by kernel_rfl) (by exact fun _ _ _ h => h) (by rfl) ?_ (by assumption) ?_
    rotate_left 1
    · intro w hSw
      (try dsimp only at hSw)
      go_simp
      (try with_reducible rfl)
    (try simp only [Act.put, List.setIfInBounds_toArray, List.set_cons_zero, List.set_cons_succ])
    refine H_take (k := 7) (v := ?_) (by rfl) (by kernel_rfl) (by kernel_rfl) (by kernel_rfl) (by exact fun _ _ _ h => h) (by rfl) ?_ (by assumption) ?_
    rotate_left 1
    · intro w' hSw
      have kc := (HW.out.grown hSw (by simp)).cell 0
      go_simp
      (try with_reducible rfl)
    (try simp only [Act.put, List.setIfInBounds_toArray, List.set_cons_zero, List.set_cons_succ])
    refine H_take (k := 8) (v := ?_) (by rfl) (by kernel_rfl) (by kernel_rfl) (by kernel_rfl) (by exact fun _ _ _ h => h) (by rfl) ?_ (by assumption) ?_
    rotate_left 1
    · intro w hSw
      (try dsimp only at hSw)
      go_simp
      (try with_reducible rfl)
    (try simp only [Act.put, List.setIfInBounds_toArray, List.set_cons_zero, List.set_cons_succ])
    cases V1
    · cases V2
      · refine H_run (k := 1) (by rfl) (by kernel_rfl) (by rfl) (fun K hK => ?_)
        go_simp
        refine (beaconsFault_any lo1 aA an ac la _ (HA.out.grown hHeld (fun g e => by cases e)) (by omega) (HU.out.grown hHeld) (HM.out.grown hHeld)).mono ?_
        rintro e w' ⟨rfl, hg8⟩
        rw [HE1.out]
        have hh1 := gr_none hHeld hg8
        refine hK _ _ hh1 ?_
        clear hK K hHeld hg8
        have hHeld := hh1
        clear hh1
        (try simp only [Act.put, List.setIfInBounds_toArray, List.set_cons_zero, List.set_cons_succ])
        refine H_run (k := 3) (by rfl) (by kernel_rfl) (by rfl) (fun K hK => ?_)
        go_simp
        refine (keyRefR_any p _ (by omega)).mono ?_
        rintro e w' ⟨rfl, hg8⟩
        rw [HKY.out]
        have hh1 := gr_none hHeld hg8
        refine hK _ _ hh1 ?_
        clear hK K hHeld hg8
        have hHeld := hh1
        clear hh1
        (try simp only [Act.put, List.setIfInBounds_toArray, List.set_cons_zero, List.set_cons_succ])
        refine H_take (k := 4) (v := ?_) (by rfl) (by kernel_rfl) (by kernel_rfl) (by kernel_rfl) (by exact fun _ _ _ h => h) (by rfl) ?_ (by assumption) ?_
        rotate_left 1
        · intro w hSw
          (try dsimp only at hSw)
          go_simp
          (try with_reducible rfl)
        (try simp only [Act.put, List.setIfInBounds_toArray, List.set_cons_zero, List.set_cons_succ])
        refine H_run (k := 5) (by rfl) (by kernel_rfl) (by rfl) (fun K hK => ?_)
        go_simp
        refine (whenF_any (!KY) 5 _).mono ?_
        rintro e w' ⟨rfl, rfl⟩
        obtain ⟨E2, hE2⟩ : ∃ x, (if (!KY) = true then (5 : Int) else 0) = x := ⟨_, rfl⟩
        rw [hE2]
        have HE2 := Lib.hid hE2
        clear hE2
        refine hK _ _ (by exact hHeld) ?_
        clear hK K
        (try simp only [Act.put, List.setIfInBounds_toArray, List.set_cons_zero, List.set_cons_succ])
        refine H_take (k := 9) (v := ?_) (by rfl) (by kernel_rfl) (by kernel_rfl) (by kernel_rfl) (by exact fun _ _ _ h => h) (by rfl) ?_ (by assumption) ?_
        rotate_left 1
        · intro w hSw
          (try dsimp only at hSw)
          go_simp
          (try with_reducible rfl)
        (try simp only [Act.put, List.setIfInBounds_toArray, List.set_cons_zero, List.set_cons_succ])
        refine H_take (k := 10) (v := ?_) (by rfl) (by kernel_rfl) (by kernel_rfl) (by kernel_rfl) (by exact fun _ _ _ h => h) (by rfl) ?_ (by assumption) ?_
        rotate_left 1
        · intro w hSw
          (try dsimp only at hSw)
          go_simp
          (try with_reducible rfl)
        (try simp only [Act.put, List.setIfInBounds_toArray, List.set_cons_zero, List.set_cons_succ])
        refine H_take (k := 11) (v := ?_) (by rfl) (by kernel_rfl) (by kernel_rfl) (by kernel_rfl) (by exact fun _ _ _ h => h) (by rfl) ?_ (by assumption) ?_
        rotate_left 1
        · intro w' hSw
          have kc := (HW.out.grown hSw (by simp)).cell 0
          go_simp
          (try with_reducible rfl)
        (try simp only [Act.put, List.setIfInBounds_toArray, List.set_cons_zero, List.set_cons_succ])
        refine H_take (k := 12) (v := ?_) (by rfl) (by kernel_rfl) (by kernel_rfl) (by kernel_rfl) (by exact fun _ _ _ h => h) (by rfl) ?_ (by assumption) ?_
        rotate_left 1
        · intro w hSw
          (try dsimp only at hSw)
          go_simp
          (try with_reducible rfl)
        (try simp only [Act.put, List.setIfInBounds_toArray, List.set_cons_zero, List.set_cons_succ])
        refine H_take (k := 13) (v := ?_) (by rfl) (by kernel_rfl) (by kernel_rfl) (by kernel_rfl) (by exact fun _ _ _ h => h) (by rfl) ?_ (by assumption) ?_
        rotate_left 1
        · intro w' hSw
          have kc := (HW.out.grown hSw (by simp)).cell 1
          go_simp
          (try with_reducible rfl)
        (try simp only [Act.put, List.setIfInBounds_toArray, List.set_cons_zero, List.set_cons_succ])
        refine H_take (k := 14) (v := ?_) (by rfl) (by kernel_rfl) (by kernel_rfl) (by kernel_rfl) (by exact fun _ _ _ h => h) (by rfl) ?_ (by assumption) ?_
        rotate_left 1
        · intro w hSw
          (try dsimp only at hSw)
          go_simp
          (try with_reducible rfl)
        (try simp only [Act.put, List.setIfInBounds_toArray, List.set_cons_zero, List.set_cons_succ])
        refine H_take (k := 15) (v := ?_) (by rfl) (by kernel_rfl) (by kernel_rfl) (by kernel_rfl) (by exact fun _ _ _ h => h) (by rfl) ?_ (by assumption) ?_
        rotate_left 1
        · intro w hSw
          (try dsimp only at hSw)
          go_simp
          (try with_reducible rfl)
        (try simp only [Act.put, List.setIfInBounds_toArray, List.set_cons_zero, List.set_cons_succ])
        refine H_take (k := 16) (v := ?_) (by rfl) (by kernel_rfl) (by kernel_rfl) (by kernel_rfl) (by exact fun _ _ _ h => h) (by rfl) ?_ (by assumption) ?_
        rotate_left 1
        · intro w hSw
          (try dsimp only at hSw)
          go_simp
          (try with_reducible rfl)
        (try simp only [Act.put, List.setIfInBounds_toArray, List.set_cons_zero, List.set_cons_succ])
        refine H_take (k := 17) (v := ?_) (by rfl) (by kernel_rfl) (by kernel_rfl) (by kernel_rfl) (by exact fun _ _ _ h => h) (by rfl) ?_ (by assumption) ?_
        rotate_left 1
        · intro w hSw
          (try dsimp only at hSw)
          go_simp
          (try with_reducible rfl)
        (try simp only [Act.put, List.setIfInBounds_toArray, List.set_cons_zero, List.set_cons_succ])
        refine H_take (k := 18) (v := ?_) (by rfl) (by kernel_rfl) (by kernel_rfl) (by kernel_rfl) (by exact fun _ _ _ h => h) (by rfl) ?_ (by assumption) ?_
        rotate_left 1
        · intro w' hSw
          have kc := (HW.out.grown hSw (by simp)).cell 1
          go_simp
          (try with_reducible rfl)
        (try simp only [Act.put, List.setIfInBounds_toArray, List.set_cons_zero, List.set_cons_succ])
        refine H_take (k := 19) (v := ?_) (by rfl) (by kernel_rfl) (by kernel_rfl) (by kernel_rfl) (by exact fun _ _ _ h => h) (by rfl) ?_ (by assumption) ?_
        rotate_left 1
        · intro w hSw
          (try dsimp only at hSw)
          go_simp
          (try with_reducible rfl)
        (try simp only [Act.put, List.setIfInBounds_toArray, List.set_cons_zero, List.set_cons_succ])
        refine H_take (k := 20) (v := ?_) (by rfl) (by kernel_rfl) (by kernel_rfl) (by kernel_rfl) (by exact fun _ _ _ h => h) (by rfl) ?_ (by assumption) ?_
        rotate_left 1
        · intro w hSw
          (try dsimp only at hSw)
          go_simp
          (try with_reducible rfl)
        (try simp only [Act.put, List.setIfInBounds_toArray, List.set_cons_zero, List.set_cons_succ])
        refine H_run (k := 21) (by rfl) (by kernel_rfl) (by rfl) (fun K hK => ?_)
        go_simp
        refine (whenF_any V3 1 _).mono ?_
        rintro e w' ⟨rfl, rfl⟩
        obtain ⟨E3, hE3⟩ : ∃ x, (if V3 = true then (1 : Int) else 0) = x := ⟨_, rfl⟩
        rw [hE3]
        have HE3 := Lib.hid hE3
        clear hE3
        refine hK _ _ (by exact hHeld) ?_
        clear hK K
        (try simp only [Act.put, List.setIfInBounds_toArray, List.set_cons_zero, List.set_cons_succ])
        have HFE := Lib.hid (show firstE [E1, E2, E3] = thE la p fr til by rw [firstE_three, HTE.out, ← HE2.out, ← HE3.out]; cases KY <;> simp)
        refine H_run (k := 22) (by rfl) (by kernel_rfl) (by rfl) (fun K hK => ?_)
        go_simp
        have hh3 := gr_alloc hHeld (.cells #[.int .i64 E1, .int .i64 E2, .int .i64 E3] 36)
        refine hK _ _ hh3 ?_
        clear hK K hHeld
        have hHeld := hh3
        clear hh3
        (try simp only [Act.put, List.setIfInBounds_toArray, List.set_cons_zero, List.set_cons_succ])
        refine H_run (k := 23) (by rfl) (by kernel_rfl) (by rfl) (fun K hK => ?_)
        go_simp
        refine (errs_run 0 _ 3 3 [E1, E2, E3] _ (by exact (Reads.blk (Blk.new _ _ _) 1 3 rfl).lower (Nat.zero_le _)) (by omega)).mono ?_
        rintro e w' ⟨rfl, rfl⟩
        rw [HFE.out, HEE.out]
        refine hK _ _ (by exact hHeld) ?_
        clear hK K
        (try simp only [Act.put, List.setIfInBounds_toArray, List.set_cons_zero, List.set_cons_succ])
        refine H_take (k := 24) (v := ?_) (by rfl) (by kernel_rfl) (by kernel_rfl) (by kernel_rfl) (by exact fun _ _ _ h => h) (by rfl) ?_ (by assumption) ?_
        rotate_left 1
        · intro w hSw
          (try dsimp only at hSw)
          go_simp
          (try with_reducible rfl)
        (try simp only [Act.put, List.setIfInBounds_toArray, List.set_cons_zero, List.set_cons_succ])
        refine H_done (by kernel_rfl) ?_
        have hg9 := hHeld
        clear hHeld
        replace HG := Lib.hid (gr_none HG.out hg9)
        replace HA := Lib.hid (HA.out.grown hg9 (fun g e => by cases e))
        replace HX := Lib.hid (HX.out.grown hg9 (fun g e => by cases e))
        replace HW := Lib.hid (HW.out.grown hg9 (by simp))
        clear hg9
        by_cases he : E = 0
        · have q1 : (E == 0) = true := by rw [he]; rfl
          have q2 : (E == E) = true := beq_self_eq_true _
          have HRI := Lib.hid (th_right (HEE.out.trans he))
          have hth := th_law (HEE.out.trans he)
          have HTH := Lib.hid hth
          clear he hth
          go_wp2_with (first
            | (refine wpl_load_all Tryz.winTh rfl _ rfl _ rfl _ _ HW.out rfl ?_)
            | fail)
          refine (throughOf_any lo1 aA an ac la p fr til _ HA.out (by omega) HRI.out).mono ?_
          rintro e wb ⟨B7, m7, d7, rfl, hrec2, hm7, hgb⟩
          rw [← HTH.out] at hrec2
          have HY := Lib.hid (hrec2.lower (Nat.zero_le _))
          clear hrec2
          replace HG := Lib.hid (gr_none HG.out hgb)
          replace HX := Lib.hid (HX.out.grown hgb (fun g e => by cases e))
          clear hgb
          go_wp2_with fail
          refine (equalBc_same 0 0 A7 B7 _ _ _ _ _ _ HX.out HY.out (by omega)).mono ?_
          rintro e wd ⟨rfl, k2, rfl⟩
          replace HG := Lib.hid (gr_drewN HG.out k2)
          go_wp2_with (first
            | (go_at_call 29; refine (voiced_true _).mono ?_; rintro e wz ⟨rfl, hgz⟩; have HGZ := Lib.hid hgz; clear hgz)
            | fail)
          go_ret
          refine ⟨rfl, ?_⟩
          have hfin := gr_none HG.out HGZ.out
          rw [← HSB.out] at hfin
          exact below_of_gr hfin
        · have q1 : (E == 0) = false := beq_eq_false_iff_ne.2 he
          have q2 : (E == E) = true := beq_self_eq_true _
          have hnl := th_nil (l := la) (p := p) (fr := fr) (til := til) (by rw [HEE.out]; exact he)
          rw [hnl] at HX
          clear he hnl
          go_wp2_with fail
          refine (equalBc_same 0 0 A7 none _ _ _ _ [] _ HX.out (Recs.nil (lo := 0)) (by omega)).mono ?_
          rintro e wd ⟨rfl, k2, rfl⟩
          replace HG := Lib.hid (gr_drewN HG.out k2)
          go_wp2_with (first
            | (go_at_call 29; refine (voiced_true _).mono ?_; rintro e wz ⟨rfl, hgz⟩; have HGZ := Lib.hid hgz; clear hgz)
            | fail)
          go_ret
          refine ⟨rfl, ?_⟩
          have hfin := gr_none HG.out HGZ.out
          rw [← HSB.out] at hfin
          exact below_of_gr hfin
      · refine H_run (k := 1) (by rfl) (by kernel_rfl) (by rfl) (fun K hK => ?_)
        go_simp
        refine (beaconsFault_any lo1 aA an ac la _ (HA.out.grown hHeld (fun g e => by cases e)) (by omega) (HU.out.grown hHeld) (HM.out.grown hHeld)).mono ?_
        rintro e w' ⟨rfl, hg8⟩
        rw [HE1.out]
        have hh1 := gr_none hHeld hg8
        refine hK _ _ hh1 ?_
        clear hK K hHeld hg8
        have hHeld := hh1
        clear hh1
        (try simp only [Act.put, List.setIfInBounds_toArray, List.set_cons_zero, List.set_cons_succ])
        refine H_run (k := 3) (by rfl) (by kernel_rfl) (by rfl) (fun K hK => ?_)
        go_simp
        refine (keyRefR_any p _ (by omega)).mono ?_
        rintro e w' ⟨rfl, hg8⟩
        rw [HKY.out]
        have hh1 := gr_none hHeld hg8
        refine hK _ _ hh1 ?_
        clear hK K hHeld hg8
        have hHeld := hh1
        clear hh1
        (try simp only [Act.put, List.setIfInBounds_toArray, List.set_cons_zero, List.set_cons_succ])
        refine H_take (k := 4) (v := ?_) (by rfl) (by kernel_rfl) (by kernel_rfl) (by kernel_rfl) (by exact fun _ _ _ h => h) (by rfl) ?_ (by assumption) ?_
        rotate_left 1
        · intro w hSw
          (try dsimp only at hSw)
          go_simp
          (try with_reducible rfl)
        (try simp only [Act.put, List.setIfInBounds_toArray, List.set_cons_zero, List.set_cons_succ])
        refine H_run (k := 5) (by rfl) (by kernel_rfl) (by rfl) (fun K hK => ?_)
        go_simp
        refine (whenF_any (!KY) 5 _).mono ?_
        rintro e w' ⟨rfl, rfl⟩
        obtain ⟨E2, hE2⟩ : ∃ x, (if (!KY) = true then (5 : Int) else 0) = x := ⟨_, rfl⟩
        rw [hE2]
        have HE2 := Lib.hid hE2
        clear hE2
        refine hK _ _ (by exact hHeld) ?_
        clear hK K
        (try simp only [Act.put, List.setIfInBounds_toArray, List.set_cons_zero, List.set_cons_succ])
        refine H_take (k := 9) (v := ?_) (by rfl) (by kernel_rfl) (by kernel_rfl) (by kernel_rfl) (by exact fun _ _ _ h => h) (by rfl) ?_ (by assumption) ?_
        rotate_left 1
        · intro w hSw
          (try dsimp only at hSw)
          go_simp
          (try with_reducible rfl)
        (try simp only [Act.put, List.setIfInBounds_toArray, List.set_cons_zero, List.set_cons_succ])
        refine H_take (k := 10) (v := ?_) (by rfl) (by kernel_rfl) (by kernel_rfl) (by kernel_rfl) (by exact fun _ _ _ h => h) (by rfl) ?_ (by assumption) ?_
        rotate_left 1
        · intro w hSw
          (try dsimp only at hSw)
          go_simp
          (try with_reducible rfl)
        (try simp only [Act.put, List.setIfInBounds_toArray, List.set_cons_zero, List.set_cons_succ])
        refine H_take (k := 11) (v := ?_) (by rfl) (by kernel_rfl) (by kernel_rfl) (by kernel_rfl) (by exact fun _ _ _ h => h) (by rfl) ?_ (by assumption) ?_
        rotate_left 1
        · intro w' hSw
          have kc := (HW.out.grown hSw (by simp)).cell 0
          go_simp
          (try with_reducible rfl)
        (try simp only [Act.put, List.setIfInBounds_toArray, List.set_cons_zero, List.set_cons_succ])
        refine H_take (k := 12) (v := ?_) (by rfl) (by kernel_rfl) (by kernel_rfl) (by kernel_rfl) (by exact fun _ _ _ h => h) (by rfl) ?_ (by assumption) ?_
        rotate_left 1
        · intro w hSw
          (try dsimp only at hSw)
          go_simp
          (try with_reducible rfl)
        (try simp only [Act.put, List.setIfInBounds_toArray, List.set_cons_zero, List.set_cons_succ])
        refine H_take (k := 13) (v := ?_) (by rfl) (by kernel_rfl) (by kernel_rfl) (by kernel_rfl) (by exact fun _ _ _ h => h) (by rfl) ?_ (by assumption) ?_
        rotate_left 1
        · intro w' hSw
          have kc := (HW.out.grown hSw (by simp)).cell 1
          go_simp
          (try with_reducible rfl)
        (try simp only [Act.put, List.setIfInBounds_toArray, List.set_cons_zero, List.set_cons_succ])
        refine H_take (k := 14) (v := ?_) (by rfl) (by kernel_rfl) (by kernel_rfl) (by kernel_rfl) (by exact fun _ _ _ h => h) (by rfl) ?_ (by assumption) ?_
        rotate_left 1
        · intro w hSw
          (try dsimp only at hSw)
          go_simp
          (try with_reducible rfl)
        (try simp only [Act.put, List.setIfInBounds_toArray, List.set_cons_zero, List.set_cons_succ])
        refine H_take (k := 15) (v := ?_) (by rfl) (by kernel_rfl) (by kernel_rfl) (by kernel_rfl) (by exact fun _ _ _ h => h) (by rfl) ?_ (by assumption) ?_
        rotate_left 1
        · intro w hSw
          (try dsimp only at hSw)
          go_simp
          (try with_reducible rfl)
        (try simp only [Act.put, List.setIfInBounds_toArray, List.set_cons_zero, List.set_cons_succ])
        refine H_take (k := 16) (v := ?_) (by rfl) (by kernel_rfl) (by kernel_rfl) (by kernel_rfl) (by exact fun _ _ _ h => h) (by rfl) ?_ (by assumption) ?_
        rotate_left 1
        · intro w hSw
          (try dsimp only at hSw)
          go_simp
          (try with_reducible rfl)
        (try simp only [Act.put, List.setIfInBounds_toArray, List.set_cons_zero, List.set_cons_succ])
        refine H_skip (k := 17) (by rfl) (by kernel_rfl) (by kernel_rfl) (by kernel_rfl) (by exact fun _ _ _ h => h) (by rfl) (by assumption) ?_
        (try simp only [Act.put, List.setIfInBounds_toArray, List.set_cons_zero, List.set_cons_succ])
        refine H_skip (k := 18) (by rfl) (by kernel_rfl) (by kernel_rfl) (by kernel_rfl) (by exact fun _ _ _ h => h) (by rfl) (by assumption) ?_
        (try simp only [Act.put, List.setIfInBounds_toArray, List.set_cons_zero, List.set_cons_succ])
        refine H_skip (k := 19) (by rfl) (by kernel_rfl) (by kernel_rfl) (by kernel_rfl) (by exact fun _ _ _ h => h) (by rfl) (by assumption) ?_
        (try simp only [Act.put, List.setIfInBounds_toArray, List.set_cons_zero, List.set_cons_succ])
        refine H_take (k := 20) (v := ?_) (by rfl) (by kernel_rfl) (by kernel_rfl) (by kernel_rfl) (by exact fun _ _ _ h => h) (by rfl) ?_ (by assumption) ?_
        rotate_left 1
        · intro w hSw
          (try dsimp only at hSw)
          go_simp
          (try with_reducible rfl)
        (try simp only [Act.put, List.setIfInBounds_toArray, List.set_cons_zero, List.set_cons_succ])
        refine H_run (k := 21) (by rfl) (by kernel_rfl) (by rfl) (fun K hK => ?_)
        go_simp
        refine (whenF_any true 1 _).mono ?_
        rintro e w' ⟨rfl, rfl⟩
        obtain ⟨E3, hE3⟩ : ∃ x, (if true = true then (1 : Int) else 0) = x := ⟨_, rfl⟩
        rw [hE3]
        have HE3 := Lib.hid hE3
        clear hE3
        refine hK _ _ (by exact hHeld) ?_
        clear hK K
        (try simp only [Act.put, List.setIfInBounds_toArray, List.set_cons_zero, List.set_cons_succ])
        have HFE := Lib.hid (show firstE [E1, E2, E3] = thE la p fr til by rw [firstE_three, HTE.out, ← HE2.out, ← HE3.out]; cases KY <;> simp)
        refine H_run (k := 22) (by rfl) (by kernel_rfl) (by rfl) (fun K hK => ?_)
        go_simp
        have hh3 := gr_alloc hHeld (.cells #[.int .i64 E1, .int .i64 E2, .int .i64 E3] 36)
        refine hK _ _ hh3 ?_
        clear hK K hHeld
        have hHeld := hh3
        clear hh3
        (try simp only [Act.put, List.setIfInBounds_toArray, List.set_cons_zero, List.set_cons_succ])
        refine H_run (k := 23) (by rfl) (by kernel_rfl) (by rfl) (fun K hK => ?_)
        go_simp
        refine (errs_run 0 _ 3 3 [E1, E2, E3] _ (by exact (Reads.blk (Blk.new _ _ _) 1 3 rfl).lower (Nat.zero_le _)) (by omega)).mono ?_
        rintro e w' ⟨rfl, rfl⟩
        rw [HFE.out, HEE.out]
        refine hK _ _ (by exact hHeld) ?_
        clear hK K
        (try simp only [Act.put, List.setIfInBounds_toArray, List.set_cons_zero, List.set_cons_succ])
        refine H_take (k := 24) (v := ?_) (by rfl) (by kernel_rfl) (by kernel_rfl) (by kernel_rfl) (by exact fun _ _ _ h => h) (by rfl) ?_ (by assumption) ?_
        rotate_left 1
        · intro w hSw
          (try dsimp only at hSw)
          go_simp
          (try with_reducible rfl)
        (try simp only [Act.put, List.setIfInBounds_toArray, List.set_cons_zero, List.set_cons_succ])
        refine H_done (by kernel_rfl) ?_
        have hg9 := hHeld
        clear hHeld
        replace HG := Lib.hid (gr_none HG.out hg9)
        replace HA := Lib.hid (HA.out.grown hg9 (fun g e => by cases e))
        replace HX := Lib.hid (HX.out.grown hg9 (fun g e => by cases e))
        replace HW := Lib.hid (HW.out.grown hg9 (by simp))
        clear hg9
        by_cases he : E = 0
        · have q1 : (E == 0) = true := by rw [he]; rfl
          have q2 : (E == E) = true := beq_self_eq_true _
          have HRI := Lib.hid (th_right (HEE.out.trans he))
          have hth := th_law (HEE.out.trans he)
          have HTH := Lib.hid hth
          clear he hth
          go_wp2_with (first
            | (refine wpl_load_all Tryz.winTh rfl _ rfl _ rfl _ _ HW.out rfl ?_)
            | fail)
          refine (throughOf_any lo1 aA an ac la p fr til _ HA.out (by omega) HRI.out).mono ?_
          rintro e wb ⟨B7, m7, d7, rfl, hrec2, hm7, hgb⟩
          rw [← HTH.out] at hrec2
          have HY := Lib.hid (hrec2.lower (Nat.zero_le _))
          clear hrec2
          replace HG := Lib.hid (gr_none HG.out hgb)
          replace HX := Lib.hid (HX.out.grown hgb (fun g e => by cases e))
          clear hgb
          go_wp2_with fail
          refine (equalBc_same 0 0 A7 B7 _ _ _ _ _ _ HX.out HY.out (by omega)).mono ?_
          rintro e wd ⟨rfl, k2, rfl⟩
          replace HG := Lib.hid (gr_drewN HG.out k2)
          go_wp2_with (first
            | (go_at_call 29; refine (voiced_true _).mono ?_; rintro e wz ⟨rfl, hgz⟩; have HGZ := Lib.hid hgz; clear hgz)
            | fail)
          go_ret
          refine ⟨rfl, ?_⟩
          have hfin := gr_none HG.out HGZ.out
          rw [← HSB.out] at hfin
          exact below_of_gr hfin
        · have q1 : (E == 0) = false := beq_eq_false_iff_ne.2 he
          have q2 : (E == E) = true := beq_self_eq_true _
          have hnl := th_nil (l := la) (p := p) (fr := fr) (til := til) (by rw [HEE.out]; exact he)
          rw [hnl] at HX
          clear he hnl
          go_wp2_with fail
          refine (equalBc_same 0 0 A7 none _ _ _ _ [] _ HX.out (Recs.nil (lo := 0)) (by omega)).mono ?_
          rintro e wd ⟨rfl, k2, rfl⟩
          replace HG := Lib.hid (gr_drewN HG.out k2)
          go_wp2_with (first
            | (go_at_call 29; refine (voiced_true _).mono ?_; rintro e wz ⟨rfl, hgz⟩; have HGZ := Lib.hid hgz; clear hgz)
            | fail)
          go_ret
          refine ⟨rfl, ?_⟩
          have hfin := gr_none HG.out HGZ.out
          rw [← HSB.out] at hfin
          exact below_of_gr hfin
    · refine H_run (k := 1) (by rfl) (by kernel_rfl) (by rfl) (fun K hK => ?_)
      go_simp
      refine (beaconsFault_any lo1 aA an ac la _ (HA.out.grown hHeld (fun g e => by cases e)) (by omega) (HU.out.grown hHeld) (HM.out.grown hHeld)).mono ?_
      rintro e w' ⟨rfl, hg8⟩
      rw [HE1.out]
      have hh1 := gr_none hHeld hg8
      refine hK _ _ hh1 ?_
      clear hK K hHeld hg8
      have hHeld := hh1
      clear hh1
      (try simp only [Act.put, List.setIfInBounds_toArray, List.set_cons_zero, List.set_cons_succ])
      refine H_run (k := 3) (by rfl) (by kernel_rfl) (by rfl) (fun K hK => ?_)
      go_simp
      refine (keyRefR_any p _ (by omega)).mono ?_
      rintro e w' ⟨rfl, hg8⟩
      rw [HKY.out]
      have hh1 := gr_none hHeld hg8
      refine hK _ _ hh1 ?_
      clear hK K hHeld hg8
      have hHeld := hh1
      clear hh1
      (try simp only [Act.put, List.setIfInBounds_toArray, List.set_cons_zero, List.set_cons_succ])
      refine H_take (k := 4) (v := ?_) (by rfl) (by kernel_rfl) (by kernel_rfl) (by kernel_rfl) (by exact fun _ _ _ h => h) (by rfl) ?_ (by assumption) ?_
      rotate_left 1
      · intro w hSw
        (try dsimp only at hSw)
        go_simp
        (try with_reducible rfl)
      (try simp only [Act.put, List.setIfInBounds_toArray, List.set_cons_zero, List.set_cons_succ])
      refine H_run (k := 5) (by rfl) (by kernel_rfl) (by rfl) (fun K hK => ?_)
      go_simp
      refine (whenF_any (!KY) 5 _).mono ?_
      rintro e w' ⟨rfl, rfl⟩
      obtain ⟨E2, hE2⟩ : ∃ x, (if (!KY) = true then (5 : Int) else 0) = x := ⟨_, rfl⟩
      rw [hE2]
      have HE2 := Lib.hid hE2
      clear hE2
      refine hK _ _ (by exact hHeld) ?_
      clear hK K
      (try simp only [Act.put, List.setIfInBounds_toArray, List.set_cons_zero, List.set_cons_succ])
      refine H_take (k := 9) (v := ?_) (by rfl) (by kernel_rfl) (by kernel_rfl) (by kernel_rfl) (by exact fun _ _ _ h => h) (by rfl) ?_ (by assumption) ?_
      rotate_left 1
      · intro w hSw
        (try dsimp only at hSw)
        go_simp
        (try with_reducible rfl)
      (try simp only [Act.put, List.setIfInBounds_toArray, List.set_cons_zero, List.set_cons_succ])
      refine H_skip (k := 10) (by rfl) (by kernel_rfl) (by kernel_rfl) (by kernel_rfl) (by exact fun _ _ _ h => h) (by rfl) (by assumption) ?_
      (try simp only [Act.put, List.setIfInBounds_toArray, List.set_cons_zero, List.set_cons_succ])
      refine H_skip (k := 11) (by rfl) (by kernel_rfl) (by kernel_rfl) (by kernel_rfl) (by exact fun _ _ _ h => h) (by rfl) (by assumption) ?_
      (try simp only [Act.put, List.setIfInBounds_toArray, List.set_cons_zero, List.set_cons_succ])
      refine H_skip (k := 12) (by rfl) (by kernel_rfl) (by kernel_rfl) (by kernel_rfl) (by exact fun _ _ _ h => h) (by rfl) (by assumption) ?_
      (try simp only [Act.put, List.setIfInBounds_toArray, List.set_cons_zero, List.set_cons_succ])
      refine H_skip (k := 13) (by rfl) (by kernel_rfl) (by kernel_rfl) (by kernel_rfl) (by exact fun _ _ _ h => h) (by rfl) (by assumption) ?_
      (try simp only [Act.put, List.setIfInBounds_toArray, List.set_cons_zero, List.set_cons_succ])
      refine H_skip (k := 14) (by rfl) (by kernel_rfl) (by kernel_rfl) (by kernel_rfl) (by exact fun _ _ _ h => h) (by rfl) (by assumption) ?_
      (try simp only [Act.put, List.setIfInBounds_toArray, List.set_cons_zero, List.set_cons_succ])
      refine H_take (k := 15) (v := ?_) (by rfl) (by kernel_rfl) (by kernel_rfl) (by kernel_rfl) (by exact fun _ _ _ h => h) (by rfl) ?_ (by assumption) ?_
      rotate_left 1
      · intro w hSw
        (try dsimp only at hSw)
        go_simp
        (try with_reducible rfl)
      (try simp only [Act.put, List.setIfInBounds_toArray, List.set_cons_zero, List.set_cons_succ])
      refine H_take (k := 16) (v := ?_) (by rfl) (by kernel_rfl) (by kernel_rfl) (by kernel_rfl) (by exact fun _ _ _ h => h) (by rfl) ?_ (by assumption) ?_
      rotate_left 1
      · intro w hSw
        (try dsimp only at hSw)
        go_simp
        (try with_reducible rfl)
      (try simp only [Act.put, List.setIfInBounds_toArray, List.set_cons_zero, List.set_cons_succ])
      refine H_skip (k := 17) (by rfl) (by kernel_rfl) (by kernel_rfl) (by kernel_rfl) (by exact fun _ _ _ h => h) (by rfl) (by assumption) ?_
      (try simp only [Act.put, List.setIfInBounds_toArray, List.set_cons_zero, List.set_cons_succ])
      refine H_skip (k := 18) (by rfl) (by kernel_rfl) (by kernel_rfl) (by kernel_rfl) (by exact fun _ _ _ h => h) (by rfl) (by assumption) ?_
      (try simp only [Act.put, List.setIfInBounds_toArray, List.set_cons_zero, List.set_cons_succ])
      refine H_skip (k := 19) (by rfl) (by kernel_rfl) (by kernel_rfl) (by kernel_rfl) (by exact fun _ _ _ h => h) (by rfl) (by assumption) ?_
      (try simp only [Act.put, List.setIfInBounds_toArray, List.set_cons_zero, List.set_cons_succ])
      refine H_take (k := 20) (v := ?_) (by rfl) (by kernel_rfl) (by kernel_rfl) (by kernel_rfl) (by exact fun _ _ _ h => h) (by rfl) ?_ (by assumption) ?_
      rotate_left 1
      · intro w hSw
        (try dsimp only at hSw)
        go_simp
        (try with_reducible rfl)
      (try simp only [Act.put, List.setIfInBounds_toArray, List.set_cons_zero, List.set_cons_succ])
      refine H_run (k := 21) (by rfl) (by kernel_rfl) (by rfl) (fun K hK => ?_)
      go_simp
      refine (whenF_any true 1 _).mono ?_
      rintro e w' ⟨rfl, rfl⟩
      obtain ⟨E3, hE3⟩ : ∃ x, (if true = true then (1 : Int) else 0) = x := ⟨_, rfl⟩
      rw [hE3]
      have HE3 := Lib.hid hE3
      clear hE3
      refine hK _ _ (by exact hHeld) ?_
      clear hK K
      (try simp only [Act.put, List.setIfInBounds_toArray, List.set_cons_zero, List.set_cons_succ])
      have HFE := Lib.hid (show firstE [E1, E2, E3] = thE la p fr til by rw [firstE_three, HTE.out, ← HE2.out, ← HE3.out]; cases KY <;> simp)
      refine H_run (k := 22) (by rfl) (by kernel_rfl) (by rfl) (fun K hK => ?_)
      go_simp
      have hh3 := gr_alloc hHeld (.cells #[.int .i64 E1, .int .i64 E2, .int .i64 E3] 36)
      refine hK _ _ hh3 ?_
      clear hK K hHeld
      have hHeld := hh3
      clear hh3
      (try simp only [Act.put, List.setIfInBounds_toArray, List.set_cons_zero, List.set_cons_succ])
      refine H_run (k := 23) (by rfl) (by kernel_rfl) (by rfl) (fun K hK => ?_)
      go_simp
      refine (errs_run 0 _ 3 3 [E1, E2, E3] _ (by exact (Reads.blk (Blk.new _ _ _) 1 3 rfl).lower (Nat.zero_le _)) (by omega)).mono ?_
      rintro e w' ⟨rfl, rfl⟩
      rw [HFE.out, HEE.out]
      refine hK _ _ (by exact hHeld) ?_
      clear hK K
      (try simp only [Act.put, List.setIfInBounds_toArray, List.set_cons_zero, List.set_cons_succ])
      refine H_take (k := 24) (v := ?_) (by rfl) (by kernel_rfl) (by kernel_rfl) (by kernel_rfl) (by exact fun _ _ _ h => h) (by rfl) ?_ (by assumption) ?_
      rotate_left 1
      · intro w hSw
        (try dsimp only at hSw)
        go_simp
        (try with_reducible rfl)
      (try simp only [Act.put, List.setIfInBounds_toArray, List.set_cons_zero, List.set_cons_succ])
      refine H_done (by kernel_rfl) ?_
      have hg9 := hHeld
      clear hHeld
      replace HG := Lib.hid (gr_none HG.out hg9)
      replace HA := Lib.hid (HA.out.grown hg9 (fun g e => by cases e))
      replace HX := Lib.hid (HX.out.grown hg9 (fun g e => by cases e))
      replace HW := Lib.hid (HW.out.grown hg9 (by simp))
      clear hg9
      by_cases he : E = 0
      · have q1 : (E == 0) = true := by rw [he]; rfl
        have q2 : (E == E) = true := beq_self_eq_true _
        have HRI := Lib.hid (th_right (HEE.out.trans he))
        have hth := th_law (HEE.out.trans he)
        have HTH := Lib.hid hth
        clear he hth
        go_wp2_with (first
          | (refine wpl_load_all Tryz.winTh rfl _ rfl _ rfl _ _ HW.out rfl ?_)
          | fail)
        refine (throughOf_any lo1 aA an ac la p fr til _ HA.out (by omega) HRI.out).mono ?_
        rintro e wb ⟨B7, m7, d7, rfl, hrec2, hm7, hgb⟩
        rw [← HTH.out] at hrec2
        have HY := Lib.hid (hrec2.lower (Nat.zero_le _))
        clear hrec2
        replace HG := Lib.hid (gr_none HG.out hgb)
        replace HX := Lib.hid (HX.out.grown hgb (fun g e => by cases e))
        clear hgb
        go_wp2_with fail
        refine (equalBc_same 0 0 A7 B7 _ _ _ _ _ _ HX.out HY.out (by omega)).mono ?_
        rintro e wd ⟨rfl, k2, rfl⟩
        replace HG := Lib.hid (gr_drewN HG.out k2)
        go_wp2_with (first
          | (go_at_call 29; refine (voiced_true _).mono ?_; rintro e wz ⟨rfl, hgz⟩; have HGZ := Lib.hid hgz; clear hgz)
          | fail)
        go_ret
        refine ⟨rfl, ?_⟩
        have hfin := gr_none HG.out HGZ.out
        rw [← HSB.out] at hfin
        exact below_of_gr hfin
      · have q1 : (E == 0) = false := beq_eq_false_iff_ne.2 he
        have q2 : (E == E) = true := beq_self_eq_true _
        have hnl := th_nil (l := la) (p := p) (fr := fr) (til := til) (by rw [HEE.out]; exact he)
        rw [hnl] at HX
        clear he hnl
        go_wp2_with fail
        refine (equalBc_same 0 0 A7 none _ _ _ _ [] _ HX.out (Recs.nil (lo := 0)) (by omega)).mono ?_
        rintro e wd ⟨rfl, k2, rfl⟩
        replace HG := Lib.hid (gr_drewN HG.out k2)
        go_wp2_with (first
          | (go_at_call 29; refine (voiced_true _).mono ?_; rintro e wz ⟨rfl, hgz⟩; have HGZ := Lib.hid hgz; clear hgz)
          | fail)
        go_ret
        refine ⟨rfl, ?_⟩
        have hfin := gr_none HG.out HGZ.out
        rw [← HSB.out] at hfin
        exact below_of_gr hfin
/-! The row's frame, the world's shape kept. -/
section
variable {H : Type} {enc : TypeId × Value → H}
theorem rih_shape {a : Assume} {C : Checked} {os : Os} {f : FuncId} {fn : Func} {s : ChangeSpec} {conds : List PathCond} {apart fresh handsOn again : Bool} {X : World → Array Value → Prop}
    (hX : ∀ (w w' : World) (args : Array Value), w.heap = w'.heap → X w args → X w' args)
    (own : ownKnob C.prog.godebug = none) (started : os.Started) (noInit : C.prog.inits.idxOf? f = none) (hfn : C.prog.funcs[f]? = some fn)
    (witness : ∃ (w : World) (tape : Tape) (i : Input), w.os = os ∧ (w.forCall tape i).Shaped C.prog ∧ i.vars = [] ∧ Input.okWide C.prog (w.forCall tape i) .any w.heap.size f i ∧
      ((s.pre enc C.prog fn conds apart (w.forCall tape i).memory i.args ∧ X (w.forCall tape i).memory i.args) ∧ sizedMet enc C.prog fn (OpenSpec.ofChange s) apart (w.forCall tape i).memory i.args) ∧ a.holds C.prog (lone (Frame.enter C.prog f i.args .normal) [] (w.forCall tape i)))
    (contract : ∀ (W : World) (base : Nat) (args : Array Value) (ds gs : List (DataW H)) (before : List MemPlace),
      (∀ (j : Nat) t v, fn.params[j]? = some t → args[j]? = some v → Value.okWide C.prog W .any base t v) →
      DataW.Whole enc C.prog fn.params.toList s.vars apart W args.toList ds gs before →
      X W args → W.ShapedOpen C.prog →
      Calls C.prog f args W fun e W' => ∃ v, e = .returned v ∧ s.post enc C.prog fn apart fresh handsOn again W args v W') :
    ReturnsInHanded a C os f .any (fun w args => (s.pre enc C.prog fn conds apart w args ∧ X w args) ∧ sizedMet enc C.prog fn (OpenSpec.ofChange s) apart w args) (s.post enc C.prog fn apart fresh handsOn again) := by
  refine returnsInHanded_of_calls own started noInit witness ?_
  intro w tape i _ hsh _ hok hpre _
  obtain ⟨_, _, _, fn', hfn', _, _, _, _, hval⟩ := hok
  obtain rfl : fn' = fn := Option.some.inj (hfn'.symm.trans hfn)
  obtain ⟨⟨⟨ds, gs, before, hw, _⟩, hx⟩, _⟩ := hpre
  refine (contract (w.forCall tape i) w.heap.size i.args ds gs before hval (DataW.Whole.of_heap (w' := w.forCall tape i) (by rfl) hw) (hX _ _ _ (by rfl) hx) hsh).mono fun e W' ⟨v, he, hp⟩ => ?_
  subst he
  exact ChangeSpec.post_blind hp
end
theorem laid_acc : (Rows.laid_unicode_utf8_acceptRanges : DataW Unit) = Lib.acceptData := by kernel_rfl
theorem laid_first : Rows.laid_unicode_utf8_first = Lib.firstData := by kernel_rfl
theorem met_PresenceThrough {W : World} (h : laidMetH Tryz.prog Rows.presenceThroughRow.laid W) (hsh : W.ShapedOpen Tryz.prog) : U8T W ∧ MxT W := by
  refine ⟨?_, cell_of_shapedOpen_int (zero := #[.int .i64 0]) (t := 3) hsh (of_decide_eq_true (by kernel_rfl)) (by kernel_rfl) rfl (by kernel_rfl) (by kernel_rfl) Tryz.underlying3⟩
  rw [MakeChecks.laidMetH_plain _ _ _ (by kernel_rfl)] at h
  have h1 := Lib.laidMet.reads h (.head _)
  have h2 := Lib.laidMet.reads h (.tail _ (.head _))
  rw [laid_acc] at h1
  rw [laid_first] at h2
  exact utf8Tabs_of_readsT (U8Types.of196 Tryz.laysValid) ⟨by kernel_rfl, by kernel_rfl, by kernel_rfl, by kernel_rfl, by kernel_rfl, by kernel_rfl, by kernel_rfl⟩ h2 h1

theorem own_PresenceThrough : ownKnob Tryz.prog.godebug = none := by kernel_rfl
theorem laidOut_PresenceThrough : laidOutB Tryz.prog = true := by kernel_rfl
set_option maxRecDepth 100000 in
theorem lifted_PresenceThrough (os : Os) (started : os.Started) (H : Type) (enc : TypeId × Value → H) :
    ReturnsInHanded {} Tryz.checked os 6 .any (fun w args => (Rows.presenceThroughSpec.pre enc Tryz.prog Tryz.f6 [] false w args ∧ laidMetH Tryz.prog Rows.presenceThroughRow.laid w) ∧ sizedMet enc Tryz.prog Tryz.f6 (OpenSpec.ofChange Rows.presenceThroughSpec) false w args) (Rows.presenceThroughSpec.post enc Tryz.prog Tryz.f6 false true false false) := by
  refine rih_shape (C := Tryz.checked) (X := fun w _ => laidMetH Tryz.prog Rows.presenceThroughRow.laid w) (fun _ _ _ hh h => h.of_heap hh) own_PresenceThrough started (by kernel_rfl) Tryz.func6
    (ChangeSpec.witness_shaped (enc := enc) (C := Tryz.checked) (os := os) (X := fun w _ => laidMetH Tryz.prog Rows.presenceThroughRow.laid w) false (World.laidAll Tryz.prog os Rows.presenceThroughRow.laid) #[.slice none 0 0] 8 (World.laidAll_os _ _ _) (World.shaped_of_ZipB (by kernel_rfl) (by kernel_rfl)) (by kernel_rfl) (by kernel_rfl) (by kernel_rfl)
      (by rw [MakeChecks.laidMetH_plain _ _ _ (by kernel_rfl)]; exact laidMet_laidAll _ (by kernel_rfl) (by kernel_rfl))) ?_
  intro W base args ds gs before hval0 hW hL hsh
  have hval : ∀ (j : Nat) t v, Tryz.f6.params[j]? = some t → args[j]? = some v → Value.okWide Tryz.prog W .any base t v := hval0
  have hW' := hW
  obtain ⟨p, q, hA0, hV, rfl, hfz, hnd⟩ := hW
  have hA : DataW.TrodAll enc Tryz.prog W 0 (fun _ => true) true Tryz.f6.params.toList args.toList ds p := hA0
  rw [Tryz.params6] at hA hval
  obtain ⟨v0, vs0, d0, ds0, p0, q0, hargs, rfl, rfl, h0, r0⟩ := trodAll_cons hA
  obtain ⟨rfl, rfl, rfl⟩ := trodAll_nil r0
  obtain rfl : args = #[v0] := by cases args; simp_all
  obtain ⟨rfl, rfl⟩ := trodVars_none hV
  obtain ⟨a0, len0, cap0, rfl⟩ := okWide_slice Tryz.underlying22 (hval 0 22 v0 rfl rfl)
  have k0 := h0
  have lt0 : ∀ x ∈ p0, x.block < W.heap.size := by obtain ⟨m, hm⟩ := k0; exact DataW.trod_lt m _ _ _ hm
  obtain ⟨z0, w0⟩ : ∃ zs, IsRow .i64 W a0 len0 cap0 zs := by
    obtain ⟨fuel, hf⟩ := h0
    rcases open_ints Tryz.underlying22 Tryz.underlying3 (by kernel_rfl) hf with ⟨hcs, _⟩ | ⟨x, l, c, zs, hcs, _, hl, hm, hz, _, hcell, hwz⟩
    · simp [Value.cells] at hcs
      obtain ⟨rfl, rfl, rfl⟩ := hcs
      exact ⟨[], .inl ⟨rfl, rfl, rfl, rfl⟩⟩
    · simp [Value.cells] at hcs
      obtain ⟨rfl, rfl, rfl⟩ := hcs
      exact ⟨zs, .inr ⟨_, rfl, hl, hm, by simpa using hz, hcell, hwz⟩⟩
  clear hA0 hval0
  refine (walk_PresenceThrough a0 len0 cap0 z0 W w0 (met_PresenceThrough hL hsh)).mono fun e W' ⟨he, bel⟩ => ?_
  subst he
  exact ⟨_, rfl, _, _, _, [], _, [], hW', trodAll_mk1 (shut_bool Tryz.underlying4 _), (trodAll_cons_mk (Below.trod laidOut_PresenceThrough (by kernel_rfl) (of_decide_eq_true (by kernel_rfl)) k0 bel lt0) trodAll_mk0), rfl, bel.frame _, fun h => by cases h⟩

theorem over_PresenceThrough : Rows.presenceThroughRow.holds Tryz.pinned (OpenSpec.ofChange Rows.presenceThroughSpec) :=
  OpenClaim.holds_of_wide 6 Tryz.f6 rfl rfl rfl rfl rfl rfl rfl ⟨rfl, rfl, rfl, rfl, rfl⟩ rfl rfl rfl rfl rfl (by kernel_rfl) Tryz.func6 (by kernel_rfl)
    (of_decide_eq_true (by kernel_rfl)) (by unfold Func.isWrapper; first | (rw [if_pos (by decide +kernel)]; kernel_rfl) | (rw [if_neg (by decide +kernel)]; exact ⟨rfl, rfl⟩))
    (fun os started H enc _ => lifted_PresenceThrough os started H enc)

theorem proved_PresenceThrough : Rows.PresenceThroughCardSaid :=
  Claim7.holds_tied_plain_at .later [] [.data, .pinned] true Rows.presenceThroughCard.stood.harness true
    over_PresenceThrough (fun _ h => by cases h) (by kernel_rfl) (fun _ h => by cases h) presenceThrough_row_tie rfl ⟨rfl, rfl⟩ (by kernel_rfl) rfl
    (fun f fn hf hfn => by
      obtain rfl : f = 6 := Option.some.inj ((show Tryz.prog.funcNamed Rows.presenceThroughRow.func = some 6 by kernel_rfl).symm.trans hf) |>.symm
      obtain rfl : fn = Tryz.f6 := (Option.some.inj (Tryz.func6.symm.trans hfn)).symm
      exact ⟨by kernel_rfl, fun j t ht => by
        rw [Tryz.params6] at ht
        have h3 : t = 22 := by
          rcases j with _ | j
          · simpa using ht.symm
          · simp at ht
        subst h3
        exact (show Tryz.prog.wantsStandIn 22 = false by kernel_rfl)⟩)
    (by kernel_rfl)
end Go.Proofs.YtgogiljplnninaaGreatDoor


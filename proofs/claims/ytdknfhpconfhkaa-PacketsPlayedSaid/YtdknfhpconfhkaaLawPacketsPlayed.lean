/- The law PacketsPlayed: for every input the call returns true, and the argument reads as before. Conditions: none. -/
import Derived.Test.YtdknfhpconfhkaaRows
import Derived.Test.YtdknfhpconfhkaaLawBase
import Derived.Test.YtdknfhpconfhkaaMCommon
import Derived.Test.YtdknfhpconfhkaaPlay2
import Derived.Test.YtdknfhpconfhkaaArrivals
import Derived.ProofKit
import Derived.OpenShut
import Derived.ShutString
import Derived.ChangeOld
namespace Go.Proofs.Ytdknfhpconfhkaa
open Go.ChangeShapes Go.WideShapes Go.ChangeAt Go.RowKit
open Go.ChangeMaps (open_string shut_string)

set_option maxRecDepth 100000 in
set_option maxHeartbeats 20000000 in
theorem walk_PacketsPlayed (a0 : Option Addr) (len0 cap0 : Nat) (z0 : List Int) (w : World) (w0 : IsRow .i64 w a0 len0 cap0 z0) :
    Calls Try.prog 5 #[.slice a0 len0 cap0] w fun e w' => e = .returned (.bool true) ∧ Below w.heap.size w w' := by
  have hs0 := str_new w0
  clear w0
  obtain ⟨sb, hsb⟩ : ∃ sb, w.heap.size = sb := ⟨_, rfl⟩
  have hlt : sb = w.heap.size := hsb.symm
  have HLT := Lib.hid hlt
  have hlt1 : sb ≤ w.heap.size := by omega
  have hlt2 : w.heap.size ≤ sb := by omega
  have HSB := Lib.hid hsb
  rw [hsb] at hs0
  clear hlt hsb
  have HS := Lib.hid hs0; clear hs0
  have HG := Lib.hid (gr_refl w (some sb))
  go_enter Try.func5, Try.ntmps5
  go_wp2_with fail
  simp only [HSB.out]
  refine (arrivals_any sb _ 12 _ (by exact HS.out) (by omega) (by omega)).mono ?_
  rintro e w1 ⟨v1, rfl, ⟨A1, n1, c1, l1, rfl, hga, hn1⟩, hs1, hg1⟩
  have z1' := hg1.size
  simp at z1'
  have HGA := Lib.hid (show GArrs w1 (sb + 1) A1 n1 c1 l1 by have h := hga; simpa [HLT.out] using h)
  clear hga
  have z1 := hg1.size; try simp at z1
  try replace HZ := Lib.hid (HZ.out.grown hg1 (by simp; omega))
  try replace HP := Lib.hid (HP.out.grown hg1 (by simp; omega))
  try replace HGA := Lib.hid (HGA.out.kept hg1 (fun g e => by injection e with e; omega))
  try replace HY := Lib.hid (Own.kept HY.out hg1 (fun g e e' => by injection e with e; have := (HY.out.lt e').1; omega))
  replace HG := Lib.hid (gr_same (a := w) (by repeat (first | exact HG.out | refine gr_alloc ?_ _ | refine gr_drew ?_ | refine gr_drewN ?_ _ | refine gr_setCell ?_ (.inr (by simp; omega)) _)) hg1); clear hg1
  replace HS := Lib.hid hs1; clear hs1
  go_wp2_with fail
  refine (pick_new sb _ [0, 10, 20, 60, -1, 10001] _ (by first | exact HS.out | exact HS.out.alloc _ | exact (HS.out.alloc _).alloc _ | exact ((HS.out.alloc _).alloc _).alloc _ | exact HS.out.drewN _ | exact HS.out.setCell (by simp; omega) _ | exact (HS.out.alloc _).setCell (by simp; omega) _ | exact (HS.out.setCell (by simp; omega) _).alloc _ | exact (HS.out.setCell (by simp; omega) _).drewN _ | exact (HS.out.alloc _).drewN _) (by omega) (by simp) rfl rfl (by simp) (by simp)).mono ?_
  rintro e w2 ⟨v2, rfl, ⟨r2, hr2, rfl⟩, hs2, hg2⟩
  have HR2 := Lib.hid hr2; clear hr2
  have z2 := hg2.size; try simp at z2
  try replace HZ := Lib.hid (HZ.out.grown hg2 (by simp; omega))
  try replace HP := Lib.hid (HP.out.grown hg2 (by simp; omega))
  try replace HGA := Lib.hid (HGA.out.kept hg2 (fun g e => by injection e with e; omega))
  try replace HY := Lib.hid (Own.kept HY.out hg2 (fun g e e' => by injection e with e; have := (HY.out.lt e').1; omega))
  replace HG := Lib.hid (gr_same (a := w) (by repeat (first | exact HG.out | refine gr_alloc ?_ _ | refine gr_drew ?_ | refine gr_drewN ?_ _ | refine gr_setCell ?_ (.inr (by simp; omega)) _)) hg2); clear hg2
  replace HS := Lib.hid hs2; clear hs2
  go_wp2_with fail
  refine (pick_new sb _ [0, 10, 50, 100, -1, 2501] _ (by first | exact HS.out | exact HS.out.alloc _ | exact (HS.out.alloc _).alloc _ | exact ((HS.out.alloc _).alloc _).alloc _ | exact HS.out.drewN _ | exact HS.out.setCell (by simp; omega) _ | exact (HS.out.alloc _).setCell (by simp; omega) _ | exact (HS.out.setCell (by simp; omega) _).alloc _ | exact (HS.out.setCell (by simp; omega) _).drewN _ | exact (HS.out.alloc _).drewN _) (by omega) (by simp) rfl rfl (by simp) (by simp)).mono ?_
  rintro e w3 ⟨v3, rfl, ⟨r3, hr3, rfl⟩, hs3, hg3⟩
  have HR3 := Lib.hid hr3; clear hr3
  have z3 := hg3.size; try simp at z3
  try replace HZ := Lib.hid (HZ.out.grown hg3 (by simp; omega))
  try replace HP := Lib.hid (HP.out.grown hg3 (by simp; omega))
  try replace HGA := Lib.hid (HGA.out.kept hg3 (fun g e => by injection e with e; omega))
  try replace HY := Lib.hid (Own.kept HY.out hg3 (fun g e e' => by injection e with e; have := (HY.out.lt e').1; omega))
  replace HG := Lib.hid (gr_same (a := w) (by repeat (first | exact HG.out | refine gr_alloc ?_ _ | refine gr_drew ?_ | refine gr_drewN ?_ _ | refine gr_setCell ?_ (.inr (by simp; omega)) _)) hg3); clear hg3
  replace HS := Lib.hid hs3; clear hs3
  have hx2 : -1 ≤ r2 ∧ r2 ≤ 10001 := by have h := HR2.out; simp at h; omega
  have hx3 : -1 ≤ r3 ∧ r3 ≤ 2501 := by have h := HR3.out; simp at h; omega
  obtain ⟨hx20, hx21⟩ := hx2
  obtain ⟨hx30, hx31⟩ := hx3
  clear HS HR2 HR3
  have HA1 := Lib.hid (show Arrs w3 0 A1 n1 c1 l1 from ⟨HGA.out.arrs.1.lower (Nat.zero_le _), fun a ha => ⟨(HGA.out.arrs.2 a ha).1, ⟨(HGA.out.arrs.2 a ha).2.1.lower (Nat.zero_le _), (HGA.out.arrs.2 a ha).2.2⟩⟩⟩)
  clear HGA
  obtain ⟨pf, hpf⟩ : ∃ pf, playFault l1 r2 r3 = pf := ⟨_, rfl⟩
  have HPF := Lib.hid hpf; clear hpf
  by_cases hp : pf = 0
  · subst hp
    have hok : arrFault l1 = 0 ∧ (0 ≤ r2 ∧ r2 ≤ 10000) ∧ (0 ≤ r3 ∧ r3 ≤ 2500) := by
      have h := HPF.out
      unfold playFault at h
      split at h
      · rename_i h1
        split at h
        · rename_i h2; simp [inB] at h2; exact ⟨h1, by omega, by omega⟩
        · omega
      · rename_i h1; exact absurd h h1
    obtain ⟨haf, ⟨p20, p21⟩, ⟨p30, p31⟩⟩ := hok
    obtain ⟨L, rfl⟩ : ∃ L : Nat, r3 = L := ⟨r3.toNat, by omega⟩
    have HAF := Lib.hid haf; clear haf
    go_wp2_with fail
    refine (playOut_ok 0 _ _ _ l1 r2 L _ HA1.out (by omega) HAF.out p20 p21 (by omega)).mono ?_
    rintro e w4 ⟨v4, rfl, ⟨A4, n4, c4, rfl, hx4⟩, hg4⟩
    have HX4 := Lib.hid hx4
    have HN := Lib.hid hg4
    clear hx4 hg4
    have HPV := Lib.hid (show (if arrFault l1 = 0 then 0 else arrFault l1) = 0 from by rw [if_pos HAF.out])
    go_wp2_with fail
    refine (arrivalsFault_any 0 _ _ _ l1 _ (HA1.out.grown HN.out (fun g e => by cases e)) (by omega)).mono ?_
    rintro e w5 ⟨rfl, hg5⟩
    replace HN := Lib.hid (gr_none HN.out hg5)
    replace HX4 := Lib.hid (HX4.out.grown hg5 (fun g e => by cases e))
    clear hg5
    obtain ⟨pf, hpf0⟩ : ∃ pf : Int, pf = 0 := ⟨_, rfl⟩
    replace HPV := Lib.hid (show (if arrFault l1 = 0 then 0 else arrFault l1) = pf from by rw [hpf0]; exact HPV.out)
    go_wp2_with (first
      | (go_at_call 24; refine (when_any _ _ _).mono ?_; rintro e w' ⟨rfl, rfl⟩)
      | fail)
    refine (errs2_new (arrFault l1) 0 _ rfl).mono ?_
    rintro e w6 ⟨rfl, hg6⟩
    rw [show (if arrFault l1 = 0 then 0 else arrFault l1) = pf from HPV.out]
    replace HN := Lib.hid (gr_none HN.out hg6)
    replace HX4 := Lib.hid (HX4.out.grown hg6 (fun g e => by cases e))
    clear hg6
    subst hpf0
    go_wp2_with fail
    refine (playOutOf_ok 0 _ _ _ l1 r2 L _ (HA1.out.grown HN.out (fun g e => by cases e)) (by omega) HAF.out p20 p21 (by omega)).mono ?_
    rintro e w7 ⟨v7, rfl, ⟨A7, n7, c7, rfl, hx7⟩, hg7⟩
    have HX7 := Lib.hid hx7
    replace HN := Lib.hid (gr_none HN.out hg7)
    replace HX4 := Lib.hid (HX4.out.grown hg7 (fun g e => by cases e))
    clear hx7 hg7
    have hlen4 := HX4.out.len
    have hlen4' : n4 ≤ 1000000000000 := by
      have : (playOut l1 r2 (8 * L)).length = 8 * L := by
        unfold playOut playSt
        rw [halfTo_len, (arrTo_len _ _ _ _).1]; simp
      omega
    clear hlen4
    go_wp2_with fail
    refine (equalI_any _ _ _ _ _ _ _ _ (playOut l1 r2 (8 * L)) (playOut l1 r2 (8 * L)) _ HX4.out HX7.out hlen4').mono ?_
    rintro e w9 ⟨rfl, k9, rfl⟩
    rw [show (playOut l1 r2 (8 * L) == playOut l1 r2 (8 * L)) = true from beq_self_eq_true _]
    go_wp2_with (first
      | (go_at_call 19
         refine (sounded_true _).mono ?_
         rintro e w11 ⟨rfl, rfl⟩)
      | fail)
    go_ret
    refine ⟨by simp, ?_⟩
    have h := gr_none HG.out (gr_drewN HN.out k9)
    rw [HLT.out] at h
    exact below_of_gr h
  · have hpb : (pf == 0) = false := by simpa using hp
    go_wp2_with fail
    refine (playOut_no 0 _ _ _ l1 r2 r3 _ HA1.out (by omega) (by rw [HPF.out]; exact hp)).mono ?_
    rintro e w4 ⟨v4, rfl, ⟨A4, n4, c4, rfl, hx4⟩, hg4⟩
    rw [HPF.out]
    have HX4 := Lib.hid hx4
    have HN := Lib.hid hg4
    clear hx4 hg4
    rcases (by omega : r2 < 0 ∨ 10000 < r2 ∨ (0 ≤ r2 ∧ r2 ≤ 10000 ∧ r3 < 0) ∨ (0 ≤ r2 ∧ r2 ≤ 10000 ∧ 2500 < r3) ∨ (0 ≤ r2 ∧ r2 ≤ 10000 ∧ 0 ≤ r3 ∧ r3 ≤ 2500)) with q1 | q1 | ⟨q1, q2, q3⟩ | ⟨q1, q2, q3⟩ | ⟨q1, q2, q3, q4⟩
    · have HPV := Lib.hid (show (if arrFault l1 = 0 then 1 else arrFault l1) = pf from by rw [← HPF.out]; unfold playFault; simp [inB]; intros; omega)
      go_wp2_with fail
      refine (arrivalsFault_any 0 _ _ _ l1 _ (HA1.out.grown HN.out (fun g e => by cases e)) (by omega)).mono ?_
      rintro e w5 ⟨rfl, hg5⟩
      replace HN := Lib.hid (gr_none HN.out hg5)
      replace HX4 := Lib.hid (HX4.out.grown hg5 (fun g e => by cases e))
      clear hg5
      go_wp2_with (first
        | (go_at_call 24; refine (when_any _ _ _).mono ?_; rintro e w' ⟨rfl, rfl⟩)
        | fail)
      refine (errs2_new (arrFault l1) 1 _ rfl).mono ?_
      rintro e w6 ⟨rfl, hg6⟩
      rw [show (if arrFault l1 = 0 then 1 else arrFault l1) = pf from HPV.out]
      replace HN := Lib.hid (gr_none HN.out hg6)
      replace HX4 := Lib.hid (HX4.out.grown hg6 (fun g e => by cases e))
      clear hg6
      go_wp2_with fail
      refine (equalI_any _ 0 _ _ _ _ _ _ _ [] _ HX4.out Ints.none_ (by have := HX4.out.len; simp at this; omega)).mono ?_
      rintro e w9 ⟨rfl, k9, rfl⟩
      rw [show (([] : List Int) == []) = true from rfl]
      go_wp2_with (first
        | (go_at_call 19
           refine (sounded_true _).mono ?_
           rintro e w11 ⟨rfl, rfl⟩)
        | fail)
      go_ret
      refine ⟨by simp, ?_⟩
      have h := gr_none HG.out (gr_drewN HN.out k9)
      rw [HLT.out] at h
      exact below_of_gr h
    · have HPV := Lib.hid (show (if arrFault l1 = 0 then 1 else arrFault l1) = pf from by rw [← HPF.out]; unfold playFault; simp [inB]; intros; omega)
      go_wp2_with fail
      refine (arrivalsFault_any 0 _ _ _ l1 _ (HA1.out.grown HN.out (fun g e => by cases e)) (by omega)).mono ?_
      rintro e w5 ⟨rfl, hg5⟩
      replace HN := Lib.hid (gr_none HN.out hg5)
      replace HX4 := Lib.hid (HX4.out.grown hg5 (fun g e => by cases e))
      clear hg5
      go_wp2_with (first
        | (go_at_call 24; refine (when_any _ _ _).mono ?_; rintro e w' ⟨rfl, rfl⟩)
        | fail)
      refine (errs2_new (arrFault l1) 1 _ rfl).mono ?_
      rintro e w6 ⟨rfl, hg6⟩
      rw [show (if arrFault l1 = 0 then 1 else arrFault l1) = pf from HPV.out]
      replace HN := Lib.hid (gr_none HN.out hg6)
      replace HX4 := Lib.hid (HX4.out.grown hg6 (fun g e => by cases e))
      clear hg6
      go_wp2_with fail
      refine (equalI_any _ 0 _ _ _ _ _ _ _ [] _ HX4.out Ints.none_ (by have := HX4.out.len; simp at this; omega)).mono ?_
      rintro e w9 ⟨rfl, k9, rfl⟩
      rw [show (([] : List Int) == []) = true from rfl]
      go_wp2_with (first
        | (go_at_call 19
           refine (sounded_true _).mono ?_
           rintro e w11 ⟨rfl, rfl⟩)
        | fail)
      go_ret
      refine ⟨by simp, ?_⟩
      have h := gr_none HG.out (gr_drewN HN.out k9)
      rw [HLT.out] at h
      exact below_of_gr h
    · have d1 : decide (r2 < 0) = false := by simp; omega
      have d2 : decide (10000 < r2) = false := by simp; omega
      have d3 : decide (r3 < 0) = true := by simp; omega
      have HPV := Lib.hid (show (if arrFault l1 = 0 then 1 else arrFault l1) = pf from by rw [← HPF.out]; unfold playFault; simp [inB]; intros; omega)
      go_wp2_with fail
      refine (arrivalsFault_any 0 _ _ _ l1 _ (HA1.out.grown HN.out (fun g e => by cases e)) (by omega)).mono ?_
      rintro e w5 ⟨rfl, hg5⟩
      replace HN := Lib.hid (gr_none HN.out hg5)
      replace HX4 := Lib.hid (HX4.out.grown hg5 (fun g e => by cases e))
      clear hg5
      go_wp2_with (first
        | (go_at_call 24; refine (when_any _ _ _).mono ?_; rintro e w' ⟨rfl, rfl⟩)
        | fail)
      refine (errs2_new (arrFault l1) 1 _ rfl).mono ?_
      rintro e w6 ⟨rfl, hg6⟩
      rw [show (if arrFault l1 = 0 then 1 else arrFault l1) = pf from HPV.out]
      replace HN := Lib.hid (gr_none HN.out hg6)
      replace HX4 := Lib.hid (HX4.out.grown hg6 (fun g e => by cases e))
      clear hg6
      go_wp2_with fail
      refine (equalI_any _ 0 _ _ _ _ _ _ _ [] _ HX4.out Ints.none_ (by have := HX4.out.len; simp at this; omega)).mono ?_
      rintro e w9 ⟨rfl, k9, rfl⟩
      rw [show (([] : List Int) == []) = true from rfl]
      go_wp2_with (first
        | (go_at_call 19
           refine (sounded_true _).mono ?_
           rintro e w11 ⟨rfl, rfl⟩)
        | fail)
      go_ret
      refine ⟨by simp, ?_⟩
      have h := gr_none HG.out (gr_drewN HN.out k9)
      rw [HLT.out] at h
      exact below_of_gr h
    · have d1 : decide (r2 < 0) = false := by simp; omega
      have d2 : decide (10000 < r2) = false := by simp; omega
      have d3 : decide (r3 < 0) = false := by simp; omega
      have d4 : decide (2500 < r3) = true := by simp; omega
      have HPV := Lib.hid (show (if arrFault l1 = 0 then 1 else arrFault l1) = pf from by rw [← HPF.out]; unfold playFault; simp [inB]; intros; omega)
      go_wp2_with fail
      refine (arrivalsFault_any 0 _ _ _ l1 _ (HA1.out.grown HN.out (fun g e => by cases e)) (by omega)).mono ?_
      rintro e w5 ⟨rfl, hg5⟩
      replace HN := Lib.hid (gr_none HN.out hg5)
      replace HX4 := Lib.hid (HX4.out.grown hg5 (fun g e => by cases e))
      clear hg5
      go_wp2_with (first
        | (go_at_call 24; refine (when_any _ _ _).mono ?_; rintro e w' ⟨rfl, rfl⟩)
        | fail)
      refine (errs2_new (arrFault l1) 1 _ rfl).mono ?_
      rintro e w6 ⟨rfl, hg6⟩
      rw [show (if arrFault l1 = 0 then 1 else arrFault l1) = pf from HPV.out]
      replace HN := Lib.hid (gr_none HN.out hg6)
      replace HX4 := Lib.hid (HX4.out.grown hg6 (fun g e => by cases e))
      clear hg6
      go_wp2_with fail
      refine (equalI_any _ 0 _ _ _ _ _ _ _ [] _ HX4.out Ints.none_ (by have := HX4.out.len; simp at this; omega)).mono ?_
      rintro e w9 ⟨rfl, k9, rfl⟩
      rw [show (([] : List Int) == []) = true from rfl]
      go_wp2_with (first
        | (go_at_call 19
           refine (sounded_true _).mono ?_
           rintro e w11 ⟨rfl, rfl⟩)
        | fail)
      go_ret
      refine ⟨by simp, ?_⟩
      have h := gr_none HG.out (gr_drewN HN.out k9)
      rw [HLT.out] at h
      exact below_of_gr h
    · have d1 : decide (r2 < 0) = false := by simp; omega
      have d2 : decide (10000 < r2) = false := by simp; omega
      have d3 : decide (r3 < 0) = false := by simp; omega
      have d4 : decide (2500 < r3) = false := by simp; omega
      have HPV := Lib.hid (show (if arrFault l1 = 0 then 0 else arrFault l1) = pf from by rw [← HPF.out]; unfold playFault; simp [inB]; intros; omega)
      go_wp2_with fail
      refine (arrivalsFault_any 0 _ _ _ l1 _ (HA1.out.grown HN.out (fun g e => by cases e)) (by omega)).mono ?_
      rintro e w5 ⟨rfl, hg5⟩
      replace HN := Lib.hid (gr_none HN.out hg5)
      replace HX4 := Lib.hid (HX4.out.grown hg5 (fun g e => by cases e))
      clear hg5
      go_wp2_with (first
        | (go_at_call 24; refine (when_any _ _ _).mono ?_; rintro e w' ⟨rfl, rfl⟩)
        | fail)
      refine (errs2_new (arrFault l1) 0 _ rfl).mono ?_
      rintro e w6 ⟨rfl, hg6⟩
      rw [show (if arrFault l1 = 0 then 0 else arrFault l1) = pf from HPV.out]
      replace HN := Lib.hid (gr_none HN.out hg6)
      replace HX4 := Lib.hid (HX4.out.grown hg6 (fun g e => by cases e))
      clear hg6
      go_wp2_with fail
      refine (equalI_any _ 0 _ _ _ _ _ _ _ [] _ HX4.out Ints.none_ (by have := HX4.out.len; simp at this; omega)).mono ?_
      rintro e w9 ⟨rfl, k9, rfl⟩
      rw [show (([] : List Int) == []) = true from rfl]
      go_wp2_with (first
        | (go_at_call 19
           refine (sounded_true _).mono ?_
           rintro e w11 ⟨rfl, rfl⟩)
        | fail)
      go_ret
      refine ⟨by simp, ?_⟩
      have h := gr_none HG.out (gr_drewN HN.out k9)
      rw [HLT.out] at h
      exact below_of_gr h

theorem own_PacketsPlayed : ownKnob Try.prog.godebug = none := by kernel_rfl
theorem laidOut_PacketsPlayed : laidOutB Try.prog = true := by kernel_rfl

set_option maxRecDepth 100000 in
theorem lifted_PacketsPlayed (os : Os) (started : os.Started) (H : Type) (enc : TypeId × Value → H) :
    ReturnsInHanded {} Try.checked os 5 .any (Rows.packetsPlayedSpec.pre6 enc Try.prog Try.f5 Rows.packetsPlayedRow.domain false) (Rows.packetsPlayedSpec.post enc Try.prog Try.f5 false true false false) := by
  refine returnsInHanded_of_change (C := Try.checked) own_PacketsPlayed started (by kernel_rfl) Try.func5
    (ChangeSpec.witness6 (enc := enc) (C := Try.checked) false ⟨#[], #[.slice none 0 0], []⟩ 8 (by kernel_rfl) (by kernel_rfl) (by kernel_rfl) (by kernel_rfl)) ?_
  intro W base args ds gs before hval0 hW hcnd _
  have hval : ∀ (j : Nat) t v, Try.f5.params[j]? = some t → args[j]? = some v → Value.okWide Try.prog W .any base t v := hval0
  have hW' := hW
  obtain ⟨p, q, hA0, hV, rfl, hfz, hnd⟩ := hW
  have hA : DataW.TrodAll enc Try.prog W 0 (fun _ => true) true Try.f5.params.toList args.toList ds p := hA0
  rw [Try.params5] at hA hval
  obtain ⟨v0, vs0, d0, ds0, p0, q0, hargs, rfl, rfl, h0, r0⟩ := trodAll_cons hA
  obtain ⟨rfl, rfl, rfl⟩ := trodAll_nil r0
  obtain rfl : args = #[v0] := by cases args; simp_all
  obtain ⟨rfl, rfl⟩ := trodVars_none hV
  obtain ⟨a0, len0, cap0, rfl⟩ := okWide_slice Try.underlying22 (hval 0 22 v0 rfl rfl)
  have k0 := h0
  have lt0 : ∀ x ∈ p0, x.block < W.heap.size := by obtain ⟨m, hm⟩ := k0; exact DataW.trod_lt m _ _ _ hm
  obtain ⟨z0, w0⟩ : ∃ zs, IsRow .i64 W a0 len0 cap0 zs := by
    obtain ⟨fuel, hf⟩ := h0
    rcases open_ints Try.underlying22 Try.underlying3 (by kernel_rfl) hf with ⟨hcs, _⟩ | ⟨x, l, c, zs, hcs, _, hl, hm, hz, _, hcell, hwz⟩
    · simp [Value.cells] at hcs
      obtain ⟨rfl, rfl, rfl⟩ := hcs
      exact ⟨[], .inl ⟨rfl, rfl, rfl, rfl⟩⟩
    · simp [Value.cells] at hcs
      obtain ⟨rfl, rfl, rfl⟩ := hcs
      exact ⟨zs, .inr ⟨_, rfl, hl, hm, by simpa using hz, hcell, hwz⟩⟩
  clear hA0 hval0
  refine (walk_PacketsPlayed a0 len0 cap0 z0 W w0).mono fun e W' ⟨he, bel⟩ => ?_
  subst he
  exact ⟨_, rfl, _, _, _, [], _, [], hW', trodAll_mk1 (shut_bool Try.underlying4 _), (trodAll_cons_mk (Below.trod laidOut_PacketsPlayed (by kernel_rfl) (of_decide_eq_true (by kernel_rfl)) k0 bel lt0) trodAll_mk0), rfl, bel.frame _, fun h => by cases h⟩

theorem over_PacketsPlayed : Rows.packetsPlayedRow.holds Try.pinned (OpenSpec.ofChange Rows.packetsPlayedSpec) :=
  OpenClaim.holds_of_wide 5 Try.f5 rfl rfl rfl rfl rfl rfl rfl ⟨rfl, rfl, rfl, rfl, rfl⟩ rfl rfl rfl rfl rfl (by kernel_rfl) Try.func5 (by kernel_rfl)
    (of_decide_eq_true (by kernel_rfl)) (by unfold Func.isWrapper; first | (rw [if_pos (by decide +kernel)]; kernel_rfl) | (rw [if_neg (by decide +kernel)]; exact ⟨rfl, rfl⟩))
    (fun os started H enc _ => lifted_PacketsPlayed os started H enc)

theorem proved_PacketsPlayed : Rows.PacketsPlayedSaid := over_PacketsPlayed

end Go.Proofs.Ytdknfhpconfhkaa

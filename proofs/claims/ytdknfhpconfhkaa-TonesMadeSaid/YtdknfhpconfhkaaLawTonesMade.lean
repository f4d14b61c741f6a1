/- The law TonesMade: for every input the call returns true, and the argument reads as before. Conditions: none. -/
import Derived.Test.YtdknfhpconfhkaaRows
import Derived.Test.YtdknfhpconfhkaaLawBase
import Derived.Test.YtdknfhpconfhkaaNoise
import Derived.Deep.DeepCutAuto
import Derived.ProofKit
import Derived.OpenShut
import Derived.ShutString
import Derived.ChangeOld
namespace Go.Proofs.Ytdknfhpconfhkaa
open Go.ChangeShapes Go.WideShapes Go.ChangeAt Go.RowKit
open Go.ChangeMaps (open_string shut_string)

def CutKey (wb : World) (sb : Nat) (v : Value) (wx : World) : Prop := ∃ k : Int, v = .int .u8 k ∧ 0 ≤ k ∧ k < 256 ∧ wb.grownBy wx (some sb)

def CutInts2 (wb : World) (l : List Int) (v : Value) (wx : World) : Prop := ∃ (A : Option Addr) (n c : Nat), v = .slice A n c ∧ Ints .i64 wx 0 A n c l ∧ wb.grownBy wx none
def CutErr2 (wb : World) (f : Int) (v : Value) (wx : World) : Prop := v = .int .i64 f ∧ wb.grownBy wx none
def toneL (k many : Int) : List Int := if toneFault k many = 0 then tab many.toNat (toneF (keyIx k).toNat) else []
theorem tone_good {k many : Int} (h : toneFault k many = 0) : 0 ≤ keyIx k ∧ 0 ≤ many ∧ many ≤ 20000 := by
  unfold toneFault inB at h
  split at h
  · omega
  · split at h
    · rename_i h1 h2; simp at h2; omega
    · omega
theorem tone_any (k many : Int) (w : World) :
    Calls Try.prog 54 #[.int .u8 k, .int .i64 many] w (RetP (IsOutErr .i64 w.heap.size (toneL k many) (toneFault k many)) w) := by
  unfold toneL
  by_cases h : toneFault k many = 0
  · obtain ⟨h1, h2, h3⟩ := tone_good h
    rw [if_pos h, h]
    obtain ⟨N, rfl⟩ : ∃ N : Nat, many = N := ⟨many.toNat, by omega⟩
    exact tone_ok k N _ w (by omega) (by omega)
  · rw [if_neg h]; exact tone_no k many w h
def IsTone0 (k : Int) (v : Value) (_ : World) : Prop := ∃ (A : Option Addr) (n c : Nat), v = .tuple #[.slice A n c, .bool (decide (0 ≤ keyIx k))]
theorem toneOf0_any (k : Int) (w : World) (k0 : 0 ≤ k) (k1 : k < 256) :
    Calls Try.prog 55 #[.int .u8 k, .int .i64 0] w (RetP (IsTone0 k) w) := by
  by_cases h : keyIx k < 0
  · refine (toneOf_no k 0 w k0 k1 h).mono ?_
    rintro e w' ⟨rfl, rfl⟩
    exact ⟨_, rfl, ⟨none, 0, 0, by rw [decide_eq_false (by omega)]⟩, gr_refl _ _⟩
  · refine (toneOf_var k 0 (keyIx k).toNat w (by omega) (by omega) k0 k1 (by omega)).mono ?_
    rintro e w' ⟨v, rfl, ⟨A, n, c, rfl, _⟩, hg⟩
    exact ⟨_, rfl, ⟨A, n, c, by rw [decide_eq_true (by omega)]⟩, hg⟩
theorem toneOf_any (k many : Int) (w : World) (k0 : 0 ≤ k) (k1 : k < 256) (h : toneFault k many = 0) :
    Calls Try.prog 55 #[.int .u8 k, .int .i64 many] w (RetP (IsToneOk w.heap.size (toneL k many)) w) := by
  obtain ⟨h1, h2, h3⟩ := tone_good h
  unfold toneL
  rw [if_pos h]
  exact toneOf_var k many (keyIx k).toNat w (by omega) (by omega) k0 k1 (by omega)

set_option maxRecDepth 100000 in
set_option maxHeartbeats 20000000 in
theorem walk_TonesMade (a0 : Option Addr) (len0 cap0 : Nat) (z0 : List Int) (w : World) (w0 : IsRow .i64 w a0 len0 cap0 z0) :
    Calls Try.prog 8 #[.slice a0 len0 cap0] w fun e w' => e = .returned (.bool true) ∧ Below w.heap.size w w' := by
  have hs0 := str_new w0
  clear w0
  obtain ⟨sb, hsb⟩ : ∃ sb, w.heap.size = sb := ⟨_, rfl⟩
  have hlt : sb = w.heap.size := hsb.symm
  have HLT := Lib.hid hlt
  have hlt1 : sb ≤ w.heap.size := by omega
  have hlt2 : w.heap.size ≤ sb := by omega
  have HSB := Lib.hid hsb
  rw [hsb] at hs0
  clear hlt hsb
  have HS := Lib.hid hs0; clear hs0
  have HG := Lib.hid (gr_refl w (some sb))
  go_enter Try.func8, Try.ntmps8
  go_wp2_with fail
  simp only [HSB.out]
  refine (keyByte_any sb _ _ (by exact HS.out) (by omega)).mono ?_
  rintro e w1 ⟨v1, rfl, ⟨k1, q1, rfl, hk10, hk11, hkq1⟩, hs1, hg1⟩
  clear hkq1
  have z1 := hg1.size; try simp at z1
  try replace HZ := Lib.hid (HZ.out.grown hg1 (by simp; omega))
  try replace HP := Lib.hid (HP.out.grown hg1 (by simp; omega))
  try replace HGA := Lib.hid (HGA.out.kept hg1 (fun g e => by injection e with e; omega))
  try replace HY := Lib.hid (Own.kept HY.out hg1 (fun g e e' => by injection e with e; have := (HY.out.lt e').1; omega))
  replace HG := Lib.hid (gr_same (a := w) (by repeat (first | exact HG.out | refine gr_alloc ?_ _ | refine gr_drew ?_ | refine gr_drewN ?_ _ | refine gr_setCell ?_ (.inr (by simp; omega)) _)) hg1); clear hg1
  replace HS := Lib.hid hs1; clear hs1
  go_wp2_with fail
  refine (pick_new sb _ [0, 1, 2, 3, 50, 410, -1, 20001] _ (by first | exact HS.out | exact HS.out.alloc _ | exact (HS.out.alloc _).alloc _ | exact ((HS.out.alloc _).alloc _).alloc _ | exact HS.out.drewN _ | exact HS.out.setCell (by simp; omega) _ | exact (HS.out.alloc _).setCell (by simp; omega) _ | exact (HS.out.setCell (by simp; omega) _).alloc _ | exact (HS.out.setCell (by simp; omega) _).drewN _ | exact (HS.out.alloc _).drewN _) (by omega) (by simp) rfl rfl (by simp) (by simp)).mono ?_
  rintro e w2 ⟨v2, rfl, ⟨r2, hr2, rfl⟩, hs2, hg2⟩
  have HR2 := Lib.hid hr2; clear hr2
  have z2 := hg2.size; try simp at z2
  try replace HZ := Lib.hid (HZ.out.grown hg2 (by simp; omega))
  try replace HP := Lib.hid (HP.out.grown hg2 (by simp; omega))
  try replace HGA := Lib.hid (HGA.out.kept hg2 (fun g e => by injection e with e; omega))
  try replace HY := Lib.hid (Own.kept HY.out hg2 (fun g e e' => by injection e with e; have := (HY.out.lt e').1; omega))
  replace HG := Lib.hid (gr_same (a := w) (by repeat (first | exact HG.out | refine gr_alloc ?_ _ | refine gr_drew ?_ | refine gr_drewN ?_ _ | refine gr_setCell ?_ (.inr (by simp; omega)) _)) hg2); clear hg2
  replace HS := Lib.hid hs2; clear hs2
  go_wp2_with fail
  refine (noise_any sb _ _ (by exact HS.out) (by omega)).mono ?_
  rintro e w3 ⟨v3, rfl, ⟨A3, n3, c3, l3, rfl, ho3, hn3⟩, hs3, hg3⟩
  have HY := Lib.hid (show OwnI w3 (sb + 1) A3 n3 c3 l3 from Own.lower ho3 (by omega)); clear ho3
  have z3 := hg3.size
  replace HG := Lib.hid (gr_same HG.out hg3); replace HS := Lib.hid hs3; clear hg3 hs3
  go_wp2_with fail
  refine (flip_any sb _ 12 _ (by first | exact HS.out | exact HS.out.alloc _ | exact (HS.out.alloc _).alloc _ | exact ((HS.out.alloc _).alloc _).alloc _ | exact HS.out.drewN _ | exact HS.out.setCell (by simp; omega) _ | exact (HS.out.alloc _).setCell (by simp; omega) _ | exact (HS.out.setCell (by simp; omega) _).alloc _ | exact (HS.out.setCell (by simp; omega) _).drewN _ | exact (HS.out.alloc _).drewN _) (by omega) (by omega) (by omega)).mono ?_
  rintro e w4 ⟨v4, rfl, ⟨f4, rfl⟩, hs4, hg4⟩
  have z4 := hg4.size; try simp at z4
  try replace HZ := Lib.hid (HZ.out.grown hg4 (by simp; omega))
  try replace HP := Lib.hid (HP.out.grown hg4 (by simp; omega))
  try replace HGA := Lib.hid (HGA.out.kept hg4 (fun g e => by injection e with e; omega))
  try replace HY := Lib.hid (Own.kept HY.out hg4 (fun g e e' => by injection e with e; have := (HY.out.lt e').1; omega))
  replace HG := Lib.hid (gr_same (a := w) (by repeat (first | exact HG.out | refine gr_alloc ?_ _ | refine gr_drew ?_ | refine gr_drewN ?_ _ | refine gr_setCell ?_ (.inr (by simp; omega)) _)) hg4); clear hg4
  replace HS := Lib.hid hs4; clear hs4
  obtain ⟨wp, rfl⟩ : ∃ wp : World, wp = w4 := ⟨_, rfl⟩
  go_upto_if 26 with (fail)
  go_cut [4] (fun v wx => CutKey wp sb v wx)
  case first =>
    cases f4
    · go_wp2_with fail
      go_meet
      exact ⟨k1, rfl, hk10, hk11, gr_refl _ _⟩
    · go_wp2_with fail
      refine (pick_new sb _ [0, 69, 97, 32, 255] _ HS.out (by omega) rfl rfl rfl (by simp) (by simp)).mono ?_
      rintro e w5 ⟨v5, rfl, ⟨r5, hr5, rfl⟩, hs5, hg5⟩
      have hr5' : 0 ≤ r5 ∧ r5 ≤ 255 := by simp at hr5; omega
      obtain ⟨h51, h52⟩ := hr5'
      clear hr5 hs5
      have HG5 := Lib.hid hg5; clear hg5
      go_wp2_with fail
      go_meet
      exact ⟨_, rfl, by omega, by omega, HG5.out⟩
  case rest =>
    obtain ⟨k, rfl, k0, k2, hgc⟩ := hcut
    have zc := hgc.size
    replace HY := Lib.hid (Own.kept HY.out hgc (fun g e e' => by injection e with e; have := (Own.lt HY.out e').1; omega))
    replace HG := Lib.hid (gr_same HG.out hgc)
    clear hgc HS
    obtain ⟨wp, rfl⟩ : ∃ wp : World, wp = wc := ⟨_, rfl⟩
    have hr2' : r2 = -1 ∨ r2 = 20001 ∨ (0 ≤ r2 ∧ r2 ≤ 20000) := by have := HR2.out; simp at this; omega
    obtain ⟨tf, htf⟩ : ∃ tf, toneFault k r2 = tf := ⟨_, rfl⟩
    obtain ⟨tl, htl⟩ : ∃ tl, toneL k r2 = tl := ⟨_, rfl⟩
    have HTF := Lib.hid htf; have HTL := Lib.hid htl
    have hll : tl.length ≤ 20000 := by
      rw [← htl]
      unfold toneL
      split
      · rename_i h; have := (tone_good h).2.2; rw [tab_len]; omega
      · simp
    go_wp2_with fail
    refine (tone_any k r2 _).mono ?_
    rintro e w6 ⟨v6, rfl, ⟨A6, n6, c6, rfl, hx6⟩, hg6⟩
    rw [htl] at hx6
    rw [htf]
    have HN := Lib.hid hg6
    have HX6 := Lib.hid (hx6.lower (Nat.zero_le _))
    have hn6 : n6 ≤ 20000 := by have := hx6.len; omega
    clear htf htl hx6 hg6 hll
    go_wp2_with fail
    refine (toneOf0_any k _ k0 k2).mono ?_
    rintro e w7 ⟨v7, rfl, ⟨A7, n7, c7, rfl⟩, hg7⟩
    obtain ⟨bk, hbk⟩ : ∃ bk, decide (0 ≤ keyIx k) = bk := ⟨_, rfl⟩
    rw [hbk]
    have HBK := Lib.hid hbk
    replace HX6 := Lib.hid (HX6.out.grown hg7 (fun g e => by cases e))
    replace HN := Lib.hid (gr_none HN.out hg7)
    clear hg7 hbk
    go_upto_region 7 with (fail)
    obtain ⟨wq, rfl⟩ : ∃ wq : World, wq = w7 := ⟨_, rfl⟩
    go_cut [11] (fun v wx => CutErr2 wq tf v wx)
    case first =>
      have HB0 := Lib.hid (show bk = false → tf = 4 from fun e => by
        rw [← HTF.out]; unfold toneFault; rw [if_pos (by have := HBK.out; rw [e] at this; simpa using this)])
      have HB1 := Lib.hid (show bk = true → tf = if inB r2 0 20000 then 0 else 1 from fun e => by
        rw [← HTF.out]; unfold toneFault; rw [if_neg (by have := HBK.out; rw [e] at this; simpa using this)])
      rcases hr2' with rfl | rfl | ⟨h21, h22⟩
      · cases bk
        · have HV := Lib.hid (show (if (4 : Int) = 0 then (1 : Int) else 4) = tf from (HB0.out rfl).symm)
          go_wp2_with (first
            | (go_at_call 24; refine (when_any _ _ _).mono ?_; rintro e w' ⟨rfl, rfl⟩)
            | fail)
          refine (errs2_new 4 1 _ rfl).mono ?_
          rintro e w14 ⟨rfl, hg14⟩
          rw [show (if (4 : Int) = 0 then (1 : Int) else 4) = tf from by have := HV.out; simp at this ⊢; omega]
          go_wp2_with fail
          go_meet
          exact ⟨rfl, hg14⟩
        · have HV := Lib.hid (show (if (0 : Int) = 0 then (1 : Int) else 0) = tf from (HB1.out rfl).symm)
          go_wp2_with (first
            | (go_at_call 24; refine (when_any _ _ _).mono ?_; rintro e w' ⟨rfl, rfl⟩)
            | fail)
          refine (errs2_new 0 1 _ rfl).mono ?_
          rintro e w14 ⟨rfl, hg14⟩
          rw [show (if (0 : Int) = 0 then (1 : Int) else 0) = tf from by have := HV.out; simp at this ⊢; omega]
          go_wp2_with fail
          go_meet
          exact ⟨rfl, hg14⟩
      · cases bk
        · have HV := Lib.hid (show (if (4 : Int) = 0 then (1 : Int) else 4) = tf from (HB0.out rfl).symm)
          go_wp2_with (first
            | (go_at_call 24; refine (when_any _ _ _).mono ?_; rintro e w' ⟨rfl, rfl⟩)
            | fail)
          refine (errs2_new 4 1 _ rfl).mono ?_
          rintro e w14 ⟨rfl, hg14⟩
          rw [show (if (4 : Int) = 0 then (1 : Int) else 4) = tf from by have := HV.out; simp at this ⊢; omega]
          go_wp2_with fail
          go_meet
          exact ⟨rfl, hg14⟩
        · have HV := Lib.hid (show (if (0 : Int) = 0 then (1 : Int) else 0) = tf from (HB1.out rfl).symm)
          go_wp2_with (first
            | (go_at_call 24; refine (when_any _ _ _).mono ?_; rintro e w' ⟨rfl, rfl⟩)
            | fail)
          refine (errs2_new 0 1 _ rfl).mono ?_
          rintro e w14 ⟨rfl, hg14⟩
          rw [show (if (0 : Int) = 0 then (1 : Int) else 0) = tf from by have := HV.out; simp at this ⊢; omega]
          go_wp2_with fail
          go_meet
          exact ⟨rfl, hg14⟩
      · have d1 : decide (r2 < 0) = false := decide_eq_false (by omega)
        have d2 : decide (20000 < r2) = false := decide_eq_false (by omega)
        have hin : (if inB r2 0 20000 then (0 : Int) else 1) = 0 := by rw [if_pos (by simp [inB]; omega)]
        have HIN := Lib.hid hin; clear hin
        cases bk
        · have HV := Lib.hid (show (if (4 : Int) = 0 then (0 : Int) else 4) = tf from (HB0.out rfl).symm)
          go_wp2_with (first
            | (go_at_call 24; refine (when_any _ _ _).mono ?_; rintro e w' ⟨rfl, rfl⟩)
            | fail)
          refine (errs2_new 4 0 _ rfl).mono ?_
          rintro e w14 ⟨rfl, hg14⟩
          rw [show (if (4 : Int) = 0 then (0 : Int) else 4) = tf from by have := HV.out; simp at this ⊢; omega]
          go_wp2_with fail
          go_meet
          exact ⟨rfl, hg14⟩
        · have HV := Lib.hid (show (if (0 : Int) = 0 then (0 : Int) else 0) = tf from ((HB1.out rfl).trans HIN.out).symm)
          go_wp2_with (first
            | (go_at_call 24; refine (when_any _ _ _).mono ?_; rintro e w' ⟨rfl, rfl⟩)
            | fail)
          refine (errs2_new 0 0 _ rfl).mono ?_
          rintro e w14 ⟨rfl, hg14⟩
          rw [show (if (0 : Int) = 0 then (0 : Int) else 0) = tf from by have := HV.out; simp at this ⊢; omega]
          go_wp2_with fail
          go_meet
          exact ⟨rfl, hg14⟩
    case rest =>
      obtain ⟨rfl, hg8⟩ := hcut
      replace HX6 := Lib.hid (HX6.out.grown hg8 (fun g e => by cases e))
      replace HN := Lib.hid (gr_none HN.out hg8)
      clear hg8
      go_upto_if 55 with (fail)
      obtain ⟨wq2, rfl⟩ : ∃ wq2 : World, wq2 = wc := ⟨_, rfl⟩
      go_cut [12] (fun v wx => CutInts2 wq2 tl v wx)
      case first =>
        by_cases h0 : tf = 0
        · subst h0
          go_wp2_with fail
          refine (toneOf_any k r2 _ k0 k2 HTF.out).mono ?_
          rintro e w9 ⟨v9, rfl, ⟨A9, n9, c9, rfl, ho9⟩, hg9⟩
          rw [HTL.out] at ho9
          have HO9 := Lib.hid ho9; have HG9 := Lib.hid hg9; clear ho9 hg9
          go_wp2_with fail
          go_meet
          exact ⟨A9, n9, c9, rfl, (Own.reads HO9.out).lower (Nat.zero_le _), HG9.out⟩
        · have hb : (tf == 0) = false := by simpa using h0
          have HNIL := Lib.hid (show tl = [] by rw [← HTL.out]; unfold toneL; rw [if_neg (by rw [HTF.out]; exact h0)])
          clear h0
          go_wp2_with fail
          go_meet
          exact ⟨none, 0, 0, rfl, by rw [HNIL.out]; exact Ints.none_, gr_refl _ _⟩
      case rest =>
        obtain ⟨A9, n9, c9, rfl, hx9, hg9⟩ := hcut
        replace HX6 := Lib.hid (HX6.out.grown hg9 (fun g e => by cases e))
        replace HN := Lib.hid (gr_none HN.out hg9)
        have HX9 := Lib.hid hx9
        clear hg9 hx9
        have e1 : (tf != tf) = false := by simp
        go_wp2_with fail
        refine (equalI_any _ _ _ _ _ _ _ _ tl tl _ HX6.out HX9.out (by omega)).mono ?_
        rintro e w20 ⟨rfl, k20, hw20⟩
        have hg20 : wc.grownBy w20 none := by rw [hw20]; exact gr_drewN (gr_refl _ _) _
        clear hw20
        replace HN := Lib.hid (gr_none HN.out hg20)
        clear hg20 HX6 HX9 e1
        rw [show (tl == tl) = true from beq_self_eq_true _]
        have HX := Lib.hid ((show Ints .i64 w20 0 A3 n3 c3 l3 from (Ints.lower (Own.reads HY.out) (Nat.zero_le _)).grown HN.out (fun g e => by cases e)))
        by_cases hf : smpFault l3 = 0
        · go_wp2_with fail
          refine (keys_ok A3 n3 c3 l3 _ HX.out (by omega) hf).mono ?_
          rintro e w21 ⟨v21, rfl, rfl, hg21⟩
          have HF := Lib.hid hf
          replace HX := Lib.hid (HX.out.grown hg21 (fun g e => by cases e))
          replace HN := Lib.hid (gr_none HN.out hg21)
          clear hf hg21
          obtain ⟨ans, hans⟩ : ∃ ans, strI ((pst (keysOf l3) (l3.length / 205)).2.2.map keyB) = ans := ⟨_, rfl⟩
          rw [hans]
          have HANS := Lib.hid hans; clear hans
          go_wp2_with fail
          refine (samplesFault_any 0 A3 n3 c3 l3 _ HX.out (by omega)).mono ?_
          rintro e w22 ⟨rfl, rfl⟩
          rw [HF.out]
          go_wp2_with fail
          refine (keysOf_ok A3 n3 c3 l3 _ HX.out (by omega) HF.out).mono ?_
          rintro e w23 ⟨rfl, hg23⟩
          rw [HANS.out]
          replace HN := Lib.hid (gr_none HN.out hg23)
          clear hg23
          go_wp2_with (first
            | (go_at_call 19
               refine (sounded_true _).mono ?_
               rintro e w24 ⟨rfl, rfl⟩)
            | fail)
          go_ret
          refine ⟨by simp, ?_⟩
          have h := gr_none HG.out HN.out
          rw [HLT.out] at h
          exact below_of_gr h
        · go_wp2_with fail
          refine (keys_no A3 n3 c3 l3 _ HX.out (by omega) hf).mono ?_
          rintro e w21 ⟨rfl, rfl⟩
          obtain ⟨sf, hsf⟩ : ∃ sf, smpFault l3 = sf := ⟨_, rfl⟩
          rw [hsf] at hf ⊢
          have HSF := Lib.hid hsf; clear hsf
          have hfb : (sf != 0) = true := by simpa using hf
          have hfc : (sf == sf) = true := beq_self_eq_true _
          clear hf
          go_wp2_with fail
          refine (samplesFault_any 0 A3 n3 c3 l3 _ HX.out (by omega)).mono ?_
          rintro e w22 ⟨rfl, rfl⟩
          rw [HSF.out]
          go_wp2_with (first
            | (go_at_call 19
               refine (sounded_true _).mono ?_
               rintro e w24 ⟨rfl, rfl⟩)
            | fail)
          go_ret
          refine ⟨by simp, ?_⟩
          have h := gr_none HG.out HN.out
          rw [HLT.out] at h
          exact below_of_gr h

theorem own_TonesMade : ownKnob Try.prog.godebug = none := by kernel_rfl
theorem laidOut_TonesMade : laidOutB Try.prog = true := by kernel_rfl

set_option maxRecDepth 100000 in
theorem lifted_TonesMade (os : Os) (started : os.Started) (H : Type) (enc : TypeId × Value → H) :
    ReturnsInHanded {} Try.checked os 8 .any (Rows.tonesMadeSpec.pre6 enc Try.prog Try.f8 Rows.tonesMadeRow.domain false) (Rows.tonesMadeSpec.post enc Try.prog Try.f8 false true false false) := by
  refine returnsInHanded_of_change (C := Try.checked) own_TonesMade started (by kernel_rfl) Try.func8
    (ChangeSpec.witness6 (enc := enc) (C := Try.checked) false ⟨#[], #[.slice none 0 0], []⟩ 8 (by kernel_rfl) (by kernel_rfl) (by kernel_rfl) (by kernel_rfl)) ?_
  intro W base args ds gs before hval0 hW hcnd _
  have hval : ∀ (j : Nat) t v, Try.f8.params[j]? = some t → args[j]? = some v → Value.okWide Try.prog W .any base t v := hval0
  have hW' := hW
  obtain ⟨p, q, hA0, hV, rfl, hfz, hnd⟩ := hW
  have hA : DataW.TrodAll enc Try.prog W 0 (fun _ => true) true Try.f8.params.toList args.toList ds p := hA0
  rw [Try.params8] at hA hval
  obtain ⟨v0, vs0, d0, ds0, p0, q0, hargs, rfl, rfl, h0, r0⟩ := trodAll_cons hA
  obtain ⟨rfl, rfl, rfl⟩ := trodAll_nil r0
  obtain rfl : args = #[v0] := by cases args; simp_all
  obtain ⟨rfl, rfl⟩ := trodVars_none hV
  obtain ⟨a0, len0, cap0, rfl⟩ := okWide_slice Try.underlying22 (hval 0 22 v0 rfl rfl)
  have k0 := h0
  have lt0 : ∀ x ∈ p0, x.block < W.heap.size := by obtain ⟨m, hm⟩ := k0; exact DataW.trod_lt m _ _ _ hm
  obtain ⟨z0, w0⟩ : ∃ zs, IsRow .i64 W a0 len0 cap0 zs := by
    obtain ⟨fuel, hf⟩ := h0
    rcases open_ints Try.underlying22 Try.underlying3 (by kernel_rfl) hf with ⟨hcs, _⟩ | ⟨x, l, c, zs, hcs, _, hl, hm, hz, _, hcell, hwz⟩
    · simp [Value.cells] at hcs
      obtain ⟨rfl, rfl, rfl⟩ := hcs
      exact ⟨[], .inl ⟨rfl, rfl, rfl, rfl⟩⟩
    · simp [Value.cells] at hcs
      obtain ⟨rfl, rfl, rfl⟩ := hcs
      exact ⟨zs, .inr ⟨_, rfl, hl, hm, by simpa using hz, hcell, hwz⟩⟩
  clear hA0 hval0
  refine (walk_TonesMade a0 len0 cap0 z0 W w0).mono fun e W' ⟨he, bel⟩ => ?_
  subst he
  exact ⟨_, rfl, _, _, _, [], _, [], hW', trodAll_mk1 (shut_bool Try.underlying4 _), (trodAll_cons_mk (Below.trod laidOut_TonesMade (by kernel_rfl) (of_decide_eq_true (by kernel_rfl)) k0 bel lt0) trodAll_mk0), rfl, bel.frame _, fun h => by cases h⟩

theorem over_TonesMade : Rows.tonesMadeRow.holds Try.pinned (OpenSpec.ofChange Rows.tonesMadeSpec) :=
  OpenClaim.holds_of_wide 8 Try.f8 rfl rfl rfl rfl rfl rfl rfl ⟨rfl, rfl, rfl, rfl, rfl⟩ rfl rfl rfl rfl rfl (by kernel_rfl) Try.func8 (by kernel_rfl)
    (of_decide_eq_true (by kernel_rfl)) (by unfold Func.isWrapper; first | (rw [if_pos (by decide +kernel)]; kernel_rfl) | (rw [if_neg (by decide +kernel)]; exact ⟨rfl, rfl⟩))
    (fun os started H enc _ => lifted_TonesMade os started H enc)

theorem proved_TonesMade : Rows.TonesMadeSaid := over_TonesMade

end Go.Proofs.Ytdknfhpconfhkaa

/- Contracts of CheckWindow, SpanFault, Open and Turns. Conditions: none. -/
import Derived.Test.YtelpakmiciilgaaGreatDoorHou2
import Derived.Test.YtelpakmiciilgaaGreatDoorHou3
import Derived.Test.YtelpakmiciilgaaGreatDoorBun5
import Derived.Test.YtelpakmiciilgaaGreatDoorBun6
namespace Go.Proofs.YtelpakmiciilgaaGreatDoor
open Go.RowKit

def winE (fr til : Int) : Int := if fr < 0 ∨ til < fr ∨ 345686400000 < til then 1 else (if 34560000000 < til - fr then 2 else 0)
theorem Tryz.wiT : StructT Tryz.prog 33 2 := ⟨_, Tryz.underlying33, rfl, by kernel_rfl⟩
set_option maxHeartbeats 2000000 in
theorem checkWindow_any (fr til : Int) (w : World) (f0 : -10000000000000 ≤ fr) (f1 : fr ≤ 10000000000000) (t0 : -10000000000000 ≤ til) (t1 : til ≤ 10000000000000) :
    Calls Tryz.prog 15 #[.agg #[.int .i64 fr, .int .i64 til]] w (RetV (.int .i64 (winE fr til)) w) := by
  by_cases c1 : fr < 0
  · have d1 : decide (fr < 0) = true := decide_eq_true c1
    have HV := Lib.hid (show winE fr til = 1 by unfold winE; rw [if_pos (.inl c1)])
    go_enter Tryz.func15, Tryz.ntmps15
    go_wp2_with fail
    go_ret
    exact ⟨by rw [HV.out]; try rfl, gr_alloc (gr_refl _ _) _⟩
  · have d1 : decide (fr < 0) = false := decide_eq_false c1
    by_cases c2 : til < fr
    · have d2 : decide (til < fr) = true := decide_eq_true c2
      have HV := Lib.hid (show winE fr til = 1 by unfold winE; rw [if_pos (.inr (.inl c2))])
      go_enter Tryz.func15, Tryz.ntmps15
      go_wp2_with fail
      go_ret
      exact ⟨by rw [HV.out]; try rfl, gr_alloc (gr_refl _ _) _⟩
    · have d2 : decide (til < fr) = false := decide_eq_false c2
      by_cases c3 : 345686400000 < til
      · have d3 : decide (345686400000 < til) = true := decide_eq_true c3
        have HV := Lib.hid (show winE fr til = 1 by unfold winE; rw [if_pos (.inr (.inr c3))])
        go_enter Tryz.func15, Tryz.ntmps15
        go_wp2_with fail
        go_ret
        exact ⟨by rw [HV.out]; try rfl, gr_alloc (gr_refl _ _) _⟩
      · have d3 : decide (345686400000 < til) = false := decide_eq_false c3
        by_cases c4 : 34560000000 < til - fr
        · have d4 : decide (34560000000 < til - fr) = true := decide_eq_true c4
          have HV := Lib.hid (show winE fr til = 2 by unfold winE; rw [if_neg (by omega), if_pos c4])
          go_enter Tryz.func15, Tryz.ntmps15
          go_wp2_with fail
          go_ret
          exact ⟨by rw [HV.out]; try rfl, gr_alloc (gr_refl _ _) _⟩
        · have d4 : decide (34560000000 < til - fr) = false := decide_eq_false c4
          have HV := Lib.hid (show winE fr til = 0 by unfold winE; rw [if_neg (by omega), if_neg c4])
          go_enter Tryz.func15, Tryz.ntmps15
          go_wp2_with fail
          go_ret
          exact ⟨by rw [HV.out]; try rfl, gr_alloc (gr_refl _ _) _⟩

/-! One hours, laid out for a check. -/
theorem HrOk.lower {w : World} {lo lo' : Nat} {a : HrV} (h : HrOk w lo a) (hl : lo' ≤ lo) : HrOk w lo' a := ⟨h.1, h.2.1.lower hl, h.2.2.lower hl⟩
theorem hrs_one {w : World} {lo g : Nat} (a : HrV) (h : HrOk w lo a) (hg : w.heap.size = g) : Hrs (w.alloc (.cells #[.string a.key, .int .i64 a.zone, .slice a.rA a.rn a.rc, .slice a.hA a.hn a.hc] 29)) 0 (some ⟨g, 0, none⟩) 1 1 [a] := by
  subst hg
  refine ⟨⟨?_, rfl⟩, fun b hb => ?_⟩
  · have := Reads.one w 29 a.row 4 rfl
    simpa [HrV.row] using this.lower (Nat.zero_le _)
  · rw [List.mem_singleton.1 hb]; exact (h.lower (Nat.zero_le _)).grown (gr_alloc (gr_refl _ none) _) (fun g e => by cases e)
theorem HrOk.right {w : World} {lo : Nat} {a : HrV} (h : HrOk w lo a) (he : hrsE [a] = 0) : HrRight a := right_of h.2.1.len h.2.2.len he
def openR (a : HrV) (t : Int) : Value := if hrsE [a] = 0 then (if momB t then .tuple #[.bool (openAt a.zone a.rows a.hol t), .int .i64 0] else .tuple #[.bool false, .int .i64 1]) else .tuple #[.bool false, .int .i64 (hrsE [a])]
set_option maxHeartbeats 2000000 in
theorem Open_any (lo : Nat) (a : HrV) (t : Int) (w : World) (h : HrOk w lo a) : Calls Tryz.prog 12 #[.agg #[.string a.key, .int .i64 a.zone, .slice a.rA a.rn a.rc, .slice a.hA a.hn a.hc], .int .i64 t] w (RetV (openR a t) w) := by
  have H := Lib.hid h; clear h
  have HB0 := Lib.hid (Blk.new w 29 #[.string a.key, .int .i64 a.zone, .slice a.rA a.rn a.rc, .slice a.hA a.hn a.hc])
  have HG0 := Lib.hid (gr_alloc (gr_refl w none) (.cells #[.string a.key, .int .i64 a.zone, .slice a.rA a.rn a.rc, .slice a.hA a.hn a.hc] 29))
  obtain ⟨E, hE⟩ : ∃ E, hrsE [a] = E := ⟨_, rfl⟩
  have HV := Lib.hid (show openR a t = if E = 0 then (if momB t then .tuple #[.bool (openAt a.zone a.rows a.hol t), .int .i64 0] else .tuple #[.bool false, .int .i64 1]) else .tuple #[.bool false, .int .i64 E] by unfold openR; rw [hE])
  have HE := Lib.hid hE; clear hE
  go_enter Tryz.func12, Tryz.ntmps12
  go_wp2_with (first
    | (refine wpl_load_all Tryz.hrT rfl _ rfl _ rfl _ _ HB0.out rfl ?_)
    | fail)
  refine (checkHours_any 0 _ 1 1 [a] _ (hrs_one a (H.out.grown HG0.out (fun g e => by cases e)) (by simp)) (by omega)).mono ?_
  rintro e w2 ⟨rfl, hg2⟩
  rw [HE.out]
  have HB2 := Lib.hid ((HB0.out.alloc _).grown hg2 (by simp))
  have HG2 := Lib.hid (gr_none (gr_alloc HG0.out _) hg2)
  clear hg2
  by_cases h9 : E = 0
  · have h9' : (E != 0) = false := by simpa using h9
    have HRI := Lib.hid (H.out.right (by rw [HE.out]; exact h9))
    rw [if_pos h9] at HV
    clear h9
    cases hm : momB t
    · rw [hm] at HV
      go_wp2_with (first
        | (go_at_call 27; refine (isMomB_any _ _).mono ?_; rintro e w' ⟨rfl, rfl⟩; rw [hm])
        | fail)
      go_ret2
      exact ⟨by rw [HV.out]; rfl, HG2.out⟩
    · rw [hm] at HV
      have hmb : 0 ≤ t ∧ t ≤ 345686399999 := by unfold momB inB at hm; simpa using hm
      obtain ⟨m0, m1⟩ := hmb
      go_wp2_with (first
        | (go_at_call 27; refine (isMomB_any _ _).mono ?_; rintro e w' ⟨rfl, rfl⟩; rw [hm])
        | (refine wpl_load_all Tryz.hrT rfl _ rfl _ rfl _ _ HB2.out rfl ?_)
        | (go_at_call 16; refine (isOpen_any lo a t _ (H.out.grown HG2.out (fun g e => by cases e)) HRI.out (by omega) (by omega)).mono ?_; rintro e w3 ⟨rfl, hg3⟩; have HG3 := Lib.hid (gr_none HG2.out hg3); clear hg3)
        | fail)
      go_ret2
      exact ⟨by rw [HV.out]; rfl, HG3.out⟩
  · have h9' : (E != 0) = true := by simpa using h9
    rw [if_neg h9] at HV
    clear h9
    go_wp2_with fail
    go_ret2
    exact ⟨by rw [HV.out]; rfl, HG2.out⟩

/-! Turns. -/
theorem visit_end' (fr til : Int) : ∀ m, til ≤ visit fr m → ∃ N, til ≤ visit fr N ∧ ∀ k, k < N → visit fr k < til
  | 0, h => ⟨0, h, fun k hk => by omega⟩
  | m + 1, h => by
    by_cases c : til ≤ visit fr m
    · exact visit_end' fr til m c
    · refine ⟨m + 1, h, fun k hk => ?_⟩
      rcases Nat.lt_or_ge k m with e | e
      · have := visit_mono fr e; omega
      · have : k = m := by omega
        subst this; omega
theorem visit_end (fr til : Int) : ∃ N, til ≤ visit fr N ∧ ∀ k, k < N → visit fr k < til :=
  visit_end' fr til (til - fr + 60000).toNat (by have := visit_ge fr (til - fr + 60000).toNat; omega)
theorem turns_succ (op : Int → Bool) (fr : Int) (k : Nat) : turnsL op fr (k + 1) = turnsL op fr k ++ (if op (visit fr k) = wasB op fr k then [] else [visit fr k]) := rfl
theorem was_succ (op : Int → Bool) (fr : Int) (k : Nat) : wasB op fr (k + 1) = op (visit fr k) := rfl
/-- The turns of some hours. -/
def turnV (a : HrV) (fr til : Int) (l : List Int) : Prop := ∃ N, til ≤ visit fr N ∧ (∀ k, k < N → visit fr k < til) ∧ l = turnsL (openAt a.zone a.rows a.hol) fr N
def turnE (a : HrV) (fr til : Int) : Int := if hrsE [a] = 0 then winE fr til else hrsE [a]
def TurnErr (a : HrV) (fr til : Int) (w : World) (e : Ending) (w' : World) : Prop := ∃ l : List Int, InErr l (turnE a fr til) w e w' ∧ (turnE a fr til = 0 → turnV a fr til l) ∧ (turnE a fr til ≠ 0 → l = []) ∧ l.length ≤ 600000
set_option maxHeartbeats 4000000 in
theorem Turns_any (lo : Nat) (a : HrV) (fr til : Int) (w : World) (h : HrOk w lo a) (f0 : -10000000000000 ≤ fr) (f1 : fr ≤ 10000000000000) (t0 : -10000000000000 ≤ til) (t1 : til ≤ 10000000000000) :
    Calls Tryz.prog 5 #[.agg #[.string a.key, .int .i64 a.zone, .slice a.rA a.rn a.rc, .slice a.hA a.hn a.hc], .agg #[.int .i64 fr, .int .i64 til]] w (TurnErr a fr til w) := by
  have H := Lib.hid h; clear h
  have HB0 := Lib.hid ((Blk.new w 29 #[.string a.key, .int .i64 a.zone, .slice a.rA a.rn a.rc, .slice a.hA a.hn a.hc]).alloc (.cells #[.int .i64 fr, .int .i64 til] 33))
  have HW0 := Lib.hid (blk_newH (w.alloc (.cells #[.string a.key, .int .i64 a.zone, .slice a.rA a.rn a.rc, .slice a.hA a.hn a.hc] 29)) 33 #[.int .i64 fr, .int .i64 til] (g := w.heap.size + 1) (by simp))
  have HG0 := Lib.hid (gr_alloc (gr_alloc (gr_refl w none) (.cells #[.string a.key, .int .i64 a.zone, .slice a.rA a.rn a.rc, .slice a.hA a.hn a.hc] 29)) (.cells #[.int .i64 fr, .int .i64 til] 33))
  obtain ⟨E, hE⟩ : ∃ E, hrsE [a] = E := ⟨_, rfl⟩
  obtain ⟨F, hF⟩ : ∃ F, winE fr til = F := ⟨_, rfl⟩
  have HV := Lib.hid (show turnE a fr til = if E = 0 then F else E by unfold turnE; rw [hE, hF])
  have HE := Lib.hid hE; have HF := Lib.hid hF; clear hE hF
  go_enter Tryz.func5, Tryz.ntmps5
  go_wp2_with (first
    | (refine wpl_load_all Tryz.hrT rfl _ rfl _ rfl _ _ HB0.out rfl ?_)
    | fail)
  refine (checkHours_any 0 _ 1 1 [a] _ (hrs_one a (H.out.grown HG0.out (fun g e => by cases e)) (by simp)) (by omega)).mono ?_
  rintro e w2 ⟨rfl, hg2⟩
  rw [HE.out]
  have HB2 := Lib.hid ((HB0.out.alloc _).grown hg2 (by simp))
  have HW2 := Lib.hid ((HW0.out.alloc _).grown hg2 (by simp))
  have HG2 := Lib.hid (gr_none (gr_alloc HG0.out _) hg2)
  clear hg2
  by_cases h9 : E = 0
  · have h9' : (E != 0) = false := by simpa using h9
    have HRI := Lib.hid (H.out.right (by rw [HE.out]; exact h9))
    rw [if_pos h9] at HV
    clear h9
    go_wp2_with (first
      | (refine wpl_load_all Tryz.wiT rfl _ rfl _ rfl _ _ HW2.out rfl ?_)
      | fail)
    refine (checkWindow_any fr til _ f0 f1 t0 t1).mono ?_
    rintro e w3 ⟨rfl, hg3⟩
    rw [HF.out]
    have HB3 := Lib.hid (HB2.out.grown hg3 (by simp))
    have HW3 := Lib.hid (HW2.out.grown hg3 (by simp))
    have HG3 := Lib.hid (gr_none HG2.out hg3)
    clear hg3
    by_cases h8 : F = 0
    · have h8' : (F != 0) = false := by simpa using h8
      have hb : 0 ≤ fr ∧ fr ≤ til ∧ til ≤ 345686400000 ∧ til - fr ≤ 34560000000 := by
        have := HF.out
        rw [h8] at this
        unfold winE at this
        split at this
        · omega
        · split at this <;> omega
      obtain ⟨q0, q1, q2, q3⟩ := hb
      have HT0 := Lib.hid (show turnE a fr til = 0 by rw [HV.out]; exact h8)
      clear h8
      obtain ⟨N, hN1, hN2⟩ := visit_end fr til
      have HN1 := Lib.hid hN1; have HN2 := Lib.hid hN2
      have hNN : N ≤ 600000 := by
        rcases Nat.eq_zero_or_pos N with e | e
        · omega
        · have := hN2 (N - 1) (by omega)
          have := visit_ge fr (N - 1)
          omega
      clear hN1 hN2
      have k3 := HW3.out.cell 0
      have z3 := HG3.out.size
      obtain ⟨OP, hOP⟩ : ∃ OP, openAt a.zone a.rows a.hol = OP := ⟨_, rfl⟩
      have HOP := Lib.hid hOP; clear hOP
      go_wp2_with fail
      clear k3
      go_loopw [8, 9, 10, 11] (fun out was at_ _ wr => ∃ (k n c : Nat) (A : Option Addr), k ≤ N ∧ out = .slice A n c ∧ was = .bool (wasB OP fr k) ∧ at_ = .int .i64 (visit fr k) ∧ w3.grownBy wr none ∧ n ≤ k ∧ OwnR nrow 1 wr w3.heap.size 3 A n c (turnsL OP fr k)) (fun _ _ at_ _ _ => (til - intOf at_).toNat)
      case atStart => exact ⟨0, 0, 0, none, Nat.zero_le _, rfl, rfl, rfl, gr_refl _ _, Nat.le_refl _, OwnR.nil _ _ _⟩
      case round =>
        obtain ⟨k, n, c, A, hk, rfl, rfl, rfl, hgb, hnk, hown⟩ := hrel
        have zr := hgb.size
        have HO := Lib.hid hown
        have HBr := Lib.hid (HB3.out.grown hgb (by simp))
        have HWr := Lib.hid (HW3.out.grown hgb (by simp))
        have HGB := Lib.hid hgb
        have HG := Lib.hid (gr_none HG3.out hgb)
        clear hgb hown
        have kw := HWr.out.cell 1
        obtain ⟨V, hV⟩ : ∃ V, visit fr k = V := ⟨_, rfl⟩
        obtain ⟨WB, hWB⟩ : ∃ WB, wasB OP fr k = WB := ⟨_, rfl⟩
        have v0 : 0 ≤ V := by rw [← hV]; rcases Nat.eq_zero_or_pos k with e | e; (subst e; exact q0); (have : fr ≤ visit fr k := Int.le_of_lt (visit_mono fr e); omega)
        have v1 : V ≤ 345686500000 := by
          rw [← hV]
          cases k with
          | zero => show fr ≤ _; omega
          | succ j => have := HN2.out j (by omega); rw [← visit_succ]; omega
        have hs := visit_succ fr k
        rw [hV] at hs
        have HSU := Lib.hid hs
        have HVV := Lib.hid hV; have HWW := Lib.hid hWB
        rw [hV, hWB]
        clear hV hWB hs
        by_cases hlt : V < til
        · have hlt' : decide (V < til) = true := decide_eq_true hlt
          have hkN : k < N := by
            rcases Nat.lt_or_ge k N with e | e
            · exact e
            · have : k = N := by omega
              subst this
              have := HN1.out
              rw [HVV.out] at this
              omega
          obtain ⟨B, hB⟩ : ∃ B, OP V = B := ⟨_, rfl⟩
          have HBB := Lib.hid hB; clear hB
          have sm : V % 60000 < 60000 := by omega
          have sm0 : 0 ≤ V % 60000 := by omega
          go_wp2_with (first
            | (refine wpl_load_all Tryz.hrT rfl _ rfl _ rfl _ _ HBr.out rfl ?_)
            | fail)
          refine (isOpen_any lo a V _ (H.out.grown HG.out (fun g e => by cases e)) HRI.out (by omega) (by omega)).mono ?_
          rintro e w5 ⟨rfl, hg5⟩
          rw [HOP.out, HBB.out]
          have HO5 := Lib.hid (HO.out.low hg5 (fun g e => by cases e))
          have HG5 := Lib.hid (gr_none HGB.out hg5)
          have z5 := hg5.size
          clear hg5
          have hsv : V + (60000 - V % 60000) = visit fr (k + 1) := HSU.out
          by_cases hbw : B = WB
          · subst hbw
            have HTS := Lib.hid (show turnsL OP fr (k + 1) = turnsL OP fr k by rw [turns_succ, if_pos (by rw [HVV.out, HBB.out, HWW.out]), List.append_nil])
            have HWS := Lib.hid (show wasB OP fr (k + 1) = B by rw [was_succ, HVV.out, HBB.out])
            clear hsv
            cases B
            all_goals
              go_wp2_with fail
              go_roundw
              case rel => exact ⟨k + 1, n, c, A, by omega, rfl, by rw [HWS.out], by rw [← HSU.out], HG5.out, by omega, by rw [HTS.out]; exact HO5.out⟩
              case measure => simp [intOf]; omega
          · have HTS := Lib.hid (show turnsL OP fr (k + 1) = turnsL OP fr k ++ [V] by rw [turns_succ, if_neg (by rw [HVV.out, HBB.out, HWW.out]; exact hbw), HVV.out])
            have HWS := Lib.hid (show wasB OP fr (k + 1) = B by rw [was_succ, HVV.out, HBB.out])
            have hcs : (B = true ∧ WB = false) ∨ (B = false ∧ WB = true) := by cases B <;> cases WB <;> simp_all
            clear hsv hbw
            rcases hcs with ⟨rfl, rfl⟩ | ⟨rfl, rfl⟩
            all_goals
              go_wp2_with (first
                | (at_builtin
                   refine wpl_app _ rfl _ _ Tryz.inT rfl w3.heap.size A n c _ rfl (by exact HO5.out.1.alloc _) _ _ 1 1 [.int .i64 V] rfl (by exact Reads.one _ _ _ _ rfl) (by simp [Value.oneCell']) (by unfold maxLen; omega) (by omega) (by have := HG5.out.size; simp; omega) ?_
                   intro A5 c5 w6 h5
                   have H5 := Lib.hid h5; clear h5)
                | fail)
              go_roundw
              case rel => exact ⟨k + 1, n + 1, c5, A5, by omega, rfl, by rw [HWS.out], by rw [← HSU.out], H5.out.gr (gr_alloc HG5.out _) (HO5.out.1.alloc _) (Nat.le_refl _), by omega, by rw [HTS.out]; exact (HO5.out.alloc _).app rfl H5.out⟩
              case measure => simp [intOf]; omega
        · have hlt' : decide (V < til) = false := decide_eq_false hlt
          obtain rfl : k = N := by
            rcases Nat.lt_or_ge k N with e | e
            · have := HN2.out k e; rw [HVV.out] at this; omega
            · omega
          go_wp2_with fail
          go_ret2
          exact ⟨turnsL OP fr k, ⟨A, n, c, by rw [HT0.out]; rfl, HO.out.lower (by omega), HG.out⟩, fun _ => ⟨k, HN1.out, HN2.out, by rw [HOP.out]⟩, fun hne => absurd HT0.out hne, Nat.le_trans (turns_len _ _ _) hNN⟩
    · have h8' : (F != 0) = true := by simpa using h8
      have HT0 := Lib.hid (show turnE a fr til = F from HV.out)
      have HF0 := Lib.hid h8
      clear h8
      go_wp2_with fail
      go_ret2
      exact ⟨[], ⟨none, 0, 0, by rw [HT0.out]; rfl, OwnR.nil _ _ _, HG3.out⟩, fun h => absurd (HT0.out.symm.trans h) HF0.out, fun _ => rfl, by simp⟩
  · have h9' : (E != 0) = true := by simpa using h9
    rw [if_neg h9] at HV
    have HE0 := Lib.hid h9
    clear h9
    go_wp2_with fail
    go_ret2
    exact ⟨[], ⟨none, 0, 0, by rw [HV.out]; rfl, OwnR.nil _ _ _, HG2.out⟩, fun h => absurd (HV.out.symm.trans h) HE0.out, fun _ => rfl, by simp⟩
end Go.Proofs.YtelpakmiciilgaaGreatDoor

/- Contracts of within, isTime and checkTimes of package dialplan. Conditions: none. -/
import Derived.Test.YtfakdalpaopjaaaGreatDoorBun5
import Derived.Deep.QuietTactic
import Derived.BigQuiet
import Derived.Outline
import Derived.IntWalk
namespace Go.Proofs.YtfakdalpaopjaaaGreatDoor
open Go.RowKit

theorem Tryz.hrT : StructT Tryz.prog 154 4 := ⟨_, Tryz.underlying154, rfl, by kernel_rfl⟩
theorem Tryz.rwT : StructT Tryz.prog 156 3 := ⟨_, Tryz.underlying156, rfl, by kernel_rfl⟩
theorem Tryz.hoT : StructT Tryz.prog 158 3 := ⟨_, Tryz.underlying158, rfl, by kernel_rfl⟩
section
variable {z : Int × Int × Int}
theorem hoB_1 (h : inB z.1 0 4000 = false) : hoB z = false := by unfold hoB; rw [h]; rfl
theorem hoB_z {dy : Int} (h : inB dy 0 4000 = true) : hoB (dy, 0, 0) = true := by unfold hoB; rw [h]; rfl
theorem hoB_t (h : inB z.1 0 4000 = true) (h2 : timB z.2.1 z.2.2 = true) : hoB z = true := by unfold hoB; rw [h, h2]; simp
theorem hoB_f (h : inB z.1 0 4000 = true) (h1 : ¬ (z.2.1 = 0 ∧ z.2.2 = 0)) (h2 : timB z.2.1 z.2.2 = false) : hoB z = false := by
  unfold hoB; rw [h, h2]; simp; exact fun e e2 => h1 ⟨e, e2⟩
end
set_option maxHeartbeats 1000000 in
theorem withinD_any (n lo hi : Int) (w : World) : Calls Tryz.prog 64 #[.int .i64 n, .int .i64 lo, .int .i64 hi] w (Same (.bool (inB n lo hi)) w) := by
  have H := Lib.hid (show inB n lo hi = (decide (lo ≤ n) && decide (n ≤ hi)) from rfl)
  by_cases h1 : lo ≤ n <;> by_cases h2 : n ≤ hi
  all_goals
    go_enter Tryz.func64, Tryz.ntmps64
    go_wp2
    go_ret
    exact ⟨by rw [H.out]; simp [h1, h2], rfl⟩
set_option maxHeartbeats 1000000 in
theorem isTime_any (a b : Int) (w : World) : Calls Tryz.prog 150 #[.int .i64 a, .int .i64 b] w (Same (.bool (timB a b)) w) := by
  have H := Lib.hid (show timB a b = (decide (0 ≤ a) && (decide (a < b) && decide (b ≤ 1440))) from rfl)
  by_cases h1 : 0 ≤ a <;> by_cases h2 : a < b <;> by_cases h3 : b ≤ 1440
  all_goals
    go_enter Tryz.func150, Tryz.ntmps150
    go_wp2
    go_ret
    exact ⟨by rw [H.out]; simp [h1, h2, h3], rfl⟩
set_option maxHeartbeats 8000000 in
theorem checkTimes_any (lo : Nat) (a : HrV) (w : World) (h : HrOk w lo a) :
    Calls Tryz.prog 129 #[.agg #[.string a.key, .int .i64 a.zone, .slice a.rA a.rn a.rc, .slice a.hA a.hn a.hc]] w (RetV (.int .i64 (hrE a)) w) := by
  obtain ⟨key, zone, rA, rn, rc, qA, qn, qc, rows, hol⟩ := a
  obtain ⟨⟨b1, b2, b3⟩, hr, hh⟩ := h
  have HV := Lib.hid (show hrE ⟨key, zone, rA, rn, rc, qA, qn, qc, rows, hol⟩ = if 50 < rn then 2 else (if fstE (rwAt rows) rn = 0 then (if 200 < qn then 2 else fstE (hoAt hol) qn) else fstE (rwAt rows) rn) from rfl)
  dsimp only at b1 b2 b3 hr hh ⊢
  obtain ⟨RES, hRES⟩ : ∃ R, hrE ⟨key, zone, rA, rn, rc, qA, qn, qc, rows, hol⟩ = R := ⟨_, rfl⟩
  rw [hRES] at HV ⊢
  clear hRES
  have HR := Lib.hid hr; have HH := Lib.hid hh
  clear hr hh b1
  by_cases c0 : 50 < rn
  · have d0 : decide ((50 : Int) < (rn : Int)) = true := decide_eq_true (by omega)
    rw [if_pos c0] at HV
    go_enter Tryz.func129, Tryz.ntmps129
    go_wp2_with fail
    go_ret
    exact ⟨by rw [HV.out]; try rfl, gr_alloc (gr_refl _ _) _⟩
  · have d0 : decide ((50 : Int) < (rn : Int)) = false := decide_eq_false (by omega)
    rw [if_neg c0] at HV
    go_enter Tryz.func129, Tryz.ntmps129
    go_wp2_with fail
    go_loopw [4, 14] (fun _ t wr => ∃ i : Nat, i ≤ rn ∧ t = .int .i64 i ∧ w.grownBy wr none ∧ Blk wr w.heap.size 154 #[.string key, .int .i64 zone, .slice rA rn rc, .slice qA qn qc] ∧ fstE (rwAt rows) i = 0) (fun _ t _ => rn - (intOf t).toNat)
    case atStart => exact ⟨0, Nat.zero_le _, rfl, gr_alloc (gr_refl _ _) _, Blk.new _ _ _, rfl⟩
    case round =>
      obtain ⟨i, hi, rfl, hg, hbl, ha⟩ := hrel
      have zr := hg.size
      have hbl1 := hbl.lt
      have HA := Lib.hid ha; have HG := Lib.hid hg; have HB := Lib.hid hbl; clear ha hg hbl
      by_cases hlt : i < rn
      · obtain ⟨g, o, ⟨dy, df, dt⟩, rfl, _, hgl, hz, hc⟩ := (HR.out.grown HG.out (fun g e => by cases e)).get r3Row_len hlt
        have HZ := Lib.hid hz; have HC := Lib.hid hc; clear hz hc
        obtain ⟨B1, h1⟩ : ∃ B, inB dy 1 127 = B := ⟨_, rfl⟩
        have N1 := Lib.hid h1; clear h1
        cases B1
        · have HFIN := Lib.hid (fst_ret (X := if 200 < qn then 2 else fstE (hoAt hol) qn) HA.out (rwAt_1 HZ.out (show (inB dy 1 127 && timB df dt) = false by rw [N1.out]; rfl)) (by decide) hlt)
          go_wp2_with (first
            | (refine wpl_load_at Tryz.rwT rfl _ rfl _ rfl [.int .i64 dy, .int .i64 df, .int .i64 dt] rfl (fun j u hu => by rw [add_mk]; exact HC.out j u hu) ?_)
            | fail)
          refine (withinD_any _ _ _ _).mono ?_; rintro e w' ⟨rfl, rfl⟩; rw [N1.out]
          go_wp2_with (first
            | fail)
          go_ret
          exact ⟨by rw [HV.out, HFIN.out]; try rfl, gr_alloc HG.out _⟩
        · obtain ⟨B2, h2⟩ : ∃ B, timB df dt = B := ⟨_, rfl⟩
          have N2 := Lib.hid h2; clear h2
          cases B2
          · have HFIN := Lib.hid (fst_ret (X := if 200 < qn then 2 else fstE (hoAt hol) qn) HA.out (rwAt_1 HZ.out (show (inB dy 1 127 && timB df dt) = false by rw [N1.out, N2.out]; rfl)) (by decide) hlt)
            go_wp2_with (first
              | (refine wpl_load_at Tryz.rwT rfl _ rfl _ rfl [.int .i64 dy, .int .i64 df, .int .i64 dt] rfl (fun j u hu => by rw [add_mk]; exact HC.out j u hu) ?_)
              | fail)
            refine (withinD_any _ _ _ _).mono ?_; rintro e w' ⟨rfl, rfl⟩; rw [N1.out]
            go_wp2_with (first
              | (go_at_call 150; refine (isTime_any _ _ _).mono ?_; rintro e w' ⟨rfl, rfl⟩; rw [N2.out])
              | fail)
            go_ret
            exact ⟨by rw [HV.out, HFIN.out]; try rfl, gr_alloc HG.out _⟩
          · have HE := Lib.hid (rwAt_0 HZ.out (show (inB dy 1 127 && timB df dt) = true by rw [N1.out, N2.out]; rfl))
            go_wp2_with (first
              | (refine wpl_load_at Tryz.rwT rfl _ rfl _ rfl [.int .i64 dy, .int .i64 df, .int .i64 dt] rfl (fun j u hu => by rw [add_mk]; exact HC.out j u hu) ?_)
              | fail)
            refine (withinD_any _ _ _ _).mono ?_; rintro e w' ⟨rfl, rfl⟩; rw [N1.out]
            go_wp2_with (first
              | (go_at_call 150; refine (isTime_any _ _ _).mono ?_; rintro e w' ⟨rfl, rfl⟩; rw [N2.out])
              | fail)
            go_roundw
            case rel => exact ⟨i + 1, by omega, by go_num, gr_alloc HG.out _, HB.out.alloc _, fstE_zero HA.out HE.out⟩
            case measure => simp [intOf]; omega
      · obtain rfl : rn = i := by omega
        obtain ⟨wo, rfl⟩ : ∃ wo : World, wo = wr := ⟨_, rfl⟩
        rw [if_pos HA.out] at HV
        have ka3 := HB.out.cell 3
        have HG0 := HG; have HB0 := HB
        clear HA HG HB
        by_cases c1 : 200 < qn
        · have d1 : decide ((200 : Int) < (qn : Int)) = true := decide_eq_true (by omega)
          rw [if_pos c1] at HV
          go_wp2_with fail
          go_ret
          exact ⟨by rw [HV.out]; try rfl, HG0.out⟩
        · have d1 : decide ((200 : Int) < (qn : Int)) = false := decide_eq_false (by omega)
          rw [if_neg c1] at HV
          go_wp2_with fail
          clear ka3
          go_loopw [5, 6, 38] (fun _ _ t wr => ∃ i : Nat, i ≤ qn ∧ t = .int .i64 i ∧ w.grownBy wr none ∧ Blk wr w.heap.size 154 #[.string key, .int .i64 zone, .slice rA rn rc, .slice qA qn qc] ∧ fstE (hoAt hol) i = 0) (fun _ _ t _ => qn - (intOf t).toNat)
          case atStart => exact ⟨0, Nat.zero_le _, rfl, HG0.out, HB0.out, rfl⟩
          case round =>
            clear HG0 HB0
            obtain ⟨i, hi, rfl, hg, hbl, ha⟩ := hrel
            have zr := hg.size
            have hbl1 := hbl.lt
            have HA := Lib.hid ha; have HG := Lib.hid hg; have HB := Lib.hid hbl; clear ha hg hbl
            by_cases hlt : i < qn
            · obtain ⟨g, o, ⟨dy, df, dt⟩, rfl, _, hgl, hz, hc⟩ := (HH.out.grown HG.out (fun g e => by cases e)).get r3Row_len hlt
              have HZ := Lib.hid hz; have HC := Lib.hid hc; clear hz hc
              obtain ⟨B1, h1⟩ : ∃ B, inB dy 0 4000 = B := ⟨_, rfl⟩
              have N1 := Lib.hid h1; clear h1
              cases B1
              · have HE := Lib.hid (hoAt_1 HZ.out (hoB_1 (z := (dy, df, dt)) N1.out))
                have HFIN := Lib.hid (show fstE (hoAt hol) qn = 1 by rw [fstE_stop HA.out (by rw [HE.out]; decide) hlt, HE.out])
                go_wp2_with (first
                  | (refine wpl_load_at Tryz.hoT rfl _ rfl _ rfl [.int .i64 dy, .int .i64 df, .int .i64 dt] rfl (fun j u hu => by rw [add_mk]; exact HC.out j u hu) ?_)
                  | fail)
                refine (withinD_any _ _ _ _).mono ?_; rintro e w' ⟨rfl, rfl⟩; rw [N1.out]
                go_wp2_with (first
                  | fail)
                go_ret
                exact ⟨by rw [HV.out, HFIN.out]; try rfl, gr_alloc HG.out _⟩
              · by_cases hz0 : df = 0 ∧ dt = 0
                · obtain ⟨rfl, rfl⟩ := hz0
                  have HOB := Lib.hid (hoB_z (dy := dy) N1.out)
                  by_cases h0 : 0 < i
                  · obtain ⟨⟨pd, pf, pt⟩, hb⟩ : ∃ b, hol[i - 1]? = some b := ⟨_, List.getElem?_eq_getElem (by rw [HH.out.len]; omega)⟩
                    have kb := (HH.out.grown (gr_alloc HG.out (.cells #[.int .i64 dy, .int .i64 0, .int .i64 0] 158)) (fun g e => by cases e)).at_ r3Row_len hb 0 _ rfl
                    simp only [Nat.add_zero] at kb
                    have ka := (HB.out.alloc (.cells #[.int .i64 dy, .int .i64 0, .int .i64 0] 158)).cell 3
                    have HB1 := Lib.hid hb; clear hb
                    have hi0 : decide ((0 : Int) < (i : Int)) = true := by simpa using h0
                    by_cases h7 : dy ≤ pd
                    · have h7' : decide (dy ≤ pd) = true := decide_eq_true h7
                      have HE := Lib.hid (hoAt_7 HZ.out HOB.out h0 HB1.out h7)
                      have HFIN := Lib.hid (show fstE (hoAt hol) qn = 7 by rw [fstE_stop HA.out (by rw [HE.out]; decide) hlt, HE.out])
                      clear h7
                      have s2 : (0 : Int) ≤ (i : Int) - 1 := by omega
                      have s5 : (1 : Int) ≤ (i : Int) := by omega
                      have s3 : (i : Int) - 1 < (qn : Int) := by omega
                      have s6 : (0 : Int) < (qn : Int) := by omega
                      have s1 : IntKind.i64.wrap ((i : Int) - 1) = (i : Int) - 1 := IntWalk.i64_in _ (by omega)
                      have s4 : ((i : Int) - 1).toNat = i - 1 := by omega
                      go_wp2_with (first
                        | (refine wpl_load_at Tryz.hoT rfl _ rfl _ rfl [.int .i64 dy, .int .i64 0, .int .i64 0] rfl (fun j u hu => by rw [add_mk]; exact HC.out j u hu) ?_)
                        | fail)
                      refine (withinD_any _ _ _ _).mono ?_; rintro e w' ⟨rfl, rfl⟩; rw [N1.out]
                      go_wp2_with (first
                            | fail)
                      go_quiet (fail)
                      go_wp2_with fail
                      go_ret
                      exact ⟨by rw [HV.out, HFIN.out]; try rfl, gr_drewN (gr_alloc HG.out _) _⟩
                    · have h7' : decide (dy ≤ pd) = false := decide_eq_false h7
                      have HE := Lib.hid (hoAt_e HZ.out HOB.out HB1.out h7)
                      have s2 : (0 : Int) ≤ (i : Int) - 1 := by omega
                      have s5 : (1 : Int) ≤ (i : Int) := by omega
                      have s3 : (i : Int) - 1 < (qn : Int) := by omega
                      have s6 : (0 : Int) < (qn : Int) := by omega
                      have s1 : IntKind.i64.wrap ((i : Int) - 1) = (i : Int) - 1 := IntWalk.i64_in _ (by omega)
                      have s4 : ((i : Int) - 1).toNat = i - 1 := by omega
                      go_wp2_with (first
                        | (refine wpl_load_at Tryz.hoT rfl _ rfl _ rfl [.int .i64 dy, .int .i64 0, .int .i64 0] rfl (fun j u hu => by rw [add_mk]; exact HC.out j u hu) ?_)
                        | fail)
                      refine (withinD_any _ _ _ _).mono ?_; rintro e w' ⟨rfl, rfl⟩; rw [N1.out]
                      go_wp2_with (first
                            | fail)
                      go_quiet (fail)
                      go_wp2_with fail
                      clear s1 s4
                      go_roundw
                      case rel => exact ⟨i + 1, by omega, by go_num, gr_drewN (gr_alloc HG.out _) _, (HB.out.alloc _).drewN _, fstE_zero HA.out HE.out⟩
                      case measure => simp [intOf]; omega
                  · have HE := Lib.hid (hoAt_z HZ.out HOB.out h0)
                    have hi0 : decide ((0 : Int) < (i : Int)) = false := decide_eq_false (by omega)
                    go_wp2_with (first
                      | (refine wpl_load_at Tryz.hoT rfl _ rfl _ rfl [.int .i64 dy, .int .i64 0, .int .i64 0] rfl (fun j u hu => by rw [add_mk]; exact HC.out j u hu) ?_)
                      | fail)
                    refine (withinD_any _ _ _ _).mono ?_; rintro e w' ⟨rfl, rfl⟩; rw [N1.out]
                    go_wp2_with (first
                        | fail)
                    go_quiet (fail)
                    go_wp2_with fail
                    go_roundw
                    case rel => exact ⟨i + 1, by omega, by go_num, gr_drewN (gr_alloc HG.out _) _, (HB.out.alloc _).drewN _, fstE_zero HA.out HE.out⟩
                    case measure => simp [intOf]; omega
                · have HNZ := Lib.hid hz0
                  have hnz : (df != 0) = true ∨ ((df != 0) = false ∧ (dt != 0) = true) := by
                    by_cases e : df = 0
                    · exact .inr ⟨by simp [e], by simp; omega⟩
                    · exact .inl (by simp [e])
                  clear hz0
                  rcases hnz with n1 | ⟨n1, n2⟩
                  all_goals
                    obtain ⟨B2, h2⟩ : ∃ B, timB df dt = B := ⟨_, rfl⟩
                    have N2 := Lib.hid h2; clear h2
                    cases B2
                    · have HE := Lib.hid (hoAt_1 HZ.out (hoB_f (z := (dy, df, dt)) N1.out HNZ.out N2.out))
                      have HFIN := Lib.hid (show fstE (hoAt hol) qn = 1 by rw [fstE_stop HA.out (by rw [HE.out]; decide) hlt, HE.out])
                      go_wp2_with (first
                        | (refine wpl_load_at Tryz.hoT rfl _ rfl _ rfl [.int .i64 dy, .int .i64 df, .int .i64 dt] rfl (fun j u hu => by rw [add_mk]; exact HC.out j u hu) ?_)
                        | fail)
                      refine (withinD_any _ _ _ _).mono ?_; rintro e w' ⟨rfl, rfl⟩; rw [N1.out]
                      go_wp2_with (first
                        | (go_at_call 150; refine (isTime_any _ _ _).mono ?_; rintro e w' ⟨rfl, rfl⟩; rw [N2.out])
                        | fail)
                      go_ret
                      exact ⟨by rw [HV.out, HFIN.out]; try rfl, gr_alloc HG.out _⟩
                    · have HOB := Lib.hid (hoB_t (z := (dy, df, dt)) N1.out N2.out)
                      by_cases h0 : 0 < i
                      · obtain ⟨⟨pd, pf, pt⟩, hb⟩ : ∃ b, hol[i - 1]? = some b := ⟨_, List.getElem?_eq_getElem (by rw [HH.out.len]; omega)⟩
                        have kb := (HH.out.grown (gr_alloc HG.out (.cells #[.int .i64 dy, .int .i64 df, .int .i64 dt] 158)) (fun g e => by cases e)).at_ r3Row_len hb 0 _ rfl
                        simp only [Nat.add_zero] at kb
                        have ka := (HB.out.alloc (.cells #[.int .i64 dy, .int .i64 df, .int .i64 dt] 158)).cell 3
                        have HB1 := Lib.hid hb; clear hb
                        have hi0 : decide ((0 : Int) < (i : Int)) = true := by simpa using h0
                        by_cases h7 : dy ≤ pd
                        · have h7' : decide (dy ≤ pd) = true := decide_eq_true h7
                          have HE := Lib.hid (hoAt_7 HZ.out HOB.out h0 HB1.out h7)
                          have HFIN := Lib.hid (show fstE (hoAt hol) qn = 7 by rw [fstE_stop HA.out (by rw [HE.out]; decide) hlt, HE.out])
                          clear h7
                          have s2 : (0 : Int) ≤ (i : Int) - 1 := by omega
                          have s5 : (1 : Int) ≤ (i : Int) := by omega
                          have s3 : (i : Int) - 1 < (qn : Int) := by omega
                          have s6 : (0 : Int) < (qn : Int) := by omega
                          have s1 : IntKind.i64.wrap ((i : Int) - 1) = (i : Int) - 1 := IntWalk.i64_in _ (by omega)
                          have s4 : ((i : Int) - 1).toNat = i - 1 := by omega
                          go_wp2_with (first
                            | (refine wpl_load_at Tryz.hoT rfl _ rfl _ rfl [.int .i64 dy, .int .i64 df, .int .i64 dt] rfl (fun j u hu => by rw [add_mk]; exact HC.out j u hu) ?_)
                            | fail)
                          refine (withinD_any _ _ _ _).mono ?_; rintro e w' ⟨rfl, rfl⟩; rw [N1.out]
                          go_wp2_with (first
                            | (go_at_call 150; refine (isTime_any _ _ _).mono ?_; rintro e w' ⟨rfl, rfl⟩; rw [N2.out])
                            | fail)
                          go_quiet (fail)
                          go_wp2_with fail
                          go_ret
                          exact ⟨by rw [HV.out, HFIN.out]; try rfl, gr_drewN (gr_alloc HG.out _) _⟩
                        · have h7' : decide (dy ≤ pd) = false := decide_eq_false h7
                          have HE := Lib.hid (hoAt_e HZ.out HOB.out HB1.out h7)
                          have s2 : (0 : Int) ≤ (i : Int) - 1 := by omega
                          have s5 : (1 : Int) ≤ (i : Int) := by omega
                          have s3 : (i : Int) - 1 < (qn : Int) := by omega
                          have s6 : (0 : Int) < (qn : Int) := by omega
                          have s1 : IntKind.i64.wrap ((i : Int) - 1) = (i : Int) - 1 := IntWalk.i64_in _ (by omega)
                          have s4 : ((i : Int) - 1).toNat = i - 1 := by omega
                          go_wp2_with (first
                            | (refine wpl_load_at Tryz.hoT rfl _ rfl _ rfl [.int .i64 dy, .int .i64 df, .int .i64 dt] rfl (fun j u hu => by rw [add_mk]; exact HC.out j u hu) ?_)
                            | fail)
                          refine (withinD_any _ _ _ _).mono ?_; rintro e w' ⟨rfl, rfl⟩; rw [N1.out]
                          go_wp2_with (first
                            | (go_at_call 150; refine (isTime_any _ _ _).mono ?_; rintro e w' ⟨rfl, rfl⟩; rw [N2.out])
                            | fail)
                          go_quiet (fail)
                          go_wp2_with fail
                          clear s1 s4
                          go_roundw
                          case rel => exact ⟨i + 1, by omega, by go_num, gr_drewN (gr_alloc HG.out _) _, (HB.out.alloc _).drewN _, fstE_zero HA.out HE.out⟩
                          case measure => simp [intOf]; omega
                      · have HE := Lib.hid (hoAt_z HZ.out HOB.out h0)
                        have hi0 : decide ((0 : Int) < (i : Int)) = false := decide_eq_false (by omega)
                        go_wp2_with (first
                          | (refine wpl_load_at Tryz.hoT rfl _ rfl _ rfl [.int .i64 dy, .int .i64 df, .int .i64 dt] rfl (fun j u hu => by rw [add_mk]; exact HC.out j u hu) ?_)
                          | fail)
                        refine (withinD_any _ _ _ _).mono ?_; rintro e w' ⟨rfl, rfl⟩; rw [N1.out]
                        go_wp2_with (first
                          | (go_at_call 150; refine (isTime_any _ _ _).mono ?_; rintro e w' ⟨rfl, rfl⟩; rw [N2.out])
                          | fail)
                        go_quiet (fail)
                        go_wp2_with fail
                        go_roundw
                        case rel => exact ⟨i + 1, by omega, by go_num, gr_drewN (gr_alloc HG.out _) _, (HB.out.alloc _).drewN _, fstE_zero HA.out HE.out⟩
                        case measure => simp [intOf]; omega
            · obtain rfl : qn = i := by omega
              go_wp2_with fail
              go_ret
              exact ⟨by rw [HV.out, HA.out]; try rfl, HG.out⟩
end Go.Proofs.YtfakdalpaopjaaaGreatDoor

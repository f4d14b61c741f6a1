/- Contract of voice.CheckBeacons. Conditions: the beacons' notes are of small bytes; the tables of unicode/utf8 and bytealg.MaxLen as laid. -/
import Derived.Test.YtgogiljplnninaaGreatDoorBc1
import Derived.Test.YtgogiljplnninaaGreatDoorKeyOk
namespace Go.Proofs.YtgogiljplnninaaGreatDoor
open Go.RowKit

theorem withinV_any (n lo hi : Int) (w : World) : Calls Tryz.prog 108 #[.int .i64 n, .int .i64 lo, .int .i64 hi] w (Same (.bool (inB n lo hi)) w) := by
  have hfin : inB n lo hi = (decide (lo ≤ n) && decide (n ≤ hi)) := rfl
  have H := Lib.hid hfin; clear hfin
  by_cases h1 : lo ≤ n <;> by_cases h2 : n ≤ hi
  all_goals
    go_enter Tryz.func108, Tryz.ntmps108
    go_wp2
    go_ret
    exact ⟨by rw [H.out]; simp [h1, h2], rfl⟩
set_option maxHeartbeats 8000000 in
set_option maxRecDepth 100000 in
theorem checkBeacons_any (lo : Nat) (A : Option Addr) (n c : Nat) (l : List BcV) (w : World) (h : Bcs w lo A n c l) (hn : n ≤ 1000000000) (hu : U8T w) (hm : MxT w) :
    Calls Tryz.prog 36 #[.slice A n c] w (RetV (.int .i64 (bcsE l)) w) := by
  have H := Lib.hid h; have HU := Lib.hid hu; have HMX := Lib.hid hm; clear h hu hm
  by_cases hb : 1000 < n
  · have HF := Lib.hid (show bcsE l = 2 by unfold bcsE; rw [if_pos (by rw [H.out.1.len]; exact hb)])
    have hb' : decide ((1000 : Int) < (n : Int)) = true := decide_eq_true (by omega)
    go_enter Tryz.func36, Tryz.ntmps36
    go_wp2_with fail
    go_ret
    exact ⟨by rw [HF.out]; rfl, gr_refl _ _⟩
  · have hb' : decide ((1000 : Int) < (n : Int)) = false := decide_eq_false (by omega)
    have HF := Lib.hid (show bcsE l = fstE (bcAt l) n by unfold bcsE; rw [if_neg (by rw [H.out.1.len]; exact hb), H.out.1.len])
    go_enter Tryz.func36, Tryz.ntmps36
    go_wp2_with fail
    go_loopw [3, 4, 10] (fun _ _ t wr => ∃ k : Nat, k ≤ n ∧ t = .int .i64 k ∧ w.grownBy wr none ∧ fstE (bcAt l) k = 0) (fun _ _ t _ => n - (intOf t).toNat)
    case atStart => exact ⟨0, Nat.zero_le _, rfl, gr_refl _ _, rfl⟩
    case round =>
      obtain ⟨k, hk, rfl, hg, ha⟩ := hrel
      have HA := Lib.hid ha; have HG := Lib.hid hg; clear ha hg
      by_cases hlt : k < n
      · obtain ⟨g, o, ⟨psn, dev, st, at_, un, note⟩, rfl, _, hgl, hz, hc⟩ := (H.out.1.grown HG.out (fun g e => by cases e)).get BcV.row_len hlt
        obtain ⟨⟨p1, p2, p3⟩, ⟨p4, p5⟩, p6⟩ := H.out.2 _ (mem_of_get hz)
        dsimp only at p1 p2 p3 p4 p5 p6
        have HAS := Lib.hid p6
        have HZ := Lib.hid hz; have HC := Lib.hid hc; clear hz hc p6
        obtain ⟨w1, hw1⟩ : ∃ v, wr.alloc (.cells #[.string psn, .string dev, .int .i64 st, .int .i64 at_, .int .i64 un, .string note] 62) = v := ⟨_, rfl⟩
        obtain ⟨zb, hzb⟩ : ∃ b, wr.heap.size = b := ⟨_, rfl⟩
        have HB := Lib.hid (show Blk w1 zb 62 #[.string psn, .string dev, .int .i64 st, .int .i64 at_, .int .i64 un, .string note] by rw [← hw1, ← hzb]; exact Blk.new _ _ _)
        replace HG := Lib.hid (show w.grownBy w1 none by rw [← hw1]; exact gr_alloc HG.out _)
        have HW1 := Lib.hid hw1; have HZB := Lib.hid hzb
        clear hw1 hzb
        go_upto_region 6 with (first
          | (refine wpl_load_at Tryz.bcT rfl _ rfl _ rfl [.string psn, .string dev, .int .i64 st, .int .i64 at_, .int .i64 un, .string note] rfl (fun j u hu => by rw [add_mk]; exact HC.out j u hu) ?_)
          | fail)
        rw [HW1.out]
        (try rw [HZB.out])
        clear HW1 HZB HC
        have k0 := HB.out.cell 0; have k1 := HB.out.cell 1; have k2 := HB.out.cell 2; have k3 := HB.out.cell 3; have k4 := HB.out.cell 4; have k5 := HB.out.cell 5
        obtain ⟨VS, hST⟩ : ∃ V, inB st 0 4 = V := ⟨_, rfl⟩
        obtain ⟨VM, hM⟩ : ∃ V, momB at_ = V := ⟨_, rfl⟩
        obtain ⟨VU, hUN⟩ : ∃ V, inB un at_ 345686400000 = V := ⟨_, rfl⟩
        have HM := Lib.hid hM; have HST := Lib.hid hST; have HUN := Lib.hid hUN
        clear hM hST hUN
        go_wp2_with fail
        refine (isKey_any psn _ (by omega)).mono ?_
        rintro e w2 ⟨rfl, hg2⟩
        have hsB := HB.out.grown hg2 (by simp)
        replace HG := Lib.hid (gr_none HG.out hg2)
        clear k0 k1 k2 k3 k4 k5
        have k0 := hsB.cell 0; have k1 := hsB.cell 1; have k2 := hsB.cell 2; have k3 := hsB.cell 3; have k4 := hsB.cell 4; have k5 := hsB.cell 5
        replace HB := Lib.hid hsB
        clear hg2 hsB
        obtain ⟨K1, hK1⟩ : ∃ V, keyOk (nb psn) = V := ⟨_, rfl⟩
        have HK1 := Lib.hid hK1
        rw [hK1]
        clear hK1
        cases K1
        · have hf := bcF_5 (z := ⟨psn, dev, st, at_, un, note⟩) (by show (keyOk (nb psn) && _) = false; rw [HK1.out]; rfl)
          have e := bcAt_f HZ.out (show bcF ⟨psn, dev, st, at_, un, note⟩ ≠ 0 by rw [hf]; decide)
          rw [hf] at e
          have HFIN := Lib.hid (show bcsE l = 5 by rw [HF.out, fstE_stop HA.out (by rw [e]; decide) hlt, e])
          clear e
          go_wp2_with (first
            | (go_at_call 63; refine (isMomB_any _ _).mono ?_; rintro e w1 ⟨rfl, rfl⟩; rw [HM.out])
            | (go_at_call 108; refine (withinV_any _ _ _ _).mono ?_; rintro e w1 ⟨rfl, rfl⟩; (first | rw [HST.out] | rw [HUN.out] | fail))
            | fail)
          go_ret
          exact ⟨by rw [HFIN.out]; rfl, HG.out⟩
        · go_wp2_with fail
          refine (isKey_any dev _ (by omega)).mono ?_
          rintro e w3 ⟨rfl, hg3⟩
          have hsB := HB.out.grown hg3 (by simp)
          replace HG := Lib.hid (gr_none HG.out hg3)
          clear k0 k1 k2 k3 k4 k5
          have k0 := hsB.cell 0; have k1 := hsB.cell 1; have k2 := hsB.cell 2; have k3 := hsB.cell 3; have k4 := hsB.cell 4; have k5 := hsB.cell 5
          replace HB := Lib.hid hsB
          clear hg3 hsB
          obtain ⟨K2, hK2⟩ : ∃ V, keyOk (nb dev) = V := ⟨_, rfl⟩
          have HK2 := Lib.hid hK2
          rw [hK2]
          clear hK2
          cases K2
          · have hf := bcF_5 (z := ⟨psn, dev, st, at_, un, note⟩) (by show (keyOk (nb psn) && keyOk (nb dev)) = false; rw [HK1.out, HK2.out]; rfl)
            have e := bcAt_f HZ.out (show bcF ⟨psn, dev, st, at_, un, note⟩ ≠ 0 by rw [hf]; decide)
            rw [hf] at e
            have HFIN := Lib.hid (show bcsE l = 5 by rw [HF.out, fstE_stop HA.out (by rw [e]; decide) hlt, e])
            clear e
            go_wp2_with (first
              | (go_at_call 63; refine (isMomB_any _ _).mono ?_; rintro e w1 ⟨rfl, rfl⟩; rw [HM.out])
              | (go_at_call 108; refine (withinV_any _ _ _ _).mono ?_; rintro e w1 ⟨rfl, rfl⟩; (first | rw [HST.out] | rw [HUN.out] | fail))
              | fail)
            go_ret
            exact ⟨by rw [HFIN.out]; rfl, HG.out⟩
          · have HKK := Lib.hid (show (keyOk (nb (BcV.psn ⟨psn, dev, st, at_, un, note⟩)) && keyOk (nb (BcV.dev ⟨psn, dev, st, at_, un, note⟩))) = true by show (keyOk (nb psn) && keyOk (nb dev)) = true; rw [HK1.out, HK2.out]; rfl)
            cases VS
            · have hf := bcF_4 (z := ⟨psn, dev, st, at_, un, note⟩) HKK.out HST.out
              have e := bcAt_f HZ.out (show bcF ⟨psn, dev, st, at_, un, note⟩ ≠ 0 by rw [hf]; decide)
              rw [hf] at e
              have HFIN := Lib.hid (show bcsE l = 4 by rw [HF.out, fstE_stop HA.out (by rw [e]; decide) hlt, e])
              clear e
              go_wp2_with (first
                | (go_at_call 63; refine (isMomB_any _ _).mono ?_; rintro e w1 ⟨rfl, rfl⟩; rw [HM.out])
                | (go_at_call 108; refine (withinV_any _ _ _ _).mono ?_; rintro e w1 ⟨rfl, rfl⟩; (first | rw [HST.out] | rw [HUN.out] | fail))
                | fail)
              go_ret
              exact ⟨by rw [HFIN.out]; rfl, HG.out⟩
            · cases VM
              · have hf := bcF_1 (z := ⟨psn, dev, st, at_, un, note⟩) HKK.out HST.out (by show (momB at_ && _) = false; rw [HM.out]; rfl)
                have e := bcAt_f HZ.out (show bcF ⟨psn, dev, st, at_, un, note⟩ ≠ 0 by rw [hf]; decide)
                rw [hf] at e
                have HFIN := Lib.hid (show bcsE l = 1 by rw [HF.out, fstE_stop HA.out (by rw [e]; decide) hlt, e])
                clear e
                go_wp2_with (first
                  | (go_at_call 63; refine (isMomB_any _ _).mono ?_; rintro e w1 ⟨rfl, rfl⟩; rw [HM.out])
                  | (go_at_call 108; refine (withinV_any _ _ _ _).mono ?_; rintro e w1 ⟨rfl, rfl⟩; (first | rw [HST.out] | rw [HUN.out] | fail))
                  | fail)
                go_ret
                exact ⟨by rw [HFIN.out]; rfl, HG.out⟩
              · cases VU
                · have hf := bcF_1 (z := ⟨psn, dev, st, at_, un, note⟩) HKK.out HST.out (by show (momB at_ && inB un at_ 345686400000) = false; rw [HM.out, HUN.out]; rfl)
                  have e := bcAt_f HZ.out (show bcF ⟨psn, dev, st, at_, un, note⟩ ≠ 0 by rw [hf]; decide)
                  rw [hf] at e
                  have HFIN := Lib.hid (show bcsE l = 1 by rw [HF.out, fstE_stop HA.out (by rw [e]; decide) hlt, e])
                  clear e
                  go_wp2_with (first
                    | (go_at_call 63; refine (isMomB_any _ _).mono ?_; rintro e w1 ⟨rfl, rfl⟩; rw [HM.out])
                    | (go_at_call 108; refine (withinV_any _ _ _ _).mono ?_; rintro e w1 ⟨rfl, rfl⟩; (first | rw [HST.out] | rw [HUN.out] | fail))
                    | fail)
                  go_ret
                  exact ⟨by rw [HFIN.out]; rfl, HG.out⟩
                · have HMU := Lib.hid (show (momB (BcV.at_ ⟨psn, dev, st, at_, un, note⟩) && inB (BcV.un ⟨psn, dev, st, at_, un, note⟩) (BcV.at_ ⟨psn, dev, st, at_, un, note⟩) 345686400000) = true by show (momB at_ && inB un at_ 345686400000) = true; rw [HM.out, HUN.out]; rfl)
                  go_wp2_with (first
                    | (go_at_call 63; refine (isMomB_any _ _).mono ?_; rintro e w1 ⟨rfl, rfl⟩; rw [HM.out])
                    | (go_at_call 108; refine (withinV_any _ _ _ _).mono ?_; rintro e w1 ⟨rfl, rfl⟩; (first | rw [HST.out] | rw [HUN.out] | fail))
                    | fail)
                  refine (isPlain_any note _ (by omega) HAS.out (HU.out.grown HG.out) (HMX.out.grown HG.out)).mono ?_
                  rintro e w4 ⟨rfl, hg4⟩
                  have hsB := HB.out.grown hg4 (by simp)
                  replace HG := Lib.hid (gr_none HG.out hg4)
                  clear k0 k1 k2 k3 k4 k5
                  have k0 := hsB.cell 0; have k1 := hsB.cell 1; have k2 := hsB.cell 2; have k3 := hsB.cell 3; have k4 := hsB.cell 4; have k5 := hsB.cell 5
                  replace HB := Lib.hid hsB
                  clear hg4 hsB
                  obtain ⟨PB, hPB⟩ : ∃ V, plB note = V := ⟨_, rfl⟩
                  have HPB := Lib.hid hPB
                  rw [hPB]
                  clear hPB
                  cases PB
                  · have hf := bcF_3 (z := ⟨psn, dev, st, at_, un, note⟩) HKK.out HST.out HMU.out (by show (plB note && _) = false; rw [HPB.out]; rfl)
                    have e := bcAt_f HZ.out (show bcF ⟨psn, dev, st, at_, un, note⟩ ≠ 0 by rw [hf]; decide)
                    rw [hf] at e
                    have HFIN := Lib.hid (show bcsE l = 3 by rw [HF.out, fstE_stop HA.out (by rw [e]; decide) hlt, e])
                    clear e
                    go_wp2_with (first
                      | (go_at_call 63; refine (isMomB_any _ _).mono ?_; rintro e w1 ⟨rfl, rfl⟩; rw [HM.out])
                      | (go_at_call 108; refine (withinV_any _ _ _ _).mono ?_; rintro e w1 ⟨rfl, rfl⟩; (first | rw [HST.out] | rw [HUN.out] | fail))
                      | fail)
                    go_ret
                    exact ⟨by rw [HFIN.out]; rfl, HG.out⟩
                  · by_cases h100 : note.size ≤ 100
                    · have hfz := bcF_0 (z := ⟨psn, dev, st, at_, un, note⟩) HKK.out HST.out HMU.out (by show (plB note && decide (note.size ≤ 100)) = true; rw [HPB.out, decide_eq_true h100]; rfl)
                      have e1 : decide ((100 : Int) < (note.size : Int)) = false := decide_eq_false (by omega)
                      have e1' : decide (100 < note.size) = false := decide_eq_false (by omega)
                      go_wp2_with fail
                      clear e1 e1' h100
                      have HFZ := Lib.hid hfz
                      clear hfz
                      rcases Nat.eq_zero_or_pos k with h0 | h0
                      · have HE := Lib.hid (bcAt_z HZ.out HFZ.out (by omega))
                        have hi0 : decide ((0 : Int) < (k : Int)) = false := decide_eq_false (by omega)
                        refine H_begin (fun w' => w4.grownBy w' none) (by kernel_rfl) ?_
                        have hHeld : w4.grownBy w4.drew none := gr_drew (gr_refl _ _)
                        refine H_take (k := 0) (v := ?_) (by rfl) (by kernel_rfl) (by kernel_rfl) (by kernel_rfl) (by exact fun _ _ _ h => h) (by rfl) ?_ (by assumption) ?_
                        rotate_left 1
                        · intro w hSw
                          (try dsimp only at hSw)
                          go_simp
                          (try with_reducible rfl)
                        (try simp only [Act.put, List.setIfInBounds_toArray, List.set_cons_zero, List.set_cons_succ])
                        refine H_take (k := 1) (v := ?_) (by rfl) (by kernel_rfl) (by kernel_rfl) (by kernel_rfl) (by exact fun _ _ _ h => h) (by rfl) ?_ (by assumption) ?_
                        rotate_left 1
                        · intro w hSw
                          (try dsimp only at hSw)
                          go_simp
                          (try with_reducible rfl)
                        (try simp only [Act.put, List.setIfInBounds_toArray, List.set_cons_zero, List.set_cons_succ])
                        refine H_take (k := 2) (v := ?_) (by rfl) (by kernel_rfl) (by kernel_rfl) (by kernel_rfl) (by exact fun _ _ _ h => h) (by rfl) ?_ (by assumption) ?_
                        rotate_left 1
                        · intro w hSw
                          (try dsimp only at hSw)
                          go_simp
                          (try with_reducible rfl)
                        (try simp only [Act.put, List.setIfInBounds_toArray, List.set_cons_zero, List.set_cons_succ])
                        refine H_skip (k := 3) (by rfl) (by kernel_rfl) (by kernel_rfl) (by kernel_rfl) (by exact fun _ _ _ h => h) (by rfl) (by assumption) ?_
                        (try simp only [Act.put, List.setIfInBounds_toArray, List.set_cons_zero, List.set_cons_succ])
                        refine H_skip (k := 4) (by rfl) (by kernel_rfl) (by kernel_rfl) (by kernel_rfl) (by exact fun _ _ _ h => h) (by rfl) (by assumption) ?_
                        (try simp only [Act.put, List.setIfInBounds_toArray, List.set_cons_zero, List.set_cons_succ])
                        refine H_skip (k := 5) (by rfl) (by kernel_rfl) (by kernel_rfl) (by kernel_rfl) (by exact fun _ _ _ h => h) (by rfl) (by assumption) ?_
                        (try simp only [Act.put, List.setIfInBounds_toArray, List.set_cons_zero, List.set_cons_succ])
                        refine H_skip (k := 6) (by rfl) (by kernel_rfl) (by kernel_rfl) (by kernel_rfl) (by exact fun _ _ _ h => h) (by rfl) (by assumption) ?_
                        (try simp only [Act.put, List.setIfInBounds_toArray, List.set_cons_zero, List.set_cons_succ])
                        refine H_skip (k := 7) (by rfl) (by kernel_rfl) (by kernel_rfl) (by kernel_rfl) (by exact fun _ _ _ h => h) (by rfl) (by assumption) ?_
                        (try simp only [Act.put, List.setIfInBounds_toArray, List.set_cons_zero, List.set_cons_succ])
                        refine H_skip (k := 8) (by rfl) (by kernel_rfl) (by kernel_rfl) (by kernel_rfl) (by exact fun _ _ _ h => h) (by rfl) (by assumption) ?_
                        (try simp only [Act.put, List.setIfInBounds_toArray, List.set_cons_zero, List.set_cons_succ])
                        refine H_skip (k := 9) (by rfl) (by kernel_rfl) (by kernel_rfl) (by kernel_rfl) (by exact fun _ _ _ h => h) (by rfl) (by assumption) ?_
                        (try simp only [Act.put, List.setIfInBounds_toArray, List.set_cons_zero, List.set_cons_succ])
                        refine H_skip (k := 10) (by rfl) (by kernel_rfl) (by kernel_rfl) (by kernel_rfl) (by exact fun _ _ _ h => h) (by rfl) (by assumption) ?_
                        (try simp only [Act.put, List.setIfInBounds_toArray, List.set_cons_zero, List.set_cons_succ])
                        refine H_take (k := 11) (v := ?_) (by rfl) (by kernel_rfl) (by kernel_rfl) (by kernel_rfl) (by exact fun _ _ _ h => h) (by rfl) ?_ (by assumption) ?_
                        rotate_left 1
                        · intro w hSw
                          (try dsimp only at hSw)
                          go_simp
                          (try with_reducible rfl)
                        (try simp only [Act.put, List.setIfInBounds_toArray, List.set_cons_zero, List.set_cons_succ])
                        refine H_take (k := 12) (v := ?_) (by rfl) (by kernel_rfl) (by kernel_rfl) (by kernel_rfl) (by exact fun _ _ _ h => h) (by rfl) ?_ (by assumption) ?_
                        rotate_left 1
                        · intro w hSw
                          (try dsimp only at hSw)
                          go_simp
                          (try with_reducible rfl)
                        (try simp only [Act.put, List.setIfInBounds_toArray, List.set_cons_zero, List.set_cons_succ])
                        refine H_done (by kernel_rfl) ?_
                        replace HG := Lib.hid (gr_none HG.out hHeld)
                        clear hHeld k0 k1 k2 k3 k4 k5 hi0
                        go_wp2_with fail
                        go_roundw
                        case rel => exact ⟨k + 1, by omega, by go_num, HG.out, fstE_zero HA.out HE.out⟩
                        case measure => simp [intOf]; omega
                      · obtain ⟨⟨psn', dev', st', at', un', note'⟩, hb⟩ : ∃ b, l[k - 1]? = some b := ⟨_, List.getElem?_eq_getElem (by rw [H.out.1.len]; omega)⟩
                        have HBB := Lib.hid hb; clear hb
                        have hi0 : decide ((0 : Int) < (k : Int)) = true := decide_eq_true (by omega)
                        have s2 : (0 : Int) ≤ (k : Int) - 1 := by omega
                        have s5 : (1 : Int) ≤ (k : Int) := by omega
                        have s3 : (k : Int) - 1 < (n : Int) := by omega
                        have s6 : (0 : Int) < (n : Int) := by omega
                        have s1 : IntKind.i64.wrap ((k : Int) - 1) = (k : Int) - 1 := IntWalk.i64_in _ (by omega)
                        have s4 : ((k : Int) - 1).toNat = k - 1 := by omega
                        obtain ⟨VO, hVO⟩ : ∃ V, decide (0 ≤ bcCmp ⟨psn', dev', st', at', un', note'⟩ ⟨psn, dev, st, at_, un, note⟩) = V := ⟨_, rfl⟩
                        have HVO := Lib.hid hVO; clear hVO
                        refine H_begin (fun w' => w4.grownBy w' none) (by kernel_rfl) ?_
                        have hHeld : w4.grownBy w4.drew none := gr_drew (gr_refl _ _)
                        refine H_take (k := 0) (v := ?_) (by rfl) (by kernel_rfl) (by kernel_rfl) (by kernel_rfl) (by exact fun _ _ _ h => h) (by rfl) ?_ (by assumption) ?_
                        rotate_left 1
                        · intro w hSw
                          (try dsimp only at hSw)
                          go_simp
                          (try with_reducible rfl)
                        (try simp only [Act.put, List.setIfInBounds_toArray, List.set_cons_zero, List.set_cons_succ])
                        refine H_take (k := 1) (v := ?_) (by rfl) (by kernel_rfl) (by kernel_rfl) (by kernel_rfl) (by exact fun _ _ _ h => h) (by rfl) ?_ (by assumption) ?_
                        rotate_left 1
                        · intro w hSw
                          (try dsimp only at hSw)
                          go_simp
                          (try with_reducible rfl)
                        (try simp only [Act.put, List.setIfInBounds_toArray, List.set_cons_zero, List.set_cons_succ])
                        refine H_take (k := 2) (v := ?_) (by rfl) (by kernel_rfl) (by kernel_rfl) (by kernel_rfl) (by exact fun _ _ _ h => h) (by rfl) ?_ (by assumption) ?_
                        rotate_left 1
                        · intro w hSw
                          (try dsimp only at hSw)
                          go_simp
                          (try with_reducible rfl)
                        (try simp only [Act.put, List.setIfInBounds_toArray, List.set_cons_zero, List.set_cons_succ])
                        refine H_take (k := 3) (v := ?_) (by rfl) (by kernel_rfl) (by kernel_rfl) (by kernel_rfl) (by exact fun _ _ _ h => h) (by rfl) ?_ (by assumption) ?_
                        rotate_left 1
                        · intro w hSw
                          (try dsimp only at hSw)
                          go_simp
                          (try with_reducible rfl)
                        (try simp only [Act.put, List.setIfInBounds_toArray, List.set_cons_zero, List.set_cons_succ])
                        refine H_take (k := 4) (v := ?_) (by rfl) (by kernel_rfl) (by kernel_rfl) (by kernel_rfl) (by exact fun _ _ _ h => h) (by rfl) ?_ (by assumption) ?_
                        rotate_left 1
                        · intro w hSw
                          (try dsimp only at hSw)
                          go_simp
                          (try with_reducible rfl)
                        (try simp only [Act.put, List.setIfInBounds_toArray, List.set_cons_zero, List.set_cons_succ])
                        refine H_take (k := 5) (v := ?_) (by rfl) (by kernel_rfl) (by kernel_rfl) (by kernel_rfl) (by exact fun _ _ _ h => h) (by rfl) ?_ (by assumption) ?_
                        rotate_left 1
                        · intro w hSw
                          (try dsimp only at hSw)
                          go_simp
                          (try with_reducible rfl)
                        (try simp only [Act.put, List.setIfInBounds_toArray, List.set_cons_zero, List.set_cons_succ])
                        refine H_take (k := 6) (v := ?_) (by rfl) (by kernel_rfl) (by kernel_rfl) (by kernel_rfl) (by exact fun _ _ _ h => h) (by rfl) ?_ (by assumption) ?_
                        rotate_left 1
                        · intro w hSw
                          (try dsimp only at hSw)
                          go_simp
                          (try with_reducible rfl)
                        (try simp only [Act.put, List.setIfInBounds_toArray, List.set_cons_zero, List.set_cons_succ])
                        refine H_take (k := 7) (v := .agg #[.string psn', .string dev', .int .i64 st', .int .i64 at', .int .i64 un', .string note']) (by rfl) (by kernel_rfl) (by kernel_rfl) (by kernel_rfl) (by exact fun _ _ _ h => h) (by rfl) (fun w' hSw => exec_ldr Tryz.bcT _ rfl _ rfl [.string psn', .string dev', .int .i64 st', .int .i64 at', .int .i64 un', .string note'] (fun j u hu => by rw [add_mk]; exact ((H.out.1.grown (gr_none HG.out hSw) (fun g e => by cases e)).at_ BcV.row_len HBB.out) j u hu) rfl) (by assumption) ?_
                        (try simp only [Act.put, List.setIfInBounds_toArray, List.set_cons_zero, List.set_cons_succ])
                        refine H_take (k := 8) (v := .agg #[.string psn, .string dev, .int .i64 st, .int .i64 at_, .int .i64 un, .string note]) (by rfl) (by kernel_rfl) (by kernel_rfl) (by kernel_rfl) (by exact fun _ _ _ h => h) (by rfl) (fun w' hSw => exec_ldb Tryz.bcT _ rfl _ rfl 62 [.string psn, .string dev, .int .i64 st, .int .i64 at_, .int .i64 un, .string note] (HB.out.grown hSw (by simp)) rfl) (by assumption) ?_
                        (try simp only [Act.put, List.setIfInBounds_toArray, List.set_cons_zero, List.set_cons_succ])
                        refine H_run (k := 9) (by rfl) (by kernel_rfl) (by rfl) (fun K hK => ?_)
                        go_simp
                        refine (compareBeacons_q ⟨psn', dev', st', at', un', note'⟩ ⟨psn, dev, st, at_, un, note⟩ _).mono ?_
                        rintro e w6 ⟨rfl, hq6⟩
                        have hgz := gr_none hHeld hq6.gr
                        refine hK _ _ hgz ?_
                        clear hK K hHeld hq6
                        have hHeld := hgz
                        have hO1 := HVO.out
                        (try simp only [Act.put, List.setIfInBounds_toArray, List.set_cons_zero, List.set_cons_succ])
                        refine H_take (k := 10) (v := ?_) (by rfl) (by kernel_rfl) (by kernel_rfl) (by kernel_rfl) (by exact fun _ _ _ h => h) (by rfl) ?_ (by assumption) ?_
                        rotate_left 1
                        · intro w hSw
                          (try dsimp only at hSw)
                          go_simp
                          (try with_reducible rfl)
                        (try simp only [Act.put, List.setIfInBounds_toArray, List.set_cons_zero, List.set_cons_succ])
                        refine H_take (k := 11) (v := ?_) (by rfl) (by kernel_rfl) (by kernel_rfl) (by kernel_rfl) (by exact fun _ _ _ h => h) (by rfl) ?_ (by assumption) ?_
                        rotate_left 1
                        · intro w hSw
                          (try dsimp only at hSw)
                          go_simp
                          (try with_reducible rfl)
                        (try simp only [Act.put, List.setIfInBounds_toArray, List.set_cons_zero, List.set_cons_succ])
                        refine H_take (k := 12) (v := ?_) (by rfl) (by kernel_rfl) (by kernel_rfl) (by kernel_rfl) (by exact fun _ _ _ h => h) (by rfl) ?_ (by assumption) ?_
                        rotate_left 1
                        · intro w hSw
                          (try dsimp only at hSw)
                          go_simp
                          (try with_reducible rfl)
                        (try simp only [Act.put, List.setIfInBounds_toArray, List.set_cons_zero, List.set_cons_succ])
                        refine H_done (by kernel_rfl) ?_
                        clear hi0 s1 s2 s3 s4 s5 s6 hO1
                        replace HG := Lib.hid (gr_none HG.out hgz)
                        clear hgz hHeld k0 k1 k2 k3 k4 k5
                        cases VO
                        · have HE := Lib.hid (bcAt_e HZ.out HFZ.out HBB.out (of_decide_eq_false HVO.out))
                          go_wp2_with fail
                          go_roundw
                          case rel => exact ⟨k + 1, by omega, by go_num, HG.out, fstE_zero HA.out HE.out⟩
                          case measure => simp [intOf]; omega
                        · have e := bcAt_7 HZ.out HFZ.out h0 HBB.out (of_decide_eq_true HVO.out)
                          have HFIN := Lib.hid (show bcsE l = 7 by rw [HF.out, fstE_stop HA.out (by rw [e]; decide) hlt, e])
                          clear e
                          go_wp2_with fail
                          go_ret
                          exact ⟨by rw [HFIN.out]; rfl, HG.out⟩
                    · have hf := bcF_3 (z := ⟨psn, dev, st, at_, un, note⟩) HKK.out HST.out HMU.out (by show (plB note && decide (note.size ≤ 100)) = false; rw [HPB.out, decide_eq_false h100]; rfl)
                      have e1 : decide ((100 : Int) < (note.size : Int)) = true := decide_eq_true (by omega)
                      have e1' : decide (100 < note.size) = true := decide_eq_true (by omega)
                      have e := bcAt_f HZ.out (show bcF ⟨psn, dev, st, at_, un, note⟩ ≠ 0 by rw [hf]; decide)
                      rw [hf] at e
                      have HFIN := Lib.hid (show bcsE l = 3 by rw [HF.out, fstE_stop HA.out (by rw [e]; decide) hlt, e])
                      clear e
                      go_wp2_with (first
                        | (go_at_call 63; refine (isMomB_any _ _).mono ?_; rintro e w1 ⟨rfl, rfl⟩; rw [HM.out])
                        | (go_at_call 108; refine (withinV_any _ _ _ _).mono ?_; rintro e w1 ⟨rfl, rfl⟩; (first | rw [HST.out] | rw [HUN.out] | fail))
                        | fail)
                      go_ret
                      exact ⟨by rw [HFIN.out]; rfl, HG.out⟩
      · obtain rfl : k = n := by omega
        have HFIN := Lib.hid (show bcsE l = 0 by rw [HF.out, HA.out])
        go_wp2_with fail
        go_ret
        exact ⟨by rw [HFIN.out]; rfl, HG.out⟩
end Go.Proofs.YtgogiljplnninaaGreatDoor

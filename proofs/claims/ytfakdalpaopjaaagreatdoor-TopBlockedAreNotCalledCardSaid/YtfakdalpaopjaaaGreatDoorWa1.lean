/- Contracts of CheckWatches and of the document's WatchesFault. Conditions: none. -/
import Derived.Test.YtfakdalpaopjaaaGreatDoorBun6
import Derived.Test.YtfakdalpaopjaaaGreatDoorBun12
import Derived.Deep.QuietTactic
import Derived.BigQuiet
import Derived.Deep.CutBlock
namespace Go.Proofs.YtfakdalpaopjaaaGreatDoor
open Go.RowKit

theorem Tryz.waT : StructT Tryz.prog 72 5 := ⟨_, Tryz.underlying72, rfl, by kernel_rfl⟩
set_option maxHeartbeats 8000000 in
set_option maxRecDepth 100000 in
theorem checkWatches_any (lo : Nat) (A : Option Addr) (n c : Nat) (l : List WaV) (w : World) (h : Was w lo A n c l) (hn : n ≤ 1000000000) :
    Calls Tryz.prog 57 #[.slice A n c] w (RetV (.int .i64 (wasE l)) w) := by
  have H := Lib.hid h; clear h
  by_cases hb : 50 < n
  · have HF := Lib.hid (show wasE l = 2 by unfold wasE; rw [if_pos (by rw [H.out.1.len]; exact hb)])
    have hb' : decide ((50 : Int) < (n : Int)) = true := decide_eq_true (by omega)
    go_enter Tryz.func57, Tryz.ntmps57
    go_wp2_with fail
    go_ret
    exact ⟨by rw [HF.out]; rfl, gr_refl _ _⟩
  · have hb' : decide ((50 : Int) < (n : Int)) = false := decide_eq_false (by omega)
    have HF := Lib.hid (show wasE l = fstE (waAt l) n by unfold wasE; rw [if_neg (by rw [H.out.1.len]; exact hb), H.out.1.len])
    go_enter Tryz.func57, Tryz.ntmps57
    go_wp2_with fail
    go_loopw [3, 4, 10] (fun _ _ t wr => ∃ k : Nat, k ≤ n ∧ t = .int .i64 k ∧ w.grownBy wr none ∧ fstE (waAt l) k = 0) (fun _ _ t _ => n - (intOf t).toNat)
    case atStart => exact ⟨0, Nat.zero_le _, rfl, gr_refl _ _, rfl⟩
    case round =>
      obtain ⟨k, hk, rfl, hg, ha⟩ := hrel
      have zr := hg.size
      have HA := Lib.hid ha; have HG := Lib.hid hg; clear ha hg
      by_cases hlt : k < n
      · obtain ⟨g, o, ⟨cls, win, calls, cents, block⟩, rfl, _, hgl, hz, hcc⟩ := (H.out.1.grown HG.out (fun g e => by cases e)).get WaV.row_len hlt
        have p1 : cls.size ≤ 1000 := H.out.2 _ (mem_of_get hz)
        have HZ := Lib.hid hz; have HC := Lib.hid hcc; clear hz hcc
        obtain ⟨wa, hwa⟩ : ∃ wa, wr.alloc (.cells #[.string cls, .int .i64 win, .int .i64 calls, .int .i64 cents, .int .i64 block] 72) = wa := ⟨_, rfl⟩
        have HB := Lib.hid (show Blk wa wr.heap.size 72 #[.string cls, .int .i64 win, .int .i64 calls, .int .i64 cents, .int .i64 block] by rw [← hwa]; exact Blk.new _ _ _)
        have HGa := Lib.hid (show wr.grownBy wa none by rw [← hwa]; exact gr_alloc (gr_refl _ _) _)
        have HWA := Lib.hid hwa; clear hwa
        go_upto_region 6 with (first
          | (refine wpl_load_at Tryz.waT rfl _ rfl _ rfl [.string cls, .int .i64 win, .int .i64 calls, .int .i64 cents, .int .i64 block] rfl (fun j u hu => by rw [add_mk]; exact HC.out j u hu) ?_)
          | fail)
        rw [HWA.out]
        have k0 := HB.out.cell 0
        by_cases hcl : nb cls = []
        · have q0 := str_nil hcl
          have hB1 : waCls ⟨cls, win, calls, cents, block⟩ = true := by unfold waCls; dsimp only; rw [decide_eq_true hcl]; rfl
          clear hcl
          go_upto_region 8 with (fail)
          clear q0 k0
          have k0 := HB.out.cell 0
          have k1 := HB.out.cell 1
          have k2 := HB.out.cell 2
          have k3 := HB.out.cell 3
          have k4 := HB.out.cell 4
          obtain ⟨V1, hV1⟩ : ∃ V, inB win 1 2592000000 = V := ⟨_, rfl⟩
          obtain ⟨V2, hV2⟩ : ∃ V, inB block 1 2592000000 = V := ⟨_, rfl⟩
          obtain ⟨V3, hV3⟩ : ∃ V, inB calls 0 3000 = V := ⟨_, rfl⟩
          obtain ⟨V4, hV4⟩ : ∃ V, inB cents 0 1000000000000 = V := ⟨_, rfl⟩
          have HNUM := Lib.hid (show waNum ⟨cls, win, calls, cents, block⟩ = (V1 && V2 && V3 && V4) by unfold waNum; dsimp only; rw [hV1, hV2, hV3, hV4])
          have HV1 := Lib.hid hV1; have HV2 := Lib.hid hV2; have HV3 := Lib.hid hV3; have HV4 := Lib.hid hV4
          clear hV1 hV2 hV3 hV4
          cases V1
          · have HFIN := Lib.hid (show wasE l = 1 by have e := waAt_1 HZ.out hB1 (HNUM.out.trans rfl); rw [HF.out, fstE_stop HA.out (by rw [e]; decide) hlt, e])
            go_wp2_with (first
              | (go_at_call 92; refine (withinA_any _ _ _ _).mono ?_; rintro e w1 ⟨rfl, rfl⟩; (first | rw [HV1.out] | rw [HV2.out] | rw [HV3.out] | rw [HV4.out] | fail))
              | fail)
            go_ret
            exact ⟨by rw [HFIN.out]; rfl, gr_none HG.out HGa.out⟩
          · cases V2
            · have HFIN := Lib.hid (show wasE l = 1 by have e := waAt_1 HZ.out hB1 (HNUM.out.trans rfl); rw [HF.out, fstE_stop HA.out (by rw [e]; decide) hlt, e])
              go_wp2_with (first
                | (go_at_call 92; refine (withinA_any _ _ _ _).mono ?_; rintro e w1 ⟨rfl, rfl⟩; (first | rw [HV1.out] | rw [HV2.out] | rw [HV3.out] | rw [HV4.out] | fail))
                | fail)
              go_ret
              exact ⟨by rw [HFIN.out]; rfl, gr_none HG.out HGa.out⟩
            · cases V3
              · have HFIN := Lib.hid (show wasE l = 1 by have e := waAt_1 HZ.out hB1 (HNUM.out.trans rfl); rw [HF.out, fstE_stop HA.out (by rw [e]; decide) hlt, e])
                go_wp2_with (first
                  | (go_at_call 92; refine (withinA_any _ _ _ _).mono ?_; rintro e w1 ⟨rfl, rfl⟩; (first | rw [HV1.out] | rw [HV2.out] | rw [HV3.out] | rw [HV4.out] | fail))
                  | fail)
                go_ret
                exact ⟨by rw [HFIN.out]; rfl, gr_none HG.out HGa.out⟩
              · cases V4
                · have HFIN := Lib.hid (show wasE l = 1 by have e := waAt_1 HZ.out hB1 (HNUM.out.trans rfl); rw [HF.out, fstE_stop HA.out (by rw [e]; decide) hlt, e])
                  go_wp2_with (first
                    | (go_at_call 92; refine (withinA_any _ _ _ _).mono ?_; rintro e w1 ⟨rfl, rfl⟩; (first | rw [HV1.out] | rw [HV2.out] | rw [HV3.out] | rw [HV4.out] | fail))
                    | fail)
                  go_ret
                  exact ⟨by rw [HFIN.out]; rfl, gr_none HG.out HGa.out⟩
                · have HB2N := Lib.hid (show waNum ⟨cls, win, calls, cents, block⟩ = true from HNUM.out)
                  have HB1N := Lib.hid hB1
                  rcases Nat.eq_zero_or_pos k with h0 | h0
                  · have HE := Lib.hid (waAt_z HZ.out hB1 HB2N.out (by omega))
                    have hi0 : decide ((0 : Int) < (k : Int)) = false := decide_eq_false (by omega)
                    have hi1 : decide (0 < k) = false := decide_eq_false (by omega)
                    have HK0 := Lib.hid h0; clear h0
                    go_wp2_with (first
                      | (go_at_call 92; refine (withinA_any _ _ _ _).mono ?_; rintro e w1 ⟨rfl, rfl⟩; (first | rw [HV1.out] | rw [HV2.out] | rw [HV3.out] | rw [HV4.out] | fail))
                      | fail)
                    go_quiet (fail)
                    go_wp2_with fail
                    go_roundw
                    case rel => exact ⟨k + 1, by omega, by go_num, gr_drewN (gr_none HG.out HGa.out) _, fstE_zero HA.out HE.out⟩
                    case measure => simp [intOf]; omega
                  · obtain ⟨⟨cls', win', calls', cents', block'⟩, hb⟩ : ∃ b, l[k - 1]? = some b := ⟨_, List.getElem?_eq_getElem (by rw [H.out.1.len]; omega)⟩
                    have HBB := Lib.hid hb; clear hb
                    have kp := ((H.out.1.grown (gr_none HG.out HGa.out) (fun g e => by cases e)).at_ WaV.row_len HBB.out) 0 _ rfl
                    simp only [Nat.add_zero] at kp
                    have hi0 : decide ((0 : Int) < (k : Int)) = true := decide_eq_true (by omega)
                    have hi1 : decide (0 < k) = true := decide_eq_true (by omega)
                    have s2 : (0 : Int) ≤ (k : Int) - 1 := by omega
                    have s5 : (1 : Int) ≤ (k : Int) := by omega
                    have s3 : (k : Int) - 1 < (n : Int) := by omega
                    have s6 : (0 : Int) < (n : Int) := by omega
                    have s1 : IntKind.i64.wrap ((k : Int) - 1) = (k : Int) - 1 := IntWalk.i64_in _ (by omega)
                    have s4 : ((k : Int) - 1).toNat = k - 1 := by omega
                    obtain ⟨VO, hVO⟩ : ∃ V, Op.bytesLess cls.toList cls'.toList = V := ⟨_, rfl⟩
                    have HVO := Lib.hid (show ltS cls cls' = VO from hVO)
                    cases VO
                    · have HE := Lib.hid (waAt_e HZ.out hB1 HB2N.out HBB.out HVO.out)
                      go_wp2_with (first
                        | (go_at_call 92; refine (withinA_any _ _ _ _).mono ?_; rintro e w1 ⟨rfl, rfl⟩; (first | rw [HV1.out] | rw [HV2.out] | rw [HV3.out] | rw [HV4.out] | fail))
                        | fail)
                      go_quiet (fail)
                      clear s1 s2 s3 s4 s5 s6 hVO kp hi0 hi1
                      go_wp2_with fail
                      go_roundw
                      case rel => exact ⟨k + 1, by omega, by go_num, gr_drewN (gr_none HG.out HGa.out) _, fstE_zero HA.out HE.out⟩
                      case measure => simp [intOf]; omega
                    · have HFIN := Lib.hid (show wasE l = 7 by have e := waAt_7 HZ.out hB1 HB2N.out h0 HBB.out HVO.out; rw [HF.out, fstE_stop HA.out (by rw [e]; decide) hlt, e])
                      go_wp2_with (first
                        | (go_at_call 92; refine (withinA_any _ _ _ _).mono ?_; rintro e w1 ⟨rfl, rfl⟩; (first | rw [HV1.out] | rw [HV2.out] | rw [HV3.out] | rw [HV4.out] | fail))
                        | fail)
                      go_quiet (fail)
                      go_wp2_with fail
                      go_ret
                      exact ⟨by rw [HFIN.out]; rfl, gr_drewN (gr_none HG.out HGa.out) _⟩
        · obtain ⟨q1, q2, q3⟩ := str_full hcl
          have hCE : waCls ⟨cls, win, calls, cents, block⟩ = keyOk (nb cls) := by unfold waCls; dsimp only; rw [decide_eq_false hcl]; rfl
          clear hcl
          go_wp2_with fail
          refine (isKey_any cls _ (by omega)).mono ?_
          rintro e w2 ⟨rfl, hg2⟩
          have HG2 := Lib.hid (gr_none HGa.out hg2)
          have HB2 := Lib.hid (HB.out.grown hg2 (by simp))
          clear hg2 k0
          cases hK : keyOk (nb cls)
          · have HFIN := Lib.hid (show wasE l = 5 by have e := waAt_5 HZ.out (hCE.trans hK); rw [HF.out, fstE_stop HA.out (by rw [e]; decide) hlt, e])
            go_wp2_with fail
            go_ret
            exact ⟨by rw [HFIN.out]; rfl, gr_none HG.out HG2.out⟩
          · have hB1 : waCls ⟨cls, win, calls, cents, block⟩ = true := hCE.trans hK
            have k0 := HB2.out.cell 0
            have k1 := HB2.out.cell 1
            have k2 := HB2.out.cell 2
            have k3 := HB2.out.cell 3
            have k4 := HB2.out.cell 4
            obtain ⟨V1, hV1⟩ : ∃ V, inB win 1 2592000000 = V := ⟨_, rfl⟩
            obtain ⟨V2, hV2⟩ : ∃ V, inB block 1 2592000000 = V := ⟨_, rfl⟩
            obtain ⟨V3, hV3⟩ : ∃ V, inB calls 0 3000 = V := ⟨_, rfl⟩
            obtain ⟨V4, hV4⟩ : ∃ V, inB cents 0 1000000000000 = V := ⟨_, rfl⟩
            have HNUM := Lib.hid (show waNum ⟨cls, win, calls, cents, block⟩ = (V1 && V2 && V3 && V4) by unfold waNum; dsimp only; rw [hV1, hV2, hV3, hV4])
            have HV1 := Lib.hid hV1; have HV2 := Lib.hid hV2; have HV3 := Lib.hid hV3; have HV4 := Lib.hid hV4
            clear hV1 hV2 hV3 hV4
            cases V1
            · have HFIN := Lib.hid (show wasE l = 1 by have e := waAt_1 HZ.out hB1 (HNUM.out.trans rfl); rw [HF.out, fstE_stop HA.out (by rw [e]; decide) hlt, e])
              go_wp2_with (first
                | (go_at_call 92; refine (withinA_any _ _ _ _).mono ?_; rintro e w1 ⟨rfl, rfl⟩; (first | rw [HV1.out] | rw [HV2.out] | rw [HV3.out] | rw [HV4.out] | fail))
                | fail)
              go_ret
              exact ⟨by rw [HFIN.out]; rfl, gr_none HG.out HG2.out⟩
            · cases V2
              · have HFIN := Lib.hid (show wasE l = 1 by have e := waAt_1 HZ.out hB1 (HNUM.out.trans rfl); rw [HF.out, fstE_stop HA.out (by rw [e]; decide) hlt, e])
                go_wp2_with (first
                  | (go_at_call 92; refine (withinA_any _ _ _ _).mono ?_; rintro e w1 ⟨rfl, rfl⟩; (first | rw [HV1.out] | rw [HV2.out] | rw [HV3.out] | rw [HV4.out] | fail))
                  | fail)
                go_ret
                exact ⟨by rw [HFIN.out]; rfl, gr_none HG.out HG2.out⟩
              · cases V3
                · have HFIN := Lib.hid (show wasE l = 1 by have e := waAt_1 HZ.out hB1 (HNUM.out.trans rfl); rw [HF.out, fstE_stop HA.out (by rw [e]; decide) hlt, e])
                  go_wp2_with (first
                    | (go_at_call 92; refine (withinA_any _ _ _ _).mono ?_; rintro e w1 ⟨rfl, rfl⟩; (first | rw [HV1.out] | rw [HV2.out] | rw [HV3.out] | rw [HV4.out] | fail))
                    | fail)
                  go_ret
                  exact ⟨by rw [HFIN.out]; rfl, gr_none HG.out HG2.out⟩
                · cases V4
                  · have HFIN := Lib.hid (show wasE l = 1 by have e := waAt_1 HZ.out hB1 (HNUM.out.trans rfl); rw [HF.out, fstE_stop HA.out (by rw [e]; decide) hlt, e])
                    go_wp2_with (first
                      | (go_at_call 92; refine (withinA_any _ _ _ _).mono ?_; rintro e w1 ⟨rfl, rfl⟩; (first | rw [HV1.out] | rw [HV2.out] | rw [HV3.out] | rw [HV4.out] | fail))
                      | fail)
                    go_ret
                    exact ⟨by rw [HFIN.out]; rfl, gr_none HG.out HG2.out⟩
                  · have HB2N := Lib.hid (show waNum ⟨cls, win, calls, cents, block⟩ = true from HNUM.out)
                    have HB1N := Lib.hid hB1
                    rcases Nat.eq_zero_or_pos k with h0 | h0
                    · have HE := Lib.hid (waAt_z HZ.out hB1 HB2N.out (by omega))
                      have hi0 : decide ((0 : Int) < (k : Int)) = false := decide_eq_false (by omega)
                      have hi1 : decide (0 < k) = false := decide_eq_false (by omega)
                      have HK0 := Lib.hid h0; clear h0
                      go_wp2_with (first
                        | (go_at_call 92; refine (withinA_any _ _ _ _).mono ?_; rintro e w1 ⟨rfl, rfl⟩; (first | rw [HV1.out] | rw [HV2.out] | rw [HV3.out] | rw [HV4.out] | fail))
                        | fail)
                      go_quiet (fail)
                      go_wp2_with fail
                      go_roundw
                      case rel => exact ⟨k + 1, by omega, by go_num, gr_drewN (gr_none HG.out HG2.out) _, fstE_zero HA.out HE.out⟩
                      case measure => simp [intOf]; omega
                    · obtain ⟨⟨cls', win', calls', cents', block'⟩, hb⟩ : ∃ b, l[k - 1]? = some b := ⟨_, List.getElem?_eq_getElem (by rw [H.out.1.len]; omega)⟩
                      have HBB := Lib.hid hb; clear hb
                      have kp := ((H.out.1.grown (gr_none HG.out HG2.out) (fun g e => by cases e)).at_ WaV.row_len HBB.out) 0 _ rfl
                      simp only [Nat.add_zero] at kp
                      have hi0 : decide ((0 : Int) < (k : Int)) = true := decide_eq_true (by omega)
                      have hi1 : decide (0 < k) = true := decide_eq_true (by omega)
                      have s2 : (0 : Int) ≤ (k : Int) - 1 := by omega
                      have s5 : (1 : Int) ≤ (k : Int) := by omega
                      have s3 : (k : Int) - 1 < (n : Int) := by omega
                      have s6 : (0 : Int) < (n : Int) := by omega
                      have s1 : IntKind.i64.wrap ((k : Int) - 1) = (k : Int) - 1 := IntWalk.i64_in _ (by omega)
                      have s4 : ((k : Int) - 1).toNat = k - 1 := by omega
                      obtain ⟨VO, hVO⟩ : ∃ V, Op.bytesLess cls.toList cls'.toList = V := ⟨_, rfl⟩
                      have HVO := Lib.hid (show ltS cls cls' = VO from hVO)
                      cases VO
                      · have HE := Lib.hid (waAt_e HZ.out hB1 HB2N.out HBB.out HVO.out)
                        go_wp2_with (first
                          | (go_at_call 92; refine (withinA_any _ _ _ _).mono ?_; rintro e w1 ⟨rfl, rfl⟩; (first | rw [HV1.out] | rw [HV2.out] | rw [HV3.out] | rw [HV4.out] | fail))
                          | fail)
                        go_quiet (fail)
                        clear s1 s2 s3 s4 s5 s6 hVO kp hi0 hi1
                        go_wp2_with fail
                        go_roundw
                        case rel => exact ⟨k + 1, by omega, by go_num, gr_drewN (gr_none HG.out HG2.out) _, fstE_zero HA.out HE.out⟩
                        case measure => simp [intOf]; omega
                      · have HFIN := Lib.hid (show wasE l = 7 by have e := waAt_7 HZ.out hB1 HB2N.out h0 HBB.out HVO.out; rw [HF.out, fstE_stop HA.out (by rw [e]; decide) hlt, e])
                        go_wp2_with (first
                          | (go_at_call 92; refine (withinA_any _ _ _ _).mono ?_; rintro e w1 ⟨rfl, rfl⟩; (first | rw [HV1.out] | rw [HV2.out] | rw [HV3.out] | rw [HV4.out] | fail))
                          | fail)
                        go_quiet (fail)
                        go_wp2_with fail
                        go_ret
                        exact ⟨by rw [HFIN.out]; rfl, gr_drewN (gr_none HG.out HG2.out) _⟩
      · obtain rfl : k = n := by omega
        go_wp2_with fail
        go_ret
        exact ⟨by rw [HF.out, HA.out]; rfl, HG.out⟩
end Go.Proofs.YtfakdalpaopjaaaGreatDoor

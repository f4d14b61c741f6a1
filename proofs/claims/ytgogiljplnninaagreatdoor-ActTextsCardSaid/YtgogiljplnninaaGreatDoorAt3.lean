/- Contract of the document's ActsFault. Conditions: none. -/
import Derived.Test.YtgogiljplnninaaGreatDoorBun3
import Derived.Test.YtgogiljplnninaaGreatDoorBun2
namespace Go.Proofs.YtgogiljplnninaaGreatDoor
open Go.RowKit

set_option maxHeartbeats 8000000 in
set_option maxRecDepth 100000 in
theorem actsFault_anyL (lo : Nat) (A : Option Addr) (n c : Nat) (l : List ActV) (w : World) (h : AcsL w lo A n c l) (hn : n ≤ 1000000000) :
    Calls Tryz.prog 24 #[.slice A n c] w (RetV (.int .i64 (acsE l)) w) := by
  have H := Lib.hid h; clear h
  by_cases hb : 1000 < n
  · have HF := Lib.hid (show acsE l = 2 by unfold acsE; rw [if_pos (by rw [H.out.1.len]; exact hb)])
    have hb' : decide ((1000 : Int) < (n : Int)) = true := decide_eq_true (by omega)
    go_enter Tryz.func24, Tryz.ntmps24
    go_wp2_with fail
    go_ret
    exact ⟨by rw [HF.out]; rfl, gr_refl _ _⟩
  · have hb' : decide ((1000 : Int) < (n : Int)) = false := decide_eq_false (by omega)
    have HF := Lib.hid (show acsE l = fstE (acAt l) n by unfold acsE; rw [if_neg (by rw [H.out.1.len]; exact hb), H.out.1.len])
    go_enter Tryz.func24, Tryz.ntmps24
    go_wp2_with fail
    go_loopw [3, 4, 5, 11] (fun _ _ _ t wr => ∃ k : Nat, k ≤ n ∧ t = .int .i64 k ∧ w.grownBy wr none ∧ fstE (acAt l) k = 0) (fun _ _ _ t _ => n - (intOf t).toNat)
    case atStart => exact ⟨0, Nat.zero_le _, rfl, gr_refl _ _, rfl⟩
    case round =>
      obtain ⟨k, hk, rfl, hg, ha⟩ := hrel
      have HA := Lib.hid ha; have HG := Lib.hid hg; clear ha hg
      by_cases hlt : k < n
      · obtain ⟨g, o, ⟨at_, bx, id, kd, lg, frm⟩, rfl, _, hgl, hz, hc⟩ := (H.out.1.grown HG.out (fun g e => by cases e)).get ActV.row_len hlt
        obtain ⟨⟨p1, p2, p3⟩, _⟩ := H.out.2 _ (mem_of_get hz)
        dsimp only at p1 p2 p3
        have HZ := Lib.hid hz; have HC := Lib.hid hc; clear hz hc
        obtain ⟨w1, hw1⟩ : ∃ v, wr.alloc (.cells #[.int .i64 at_, .string bx, .string id, .int .i64 kd, .int .i64 lg, .string frm] 56) = v := ⟨_, rfl⟩
        obtain ⟨zb, hzb⟩ : ∃ b, wr.heap.size = b := ⟨_, rfl⟩
        have HB := Lib.hid (show Blk w1 zb 56 #[.int .i64 at_, .string bx, .string id, .int .i64 kd, .int .i64 lg, .string frm] by rw [← hw1, ← hzb]; exact Blk.new _ _ _)
        replace HG := Lib.hid (show w.grownBy w1 none by rw [← hw1]; exact gr_alloc HG.out _)
        have HW1 := Lib.hid hw1; have HZB := Lib.hid hzb
        clear hw1 hzb
        go_upto_region 6 with (first
          | (refine wpl_load_at Tryz.acT rfl _ rfl _ rfl [.int .i64 at_, .string bx, .string id, .int .i64 kd, .int .i64 lg, .string frm] rfl (fun j u hu => by rw [add_mk]; exact HC.out j u hu) ?_)
          | fail)
        rw [HW1.out]
        (try rw [HZB.out])
        clear HW1 HZB HC
        have k0 := HB.out.cell 0; have k1 := HB.out.cell 1; have k2 := HB.out.cell 2; have k3 := HB.out.cell 3; have k4 := HB.out.cell 4; have k5 := HB.out.cell 5
        obtain ⟨VM, hM⟩ : ∃ V, momB at_ = V := ⟨_, rfl⟩
        obtain ⟨VK, hKI⟩ : ∃ V, inB kd 1 5 = V := ⟨_, rfl⟩
        obtain ⟨VL, hLG⟩ : ∃ V, inB lg 1 86400000 = V := ⟨_, rfl⟩
        obtain ⟨LF, hLF⟩ : ∃ V, (kd == 1) = V := ⟨_, rfl⟩
        have hLF2 : decide (kd = 1) = LF := by rw [← hLF]; rfl
        have HM := Lib.hid hM; have HKI := Lib.hid hKI; have HLG := Lib.hid hLG; have HLF := Lib.hid hLF
        clear hM hKI hLG
        cases VM
        · have e := acAt_f HZ.out (show acF ⟨at_, bx, id, kd, lg, frm⟩ ≠ 0 by rw [acF_1 (z := ⟨at_, bx, id, kd, lg, frm⟩) HM.out]; decide)
          rw [acF_1 (z := ⟨at_, bx, id, kd, lg, frm⟩) HM.out] at e
          have HFIN := Lib.hid (show acsE l = 1 by rw [HF.out, fstE_stop HA.out (by rw [e]; decide) hlt, e])
          clear e
          go_wp2_with (first
            | (go_at_call 59; refine (momentB_any _ _).mono ?_; rintro e w1 ⟨rfl, rfl⟩; rw [HM.out])
            | (go_at_call 60; refine (in_any _ _ _ _).mono ?_; rintro e w1 ⟨rfl, rfl⟩; (first | rw [HKI.out] | rw [HLG.out] | fail))
            | fail)
          go_ret
          exact ⟨by rw [HFIN.out]; rfl, HG.out⟩
        · go_wp2_with (first
            | (go_at_call 59; refine (momentB_any _ _).mono ?_; rintro e w1 ⟨rfl, rfl⟩; rw [HM.out])
            | (go_at_call 60; refine (in_any _ _ _ _).mono ?_; rintro e w1 ⟨rfl, rfl⟩; (first | rw [HKI.out] | rw [HLG.out] | fail))
            | fail)
          refine (keyRefR_any bx _ (by omega)).mono ?_
          rintro e w2 ⟨rfl, hg2⟩
          have hsB := HB.out.grown hg2 (by simp)
          replace HG := Lib.hid (gr_none HG.out hg2)
          clear k0 k1 k2 k3 k4 k5
          have k0 := hsB.cell 0; have k1 := hsB.cell 1; have k2 := hsB.cell 2; have k3 := hsB.cell 3; have k4 := hsB.cell 4; have k5 := hsB.cell 5
          replace HB := Lib.hid hsB
          clear hg2 hsB
          obtain ⟨K1, hK1⟩ : ∃ V, keyOk (nb bx) = V := ⟨_, rfl⟩
          have HK1 := Lib.hid hK1
          rw [hK1]
          clear hK1
          cases K1
          · have e := acAt_f HZ.out (show acF ⟨at_, bx, id, kd, lg, frm⟩ ≠ 0 by rw [acF_5 (z := ⟨at_, bx, id, kd, lg, frm⟩) HM.out (by show (keyOk (nb bx) && _) = false; rw [HK1.out]; rfl)]; decide)
            rw [acF_5 (z := ⟨at_, bx, id, kd, lg, frm⟩) HM.out (by show (keyOk (nb bx) && _) = false; rw [HK1.out]; rfl)] at e
            have HFIN := Lib.hid (show acsE l = 5 by rw [HF.out, fstE_stop HA.out (by rw [e]; decide) hlt, e])
            clear e
            go_wp2_with (first
              | (go_at_call 59; refine (momentB_any _ _).mono ?_; rintro e w1 ⟨rfl, rfl⟩; rw [HM.out])
              | (go_at_call 60; refine (in_any _ _ _ _).mono ?_; rintro e w1 ⟨rfl, rfl⟩; (first | rw [HKI.out] | rw [HLG.out] | fail))
              | fail)
            go_ret
            exact ⟨by rw [HFIN.out]; rfl, HG.out⟩
          · go_wp2_with (first
              | (go_at_call 59; refine (momentB_any _ _).mono ?_; rintro e w1 ⟨rfl, rfl⟩; rw [HM.out])
              | (go_at_call 60; refine (in_any _ _ _ _).mono ?_; rintro e w1 ⟨rfl, rfl⟩; (first | rw [HKI.out] | rw [HLG.out] | fail))
              | fail)
            refine (keyRefR_any id _ (by omega)).mono ?_
            rintro e w3 ⟨rfl, hg3⟩
            have hsB := HB.out.grown hg3 (by simp)
            replace HG := Lib.hid (gr_none HG.out hg3)
            clear k0 k1 k2 k3 k4 k5
            have k0 := hsB.cell 0; have k1 := hsB.cell 1; have k2 := hsB.cell 2; have k3 := hsB.cell 3; have k4 := hsB.cell 4; have k5 := hsB.cell 5
            replace HB := Lib.hid hsB
            clear hg3 hsB
            obtain ⟨K2, hK2⟩ : ∃ V, keyOk (nb id) = V := ⟨_, rfl⟩
            have HK2 := Lib.hid hK2
            rw [hK2]
            clear hK2
            cases K2
            · have e := acAt_f HZ.out (show acF ⟨at_, bx, id, kd, lg, frm⟩ ≠ 0 by rw [acF_5 (z := ⟨at_, bx, id, kd, lg, frm⟩) HM.out (by show (keyOk (nb bx) && keyOk (nb id)) = false; rw [HK1.out, HK2.out]; rfl)]; decide)
              rw [acF_5 (z := ⟨at_, bx, id, kd, lg, frm⟩) HM.out (by show (keyOk (nb bx) && keyOk (nb id)) = false; rw [HK1.out, HK2.out]; rfl)] at e
              have HFIN := Lib.hid (show acsE l = 5 by rw [HF.out, fstE_stop HA.out (by rw [e]; decide) hlt, e])
              clear e
              go_wp2_with (first
                | (go_at_call 59; refine (momentB_any _ _).mono ?_; rintro e w1 ⟨rfl, rfl⟩; rw [HM.out])
                | (go_at_call 60; refine (in_any _ _ _ _).mono ?_; rintro e w1 ⟨rfl, rfl⟩; (first | rw [HKI.out] | rw [HLG.out] | fail))
                | fail)
              go_ret
              exact ⟨by rw [HFIN.out]; rfl, HG.out⟩
            · have HKK := Lib.hid (show (keyOk (nb (ActV.bx ⟨at_, bx, id, kd, lg, frm⟩)) && keyOk (nb (ActV.id ⟨at_, bx, id, kd, lg, frm⟩))) = true by show (keyOk (nb bx) && keyOk (nb id)) = true; rw [HK1.out, HK2.out]; rfl)
              cases VK
              · have e := acAt_f HZ.out (show acF ⟨at_, bx, id, kd, lg, frm⟩ ≠ 0 by rw [acF_4 (z := ⟨at_, bx, id, kd, lg, frm⟩) HM.out HKK.out HKI.out]; decide)
                rw [acF_4 (z := ⟨at_, bx, id, kd, lg, frm⟩) HM.out HKK.out HKI.out] at e
                have HFIN := Lib.hid (show acsE l = 4 by rw [HF.out, fstE_stop HA.out (by rw [e]; decide) hlt, e])
                clear e
                go_wp2_with (first
                  | (go_at_call 59; refine (momentB_any _ _).mono ?_; rintro e w1 ⟨rfl, rfl⟩; rw [HM.out])
                  | (go_at_call 60; refine (in_any _ _ _ _).mono ?_; rintro e w1 ⟨rfl, rfl⟩; (first | rw [HKI.out] | rw [HLG.out] | fail))
                  | fail)
                go_ret
                exact ⟨by rw [HFIN.out]; rfl, HG.out⟩
              · cases LF
                · have HO := Lib.hid (acF_o (z := ⟨at_, bx, id, kd, lg, frm⟩) HM.out HKK.out HKI.out HLF.out)
                  dsimp only at HO
                  by_cases hl0 : lg = 0
                  · have d1 : (lg != 0) = false := by simp [hl0]
                    by_cases hf0 : nb frm = []
                    · have q0 := str_nil hf0
                      have hfz : acF ⟨at_, bx, id, kd, lg, frm⟩ = 0 := by rw [HO.out, hl0, decide_eq_true hf0]; rfl
                      clear hl0 hf0
                      go_wp2_with (first
                        | (go_at_call 59; refine (momentB_any _ _).mono ?_; rintro e w1 ⟨rfl, rfl⟩; rw [HM.out])
                        | (go_at_call 60; refine (in_any _ _ _ _).mono ?_; rintro e w1 ⟨rfl, rfl⟩; (first | rw [HKI.out] | rw [HLG.out] | fail))
                        | fail)
                      clear d1 q0 hLF hLF2
                      have HFZ := Lib.hid hfz
                      clear hfz
                      rcases Nat.eq_zero_or_pos k with h0 | h0
                      · have HE := Lib.hid (acAt_z HZ.out HFZ.out (by omega))
                        have hi0 : decide ((0 : Int) < (k : Int)) = false := decide_eq_false (by omega)
                        refine H_begin (fun w' => w3.grownBy w' none) (by kernel_rfl) ?_
                        have hHeld : w3.grownBy w3.drew none := gr_drew (gr_refl _ _)
                        refine H_take (k := 0) (v := ?_) (by rfl) (by kernel_rfl) (by kernel_rfl) (by kernel_rfl) (by exact fun _ _ _ h => h) (by rfl) ?_ (by assumption) ?_
                        rotate_left 1
                        · intro w hSw
                          (try dsimp only at hSw)
                          go_simp
                          (try with_reducible rfl)
                        (try simp only [Act.put, List.setIfInBounds_toArray, List.set_cons_zero, List.set_cons_succ])
                        refine H_take (k := 1) (v := ?_) (by rfl) (by kernel_rfl) (by kernel_rfl) (by kernel_rfl) (by exact fun _ _ _ h => h) (by rfl) ?_ (by assumption) ?_
                        rotate_left 1
                        · intro w hSw
                          (try dsimp only at hSw)
                          go_simp
                          (try with_reducible rfl)
                        (try simp only [Act.put, List.setIfInBounds_toArray, List.set_cons_zero, List.set_cons_succ])
                        refine H_take (k := 2) (v := ?_) (by rfl) (by kernel_rfl) (by kernel_rfl) (by kernel_rfl) (by exact fun _ _ _ h => h) (by rfl) ?_ (by assumption) ?_
                        rotate_left 1
                        · intro w hSw
                          (try dsimp only at hSw)
                          go_simp
                          (try with_reducible rfl)
                        (try simp only [Act.put, List.setIfInBounds_toArray, List.set_cons_zero, List.set_cons_succ])
                        refine H_skip (k := 3) (by rfl) (by kernel_rfl) (by kernel_rfl) (by kernel_rfl) (by exact fun _ _ _ h => h) (by rfl) (by assumption) ?_
                        (try simp only [Act.put, List.setIfInBounds_toArray, List.set_cons_zero, List.set_cons_succ])
                        refine H_skip (k := 4) (by rfl) (by kernel_rfl) (by kernel_rfl) (by kernel_rfl) (by exact fun _ _ _ h => h) (by rfl) (by assumption) ?_
                        (try simp only [Act.put, List.setIfInBounds_toArray, List.set_cons_zero, List.set_cons_succ])
                        refine H_skip (k := 5) (by rfl) (by kernel_rfl) (by kernel_rfl) (by kernel_rfl) (by exact fun _ _ _ h => h) (by rfl) (by assumption) ?_
                        (try simp only [Act.put, List.setIfInBounds_toArray, List.set_cons_zero, List.set_cons_succ])
                        refine H_skip (k := 6) (by rfl) (by kernel_rfl) (by kernel_rfl) (by kernel_rfl) (by exact fun _ _ _ h => h) (by rfl) (by assumption) ?_
                        (try simp only [Act.put, List.setIfInBounds_toArray, List.set_cons_zero, List.set_cons_succ])
                        refine H_skip (k := 7) (by rfl) (by kernel_rfl) (by kernel_rfl) (by kernel_rfl) (by exact fun _ _ _ h => h) (by rfl) (by assumption) ?_
                        (try simp only [Act.put, List.setIfInBounds_toArray, List.set_cons_zero, List.set_cons_succ])
                        refine H_skip (k := 8) (by rfl) (by kernel_rfl) (by kernel_rfl) (by kernel_rfl) (by exact fun _ _ _ h => h) (by rfl) (by assumption) ?_
                        (try simp only [Act.put, List.setIfInBounds_toArray, List.set_cons_zero, List.set_cons_succ])
                        refine H_skip (k := 9) (by rfl) (by kernel_rfl) (by kernel_rfl) (by kernel_rfl) (by exact fun _ _ _ h => h) (by rfl) (by assumption) ?_
                        (try simp only [Act.put, List.setIfInBounds_toArray, List.set_cons_zero, List.set_cons_succ])
                        refine H_skip (k := 10) (by rfl) (by kernel_rfl) (by kernel_rfl) (by kernel_rfl) (by exact fun _ _ _ h => h) (by rfl) (by assumption) ?_
                        (try simp only [Act.put, List.setIfInBounds_toArray, List.set_cons_zero, List.set_cons_succ])
                        refine H_take (k := 11) (v := ?_) (by rfl) (by kernel_rfl) (by kernel_rfl) (by kernel_rfl) (by exact fun _ _ _ h => h) (by rfl) ?_ (by assumption) ?_
                        rotate_left 1
                        · intro w hSw
                          (try dsimp only at hSw)
                          go_simp
                          (try with_reducible rfl)
                        (try simp only [Act.put, List.setIfInBounds_toArray, List.set_cons_zero, List.set_cons_succ])
                        refine H_take (k := 12) (v := ?_) (by rfl) (by kernel_rfl) (by kernel_rfl) (by kernel_rfl) (by exact fun _ _ _ h => h) (by rfl) ?_ (by assumption) ?_
                        rotate_left 1
                        · intro w hSw
                          (try dsimp only at hSw)
                          go_simp
                          (try with_reducible rfl)
                        (try simp only [Act.put, List.setIfInBounds_toArray, List.set_cons_zero, List.set_cons_succ])
                        refine H_done (by kernel_rfl) ?_
                        replace HG := Lib.hid (gr_none HG.out hHeld)
                        clear hHeld k0 k1 k2 k3 k4 k5 hi0
                        go_wp2_with fail
                        go_roundw
                        case rel => exact ⟨k + 1, by omega, by go_num, HG.out, fstE_zero HA.out HE.out⟩
                        case measure => simp [intOf]; omega
                      · obtain ⟨⟨at', bx', id', kd', lg', frm'⟩, hb⟩ : ∃ b, l[k - 1]? = some b := ⟨_, List.getElem?_eq_getElem (by rw [H.out.1.len]; omega)⟩
                        have HBB := Lib.hid hb; clear hb
                        have hi0 : decide ((0 : Int) < (k : Int)) = true := decide_eq_true (by omega)
                        have s2 : (0 : Int) ≤ (k : Int) - 1 := by omega
                        have s5 : (1 : Int) ≤ (k : Int) := by omega
                        have s3 : (k : Int) - 1 < (n : Int) := by omega
                        have s6 : (0 : Int) < (n : Int) := by omega
                        have s1 : IntKind.i64.wrap ((k : Int) - 1) = (k : Int) - 1 := IntWalk.i64_in _ (by omega)
                        have s4 : ((k : Int) - 1).toNat = k - 1 := by omega
                        obtain ⟨VO, hVO⟩ : ∃ V, decide (0 ≤ acCmp ⟨at', bx', id', kd', lg', frm'⟩ ⟨at_, bx, id, kd, lg, frm⟩) = V := ⟨_, rfl⟩
                        have HVO := Lib.hid hVO; clear hVO
                        refine H_begin (fun w' => w3.grownBy w' none) (by kernel_rfl) ?_
                        have hHeld : w3.grownBy w3.drew none := gr_drew (gr_refl _ _)
                        refine H_take (k := 0) (v := ?_) (by rfl) (by kernel_rfl) (by kernel_rfl) (by kernel_rfl) (by exact fun _ _ _ h => h) (by rfl) ?_ (by assumption) ?_
                        rotate_left 1
                        · intro w hSw
                          (try dsimp only at hSw)
                          go_simp
                          (try with_reducible rfl)
                        (try simp only [Act.put, List.setIfInBounds_toArray, List.set_cons_zero, List.set_cons_succ])
                        refine H_take (k := 1) (v := ?_) (by rfl) (by kernel_rfl) (by kernel_rfl) (by kernel_rfl) (by exact fun _ _ _ h => h) (by rfl) ?_ (by assumption) ?_
                        rotate_left 1
                        · intro w hSw
                          (try dsimp only at hSw)
                          go_simp
                          (try with_reducible rfl)
                        (try simp only [Act.put, List.setIfInBounds_toArray, List.set_cons_zero, List.set_cons_succ])
                        refine H_take (k := 2) (v := ?_) (by rfl) (by kernel_rfl) (by kernel_rfl) (by kernel_rfl) (by exact fun _ _ _ h => h) (by rfl) ?_ (by assumption) ?_
                        rotate_left 1
                        · intro w hSw
                          (try dsimp only at hSw)
                          go_simp
                          (try with_reducible rfl)
                        (try simp only [Act.put, List.setIfInBounds_toArray, List.set_cons_zero, List.set_cons_succ])
                        refine H_take (k := 3) (v := ?_) (by rfl) (by kernel_rfl) (by kernel_rfl) (by kernel_rfl) (by exact fun _ _ _ h => h) (by rfl) ?_ (by assumption) ?_
                        rotate_left 1
                        · intro w hSw
                          (try dsimp only at hSw)
                          go_simp
                          (try with_reducible rfl)
                        (try simp only [Act.put, List.setIfInBounds_toArray, List.set_cons_zero, List.set_cons_succ])
                        refine H_take (k := 4) (v := ?_) (by rfl) (by kernel_rfl) (by kernel_rfl) (by kernel_rfl) (by exact fun _ _ _ h => h) (by rfl) ?_ (by assumption) ?_
                        rotate_left 1
                        · intro w hSw
                          (try dsimp only at hSw)
                          go_simp
                          (try with_reducible rfl)
                        (try simp only [Act.put, List.setIfInBounds_toArray, List.set_cons_zero, List.set_cons_succ])
                        refine H_take (k := 5) (v := ?_) (by rfl) (by kernel_rfl) (by kernel_rfl) (by kernel_rfl) (by exact fun _ _ _ h => h) (by rfl) ?_ (by assumption) ?_
                        rotate_left 1
                        · intro w hSw
                          (try dsimp only at hSw)
                          go_simp
                          (try with_reducible rfl)
                        (try simp only [Act.put, List.setIfInBounds_toArray, List.set_cons_zero, List.set_cons_succ])
                        refine H_take (k := 6) (v := ?_) (by rfl) (by kernel_rfl) (by kernel_rfl) (by kernel_rfl) (by exact fun _ _ _ h => h) (by rfl) ?_ (by assumption) ?_
                        rotate_left 1
                        · intro w hSw
                          (try dsimp only at hSw)
                          go_simp
                          (try with_reducible rfl)
                        (try simp only [Act.put, List.setIfInBounds_toArray, List.set_cons_zero, List.set_cons_succ])
                        refine H_take (k := 7) (v := .agg #[.int .i64 at', .string bx', .string id', .int .i64 kd', .int .i64 lg', .string frm']) (by rfl) (by kernel_rfl) (by kernel_rfl) (by kernel_rfl) (by exact fun _ _ _ h => h) (by rfl) (fun w' hSw => exec_ldr Tryz.acT _ rfl _ rfl [.int .i64 at', .string bx', .string id', .int .i64 kd', .int .i64 lg', .string frm'] (fun j u hu => by rw [add_mk]; exact ((H.out.1.grown (gr_none HG.out hSw) (fun g e => by cases e)).at_ ActV.row_len HBB.out) j u hu) rfl) (by assumption) ?_
                        (try simp only [Act.put, List.setIfInBounds_toArray, List.set_cons_zero, List.set_cons_succ])
                        refine H_take (k := 8) (v := .agg #[.int .i64 at_, .string bx, .string id, .int .i64 kd, .int .i64 lg, .string frm]) (by rfl) (by kernel_rfl) (by kernel_rfl) (by kernel_rfl) (by exact fun _ _ _ h => h) (by rfl) (fun w' hSw => exec_ldb Tryz.acT _ rfl _ rfl 56 [.int .i64 at_, .string bx, .string id, .int .i64 kd, .int .i64 lg, .string frm] (HB.out.grown hSw (by simp)) rfl) (by assumption) ?_
                        (try simp only [Act.put, List.setIfInBounds_toArray, List.set_cons_zero, List.set_cons_succ])
                        refine H_run (k := 9) (by rfl) (by kernel_rfl) (by rfl) (fun K hK => ?_)
                        go_simp
                        refine (actOrder_q ⟨at', bx', id', kd', lg', frm'⟩ ⟨at_, bx, id, kd, lg, frm⟩ _ (H.out.2 _ (mem_of_get HBB.out)) (H.out.2 _ (mem_of_get HZ.out))).mono ?_
                        rintro e w6 ⟨rfl, hq6⟩
                        have hgz := gr_none hHeld hq6.gr
                        refine hK _ _ hgz ?_
                        clear hK K hHeld hq6
                        have hHeld := hgz
                        have hO1 := HVO.out
                        (try simp only [Act.put, List.setIfInBounds_toArray, List.set_cons_zero, List.set_cons_succ])
                        refine H_take (k := 10) (v := ?_) (by rfl) (by kernel_rfl) (by kernel_rfl) (by kernel_rfl) (by exact fun _ _ _ h => h) (by rfl) ?_ (by assumption) ?_
                        rotate_left 1
                        · intro w hSw
                          (try dsimp only at hSw)
                          go_simp
                          (try with_reducible rfl)
                        (try simp only [Act.put, List.setIfInBounds_toArray, List.set_cons_zero, List.set_cons_succ])
                        refine H_take (k := 11) (v := ?_) (by rfl) (by kernel_rfl) (by kernel_rfl) (by kernel_rfl) (by exact fun _ _ _ h => h) (by rfl) ?_ (by assumption) ?_
                        rotate_left 1
                        · intro w hSw
                          (try dsimp only at hSw)
                          go_simp
                          (try with_reducible rfl)
                        (try simp only [Act.put, List.setIfInBounds_toArray, List.set_cons_zero, List.set_cons_succ])
                        refine H_take (k := 12) (v := ?_) (by rfl) (by kernel_rfl) (by kernel_rfl) (by kernel_rfl) (by exact fun _ _ _ h => h) (by rfl) ?_ (by assumption) ?_
                        rotate_left 1
                        · intro w hSw
                          (try dsimp only at hSw)
                          go_simp
                          (try with_reducible rfl)
                        (try simp only [Act.put, List.setIfInBounds_toArray, List.set_cons_zero, List.set_cons_succ])
                        refine H_done (by kernel_rfl) ?_
                        clear hi0 s1 s2 s3 s4 s5 s6 hO1
                        replace HG := Lib.hid (gr_none HG.out hgz)
                        clear hgz hHeld k0 k1 k2 k3 k4 k5
                        cases VO
                        · have HE := Lib.hid (acAt_e HZ.out HFZ.out HBB.out (of_decide_eq_false HVO.out))
                          go_wp2_with fail
                          go_roundw
                          case rel => exact ⟨k + 1, by omega, by go_num, HG.out, fstE_zero HA.out HE.out⟩
                          case measure => simp [intOf]; omega
                        · have e := acAt_7 HZ.out HFZ.out h0 HBB.out (of_decide_eq_true HVO.out)
                          have HFIN := Lib.hid (show acsE l = 7 by rw [HF.out, fstE_stop HA.out (by rw [e]; decide) hlt, e])
                          clear e
                          go_wp2_with fail
                          go_ret
                          exact ⟨by rw [HFIN.out]; rfl, HG.out⟩
                    · obtain ⟨q1, q2, q3⟩ := str_full hf0
                      have hf3 : acF ⟨at_, bx, id, kd, lg, frm⟩ = 3 := by rw [HO.out, hl0, decide_eq_false hf0]; rfl
                      clear hl0 hf0
                      have e := acAt_f HZ.out (show acF ⟨at_, bx, id, kd, lg, frm⟩ ≠ 0 by rw [hf3]; decide)
                      rw [hf3] at e
                      have HFIN := Lib.hid (show acsE l = 3 by rw [HF.out, fstE_stop HA.out (by rw [e]; decide) hlt, e])
                      clear e
                      go_wp2_with (first
                        | (go_at_call 59; refine (momentB_any _ _).mono ?_; rintro e w1 ⟨rfl, rfl⟩; rw [HM.out])
                        | (go_at_call 60; refine (in_any _ _ _ _).mono ?_; rintro e w1 ⟨rfl, rfl⟩; (first | rw [HKI.out] | rw [HLG.out] | fail))
                        | fail)
                      go_ret
                      exact ⟨by rw [HFIN.out]; rfl, HG.out⟩
                  · have d1 : (lg != 0) = true := by simpa using hl0
                    have hf3 : acF ⟨at_, bx, id, kd, lg, frm⟩ = 3 := by rw [HO.out, if_neg (by simpa using hl0)]
                    clear hl0
                    have e := acAt_f HZ.out (show acF ⟨at_, bx, id, kd, lg, frm⟩ ≠ 0 by rw [hf3]; decide)
                    rw [hf3] at e
                    have HFIN := Lib.hid (show acsE l = 3 by rw [HF.out, fstE_stop HA.out (by rw [e]; decide) hlt, e])
                    clear e
                    go_wp2_with (first
                      | (go_at_call 59; refine (momentB_any _ _).mono ?_; rintro e w1 ⟨rfl, rfl⟩; rw [HM.out])
                      | (go_at_call 60; refine (in_any _ _ _ _).mono ?_; rintro e w1 ⟨rfl, rfl⟩; (first | rw [HKI.out] | rw [HLG.out] | fail))
                      | fail)
                    go_ret
                    exact ⟨by rw [HFIN.out]; rfl, HG.out⟩
                · have HO := Lib.hid (acF_l (z := ⟨at_, bx, id, kd, lg, frm⟩) HM.out HKK.out HKI.out HLF.out)
                  dsimp only at HO
                  cases VL
                  · have hf1 : acF ⟨at_, bx, id, kd, lg, frm⟩ = 1 := by rw [HO.out, HLG.out]; rfl
                    have e := acAt_f HZ.out (show acF ⟨at_, bx, id, kd, lg, frm⟩ ≠ 0 by rw [hf1]; decide)
                    rw [hf1] at e
                    have HFIN := Lib.hid (show acsE l = 1 by rw [HF.out, fstE_stop HA.out (by rw [e]; decide) hlt, e])
                    clear e
                    go_wp2_with (first
                      | (go_at_call 59; refine (momentB_any _ _).mono ?_; rintro e w1 ⟨rfl, rfl⟩; rw [HM.out])
                      | (go_at_call 60; refine (in_any _ _ _ _).mono ?_; rintro e w1 ⟨rfl, rfl⟩; (first | rw [HKI.out] | rw [HLG.out] | fail))
                      | fail)
                    go_ret
                    exact ⟨by rw [HFIN.out]; rfl, HG.out⟩
                  · go_wp2_with (first
                      | (go_at_call 59; refine (momentB_any _ _).mono ?_; rintro e w1 ⟨rfl, rfl⟩; rw [HM.out])
                      | (go_at_call 60; refine (in_any _ _ _ _).mono ?_; rintro e w1 ⟨rfl, rfl⟩; (first | rw [HKI.out] | rw [HLG.out] | fail))
                      | fail)
                    refine (callerId_any frm _ (by omega)).mono ?_
                    rintro e w4 ⟨rfl, hg4⟩
                    have hsB := HB.out.grown hg4 (by simp)
                    replace HG := Lib.hid (gr_none HG.out hg4)
                    clear k0 k1 k2 k3 k4 k5
                    have k0 := hsB.cell 0; have k1 := hsB.cell 1; have k2 := hsB.cell 2; have k3 := hsB.cell 3; have k4 := hsB.cell 4; have k5 := hsB.cell 5
                    replace HB := Lib.hid hsB
                    clear hg4 hsB
                    obtain ⟨FO, hFO⟩ : ∃ V, fromOk (nb frm) = V := ⟨_, rfl⟩
                    have HFO := Lib.hid hFO
                    rw [hFO]
                    clear hFO
                    cases FO
                    · have hf3 : acF ⟨at_, bx, id, kd, lg, frm⟩ = 3 := by rw [HO.out, HLG.out, HFO.out]; rfl
                      have e := acAt_f HZ.out (show acF ⟨at_, bx, id, kd, lg, frm⟩ ≠ 0 by rw [hf3]; decide)
                      rw [hf3] at e
                      have HFIN := Lib.hid (show acsE l = 3 by rw [HF.out, fstE_stop HA.out (by rw [e]; decide) hlt, e])
                      clear e
                      go_wp2_with (first
                        | (go_at_call 59; refine (momentB_any _ _).mono ?_; rintro e w1 ⟨rfl, rfl⟩; rw [HM.out])
                        | (go_at_call 60; refine (in_any _ _ _ _).mono ?_; rintro e w1 ⟨rfl, rfl⟩; (first | rw [HKI.out] | rw [HLG.out] | fail))
                        | fail)
                      go_ret
                      exact ⟨by rw [HFIN.out]; rfl, HG.out⟩
                    · have hfz : acF ⟨at_, bx, id, kd, lg, frm⟩ = 0 := by rw [HO.out, HLG.out, HFO.out]; rfl
                      go_wp2_with (first
                        | (go_at_call 59; refine (momentB_any _ _).mono ?_; rintro e w1 ⟨rfl, rfl⟩; rw [HM.out])
                        | (go_at_call 60; refine (in_any _ _ _ _).mono ?_; rintro e w1 ⟨rfl, rfl⟩; (first | rw [HKI.out] | rw [HLG.out] | fail))
                        | fail)
                      clear hLF hLF2
                      have HFZ := Lib.hid hfz
                      clear hfz
                      rcases Nat.eq_zero_or_pos k with h0 | h0
                      · have HE := Lib.hid (acAt_z HZ.out HFZ.out (by omega))
                        have hi0 : decide ((0 : Int) < (k : Int)) = false := decide_eq_false (by omega)
                        refine H_begin (fun w' => w4.grownBy w' none) (by kernel_rfl) ?_
                        have hHeld : w4.grownBy w4.drew none := gr_drew (gr_refl _ _)
                        refine H_take (k := 0) (v := ?_) (by rfl) (by kernel_rfl) (by kernel_rfl) (by kernel_rfl) (by exact fun _ _ _ h => h) (by rfl) ?_ (by assumption) ?_
                        rotate_left 1
                        · intro w hSw
                          (try dsimp only at hSw)
                          go_simp
                          (try with_reducible rfl)
                        (try simp only [Act.put, List.setIfInBounds_toArray, List.set_cons_zero, List.set_cons_succ])
                        refine H_take (k := 1) (v := ?_) (by rfl) (by kernel_rfl) (by kernel_rfl) (by kernel_rfl) (by exact fun _ _ _ h => h) (by rfl) ?_ (by assumption) ?_
                        rotate_left 1
                        · intro w hSw
                          (try dsimp only at hSw)
                          go_simp
                          (try with_reducible rfl)
                        (try simp only [Act.put, List.setIfInBounds_toArray, List.set_cons_zero, List.set_cons_succ])
                        refine H_take (k := 2) (v := ?_) (by rfl) (by kernel_rfl) (by kernel_rfl) (by kernel_rfl) (by exact fun _ _ _ h => h) (by rfl) ?_ (by assumption) ?_
                        rotate_left 1
                        · intro w hSw
                          (try dsimp only at hSw)
                          go_simp
                          (try with_reducible rfl)
                        (try simp only [Act.put, List.setIfInBounds_toArray, List.set_cons_zero, List.set_cons_succ])
                        refine H_skip (k := 3) (by rfl) (by kernel_rfl) (by kernel_rfl) (by kernel_rfl) (by exact fun _ _ _ h => h) (by rfl) (by assumption) ?_
                        (try simp only [Act.put, List.setIfInBounds_toArray, List.set_cons_zero, List.set_cons_succ])
                        refine H_skip (k := 4) (by rfl) (by kernel_rfl) (by kernel_rfl) (by kernel_rfl) (by exact fun _ _ _ h => h) (by rfl) (by assumption) ?_
                        (try simp only [Act.put, List.setIfInBounds_toArray, List.set_cons_zero, List.set_cons_succ])
                        refine H_skip (k := 5) (by rfl) (by kernel_rfl) (by kernel_rfl) (by kernel_rfl) (by exact fun _ _ _ h => h) (by rfl) (by assumption) ?_
                        (try simp only [Act.put, List.setIfInBounds_toArray, List.set_cons_zero, List.set_cons_succ])
                        refine H_skip (k := 6) (by rfl) (by kernel_rfl) (by kernel_rfl) (by kernel_rfl) (by exact fun _ _ _ h => h) (by rfl) (by assumption) ?_
                        (try simp only [Act.put, List.setIfInBounds_toArray, List.set_cons_zero, List.set_cons_succ])
                        refine H_skip (k := 7) (by rfl) (by kernel_rfl) (by kernel_rfl) (by kernel_rfl) (by exact fun _ _ _ h => h) (by rfl) (by assumption) ?_
                        (try simp only [Act.put, List.setIfInBounds_toArray, List.set_cons_zero, List.set_cons_succ])
                        refine H_skip (k := 8) (by rfl) (by kernel_rfl) (by kernel_rfl) (by kernel_rfl) (by exact fun _ _ _ h => h) (by rfl) (by assumption) ?_
                        (try simp only [Act.put, List.setIfInBounds_toArray, List.set_cons_zero, List.set_cons_succ])
                        refine H_skip (k := 9) (by rfl) (by kernel_rfl) (by kernel_rfl) (by kernel_rfl) (by exact fun _ _ _ h => h) (by rfl) (by assumption) ?_
                        (try simp only [Act.put, List.setIfInBounds_toArray, List.set_cons_zero, List.set_cons_succ])
                        refine H_skip (k := 10) (by rfl) (by kernel_rfl) (by kernel_rfl) (by kernel_rfl) (by exact fun _ _ _ h => h) (by rfl) (by assumption) ?_
                        (try simp only [Act.put, List.setIfInBounds_toArray, List.set_cons_zero, List.set_cons_succ])
                        refine H_take (k := 11) (v := ?_) (by rfl) (by kernel_rfl) (by kernel_rfl) (by kernel_rfl) (by exact fun _ _ _ h => h) (by rfl) ?_ (by assumption) ?_
                        rotate_left 1
                        · intro w hSw
                          (try dsimp only at hSw)
                          go_simp
                          (try with_reducible rfl)
                        (try simp only [Act.put, List.setIfInBounds_toArray, List.set_cons_zero, List.set_cons_succ])
                        refine H_take (k := 12) (v := ?_) (by rfl) (by kernel_rfl) (by kernel_rfl) (by kernel_rfl) (by exact fun _ _ _ h => h) (by rfl) ?_ (by assumption) ?_
                        rotate_left 1
                        · intro w hSw
                          (try dsimp only at hSw)
                          go_simp
                          (try with_reducible rfl)
                        (try simp only [Act.put, List.setIfInBounds_toArray, List.set_cons_zero, List.set_cons_succ])
                        refine H_done (by kernel_rfl) ?_
                        replace HG := Lib.hid (gr_none HG.out hHeld)
                        clear hHeld k0 k1 k2 k3 k4 k5 hi0
                        go_wp2_with fail
                        go_roundw
                        case rel => exact ⟨k + 1, by omega, by go_num, HG.out, fstE_zero HA.out HE.out⟩
                        case measure => simp [intOf]; omega
                      · obtain ⟨⟨at', bx', id', kd', lg', frm'⟩, hb⟩ : ∃ b, l[k - 1]? = some b := ⟨_, List.getElem?_eq_getElem (by rw [H.out.1.len]; omega)⟩
                        have HBB := Lib.hid hb; clear hb
                        have hi0 : decide ((0 : Int) < (k : Int)) = true := decide_eq_true (by omega)
                        have s2 : (0 : Int) ≤ (k : Int) - 1 := by omega
                        have s5 : (1 : Int) ≤ (k : Int) := by omega
                        have s3 : (k : Int) - 1 < (n : Int) := by omega
                        have s6 : (0 : Int) < (n : Int) := by omega
                        have s1 : IntKind.i64.wrap ((k : Int) - 1) = (k : Int) - 1 := IntWalk.i64_in _ (by omega)
                        have s4 : ((k : Int) - 1).toNat = k - 1 := by omega
                        obtain ⟨VO, hVO⟩ : ∃ V, decide (0 ≤ acCmp ⟨at', bx', id', kd', lg', frm'⟩ ⟨at_, bx, id, kd, lg, frm⟩) = V := ⟨_, rfl⟩
                        have HVO := Lib.hid hVO; clear hVO
                        refine H_begin (fun w' => w4.grownBy w' none) (by kernel_rfl) ?_
                        have hHeld : w4.grownBy w4.drew none := gr_drew (gr_refl _ _)
                        refine H_take (k := 0) (v := ?_) (by rfl) (by kernel_rfl) (by kernel_rfl) (by kernel_rfl) (by exact fun _ _ _ h => h) (by rfl) ?_ (by assumption) ?_
                        rotate_left 1
                        · intro w hSw
                          (try dsimp only at hSw)
                          go_simp
                          (try with_reducible rfl)
                        (try simp only [Act.put, List.setIfInBounds_toArray, List.set_cons_zero, List.set_cons_succ])
                        refine H_take (k := 1) (v := ?_) (by rfl) (by kernel_rfl) (by kernel_rfl) (by kernel_rfl) (by exact fun _ _ _ h => h) (by rfl) ?_ (by assumption) ?_
                        rotate_left 1
                        · intro w hSw
                          (try dsimp only at hSw)
                          go_simp
                          (try with_reducible rfl)
                        (try simp only [Act.put, List.setIfInBounds_toArray, List.set_cons_zero, List.set_cons_succ])
                        refine H_take (k := 2) (v := ?_) (by rfl) (by kernel_rfl) (by kernel_rfl) (by kernel_rfl) (by exact fun _ _ _ h => h) (by rfl) ?_ (by assumption) ?_
                        rotate_left 1
                        · intro w hSw
                          (try dsimp only at hSw)
                          go_simp
                          (try with_reducible rfl)
                        (try simp only [Act.put, List.setIfInBounds_toArray, List.set_cons_zero, List.set_cons_succ])
                        refine H_take (k := 3) (v := ?_) (by rfl) (by kernel_rfl) (by kernel_rfl) (by kernel_rfl) (by exact fun _ _ _ h => h) (by rfl) ?_ (by assumption) ?_
                        rotate_left 1
                        · intro w hSw
                          (try dsimp only at hSw)
                          go_simp
                          (try with_reducible rfl)
                        (try simp only [Act.put, List.setIfInBounds_toArray, List.set_cons_zero, List.set_cons_succ])
                        refine H_take (k := 4) (v := ?_) (by rfl) (by kernel_rfl) (by kernel_rfl) (by kernel_rfl) (by exact fun _ _ _ h => h) (by rfl) ?_ (by assumption) ?_
                        rotate_left 1
                        · intro w hSw
                          (try dsimp only at hSw)
                          go_simp
                          (try with_reducible rfl)
                        (try simp only [Act.put, List.setIfInBounds_toArray, List.set_cons_zero, List.set_cons_succ])
                        refine H_take (k := 5) (v := ?_) (by rfl) (by kernel_rfl) (by kernel_rfl) (by kernel_rfl) (by exact fun _ _ _ h => h) (by rfl) ?_ (by assumption) ?_
                        rotate_left 1
                        · intro w hSw
                          (try dsimp only at hSw)
                          go_simp
                          (try with_reducible rfl)
                        (try simp only [Act.put, List.setIfInBounds_toArray, List.set_cons_zero, List.set_cons_succ])
                        refine H_take (k := 6) (v := ?_) (by rfl) (by kernel_rfl) (by kernel_rfl) (by kernel_rfl) (by exact fun _ _ _ h => h) (by rfl) ?_ (by assumption) ?_
                        rotate_left 1
                        · intro w hSw
                          (try dsimp only at hSw)
                          go_simp
                          (try with_reducible rfl)
                        (try simp only [Act.put, List.setIfInBounds_toArray, List.set_cons_zero, List.set_cons_succ])
                        refine H_take (k := 7) (v := .agg #[.int .i64 at', .string bx', .string id', .int .i64 kd', .int .i64 lg', .string frm']) (by rfl) (by kernel_rfl) (by kernel_rfl) (by kernel_rfl) (by exact fun _ _ _ h => h) (by rfl) (fun w' hSw => exec_ldr Tryz.acT _ rfl _ rfl [.int .i64 at', .string bx', .string id', .int .i64 kd', .int .i64 lg', .string frm'] (fun j u hu => by rw [add_mk]; exact ((H.out.1.grown (gr_none HG.out hSw) (fun g e => by cases e)).at_ ActV.row_len HBB.out) j u hu) rfl) (by assumption) ?_
                        (try simp only [Act.put, List.setIfInBounds_toArray, List.set_cons_zero, List.set_cons_succ])
                        refine H_take (k := 8) (v := .agg #[.int .i64 at_, .string bx, .string id, .int .i64 kd, .int .i64 lg, .string frm]) (by rfl) (by kernel_rfl) (by kernel_rfl) (by kernel_rfl) (by exact fun _ _ _ h => h) (by rfl) (fun w' hSw => exec_ldb Tryz.acT _ rfl _ rfl 56 [.int .i64 at_, .string bx, .string id, .int .i64 kd, .int .i64 lg, .string frm] (HB.out.grown hSw (by simp)) rfl) (by assumption) ?_
                        (try simp only [Act.put, List.setIfInBounds_toArray, List.set_cons_zero, List.set_cons_succ])
                        refine H_run (k := 9) (by rfl) (by kernel_rfl) (by rfl) (fun K hK => ?_)
                        go_simp
                        refine (actOrder_q ⟨at', bx', id', kd', lg', frm'⟩ ⟨at_, bx, id, kd, lg, frm⟩ _ (H.out.2 _ (mem_of_get HBB.out)) (H.out.2 _ (mem_of_get HZ.out))).mono ?_
                        rintro e w6 ⟨rfl, hq6⟩
                        have hgz := gr_none hHeld hq6.gr
                        refine hK _ _ hgz ?_
                        clear hK K hHeld hq6
                        have hHeld := hgz
                        have hO1 := HVO.out
                        (try simp only [Act.put, List.setIfInBounds_toArray, List.set_cons_zero, List.set_cons_succ])
                        refine H_take (k := 10) (v := ?_) (by rfl) (by kernel_rfl) (by kernel_rfl) (by kernel_rfl) (by exact fun _ _ _ h => h) (by rfl) ?_ (by assumption) ?_
                        rotate_left 1
                        · intro w hSw
                          (try dsimp only at hSw)
                          go_simp
                          (try with_reducible rfl)
                        (try simp only [Act.put, List.setIfInBounds_toArray, List.set_cons_zero, List.set_cons_succ])
                        refine H_take (k := 11) (v := ?_) (by rfl) (by kernel_rfl) (by kernel_rfl) (by kernel_rfl) (by exact fun _ _ _ h => h) (by rfl) ?_ (by assumption) ?_
                        rotate_left 1
                        · intro w hSw
                          (try dsimp only at hSw)
                          go_simp
                          (try with_reducible rfl)
                        (try simp only [Act.put, List.setIfInBounds_toArray, List.set_cons_zero, List.set_cons_succ])
                        refine H_take (k := 12) (v := ?_) (by rfl) (by kernel_rfl) (by kernel_rfl) (by kernel_rfl) (by exact fun _ _ _ h => h) (by rfl) ?_ (by assumption) ?_
                        rotate_left 1
                        · intro w hSw
                          (try dsimp only at hSw)
                          go_simp
                          (try with_reducible rfl)
                        (try simp only [Act.put, List.setIfInBounds_toArray, List.set_cons_zero, List.set_cons_succ])
                        refine H_done (by kernel_rfl) ?_
                        clear hi0 s1 s2 s3 s4 s5 s6 hO1
                        replace HG := Lib.hid (gr_none HG.out hgz)
                        clear hgz hHeld k0 k1 k2 k3 k4 k5
                        cases VO
                        · have HE := Lib.hid (acAt_e HZ.out HFZ.out HBB.out (of_decide_eq_false HVO.out))
                          go_wp2_with fail
                          go_roundw
                          case rel => exact ⟨k + 1, by omega, by go_num, HG.out, fstE_zero HA.out HE.out⟩
                          case measure => simp [intOf]; omega
                        · have e := acAt_7 HZ.out HFZ.out h0 HBB.out (of_decide_eq_true HVO.out)
                          have HFIN := Lib.hid (show acsE l = 7 by rw [HF.out, fstE_stop HA.out (by rw [e]; decide) hlt, e])
                          clear e
                          go_wp2_with fail
                          go_ret
                          exact ⟨by rw [HFIN.out]; rfl, HG.out⟩
      · obtain rfl : k = n := by omega
        have HFIN := Lib.hid (show acsE l = 0 by rw [HF.out, HA.out])
        go_wp2_with fail
        go_ret
        exact ⟨by rw [HFIN.out]; rfl, HG.out⟩
theorem actsFault_any (lo : Nat) (A : Option Addr) (n c : Nat) (l : List ActV) (w : World) (h : Acs w lo A n c l) (hn : n ≤ 1000000000) :
    Calls Tryz.prog 24 #[.slice A n c] w (RetV (.int .i64 (acsE l)) w) := actsFault_anyL lo A n c l w h.l hn
end Go.Proofs.YtgogiljplnninaaGreatDoor

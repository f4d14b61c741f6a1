/- Contract of the document's ForwardsFault. Conditions: none. -/
import Derived.Test.YtpjheibkacbbcaaGreatDoorCf1
import Derived.Test.YtpjheibkacbbcaaGreatDoorPlan3
import Derived.Test.YtpjheibkacbbcaaGreatDoorBun6
namespace Go.Proofs.YtpjheibkacbbcaaGreatDoor
open Go.RowKit

set_option maxHeartbeats 16000000 in
set_option maxRecDepth 100000 in
theorem forwardsFault_any (lo : Nat) (p : PlV) (A : Option Addr) (n c : Nat) (l : List FwV) (w : World) (hpl : PlOk w lo p) (h : Fws w lo A n c l) (hn : n ≤ 1000000000) :
    Calls Tryz.prog 33 #[.agg #[.slice p.cA p.cn p.cc, .slice p.hA p.hn p.hc], .slice A n c] w (RetV (.int .i64 (fwE p.hours l)) w) := by
  have H := Lib.hid h; have HPL := Lib.hid hpl; clear h hpl
  obtain ⟨W1, hW⟩ : ∃ W1, w.alloc (.cells #[.slice p.cA p.cn p.cc, .slice p.hA p.hn p.hc] 48) = W1 := ⟨_, rfl⟩
  obtain ⟨pb, hpb⟩ : ∃ b, w.heap.size = b := ⟨_, rfl⟩
  have HP := Lib.hid (show Blk W1 pb 48 #[.slice p.cA p.cn p.cc, .slice p.hA p.hn p.hc] by rw [← hW, ← hpb]; exact Blk.new _ _ _)
  have HG := Lib.hid (show w.grownBy W1 none by rw [← hW]; exact gr_alloc (gr_refl _ _) _)
  have HW := Lib.hid hW; have HPB := Lib.hid hpb; clear hW hpb
  go_enter Tryz.func33, Tryz.ntmps33
  go_upto_region 1 with (fail)
  rw [HW.out, HPB.out]
  clear HW HPB
  by_cases hb : 1000 < n
  · have HF := Lib.hid (show fwE p.hours l = 2 by unfold fwE; rw [if_pos (by rw [H.out.1.len]; exact hb)])
    have hb' : decide ((1000 : Int) < (n : Int)) = true := decide_eq_true (by omega)
    go_wp2_with fail
    go_ret
    exact ⟨by rw [HF.out]; try rfl, HG.out⟩
  · have hb' : decide ((1000 : Int) < (n : Int)) = false := decide_eq_false (by omega)
    have HF := Lib.hid (show fwE p.hours l = fstE (fwAt p.hours l) n by unfold fwE; rw [if_neg (by rw [H.out.1.len]; exact hb), H.out.1.len])
    go_wp2_with fail
    go_loopw [5, 6, 7, 8, 14] (fun _ _ _ _ t wr => ∃ k : Nat, k ≤ n ∧ t = .int .i64 k ∧ w.grownBy wr none ∧ Blk wr pb 48 #[.slice p.cA p.cn p.cc, .slice p.hA p.hn p.hc] ∧ fstE (fwAt p.hours l) k = 0) (fun _ _ _ _ t _ => n - (intOf t).toNat)
    case atStart => exact ⟨0, Nat.zero_le _, rfl, HG.out, HP.out, rfl⟩
    case round =>
      clear HG HP
      obtain ⟨k, hk, rfl, hg, hp, ha⟩ := hrel
      have HA := Lib.hid ha; have HG := Lib.hid hg; have HP := Lib.hid hp; clear ha hg hp
      by_cases hlt : k < n
      · obtain ⟨g, o, ⟨ln, wh, too, hr⟩, rfl, _, hgl, hz, hc⟩ := (H.out.1.grown HG.out (fun g e => by cases e)).get FwV.row_len hlt
        obtain ⟨p1, p2, p3⟩ := H.out.2 _ (mem_of_get hz)
        dsimp only at p1 p2 p3
        have HZ := Lib.hid hz; have HC := Lib.hid hc; clear hz hc
        obtain ⟨w1, hw1⟩ : ∃ v, wr.alloc (.cells #[.string ln, .int .i64 wh, .string too, .string hr] 114) = v := ⟨_, rfl⟩
        obtain ⟨zb, hzb⟩ : ∃ b, wr.heap.size = b := ⟨_, rfl⟩
        have HB := Lib.hid (show Blk w1 zb 114 #[.string ln, .int .i64 wh, .string too, .string hr] by rw [← hw1, ← hzb]; exact Blk.new _ _ _)
        have hg1 : wr.grownBy w1 none := by rw [← hw1]; exact gr_alloc (gr_refl _ _) _
        replace HG := Lib.hid (gr_none HG.out hg1)
        replace HP := Lib.hid (HP.out.grown hg1 (by simp))
        have HW1 := Lib.hid hw1; have HZB := Lib.hid hzb
        clear hw1 hzb hg1
        go_upto_region 6 with (first
          | (refine wpl_load_at Tryz.fwT rfl _ rfl _ rfl [.string ln, .int .i64 wh, .string too, .string hr] rfl (fun j u hu => by rw [add_mk]; exact HC.out j u hu) ?_)
          | fail)
        rw [HW1.out]
        (try rw [HZB.out])
        clear HW1 HZB HC
        have k0 := HB.out.cell 0; have k1 := HB.out.cell 1; have k2 := HB.out.cell 2; have k3 := HB.out.cell 3
        obtain ⟨VK, hKI⟩ : ∃ V, inB wh 1 3 = V := ⟨_, rfl⟩
        have HKI := Lib.hid hKI
        clear hKI
        obtain ⟨EQ, hEQ⟩ : ∃ V, (nb too == nb ln) = V := ⟨_, rfl⟩
        have HEQ := Lib.hid hEQ
        have hEQ2 : (too.toList == ln.toList) = EQ := by rw [eqS_nb]; exact hEQ
        clear hEQ
        go_wp2_with fail
        refine (keyRefR_any ln _ (by omega)).mono ?_
        rintro e w2 ⟨rfl, hg2⟩
        clear k0 k1 k2 k3
        replace HB := Lib.hid (HB.out.grown hg2 (by simp))
        replace HP := Lib.hid (HP.out.grown hg2 (by simp))
        replace HG := Lib.hid (gr_none HG.out hg2)
        clear hg2
        have k0 := HB.out.cell 0; have k1 := HB.out.cell 1; have k2 := HB.out.cell 2; have k3 := HB.out.cell 3
        obtain ⟨K1, hK1⟩ : ∃ V, keyOk (nb ln) = V := ⟨_, rfl⟩
        have HK1 := Lib.hid hK1
        rw [hK1]
        clear hK1
        cases K1
        · have hf := fwF_5 (hs := p.hours) (f := ⟨ln, wh, too, hr⟩) (by show (keyOk (nb ln) && _) = false; rw [HK1.out]; rfl)
          have e := fwAt_f HZ.out (show fwF p.hours ⟨ln, wh, too, hr⟩ ≠ 0 by rw [hf]; decide)
          rw [hf] at e
          have HFIN := Lib.hid (show fwE p.hours l = 5 by rw [HF.out, fstE_stop HA.out (by rw [e]; decide) hlt, e])
          clear e
          go_wp2_with fail
          go_ret
          exact ⟨by rw [HFIN.out]; try rfl, HG.out⟩
        · go_wp2_with fail
          refine (keyRefR_any too _ (by omega)).mono ?_
          rintro e wq ⟨rfl, hg3⟩
          clear k0 k1 k2 k3
          replace HB := Lib.hid (HB.out.grown hg3 (by simp))
          replace HP := Lib.hid (HP.out.grown hg3 (by simp))
          replace HG := Lib.hid (gr_none HG.out hg3)
          clear hg3
          have k0 := HB.out.cell 0; have k1 := HB.out.cell 1; have k2 := HB.out.cell 2; have k3 := HB.out.cell 3
          obtain ⟨K2, hK2⟩ : ∃ V, keyOk (nb too) = V := ⟨_, rfl⟩
          have HK2 := Lib.hid hK2
          rw [hK2]
          clear hK2
          cases K2
          · have hf := fwF_5 (hs := p.hours) (f := ⟨ln, wh, too, hr⟩) (by show (keyOk (nb ln) && keyOk (nb too)) = false; rw [HK1.out, HK2.out]; rfl)
            have e := fwAt_f HZ.out (show fwF p.hours ⟨ln, wh, too, hr⟩ ≠ 0 by rw [hf]; decide)
            rw [hf] at e
            have HFIN := Lib.hid (show fwE p.hours l = 5 by rw [HF.out, fstE_stop HA.out (by rw [e]; decide) hlt, e])
            clear e
            go_wp2_with fail
            go_ret
            exact ⟨by rw [HFIN.out]; try rfl, HG.out⟩
          · have HKK := Lib.hid (show (keyOk (nb (FwV.line ⟨ln, wh, too, hr⟩)) && keyOk (nb (FwV.to_ ⟨ln, wh, too, hr⟩))) = true by show (keyOk (nb ln) && keyOk (nb too)) = true; rw [HK1.out, HK2.out]; rfl)
            cases VK
            · have hf := fwF_4 (hs := p.hours) (f := ⟨ln, wh, too, hr⟩) HKK.out HKI.out
              have e := fwAt_f HZ.out (show fwF p.hours ⟨ln, wh, too, hr⟩ ≠ 0 by rw [hf]; decide)
              rw [hf] at e
              have HFIN := Lib.hid (show fwE p.hours l = 4 by rw [HF.out, fstE_stop HA.out (by rw [e]; decide) hlt, e])
              clear e
              go_wp2_with (first
                | (go_at_call 105; refine (in_any _ _ _ _).mono ?_; rintro e w9 ⟨rfl, rfl⟩; rw [HKI.out])
                | fail)
              go_ret
              exact ⟨by rw [HFIN.out]; try rfl, HG.out⟩
            · by_cases hhe : nb hr = []
              · have q0 := str_nil hhe
                have HHR := Lib.hid (show hrsOk p.hours hr = true by unfold hrsOk; rw [decide_eq_true hhe]; rfl)
                clear hhe
                cases EQ
                · have hfz := fwF_0 (hs := p.hours) (f := ⟨ln, wh, too, hr⟩) HKK.out HKI.out HHR.out HEQ.out
                  have HFZ := Lib.hid hfz
                  clear hfz
                  obtain ⟨wv, rfl⟩ : ∃ wv : World, wv = wq := ⟨_, rfl⟩
                  rcases Nat.eq_zero_or_pos k with h0 | h0
                  · have HE := Lib.hid (fwAt_z HZ.out HFZ.out (by omega))
                    have hi0 : ((k : Int) == 0) = true := by simp [h0]
                    go_wp2_with (first
                    | (go_at_call 105; refine (in_any _ _ _ _).mono ?_; rintro e w9 ⟨rfl, rfl⟩; rw [HKI.out])
                    | fail)
                    go_roundw
                    case rel => exact ⟨k + 1, by omega, by go_num, HG.out, HP.out, fstE_zero HA.out HE.out⟩
                    case measure => simp [intOf]; omega
                  · obtain ⟨⟨ln', wh', too', hr'⟩, hb⟩ : ∃ b, l[k - 1]? = some b := ⟨_, List.getElem?_eq_getElem (by rw [H.out.1.len]; omega)⟩
                    have HBB := Lib.hid hb; clear hb
                    have HYW := Lib.hid (show inB wh' 1 3 = true from (fwF_right (fw_prev HA.out h0 HBB.out)).2.2.1)
                    have s2 : (0 : Int) ≤ (k : Int) - 1 := by omega
                    have s5 : (1 : Int) ≤ (k : Int) := by omega
                    have s3 : (k : Int) - 1 < (n : Int) := by omega
                    have s6 : (0 : Int) < (n : Int) := by omega
                    have s1 : IntKind.i64.wrap ((k : Int) - 1) = (k : Int) - 1 := IntWalk.i64_in _ (by omega)
                    have s4 : ((k : Int) - 1).toNat = k - 1 := by omega
                    obtain ⟨VO, hVO⟩ : ∃ V, decide (0 ≤ fwCmp ⟨ln', wh', too', hr'⟩ ⟨ln, wh, too, hr⟩) = V := ⟨_, rfl⟩
                    have HVO := Lib.hid hVO; clear hVO
                    have hi0 : ((k : Int) == 0) = false := by simp; omega
                    have HCC := Lib.hid ((H.out.1.grown HG.out (fun g e => by cases e)).at_ FwV.row_len HBB.out)
                    obtain ⟨wu, hwu⟩ : ∃ v, wv.alloc (.cells #[.string ln', .int .i64 wh', .string too', .string hr'] 114) = v := ⟨_, rfl⟩
                    obtain ⟨ob, hob⟩ : ∃ b, wv.heap.size = b := ⟨_, rfl⟩
                    have HOB := Lib.hid (show Blk wu ob 114 #[.string ln', .int .i64 wh', .string too', .string hr'] by rw [← hwu, ← hob]; exact Blk.new _ _ _)
                    have hgu : wv.grownBy wu none := by rw [← hwu]; exact gr_alloc (gr_refl _ _) _
                    have HWU := Lib.hid hwu; have HOBE := Lib.hid hob
                    clear hwu hob
                    go_upto_region 17 with (first
                      | (go_at_call 105; refine (in_any _ _ _ _).mono ?_; rintro e w9 ⟨rfl, rfl⟩; rw [HKI.out])
                      | (refine wpl_load_at Tryz.fwT rfl _ rfl _ rfl [.string ln', .int .i64 wh', .string too', .string hr'] rfl (fun j u hu => by rw [add_mk]; exact HCC.out j u hu) ?_)
                      | fail)
                    rw [HWU.out]
                    (try rw [HOBE.out])
                    clear HWU HOBE HCC
                    clear k0 k1 k2 k3
                    replace HB := Lib.hid (HB.out.grown hgu (by simp))
                    replace HP := Lib.hid (HP.out.grown hgu (by simp))
                    replace HG := Lib.hid (gr_none HG.out hgu)
                    clear hgu
                    have k0 := HB.out.cell 0; have k1 := HB.out.cell 1; have k2 := HB.out.cell 2; have k3 := HB.out.cell 3
                    refine H_begin (fun w' => wu.grownBy w' none) (by kernel_rfl) ?_
                    have hHeld : wu.grownBy wu.drew none := gr_drew (gr_refl _ _)
                    generalize wu.drew = wd at hHeld ⊢
                    refine H_take (k := 0) (v := ?_) (by rfl) (by kernel_rfl) (by kernel_rfl) (by kernel_rfl) (by exact fun _ _ _ h => h) (by rfl) ?_ (by assumption) ?_
                    rotate_left 1
                    · intro w hSw
                      (try dsimp only at hSw)
                      go_simp
                      (try with_reducible rfl)
                    (try simp only [Act.put, List.setIfInBounds_toArray, List.set_cons_zero, List.set_cons_succ])
                    refine H_take (k := 1) (v := .agg #[.string ln', .int .i64 wh', .string too', .string hr']) (by rfl) (by kernel_rfl) (by kernel_rfl) (by kernel_rfl) (by exact fun _ _ _ h => h) (by rfl) (fun w' hSw => exec_ldb Tryz.fwT _ rfl _ rfl 114 [.string ln', .int .i64 wh', .string too', .string hr'] (HOB.out.grown hSw (by simp)) rfl) (by assumption) ?_
                    (try simp only [Act.put, List.setIfInBounds_toArray, List.set_cons_zero, List.set_cons_succ])
                    refine H_take (k := 3) (v := ?_) (by rfl) (by kernel_rfl) (by kernel_rfl) (by kernel_rfl) (by exact fun _ _ _ h => h) (by rfl) ?_ (by assumption) ?_
                    rotate_left 1
                    · intro w hSw
                      (try dsimp only at hSw)
                      go_simp
                      (try with_reducible rfl)
                    (try simp only [Act.put, List.setIfInBounds_toArray, List.set_cons_zero, List.set_cons_succ])
                    refine H_take (k := 4) (v := .agg #[.string ln, .int .i64 wh, .string too, .string hr]) (by rfl) (by kernel_rfl) (by kernel_rfl) (by kernel_rfl) (by exact fun _ _ _ h => h) (by rfl) (fun w' hSw => exec_ldb Tryz.fwT _ rfl _ rfl 114 [.string ln, .int .i64 wh, .string too, .string hr] (HB.out.grown hSw (by simp)) rfl) (by assumption) ?_
                    (try simp only [Act.put, List.setIfInBounds_toArray, List.set_cons_zero, List.set_cons_succ])
                    refine H_run (k := 2) (by rfl) (by kernel_rfl) (by rfl) (fun K hK => ?_)
                    go_simp
                    refine (fwKey_any ⟨ln', wh', too', hr'⟩ _ HYW.out).mono ?_
                    rintro e w6 ⟨g6, rfl, hr6, hg6⟩
                    have hgz := gr_none hHeld hg6
                    refine hK _ _ hgz ?_
                    clear hK K hHeld hg6
                    have hHeld := hgz
                    clear hgz
                    (try simp only [Act.put, List.setIfInBounds_toArray, List.set_cons_zero, List.set_cons_succ])
                    refine H_run (k := 5) (by rfl) (by kernel_rfl) (by rfl) (fun K hK => ?_)
                    go_simp
                    refine (fwKey_any ⟨ln, wh, too, hr⟩ _ HKI.out).mono ?_
                    rintro e w7 ⟨g7, rfl, hr7, hg7⟩
                    have hgz := gr_none hHeld hg7
                    have HR6 := Lib.hid (hr6.grown hg7 (fun g e => by cases e)); have HR7 := Lib.hid hr7
                    refine hK _ _ hgz ?_
                    clear hK K hHeld hg7 hr6 hr7
                    have hHeld := hgz
                    clear hgz
                    (try simp only [Act.put, List.setIfInBounds_toArray, List.set_cons_zero, List.set_cons_succ])
                    refine H_run (k := 6) (by rfl) (by kernel_rfl) (by rfl) (fun K hK => ?_)
                    go_simp
                    refine same_calls (compareS_any _ _ _ _ 3 3 3 3 _ _ _ HR6.out HR7.out (by omega) (by omega)) ?_
                    refine hK _ _ hHeld ?_
                    clear hK K
                    have hO1 : decide (0 ≤ cmpLL cmpS [ln', dgS wh', hr'] [ln, dgS wh, hr]) = VO := (fw_order (a := ⟨ln', wh', too', hr'⟩) (b := ⟨ln, wh, too, hr⟩) HYW.out HKI.out).trans HVO.out
                    (try simp only [Act.put, List.setIfInBounds_toArray, List.set_cons_zero, List.set_cons_succ])
                    refine H_take (k := 7) (v := ?_) (by rfl) (by kernel_rfl) (by kernel_rfl) (by kernel_rfl) (by exact fun _ _ _ h => h) (by rfl) ?_ (by assumption) ?_
                    rotate_left 1
                    · intro w hSw
                      (try dsimp only at hSw)
                      go_simp
                      (try with_reducible rfl)
                    (try simp only [Act.put, List.setIfInBounds_toArray, List.set_cons_zero, List.set_cons_succ])
                    refine H_done (by kernel_rfl) ?_
                    clear hi0 s1 s2 s3 s4 s5 s6 hO1
                    replace HG := Lib.hid (gr_none HG.out hHeld)
                    replace HP := Lib.hid (HP.out.grown hHeld (by simp))
                    clear hHeld k0 k1 k2 k3
                    cases VO
                    · have HE := Lib.hid (fwAt_e HZ.out HFZ.out HBB.out (of_decide_eq_false HVO.out))
                      go_wp2_with fail
                      go_roundw
                      case rel => exact ⟨k + 1, by omega, by go_num, HG.out, HP.out, fstE_zero HA.out HE.out⟩
                      case measure => simp [intOf]; omega
                    · have e := fwAt_7 HZ.out HFZ.out h0 HBB.out (of_decide_eq_true HVO.out)
                      have HFIN := Lib.hid (show fwE p.hours l = 7 by rw [HF.out, fstE_stop HA.out (by rw [e]; decide) hlt, e])
                      clear e
                      go_wp2_with fail
                      go_ret
                      exact ⟨by rw [HFIN.out]; try rfl, HG.out⟩
                · have hf := fwF_14 (hs := p.hours) (f := ⟨ln, wh, too, hr⟩) HKK.out HKI.out HHR.out HEQ.out
                  have e := fwAt_f HZ.out (show fwF p.hours ⟨ln, wh, too, hr⟩ ≠ 0 by rw [hf]; decide)
                  rw [hf] at e
                  have HFIN := Lib.hid (show fwE p.hours l = 14 by rw [HF.out, fstE_stop HA.out (by rw [e]; decide) hlt, e])
                  clear e
                  go_wp2_with (first
                    | (go_at_call 105; refine (in_any _ _ _ _).mono ?_; rintro e w9 ⟨rfl, rfl⟩; rw [HKI.out])
                    | fail)
                  go_ret
                  exact ⟨by rw [HFIN.out]; try rfl, HG.out⟩
              · obtain ⟨q1, q2, q3⟩ := str_full hhe
                obtain ⟨I, hI⟩ : ∃ I, hrIx p.hours hr = I := ⟨_, rfl⟩
                have HI := Lib.hid hI
                have HBB0 := Lib.hid (show hrsOk p.hours hr = decide (0 ≤ I) by unfold hrsOk; rw [decide_eq_false hhe, Bool.false_or, ← hI]; exact (idxP_any).symm)
                clear hhe hI
                have cP := HP.out.cell 1
                go_wp2_with (first
                  | (go_at_call 105; refine (in_any _ _ _ _).mono ?_; rintro e w9 ⟨rfl, rfl⟩; rw [HKI.out])
                  | fail)
                refine (hoursAt_any lo p.hA p.hn p.hc p.hours hr _ (HPL.out.grown HG.out (fun g e => by cases e)).hours.1 HPL.out.hn).mono ?_
                rintro e wq ⟨rfl, hgq⟩
                rw [HI.out]
                clear cP
                clear k0 k1 k2 k3
                replace HB := Lib.hid (HB.out.grown hgq (by simp))
                replace HP := Lib.hid (HP.out.grown hgq (by simp))
                replace HG := Lib.hid (gr_none HG.out hgq)
                clear hgq
                have k0 := HB.out.cell 0; have k1 := HB.out.cell 1; have k2 := HB.out.cell 2; have k3 := HB.out.cell 3
                by_cases hI0 : I < 0
                · have d0 : decide (I < 0) = true := decide_eq_true hI0
                  have hf := fwF_8 (hs := p.hours) (f := ⟨ln, wh, too, hr⟩) HKK.out HKI.out (show hrsOk p.hours hr = false by rw [HBB0.out]; exact decide_eq_false (by omega))
                  have e := fwAt_f HZ.out (show fwF p.hours ⟨ln, wh, too, hr⟩ ≠ 0 by rw [hf]; decide)
                  rw [hf] at e
                  have HFIN := Lib.hid (show fwE p.hours l = 8 by rw [HF.out, fstE_stop HA.out (by rw [e]; decide) hlt, e])
                  clear e
                  go_wp2_with fail
                  go_ret
                  exact ⟨by rw [HFIN.out]; try rfl, HG.out⟩
                · have d0 : decide (I < 0) = false := decide_eq_false hI0
                  have HHR := Lib.hid (show hrsOk p.hours hr = true by rw [HBB0.out]; exact decide_eq_true (by omega))
                  clear q1 q2 q3 hI0
                  cases EQ
                  · have hfz := fwF_0 (hs := p.hours) (f := ⟨ln, wh, too, hr⟩) HKK.out HKI.out HHR.out HEQ.out
                    have HFZ := Lib.hid hfz
                    clear hfz
                    obtain ⟨wv, rfl⟩ : ∃ wv : World, wv = wq := ⟨_, rfl⟩
                    rcases Nat.eq_zero_or_pos k with h0 | h0
                    · have HE := Lib.hid (fwAt_z HZ.out HFZ.out (by omega))
                      have hi0 : ((k : Int) == 0) = true := by simp [h0]
                      go_wp2_with fail
                      go_roundw
                      case rel => exact ⟨k + 1, by omega, by go_num, HG.out, HP.out, fstE_zero HA.out HE.out⟩
                      case measure => simp [intOf]; omega
                    · obtain ⟨⟨ln', wh', too', hr'⟩, hb⟩ : ∃ b, l[k - 1]? = some b := ⟨_, List.getElem?_eq_getElem (by rw [H.out.1.len]; omega)⟩
                      have HBB := Lib.hid hb; clear hb
                      have HYW := Lib.hid (show inB wh' 1 3 = true from (fwF_right (fw_prev HA.out h0 HBB.out)).2.2.1)
                      have s2 : (0 : Int) ≤ (k : Int) - 1 := by omega
                      have s5 : (1 : Int) ≤ (k : Int) := by omega
                      have s3 : (k : Int) - 1 < (n : Int) := by omega
                      have s6 : (0 : Int) < (n : Int) := by omega
                      have s1 : IntKind.i64.wrap ((k : Int) - 1) = (k : Int) - 1 := IntWalk.i64_in _ (by omega)
                      have s4 : ((k : Int) - 1).toNat = k - 1 := by omega
                      obtain ⟨VO, hVO⟩ : ∃ V, decide (0 ≤ fwCmp ⟨ln', wh', too', hr'⟩ ⟨ln, wh, too, hr⟩) = V := ⟨_, rfl⟩
                      have HVO := Lib.hid hVO; clear hVO
                      have hi0 : ((k : Int) == 0) = false := by simp; omega
                      have HCC := Lib.hid ((H.out.1.grown HG.out (fun g e => by cases e)).at_ FwV.row_len HBB.out)
                      obtain ⟨wu, hwu⟩ : ∃ v, wv.alloc (.cells #[.string ln', .int .i64 wh', .string too', .string hr'] 114) = v := ⟨_, rfl⟩
                      obtain ⟨ob, hob⟩ : ∃ b, wv.heap.size = b := ⟨_, rfl⟩
                      have HOB := Lib.hid (show Blk wu ob 114 #[.string ln', .int .i64 wh', .string too', .string hr'] by rw [← hwu, ← hob]; exact Blk.new _ _ _)
                      have hgu : wv.grownBy wu none := by rw [← hwu]; exact gr_alloc (gr_refl _ _) _
                      have HWU := Lib.hid hwu; have HOBE := Lib.hid hob
                      clear hwu hob
                      go_upto_region 17 with (first
                        | (refine wpl_load_at Tryz.fwT rfl _ rfl _ rfl [.string ln', .int .i64 wh', .string too', .string hr'] rfl (fun j u hu => by rw [add_mk]; exact HCC.out j u hu) ?_)
                        | fail)
                      rw [HWU.out]
                      (try rw [HOBE.out])
                      clear HWU HOBE HCC
                      clear k0 k1 k2 k3
                      replace HB := Lib.hid (HB.out.grown hgu (by simp))
                      replace HP := Lib.hid (HP.out.grown hgu (by simp))
                      replace HG := Lib.hid (gr_none HG.out hgu)
                      clear hgu
                      have k0 := HB.out.cell 0; have k1 := HB.out.cell 1; have k2 := HB.out.cell 2; have k3 := HB.out.cell 3
                      refine H_begin (fun w' => wu.grownBy w' none) (by kernel_rfl) ?_
                      have hHeld : wu.grownBy wu.drew none := gr_drew (gr_refl _ _)
                      generalize wu.drew = wd at hHeld ⊢
                      refine H_take (k := 0) (v := ?_) (by rfl) (by kernel_rfl) (by kernel_rfl) (by kernel_rfl) (by exact fun _ _ _ h => h) (by rfl) ?_ (by assumption) ?_
                      rotate_left 1
                      · intro w hSw
                        (try dsimp only at hSw)
                        go_simp
                        (try with_reducible rfl)
                      (try simp only [Act.put, List.setIfInBounds_toArray, List.set_cons_zero, List.set_cons_succ])
                      refine H_take (k := 1) (v := .agg #[.string ln', .int .i64 wh', .string too', .string hr']) (by rfl) (by kernel_rfl) (by kernel_rfl) (by kernel_rfl) (by exact fun _ _ _ h => h) (by rfl) (fun w' hSw => exec_ldb Tryz.fwT _ rfl _ rfl 114 [.string ln', .int .i64 wh', .string too', .string hr'] (HOB.out.grown hSw (by simp)) rfl) (by assumption) ?_
                      (try simp only [Act.put, List.setIfInBounds_toArray, List.set_cons_zero, List.set_cons_succ])
                      refine H_take (k := 3) (v := ?_) (by rfl) (by kernel_rfl) (by kernel_rfl) (by kernel_rfl) (by exact fun _ _ _ h => h) (by rfl) ?_ (by assumption) ?_
                      rotate_left 1
                      · intro w hSw
                        (try dsimp only at hSw)
                        go_simp
                        (try with_reducible rfl)
                      (try simp only [Act.put, List.setIfInBounds_toArray, List.set_cons_zero, List.set_cons_succ])
                      refine H_take (k := 4) (v := .agg #[.string ln, .int .i64 wh, .string too, .string hr]) (by rfl) (by kernel_rfl) (by kernel_rfl) (by kernel_rfl) (by exact fun _ _ _ h => h) (by rfl) (fun w' hSw => exec_ldb Tryz.fwT _ rfl _ rfl 114 [.string ln, .int .i64 wh, .string too, .string hr] (HB.out.grown hSw (by simp)) rfl) (by assumption) ?_
                      (try simp only [Act.put, List.setIfInBounds_toArray, List.set_cons_zero, List.set_cons_succ])
                      refine H_run (k := 2) (by rfl) (by kernel_rfl) (by rfl) (fun K hK => ?_)
                      go_simp
                      refine (fwKey_any ⟨ln', wh', too', hr'⟩ _ HYW.out).mono ?_
                      rintro e w6 ⟨g6, rfl, hr6, hg6⟩
                      have hgz := gr_none hHeld hg6
                      refine hK _ _ hgz ?_
                      clear hK K hHeld hg6
                      have hHeld := hgz
                      clear hgz
                      (try simp only [Act.put, List.setIfInBounds_toArray, List.set_cons_zero, List.set_cons_succ])
                      refine H_run (k := 5) (by rfl) (by kernel_rfl) (by rfl) (fun K hK => ?_)
                      go_simp
                      refine (fwKey_any ⟨ln, wh, too, hr⟩ _ HKI.out).mono ?_
                      rintro e w7 ⟨g7, rfl, hr7, hg7⟩
                      have hgz := gr_none hHeld hg7
                      have HR6 := Lib.hid (hr6.grown hg7 (fun g e => by cases e)); have HR7 := Lib.hid hr7
                      refine hK _ _ hgz ?_
                      clear hK K hHeld hg7 hr6 hr7
                      have hHeld := hgz
                      clear hgz
                      (try simp only [Act.put, List.setIfInBounds_toArray, List.set_cons_zero, List.set_cons_succ])
                      refine H_run (k := 6) (by rfl) (by kernel_rfl) (by rfl) (fun K hK => ?_)
                      go_simp
                      refine same_calls (compareS_any _ _ _ _ 3 3 3 3 _ _ _ HR6.out HR7.out (by omega) (by omega)) ?_
                      refine hK _ _ hHeld ?_
                      clear hK K
                      have hO1 : decide (0 ≤ cmpLL cmpS [ln', dgS wh', hr'] [ln, dgS wh, hr]) = VO := (fw_order (a := ⟨ln', wh', too', hr'⟩) (b := ⟨ln, wh, too, hr⟩) HYW.out HKI.out).trans HVO.out
                      (try simp only [Act.put, List.setIfInBounds_toArray, List.set_cons_zero, List.set_cons_succ])
                      refine H_take (k := 7) (v := ?_) (by rfl) (by kernel_rfl) (by kernel_rfl) (by kernel_rfl) (by exact fun _ _ _ h => h) (by rfl) ?_ (by assumption) ?_
                      rotate_left 1
                      · intro w hSw
                        (try dsimp only at hSw)
                        go_simp
                        (try with_reducible rfl)
                      (try simp only [Act.put, List.setIfInBounds_toArray, List.set_cons_zero, List.set_cons_succ])
                      refine H_done (by kernel_rfl) ?_
                      clear hi0 s1 s2 s3 s4 s5 s6 hO1
                      replace HG := Lib.hid (gr_none HG.out hHeld)
                      replace HP := Lib.hid (HP.out.grown hHeld (by simp))
                      clear hHeld k0 k1 k2 k3
                      cases VO
                      · have HE := Lib.hid (fwAt_e HZ.out HFZ.out HBB.out (of_decide_eq_false HVO.out))
                        go_wp2_with fail
                        go_roundw
                        case rel => exact ⟨k + 1, by omega, by go_num, HG.out, HP.out, fstE_zero HA.out HE.out⟩
                        case measure => simp [intOf]; omega
                      · have e := fwAt_7 HZ.out HFZ.out h0 HBB.out (of_decide_eq_true HVO.out)
                        have HFIN := Lib.hid (show fwE p.hours l = 7 by rw [HF.out, fstE_stop HA.out (by rw [e]; decide) hlt, e])
                        clear e
                        go_wp2_with fail
                        go_ret
                        exact ⟨by rw [HFIN.out]; try rfl, HG.out⟩
                  · have hf := fwF_14 (hs := p.hours) (f := ⟨ln, wh, too, hr⟩) HKK.out HKI.out HHR.out HEQ.out
                    have e := fwAt_f HZ.out (show fwF p.hours ⟨ln, wh, too, hr⟩ ≠ 0 by rw [hf]; decide)
                    rw [hf] at e
                    have HFIN := Lib.hid (show fwE p.hours l = 14 by rw [HF.out, fstE_stop HA.out (by rw [e]; decide) hlt, e])
                    clear e
                    go_wp2_with fail
                    go_ret
                    exact ⟨by rw [HFIN.out]; try rfl, HG.out⟩
      · obtain rfl : k = n := by omega
        have HFIN := Lib.hid (show fwE p.hours l = 0 by rw [HF.out, HA.out])
        go_wp2_with fail
        go_ret
        exact ⟨by rw [HFIN.out]; try rfl, HG.out⟩
end Go.Proofs.YtpjheibkacbbcaaGreatDoor

/- Contracts of account.CheckTariff and of the document's TariffFault. Conditions: none. -/
import Derived.Test.YtpildcnoghojpaaGreatDoorBun6
import Derived.Deep.QuietTactic
import Derived.BigQuiet
namespace Go.Proofs.YtpildcnoghojpaaGreatDoor
open Go.RowKit

theorem Tryz.clT : StructT Tryz.prog 47 6 := ⟨_, Tryz.underlying47, rfl, by kernel_rfl⟩
theorem Tryz.tfT : StructT Tryz.prog 51 3 := ⟨_, Tryz.underlying51, rfl, by kernel_rfl⟩
set_option maxHeartbeats 8000000 in
set_option maxRecDepth 100000 in
theorem checkTariff_any (lo : Nat) (t : TfV) (w : World) (h : TfOk w lo t) :
    Calls Tryz.prog 71 #[.agg #[.slice t.cA t.cn t.cc, .int .i64 t.free, .slice t.iA t.en t.ic]] w (RetV (.int .i64 (tarE t)) w) := by
  obtain ⟨cA, cn, cc, free, iA, en, ic, cl, ins⟩ := t
  obtain ⟨⟨b1, b2, b3, b4⟩, hc, hi⟩ := h
  have hV : tarE ⟨cA, cn, cc, free, iA, en, ic, cl, ins⟩ = if 200 < cn then 2 else if fstE (clAt cl) cn = 0 then (if inB free 0 2592000000 then (if 200 < en then 2 else fstE (keyAt ins) en) else 1) else fstE (clAt cl) cn := rfl
  obtain ⟨RES, hRES⟩ : ∃ R, tarE ⟨cA, cn, cc, free, iA, en, ic, cl, ins⟩ = R := ⟨_, rfl⟩
  dsimp only at b1 b2 b3 b4 hc hi ⊢
  rw [hRES] at hV ⊢
  have HVS := Lib.hid hV; have HCL := Lib.hid hc; have HIN := Lib.hid hi; have HB1 := Lib.hid b1; have HB2 := Lib.hid b2
  clear hV hRES hc hi b1 b2
  by_cases c0 : 200 < cn
  · have d0 : decide ((200 : Int) < (cn : Int)) = true := decide_eq_true (by omega)
    go_enter Tryz.func71, Tryz.ntmps71
    go_wp2_with fail
    go_ret
    exact ⟨by rw [HVS.out, if_pos c0]; rfl, gr_alloc (gr_refl _ _) _⟩
  · have d0 : decide ((200 : Int) < (cn : Int)) = false := decide_eq_false (by omega)
    replace HVS := Lib.hid (show RES = if fstE (clAt cl) cn = 0 then (if inB free 0 2592000000 then (if 200 < en then 2 else fstE (keyAt ins) en) else 1) else fstE (clAt cl) cn by rw [HVS.out, if_neg c0])
    clear c0
    go_enter Tryz.func71, Tryz.ntmps71
    go_wp2_with fail
    go_loopw [3, 4, 14] (fun _ _ t wr => ∃ k : Nat, k ≤ cn ∧ t = .int .i64 k ∧ w.grownBy wr none ∧ Blk wr w.heap.size 51 #[.slice cA cn cc, .int .i64 free, .slice iA en ic] ∧ fstE (clAt cl) k = 0) (fun _ _ t _ => cn - (intOf t).toNat)
    case atStart => exact ⟨0, Nat.zero_le _, rfl, gr_alloc (gr_refl _ _) _, Blk.new _ _ _, rfl⟩
    case round =>
      obtain ⟨k, hk, rfl, hg, hbl, ha⟩ := hrel
      have zr := hg.size
      have zb := hbl.lt
      have HA := Lib.hid ha; have HG := Lib.hid hg; have HT := Lib.hid hbl; clear ha hg hbl
      by_cases hlt : k < cn
      · obtain ⟨g, o, ⟨pre, name, setup, first, step, rate⟩, rfl, _, hgl, hz, hcc⟩ := (HCL.out.grown HG.out (fun g e => by cases e)).get ClV.row_len hlt
        have hok := HB1.out _ (mem_of_get hz)
        have hp1 : pre.size ≤ 1000 := hok.1
        have hp2 : name.size ≤ 1000 := hok.2
        clear hok
        have HZ := Lib.hid hz; have HC := Lib.hid hcc; clear hz hcc
        go_wp2_with (first
          | (refine wpl_load_at Tryz.clT rfl _ rfl _ rfl [.string pre, .string name, .int .i64 setup, .int .i64 first, .int .i64 step, .int .i64 rate] rfl (fun j u hu => by rw [add_mk]; exact HC.out j u hu) ?_)
          | fail)
        refine (isPrefix_any pre _ (by omega)).mono ?_
        rintro e w2 ⟨rfl, hg2⟩
        have hsB := (Blk.new wr 47 #[.string pre, .string name, .int .i64 setup, .int .i64 first, .int .i64 step, .int .i64 rate]).grown hg2 (by simp)
        have hT2 := (HT.out.alloc (.cells #[.string pre, .string name, .int .i64 setup, .int .i64 first, .int .i64 step, .int .i64 rate] 47)).grown hg2 (by simp)
        replace HG := Lib.hid (gr_none (gr_alloc HG.out _) hg2)
        have z2 := hg2.size; simp at z2
        clear hg2
        have k1 := hsB.cell 1
        replace HT := Lib.hid hT2
        have HB := Lib.hid hsB
        clear hsB hT2
        cases hB1 : pfOk (nb pre)
        · have HFIN := Lib.hid (fst_ret (X := if inB free 0 2592000000 then (if 200 < en then 2 else fstE (keyAt ins) en) else 1) HA.out (clAt_3 HZ.out hB1) (by decide) hlt)
          go_wp2_with fail
          go_ret
          exact ⟨by rw [HVS.out, HFIN.out]; rfl, HG.out⟩
        · go_wp2_with fail
          refine (isKey_any name _ (by omega)).mono ?_
          rintro e w3 ⟨rfl, hg3⟩
          have hsB := HB.out.grown hg3 (by simp)
          have hT2 := HT.out.grown hg3 (by simp)
          have k0 := hsB.cell 0
          have k2 := hsB.cell 2
          have k3 := hsB.cell 3
          have k4 := hsB.cell 4
          have k5 := hsB.cell 5
          have kt := hT2.cell 0
          replace HG := Lib.hid (gr_none HG.out hg3)
          replace HT := Lib.hid hT2
          have z3 := hg3.size
          clear hg3 hsB hT2 k1
          cases hB2 : keyOk (nb name)
          · have HFIN := Lib.hid (fst_ret (X := if inB free 0 2592000000 then (if 200 < en then 2 else fstE (keyAt ins) en) else 1) HA.out (clAt_5 HZ.out hB1 hB2) (by decide) hlt)
            go_wp2_with fail
            go_ret
            exact ⟨by rw [HVS.out, HFIN.out]; rfl, HG.out⟩
          · obtain ⟨n1, hn1⟩ : ∃ B, inB setup 0 1000000 = B := ⟨_, rfl⟩
            obtain ⟨n2, hn2⟩ : ∃ B, inB rate 0 1000000 = B := ⟨_, rfl⟩
            obtain ⟨n3, hn3⟩ : ∃ B, inB first 0 86400000 = B := ⟨_, rfl⟩
            obtain ⟨n4, hn4⟩ : ∃ B, inB step 1 86400000 = B := ⟨_, rfl⟩
            have HN := Lib.hid (show clNum ⟨pre, name, setup, first, step, rate⟩ = (n1 && n2 && n3 && n4) by rw [← hn1, ← hn2, ← hn3, ← hn4]; rfl)
            have N1 := Lib.hid hn1; have N2 := Lib.hid hn2; have N3 := Lib.hid hn3; have N4 := Lib.hid hn4
            clear hn1 hn2 hn3 hn4
            by_cases hall : (n1 && n2 && n3 && n4) = true
            · have hall2 : n1 = true ∧ n2 = true ∧ n3 = true ∧ n4 = true := by simpa [and_assoc] using hall
              obtain ⟨rfl, rfl, rfl, rfl⟩ := hall2
              clear hall
              by_cases h0 : 0 < k
              · obtain ⟨⟨pre', name', setup', first', step', rate'⟩, hb⟩ : ∃ b, cl[k - 1]? = some b := ⟨_, List.getElem?_eq_getElem (by rw [HCL.out.len]; omega)⟩
                have kb := (HCL.out.grown HG.out (fun g e => by cases e)).at_ ClV.row_len hb 0 _ rfl
                simp only [Nat.add_zero] at kb
                have HBB := Lib.hid hb; clear hb
                have hi0 : decide ((0 : Int) < (k : Int)) = true := by simpa using h0
                have s2 : (0 : Int) ≤ (k : Int) - 1 := by omega
                have s5 : (1 : Int) ≤ (k : Int) := by omega
                have s3 : (k : Int) - 1 < (cn : Int) := by omega
                have s6 : (0 : Int) < (cn : Int) := by omega
                have s1 : IntKind.i64.wrap ((k : Int) - 1) = (k : Int) - 1 := IntWalk.i64_in _ (by omega)
                have s4 : ((k : Int) - 1).toNat = k - 1 := by omega
                cases h7 : (Op.bytesLess pre.toList pre'.toList || pre.toList == pre'.toList)
                · have HE := Lib.hid (clAt_e HZ.out hB1 hB2 HN.out HBB.out h7)
                  go_wp2_with (first
                    | (go_at_call 46; refine (withinA_any _ _ _ _).mono ?_; rintro e w' ⟨rfl, rfl⟩; first | rw [N1.out] | rw [N2.out] | rw [N3.out] | rw [N4.out] | fail)
                    | fail)
                  go_quiet (fail)
                  go_wp2_with fail
                  clear s1 s4
                  go_roundw
                  case rel => exact ⟨k + 1, by omega, by go_num, gr_drewN HG.out _, HT.out.drewN _, fstE_zero HA.out HE.out⟩
                  case measure => simp [intOf]; omega
                · have HFIN := Lib.hid (fst_ret (X := if inB free 0 2592000000 then (if 200 < en then 2 else fstE (keyAt ins) en) else 1) HA.out (clAt_7 HZ.out hB1 hB2 HN.out h0 HBB.out h7) (by decide) hlt)
                  go_wp2_with (first
                    | (go_at_call 46; refine (withinA_any _ _ _ _).mono ?_; rintro e w' ⟨rfl, rfl⟩; first | rw [N1.out] | rw [N2.out] | rw [N3.out] | rw [N4.out] | fail)
                    | fail)
                  go_quiet (fail)
                  go_wp2_with fail
                  go_ret
                  exact ⟨by rw [HVS.out, HFIN.out]; rfl, gr_drewN HG.out _⟩
              · have HE := Lib.hid (clAt_z HZ.out hB1 hB2 HN.out h0)
                have hi0 : decide ((0 : Int) < (k : Int)) = false := decide_eq_false (by omega)
                go_wp2_with (first
                  | (go_at_call 46; refine (withinA_any _ _ _ _).mono ?_; rintro e w' ⟨rfl, rfl⟩; first | rw [N1.out] | rw [N2.out] | rw [N3.out] | rw [N4.out] | fail)
                  | fail)
                go_quiet (fail)
                go_wp2_with fail
                go_roundw
                case rel => exact ⟨k + 1, by omega, by go_num, gr_drewN HG.out _, HT.out.drewN _, fstE_zero HA.out HE.out⟩
                case measure => simp [intOf]; omega
            · have HFIN := Lib.hid (fst_ret (X := if inB free 0 2592000000 then (if 200 < en then 2 else fstE (keyAt ins) en) else 1) HA.out (clAt_1 HZ.out hB1 hB2 (by rw [HN.out]; simpa using hall)) (by decide) hlt)
              cases n1
              · clear hall
                go_wp2_with (first
                  | (go_at_call 46; refine (withinA_any _ _ _ _).mono ?_; rintro e w' ⟨rfl, rfl⟩; first | rw [N1.out] | rw [N2.out] | rw [N3.out] | rw [N4.out] | fail)
                  | fail)
                go_ret
                exact ⟨by rw [HVS.out, HFIN.out]; rfl, HG.out⟩
              · cases n2
                · clear hall
                  go_wp2_with (first
                    | (go_at_call 46; refine (withinA_any _ _ _ _).mono ?_; rintro e w' ⟨rfl, rfl⟩; first | rw [N1.out] | rw [N2.out] | rw [N3.out] | rw [N4.out] | fail)
                    | fail)
                  go_ret
                  exact ⟨by rw [HVS.out, HFIN.out]; rfl, HG.out⟩
                · cases n3
                  · clear hall
                    go_wp2_with (first
                      | (go_at_call 46; refine (withinA_any _ _ _ _).mono ?_; rintro e w' ⟨rfl, rfl⟩; first | rw [N1.out] | rw [N2.out] | rw [N3.out] | rw [N4.out] | fail)
                      | fail)
                    go_ret
                    exact ⟨by rw [HVS.out, HFIN.out]; rfl, HG.out⟩
                  · cases n4
                    · clear hall
                      go_wp2_with (first
                        | (go_at_call 46; refine (withinA_any _ _ _ _).mono ?_; rintro e w' ⟨rfl, rfl⟩; first | rw [N1.out] | rw [N2.out] | rw [N3.out] | rw [N4.out] | fail)
                        | fail)
                      go_ret
                      exact ⟨by rw [HVS.out, HFIN.out]; rfl, HG.out⟩
                    · exact absurd rfl hall
      · obtain rfl : cn = k := by omega
        replace HVS := Lib.hid (show RES = if inB free 0 2592000000 then (if 200 < en then 2 else fstE (keyAt ins) en) else 1 by rw [HVS.out, if_pos HA.out])
        have ka := HT.out.cell 1
        have kb := HT.out.cell 2
        obtain ⟨BF, hBF⟩ : ∃ B, inB free 0 2592000000 = B := ⟨_, rfl⟩
        have HBF := Lib.hid hBF; clear hBF
        cases BF
        · go_wp2_with (first
            | (go_at_call 46; refine (withinA_any _ _ _ _).mono ?_; rintro e w' ⟨rfl, rfl⟩; rw [HBF.out])
            | fail)
          go_ret
          exact ⟨by rw [HVS.out, HBF.out]; rfl, HG.out⟩
        · by_cases c2 : 200 < en
          · have d2 : decide ((200 : Int) < (en : Int)) = true := decide_eq_true (by omega)
            go_wp2_with (first
              | (go_at_call 46; refine (withinA_any _ _ _ _).mono ?_; rintro e w' ⟨rfl, rfl⟩; rw [HBF.out])
              | fail)
            go_ret
            exact ⟨by rw [HVS.out, HBF.out, if_pos rfl, if_pos c2]; rfl, HG.out⟩
          · have d2 : decide ((200 : Int) < (en : Int)) = false := decide_eq_false (by omega)
            replace HVS := Lib.hid (show RES = fstE (keyAt ins) en by rw [HVS.out, HBF.out, if_pos rfl, if_neg c2])
            clear c2
            go_wp2_with (first
              | (go_at_call 46; refine (withinA_any _ _ _ _).mono ?_; rintro e w' ⟨rfl, rfl⟩; rw [HBF.out])
              | fail)
            clear ka kb
            obtain ⟨wo, rfl⟩ : ∃ wo : World, wo = wr := ⟨_, rfl⟩
            go_loopw [5, 6, 79] (fun _ _ t wr => ∃ k : Nat, k ≤ en ∧ t = .int .i64 k ∧ w.grownBy wr none ∧ Blk wr w.heap.size 51 #[.slice cA cn cc, .int .i64 free, .slice iA en ic] ∧ fstE (keyAt ins) k = 0) (fun _ _ t _ => en - (intOf t).toNat)
            case atStart => exact ⟨0, Nat.zero_le _, rfl, HG.out, HT.out, rfl⟩
            case round =>
              clear HG HT HA
              obtain ⟨j, hj, rfl, hg, hbl, ha⟩ := hrel
              have zr2 := hg.size
              have zb2 := hbl.lt
              have HA := Lib.hid ha; have HG := Lib.hid hg; have HT := Lib.hid hbl; clear ha hg hbl
              by_cases hlt2 : j < en
              · obtain ⟨g, o, s, rfl, _, hgl, hz, hcc⟩ := (HIN.out.grown HG.out (fun g e => by cases e)).get srow_len hlt2
                have hok : s.size ≤ 1000 := HB2.out _ (mem_of_get hz)
                have ks := hcc 0 _ rfl
                simp only [Nat.mul_one, Nat.add_zero] at ks
                have HZ := Lib.hid hz; clear hz hcc
                go_wp2_with fail
                refine (isKey_any s _ (by omega)).mono ?_
                rintro e w2 ⟨rfl, hg2⟩
                have hT2 := HT.out.grown hg2 (by simp)
                have kb := hT2.cell 2
                replace HG := Lib.hid (gr_none HG.out hg2)
                replace HT := Lib.hid hT2
                have z2 := hg2.size
                clear hg2 hT2 ks
                cases hB1 : keyOk (nb s)
                · have HFIN := Lib.hid (show fstE (keyAt ins) en = 5 by rw [fstE_stop HA.out (by rw [keyAt_5 HZ.out hB1]; decide) hlt2, keyAt_5 HZ.out hB1])
                  go_wp2_with fail
                  go_ret
                  exact ⟨by rw [HVS.out, HFIN.out]; rfl, HG.out⟩
                · by_cases h0 : 0 < j
                  · obtain ⟨s', hb⟩ : ∃ b, ins[j - 1]? = some b := ⟨_, List.getElem?_eq_getElem (by rw [HIN.out.len]; omega)⟩
                    have kc := (HIN.out.grown HG.out (fun g e => by cases e)).at_ srow_len hb 0 _ rfl
                    simp only [Nat.mul_one, Nat.add_zero] at kc
                    have HBB := Lib.hid hb; clear hb
                    have hi0 : decide ((0 : Int) < (j : Int)) = true := by simpa using h0
                    have s2 : (0 : Int) ≤ (j : Int) - 1 := by omega
                    have s5 : (1 : Int) ≤ (j : Int) := by omega
                    have s3 : (j : Int) - 1 < (en : Int) := by omega
                    have s6 : (0 : Int) < (en : Int) := by omega
                    have s1 : IntKind.i64.wrap ((j : Int) - 1) = (j : Int) - 1 := IntWalk.i64_in _ (by omega)
                    have s4 : ((j : Int) - 1).toNat = j - 1 := by omega
                    cases h7 : (Op.bytesLess s.toList s'.toList || s.toList == s'.toList)
                    · have HE := Lib.hid (keyAt_e HZ.out hB1 HBB.out h7)
                      go_wp2_with fail
                      clear s1 s4
                      go_roundw
                      case rel => exact ⟨j + 1, by omega, by go_num, HG.out, HT.out, fstE_zero HA.out HE.out⟩
                      case measure => simp [intOf]; omega
                    · have e7 := keyAt_7 HZ.out hB1 h0 HBB.out h7
                      have HFIN := Lib.hid (show fstE (keyAt ins) en = 7 by rw [fstE_stop HA.out (by rw [e7]; decide) hlt2, e7])
                      clear e7
                      go_wp2_with fail
                      go_ret
                      exact ⟨by rw [HVS.out, HFIN.out]; rfl, HG.out⟩
                  · have HE := Lib.hid (keyAt_z HZ.out hB1 h0)
                    have hi0 : decide ((0 : Int) < (j : Int)) = false := decide_eq_false (by omega)
                    go_wp2_with fail
                    go_roundw
                    case rel => exact ⟨j + 1, by omega, by go_num, HG.out, HT.out, fstE_zero HA.out HE.out⟩
                    case measure => simp [intOf]; omega
              · obtain rfl : j = en := by omega
                go_wp2_with fail
                go_ret
                exact ⟨by rw [HVS.out, HA.out]; rfl, HG.out⟩
end Go.Proofs.YtpildcnoghojpaaGreatDoor

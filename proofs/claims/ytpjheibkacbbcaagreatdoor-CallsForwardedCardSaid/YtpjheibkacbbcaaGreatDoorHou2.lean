/- Contracts of CheckHours and of the document's HoursFault. Conditions: none. -/
import Derived.Test.YtpjheibkacbbcaaGreatDoorHou1
namespace Go.Proofs.YtpjheibkacbbcaaGreatDoor
open Go.RowKit

theorem hrs_stop {l : List HrV} {n k : Nat} {E : Int} (hf : hrsE l = fstE (hrAt l) n) (ha : fstE (hrAt l) k = 0) (hlt : k < n) (he : hrAt l k = E) : hrsE l = if E = 0 then hrsE l else E := by
  by_cases h : E = 0
  · rw [if_pos h]
  · rw [if_neg h, hf, fstE_stop ha (by rw [he]; exact h) hlt, he]
set_option maxHeartbeats 8000000 in
theorem checkHours_any (lo : Nat) (A : Option Addr) (n c : Nat) (l : List HrV) (w : World) (h : Hrs w lo A n c l) (hn : n ≤ 1000000000000) :
    Calls Tryz.prog 153 #[.slice A n c] w (RetV (.int .i64 (hrsE l)) w) := by
  have H := Lib.hid h; clear h
  by_cases hb : n > 50
  · have HF := Lib.hid (show hrsE l = 2 by unfold hrsE; rw [if_pos (by rw [H.out.1.len]; exact hb)])
    have hb' : decide ((50 : Int) < (n : Int)) = true := decide_eq_true (by omega)
    go_enter Tryz.func153, Tryz.ntmps153
    go_wp2_with fail
    go_ret
    exact ⟨by rw [HF.out]; try rfl, gr_refl _ _⟩
  · have hb' : decide ((50 : Int) < (n : Int)) = false := decide_eq_false (by omega)
    have HF := Lib.hid (show hrsE l = fstE (hrAt l) n by unfold hrsE; rw [if_neg (by rw [H.out.1.len]; exact hb), H.out.1.len])
    go_enter Tryz.func153, Tryz.ntmps153
    go_wp2_with fail
    go_loopw [3, 4, 5, 11] (fun _ _ _ t wr => ∃ k : Nat, k ≤ n ∧ t = .int .i64 k ∧ w.grownBy wr none ∧ fstE (hrAt l) k = 0) (fun _ _ _ t _ => n - (intOf t).toNat)
    case atStart => exact ⟨0, Nat.zero_le _, rfl, gr_refl _ _, rfl⟩
    case round =>
      obtain ⟨k, hk, rfl, hg, ha⟩ := hrel
      have HA := Lib.hid ha; have HG := Lib.hid hg; clear ha hg
      by_cases hlt : k < n
      · obtain ⟨g, o, ⟨key, zone, rA, rn, rc, qA, qn, qc, rows, hol⟩, rfl, _, hgl, hz, hc⟩ := (H.out.1.grown HG.out (fun g e => by cases e)).get HrV.row_len hlt
        have hok := H.out.2 _ (mem_of_get hz)
        have hkey : key.size ≤ 1000 := hok.1.1
        have hrn1 : rn ≤ 1000 := hok.1.2.1
        have hqn1 : qn ≤ 1000 := hok.1.2.2
        obtain ⟨E, hE⟩ : ∃ E, hrE ⟨key, zone, rA, rn, rc, qA, qn, qc, rows, hol⟩ = E := ⟨_, rfl⟩
        have HEV := Lib.hid hE; have HZ := Lib.hid hz; have HC := Lib.hid hc; have HOK := Lib.hid hok; clear hz hc hok hE
        go_wp2_with (first
          | (refine wpl_load_at Tryz.hrT rfl _ rfl _ rfl [.string key, .int .i64 zone, .slice rA rn rc, .slice qA qn qc] rfl (fun j u hu => by rw [add_mk]; exact HC.out j u hu) ?_)
          | fail)
        refine (isKey_any key _ (by omega)).mono ?_
        rintro e w2 ⟨rfl, hg2⟩
        have hsB := (Blk.new wr 157 #[.string key, .int .i64 zone, .slice rA rn rc, .slice qA qn qc]).grown hg2 (by simp)
        have k0 := hsB.cell 0
        have k1 := hsB.cell 1
        have HG2 := Lib.hid (gr_none (gr_alloc HG.out _) hg2)
        have HB2 := Lib.hid hsB
        have z2 := hg2.size; simp at z2
        clear hg2
        clear hsB
        cases hB1 : keyOk (nb key)
        · have e := hrAt_5 HZ.out hB1
          have HFIN := Lib.hid (show hrsE l = 5 by rw [HF.out, fstE_stop HA.out (by rw [e]; decide) hlt, e])
          clear e
          go_wp2_with fail
          go_ret
          exact ⟨by rw [HFIN.out]; try rfl, HG2.out⟩
        · by_cases h0 : 0 < k
          · obtain ⟨⟨key', zone', rA', rn', rc', qA', qn', qc', rows', hol'⟩, hb⟩ : ∃ b, l[k - 1]? = some b := ⟨_, List.getElem?_eq_getElem (by rw [H.out.1.len]; omega)⟩
            have kb := (H.out.1.grown HG2.out (fun g e => by cases e)).at_ HrV.row_len hb 0 _ rfl
            simp only [Nat.add_zero] at kb
            have HB1 := Lib.hid hb; clear hb
            have hi0 : decide ((0 : Int) < (k : Int)) = true := by simpa using h0
            cases h7 : (Op.bytesLess key.toList key'.toList || key.toList == key'.toList)
            · have s2 : (0 : Int) ≤ (k : Int) - 1 := by omega
              have s5 : (1 : Int) ≤ (k : Int) := by omega
              have s3 : (k : Int) - 1 < (n : Int) := by omega
              have s6 : (0 : Int) < (n : Int) := by omega
              have s1 : IntKind.i64.wrap ((k : Int) - 1) = (k : Int) - 1 := IntWalk.i64_in _ (by omega)
              have s4 : ((k : Int) - 1).toNat = k - 1 := by omega
              go_wp2_with fail
              go_quiet (fail)
              clear s1 s4
              have HAT := Lib.hid (hrAt_e HZ.out hB1 HB1.out h7)
              obtain ⟨Bz, hBz⟩ : ∃ B, inB zone (-1440) 1440 = B := ⟨_, rfl⟩
              have NZ := Lib.hid hBz; clear hBz
              cases Bz
              · have HE := Lib.hid (show hrAt l k = 1 by rw [HAT.out]; show (if inB zone (-1440) 1440 then hrE ⟨key, zone, rA, rn, rc, qA, qn, qc, rows, hol⟩ else 1) = 1; rw [NZ.out]; rfl)
                have HFIN := Lib.hid (show hrsE l = 1 by rw [HF.out, fstE_stop HA.out (by rw [HE.out]; decide) hlt, HE.out])
                go_wp2_with (first
                  | (go_at_call 109; refine (withinD_any _ _ _ _).mono ?_; rintro e w' ⟨rfl, rfl⟩; rw [NZ.out])
                  | fail)
                go_ret
                exact ⟨by rw [HFIN.out]; try rfl, gr_drewN HG2.out _⟩
              · have HE := Lib.hid (show hrAt l k = E by rw [HAT.out]; show (if inB zone (-1440) 1440 then hrE ⟨key, zone, rA, rn, rc, qA, qn, qc, rows, hol⟩ else 1) = E; rw [NZ.out]; exact HEV.out)
                go_wp2_with (first
                  | (go_at_call 109; refine (withinD_any _ _ _ _).mono ?_; rintro e w' ⟨rfl, rfl⟩; rw [NZ.out])
                  | (refine wpl_load_all Tryz.hrT rfl _ rfl _ rfl _ _ (HB2.out.drewN _) rfl ?_)
                  | fail)
                refine (checkTimes_any lo ⟨key, zone, rA, rn, rc, qA, qn, qc, rows, hol⟩ _ (HOK.out.grown (gr_drewN HG2.out _) (fun g e => by cases e))).mono ?_
                rintro e w3 ⟨rfl, hg3⟩
                have HG3 := Lib.hid (gr_none (gr_drewN HG2.out _) hg3); clear hg3
                rw [HEV.out]
                by_cases h9 : E = 0
                · have h9' : (E != 0) = false := by simpa using h9
                  have HE0 := Lib.hid (show hrAt l k = 0 by rw [HE.out, h9])
                  clear h9
                  go_wp2_with fail
                  go_roundw
                  case rel => exact ⟨k + 1, by omega, by go_num, HG3.out, fstE_zero HA.out HE0.out⟩
                  case measure => simp [intOf]; omega
                · have h9' : (E != 0) = true := by simpa using h9
                  have HFIN := Lib.hid (show hrsE l = E by rw [HF.out, fstE_stop HA.out (by rw [HE.out]; exact h9) hlt, HE.out])
                  go_wp2_with fail
                  go_ret
                  exact ⟨by rw [HFIN.out]; try rfl, HG3.out⟩
            · have e := hrAt_7 HZ.out hB1 h0 HB1.out h7
              have HFIN := Lib.hid (show hrsE l = 7 by rw [HF.out, fstE_stop HA.out (by rw [e]; decide) hlt, e])
              clear e
              have s2 : (0 : Int) ≤ (k : Int) - 1 := by omega
              have s5 : (1 : Int) ≤ (k : Int) := by omega
              have s3 : (k : Int) - 1 < (n : Int) := by omega
              have s6 : (0 : Int) < (n : Int) := by omega
              have s1 : IntKind.i64.wrap ((k : Int) - 1) = (k : Int) - 1 := IntWalk.i64_in _ (by omega)
              have s4 : ((k : Int) - 1).toNat = k - 1 := by omega
              go_wp2_with fail
              go_quiet (fail)
              go_wp2_with fail
              go_ret
              exact ⟨by rw [HFIN.out]; try rfl, gr_drewN HG2.out _⟩
          · have hi0 : decide ((0 : Int) < (k : Int)) = false := decide_eq_false (by omega)
            go_wp2_with fail
            go_quiet (fail)
            have HAT := Lib.hid (hrAt_z HZ.out hB1 h0)
            obtain ⟨Bz, hBz⟩ : ∃ B, inB zone (-1440) 1440 = B := ⟨_, rfl⟩
            have NZ := Lib.hid hBz; clear hBz
            cases Bz
            · have HE := Lib.hid (show hrAt l k = 1 by rw [HAT.out]; show (if inB zone (-1440) 1440 then hrE ⟨key, zone, rA, rn, rc, qA, qn, qc, rows, hol⟩ else 1) = 1; rw [NZ.out]; rfl)
              have HFIN := Lib.hid (show hrsE l = 1 by rw [HF.out, fstE_stop HA.out (by rw [HE.out]; decide) hlt, HE.out])
              go_wp2_with (first
                | (go_at_call 109; refine (withinD_any _ _ _ _).mono ?_; rintro e w' ⟨rfl, rfl⟩; rw [NZ.out])
                | fail)
              go_ret
              exact ⟨by rw [HFIN.out]; try rfl, gr_drewN HG2.out _⟩
            · have HE := Lib.hid (show hrAt l k = E by rw [HAT.out]; show (if inB zone (-1440) 1440 then hrE ⟨key, zone, rA, rn, rc, qA, qn, qc, rows, hol⟩ else 1) = E; rw [NZ.out]; exact HEV.out)
              go_wp2_with (first
                | (go_at_call 109; refine (withinD_any _ _ _ _).mono ?_; rintro e w' ⟨rfl, rfl⟩; rw [NZ.out])
                | (refine wpl_load_all Tryz.hrT rfl _ rfl _ rfl _ _ (HB2.out.drewN _) rfl ?_)
                | fail)
              refine (checkTimes_any lo ⟨key, zone, rA, rn, rc, qA, qn, qc, rows, hol⟩ _ (HOK.out.grown (gr_drewN HG2.out _) (fun g e => by cases e))).mono ?_
              rintro e w3 ⟨rfl, hg3⟩
              have HG3 := Lib.hid (gr_none (gr_drewN HG2.out _) hg3); clear hg3
              rw [HEV.out]
              by_cases h9 : E = 0
              · have h9' : (E != 0) = false := by simpa using h9
                have HE0 := Lib.hid (show hrAt l k = 0 by rw [HE.out, h9])
                clear h9
                go_wp2_with fail
                go_roundw
                case rel => exact ⟨k + 1, by omega, by go_num, HG3.out, fstE_zero HA.out HE0.out⟩
                case measure => simp [intOf]; omega
              · have h9' : (E != 0) = true := by simpa using h9
                have HFIN := Lib.hid (show hrsE l = E by rw [HF.out, fstE_stop HA.out (by rw [HE.out]; exact h9) hlt, HE.out])
                go_wp2_with fail
                go_ret
                exact ⟨by rw [HFIN.out]; try rfl, HG3.out⟩
      · obtain rfl : k = n := by omega
        go_wp2_with fail
        go_ret
        exact ⟨by rw [HF.out, HA.out]; try rfl, HG.out⟩
set_option maxRecDepth 100000 in
set_option maxHeartbeats 8000000 in
theorem hoursFault_any (lo : Nat) (A : Option Addr) (n c : Nat) (l : List HrV) (w : World) (h : Hrs w lo A n c l) (hn : n ≤ 1000000000000) :
    Calls Tryz.prog 84 #[.slice A n c] w (RetV (.int .i64 (hrsE l)) w) := by
  have H := Lib.hid h; clear h
  by_cases hb : n > 50
  · have HF := Lib.hid (show hrsE l = 2 by unfold hrsE; rw [if_pos (by rw [H.out.1.len]; exact hb)])
    have hb' : decide ((50 : Int) < (n : Int)) = true := decide_eq_true (by omega)
    go_enter Tryz.func84, Tryz.ntmps84
    go_wp2_with fail
    go_ret
    exact ⟨by rw [HF.out]; try rfl, gr_refl _ _⟩
  · have hb' : decide ((50 : Int) < (n : Int)) = false := decide_eq_false (by omega)
    have HF := Lib.hid (show hrsE l = fstE (hrAt l) n by unfold hrsE; rw [if_neg (by rw [H.out.1.len]; exact hb), H.out.1.len])
    go_enter Tryz.func84, Tryz.ntmps84
    go_wp2_with fail
    go_loopw [3, 5, 7, 8, 9, 15] (fun v _ _ _ _ t wr => ∃ k : Nat, k ≤ n ∧ t = .int .i64 k ∧ v = .string (lastH l k) ∧ w.grownBy wr none ∧ fstE (hrAt l) k = 0) (fun _ _ _ _ _ t _ => n - (intOf t).toNat)
    case atStart => exact ⟨0, Nat.zero_le _, rfl, rfl, gr_refl _ _, rfl⟩
    case round =>
      obtain ⟨k, hk, rfl, rfl, hg, ha⟩ := hrel
      have HA := Lib.hid ha; have HG := Lib.hid hg; clear ha hg
      by_cases hlt : k < n
      · obtain ⟨la, hla⟩ : ∃ la, lastH l k = la := ⟨_, rfl⟩
        rw [hla]
        have HLA := Lib.hid hla; clear hla
        obtain ⟨g, o, ⟨key, zone, rA, rn, rc, qA, qn, qc, rows, hol⟩, rfl, _, hgl, hz, hc⟩ := (H.out.1.grown HG.out (fun g e => by cases e)).get HrV.row_len hlt
        have hok := H.out.2 _ (mem_of_get hz)
        have hkey : key.size ≤ 1000 := hok.1.1
        have hrn1 : rn ≤ 1000 := hok.1.2.1
        have hqn1 : qn ≤ 1000 := hok.1.2.2
        obtain ⟨E, hE⟩ : ∃ E, hrE ⟨key, zone, rA, rn, rc, qA, qn, qc, rows, hol⟩ = E := ⟨_, rfl⟩
        have HEV := Lib.hid hE; have HZ := Lib.hid hz; have HC := Lib.hid hc; have HOK := Lib.hid hok; clear hz hc hok hE
        go_wp2_with (first
          | (refine wpl_load_at Tryz.hrT rfl _ rfl _ rfl [.string key, .int .i64 zone, .slice rA rn rc, .slice qA qn qc] rfl (fun j u hu => by rw [add_mk]; exact HC.out j u hu) ?_)
          | fail)
        refine (keyRefR_any key _ (by omega)).mono ?_
        rintro e w2 ⟨rfl, hg2⟩
        have hsB := (Blk.new wr 157 #[.string key, .int .i64 zone, .slice rA rn rc, .slice qA qn qc]).grown hg2 (by simp)
        have k0 := hsB.cell 0
        have k1 := hsB.cell 1
        have HG2 := Lib.hid (gr_none (gr_alloc HG.out _) hg2)
        have HB2 := Lib.hid hsB
        have z2 := hg2.size; simp at z2
        clear hg2
        have k2 := hsB.cell 2
        have k3 := hsB.cell 3
        clear hsB HEV E
        cases hB1 : keyOk (nb key)
        · have e := hrAt_5 HZ.out hB1
          have HFIN := Lib.hid (show hrsE l = 5 by rw [HF.out, fstE_stop HA.out (by rw [e]; decide) hlt, e])
          clear e
          go_wp2_with fail
          go_ret
          exact ⟨by rw [HFIN.out]; try rfl, HG2.out⟩
        · have HAL := Lib.hid (show hrAt l k = if leS key la then 7 else (if inB zone (-1440) 1440 then hrE ⟨key, zone, rA, rn, rc, qA, qn, qc, rows, hol⟩ else 1) by rw [← HLA.out]; exact hrAt_last HZ.out hB1)
          cases h7 : (Op.bytesLess key.toList la.toList || key.toList == la.toList)
          · have h7' : leS key la = false := h7
            rw [h7'] at HAL
            have HAE := Lib.hid (show hrAt l k = if inB zone (-1440) 1440 then (if 50 < rn then 2 else (if fstE (rwAt rows) rn = 0 then (if 200 < qn then 2 else fstE (hoAt hol) qn) else fstE (rwAt rows) rn)) else 1 from HAL.out)
            clear HAL h7'
            have HV := Lib.hid (hrs_stop HF.out HA.out hlt HAE.out)
            have HLT := Lib.hid hlt; have HA0 := HA; have HZ0 := HZ
            clear hlt HA HZ HG HC HLA
            obtain ⟨Bz, hBz⟩ : ∃ B, inB zone (-1440) 1440 = B := ⟨_, rfl⟩
            rw [hBz] at HV HAE
            have NZ := Lib.hid hBz; clear hBz
            cases Bz
            · go_wp2_with (first
                | (go_at_call 105; refine (in_any _ _ _ _).mono ?_; rintro e w' ⟨rfl, rfl⟩; rw [NZ.out])
                | fail)
              go_ret
              exact ⟨by rw [HV.out]; rfl, HG2.out⟩
            · rw [if_pos rfl] at HV HAE
              by_cases c0 : 50 < rn
              · have d0 : decide ((50 : Int) < (rn : Int)) = true := decide_eq_true (by omega)
                rw [if_pos c0] at HV
                go_wp2_with (first
                  | (go_at_call 105; refine (in_any _ _ _ _).mono ?_; rintro e w' ⟨rfl, rfl⟩; rw [NZ.out])
                  | fail)
                go_ret
                exact ⟨by rw [HV.out]; rfl, HG2.out⟩
              · have d0 : decide ((50 : Int) < (rn : Int)) = false := decide_eq_false (by omega)
                rw [if_neg c0] at HV HAE
                go_wp2_with (first
                  | (go_at_call 105; refine (in_any _ _ _ _).mono ?_; rintro e w' ⟨rfl, rfl⟩; rw [NZ.out])
                  | fail)
                clear k0 k1 k2 k3 h7 hB1
                obtain ⟨wo, rfl⟩ : ∃ wo : World, wo = wr := ⟨_, rfl⟩
                have HR := Lib.hid (show Recs r3Row 3 w lo rA rn rc rows from HOK.out.2.1)
                have HH := Lib.hid (show Recs r3Row 3 w lo qA qn qc hol from HOK.out.2.2)
                go_loopw [7, 44] (fun _ t wr => ∃ i : Nat, i ≤ rn ∧ t = .int .i64 i ∧ w.grownBy wr none ∧ Blk wr wo.heap.size 157 #[.string key, .int .i64 zone, .slice rA rn rc, .slice qA qn qc] ∧ fstE (rwAt rows) i = 0) (fun _ t _ => rn - (intOf t).toNat)
                case atStart => exact ⟨0, Nat.zero_le _, rfl, HG2.out, HB2.out, rfl⟩
                case round =>
                  clear HG2 HB2 z2
                  obtain ⟨i, hi, rfl, hg, hbl, ha⟩ := hrel
                  have zr := hg.size
                  have hbl1 := hbl.lt
                  have HA := Lib.hid ha; have HG := Lib.hid hg; have HB := Lib.hid hbl; clear ha hg hbl
                  by_cases hlt : i < rn
                  · obtain ⟨g, o, ⟨dy, df, dt⟩, rfl, _, hgl, hz, hc⟩ := (HR.out.grown HG.out (fun g e => by cases e)).get r3Row_len hlt
                    have HZ := Lib.hid hz; have HC := Lib.hid hc; clear hz hc
                    obtain ⟨B1, h1⟩ : ∃ B, inB dy 1 127 = B := ⟨_, rfl⟩
                    have N1 := Lib.hid h1; clear h1
                    cases B1
                    · have HFIN := Lib.hid (fst_ret (X := if 200 < qn then 2 else fstE (hoAt hol) qn) HA.out (rwAt_1 HZ.out (show (inB dy 1 127 && timB df dt) = false by rw [N1.out]; rfl)) (by decide) hlt)
                      go_wp2_with (first
                        | (refine wpl_load_at Tryz.rwT rfl _ rfl _ rfl [.int .i64 dy, .int .i64 df, .int .i64 dt] rfl (fun j u hu => by rw [add_mk]; exact HC.out j u hu) ?_)
                        | fail)
                      refine (in_any _ _ _ _).mono ?_; rintro e w' ⟨rfl, rfl⟩; rw [N1.out]
                      go_wp2_with fail
                      go_ret
                      exact ⟨by rw [HV.out, HFIN.out]; try rfl, gr_alloc HG.out _⟩
                    · by_cases c1 : df < 0
                      · have d1 : decide (df < 0) = true := decide_eq_true c1
                        have N2 := Lib.hid (timB_f (show df < 0 ∨ dt ≤ df ∨ 1440 < dt from .inl c1))
                        have HFIN := Lib.hid (fst_ret (X := if 200 < qn then 2 else fstE (hoAt hol) qn) HA.out (rwAt_1 HZ.out (show (inB dy 1 127 && timB df dt) = false by rw [N1.out, N2.out]; rfl)) (by decide) hlt)
                        go_wp2_with (first
                          | (refine wpl_load_at Tryz.rwT rfl _ rfl _ rfl [.int .i64 dy, .int .i64 df, .int .i64 dt] rfl (fun j u hu => by rw [add_mk]; exact HC.out j u hu) ?_)
                          | fail)
                        refine (in_any _ _ _ _).mono ?_; rintro e w' ⟨rfl, rfl⟩; rw [N1.out]
                        go_wp2_with fail
                        go_ret
                        exact ⟨by rw [HV.out, HFIN.out]; try rfl, gr_alloc HG.out _⟩
                      · have d1 : decide (df < 0) = false := decide_eq_false c1
                        by_cases c2 : dt ≤ df
                        · have d2 : decide (dt ≤ df) = true := decide_eq_true c2
                          have N2 := Lib.hid (timB_f (show df < 0 ∨ dt ≤ df ∨ 1440 < dt from .inr (.inl c2)))
                          have HFIN := Lib.hid (fst_ret (X := if 200 < qn then 2 else fstE (hoAt hol) qn) HA.out (rwAt_1 HZ.out (show (inB dy 1 127 && timB df dt) = false by rw [N1.out, N2.out]; rfl)) (by decide) hlt)
                          go_wp2_with (first
                            | (refine wpl_load_at Tryz.rwT rfl _ rfl _ rfl [.int .i64 dy, .int .i64 df, .int .i64 dt] rfl (fun j u hu => by rw [add_mk]; exact HC.out j u hu) ?_)
                            | fail)
                          refine (in_any _ _ _ _).mono ?_; rintro e w' ⟨rfl, rfl⟩; rw [N1.out]
                          go_wp2_with fail
                          go_ret
                          exact ⟨by rw [HV.out, HFIN.out]; try rfl, gr_alloc HG.out _⟩
                        · have d2 : decide (dt ≤ df) = false := decide_eq_false c2
                          by_cases c3 : 1440 < dt
                          · have d3 : decide (1440 < dt) = true := decide_eq_true c3
                            have N2 := Lib.hid (timB_f (show df < 0 ∨ dt ≤ df ∨ 1440 < dt from .inr (.inr c3)))
                            have HFIN := Lib.hid (fst_ret (X := if 200 < qn then 2 else fstE (hoAt hol) qn) HA.out (rwAt_1 HZ.out (show (inB dy 1 127 && timB df dt) = false by rw [N1.out, N2.out]; rfl)) (by decide) hlt)
                            go_wp2_with (first
                              | (refine wpl_load_at Tryz.rwT rfl _ rfl _ rfl [.int .i64 dy, .int .i64 df, .int .i64 dt] rfl (fun j u hu => by rw [add_mk]; exact HC.out j u hu) ?_)
                              | fail)
                            refine (in_any _ _ _ _).mono ?_; rintro e w' ⟨rfl, rfl⟩; rw [N1.out]
                            go_wp2_with fail
                            go_ret
                            exact ⟨by rw [HV.out, HFIN.out]; try rfl, gr_alloc HG.out _⟩
                          · have d3 : decide (1440 < dt) = false := decide_eq_false c3
                            have N2 := Lib.hid (timB_t (show ¬ (df < 0 ∨ dt ≤ df ∨ 1440 < dt) by omega))
                            have HE := Lib.hid (rwAt_0 HZ.out (show (inB dy 1 127 && timB df dt) = true by rw [N1.out, N2.out]; rfl))
                            go_wp2_with (first
                              | (refine wpl_load_at Tryz.rwT rfl _ rfl _ rfl [.int .i64 dy, .int .i64 df, .int .i64 dt] rfl (fun j u hu => by rw [add_mk]; exact HC.out j u hu) ?_)
                              | fail)
                            refine (in_any _ _ _ _).mono ?_; rintro e w' ⟨rfl, rfl⟩; rw [N1.out]
                            go_wp2_with fail
                            go_roundw
                            case rel => exact ⟨i + 1, by omega, by go_num, gr_alloc HG.out _, HB.out.alloc _, fstE_zero HA.out HE.out⟩
                            case measure => simp [intOf]; omega
                  · obtain rfl : rn = i := by omega
                    rw [if_pos HA.out] at HV HAE
                    have ka3 := HB.out.cell 3
                    have HG0 := HG; have HB0 := HB
                    clear HA HG HB
                    by_cases c1 : 200 < qn
                    · have d1 : decide ((200 : Int) < (qn : Int)) = true := decide_eq_true (by omega)
                      rw [if_pos c1] at HV
                      go_wp2_with fail
                      go_ret
                      exact ⟨by rw [HV.out]; rfl, HG0.out⟩
                    · have d1 : decide ((200 : Int) < (qn : Int)) = false := decide_eq_false (by omega)
                      rw [if_neg c1] at HV HAE
                      go_wp2_with fail
                      clear ka3
                      obtain ⟨wq, rfl⟩ : ∃ wq : World, wq = wr := ⟨_, rfl⟩
                      go_loopw [8, 9, 77] (fun _ _ t wr => ∃ i : Nat, i ≤ qn ∧ t = .int .i64 i ∧ w.grownBy wr none ∧ Blk wr wo.heap.size 157 #[.string key, .int .i64 zone, .slice rA rn rc, .slice qA qn qc] ∧ fstE (hoAt hol) i = 0) (fun _ _ t _ => qn - (intOf t).toNat)
                      case atStart => exact ⟨0, Nat.zero_le _, rfl, HG0.out, HB0.out, rfl⟩
                      case round =>
                        clear HG0 HB0
                        obtain ⟨i, hi, rfl, hg, hbl, ha⟩ := hrel
                        have zr := hg.size
                        have hbl1 := hbl.lt
                        have HA := Lib.hid ha; have HG := Lib.hid hg; have HB := Lib.hid hbl; clear ha hg hbl
                        by_cases hlt : i < qn
                        · obtain ⟨g, o, ⟨dy, df, dt⟩, rfl, _, hgl, hz, hc⟩ := (HH.out.grown HG.out (fun g e => by cases e)).get r3Row_len hlt
                          have HZ := Lib.hid hz; have HC := Lib.hid hc; clear hz hc
                          obtain ⟨B1, h1⟩ : ∃ B, inB dy 0 4000 = B := ⟨_, rfl⟩
                          have N1 := Lib.hid h1; clear h1
                          cases B1
                          · have HE := Lib.hid (hoAt_1 HZ.out (hoB_1 (z := (dy, df, dt)) N1.out))
                            have HFIN := Lib.hid (show fstE (hoAt hol) qn = 1 by rw [fstE_stop HA.out (by rw [HE.out]; decide) hlt, HE.out])
                            go_wp2_with (first
                              | (refine wpl_load_at Tryz.hoT rfl _ rfl _ rfl [.int .i64 dy, .int .i64 df, .int .i64 dt] rfl (fun j u hu => by rw [add_mk]; exact HC.out j u hu) ?_)
                              | fail)
                            refine (in_any _ _ _ _).mono ?_; rintro e w' ⟨rfl, rfl⟩; rw [N1.out]
                            go_wp2_with fail
                            go_ret
                            exact ⟨by rw [HV.out, HFIN.out]; try rfl, gr_alloc HG.out _⟩
                          · by_cases hz0 : df = 0 ∧ dt = 0
                            · obtain ⟨rfl, rfl⟩ := hz0
                              have HOB := Lib.hid (hoB_z (dy := dy) N1.out)
                              by_cases h0 : 0 < i
                              · obtain ⟨⟨pd, pf, pt⟩, hb⟩ : ∃ b, hol[i - 1]? = some b := ⟨_, List.getElem?_eq_getElem (by rw [HH.out.len]; omega)⟩
                                have kb := (HH.out.grown (gr_alloc HG.out (.cells #[.int .i64 dy, .int .i64 0, .int .i64 0] 161)) (fun g e => by cases e)).at_ r3Row_len hb 0 _ rfl
                                simp only [Nat.add_zero] at kb
                                have ka := (HB.out.alloc (.cells #[.int .i64 dy, .int .i64 0, .int .i64 0] 161)).cell 3
                                have HB1 := Lib.hid hb; clear hb
                                have hi0 : decide ((0 : Int) < (i : Int)) = true := by simpa using h0
                                by_cases h7 : dy ≤ pd
                                · have h7' : decide (dy ≤ pd) = true := decide_eq_true h7
                                  have HE := Lib.hid (hoAt_7 HZ.out HOB.out h0 HB1.out h7)
                                  have HFIN := Lib.hid (show fstE (hoAt hol) qn = 7 by rw [fstE_stop HA.out (by rw [HE.out]; decide) hlt, HE.out])
                                  clear h7
                                  have s2 : (0 : Int) ≤ (i : Int) - 1 := by omega
                                  have s5 : (1 : Int) ≤ (i : Int) := by omega
                                  have s3 : (i : Int) - 1 < (qn : Int) := by omega
                                  have s6 : (0 : Int) < (qn : Int) := by omega
                                  have s1 : IntKind.i64.wrap ((i : Int) - 1) = (i : Int) - 1 := IntWalk.i64_in _ (by omega)
                                  have s4 : ((i : Int) - 1).toNat = i - 1 := by omega
                                  go_wp2_with (first
                                    | (refine wpl_load_at Tryz.hoT rfl _ rfl _ rfl [.int .i64 dy, .int .i64 0, .int .i64 0] rfl (fun j u hu => by rw [add_mk]; exact HC.out j u hu) ?_)
                                    | fail)
                                  refine (in_any _ _ _ _).mono ?_; rintro e w' ⟨rfl, rfl⟩; rw [N1.out]
                                  go_wp2_with fail
                                  go_quiet (fail)
                                  go_wp2_with fail
                                  go_ret
                                  exact ⟨by rw [HV.out, HFIN.out]; try rfl, gr_drewN (gr_alloc HG.out _) _⟩
                                · have h7' : decide (dy ≤ pd) = false := decide_eq_false h7
                                  have HE := Lib.hid (hoAt_e HZ.out HOB.out HB1.out h7)
                                  have s2 : (0 : Int) ≤ (i : Int) - 1 := by omega
                                  have s5 : (1 : Int) ≤ (i : Int) := by omega
                                  have s3 : (i : Int) - 1 < (qn : Int) := by omega
                                  have s6 : (0 : Int) < (qn : Int) := by omega
                                  have s1 : IntKind.i64.wrap ((i : Int) - 1) = (i : Int) - 1 := IntWalk.i64_in _ (by omega)
                                  have s4 : ((i : Int) - 1).toNat = i - 1 := by omega
                                  go_wp2_with (first
                                    | (refine wpl_load_at Tryz.hoT rfl _ rfl _ rfl [.int .i64 dy, .int .i64 0, .int .i64 0] rfl (fun j u hu => by rw [add_mk]; exact HC.out j u hu) ?_)
                                    | fail)
                                  refine (in_any _ _ _ _).mono ?_; rintro e w' ⟨rfl, rfl⟩; rw [N1.out]
                                  go_wp2_with fail
                                  go_quiet (fail)
                                  go_wp2_with fail
                                  clear s1 s4
                                  go_roundw
                                  case rel => exact ⟨i + 1, by omega, by go_num, gr_drewN (gr_alloc HG.out _) _, (HB.out.alloc _).drewN _, fstE_zero HA.out HE.out⟩
                                  case measure => simp [intOf]; omega
                              · have HE := Lib.hid (hoAt_z HZ.out HOB.out h0)
                                have hi0 : decide ((0 : Int) < (i : Int)) = false := decide_eq_false (by omega)
                                go_wp2_with (first
                                  | (refine wpl_load_at Tryz.hoT rfl _ rfl _ rfl [.int .i64 dy, .int .i64 0, .int .i64 0] rfl (fun j u hu => by rw [add_mk]; exact HC.out j u hu) ?_)
                                  | fail)
                                refine (in_any _ _ _ _).mono ?_; rintro e w' ⟨rfl, rfl⟩; rw [N1.out]
                                go_wp2_with fail
                                go_quiet (fail)
                                go_wp2_with fail
                                go_roundw
                                case rel => exact ⟨i + 1, by omega, by go_num, gr_drewN (gr_alloc HG.out _) _, (HB.out.alloc _).drewN _, fstE_zero HA.out HE.out⟩
                                case measure => simp [intOf]; omega
                            · have HNZ := Lib.hid hz0
                              have hnz : (df != 0) = true ∨ ((df != 0) = false ∧ (dt != 0) = true) := by
                                by_cases e : df = 0
                                · exact .inr ⟨by simp [e], by simp; omega⟩
                                · exact .inl (by simp [e])
                              clear hz0
                              rcases hnz with n1 | ⟨n1, n2⟩
                              all_goals
                                by_cases c1 : df < 0
                                · have d1 : decide (df < 0) = true := decide_eq_true c1
                                  have N2 := Lib.hid (timB_f (show df < 0 ∨ dt ≤ df ∨ 1440 < dt from .inl c1))
                                  have HE := Lib.hid (hoAt_1 HZ.out (hoB_f (z := (dy, df, dt)) N1.out HNZ.out N2.out))
                                  have HFIN := Lib.hid (show fstE (hoAt hol) qn = 1 by rw [fstE_stop HA.out (by rw [HE.out]; decide) hlt, HE.out])
                                  go_wp2_with (first
                                    | (refine wpl_load_at Tryz.hoT rfl _ rfl _ rfl [.int .i64 dy, .int .i64 df, .int .i64 dt] rfl (fun j u hu => by rw [add_mk]; exact HC.out j u hu) ?_)
                                    | fail)
                                  refine (in_any _ _ _ _).mono ?_; rintro e w' ⟨rfl, rfl⟩; rw [N1.out]
                                  go_wp2_with fail
                                  go_ret
                                  exact ⟨by rw [HV.out, HFIN.out]; try rfl, gr_alloc HG.out _⟩
                                · have d1 : decide (df < 0) = false := decide_eq_false c1
                                  by_cases c2 : dt ≤ df
                                  · have d2 : decide (dt ≤ df) = true := decide_eq_true c2
                                    have N2 := Lib.hid (timB_f (show df < 0 ∨ dt ≤ df ∨ 1440 < dt from .inr (.inl c2)))
                                    have HE := Lib.hid (hoAt_1 HZ.out (hoB_f (z := (dy, df, dt)) N1.out HNZ.out N2.out))
                                    have HFIN := Lib.hid (show fstE (hoAt hol) qn = 1 by rw [fstE_stop HA.out (by rw [HE.out]; decide) hlt, HE.out])
                                    go_wp2_with (first
                                      | (refine wpl_load_at Tryz.hoT rfl _ rfl _ rfl [.int .i64 dy, .int .i64 df, .int .i64 dt] rfl (fun j u hu => by rw [add_mk]; exact HC.out j u hu) ?_)
                                      | fail)
                                    refine (in_any _ _ _ _).mono ?_; rintro e w' ⟨rfl, rfl⟩; rw [N1.out]
                                    go_wp2_with fail
                                    go_ret
                                    exact ⟨by rw [HV.out, HFIN.out]; try rfl, gr_alloc HG.out _⟩
                                  · have d2 : decide (dt ≤ df) = false := decide_eq_false c2
                                    by_cases c3 : 1440 < dt
                                    · have d3 : decide (1440 < dt) = true := decide_eq_true c3
                                      have N2 := Lib.hid (timB_f (show df < 0 ∨ dt ≤ df ∨ 1440 < dt from .inr (.inr c3)))
                                      have HE := Lib.hid (hoAt_1 HZ.out (hoB_f (z := (dy, df, dt)) N1.out HNZ.out N2.out))
                                      have HFIN := Lib.hid (show fstE (hoAt hol) qn = 1 by rw [fstE_stop HA.out (by rw [HE.out]; decide) hlt, HE.out])
                                      go_wp2_with (first
                                        | (refine wpl_load_at Tryz.hoT rfl _ rfl _ rfl [.int .i64 dy, .int .i64 df, .int .i64 dt] rfl (fun j u hu => by rw [add_mk]; exact HC.out j u hu) ?_)
                                        | fail)
                                      refine (in_any _ _ _ _).mono ?_; rintro e w' ⟨rfl, rfl⟩; rw [N1.out]
                                      go_wp2_with fail
                                      go_ret
                                      exact ⟨by rw [HV.out, HFIN.out]; try rfl, gr_alloc HG.out _⟩
                                    · have d3 : decide (1440 < dt) = false := decide_eq_false c3
                                      have N2 := Lib.hid (timB_t (show ¬ (df < 0 ∨ dt ≤ df ∨ 1440 < dt) by omega))
                                      have HOB := Lib.hid (hoB_t (z := (dy, df, dt)) N1.out N2.out)
                                      by_cases h0 : 0 < i
                                      · obtain ⟨⟨pd, pf, pt⟩, hb⟩ : ∃ b, hol[i - 1]? = some b := ⟨_, List.getElem?_eq_getElem (by rw [HH.out.len]; omega)⟩
                                        have kb := (HH.out.grown (gr_alloc HG.out (.cells #[.int .i64 dy, .int .i64 df, .int .i64 dt] 161)) (fun g e => by cases e)).at_ r3Row_len hb 0 _ rfl
                                        simp only [Nat.add_zero] at kb
                                        have ka := (HB.out.alloc (.cells #[.int .i64 dy, .int .i64 df, .int .i64 dt] 161)).cell 3
                                        have HB1 := Lib.hid hb; clear hb
                                        have hi0 : decide ((0 : Int) < (i : Int)) = true := by simpa using h0
                                        by_cases h7 : dy ≤ pd
                                        · have h7' : decide (dy ≤ pd) = true := decide_eq_true h7
                                          have HE := Lib.hid (hoAt_7 HZ.out HOB.out h0 HB1.out h7)
                                          have HFIN := Lib.hid (show fstE (hoAt hol) qn = 7 by rw [fstE_stop HA.out (by rw [HE.out]; decide) hlt, HE.out])
                                          clear h7
                                          have s2 : (0 : Int) ≤ (i : Int) - 1 := by omega
                                          have s5 : (1 : Int) ≤ (i : Int) := by omega
                                          have s3 : (i : Int) - 1 < (qn : Int) := by omega
                                          have s6 : (0 : Int) < (qn : Int) := by omega
                                          have s1 : IntKind.i64.wrap ((i : Int) - 1) = (i : Int) - 1 := IntWalk.i64_in _ (by omega)
                                          have s4 : ((i : Int) - 1).toNat = i - 1 := by omega
                                          go_wp2_with (first
                                            | (refine wpl_load_at Tryz.hoT rfl _ rfl _ rfl [.int .i64 dy, .int .i64 df, .int .i64 dt] rfl (fun j u hu => by rw [add_mk]; exact HC.out j u hu) ?_)
                                            | fail)
                                          refine (in_any _ _ _ _).mono ?_; rintro e w' ⟨rfl, rfl⟩; rw [N1.out]
                                          go_wp2_with fail
                                          go_quiet (fail)
                                          go_wp2_with fail
                                          go_ret
                                          exact ⟨by rw [HV.out, HFIN.out]; try rfl, gr_drewN (gr_alloc HG.out _) _⟩
                                        · have h7' : decide (dy ≤ pd) = false := decide_eq_false h7
                                          have HE := Lib.hid (hoAt_e HZ.out HOB.out HB1.out h7)
                                          have s2 : (0 : Int) ≤ (i : Int) - 1 := by omega
                                          have s5 : (1 : Int) ≤ (i : Int) := by omega
                                          have s3 : (i : Int) - 1 < (qn : Int) := by omega
                                          have s6 : (0 : Int) < (qn : Int) := by omega
                                          have s1 : IntKind.i64.wrap ((i : Int) - 1) = (i : Int) - 1 := IntWalk.i64_in _ (by omega)
                                          have s4 : ((i : Int) - 1).toNat = i - 1 := by omega
                                          go_wp2_with (first
                                            | (refine wpl_load_at Tryz.hoT rfl _ rfl _ rfl [.int .i64 dy, .int .i64 df, .int .i64 dt] rfl (fun j u hu => by rw [add_mk]; exact HC.out j u hu) ?_)
                                            | fail)
                                          refine (in_any _ _ _ _).mono ?_; rintro e w' ⟨rfl, rfl⟩; rw [N1.out]
                                          go_wp2_with fail
                                          go_quiet (fail)
                                          go_wp2_with fail
                                          clear s1 s4
                                          go_roundw
                                          case rel => exact ⟨i + 1, by omega, by go_num, gr_drewN (gr_alloc HG.out _) _, (HB.out.alloc _).drewN _, fstE_zero HA.out HE.out⟩
                                          case measure => simp [intOf]; omega
                                      · have HE := Lib.hid (hoAt_z HZ.out HOB.out h0)
                                        have hi0 : decide ((0 : Int) < (i : Int)) = false := decide_eq_false (by omega)
                                        go_wp2_with (first
                                          | (refine wpl_load_at Tryz.hoT rfl _ rfl _ rfl [.int .i64 dy, .int .i64 df, .int .i64 dt] rfl (fun j u hu => by rw [add_mk]; exact HC.out j u hu) ?_)
                                          | fail)
                                        refine (in_any _ _ _ _).mono ?_; rintro e w' ⟨rfl, rfl⟩; rw [N1.out]
                                        go_wp2_with fail
                                        go_quiet (fail)
                                        go_wp2_with fail
                                        go_roundw
                                        case rel => exact ⟨i + 1, by omega, by go_num, gr_drewN (gr_alloc HG.out _) _, (HB.out.alloc _).drewN _, fstE_zero HA.out HE.out⟩
                                        case measure => simp [intOf]; omega
                        · obtain rfl : qn = i := by omega
                          have HE0 := Lib.hid (show hrAt l k = 0 by rw [HAE.out, HA.out])
                          have hkn := HLT.out
                          go_wp2_with fail
                          go_roundw
                          case rel => exact ⟨k + 1, by omega, by go_num, by rw [lastH_succ HZ0.out], HG.out, fstE_zero HA0.out HE0.out⟩
                          case measure => simp [intOf]; omega
          · have h7' : leS key la = true := h7
            rw [h7'] at HAL
            have e : hrAt l k = 7 := HAL.out
            have HFIN := Lib.hid (show hrsE l = 7 by rw [HF.out, fstE_stop HA.out (by rw [e]; decide) hlt, e])
            clear e
            go_wp2_with fail
            go_ret
            exact ⟨by rw [HFIN.out]; try rfl, HG2.out⟩
      · obtain rfl : k = n := by omega
        go_wp2_with fail
        go_ret
        exact ⟨by rw [HF.out, HA.out]; try rfl, HG.out⟩
end Go.Proofs.YtpjheibkacbbcaaGreatDoor

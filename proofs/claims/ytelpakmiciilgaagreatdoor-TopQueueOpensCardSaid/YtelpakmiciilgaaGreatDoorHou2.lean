/- Contracts of CheckHours and of the document's HoursFault. Conditions: none. -/
import Derived.Test.YtelpakmiciilgaaGreatDoorHou1
namespace Go.Proofs.YtelpakmiciilgaaGreatDoor
open Go.RowKit

theorem hrs_stop {l : List HrV} {n k : Nat} {E : Int} (hf : hrsE l = fstE (hrAt l) n) (ha : fstE (hrAt l) k = 0) (hlt : k < n) (he : hrAt l k = E) : hrsE l = if E = 0 then hrsE l else E := by
  by_cases h : E = 0
  · rw [if_pos h]
  · rw [if_neg h, hf, fstE_stop ha (by rw [he]; exact h) hlt, he]
set_option maxHeartbeats 8000000 in
theorem checkHours_any (lo : Nat) (A : Option Addr) (n c : Nat) (l : List HrV) (w : World) (h : Hrs w lo A n c l) (hn : n ≤ 1000000000000) :
    Calls Tryz.prog 14 #[.slice A n c] w (RetV (.int .i64 (hrsE l)) w) := by
  have H := Lib.hid h; clear h
  by_cases hb : n > 50
  · have HF := Lib.hid (show hrsE l = 2 by unfold hrsE; rw [if_pos (by rw [H.out.1.len]; exact hb)])
    have hb' : decide ((50 : Int) < (n : Int)) = true := decide_eq_true (by omega)
    go_enter Tryz.func14, Tryz.ntmps14
    go_wp2_with fail
    go_ret
    exact ⟨by rw [HF.out]; try rfl, gr_refl _ _⟩
  · have hb' : decide ((50 : Int) < (n : Int)) = false := decide_eq_false (by omega)
    have HF := Lib.hid (show hrsE l = fstE (hrAt l) n by unfold hrsE; rw [if_neg (by rw [H.out.1.len]; exact hb), H.out.1.len])
    go_enter Tryz.func14, Tryz.ntmps14
    go_wp2_with fail
    go_loopw [3, 4, 5, 11] (fun _ _ _ t wr => ∃ k : Nat, k ≤ n ∧ t = .int .i64 k ∧ w.grownBy wr none ∧ fstE (hrAt l) k = 0) (fun _ _ _ t _ => n - (intOf t).toNat)
    case atStart => exact ⟨0, Nat.zero_le _, rfl, gr_refl _ _, rfl⟩
    case round =>
      obtain ⟨k, hk, rfl, hg, ha⟩ := hrel
      have HA := Lib.hid ha; have HG := Lib.hid hg; clear ha hg
      by_cases hlt : k < n
      · obtain ⟨g, o, ⟨key, zone, rA, rn, rc, qA, qn, qc, rows, hol⟩, rfl, _, hgl, hz, hc⟩ := (H.out.1.grown HG.out (fun g e => by cases e)).get HrV.row_len hlt
        have hok := H.out.2 _ (mem_of_get hz)
        have hkey : key.size ≤ 1000 := hok.1.1
        have hrn1 : rn ≤ 1000 := hok.1.2.1
        have hqn1 : qn ≤ 1000 := hok.1.2.2
        obtain ⟨E, hE⟩ : ∃ E, hrE ⟨key, zone, rA, rn, rc, qA, qn, qc, rows, hol⟩ = E := ⟨_, rfl⟩
        have HEV := Lib.hid hE; have HZ := Lib.hid hz; have HC := Lib.hid hc; have HOK := Lib.hid hok; clear hz hc hok hE
        go_wp2_with (first
          | (refine wpl_load_at Tryz.hrT rfl _ rfl _ rfl [.string key, .int .i64 zone, .slice rA rn rc, .slice qA qn qc] rfl (fun j u hu => by rw [add_mk]; exact HC.out j u hu) ?_)
          | fail)
        refine (isKey_any key _ (by omega)).mono ?_
        rintro e w2 ⟨rfl, hg2⟩
        have hsB := (Blk.new wr 29 #[.string key, .int .i64 zone, .slice rA rn rc, .slice qA qn qc]).grown hg2 (by simp)
        have k0 := hsB.cell 0
        have k1 := hsB.cell 1
        have HG2 := Lib.hid (gr_none (gr_alloc HG.out _) hg2)
        have HB2 := Lib.hid hsB
        have z2 := hg2.size; simp at z2
        clear hg2
        clear hsB
        cases hB1 : keyOk (nb key)
        · have e := hrAt_5 HZ.out hB1
          have HFIN := Lib.hid (show hrsE l = 5 by rw [HF.out, fstE_stop HA.out (by rw [e]; decide) hlt, e])
          clear e
          go_wp2_with fail
          go_ret
          exact ⟨by rw [HFIN.out]; try rfl, HG2.out⟩
        · by_cases h0 : 0 < k
          · obtain ⟨⟨key', zone', rA', rn', rc', qA', qn', qc', rows', hol'⟩, hb⟩ : ∃ b, l[k - 1]? = some b := ⟨_, List.getElem?_eq_getElem (by rw [H.out.1.len]; omega)⟩
            have kb := (H.out.1.grown HG2.out (fun g e => by cases e)).at_ HrV.row_len hb 0 _ rfl
            simp only [Nat.add_zero] at kb
            have HB1 := Lib.hid hb; clear hb
            have hi0 : decide ((0 : Int) < (k : Int)) = true := by simpa using h0
            cases h7 : (Op.bytesLess key.toList key'.toList || key.toList == key'.toList)
            · have s2 : (0 : Int) ≤ (k : Int) - 1 := by omega
              have s5 : (1 : Int) ≤ (k : Int) := by omega
              have s3 : (k : Int) - 1 < (n : Int) := by omega
              have s6 : (0 : Int) < (n : Int) := by omega
              have s1 : IntKind.i64.wrap ((k : Int) - 1) = (k : Int) - 1 := IntWalk.i64_in _ (by omega)
              have s4 : ((k : Int) - 1).toNat = k - 1 := by omega
              go_wp2_with fail
              go_quiet (fail)
              clear s1 s4
              have HAT := Lib.hid (hrAt_e HZ.out hB1 HB1.out h7)
              obtain ⟨Bz, hBz⟩ : ∃ B, inB zone (-1440) 1440 = B := ⟨_, rfl⟩
              have NZ := Lib.hid hBz; clear hBz
              cases Bz
              · have HE := Lib.hid (show hrAt l k = 1 by rw [HAT.out]; show (if inB zone (-1440) 1440 then hrE ⟨key, zone, rA, rn, rc, qA, qn, qc, rows, hol⟩ else 1) = 1; rw [NZ.out]; rfl)
                have HFIN := Lib.hid (show hrsE l = 1 by rw [HF.out, fstE_stop HA.out (by rw [HE.out]; decide) hlt, HE.out])
                go_wp2_with (first
                  | (go_at_call 29; refine (withinD_any _ _ _ _).mono ?_; rintro e w' ⟨rfl, rfl⟩; rw [NZ.out])
                  | fail)
                go_ret
                exact ⟨by rw [HFIN.out]; try rfl, gr_drewN HG2.out _⟩
              · have HE := Lib.hid (show hrAt l k = E by rw [HAT.out]; show (if inB zone (-1440) 1440 then hrE ⟨key, zone, rA, rn, rc, qA, qn, qc, rows, hol⟩ else 1) = E; rw [NZ.out]; exact HEV.out)
                go_wp2_with (first
                  | (go_at_call 29; refine (withinD_any _ _ _ _).mono ?_; rintro e w' ⟨rfl, rfl⟩; rw [NZ.out])
                  | (refine wpl_load_all Tryz.hrT rfl _ rfl _ rfl _ _ (HB2.out.drewN _) rfl ?_)
                  | fail)
                refine (checkTimes_any lo ⟨key, zone, rA, rn, rc, qA, qn, qc, rows, hol⟩ _ (HOK.out.grown (gr_drewN HG2.out _) (fun g e => by cases e))).mono ?_
                rintro e w3 ⟨rfl, hg3⟩
                have HG3 := Lib.hid (gr_none (gr_drewN HG2.out _) hg3); clear hg3
                rw [HEV.out]
                by_cases h9 : E = 0
                · have h9' : (E != 0) = false := by simpa using h9
                  have HE0 := Lib.hid (show hrAt l k = 0 by rw [HE.out, h9])
                  clear h9
                  go_wp2_with fail
                  go_roundw
                  case rel => exact ⟨k + 1, by omega, by go_num, HG3.out, fstE_zero HA.out HE0.out⟩
                  case measure => simp [intOf]; omega
                · have h9' : (E != 0) = true := by simpa using h9
                  have HFIN := Lib.hid (show hrsE l = E by rw [HF.out, fstE_stop HA.out (by rw [HE.out]; exact h9) hlt, HE.out])
                  go_wp2_with fail
                  go_ret
                  exact ⟨by rw [HFIN.out]; try rfl, HG3.out⟩
            · have e := hrAt_7 HZ.out hB1 h0 HB1.out h7
              have HFIN := Lib.hid (show hrsE l = 7 by rw [HF.out, fstE_stop HA.out (by rw [e]; decide) hlt, e])
              clear e
              have s2 : (0 : Int) ≤ (k : Int) - 1 := by omega
              have s5 : (1 : Int) ≤ (k : Int) := by omega
              have s3 : (k : Int) - 1 < (n : Int) := by omega
              have s6 : (0 : Int) < (n : Int) := by omega
              have s1 : IntKind.i64.wrap ((k : Int) - 1) = (k : Int) - 1 := IntWalk.i64_in _ (by omega)
              have s4 : ((k : Int) - 1).toNat = k - 1 := by omega
              go_wp2_with fail
              go_quiet (fail)
              go_wp2_with fail
              go_ret
              exact ⟨by rw [HFIN.out]; try rfl, gr_drewN HG2.out _⟩
          · have hi0 : decide ((0 : Int) < (k : Int)) = false := decide_eq_false (by omega)
            go_wp2_with fail
            go_quiet (fail)
            have HAT := Lib.hid (hrAt_z HZ.out hB1 h0)
            obtain ⟨Bz, hBz⟩ : ∃ B, inB zone (-1440) 1440 = B := ⟨_, rfl⟩
            have NZ := Lib.hid hBz; clear hBz
            cases Bz
            · have HE := Lib.hid (show hrAt l k = 1 by rw [HAT.out]; show (if inB zone (-1440) 1440 then hrE ⟨key, zone, rA, rn, rc, qA, qn, qc, rows, hol⟩ else 1) = 1; rw [NZ.out]; rfl)
              have HFIN := Lib.hid (show hrsE l = 1 by rw [HF.out, fstE_stop HA.out (by rw [HE.out]; decide) hlt, HE.out])
              go_wp2_with (first
                | (go_at_call 29; refine (withinD_any _ _ _ _).mono ?_; rintro e w' ⟨rfl, rfl⟩; rw [NZ.out])
                | fail)
              go_ret
              exact ⟨by rw [HFIN.out]; try rfl, gr_drewN HG2.out _⟩
            · have HE := Lib.hid (show hrAt l k = E by rw [HAT.out]; show (if inB zone (-1440) 1440 then hrE ⟨key, zone, rA, rn, rc, qA, qn, qc, rows, hol⟩ else 1) = E; rw [NZ.out]; exact HEV.out)
              go_wp2_with (first
                | (go_at_call 29; refine (withinD_any _ _ _ _).mono ?_; rintro e w' ⟨rfl, rfl⟩; rw [NZ.out])
                | (refine wpl_load_all Tryz.hrT rfl _ rfl _ rfl _ _ (HB2.out.drewN _) rfl ?_)
                | fail)
              refine (checkTimes_any lo ⟨key, zone, rA, rn, rc, qA, qn, qc, rows, hol⟩ _ (HOK.out.grown (gr_drewN HG2.out _) (fun g e => by cases e))).mono ?_
              rintro e w3 ⟨rfl, hg3⟩
              have HG3 := Lib.hid (gr_none (gr_drewN HG2.out _) hg3); clear hg3
              rw [HEV.out]
              by_cases h9 : E = 0
              · have h9' : (E != 0) = false := by simpa using h9
                have HE0 := Lib.hid (show hrAt l k = 0 by rw [HE.out, h9])
                clear h9
                go_wp2_with fail
                go_roundw
                case rel => exact ⟨k + 1, by omega, by go_num, HG3.out, fstE_zero HA.out HE0.out⟩
                case measure => simp [intOf]; omega
              · have h9' : (E != 0) = true := by simpa using h9
                have HFIN := Lib.hid (show hrsE l = E by rw [HF.out, fstE_stop HA.out (by rw [HE.out]; exact h9) hlt, HE.out])
                go_wp2_with fail
                go_ret
                exact ⟨by rw [HFIN.out]; try rfl, HG3.out⟩
      · obtain rfl : k = n := by omega
        go_wp2_with fail
        go_ret
        exact ⟨by rw [HF.out, HA.out]; try rfl, HG.out⟩
end Go.Proofs.YtelpakmiciilgaaGreatDoor

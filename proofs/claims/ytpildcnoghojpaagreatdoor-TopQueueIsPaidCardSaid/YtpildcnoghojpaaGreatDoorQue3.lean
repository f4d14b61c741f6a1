/- Contracts of CheckCallers and of the document's CallersFault. Conditions: none. -/
import Derived.Test.YtpildcnoghojpaaGreatDoorBun4
import Derived.Test.YtpildcnoghojpaaGreatDoorQue1
import Derived.Test.YtpildcnoghojpaaGreatDoorBun1
namespace Go.Proofs.YtpildcnoghojpaaGreatDoor
open Go.RowKit

theorem Tryz.caT : StructT Tryz.prog 41 8 := ⟨_, Tryz.underlying41, rfl, by kernel_rfl⟩

set_option maxHeartbeats 4000000 in
theorem checkCallers_any (lo : Nat) (A : Option Addr) (n c : Nat) (l : List CaV) (w : World) (h : Cas w lo A n c l) (hn : n ≤ 1000000000000) :
    Calls Tryz.prog 32 #[.slice A n c] w (RetV (.int .i64 (casE l)) w) := by
  have H := Lib.hid h; clear h
  by_cases hb : n > 500
  · have HF := Lib.hid (show casE l = 2 by unfold casE; rw [if_pos (by rw [H.out.1.len]; exact hb)])
    have hb' : decide ((500 : Int) < (n : Int)) = true := decide_eq_true (by omega)
    go_enter Tryz.func32, Tryz.ntmps32
    go_wp2_with fail
    go_ret
    exact ⟨by rw [HF.out]; rfl, gr_refl _ _⟩
  · have hb' : decide ((500 : Int) < (n : Int)) = false := decide_eq_false (by omega)
    have HF := Lib.hid (show casE l = fstE (caAt l) n by unfold casE; rw [if_neg (by rw [H.out.1.len]; exact hb), H.out.1.len])
    have hmm := @run_makeMap Tryz.prog
    go_enter Tryz.func32, Tryz.ntmps32
    go_wp2_with fail
    clear hmm
    go_loopw [4, 5, 12] (fun _ _ t wr => ∃ k s : Nat, k ≤ n ∧ t = .int .i64 k ∧ w.grownBy wr none ∧ SetS wr w.heap.size k ((l.take k).map (·.id)) s ∧ fstE (caAt l) k = 0) (fun _ _ t _ => n - (intOf t).toNat)
    case atStart => exact ⟨0, 0, Nat.zero_le _, rfl, gr_alloc (gr_refl _ _) _, SetS.new _, rfl⟩
    case round =>
      obtain ⟨k, s, hk, rfl, hg, hset, ha⟩ := hrel
      have HA := Lib.hid ha; have HG := Lib.hid hg; have HSET := Lib.hid hset; clear hset; clear ha hg
      by_cases hlt : k < n
      · obtain ⟨g, o, ⟨id, skill, at_, least, prio, pat, talk, back⟩, rfl, _, hgl, hz, hc⟩ := (H.out.1.grown HG.out (fun g e => by cases e)).get CaV.row_len hlt
        have hok := H.out.2 _ (mem_of_get hz)
        have hid : id.size ≤ 1000 := hok.1
        have hsk : skill.size ≤ 1000 := hok.2
        clear hok
        have zr := HG.out.size
        have zs : w.heap.size < wr.heap.size := by obtain ⟨_, h1, _⟩ := HSET.out; exact h1.lt
        have HZ := Lib.hid hz; have HC := Lib.hid hc; clear hz hc
        go_wp2_with (first
          | (refine wpl_load_at Tryz.caT rfl _ rfl _ rfl [.string id, .string skill, .int .i64 at_, .int .i64 least, .int .i64 prio, .int .i64 pat, .int .i64 talk, .bool back] rfl (fun j u hu => by rw [add_mk]; exact HC.out j u hu) ?_)
          | fail)
        refine (isKey_any id _ (by omega)).mono ?_
        rintro e w2 ⟨rfl, hg2⟩
        have hsB := (Blk.new wr 41 #[.string id, .string skill, .int .i64 at_, .int .i64 least, .int .i64 prio, .int .i64 pat, .int .i64 talk, .bool back]).grown hg2 (by simp)
        have k1 := hsB.cell 1
        replace HG := Lib.hid (gr_none (gr_alloc HG.out _) hg2)
        replace HSET := Lib.hid ((HSET.out.kept (gr_alloc (gr_refl _ none) _) (by simp)).kept hg2 (by simp))
        have HB := Lib.hid hsB
        have z2 := hg2.size; simp at z2
        clear hg2 hsB
        cases hB1 : keyOk (nb id)
        · have e := caAt_5 HZ.out (by dsimp only; rw [hB1]; rfl)
          have HFIN := Lib.hid (show casE l = 5 by rw [HF.out, fstE_stop HA.out (by rw [e]; decide) hlt, e])
          clear e
          go_wp2_with fail
          go_ret
          exact ⟨by rw [HFIN.out]; rfl, HG.out⟩
        · go_wp2_with fail
          refine (isKey_any skill _ (by omega)).mono ?_
          rintro e w3 ⟨rfl, hg3⟩
          have hsB := HB.out.grown hg3 (by simp)
          have k0 := hsB.cell 0
          have k2 := hsB.cell 2
          have k3 := hsB.cell 3
          have k4 := hsB.cell 4
          have k5 := hsB.cell 5
          have k6 := hsB.cell 6
          replace HG := Lib.hid (gr_none HG.out hg3)
          replace HSET := Lib.hid (HSET.out.kept hg3 (by simp))
          replace HB := Lib.hid hsB
          have z3 := hg3.size
          clear hg3 hsB k1
          cases hB2 : keyOk (nb skill)
          · have e := caAt_5 HZ.out (by dsimp only; rw [hB1, hB2]; rfl)
            have HFIN := Lib.hid (show casE l = 5 by rw [HF.out, fstE_stop HA.out (by rw [e]; decide) hlt, e])
            clear e
            go_wp2_with fail
            go_ret
            exact ⟨by rw [HFIN.out]; rfl, HG.out⟩
          · have HK := Lib.hid (show (keyOk (nb id) && keyOk (nb skill)) = true by rw [hB1, hB2]; rfl)
            clear hB1 hB2
            obtain ⟨M, hM⟩ : ∃ M, memS ((l.take k).map (·.id)) id = M := ⟨_, rfl⟩
            have HM := Lib.hid hM; clear hM
            cases M
            · have HN := Lib.hid (show caNum ⟨id, skill, at_, least, prio, pat, talk, back⟩ = (momB at_ && inB least 1 9 && inB prio 0 9 && inB pat 0 86400000 && inB talk 1 86400000) from rfl)
              obtain ⟨b1, hb1⟩ : ∃ B, momB at_ = B := ⟨_, rfl⟩
              rw [hb1] at HN
              have N1 := Lib.hid hb1; clear hb1
              obtain ⟨b2, hb2⟩ : ∃ B, inB least 1 9 = B := ⟨_, rfl⟩
              rw [hb2] at HN
              have N2 := Lib.hid hb2; clear hb2
              obtain ⟨b3, hb3⟩ : ∃ B, inB prio 0 9 = B := ⟨_, rfl⟩
              rw [hb3] at HN
              have N3 := Lib.hid hb3; clear hb3
              obtain ⟨b4, hb4⟩ : ∃ B, inB pat 0 86400000 = B := ⟨_, rfl⟩
              rw [hb4] at HN
              have N4 := Lib.hid hb4; clear hb4
              obtain ⟨b5, hb5⟩ : ∃ B, inB talk 1 86400000 = B := ⟨_, rfl⟩
              rw [hb5] at HN
              have N5 := Lib.hid hb5; clear hb5
              cases b1
              · have e := caAt_1 HZ.out HK.out HM.out (by rw [HN.out]; simp)
                have HFIN := Lib.hid (show casE l = 1 by rw [HF.out, fstE_stop HA.out (by rw [e]; decide) hlt, e])
                clear e
                go_wp2_with (first
                  | (at_lookup; refine wpl_slook rfl _ _ rfl rfl id rfl (by unfold maxLen; omega) HSET.out ?_; rw [HM.out])
                  | (go_at_call 53; refine (isMomB_any _ _).mono ?_; rintro e w' ⟨rfl, rfl⟩; rw [N1.out])
                  | (go_at_call 60; refine (within_any _ _ _ _).mono ?_; rintro e w' ⟨rfl, rfl⟩; first | rw [N2.out] | rw [N3.out] | rw [N4.out] | rw [N5.out] | fail)
                  | fail)
                go_ret
                exact ⟨by rw [HFIN.out]; rfl, HG.out⟩
              · skip
                cases b2
                · have e := caAt_1 HZ.out HK.out HM.out (by rw [HN.out]; simp)
                  have HFIN := Lib.hid (show casE l = 1 by rw [HF.out, fstE_stop HA.out (by rw [e]; decide) hlt, e])
                  clear e
                  go_wp2_with (first
                    | (at_lookup; refine wpl_slook rfl _ _ rfl rfl id rfl (by unfold maxLen; omega) HSET.out ?_; rw [HM.out])
                    | (go_at_call 53; refine (isMomB_any _ _).mono ?_; rintro e w' ⟨rfl, rfl⟩; rw [N1.out])
                    | (go_at_call 60; refine (within_any _ _ _ _).mono ?_; rintro e w' ⟨rfl, rfl⟩; first | rw [N2.out] | rw [N3.out] | rw [N4.out] | rw [N5.out] | fail)
                    | fail)
                  go_ret
                  exact ⟨by rw [HFIN.out]; rfl, HG.out⟩
                · skip
                  cases b3
                  · have e := caAt_1 HZ.out HK.out HM.out (by rw [HN.out]; simp)
                    have HFIN := Lib.hid (show casE l = 1 by rw [HF.out, fstE_stop HA.out (by rw [e]; decide) hlt, e])
                    clear e
                    go_wp2_with (first
                      | (at_lookup; refine wpl_slook rfl _ _ rfl rfl id rfl (by unfold maxLen; omega) HSET.out ?_; rw [HM.out])
                      | (go_at_call 53; refine (isMomB_any _ _).mono ?_; rintro e w' ⟨rfl, rfl⟩; rw [N1.out])
                      | (go_at_call 60; refine (within_any _ _ _ _).mono ?_; rintro e w' ⟨rfl, rfl⟩; first | rw [N2.out] | rw [N3.out] | rw [N4.out] | rw [N5.out] | fail)
                      | fail)
                    go_ret
                    exact ⟨by rw [HFIN.out]; rfl, HG.out⟩
                  · skip
                    cases b4
                    · have e := caAt_1 HZ.out HK.out HM.out (by rw [HN.out]; simp)
                      have HFIN := Lib.hid (show casE l = 1 by rw [HF.out, fstE_stop HA.out (by rw [e]; decide) hlt, e])
                      clear e
                      go_wp2_with (first
                        | (at_lookup; refine wpl_slook rfl _ _ rfl rfl id rfl (by unfold maxLen; omega) HSET.out ?_; rw [HM.out])
                        | (go_at_call 53; refine (isMomB_any _ _).mono ?_; rintro e w' ⟨rfl, rfl⟩; rw [N1.out])
                        | (go_at_call 60; refine (within_any _ _ _ _).mono ?_; rintro e w' ⟨rfl, rfl⟩; first | rw [N2.out] | rw [N3.out] | rw [N4.out] | rw [N5.out] | fail)
                        | fail)
                      go_ret
                      exact ⟨by rw [HFIN.out]; rfl, HG.out⟩
                    · skip
                      cases b5
                      · have e := caAt_1 HZ.out HK.out HM.out (by rw [HN.out]; simp)
                        have HFIN := Lib.hid (show casE l = 1 by rw [HF.out, fstE_stop HA.out (by rw [e]; decide) hlt, e])
                        clear e
                        go_wp2_with (first
                          | (at_lookup; refine wpl_slook rfl _ _ rfl rfl id rfl (by unfold maxLen; omega) HSET.out ?_; rw [HM.out])
                          | (go_at_call 53; refine (isMomB_any _ _).mono ?_; rintro e w' ⟨rfl, rfl⟩; rw [N1.out])
                          | (go_at_call 60; refine (within_any _ _ _ _).mono ?_; rintro e w' ⟨rfl, rfl⟩; first | rw [N2.out] | rw [N3.out] | rw [N4.out] | rw [N5.out] | fail)
                          | fail)
                        go_ret
                        exact ⟨by rw [HFIN.out]; rfl, HG.out⟩
                      · skip
                        have HNT := Lib.hid (show caNum ⟨id, skill, at_, least, prio, pat, talk, back⟩ = true by rw [HN.out]; rfl)
                        by_cases h0 : 0 < k
                        · obtain ⟨⟨id', skill', at', least', prio', pat', talk', back'⟩, hb⟩ : ∃ b, l[k - 1]? = some b := ⟨_, List.getElem?_eq_getElem (by rw [H.out.1.len]; omega)⟩
                          have kb := (H.out.1.grown HG.out (fun g e => by cases e)).at_ CaV.row_len hb 2 _ rfl
                          have HB1 := Lib.hid hb; clear hb
                          have hi0 : decide ((0 : Int) < (k : Int)) = true := by simpa using h0
                          by_cases h7 : at_ < at'
                          · have e := caAt_7 HZ.out HK.out HM.out HNT.out h0 HB1.out h7
                            have HFIN := Lib.hid (show casE l = 7 by rw [HF.out, fstE_stop HA.out (by rw [e]; decide) hlt, e])
                            clear e
                            have s2 : (0 : Int) ≤ (k : Int) - 1 := by omega
                            have s5 : (1 : Int) ≤ (k : Int) := by omega
                            have s3 : (k : Int) - 1 < (n : Int) := by omega
                            have s6 : (0 : Int) < (n : Int) := by omega
                            have s1 : IntKind.i64.wrap ((k : Int) - 1) = (k : Int) - 1 := IntWalk.i64_in _ (by omega)
                            have s4 : ((k : Int) - 1).toNat = k - 1 := by omega
                            go_wp2_with (first
                              | (at_lookup; refine wpl_slook rfl _ _ rfl rfl id rfl (by unfold maxLen; omega) HSET.out ?_; rw [HM.out])
                              | (go_at_call 53; refine (isMomB_any _ _).mono ?_; rintro e w' ⟨rfl, rfl⟩; rw [N1.out])
                              | (go_at_call 60; refine (within_any _ _ _ _).mono ?_; rintro e w' ⟨rfl, rfl⟩; first | rw [N2.out] | rw [N3.out] | rw [N4.out] | rw [N5.out] | fail)
                              | fail)
                            go_quiet (fail)
                            go_wp2_with fail
                            go_ret
                            exact ⟨by rw [HFIN.out]; rfl, gr_drewN HG.out _⟩
                          · have HE := Lib.hid (caAt_e HZ.out HK.out HM.out HNT.out HB1.out h7)
                            have h7' : decide (at_ < at') = false := decide_eq_false h7
                            have s2 : (0 : Int) ≤ (k : Int) - 1 := by omega
                            have s5 : (1 : Int) ≤ (k : Int) := by omega
                            have s3 : (k : Int) - 1 < (n : Int) := by omega
                            have s6 : (0 : Int) < (n : Int) := by omega
                            have s1 : IntKind.i64.wrap ((k : Int) - 1) = (k : Int) - 1 := IntWalk.i64_in _ (by omega)
                            have s4 : ((k : Int) - 1).toNat = k - 1 := by omega
                            go_wp2_with (first
                              | (at_lookup; refine wpl_slook rfl _ _ rfl rfl id rfl (by unfold maxLen; omega) HSET.out ?_; rw [HM.out])
                              | (go_at_call 53; refine (isMomB_any _ _).mono ?_; rintro e w' ⟨rfl, rfl⟩; rw [N1.out])
                              | (go_at_call 60; refine (within_any _ _ _ _).mono ?_; rintro e w' ⟨rfl, rfl⟩; first | rw [N2.out] | rw [N3.out] | rw [N4.out] | rw [N5.out] | fail)
                              | fail)
                            go_quiet (fail)
                            clear s1 s4
                            go_wp2_with (first
                              | (at_mapUpdate
                                 refine wpl_sput rfl _ _ _ rfl rfl id rfl rfl (by unfold maxLen; omega) (by exact HSET.out.kept (gr_drewN (gr_refl _ none) _) (by simp)) (by unfold maxLen; omega) ?_
                                 intro w5 hset5 hg5
                                 have HS5 := Lib.hid hset5; have HG5 := Lib.hid (gr_trans (gr_drewN HG.out _) hg5 (fun g e => .inr (by injection e with e; omega)))
                                 clear hset5 hg5)
                              | fail)
                            go_roundw
                            case rel => exact ⟨k + 1, _, by omega, by go_num, HG5.out, by rw [take_snoc' HZ.out, List.map_append]; exact HS5.out, fstE_zero HA.out HE.out⟩
                            case measure => simp [intOf]; omega
                        · have HE := Lib.hid (caAt_z HZ.out HK.out HM.out HNT.out h0)
                          have hi0 : decide ((0 : Int) < (k : Int)) = false := decide_eq_false (by omega)
                          go_wp2_with (first
                            | (at_lookup; refine wpl_slook rfl _ _ rfl rfl id rfl (by unfold maxLen; omega) HSET.out ?_; rw [HM.out])
                            | (go_at_call 53; refine (isMomB_any _ _).mono ?_; rintro e w' ⟨rfl, rfl⟩; rw [N1.out])
                            | (go_at_call 60; refine (within_any _ _ _ _).mono ?_; rintro e w' ⟨rfl, rfl⟩; first | rw [N2.out] | rw [N3.out] | rw [N4.out] | rw [N5.out] | fail)
                            | fail)
                          go_quiet (fail)
                          go_wp2_with (first
                            | (at_mapUpdate
                               refine wpl_sput rfl _ _ _ rfl rfl id rfl rfl (by unfold maxLen; omega) (by exact HSET.out.kept (gr_drewN (gr_refl _ none) _) (by simp)) (by unfold maxLen; omega) ?_
                               intro w5 hset5 hg5
                               have HS5 := Lib.hid hset5; have HG5 := Lib.hid (gr_trans (gr_drewN HG.out _) hg5 (fun g e => .inr (by injection e with e; omega)))
                               clear hset5 hg5)
                            | fail)
                          go_roundw
                          case rel => exact ⟨k + 1, _, by omega, by go_num, HG5.out, by rw [take_snoc' HZ.out, List.map_append]; exact HS5.out, fstE_zero HA.out HE.out⟩
                          case measure => simp [intOf]; omega
            · have e := caAt_6 HZ.out HK.out HM.out
              have HFIN := Lib.hid (show casE l = 6 by rw [HF.out, fstE_stop HA.out (by rw [e]; decide) hlt, e])
              clear e
              go_wp2_with (first
                | (at_lookup; refine wpl_slook rfl _ _ rfl rfl id rfl (by unfold maxLen; omega) HSET.out ?_; rw [HM.out])
                | fail)
              go_ret
              exact ⟨by rw [HFIN.out]; rfl, HG.out⟩
      · obtain rfl : k = n := by omega
        go_wp2_with fail
        go_ret
        exact ⟨by rw [HF.out, HA.out]; rfl, HG.out⟩
end Go.Proofs.YtpildcnoghojpaaGreatDoor

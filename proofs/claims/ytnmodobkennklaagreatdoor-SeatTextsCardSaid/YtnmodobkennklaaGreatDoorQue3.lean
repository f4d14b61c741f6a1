/- Contracts of CheckCallers and of the document's CallersFault. Conditions: none. -/
import Derived.Test.YtnmodobkennklaaGreatDoorBun2
import Derived.Test.YtnmodobkennklaaGreatDoorQue1
import Derived.Test.YtnmodobkennklaaGreatDoorBun1
namespace Go.Proofs.YtnmodobkennklaaGreatDoor
open Go.RowKit

theorem Tryz.caT : StructT Tryz.prog 49 8 := ⟨_, Tryz.underlying49, rfl, by kernel_rfl⟩
set_option maxHeartbeats 1000000 in
theorem sameCaller_any (x z : CaV) (cb : Nat) (w : World) (hb : Blk w cb 49 #[.string z.id, .string z.skill, .int .i64 z.at_, .int .i64 z.least, .int .i64 z.prio, .int .i64 z.pat, .int .i64 z.talk, .bool z.back]) :
    Calls Tryz.prog 110 #[.agg #[.string x.id, .string x.skill, .int .i64 x.at_, .int .i64 x.least, .int .i64 x.prio, .int .i64 x.pat, .int .i64 x.talk, .bool x.back], .pointer (some ⟨cb, 0, none⟩)] w (RetV (.bool (nb x.id == nb z.id)) w) := by
  have hlt := hb.lt
  have kc := (hb.alloc (.cells #[.string x.id, .string x.skill, .int .i64 x.at_, .int .i64 x.least, .int .i64 x.prio, .int .i64 x.pat, .int .i64 x.talk, .bool x.back] 49)).cell 0
  have HE := Lib.hid (eqS_nb x.id z.id)
  have HB := Lib.hid hb; clear hb
  go_enter Tryz.func110, Tryz.ntmps110
  go_wp2_with fail
  go_ret
  exact ⟨by rw [← HE.out]; rfl, gr_alloc (gr_refl _ _) _⟩
set_option maxHeartbeats 2000000 in
theorem idxCaller_any (lo : Nat) (A : Option Addr) (n c : Nat) (l : List CaV) (z : CaV) (cb : Nat) (w : World) (h : Recs CaV.row 8 w lo A n c l) (hn : n ≤ 1000000000000) (hb : Blk w cb 49 #[.string z.id, .string z.skill, .int .i64 z.at_, .int .i64 z.least, .int .i64 z.prio, .int .i64 z.pat, .int .i64 z.talk, .bool z.back]) :
    Calls Tryz.prog 151 #[.slice A n c, .func (.func 110) #[] #[.pointer (some ⟨cb, 0, none⟩)]] w (RetV (.int .i64 (idxP (fun x => nb x.id == nb z.id) l)) w) := by
  have H := Lib.hid h; have HB := Lib.hid hb; clear h hb
  go_enter Tryz.func151, Tryz.ntmps151
  go_wp2_with fail
  go_loopw [5, 8] (fun _ t wr => ∃ i : Nat, i ≤ n ∧ t = .int .i64 i ∧ w.grownBy wr none ∧ (l.take i).all (fun x => !(nb x.id == nb z.id)) = true) (fun _ t _ => n - (intOf t).toNat)
  case atStart => exact ⟨0, Nat.zero_le _, rfl, gr_refl _ _, by simp⟩
  case round =>
    obtain ⟨i, hi, rfl, hg, ha⟩ := hrel
    have HA := Lib.hid ha; have HG := Lib.hid hg; clear ha hg
    by_cases hlt : i < n
    · obtain ⟨g, o, x, rfl, _, hgl, hz, hc⟩ := (H.out.grown HG.out (fun g e => by cases e)).get CaV.row_len hlt
      have HZ := Lib.hid hz; have HC := Lib.hid hc; clear hz hc
      obtain ⟨B, hB⟩ : ∃ B, (nb x.id == nb z.id) = B := ⟨_, rfl⟩
      have HE := Lib.hid hB; clear hB
      cases B
      all_goals
        go_wp2_with (first
          | (refine wpl_load_at Tryz.caT rfl _ rfl _ rfl [.string x.id, .string x.skill, .int .i64 x.at_, .int .i64 x.least, .int .i64 x.prio, .int .i64 x.pat, .int .i64 x.talk, .bool x.back] rfl (fun j u hu => by rw [add_mk]; exact HC.out j u hu) ?_)
          | (go_at_call 110; refine (sameCaller_any x z cb _ (HB.out.grown HG.out (by simp))).mono ?_; rintro e w2 ⟨rfl, hg2⟩; rw [HE.out]; have HG2 := Lib.hid (gr_none HG.out hg2); clear hg2)
          | fail)
      · go_roundw
        case rel => exact ⟨i + 1, by omega, by go_num, HG2.out, allP_succ HA.out HZ.out HE.out⟩
        case measure => simp [intOf]; omega
      · go_ret
        exact ⟨by rw [idxP_some (p := fun x : CaV => nb x.id == nb z.id) HA.out HZ.out HE.out]; rfl, HG2.out⟩
    · obtain rfl : i = n := by omega
      go_wp2_with fail
      go_ret
      have h := HA.out
      rw [List.take_of_length_le (by rw [H.out.len]; exact Nat.le_refl _)] at h
      exact ⟨by rw [idxP_none (p := fun x : CaV => nb x.id == nb z.id) h]; rfl, HG.out⟩
set_option maxHeartbeats 1000000 in
theorem hasCaller_any (lo : Nat) (A : Option Addr) (n c : Nat) (l : List CaV) (z : CaV) (cb : Nat) (w : World) (h : Recs CaV.row 8 w lo A n c l) (hn : n ≤ 1000000000000) (hb : Blk w cb 49 #[.string z.id, .string z.skill, .int .i64 z.at_, .int .i64 z.least, .int .i64 z.prio, .int .i64 z.pat, .int .i64 z.talk, .bool z.back]) :
    Calls Tryz.prog 109 #[.slice A n c, .func (.func 110) #[] #[.pointer (some ⟨cb, 0, none⟩)]] w (RetV (.bool (memS (l.map (·.id)) z.id)) w) := by
  have H := Lib.hid h; have HB := Lib.hid hb; clear h hb
  have HI := Lib.hid (show decide (0 ≤ idxP (fun x => nb x.id == nb z.id) l) = memS (l.map (·.id)) z.id by rw [idxP_any]; unfold memS; rw [List.any_map]; rfl)
  obtain ⟨I, hI⟩ : ∃ I, idxP (fun x => nb x.id == nb z.id) l = I := ⟨_, rfl⟩
  rw [hI] at HI
  have HI2 := Lib.hid hI; clear hI
  go_enter Tryz.func109, Tryz.ntmps109
  go_wp2_with (first
    | (go_at_call 151; refine (idxCaller_any lo _ _ _ l z cb _ H.out hn HB.out).mono ?_; rintro e w2 ⟨rfl, hg2⟩; rw [HI2.out]; have HG2 := Lib.hid hg2; clear hg2)
    | fail)
  go_ret
  exact ⟨by rw [← HI.out]; rfl, HG2.out⟩

set_option maxHeartbeats 4000000 in
theorem checkCallers_any (lo : Nat) (A : Option Addr) (n c : Nat) (l : List CaV) (w : World) (h : Cas w lo A n c l) (hn : n ≤ 1000000000000) :
    Calls Tryz.prog 90 #[.slice A n c] w (RetV (.int .i64 (casE l)) w) := by
  have H := Lib.hid h; clear h
  by_cases hb : n > 500
  · have HF := Lib.hid (show casE l = 2 by unfold casE; rw [if_pos (by rw [H.out.1.len]; exact hb)])
    have hb' : decide ((500 : Int) < (n : Int)) = true := decide_eq_true (by omega)
    go_enter Tryz.func90, Tryz.ntmps90
    go_wp2_with fail
    go_ret
    exact ⟨by rw [HF.out]; rfl, gr_refl _ _⟩
  · have hb' : decide ((500 : Int) < (n : Int)) = false := decide_eq_false (by omega)
    have HF := Lib.hid (show casE l = fstE (caAt l) n by unfold casE; rw [if_neg (by rw [H.out.1.len]; exact hb), H.out.1.len])
    have hmm := @run_makeMap Tryz.prog
    go_enter Tryz.func90, Tryz.ntmps90
    go_wp2_with fail
    clear hmm
    go_loopw [4, 5, 12] (fun _ _ t wr => ∃ k s : Nat, k ≤ n ∧ t = .int .i64 k ∧ w.grownBy wr none ∧ SetS wr w.heap.size k ((l.take k).map (·.id)) s ∧ fstE (caAt l) k = 0) (fun _ _ t _ => n - (intOf t).toNat)
    case atStart => exact ⟨0, 0, Nat.zero_le _, rfl, gr_alloc (gr_refl _ _) _, SetS.new _, rfl⟩
    case round =>
      obtain ⟨k, s, hk, rfl, hg, hset, ha⟩ := hrel
      have HA := Lib.hid ha; have HG := Lib.hid hg; have HSET := Lib.hid hset; clear hset; clear ha hg
      by_cases hlt : k < n
      · obtain ⟨g, o, ⟨id, skill, at_, least, prio, pat, talk, back⟩, rfl, _, hgl, hz, hc⟩ := (H.out.1.grown HG.out (fun g e => by cases e)).get CaV.row_len hlt
        have hok := H.out.2 _ (mem_of_get hz)
        have hid : id.size ≤ 1000 := hok.1
        have hsk : skill.size ≤ 1000 := hok.2
        clear hok
        have zr := HG.out.size
        have zs : w.heap.size < wr.heap.size := by obtain ⟨_, h1, _⟩ := HSET.out; exact h1.lt
        have HZ := Lib.hid hz; have HC := Lib.hid hc; clear hz hc
        go_wp2_with (first
          | (refine wpl_load_at Tryz.caT rfl _ rfl _ rfl [.string id, .string skill, .int .i64 at_, .int .i64 least, .int .i64 prio, .int .i64 pat, .int .i64 talk, .bool back] rfl (fun j u hu => by rw [add_mk]; exact HC.out j u hu) ?_)
          | fail)
        refine (isKey_any id _ (by omega)).mono ?_
        rintro e w2 ⟨rfl, hg2⟩
        have hsB := (Blk.new wr 49 #[.string id, .string skill, .int .i64 at_, .int .i64 least, .int .i64 prio, .int .i64 pat, .int .i64 talk, .bool back]).grown hg2 (by simp)
        have k1 := hsB.cell 1
        replace HG := Lib.hid (gr_none (gr_alloc HG.out _) hg2)
        replace HSET := Lib.hid ((HSET.out.kept (gr_alloc (gr_refl _ none) _) (by simp)).kept hg2 (by simp))
        have HB := Lib.hid hsB
        have z2 := hg2.size; simp at z2
        clear hg2 hsB
        cases hB1 : keyOk (nb id)
        · have e := caAt_5 HZ.out (by dsimp only; rw [hB1]; rfl)
          have HFIN := Lib.hid (show casE l = 5 by rw [HF.out, fstE_stop HA.out (by rw [e]; decide) hlt, e])
          clear e
          go_wp2_with fail
          go_ret
          exact ⟨by rw [HFIN.out]; rfl, HG.out⟩
        · go_wp2_with fail
          refine (isKey_any skill _ (by omega)).mono ?_
          rintro e w3 ⟨rfl, hg3⟩
          have hsB := HB.out.grown hg3 (by simp)
          have k0 := hsB.cell 0
          have k2 := hsB.cell 2
          have k3 := hsB.cell 3
          have k4 := hsB.cell 4
          have k5 := hsB.cell 5
          have k6 := hsB.cell 6
          replace HG := Lib.hid (gr_none HG.out hg3)
          replace HSET := Lib.hid (HSET.out.kept hg3 (by simp))
          replace HB := Lib.hid hsB
          have z3 := hg3.size
          clear hg3 hsB k1
          cases hB2 : keyOk (nb skill)
          · have e := caAt_5 HZ.out (by dsimp only; rw [hB1, hB2]; rfl)
            have HFIN := Lib.hid (show casE l = 5 by rw [HF.out, fstE_stop HA.out (by rw [e]; decide) hlt, e])
            clear e
            go_wp2_with fail
            go_ret
            exact ⟨by rw [HFIN.out]; rfl, HG.out⟩
          · have HK := Lib.hid (show (keyOk (nb id) && keyOk (nb skill)) = true by rw [hB1, hB2]; rfl)
            clear hB1 hB2
            obtain ⟨M, hM⟩ : ∃ M, memS ((l.take k).map (·.id)) id = M := ⟨_, rfl⟩
            have HM := Lib.hid hM; clear hM
            cases M
            · have HN := Lib.hid (show caNum ⟨id, skill, at_, least, prio, pat, talk, back⟩ = (momB at_ && inB least 1 9 && inB prio 0 9 && inB pat 0 86400000 && inB talk 1 86400000) from rfl)
              obtain ⟨b1, hb1⟩ : ∃ B, momB at_ = B := ⟨_, rfl⟩
              rw [hb1] at HN
              have N1 := Lib.hid hb1; clear hb1
              obtain ⟨b2, hb2⟩ : ∃ B, inB least 1 9 = B := ⟨_, rfl⟩
              rw [hb2] at HN
              have N2 := Lib.hid hb2; clear hb2
              obtain ⟨b3, hb3⟩ : ∃ B, inB prio 0 9 = B := ⟨_, rfl⟩
              rw [hb3] at HN
              have N3 := Lib.hid hb3; clear hb3
              obtain ⟨b4, hb4⟩ : ∃ B, inB pat 0 86400000 = B := ⟨_, rfl⟩
              rw [hb4] at HN
              have N4 := Lib.hid hb4; clear hb4
              obtain ⟨b5, hb5⟩ : ∃ B, inB talk 1 86400000 = B := ⟨_, rfl⟩
              rw [hb5] at HN
              have N5 := Lib.hid hb5; clear hb5
              cases b1
              · have e := caAt_1 HZ.out HK.out HM.out (by rw [HN.out]; simp)
                have HFIN := Lib.hid (show casE l = 1 by rw [HF.out, fstE_stop HA.out (by rw [e]; decide) hlt, e])
                clear e
                go_wp2_with (first
                  | (at_lookup; refine wpl_slook rfl _ _ rfl rfl id rfl (by unfold maxLen; omega) HSET.out ?_; rw [HM.out])
                  | (go_at_call 46; refine (isMomB_any _ _).mono ?_; rintro e w' ⟨rfl, rfl⟩; rw [N1.out])
                  | (go_at_call 115; refine (within_any _ _ _ _).mono ?_; rintro e w' ⟨rfl, rfl⟩; first | rw [N2.out] | rw [N3.out] | rw [N4.out] | rw [N5.out] | fail)
                  | fail)
                go_ret
                exact ⟨by rw [HFIN.out]; rfl, HG.out⟩
              · skip
                cases b2
                · have e := caAt_1 HZ.out HK.out HM.out (by rw [HN.out]; simp)
                  have HFIN := Lib.hid (show casE l = 1 by rw [HF.out, fstE_stop HA.out (by rw [e]; decide) hlt, e])
                  clear e
                  go_wp2_with (first
                    | (at_lookup; refine wpl_slook rfl _ _ rfl rfl id rfl (by unfold maxLen; omega) HSET.out ?_; rw [HM.out])
                    | (go_at_call 46; refine (isMomB_any _ _).mono ?_; rintro e w' ⟨rfl, rfl⟩; rw [N1.out])
                    | (go_at_call 115; refine (within_any _ _ _ _).mono ?_; rintro e w' ⟨rfl, rfl⟩; first | rw [N2.out] | rw [N3.out] | rw [N4.out] | rw [N5.out] | fail)
                    | fail)
                  go_ret
                  exact ⟨by rw [HFIN.out]; rfl, HG.out⟩
                · skip
                  cases b3
                  · have e := caAt_1 HZ.out HK.out HM.out (by rw [HN.out]; simp)
                    have HFIN := Lib.hid (show casE l = 1 by rw [HF.out, fstE_stop HA.out (by rw [e]; decide) hlt, e])
                    clear e
                    go_wp2_with (first
                      | (at_lookup; refine wpl_slook rfl _ _ rfl rfl id rfl (by unfold maxLen; omega) HSET.out ?_; rw [HM.out])
                      | (go_at_call 46; refine (isMomB_any _ _).mono ?_; rintro e w' ⟨rfl, rfl⟩; rw [N1.out])
                      | (go_at_call 115; refine (within_any _ _ _ _).mono ?_; rintro e w' ⟨rfl, rfl⟩; first | rw [N2.out] | rw [N3.out] | rw [N4.out] | rw [N5.out] | fail)
                      | fail)
                    go_ret
                    exact ⟨by rw [HFIN.out]; rfl, HG.out⟩
                  · skip
                    cases b4
                    · have e := caAt_1 HZ.out HK.out HM.out (by rw [HN.out]; simp)
                      have HFIN := Lib.hid (show casE l = 1 by rw [HF.out, fstE_stop HA.out (by rw [e]; decide) hlt, e])
                      clear e
                      go_wp2_with (first
                        | (at_lookup; refine wpl_slook rfl _ _ rfl rfl id rfl (by unfold maxLen; omega) HSET.out ?_; rw [HM.out])
                        | (go_at_call 46; refine (isMomB_any _ _).mono ?_; rintro e w' ⟨rfl, rfl⟩; rw [N1.out])
                        | (go_at_call 115; refine (within_any _ _ _ _).mono ?_; rintro e w' ⟨rfl, rfl⟩; first | rw [N2.out] | rw [N3.out] | rw [N4.out] | rw [N5.out] | fail)
                        | fail)
                      go_ret
                      exact ⟨by rw [HFIN.out]; rfl, HG.out⟩
                    · skip
                      cases b5
                      · have e := caAt_1 HZ.out HK.out HM.out (by rw [HN.out]; simp)
                        have HFIN := Lib.hid (show casE l = 1 by rw [HF.out, fstE_stop HA.out (by rw [e]; decide) hlt, e])
                        clear e
                        go_wp2_with (first
                          | (at_lookup; refine wpl_slook rfl _ _ rfl rfl id rfl (by unfold maxLen; omega) HSET.out ?_; rw [HM.out])
                          | (go_at_call 46; refine (isMomB_any _ _).mono ?_; rintro e w' ⟨rfl, rfl⟩; rw [N1.out])
                          | (go_at_call 115; refine (within_any _ _ _ _).mono ?_; rintro e w' ⟨rfl, rfl⟩; first | rw [N2.out] | rw [N3.out] | rw [N4.out] | rw [N5.out] | fail)
                          | fail)
                        go_ret
                        exact ⟨by rw [HFIN.out]; rfl, HG.out⟩
                      · skip
                        have HNT := Lib.hid (show caNum ⟨id, skill, at_, least, prio, pat, talk, back⟩ = true by rw [HN.out]; rfl)
                        by_cases h0 : 0 < k
                        · obtain ⟨⟨id', skill', at', least', prio', pat', talk', back'⟩, hb⟩ : ∃ b, l[k - 1]? = some b := ⟨_, List.getElem?_eq_getElem (by rw [H.out.1.len]; omega)⟩
                          have kb := (H.out.1.grown HG.out (fun g e => by cases e)).at_ CaV.row_len hb 2 _ rfl
                          have HB1 := Lib.hid hb; clear hb
                          have hi0 : decide ((0 : Int) < (k : Int)) = true := by simpa using h0
                          by_cases h7 : at_ < at'
                          · have e := caAt_7 HZ.out HK.out HM.out HNT.out h0 HB1.out h7
                            have HFIN := Lib.hid (show casE l = 7 by rw [HF.out, fstE_stop HA.out (by rw [e]; decide) hlt, e])
                            clear e
                            have s2 : (0 : Int) ≤ (k : Int) - 1 := by omega
                            have s5 : (1 : Int) ≤ (k : Int) := by omega
                            have s3 : (k : Int) - 1 < (n : Int) := by omega
                            have s6 : (0 : Int) < (n : Int) := by omega
                            have s1 : IntKind.i64.wrap ((k : Int) - 1) = (k : Int) - 1 := IntWalk.i64_in _ (by omega)
                            have s4 : ((k : Int) - 1).toNat = k - 1 := by omega
                            go_wp2_with (first
                              | (at_lookup; refine wpl_slook rfl _ _ rfl rfl id rfl (by unfold maxLen; omega) HSET.out ?_; rw [HM.out])
                              | (go_at_call 46; refine (isMomB_any _ _).mono ?_; rintro e w' ⟨rfl, rfl⟩; rw [N1.out])
                              | (go_at_call 115; refine (within_any _ _ _ _).mono ?_; rintro e w' ⟨rfl, rfl⟩; first | rw [N2.out] | rw [N3.out] | rw [N4.out] | rw [N5.out] | fail)
                              | fail)
                            go_quiet (fail)
                            go_wp2_with fail
                            go_ret
                            exact ⟨by rw [HFIN.out]; rfl, gr_drewN HG.out _⟩
                          · have HE := Lib.hid (caAt_e HZ.out HK.out HM.out HNT.out HB1.out h7)
                            have h7' : decide (at_ < at') = false := decide_eq_false h7
                            have s2 : (0 : Int) ≤ (k : Int) - 1 := by omega
                            have s5 : (1 : Int) ≤ (k : Int) := by omega
                            have s3 : (k : Int) - 1 < (n : Int) := by omega
                            have s6 : (0 : Int) < (n : Int) := by omega
                            have s1 : IntKind.i64.wrap ((k : Int) - 1) = (k : Int) - 1 := IntWalk.i64_in _ (by omega)
                            have s4 : ((k : Int) - 1).toNat = k - 1 := by omega
                            go_wp2_with (first
                              | (at_lookup; refine wpl_slook rfl _ _ rfl rfl id rfl (by unfold maxLen; omega) HSET.out ?_; rw [HM.out])
                              | (go_at_call 46; refine (isMomB_any _ _).mono ?_; rintro e w' ⟨rfl, rfl⟩; rw [N1.out])
                              | (go_at_call 115; refine (within_any _ _ _ _).mono ?_; rintro e w' ⟨rfl, rfl⟩; first | rw [N2.out] | rw [N3.out] | rw [N4.out] | rw [N5.out] | fail)
                              | fail)
                            go_quiet (fail)
                            clear s1 s4
                            go_wp2_with (first
                              | (at_mapUpdate
                                 refine wpl_sput rfl _ _ _ rfl rfl id rfl rfl (by unfold maxLen; omega) (by exact HSET.out.kept (gr_drewN (gr_refl _ none) _) (by simp)) (by unfold maxLen; omega) ?_
                                 intro w5 hset5 hg5
                                 have HS5 := Lib.hid hset5; have HG5 := Lib.hid (gr_trans (gr_drewN HG.out _) hg5 (fun g e => .inr (by injection e with e; omega)))
                                 clear hset5 hg5)
                              | fail)
                            go_roundw
                            case rel => exact ⟨k + 1, _, by omega, by go_num, HG5.out, by rw [take_snoc' HZ.out, List.map_append]; exact HS5.out, fstE_zero HA.out HE.out⟩
                            case measure => simp [intOf]; omega
                        · have HE := Lib.hid (caAt_z HZ.out HK.out HM.out HNT.out h0)
                          have hi0 : decide ((0 : Int) < (k : Int)) = false := decide_eq_false (by omega)
                          go_wp2_with (first
                            | (at_lookup; refine wpl_slook rfl _ _ rfl rfl id rfl (by unfold maxLen; omega) HSET.out ?_; rw [HM.out])
                            | (go_at_call 46; refine (isMomB_any _ _).mono ?_; rintro e w' ⟨rfl, rfl⟩; rw [N1.out])
                            | (go_at_call 115; refine (within_any _ _ _ _).mono ?_; rintro e w' ⟨rfl, rfl⟩; first | rw [N2.out] | rw [N3.out] | rw [N4.out] | rw [N5.out] | fail)
                            | fail)
                          go_quiet (fail)
                          go_wp2_with (first
                            | (at_mapUpdate
                               refine wpl_sput rfl _ _ _ rfl rfl id rfl rfl (by unfold maxLen; omega) (by exact HSET.out.kept (gr_drewN (gr_refl _ none) _) (by simp)) (by unfold maxLen; omega) ?_
                               intro w5 hset5 hg5
                               have HS5 := Lib.hid hset5; have HG5 := Lib.hid (gr_trans (gr_drewN HG.out _) hg5 (fun g e => .inr (by injection e with e; omega)))
                               clear hset5 hg5)
                            | fail)
                          go_roundw
                          case rel => exact ⟨k + 1, _, by omega, by go_num, HG5.out, by rw [take_snoc' HZ.out, List.map_append]; exact HS5.out, fstE_zero HA.out HE.out⟩
                          case measure => simp [intOf]; omega
            · have e := caAt_6 HZ.out HK.out HM.out
              have HFIN := Lib.hid (show casE l = 6 by rw [HF.out, fstE_stop HA.out (by rw [e]; decide) hlt, e])
              clear e
              go_wp2_with (first
                | (at_lookup; refine wpl_slook rfl _ _ rfl rfl id rfl (by unfold maxLen; omega) HSET.out ?_; rw [HM.out])
                | fail)
              go_ret
              exact ⟨by rw [HFIN.out]; rfl, HG.out⟩
      · obtain rfl : k = n := by omega
        go_wp2_with fail
        go_ret
        exact ⟨by rw [HF.out, HA.out]; rfl, HG.out⟩
set_option maxHeartbeats 4000000 in
theorem callersFault_any (lo : Nat) (A : Option Addr) (n c : Nat) (l : List CaV) (w : World) (h : Cas w lo A n c l) (hn : n ≤ 1000000000000) :
    Calls Tryz.prog 52 #[.slice A n c] w (RetV (.int .i64 (casE l)) w) := by
  have H := Lib.hid h; clear h
  by_cases hb : n > 500
  · have HF := Lib.hid (show casE l = 2 by unfold casE; rw [if_pos (by rw [H.out.1.len]; exact hb)])
    have hb' : decide ((500 : Int) < (n : Int)) = true := decide_eq_true (by omega)
    go_enter Tryz.func52, Tryz.ntmps52
    go_wp2_with fail
    go_ret
    exact ⟨by rw [HF.out]; rfl, gr_refl _ _⟩
  · have hb' : decide ((500 : Int) < (n : Int)) = false := decide_eq_false (by omega)
    have HF := Lib.hid (show casE l = fstE (caAt l) n by unfold casE; rw [if_neg (by rw [H.out.1.len]; exact hb), H.out.1.len])
    go_enter Tryz.func52, Tryz.ntmps52
    go_wp2_with fail
    skip
    go_loopw [3, 4, 10] (fun _ _ t wr => ∃ k : Nat, k ≤ n ∧ t = .int .i64 k ∧ w.grownBy wr none ∧ fstE (caAt l) k = 0) (fun _ _ t _ => n - (intOf t).toNat)
    case atStart => exact ⟨0, Nat.zero_le _, rfl, gr_refl _ _, rfl⟩
    case round =>
      obtain ⟨k, hk, rfl, hg, ha⟩ := hrel
      have HA := Lib.hid ha; have HG := Lib.hid hg; clear ha hg
      by_cases hlt : k < n
      · obtain ⟨g, o, ⟨id, skill, at_, least, prio, pat, talk, back⟩, rfl, _, hgl, hz, hc⟩ := (H.out.1.grown HG.out (fun g e => by cases e)).get CaV.row_len hlt
        have hok := H.out.2 _ (mem_of_get hz)
        have hid : id.size ≤ 1000 := hok.1
        have hsk : skill.size ≤ 1000 := hok.2
        clear hok
        have zr := HG.out.size
        have HZ := Lib.hid hz; have HC := Lib.hid hc; clear hz hc
        go_wp2_with (first
          | (refine wpl_load_at Tryz.caT rfl _ rfl _ rfl [.string id, .string skill, .int .i64 at_, .int .i64 least, .int .i64 prio, .int .i64 pat, .int .i64 talk, .bool back] rfl (fun j u hu => by rw [add_mk]; exact HC.out j u hu) ?_)
          | fail)
        refine (keyRefR_any id _ (by omega)).mono ?_
        rintro e w2 ⟨rfl, hg2⟩
        have hsB := (Blk.new wr 49 #[.string id, .string skill, .int .i64 at_, .int .i64 least, .int .i64 prio, .int .i64 pat, .int .i64 talk, .bool back]).grown hg2 (by simp)
        have k1 := hsB.cell 1
        replace HG := Lib.hid (gr_none (gr_alloc HG.out _) hg2)
        have HB := Lib.hid hsB
        have z2 := hg2.size; simp at z2
        clear hg2 hsB
        cases hB1 : keyOk (nb id)
        · have e := caAt_5 HZ.out (by dsimp only; rw [hB1]; rfl)
          have HFIN := Lib.hid (show casE l = 5 by rw [HF.out, fstE_stop HA.out (by rw [e]; decide) hlt, e])
          clear e
          go_wp2_with fail
          go_ret
          exact ⟨by rw [HFIN.out]; rfl, HG.out⟩
        · go_wp2_with fail
          refine (keyRefR_any skill _ (by omega)).mono ?_
          rintro e w3 ⟨rfl, hg3⟩
          have hsB := HB.out.grown hg3 (by simp)
          have k0 := hsB.cell 0
          have k2 := hsB.cell 2
          have k3 := hsB.cell 3
          have k4 := hsB.cell 4
          have k5 := hsB.cell 5
          have k6 := hsB.cell 6
          replace HG := Lib.hid (gr_none HG.out hg3)
          replace HB := Lib.hid hsB
          have z3 := hg3.size
          clear hg3 hsB k1
          cases hB2 : keyOk (nb skill)
          · have e := caAt_5 HZ.out (by dsimp only; rw [hB1, hB2]; rfl)
            have HFIN := Lib.hid (show casE l = 5 by rw [HF.out, fstE_stop HA.out (by rw [e]; decide) hlt, e])
            clear e
            go_wp2_with fail
            go_ret
            exact ⟨by rw [HFIN.out]; rfl, HG.out⟩
          · have HK := Lib.hid (show (keyOk (nb id) && keyOk (nb skill)) = true by rw [hB1, hB2]; rfl)
            clear hB1 hB2
            obtain ⟨M, hM⟩ : ∃ M, memS ((l.take k).map (·.id)) id = M := ⟨_, rfl⟩
            have HM := Lib.hid hM; clear hM
            have sl1 : (0 : Int) ≤ (k : Int) := by omega
            have sl2 : (k : Int) ≤ (c : Int) := by have := H.out.1.cap; omega
            go_wp2_with fail
            refine (hasCaller_any lo _ k c (l.take k) ⟨id, skill, at_, least, prio, pat, talk, back⟩ wr.heap.size _ ((H.out.1.grown HG.out (fun g e => by cases e)).take CaV.row_len (by omega)) (by omega) HB.out).mono ?_
            rintro e w4 ⟨rfl, hg4⟩
            rw [show memS ((l.take k).map (·.id)) (CaV.id ⟨id, skill, at_, least, prio, pat, talk, back⟩) = M from HM.out]
            have hsB := HB.out.grown hg4 (by simp)
            clear k0 k2 k3 k4 k5 k6
            have k2 := hsB.cell 2
            have k3 := hsB.cell 3
            have k4 := hsB.cell 4
            have k5 := hsB.cell 5
            have k6 := hsB.cell 6
            replace HG := Lib.hid (gr_none HG.out hg4)
            replace HB := Lib.hid hsB
            have z4 := hg4.size
            clear hg4 hsB
            cases M
            · have HN := Lib.hid (show caNum ⟨id, skill, at_, least, prio, pat, talk, back⟩ = (momB at_ && inB least 1 9 && inB prio 0 9 && inB pat 0 86400000 && inB talk 1 86400000) from rfl)
              obtain ⟨b1, hb1⟩ : ∃ B, momB at_ = B := ⟨_, rfl⟩
              rw [hb1] at HN
              have N1 := Lib.hid hb1; clear hb1
              obtain ⟨b2, hb2⟩ : ∃ B, inB least 1 9 = B := ⟨_, rfl⟩
              rw [hb2] at HN
              have N2 := Lib.hid hb2; clear hb2
              obtain ⟨b3, hb3⟩ : ∃ B, inB prio 0 9 = B := ⟨_, rfl⟩
              rw [hb3] at HN
              have N3 := Lib.hid hb3; clear hb3
              obtain ⟨b4, hb4⟩ : ∃ B, inB pat 0 86400000 = B := ⟨_, rfl⟩
              rw [hb4] at HN
              have N4 := Lib.hid hb4; clear hb4
              obtain ⟨b5, hb5⟩ : ∃ B, inB talk 1 86400000 = B := ⟨_, rfl⟩
              rw [hb5] at HN
              have N5 := Lib.hid hb5; clear hb5
              cases b1
              · have e := caAt_1 HZ.out HK.out HM.out (by rw [HN.out]; simp)
                have HFIN := Lib.hid (show casE l = 1 by rw [HF.out, fstE_stop HA.out (by rw [e]; decide) hlt, e])
                clear e
                go_wp2_with (first
                  | (go_at_call 111; refine (momentB_any _ _).mono ?_; rintro e w' ⟨rfl, rfl⟩; rw [N1.out])
                  | (go_at_call 63; refine (in_any _ _ _ _).mono ?_; rintro e w' ⟨rfl, rfl⟩; first | rw [N2.out] | rw [N3.out] | rw [N4.out] | rw [N5.out] | fail)
                  | fail)
                go_ret
                exact ⟨by rw [HFIN.out]; rfl, HG.out⟩
              · skip
                cases b2
                · have e := caAt_1 HZ.out HK.out HM.out (by rw [HN.out]; simp)
                  have HFIN := Lib.hid (show casE l = 1 by rw [HF.out, fstE_stop HA.out (by rw [e]; decide) hlt, e])
                  clear e
                  go_wp2_with (first
                    | (go_at_call 111; refine (momentB_any _ _).mono ?_; rintro e w' ⟨rfl, rfl⟩; rw [N1.out])
                    | (go_at_call 63; refine (in_any _ _ _ _).mono ?_; rintro e w' ⟨rfl, rfl⟩; first | rw [N2.out] | rw [N3.out] | rw [N4.out] | rw [N5.out] | fail)
                    | fail)
                  go_ret
                  exact ⟨by rw [HFIN.out]; rfl, HG.out⟩
                · skip
                  cases b3
                  · have e := caAt_1 HZ.out HK.out HM.out (by rw [HN.out]; simp)
                    have HFIN := Lib.hid (show casE l = 1 by rw [HF.out, fstE_stop HA.out (by rw [e]; decide) hlt, e])
                    clear e
                    go_wp2_with (first
                      | (go_at_call 111; refine (momentB_any _ _).mono ?_; rintro e w' ⟨rfl, rfl⟩; rw [N1.out])
                      | (go_at_call 63; refine (in_any _ _ _ _).mono ?_; rintro e w' ⟨rfl, rfl⟩; first | rw [N2.out] | rw [N3.out] | rw [N4.out] | rw [N5.out] | fail)
                      | fail)
                    go_ret
                    exact ⟨by rw [HFIN.out]; rfl, HG.out⟩
                  · skip
                    cases b4
                    · have e := caAt_1 HZ.out HK.out HM.out (by rw [HN.out]; simp)
                      have HFIN := Lib.hid (show casE l = 1 by rw [HF.out, fstE_stop HA.out (by rw [e]; decide) hlt, e])
                      clear e
                      go_wp2_with (first
                        | (go_at_call 111; refine (momentB_any _ _).mono ?_; rintro e w' ⟨rfl, rfl⟩; rw [N1.out])
                        | (go_at_call 63; refine (in_any _ _ _ _).mono ?_; rintro e w' ⟨rfl, rfl⟩; first | rw [N2.out] | rw [N3.out] | rw [N4.out] | rw [N5.out] | fail)
                        | fail)
                      go_ret
                      exact ⟨by rw [HFIN.out]; rfl, HG.out⟩
                    · skip
                      cases b5
                      · have e := caAt_1 HZ.out HK.out HM.out (by rw [HN.out]; simp)
                        have HFIN := Lib.hid (show casE l = 1 by rw [HF.out, fstE_stop HA.out (by rw [e]; decide) hlt, e])
                        clear e
                        go_wp2_with (first
                          | (go_at_call 111; refine (momentB_any _ _).mono ?_; rintro e w' ⟨rfl, rfl⟩; rw [N1.out])
                          | (go_at_call 63; refine (in_any _ _ _ _).mono ?_; rintro e w' ⟨rfl, rfl⟩; first | rw [N2.out] | rw [N3.out] | rw [N4.out] | rw [N5.out] | fail)
                          | fail)
                        go_ret
                        exact ⟨by rw [HFIN.out]; rfl, HG.out⟩
                      · skip
                        have HNT := Lib.hid (show caNum ⟨id, skill, at_, least, prio, pat, talk, back⟩ = true by rw [HN.out]; rfl)
                        by_cases h0 : 0 < k
                        · obtain ⟨⟨id', skill', at', least', prio', pat', talk', back'⟩, hb⟩ : ∃ b, l[k - 1]? = some b := ⟨_, List.getElem?_eq_getElem (by rw [H.out.1.len]; omega)⟩
                          have kb := (H.out.1.grown HG.out (fun g e => by cases e)).at_ CaV.row_len hb 2 _ rfl
                          have HB1 := Lib.hid hb; clear hb
                          have hi0 : decide ((0 : Int) < (k : Int)) = true := by simpa using h0
                          by_cases h7 : at_ < at'
                          · have e := caAt_7 HZ.out HK.out HM.out HNT.out h0 HB1.out h7
                            have HFIN := Lib.hid (show casE l = 7 by rw [HF.out, fstE_stop HA.out (by rw [e]; decide) hlt, e])
                            clear e
                            have s2 : (0 : Int) ≤ (k : Int) - 1 := by omega
                            have s5 : (1 : Int) ≤ (k : Int) := by omega
                            have s3 : (k : Int) - 1 < (n : Int) := by omega
                            have s6 : (0 : Int) < (n : Int) := by omega
                            have s1 : IntKind.i64.wrap ((k : Int) - 1) = (k : Int) - 1 := IntWalk.i64_in _ (by omega)
                            have s4 : ((k : Int) - 1).toNat = k - 1 := by omega
                            go_wp2_with (first
                              | (go_at_call 111; refine (momentB_any _ _).mono ?_; rintro e w' ⟨rfl, rfl⟩; rw [N1.out])
                              | (go_at_call 63; refine (in_any _ _ _ _).mono ?_; rintro e w' ⟨rfl, rfl⟩; first | rw [N2.out] | rw [N3.out] | rw [N4.out] | rw [N5.out] | fail)
                              | fail)
                            go_quiet (fail)
                            go_wp2_with fail
                            go_ret
                            exact ⟨by rw [HFIN.out]; rfl, gr_drewN HG.out _⟩
                          · have HE := Lib.hid (caAt_e HZ.out HK.out HM.out HNT.out HB1.out h7)
                            have h7' : decide (at_ < at') = false := decide_eq_false h7
                            have s2 : (0 : Int) ≤ (k : Int) - 1 := by omega
                            have s5 : (1 : Int) ≤ (k : Int) := by omega
                            have s3 : (k : Int) - 1 < (n : Int) := by omega
                            have s6 : (0 : Int) < (n : Int) := by omega
                            have s1 : IntKind.i64.wrap ((k : Int) - 1) = (k : Int) - 1 := IntWalk.i64_in _ (by omega)
                            have s4 : ((k : Int) - 1).toNat = k - 1 := by omega
                            go_wp2_with (first
                              | (go_at_call 111; refine (momentB_any _ _).mono ?_; rintro e w' ⟨rfl, rfl⟩; rw [N1.out])
                              | (go_at_call 63; refine (in_any _ _ _ _).mono ?_; rintro e w' ⟨rfl, rfl⟩; first | rw [N2.out] | rw [N3.out] | rw [N4.out] | rw [N5.out] | fail)
                              | fail)
                            go_quiet (fail)
                            clear s1 s4
                            go_wp2_with fail
                            go_roundw
                            case rel => exact ⟨k + 1, by omega, by go_num, gr_drewN HG.out _, fstE_zero HA.out HE.out⟩
                            case measure => simp [intOf]; omega
                        · have HE := Lib.hid (caAt_z HZ.out HK.out HM.out HNT.out h0)
                          have hi0 : decide ((0 : Int) < (k : Int)) = false := decide_eq_false (by omega)
                          go_wp2_with (first
                            | (go_at_call 111; refine (momentB_any _ _).mono ?_; rintro e w' ⟨rfl, rfl⟩; rw [N1.out])
                            | (go_at_call 63; refine (in_any _ _ _ _).mono ?_; rintro e w' ⟨rfl, rfl⟩; first | rw [N2.out] | rw [N3.out] | rw [N4.out] | rw [N5.out] | fail)
                            | fail)
                          go_quiet (fail)
                          go_wp2_with fail
                          go_roundw
                          case rel => exact ⟨k + 1, by omega, by go_num, gr_drewN HG.out _, fstE_zero HA.out HE.out⟩
                          case measure => simp [intOf]; omega
            · have e := caAt_6 HZ.out HK.out HM.out
              have HFIN := Lib.hid (show casE l = 6 by rw [HF.out, fstE_stop HA.out (by rw [e]; decide) hlt, e])
              clear e
              go_wp2_with (first
                | fail)
              go_ret
              exact ⟨by rw [HFIN.out]; rfl, HG.out⟩
      · obtain rfl : k = n := by omega
        go_wp2_with fail
        go_ret
        exact ⟨by rw [HF.out, HA.out]; rfl, HG.out⟩
end Go.Proofs.YtnmodobkennklaaGreatDoor

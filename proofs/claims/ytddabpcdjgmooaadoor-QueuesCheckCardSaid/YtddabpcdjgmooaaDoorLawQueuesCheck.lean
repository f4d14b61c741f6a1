/- The law QueuesCheck: CheckAgents, CheckCallers, CheckStyle, Able and Present are as specified for all agents, callers and styles. Conditions: none beside the row's own. -/
import Derived.Test.YtddabpcdjgmooaaDoorLawBase
import Derived.Test.YtddabpcdjgmooaaDoorGenQue2
import Derived.Test.YtddabpcdjgmooaaDoorGenQue4
import Derived.Test.YtddabpcdjgmooaaDoorErrs
import Derived.Test.YtddabpcdjgmooaaDoorQue5
import Derived.Test.YtddabpcdjgmooaaDoorTie
import Derived.Test.YtddabpcdjgmooaaDoorCards
import Derived.ProofKit
import Derived.Lay
import Derived.OpenShut
import Derived.Stop.Joined
import Derived.SevenTiedAt
import Derived.LaidMore
import Derived.MakeChecks
import Derived.LaidHandle
namespace Go.Proofs.YtddabpcdjgmooaaDoor
open Go.ChangeShapes Go.WideShapes Go.ChangeAt Go.RowKit

/-! What Present and Able answer, in the law's own words. -/
theorem pres_law (a : AgV) (t : Int) : presR a t = .tuple #[.bool (decide (firstE [agsE [a], momE t] = 0) && presB a t), .int .i64 (firstE [agsE [a], momE t])] := by
  unfold presR momE
  rw [firstE_cons, firstE_cons, firstE_nil]
  by_cases h : agsE [a] = 0
  · rw [if_pos h, if_pos h]
    cases momB t <;> simp
  · rw [if_neg h, if_neg h]; simp [h]
theorem able_law (a : AgV) (x : CaV) : ableR a x = .tuple #[.bool (decide (firstE [agsE [a], casE [x]] = 0) && ableB a x), .int .i64 (firstE [agsE [a], casE [x]])] := by
  unfold ableR
  rw [firstE_cons, firstE_cons, firstE_nil]
  by_cases h : agsE [a] = 0
  · rw [if_pos h, if_pos h]
    by_cases h2 : casE [x] = 0
    · rw [if_pos h2, if_pos h2]; simp
    · rw [if_neg h2, if_neg h2]; simp [h2]
  · rw [if_neg h, if_neg h]; simp [h]

set_option maxRecDepth 100000 in
set_option maxHeartbeats 8000000 in
theorem walk_QueuesCheck (a0 : Option Addr) (len cap : Nat) (zs : List Int) (W : World) (h : IsRow .i64 W a0 len cap zs) (_ht : True) :
    Calls Tryd.prog 3 #[.slice a0 len cap] W (fun e w' => e = .returned (.bool true) ∧ Below W.heap.size W w') := by
  have hs := str_new h
  obtain ⟨sb, hsb⟩ : ∃ sb, W.heap.size = sb := ⟨_, rfl⟩
  have HG := Lib.hid (show W.grownBy (W.alloc (.cells #[.slice a0 len cap, .int .i64 0] 25)) (some sb) from gr_alloc (gr_refl _ _) _)
  rw [hsb] at hs
  have hlt := hs.lt
  have HS := Lib.hid hs
  have HSB := Lib.hid hsb
  clear h hs
  go_enter Tryd.func3, Tryd.ntmps3
  go_wp2_with fail
  refine (agents_any sb 0 _ HS.out (by omega)).mono ?_
  rintro e w1 ⟨v1, rfl, ⟨A, n, c, l, rfl, hags, hn⟩, hs1, hg1⟩
  have HAG := Lib.hid hags; have HS1 := Lib.hid hs1; have HG1 := Lib.hid (gr_same HG.out hg1)
  have z1 := hg1.size
  clear hags hs1 hg1 HS HG
  go_wp2_with fail
  refine (callers_any sb _ 6 _ HS1.out (by omega) (by omega) (by omega)).mono ?_
  rintro e w2 ⟨v2, rfl, ⟨A', n', c', l', rfl, hcas, hn'⟩, hs2, hg2⟩
  have HCA := Lib.hid (hcas.cas); have HS2 := Lib.hid hs2; have HG2 := Lib.hid (gr_same HG1.out hg2)
  replace HAG := Lib.hid (HAG.out.grown hg2 (fun g e => by injection e with e; omega))
  have z2 := hg2.size
  clear hcas hs2 hg2 HS1 HG1
  go_wp2_with fail
  refine (style_any sb _ _ HS2.out (by omega)).mono ?_
  rintro e w3 ⟨v3, rfl, ⟨s1, s2, s3, rfl⟩, hs3, hg3⟩
  have HS3 := Lib.hid hs3; have HG3 := Lib.hid (gr_same HG2.out hg3)
  replace HAG := Lib.hid (HAG.out.grown hg3 (fun g e => by injection e with e; omega))
  replace HCA := Lib.hid (HCA.out.grown hg3 (fun g e => by injection e with e; omega))
  have z3 := hg3.size
  clear hs3 hg3 HS2 HG2
  go_wp2_with fail
  refine (pick_new sb _ [0, 10, 15, 30, 60, 89, 90, 200, -1] _ HS3.out (by omega) rfl rfl rfl (by simp) (by simp)).mono ?_
  rintro e w4 ⟨v4, rfl, ⟨t, ht, rfl⟩, hs4, hg4⟩
  have HG4 := Lib.hid (gr_same HG3.out hg4)
  replace HAG := Lib.hid ((HAG.out.grown hg4 (fun g e => by injection e with e; omega)).grown (gr_alloc (gr_refl _ none) (.cells #[.int .i64 s1, .int .i64 s2, .int .i64 s3] 31)) (fun g e => by cases e))
  replace HCA := Lib.hid ((HCA.out.grown hg4 (fun g e => by injection e with e; omega)).grown (gr_alloc (gr_refl _ none) (.cells #[.int .i64 s1, .int .i64 s2, .int .i64 s3] 31)) (fun g e => by cases e))
  have HST := Lib.hid (Blk.new w4 31 #[.int .i64 s1, .int .i64 s2, .int .i64 s3])
  replace HG4 := Lib.hid (gr_alloc HG4.out (.cells #[.int .i64 s1, .int .i64 s2, .int .i64 s3] 31))
  clear hs4 hg4 HS3 HG3 ht
  obtain ⟨E1, hE1⟩ : ∃ E, agsE l = E := ⟨_, rfl⟩
  obtain ⟨E2, hE2⟩ : ∃ E, casE l' = E := ⟨_, rfl⟩
  obtain ⟨E3, hE3⟩ : ∃ E, styleE s1 s2 s3 = E := ⟨_, rfl⟩
  have HE1 := Lib.hid hE1; have HE2 := Lib.hid hE2; have HE3 := Lib.hid hE3; clear hE1 hE2 hE3
  have q1 : (E1 != E1) = false := by simp
  have q2 : (E2 != E2) = false := by simp
  have q3 : (E3 != E3) = false := by simp
  go_wp2_with fail
  generalize w4.alloc (.cells #[.int .i64 s1, .int .i64 s2, .int .i64 s3] 31) = w5 at *
  go_region_held3 (fun w' => (w'.cell? ⟨w4.heap.size, 0, none⟩ = some (.int .i64 s1) ∧ w'.cell? ⟨w4.heap.size, 1, none⟩ = some (.int .i64 s2) ∧ w'.cell? ⟨w4.heap.size, 2, none⟩ = some (.int .i64 s3)) ∧ w5.grownBy w' none)
    ((suffices hg : w5.grownBy _ none from ⟨⟨(HST.out.grown hg (by simp)).cell 0, (HST.out.grown hg (by simp)).cell 1, (HST.out.grown hg (by simp)).cell 2⟩, hg⟩
      repeat (first | (with_reducible exact HG16.out) | (with_reducible exact HG15.out) | (with_reducible exact HG14.out) | (with_reducible exact HG13.out) | (with_reducible exact HG12.out) | (with_reducible exact HG11.out) | (with_reducible refine gr_drew ?_) | (with_reducible exact gr_refl _ _))))
    (first
      | (go_at_call 10
         have hS' : w5.grownBy _ none := (by rename_i hS _ _; exact hS.2)
         refine (checkAgents_any _ _ _ _ l _ (HAG.out.grown hS' (fun g e => by cases e)) (by omega)).mono ?_
         rintro e w11 ⟨rfl, hg11⟩
         have HG11 := Lib.hid (gr_none hS' hg11)
         rw [HE1.out]
         clear hS' hg11)
      | (go_at_call 11
         have hS' : w5.grownBy _ none := (by rename_i hS _ _; exact hS.2)
         refine (agentsFault_any _ _ _ _ l _ (HAG.out.grown hS' (fun g e => by cases e)) (by omega)).mono ?_
         rintro e w12 ⟨rfl, hg12⟩
         have HG12 := Lib.hid (gr_none hS' hg12)
         rw [HE1.out]
         clear hS' hg12)
      | (go_at_call 12
         have hS' : w5.grownBy _ none := (by rename_i hS _ _; exact hS.2)
         refine (checkCallers_any _ _ _ _ l' _ (HCA.out.grown hS' (fun g e => by cases e)) (by omega)).mono ?_
         rintro e w13 ⟨rfl, hg13⟩
         have HG13 := Lib.hid (gr_none hS' hg13)
         rw [HE2.out]
         clear hS' hg13)
      | (go_at_call 13
         have hS' : w5.grownBy _ none := (by rename_i hS _ _; exact hS.2)
         refine (callersFault_any _ _ _ _ l' _ (HCA.out.grown hS' (fun g e => by cases e)) (by omega)).mono ?_
         rintro e w14 ⟨rfl, hg14⟩
         have HG14 := Lib.hid (gr_none hS' hg14)
         rw [HE2.out]
         clear hS' hg14)
      | (go_at_call 14
         have hS' : w5.grownBy _ none := (by rename_i hS _ _; exact hS.2)
         refine (checkStyle_any s1 s2 s3 _).mono ?_
         rintro e w15 ⟨rfl, hg15⟩
         have HG15 := Lib.hid (gr_none hS' hg15)
         rw [HE3.out]
         clear hS' hg15)
      | (go_at_call 15
         have hS' : w5.grownBy _ none := (by rename_i hS _ _; exact hS.2)
         refine (styleFault_any s1 s2 s3 _).mono ?_
         rintro e w16 ⟨rfl, hg16⟩
         have HG16 := Lib.hid (gr_none hS' hg16)
         rw [HE3.out]
         clear hS' hg16)
      | fail)
  go_wp2_with fail
  clear q1 q2 q3
  go_loopw [9, 10, 11, 12, 13, 15, 16, 17, 18, 52] (fun _ _ _ _ _ _ _ _ _ t' wr => ∃ k : Nat, k ≤ n ∧ t' = .int .i64 k ∧ w5.grownBy wr none) (fun _ _ _ _ _ _ _ _ _ t' _ => n - (intOf t').toNat)
  case atStart => exact ⟨0, Nat.zero_le _, rfl, by first | exact HG16.out | exact HG15.out | exact HG14.out | exact HG13.out | fail⟩
  case round =>
    obtain ⟨k, hk, rfl, hg⟩ := hrel
    have HGR := Lib.hid hg
    have zr := hg.size
    clear hg
    by_cases hlt2 : k < n
    · obtain ⟨g, o, a, rfl, _, hgl, hz, hc⟩ := (HAG.out.1.grown HGR.out (fun g e => by cases e)).get AgV.row_len hlt2
      have HOK := Lib.hid (HAG.out.2 a (mem_of_get hz))
      have HC := Lib.hid hc; clear hz hc
      obtain ⟨F, hF⟩ : ∃ F, agsE [a] = F := ⟨_, rfl⟩
      have HF := Lib.hid hF; clear hF
      obtain ⟨wo, rfl⟩ : ∃ wo : World, wo = wr := ⟨_, rfl⟩
      have HB0 := Lib.hid (Blk.new wo 43 #[.string a.key, .slice a.sA a.sn a.sc, .int .i64 a.fr, .int .i64 a.til, .slice a.pA a.pn a.pc, .int .i64 a.wrap])
      have HG0 := Lib.hid (gr_alloc HGR.out (.cells #[.string a.key, .slice a.sA a.sn a.sc, .int .i64 a.fr, .int .i64 a.til, .slice a.pA a.pn a.pc, .int .i64 a.wrap] 43))
      go_wp2_with (first
        | (refine wpl_load_at Tryd.agT rfl _ rfl _ rfl [.string a.key, .slice a.sA a.sn a.sc, .int .i64 a.fr, .int .i64 a.til, .slice a.pA a.pn a.pc, .int .i64 a.wrap] rfl (fun j u hu => by rw [add_mk]; exact HC.out j u hu) ?_)
        | (refine wpl_load_all Tryd.agT rfl _ rfl _ rfl _ _ HB0.out rfl ?_)
        | fail)
      refine (agentsFault_any 0 _ 1 1 [a] _ (ags_one a (HOK.out.grown HG0.out (fun g e => by cases e)) (by simp)) (by omega)).mono ?_
      rintro e w6 ⟨rfl, hg6⟩
      rw [HF.out]
      have HB6 := Lib.hid ((HB0.out.alloc _).grown hg6 (by simp))
      have HG6 := Lib.hid (gr_none (gr_alloc HG0.out _) hg6)
      have z6 := hg6.size; simp at z6
      clear hg6
      obtain ⟨Q, hQ⟩ : ∃ Q, firstE [F, momE t] = Q := ⟨_, rfl⟩
      have HPL := Lib.hid (show presR a t = .tuple #[.bool (decide (Q = 0) && presB a t), .int .i64 Q] by rw [pres_law, HF.out, hQ])
      have HQ := Lib.hid hQ; clear hQ
      obtain ⟨D, hD⟩ : ∃ D, decide (Q = 0) = D := ⟨_, rfl⟩
      rw [hD] at HPL
      have hD2 : (Q == 0) = D := by rw [← hD]; rfl
      obtain ⟨B, hB⟩ : ∃ B, presB a t = B := ⟨_, rfl⟩
      rw [hB] at HPL
      have HBB := Lib.hid hB; clear hB hD
      have q1 : (Q != Q) = false := by simp
      go_wp2_with (first
        | (refine wpl_load_all Tryd.agT rfl _ rfl _ rfl _ _ HB6.out rfl ?_)
        | fail)
      refine (Present_any _ a t _ (HOK.out.grown HG6.out (fun g e => by cases e))).mono ?_
      rintro e w7 ⟨rfl, hg7⟩
      have HB7 := Lib.hid (HB6.out.grown hg7 (by simp))
      have HG7 := Lib.hid (gr_none HG6.out hg7)
      have z7 := hg7.size
      clear hg7
      have q4 : (B != B) = false := by simp
      cases D
      · rw [show presR a t = .tuple #[.bool false, .int .i64 Q] from HPL.out]
        go_wp2_with (first
          | (go_at_call 18; refine (momentFault_any t _).mono ?_; rintro e w' ⟨rfl, rfl⟩)
          | (go_at_call 17
             refine (errs_new (n := 2) [F, momE t] _ rfl rfl rfl (by omega)).mono ?_
             rintro e w8 ⟨rfl, hg8⟩
             rw [HQ.out]
             have HB8 := Lib.hid (HB7.out.grown hg8 (by simp))
             have HG8 := Lib.hid (gr_none HG7.out hg8)
             clear hg8)
          | fail)
        go_loopw [15, 16, 17, 18, 86] (fun _ _ _ _ t' wr => ∃ j : Nat, j ≤ n' ∧ t' = .int .i64 j ∧ w5.grownBy wr none ∧ Blk wr wo.heap.size 43 #[.string a.key, .slice a.sA a.sn a.sc, .int .i64 a.fr, .int .i64 a.til, .slice a.pA a.pn a.pc, .int .i64 a.wrap]) (fun _ _ _ _ t' _ => n' - (intOf t').toNat)
        case atStart => exact ⟨0, Nat.zero_le _, rfl, by first | exact HG9.out | exact HG8.out | fail, by first | exact HB9.out | exact HB8.out | fail⟩
        case round =>
          obtain ⟨j, hj, rfl, hgi, hbi⟩ := hrel
          have HGI := Lib.hid hgi; have HBI := Lib.hid hbi
          have zi := hgi.size
          have zb := hbi.lt
          clear hgi hbi HB8 HG8 HB7 HG7 HB6 HG6
          try clear HB9 HG9
          by_cases hlt3 : j < n'
          · obtain ⟨g', o', x, rfl, _, hgl', hz', hc'⟩ := (HCA.out.1.grown HGI.out (fun g e => by cases e)).get CaV.row_len hlt3
            have HOX := Lib.hid (HCA.out.2 x (mem_of_get hz'))
            have HCX := Lib.hid hc'; clear hz' hc'
            obtain ⟨F2, hF2⟩ : ∃ F, casE [x] = F := ⟨_, rfl⟩
            have HF2 := Lib.hid hF2; clear hF2
            obtain ⟨Q2, hQ2⟩ : ∃ Q, firstE [F, F2] = Q := ⟨_, rfl⟩
            have HAL := Lib.hid (show ableR a x = .tuple #[.bool (decide (Q2 = 0) && ableB a x), .int .i64 Q2] by rw [able_law, HF.out, HF2.out, hQ2])
            have HQ2 := Lib.hid hQ2; clear hQ2
            obtain ⟨D2, hD2'⟩ : ∃ D, decide (Q2 = 0) = D := ⟨_, rfl⟩
            rw [hD2'] at HAL
            have hD3 : (Q2 == 0) = D2 := by rw [← hD2']; rfl
            obtain ⟨B2, hB2⟩ : ∃ B, ableB a x = B := ⟨_, rfl⟩
            rw [hB2] at HAL
            have HBB2 := Lib.hid hB2; clear hB2 hD2'
            have q5 : (Q2 != Q2) = false := by simp
            have q6 : (B2 != B2) = false := by simp
            obtain ⟨wi, rfl⟩ : ∃ wi : World, wi = wr := ⟨_, rfl⟩
            have HX0 := Lib.hid (Blk.new wi 50 #[.string x.id, .string x.skill, .int .i64 x.at_, .int .i64 x.least, .int .i64 x.prio, .int .i64 x.pat, .int .i64 x.talk, .bool x.back])
            have HBX := Lib.hid (HBI.out.alloc (.cells #[.string x.id, .string x.skill, .int .i64 x.at_, .int .i64 x.least, .int .i64 x.prio, .int .i64 x.pat, .int .i64 x.talk, .bool x.back] 50))
            have HG0 := Lib.hid (gr_alloc HGI.out (.cells #[.string x.id, .string x.skill, .int .i64 x.at_, .int .i64 x.least, .int .i64 x.prio, .int .i64 x.pat, .int .i64 x.talk, .bool x.back] 50))
            go_wp2_with (first
              | (refine wpl_load_at Tryd.caT rfl _ rfl _ rfl [.string x.id, .string x.skill, .int .i64 x.at_, .int .i64 x.least, .int .i64 x.prio, .int .i64 x.pat, .int .i64 x.talk, .bool x.back] rfl (fun j u hu => by rw [add_mk]; exact HCX.out j u hu) ?_)
              | (refine wpl_load_all Tryd.agT rfl _ rfl _ rfl _ _ HBX.out rfl ?_)
              | (refine wpl_load_all Tryd.caT rfl _ rfl _ rfl _ _ HX0.out rfl ?_)
              | fail)
            refine (able_any _ a x _ (HOK.out.grown HG0.out (fun g e => by cases e)) HOX.out).mono ?_
            rintro e w7 ⟨rfl, hg7⟩
            have HB7 := Lib.hid (HBX.out.grown hg7 (by simp))
            have HX7 := Lib.hid (HX0.out.grown hg7 (by simp))
            have HG7 := Lib.hid (gr_none HG0.out hg7)
            have z7' := hg7.size; simp at z7'
            clear hg7
            cases D2
            · rw [show ableR a x = .tuple #[.bool false, .int .i64 Q2] from HAL.out]
              go_wp2_with (first
                | (refine wpl_load_all Tryd.caT rfl _ rfl _ rfl _ _ HX7.out rfl ?_)
                | (go_at_call 13
                   refine (callersFault_any 0 _ 1 1 [x] _ (cas_one x HOX.out rfl) (by omega)).mono ?_
                   rintro e wc ⟨rfl, hgc⟩
                   rw [HF2.out]
                   have HBC := Lib.hid ((HB7.out.alloc _).grown hgc (by simp))
                   have HXC := Lib.hid ((HX7.out.alloc _).grown hgc (by simp))
                   have HGC := Lib.hid (gr_none (gr_alloc HG7.out _) hgc)
                   clear hgc)
                | (go_at_call 17
                   refine (errs_new (n := 2) [F, F2] _ rfl rfl rfl (by omega)).mono ?_
                   rintro e w8 ⟨rfl, hg8⟩
                   rw [HQ2.out]
                   have HB8 := Lib.hid (HBC.out.grown hg8 (by simp))
                   have HX8 := Lib.hid (HXC.out.grown hg8 (by simp))
                   have HG8 := Lib.hid (gr_none HGC.out hg8)
                   clear hg8)
                | fail)
              go_wp2_with fail
              go_roundw
              case rel => exact ⟨j + 1, by omega, by go_num, HG8.out, HB8.out⟩
              case measure => simp [intOf]; omega
            · rw [show ableR a x = .tuple #[.bool B2, .int .i64 Q2] from HAL.out]
              go_wp2_with (first
                | (refine wpl_load_all Tryd.caT rfl _ rfl _ rfl _ _ HX7.out rfl ?_)
                | (go_at_call 13
                   refine (callersFault_any 0 _ 1 1 [x] _ (cas_one x HOX.out rfl) (by omega)).mono ?_
                   rintro e wc ⟨rfl, hgc⟩
                   rw [HF2.out]
                   have HBC := Lib.hid ((HB7.out.alloc _).grown hgc (by simp))
                   have HXC := Lib.hid ((HX7.out.alloc _).grown hgc (by simp))
                   have HGC := Lib.hid (gr_none (gr_alloc HG7.out _) hgc)
                   clear hgc)
                | (go_at_call 17
                   refine (errs_new (n := 2) [F, F2] _ rfl rfl rfl (by omega)).mono ?_
                   rintro e w8 ⟨rfl, hg8⟩
                   rw [HQ2.out]
                   have HB8 := Lib.hid (HBC.out.grown hg8 (by simp))
                   have HX8 := Lib.hid (HXC.out.grown hg8 (by simp))
                   have HG8 := Lib.hid (gr_none HGC.out hg8)
                   have ka0 := HB8.out.cell 0
                   have ka1 := HB8.out.cell 1
                   have ka2 := HB8.out.cell 2
                   have ka3 := HB8.out.cell 3
                   have ka4 := HB8.out.cell 4
                   have ka5 := HB8.out.cell 5
                   have kx0 := HX8.out.cell 0
                   have kx1 := HX8.out.cell 1
                   have kx2 := HX8.out.cell 2
                   have kx3 := HX8.out.cell 3
                   have kx4 := HX8.out.cell 4
                   have kx5 := HX8.out.cell 5
                   have kx6 := HX8.out.cell 6
                   have kx7 := HX8.out.cell 7
                   clear hg8)
                | (go_at_call 21
                   refine (ableOf_any _ a x _ (HOK.out.grown HG8.out (fun g e => by cases e))).mono ?_
                   rintro e w9 ⟨rfl, hg9⟩
                   rw [HBB2.out]
                   have HB9 := Lib.hid (HB8.out.grown hg9 (by simp))
                   have HG9 := Lib.hid (gr_none HG8.out hg9)
                   clear hg9)
                | fail)
              go_wp2_with fail
              go_roundw
              case rel => exact ⟨j + 1, by omega, by go_num, HG9.out, HB9.out⟩
              case measure => simp [intOf]; omega
          · obtain rfl : j = n' := by omega
            go_wp2_with fail
            go_roundw
            case rel => exact ⟨k + 1, by omega, by go_num, HGI.out⟩
            case measure => simp [intOf]; omega
      · rw [show presR a t = .tuple #[.bool B, .int .i64 Q] from HPL.out]
        go_wp2_with (first
          | (go_at_call 18; refine (momentFault_any t _).mono ?_; rintro e w' ⟨rfl, rfl⟩)
          | (go_at_call 17
             refine (errs_new (n := 2) [F, momE t] _ rfl rfl rfl (by omega)).mono ?_
             rintro e w8 ⟨rfl, hg8⟩
             rw [HQ.out]
             have HB8 := Lib.hid (HB7.out.grown hg8 (by simp))
             have HG8 := Lib.hid (gr_none HG7.out hg8)
             have ka0 := HB8.out.cell 0
             have ka1 := HB8.out.cell 1
             have ka2 := HB8.out.cell 2
             have ka3 := HB8.out.cell 3
             have ka4 := HB8.out.cell 4
             have ka5 := HB8.out.cell 5
             clear hg8)
          | (go_at_call 19
             refine (presentOf_any _ a t _ (HOK.out.grown HG8.out (fun g e => by cases e))).mono ?_
             rintro e w9 ⟨rfl, hg9⟩
             rw [HBB.out]
             have HB9 := Lib.hid (HB8.out.grown hg9 (by simp))
             have HG9 := Lib.hid (gr_none HG8.out hg9)
             clear hg9)
          | fail)
        try clear ka0 ka1 ka2 ka3 ka4 ka5
        go_loopw [15, 16, 17, 18, 86] (fun _ _ _ _ t' wr => ∃ j : Nat, j ≤ n' ∧ t' = .int .i64 j ∧ w5.grownBy wr none ∧ Blk wr wo.heap.size 43 #[.string a.key, .slice a.sA a.sn a.sc, .int .i64 a.fr, .int .i64 a.til, .slice a.pA a.pn a.pc, .int .i64 a.wrap]) (fun _ _ _ _ t' _ => n' - (intOf t').toNat)
        case atStart => exact ⟨0, Nat.zero_le _, rfl, by first | exact HG9.out | exact HG8.out | fail, by first | exact HB9.out | exact HB8.out | fail⟩
        case round =>
          obtain ⟨j, hj, rfl, hgi, hbi⟩ := hrel
          have HGI := Lib.hid hgi; have HBI := Lib.hid hbi
          have zi := hgi.size
          have zb := hbi.lt
          clear hgi hbi HB8 HG8 HB7 HG7 HB6 HG6
          try clear HB9 HG9
          by_cases hlt3 : j < n'
          · obtain ⟨g', o', x, rfl, _, hgl', hz', hc'⟩ := (HCA.out.1.grown HGI.out (fun g e => by cases e)).get CaV.row_len hlt3
            have HOX := Lib.hid (HCA.out.2 x (mem_of_get hz'))
            have HCX := Lib.hid hc'; clear hz' hc'
            obtain ⟨F2, hF2⟩ : ∃ F, casE [x] = F := ⟨_, rfl⟩
            have HF2 := Lib.hid hF2; clear hF2
            obtain ⟨Q2, hQ2⟩ : ∃ Q, firstE [F, F2] = Q := ⟨_, rfl⟩
            have HAL := Lib.hid (show ableR a x = .tuple #[.bool (decide (Q2 = 0) && ableB a x), .int .i64 Q2] by rw [able_law, HF.out, HF2.out, hQ2])
            have HQ2 := Lib.hid hQ2; clear hQ2
            obtain ⟨D2, hD2'⟩ : ∃ D, decide (Q2 = 0) = D := ⟨_, rfl⟩
            rw [hD2'] at HAL
            have hD3 : (Q2 == 0) = D2 := by rw [← hD2']; rfl
            obtain ⟨B2, hB2⟩ : ∃ B, ableB a x = B := ⟨_, rfl⟩
            rw [hB2] at HAL
            have HBB2 := Lib.hid hB2; clear hB2 hD2'
            have q5 : (Q2 != Q2) = false := by simp
            have q6 : (B2 != B2) = false := by simp
            obtain ⟨wi, rfl⟩ : ∃ wi : World, wi = wr := ⟨_, rfl⟩
            have HX0 := Lib.hid (Blk.new wi 50 #[.string x.id, .string x.skill, .int .i64 x.at_, .int .i64 x.least, .int .i64 x.prio, .int .i64 x.pat, .int .i64 x.talk, .bool x.back])
            have HBX := Lib.hid (HBI.out.alloc (.cells #[.string x.id, .string x.skill, .int .i64 x.at_, .int .i64 x.least, .int .i64 x.prio, .int .i64 x.pat, .int .i64 x.talk, .bool x.back] 50))
            have HG0 := Lib.hid (gr_alloc HGI.out (.cells #[.string x.id, .string x.skill, .int .i64 x.at_, .int .i64 x.least, .int .i64 x.prio, .int .i64 x.pat, .int .i64 x.talk, .bool x.back] 50))
            go_wp2_with (first
              | (refine wpl_load_at Tryd.caT rfl _ rfl _ rfl [.string x.id, .string x.skill, .int .i64 x.at_, .int .i64 x.least, .int .i64 x.prio, .int .i64 x.pat, .int .i64 x.talk, .bool x.back] rfl (fun j u hu => by rw [add_mk]; exact HCX.out j u hu) ?_)
              | (refine wpl_load_all Tryd.agT rfl _ rfl _ rfl _ _ HBX.out rfl ?_)
              | (refine wpl_load_all Tryd.caT rfl _ rfl _ rfl _ _ HX0.out rfl ?_)
              | fail)
            refine (able_any _ a x _ (HOK.out.grown HG0.out (fun g e => by cases e)) HOX.out).mono ?_
            rintro e w7 ⟨rfl, hg7⟩
            have HB7 := Lib.hid (HBX.out.grown hg7 (by simp))
            have HX7 := Lib.hid (HX0.out.grown hg7 (by simp))
            have HG7 := Lib.hid (gr_none HG0.out hg7)
            have z7' := hg7.size; simp at z7'
            clear hg7
            cases D2
            · rw [show ableR a x = .tuple #[.bool false, .int .i64 Q2] from HAL.out]
              go_wp2_with (first
                | (refine wpl_load_all Tryd.caT rfl _ rfl _ rfl _ _ HX7.out rfl ?_)
                | (go_at_call 13
                   refine (callersFault_any 0 _ 1 1 [x] _ (cas_one x HOX.out rfl) (by omega)).mono ?_
                   rintro e wc ⟨rfl, hgc⟩
                   rw [HF2.out]
                   have HBC := Lib.hid ((HB7.out.alloc _).grown hgc (by simp))
                   have HXC := Lib.hid ((HX7.out.alloc _).grown hgc (by simp))
                   have HGC := Lib.hid (gr_none (gr_alloc HG7.out _) hgc)
                   clear hgc)
                | (go_at_call 17
                   refine (errs_new (n := 2) [F, F2] _ rfl rfl rfl (by omega)).mono ?_
                   rintro e w8 ⟨rfl, hg8⟩
                   rw [HQ2.out]
                   have HB8 := Lib.hid (HBC.out.grown hg8 (by simp))
                   have HX8 := Lib.hid (HXC.out.grown hg8 (by simp))
                   have HG8 := Lib.hid (gr_none HGC.out hg8)
                   clear hg8)
                | fail)
              go_wp2_with fail
              go_roundw
              case rel => exact ⟨j + 1, by omega, by go_num, HG8.out, HB8.out⟩
              case measure => simp [intOf]; omega
            · rw [show ableR a x = .tuple #[.bool B2, .int .i64 Q2] from HAL.out]
              go_wp2_with (first
                | (refine wpl_load_all Tryd.caT rfl _ rfl _ rfl _ _ HX7.out rfl ?_)
                | (go_at_call 13
                   refine (callersFault_any 0 _ 1 1 [x] _ (cas_one x HOX.out rfl) (by omega)).mono ?_
                   rintro e wc ⟨rfl, hgc⟩
                   rw [HF2.out]
                   have HBC := Lib.hid ((HB7.out.alloc _).grown hgc (by simp))
                   have HXC := Lib.hid ((HX7.out.alloc _).grown hgc (by simp))
                   have HGC := Lib.hid (gr_none (gr_alloc HG7.out _) hgc)
                   clear hgc)
                | (go_at_call 17
                   refine (errs_new (n := 2) [F, F2] _ rfl rfl rfl (by omega)).mono ?_
                   rintro e w8 ⟨rfl, hg8⟩
                   rw [HQ2.out]
                   have HB8 := Lib.hid (HBC.out.grown hg8 (by simp))
                   have HX8 := Lib.hid (HXC.out.grown hg8 (by simp))
                   have HG8 := Lib.hid (gr_none HGC.out hg8)
                   have ka0 := HB8.out.cell 0
                   have ka1 := HB8.out.cell 1
                   have ka2 := HB8.out.cell 2
                   have ka3 := HB8.out.cell 3
                   have ka4 := HB8.out.cell 4
                   have ka5 := HB8.out.cell 5
                   have kx0 := HX8.out.cell 0
                   have kx1 := HX8.out.cell 1
                   have kx2 := HX8.out.cell 2
                   have kx3 := HX8.out.cell 3
                   have kx4 := HX8.out.cell 4
                   have kx5 := HX8.out.cell 5
                   have kx6 := HX8.out.cell 6
                   have kx7 := HX8.out.cell 7
                   clear hg8)
                | (go_at_call 21
                   refine (ableOf_any _ a x _ (HOK.out.grown HG8.out (fun g e => by cases e))).mono ?_
                   rintro e w9 ⟨rfl, hg9⟩
                   rw [HBB2.out]
                   have HB9 := Lib.hid (HB8.out.grown hg9 (by simp))
                   have HG9 := Lib.hid (gr_none HG8.out hg9)
                   clear hg9)
                | fail)
              go_wp2_with fail
              go_roundw
              case rel => exact ⟨j + 1, by omega, by go_num, HG9.out, HB9.out⟩
              case measure => simp [intOf]; omega
          · obtain rfl : j = n' := by omega
            go_wp2_with fail
            go_roundw
            case rel => exact ⟨k + 1, by omega, by go_num, HGI.out⟩
            case measure => simp [intOf]; omega
    · obtain rfl : k = n := by omega
      go_wp2_with (first
        | (go_at_call 22; refine (queued_true _).mono ?_; rintro e w6 ⟨rfl, hg6⟩; have HG6 := Lib.hid (gr_none HGR.out hg6); clear hg6)
        | fail)
      go_ret
      refine ⟨rfl, ?_⟩
      have hfin := gr_none HG4.out HG6.out
      rw [← HSB.out] at hfin
      exact below_of_gr hfin
theorem met_QueuesCheck {W : World} (_h : laidMetH Tryd.prog Rows.queuesCheckRow.laid W) : True := trivial


theorem own_QueuesCheck : ownKnob Tryd.prog.godebug = none := by kernel_rfl
theorem laidOut_QueuesCheck : laidOutB Tryd.prog = true := by kernel_rfl
set_option maxRecDepth 100000 in
theorem lifted_QueuesCheck (os : Os) (started : os.Started) (H : Type) (enc : TypeId × Value → H) :
    ReturnsInHanded {} Tryd.checked os 3 .any (fun w args => (Rows.queuesCheckSpec.pre enc Tryd.prog Tryd.f3 [] false w args ∧ laidMetH Tryd.prog Rows.queuesCheckRow.laid w) ∧ sizedMet enc Tryd.prog Tryd.f3 (OpenSpec.ofChange Rows.queuesCheckSpec) false w args) (Rows.queuesCheckSpec.post enc Tryd.prog Tryd.f3 false true false false) := by
  refine returnsInHanded_of_change_and (C := Tryd.checked) (X := fun w _ => laidMetH Tryd.prog Rows.queuesCheckRow.laid w) (fun _ _ _ hh h => h.of_heap hh) own_QueuesCheck started (by kernel_rfl) Tryd.func3
    (ChangeSpec.witness_shaped (enc := enc) (C := Tryd.checked) (os := os) (X := fun w _ => laidMetH Tryd.prog Rows.queuesCheckRow.laid w) false (World.laidAll Tryd.prog os Rows.queuesCheckRow.laid) #[.slice none 0 0] 8 (World.laidAll_os _ _ _) (World.shaped_of_ZipB (by kernel_rfl) (by kernel_rfl)) (by kernel_rfl) (by kernel_rfl) (by kernel_rfl)
      (by rw [MakeChecks.laidMetH_plain _ _ _ (by kernel_rfl)]; exact laidMet_laidAll _ (by kernel_rfl) (by kernel_rfl))) ?_
  intro W base args ds gs before hval0 hW _ _ hL _
  have hval : ∀ (j : Nat) t v, Tryd.f3.params[j]? = some t → args[j]? = some v → Value.okWide Tryd.prog W .any base t v := hval0
  have hW' := hW
  obtain ⟨p, q, hA0, hV, rfl, hfz, hnd⟩ := hW
  have hA : DataW.TrodAll enc Tryd.prog W 0 (fun _ => true) true Tryd.f3.params.toList args.toList ds p := hA0
  rw [Tryd.params3] at hA hval
  obtain ⟨v0, vs0, d0, ds0, p0, q0, hargs, rfl, rfl, h0, r0⟩ := trodAll_cons hA
  obtain ⟨rfl, rfl, rfl⟩ := trodAll_nil r0
  obtain rfl : args = #[v0] := by cases args; simp_all
  obtain ⟨rfl, rfl⟩ := trodVars_none hV
  obtain ⟨a0, len0, cap0, rfl⟩ := okWide_slice Tryd.underlying22 (hval 0 22 v0 rfl rfl)
  have k0 := h0
  have lt0 : ∀ x ∈ p0, x.block < W.heap.size := by obtain ⟨m, hm⟩ := k0; exact DataW.trod_lt m _ _ _ hm
  obtain ⟨z0, w0⟩ : ∃ zs, IsRow .i64 W a0 len0 cap0 zs := by
    obtain ⟨fuel, hf⟩ := h0
    rcases open_ints Tryd.underlying22 Tryd.underlying3 (by kernel_rfl) hf with ⟨hcs, _⟩ | ⟨x, l, c, zs, hcs, _, hl, hm, hz, _, hcell, hwz⟩
    · simp [Value.cells] at hcs
      obtain ⟨rfl, rfl, rfl⟩ := hcs
      exact ⟨[], .inl ⟨rfl, rfl, rfl, rfl⟩⟩
    · simp [Value.cells] at hcs
      obtain ⟨rfl, rfl, rfl⟩ := hcs
      exact ⟨zs, .inr ⟨_, rfl, hl, hm, by simpa using hz, hcell, hwz⟩⟩
  clear hA0 hval0
  refine (walk_QueuesCheck a0 len0 cap0 z0 W w0 (met_QueuesCheck hL)).mono fun e W' ⟨he, bel⟩ => ?_
  subst he
  exact ⟨_, rfl, _, _, _, [], _, [], hW', trodAll_mk1 (shut_bool Tryd.underlying4 _), (trodAll_cons_mk (Below.trod laidOut_QueuesCheck (by kernel_rfl) (of_decide_eq_true (by kernel_rfl)) k0 bel lt0) trodAll_mk0), rfl, bel.frame _, fun h => by cases h⟩

theorem over_QueuesCheck : Rows.queuesCheckRow.holds Tryd.pinned (OpenSpec.ofChange Rows.queuesCheckSpec) :=
  OpenClaim.holds_of_wide 3 Tryd.f3 rfl rfl rfl rfl rfl rfl rfl ⟨rfl, rfl, rfl, rfl, rfl⟩ rfl rfl rfl rfl rfl (by kernel_rfl) Tryd.func3 (by kernel_rfl)
    (of_decide_eq_true (by kernel_rfl)) (by unfold Func.isWrapper; first | (rw [if_pos (by decide +kernel)]; kernel_rfl) | (rw [if_neg (by decide +kernel)]; exact ⟨rfl, rfl⟩))
    (fun os started H enc _ => lifted_QueuesCheck os started H enc)

theorem proved_QueuesCheck : Rows.QueuesCheckCardSaid :=
  Claim7.holds_tied_plain_at .later [] [.data, .pinned] true Rows.queuesCheckCard.stood.harness false
    over_QueuesCheck (fun _ h => by cases h) (by kernel_rfl) (fun _ h => by cases h) queuesCheck_row_tie rfl ⟨rfl, rfl⟩ (by kernel_rfl) rfl
    (fun f fn hf hfn => by
      obtain rfl : f = 3 := Option.some.inj ((show Tryd.prog.funcNamed Rows.queuesCheckRow.func = some 3 by kernel_rfl).symm.trans hf) |>.symm
      obtain rfl : fn = Tryd.f3 := (Option.some.inj (Tryd.func3.symm.trans hfn)).symm
      exact ⟨by kernel_rfl, fun j t ht => by
        rw [Tryd.params3] at ht
        have h3 : t = 22 := by
          rcases j with _ | j
          · simpa using ht.symm
          · simp at ht
        subst h3
        exact (show Tryd.prog.wantsStandIn 22 = false by kernel_rfl)⟩)
    (by kernel_rfl)
end Go.Proofs.YtddabpcdjgmooaaDoor


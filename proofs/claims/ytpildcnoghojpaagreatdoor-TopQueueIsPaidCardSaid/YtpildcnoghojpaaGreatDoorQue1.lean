/- Contracts of checkAgent, CheckAgents and of the document's timesFault and AgentsFault. Conditions: none. -/
import Derived.Test.YtpildcnoghojpaaGreatDoorBun4
import Derived.Deep.QuietTactic
import Derived.BigQuiet
import Derived.Outline
import Derived.IntWalk
namespace Go.Proofs.YtpildcnoghojpaaGreatDoor
open Go.RowKit

theorem Tryz.agT : StructT Tryz.prog 81 6 := ⟨_, Tryz.underlying81, rfl, by kernel_rfl⟩
theorem Tryz.skT : StructT Tryz.prog 83 2 := ⟨_, Tryz.underlying83, rfl, by kernel_rfl⟩
theorem Tryz.winT : StructT Tryz.prog 77 2 := ⟨_, Tryz.underlying77, rfl, by kernel_rfl⟩

section
variable {l : List (ByteArray × Int)} {i : Nat} {z b : ByteArray × Int}
theorem skAt_5 (h : l[i]? = some z) (h1 : keyOk (nb z.1) = false) : skAt l i = 5 := by simp [skAt, h, h1]
theorem skAt_1 (h : l[i]? = some z) (h1 : keyOk (nb z.1) = true) (h2 : inB z.2 1 9 = false) : skAt l i = 1 := by simp [skAt, h, h1, h2]
theorem skAt_7 (h : l[i]? = some z) (h1 : keyOk (nb z.1) = true) (h2 : inB z.2 1 9 = true) (hi : 0 < i) (hb : l[i - 1]? = some b) (h3 : leS z.1 b.1 = true) : skAt l i = 7 := by simp [skAt, h, h1, h2, hi, hb, h3]
theorem skAt_e (h : l[i]? = some z) (h1 : keyOk (nb z.1) = true) (h2 : inB z.2 1 9 = true) (hb : l[i - 1]? = some b) (h3 : leS z.1 b.1 = false) : skAt l i = 0 := by simp [skAt, h, h1, h2, hb, h3]
theorem skAt_z (h : l[i]? = some z) (h1 : keyOk (nb z.1) = true) (h2 : inB z.2 1 9 = true) (hi : ¬ 0 < i) : skAt l i = 0 := by simp [skAt, h, h1, h2, hi]
end
section
variable {l : List (Int × Int)} {i : Nat} {z b : Int × Int}
theorem pwAt_1 (h : l[i]? = some z) (h1 : z.1 < 0 ∨ z.2 ≤ z.1 ∨ 345686400000 < z.2) : pwAt l i = 1 := by simp only [pwAt, h, Option.elim]; rw [if_pos h1]
theorem pwAt_7 (h : l[i]? = some z) (h1 : ¬ (z.1 < 0 ∨ z.2 ≤ z.1 ∨ 345686400000 < z.2)) (hi : 0 < i) (hb : l[i - 1]? = some b) (h3 : z.1 < b.2) : pwAt l i = 7 := by simp only [pwAt, h, Option.elim]; rw [if_neg h1]; simp [hi, hb, h3]
theorem pwAt_e (h : l[i]? = some z) (h1 : ¬ (z.1 < 0 ∨ z.2 ≤ z.1 ∨ 345686400000 < z.2)) (hb : l[i - 1]? = some b) (h3 : ¬ z.1 < b.2) : pwAt l i = 0 := by simp only [pwAt, h, Option.elim]; rw [if_neg h1]; simp [hb, h3]
theorem pwAt_z (h : l[i]? = some z) (h1 : ¬ (z.1 < 0 ∨ z.2 ≤ z.1 ∨ 345686400000 < z.2)) (hi : ¬ 0 < i) : pwAt l i = 0 := by simp only [pwAt, h, Option.elim]; rw [if_neg h1]; simp [hi]
end


set_option maxHeartbeats 4000000 in
theorem checkAgent_any (lo : Nat) (a : AgV) (w : World) (h : AgOk w lo a) :
    Calls Tryz.prog 61 #[.agg #[.string a.key, .slice a.sA a.sn a.sc, .int .i64 a.fr, .int .i64 a.til, .slice a.pA a.pn a.pc, .int .i64 a.wrap]] w (RetV (.int .i64 (agE a)) w) := by
  obtain ⟨key, sA, sn, sc, fr, til, pA, pn, pc, wrap, sk, ps⟩ := a
  obtain ⟨⟨b1, b2, b3, b4⟩, hs, hp⟩ := h
  have HVS := Lib.hid (show agE ⟨key, sA, sn, sc, fr, til, pA, pn, pc, wrap, sk, ps⟩ = if 10 < sn then 2 else (if fstE (skAt sk) sn = 0 then tmE fr til pn ps wrap else fstE (skAt sk) sn) from rfl)
  dsimp only at b1 b2 b3 b4 hs hp ⊢
  obtain ⟨RES, hRES⟩ : ∃ R, agE ⟨key, sA, sn, sc, fr, til, pA, pn, pc, wrap, sk, ps⟩ = R := ⟨_, rfl⟩
  rw [hRES] at HVS ⊢
  clear hRES
  have HP := Lib.hid hp; have HSK := Lib.hid hs; have HBN := Lib.hid b2
  clear hs hp b1 b2
  by_cases c0 : 10 < sn
  · have d0 : decide ((10 : Int) < (sn : Int)) = true := decide_eq_true (by omega)
    rw [if_pos c0] at HVS
    go_enter Tryz.func61, Tryz.ntmps61
    go_wp2_with fail
    go_ret
    exact ⟨by rw [HVS.out]; rfl, gr_alloc (gr_refl _ _) _⟩
  · have d0 : decide ((10 : Int) < (sn : Int)) = false := decide_eq_false (by omega)
    rw [if_neg c0] at HVS
    go_enter Tryz.func61, Tryz.ntmps61
    go_wp2_with fail
    go_loopw [3, 4, 14] (fun _ _ t wr => ∃ i : Nat, i ≤ sn ∧ t = .int .i64 i ∧ w.grownBy wr none ∧ Blk wr w.heap.size 81 #[.string key, .slice sA sn sc, .int .i64 fr, .int .i64 til, .slice pA pn pc, .int .i64 wrap] ∧ fstE (skAt sk) i = 0) (fun _ _ t _ => sn - (intOf t).toNat)
    case atStart => exact ⟨0, Nat.zero_le _, rfl, gr_alloc (gr_refl _ _) _, Blk.new _ _ _, rfl⟩
    case round =>
      obtain ⟨i, hi, rfl, hg, hbl, ha⟩ := hrel
      have zr := hg.size
      have hbl1 := hbl.lt
      have HA := Lib.hid ha; have HG := Lib.hid hg; have HB := Lib.hid hbl; clear ha hg hbl
      by_cases hlt : i < sn
      · obtain ⟨g, o, ⟨nm, lv⟩, rfl, _, hgl, hz, hc⟩ := (HSK.out.grown HG.out (fun g e => by cases e)).get skRow_len hlt
        have hnm := HBN.out _ (mem_of_get hz)
        dsimp only at hnm
        have HZ := Lib.hid hz; have HC := Lib.hid hc; clear hz hc
        go_wp2_with (first
          | (refine wpl_load_at Tryz.skT rfl _ rfl _ rfl [.string nm, .int .i64 lv] rfl (fun j u hu => by rw [add_mk]; exact HC.out j u hu) ?_)
          | fail)
        refine (isKey_any nm _ (by omega)).mono ?_
        rintro e w2 ⟨rfl, hg2⟩
        have hsB := (Blk.new wr 83 #[.string nm, .int .i64 lv]).grown hg2 (by simp)
        have k0 := hsB.cell 0
        have k1 := hsB.cell 1
        have hB' := (HB.out.alloc (.cells #[.string nm, .int .i64 lv] 83)).grown hg2 (by simp)
        have ka := hB'.cell 1
        have HG2 := Lib.hid (gr_none (gr_alloc HG.out _) hg2)
        have HB2 := Lib.hid hB'
        have z2 := hg2.size; simp at z2
        clear hg2 hsB hB'
        cases hB1 : keyOk (nb nm)
        · have HFIN := Lib.hid (fst_ret (X := tmE fr til pn ps wrap) HA.out (skAt_5 HZ.out hB1) (by decide) hlt)
          go_wp2_with fail
          go_ret
          exact ⟨by rw [HVS.out, HFIN.out]; rfl, HG2.out⟩
        · cases hB2 : inB lv 1 9
          · have HFIN := Lib.hid (fst_ret (X := tmE fr til pn ps wrap) HA.out (skAt_1 HZ.out hB1 hB2) (by decide) hlt)
            go_wp2_with (first
              | (go_at_call 60; refine (within_any _ _ _ _).mono ?_; rintro e w' ⟨rfl, rfl⟩; rw [hB2])
              | fail)
            go_ret
            exact ⟨by rw [HVS.out, HFIN.out]; rfl, HG2.out⟩
          · by_cases h0 : 0 < i
            · obtain ⟨⟨qm, qv⟩, hb⟩ : ∃ b, sk[i - 1]? = some b := ⟨_, List.getElem?_eq_getElem (by rw [HSK.out.len]; omega)⟩
              have kb := (HSK.out.grown HG2.out (fun g e => by cases e)).at_ skRow_len hb 0 _ rfl
              simp only [Nat.add_zero] at kb
              have HB1 := Lib.hid hb; clear hb
              have hi0 : decide ((0 : Int) < (i : Int)) = true := by simpa using h0
              cases h7 : (Op.bytesLess nm.toList qm.toList || nm.toList == qm.toList)
              · have HE := Lib.hid (skAt_e HZ.out hB1 hB2 HB1.out h7)
                have s2 : (0 : Int) ≤ (i : Int) - 1 := by omega
                have s5 : (1 : Int) ≤ (i : Int) := by omega
                have s3 : (i : Int) - 1 < (sn : Int) := by omega
                have s6 : (0 : Int) < (sn : Int) := by omega
                have s1 : IntKind.i64.wrap ((i : Int) - 1) = (i : Int) - 1 := IntWalk.i64_in _ (by omega)
                have s4 : ((i : Int) - 1).toNat = i - 1 := by omega
                go_wp2_with (first
                  | (go_at_call 60; refine (within_any _ _ _ _).mono ?_; rintro e w' ⟨rfl, rfl⟩; rw [hB2])
                  | fail)
                go_quiet (fail)
                go_wp2_with fail
                clear s1 s4
                go_roundw
                case rel => exact ⟨i + 1, by omega, by go_num, gr_drewN HG2.out _, HB2.out.drewN _, fstE_zero HA.out HE.out⟩
                case measure => simp [intOf]; omega
              · have HFIN := Lib.hid (fst_ret (X := tmE fr til pn ps wrap) HA.out (skAt_7 HZ.out hB1 hB2 h0 HB1.out h7) (by decide) hlt)
                have s2 : (0 : Int) ≤ (i : Int) - 1 := by omega
                have s5 : (1 : Int) ≤ (i : Int) := by omega
                have s3 : (i : Int) - 1 < (sn : Int) := by omega
                have s6 : (0 : Int) < (sn : Int) := by omega
                have s1 : IntKind.i64.wrap ((i : Int) - 1) = (i : Int) - 1 := IntWalk.i64_in _ (by omega)
                have s4 : ((i : Int) - 1).toNat = i - 1 := by omega
                go_wp2_with (first
                  | (go_at_call 60; refine (within_any _ _ _ _).mono ?_; rintro e w' ⟨rfl, rfl⟩; rw [hB2])
                  | fail)
                go_quiet (fail)
                go_wp2_with fail
                go_ret
                exact ⟨by rw [HVS.out, HFIN.out]; rfl, gr_drewN HG2.out _⟩
            · have HE := Lib.hid (skAt_z HZ.out hB1 hB2 h0)
              have hi0 : decide ((0 : Int) < (i : Int)) = false := decide_eq_false (by omega)
              go_wp2_with (first
                | (go_at_call 60; refine (within_any _ _ _ _).mono ?_; rintro e w' ⟨rfl, rfl⟩; rw [hB2])
                | fail)
              go_quiet (fail)
              go_wp2_with fail
              go_roundw
              case rel => exact ⟨i + 1, by omega, by go_num, gr_drewN HG2.out _, HB2.out.drewN _, fstE_zero HA.out HE.out⟩
              case measure => simp [intOf]; omega
      · obtain rfl : sn = i := by omega
        obtain ⟨wo, rfl⟩ : ∃ wo : World, wo = wr := ⟨_, rfl⟩
        rw [if_pos HA.out] at HVS
        have ka2 := HB.out.cell 2
        have ka3 := HB.out.cell 3
        have ka4 := HB.out.cell 4
        by_cases c1 : fr < 0
        · have d1 : decide (fr < 0) = true := decide_eq_true c1
          have HV := Lib.hid (show RES = 1 by rw [HVS.out]; unfold tmE; rw [if_pos (.inl c1)])
          go_wp2_with fail
          go_ret
          exact ⟨by rw [HV.out]; rfl, HG.out⟩
        · have d1 : decide (fr < 0) = false := decide_eq_false c1
          by_cases c2 : til < fr
          · have d2 : decide (til < fr) = true := decide_eq_true c2
            have HV := Lib.hid (show RES = 1 by rw [HVS.out]; unfold tmE; rw [if_pos (.inr (.inl c2))])
            go_wp2_with fail
            go_ret
            exact ⟨by rw [HV.out]; rfl, HG.out⟩
          · have d2 : decide (til < fr) = false := decide_eq_false c2
            by_cases c3 : 345686400000 < til
            · have d3 : decide (345686400000 < til) = true := decide_eq_true c3
              have HV := Lib.hid (show RES = 1 by rw [HVS.out]; unfold tmE; rw [if_pos (.inr (.inr c3))])
              go_wp2_with fail
              go_ret
              exact ⟨by rw [HV.out]; rfl, HG.out⟩
            · have d3 : decide (345686400000 < til) = false := decide_eq_false c3
              by_cases c4 : 50 < pn
              · have d4 : decide ((50 : Int) < (pn : Int)) = true := decide_eq_true (by omega)
                have HV := Lib.hid (show RES = 2 by rw [HVS.out]; unfold tmE; rw [if_neg (by omega), if_pos c4])
                go_wp2_with fail
                go_ret
                exact ⟨by rw [HV.out]; rfl, HG.out⟩
              · have d4 : decide ((50 : Int) < (pn : Int)) = false := decide_eq_false (by omega)
                have HV := Lib.hid (show RES = if fstE (pwAt ps) pn = 0 then (if inB wrap 0 86400000 then 0 else 1) else fstE (pwAt ps) pn by rw [HVS.out]; unfold tmE; rw [if_neg (by omega), if_neg c4])
                clear c1 c2 c3 c4
                go_wp2_with fail
                clear ka2 ka3 ka4
                go_loopw [5, 6, 71] (fun _ _ t wr => ∃ i : Nat, i ≤ pn ∧ t = .int .i64 i ∧ w.grownBy wr none ∧ Blk wr w.heap.size 81 #[.string key, .slice sA sn sc, .int .i64 fr, .int .i64 til, .slice pA pn pc, .int .i64 wrap] ∧ fstE (pwAt ps) i = 0) (fun _ _ t _ => pn - (intOf t).toNat)
                case atStart => exact ⟨0, Nat.zero_le _, rfl, HG.out, HB.out, rfl⟩
                case round =>
                  clear HG HB HA hlt hi zr hbl1
                  obtain ⟨i, hi, rfl, hg, hbl, ha⟩ := hrel
                  have zr := hg.size
                  have hbl1 := hbl.lt
                  have HA := Lib.hid ha; have HG := Lib.hid hg; have HB := Lib.hid hbl; clear ha hg hbl
                  by_cases hlt : i < pn
                  · obtain ⟨g, o, ⟨pf, pt⟩, rfl, _, hgl, hz, hc⟩ := (HP.out.grown HG.out (fun g e => by cases e)).get pwRow_len hlt
                    have HZ := Lib.hid hz; have HC := Lib.hid hc; clear hz hc
                    by_cases c1 : pf < 0
                    · have d1 : decide (pf < 0) = true := decide_eq_true c1
                      have HFIN := Lib.hid (fst_ret (X := if inB wrap 0 86400000 then 0 else 1) HA.out (pwAt_1 HZ.out (.inl c1)) (by decide) hlt)
                      go_wp2_with (first
                        | (refine wpl_load_at Tryz.winT rfl _ rfl _ rfl [.int .i64 pf, .int .i64 pt] rfl (fun j u hu => by rw [add_mk]; exact HC.out j u hu) ?_)
                        | fail)
                      go_ret
                      exact ⟨by rw [HV.out, HFIN.out]; rfl, gr_alloc HG.out _⟩
                    · have d1 : decide (pf < 0) = false := decide_eq_false c1
                      by_cases c2 : pt ≤ pf
                      · have d2 : decide (pt ≤ pf) = true := decide_eq_true c2
                        have HFIN := Lib.hid (fst_ret (X := if inB wrap 0 86400000 then 0 else 1) HA.out (pwAt_1 HZ.out (.inr (.inl c2))) (by decide) hlt)
                        go_wp2_with (first
                          | (refine wpl_load_at Tryz.winT rfl _ rfl _ rfl [.int .i64 pf, .int .i64 pt] rfl (fun j u hu => by rw [add_mk]; exact HC.out j u hu) ?_)
                          | fail)
                        go_ret
                        exact ⟨by rw [HV.out, HFIN.out]; rfl, gr_alloc HG.out _⟩
                      · have d2 : decide (pt ≤ pf) = false := decide_eq_false c2
                        by_cases c3 : 345686400000 < pt
                        · have d3 : decide (345686400000 < pt) = true := decide_eq_true c3
                          have HFIN := Lib.hid (fst_ret (X := if inB wrap 0 86400000 then 0 else 1) HA.out (pwAt_1 HZ.out (.inr (.inr c3))) (by decide) hlt)
                          go_wp2_with (first
                            | (refine wpl_load_at Tryz.winT rfl _ rfl _ rfl [.int .i64 pf, .int .i64 pt] rfl (fun j u hu => by rw [add_mk]; exact HC.out j u hu) ?_)
                            | fail)
                          go_ret
                          exact ⟨by rw [HV.out, HFIN.out]; rfl, gr_alloc HG.out _⟩
                        · have d3 : decide (345686400000 < pt) = false := decide_eq_false c3
                          have hno : ¬ (pf < 0 ∨ pt ≤ pf ∨ 345686400000 < pt) := by omega
                          have HNO := Lib.hid hno; clear hno
                          by_cases h0 : 0 < i
                          · obtain ⟨⟨qf, qt⟩, hb⟩ : ∃ b, ps[i - 1]? = some b := ⟨_, List.getElem?_eq_getElem (by rw [HP.out.len]; omega)⟩
                            have kb := (HP.out.grown (gr_alloc HG.out (.cells #[.int .i64 pf, .int .i64 pt] 77)) (fun g e => by cases e)).at_ pwRow_len hb 1 _ rfl
                            have ka := (HB.out.alloc (.cells #[.int .i64 pf, .int .i64 pt] 77)).cell 4
                            have HB1 := Lib.hid hb; clear hb
                            have hi0 : decide ((0 : Int) < (i : Int)) = true := by simpa using h0
                            by_cases h7 : pf < qt
                            · have HFIN := Lib.hid (fst_ret (X := if inB wrap 0 86400000 then 0 else 1) HA.out (pwAt_7 HZ.out HNO.out h0 HB1.out h7) (by decide) hlt)
                              have s2 : (0 : Int) ≤ (i : Int) - 1 := by omega
                              have s5 : (1 : Int) ≤ (i : Int) := by omega
                              have s3 : (i : Int) - 1 < (pn : Int) := by omega
                              have s6 : (0 : Int) < (pn : Int) := by omega
                              have s1 : IntKind.i64.wrap ((i : Int) - 1) = (i : Int) - 1 := IntWalk.i64_in _ (by omega)
                              have s4 : ((i : Int) - 1).toNat = i - 1 := by omega
                              go_wp2_with (first
                                | (refine wpl_load_at Tryz.winT rfl _ rfl _ rfl [.int .i64 pf, .int .i64 pt] rfl (fun j u hu => by rw [add_mk]; exact HC.out j u hu) ?_)
                                | fail)
                              go_quiet (fail)
                              go_wp2_with fail
                              go_ret
                              exact ⟨by rw [HV.out, HFIN.out]; rfl, gr_drewN (gr_alloc HG.out _) _⟩
                            · have HE := Lib.hid (pwAt_e HZ.out HNO.out HB1.out h7)
                              have h7' : decide (pf < qt) = false := decide_eq_false h7
                              have s2 : (0 : Int) ≤ (i : Int) - 1 := by omega
                              have s5 : (1 : Int) ≤ (i : Int) := by omega
                              have s3 : (i : Int) - 1 < (pn : Int) := by omega
                              have s6 : (0 : Int) < (pn : Int) := by omega
                              have s1 : IntKind.i64.wrap ((i : Int) - 1) = (i : Int) - 1 := IntWalk.i64_in _ (by omega)
                              have s4 : ((i : Int) - 1).toNat = i - 1 := by omega
                              go_wp2_with (first
                                | (refine wpl_load_at Tryz.winT rfl _ rfl _ rfl [.int .i64 pf, .int .i64 pt] rfl (fun j u hu => by rw [add_mk]; exact HC.out j u hu) ?_)
                                | fail)
                              go_quiet (fail)
                              go_wp2_with fail
                              clear s1 s4
                              go_roundw
                              case rel => exact ⟨i + 1, by omega, by go_num, gr_drewN (gr_alloc HG.out _) _, (HB.out.alloc _).drewN _, fstE_zero HA.out HE.out⟩
                              case measure => simp [intOf]; omega
                          · have HE := Lib.hid (pwAt_z HZ.out HNO.out h0)
                            have hi0 : decide ((0 : Int) < (i : Int)) = false := decide_eq_false (by omega)
                            go_wp2_with (first
                              | (refine wpl_load_at Tryz.winT rfl _ rfl _ rfl [.int .i64 pf, .int .i64 pt] rfl (fun j u hu => by rw [add_mk]; exact HC.out j u hu) ?_)
                              | fail)
                            go_quiet (fail)
                            go_wp2_with fail
                            go_roundw
                            case rel => exact ⟨i + 1, by omega, by go_num, gr_drewN (gr_alloc HG.out _) _, (HB.out.alloc _).drewN _, fstE_zero HA.out HE.out⟩
                            case measure => simp [intOf]; omega
                  · obtain rfl : i = pn := by omega
                    have ka := HB.out.cell 5
                    obtain ⟨B2, hB2⟩ : ∃ B, inB wrap 0 86400000 = B := ⟨_, rfl⟩
                    have H2 := Lib.hid hB2; clear hB2
                    cases B2
                    all_goals
                      go_wp2_with (first
                        | (go_at_call 60; refine (within_any _ _ _ _).mono ?_; rintro e w' ⟨rfl, rfl⟩; rw [H2.out])
                        | fail)
                      go_ret
                      exact ⟨by rw [HV.out, if_pos HA.out, H2.out]; rfl, HG.out⟩
end Go.Proofs.YtpildcnoghojpaaGreatDoor

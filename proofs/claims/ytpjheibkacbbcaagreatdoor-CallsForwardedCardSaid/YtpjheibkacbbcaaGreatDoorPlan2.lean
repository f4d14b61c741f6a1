/- Contract of checkContext. Conditions: none. -/
import Derived.Test.YtpjheibkacbbcaaGreatDoorPlan1
import Derived.Test.YtpjheibkacbbcaaGreatDoorBun6
namespace Go.Proofs.YtpjheibkacbbcaaGreatDoor
open Go.RowKit

set_option maxHeartbeats 8000000 in
set_option maxRecDepth 100000 in
theorem checkContext_any (lo : Nat) (p : PlV) (i : Nat) (z : CxV) (w : World) (h : PlOk w lo p) (hi : p.ctxs[i]? = some z) :
    Calls Tryz.prog 154 #[.agg #[.slice p.cA p.cn p.cc, .slice p.hA p.hn p.hc], .int .i64 i] w (RetV (.int .i64 (cxAt p.hours p.ctxs i)) w) := by
  obtain ⟨cA, cn, cc, hA, hn, hc, ctxs, hours⟩ := p
  obtain ⟨key, rA, rn, rc, iA, en, ic, rules, incs⟩ := z
  have hlen := h.ctxs.len
  dsimp only at hi hlen ⊢
  have hin : i < cn := by rw [← hlen]; exact (List.getElem?_eq_some_iff.1 hi).1
  have hcn : cn ≤ 1000000 := h.cn
  have hkey : key.size ≤ 1000000 := (h.cok _ (mem_of_get hi)).key
  have hrn : rn ≤ 1000000 := (h.cok _ (mem_of_get hi)).rn
  have hen : en ≤ 1000000 := (h.cok _ (mem_of_get hi)).en
  have hin2 : (i : Int) < (cn : Int) := by omega
  clear hlen
  obtain ⟨W1, hW⟩ : ∃ W1, w.alloc (.cells #[.slice cA cn cc, .slice hA hn hc] 48) = W1 := ⟨_, rfl⟩
  have HP := Lib.hid (show Blk W1 w.heap.size 48 #[.slice cA cn cc, .slice hA hn hc] by rw [← hW]; exact Blk.new _ _ _)
  have HG := Lib.hid (show w.grownBy W1 none by rw [← hW]; exact gr_alloc (gr_refl _ _) _)
  have HPL := Lib.hid (h.grown HG.out (fun g e => by cases e))
  have HC := Lib.hid (HPL.out.cok _ (mem_of_get hi))
  obtain ⟨g, o, z', hcA, _, hgl, hz, hcc⟩ := HPL.out.ctxs.get CxV.row_len hin
  dsimp only at hcA hz
  obtain rfl : ⟨key, rA, rn, rc, iA, en, ic, rules, incs⟩ = z' := by rw [hi] at hz; injection hz
  subst hcA
  have HCC := Lib.hid hcc
  have HI := Lib.hid hi
  have HW := Lib.hid hW; clear h hW hi hz hcc
  obtain ⟨W2, hW2⟩ : ∃ W2, W1.alloc (.cells #[.string key, .slice rA rn rc, .slice iA en ic] 106) = W2 := ⟨_, rfl⟩
  have hz1 : W1.heap.size = w.heap.size + 1 := by rw [← HW.out]; simp
  have HB := Lib.hid (show Blk W2 (w.heap.size + 1) 106 #[.string key, .slice rA rn rc, .slice iA en ic] by rw [← hW2, ← hz1]; exact Blk.new _ _ _)
  have hg0 : W1.grownBy W2 none := by rw [← hW2]; exact gr_alloc (gr_refl _ _) _
  have HW2 := Lib.hid hW2
  have HZ1 := Lib.hid hz1
  clear hW2 hz1
  go_enter Tryz.func154, Tryz.ntmps154
  go_upto_region 1 with (fail)
  rw [HW.out]
  have k0 := HP.out.cell 0
  go_upto_region 2 with (first
    | (refine wpl_load_at Tryz.cxT rfl _ rfl _ rfl [.string key, .slice rA rn rc, .slice iA en ic] rfl (fun j u hu => by rw [add_mk]; exact HCC.out j u hu) ?_)
    | fail)
  rw [HZ1.out, HW2.out]
  clear k0
  replace HG := Lib.hid (gr_none HG.out hg0)
  replace HP := Lib.hid (HP.out.grown hg0 (by simp))
  replace HPL := Lib.hid (HPL.out.grown hg0 (fun g e => by cases e))
  replace HC := Lib.hid (HC.out.grown hg0 (fun g e => by cases e))
  clear hg0 hgl HCC
  have k0 := HB.out.cell 0
  have k1 := HB.out.cell 1
  have k2 := HB.out.cell 2
  obtain ⟨B0, hB0⟩ : ∃ B, keyOk (nb key) = B := ⟨_, rfl⟩
  have HB0 := Lib.hid hB0; clear hB0
  go_wp2_with fail
  refine (isKey_any key _ (by omega)).mono ?_
  rintro e w3 ⟨rfl, hg3⟩
  rw [show keyOk (nb key) = B0 from HB0.out]
  clear k0 k1 k2
  replace HB := Lib.hid (HB.out.grown hg3 (by simp))
  replace HP := Lib.hid (HP.out.grown hg3 (by simp))
  replace HPL := Lib.hid (HPL.out.grown hg3 (fun g e => by cases e))
  replace HC := Lib.hid (HC.out.grown hg3 (fun g e => by cases e))
  replace HG := Lib.hid (gr_none HG.out hg3)
  clear hg3
  have k0 := HB.out.cell 0
  have k1 := HB.out.cell 1
  have k2 := HB.out.cell 2
  cases B0
  · have HV := Lib.hid (show cxAt hours ctxs i = 5 from cxAt_5 HI.out HB0.out)
    go_wp2_with fail
    go_ret
    exact ⟨by rw [HV.out]; try rfl, HG.out⟩
  · by_cases h0 : 0 < i
    · obtain ⟨b, hb⟩ : ∃ b, ctxs[i - 1]? = some b := ⟨_, List.getElem?_eq_getElem (by have := HPL.out.ctxs.len; dsimp only at this; omega)⟩
      have kb := HPL.out.ctxs.at_ CxV.row_len hb 0 _ rfl
      simp only [Nat.add_zero] at kb
      have hp0 := HP.out.cell 0
      have HB1 := Lib.hid hb; clear hb
      have hi0 : decide ((0 : Int) < (i : Int)) = true := by simpa using h0
      cases h7 : (Op.bytesLess key.toList b.key.toList || key.toList == b.key.toList)
      · have HE := Lib.hid (show cxAt hours ctxs i = cxE hours ⟨key, rA, rn, rc, iA, en, ic, rules, incs⟩ from cxAt_e HI.out HB0.out HB1.out h7)
        have s2 : (0 : Int) ≤ (i : Int) - 1 := by omega
        have s5 : (1 : Int) ≤ (i : Int) := by omega
        have s3 : (i : Int) - 1 < (cn : Int) := by omega
        have s6 : (0 : Int) < (cn : Int) := by omega
        have s1 : IntKind.i64.wrap ((i : Int) - 1) = (i : Int) - 1 := IntWalk.i64_in _ (by omega)
        have s4 : ((i : Int) - 1).toNat = i - 1 := by omega
        go_wp2_with fail
        go_quiet (fail)
        clear s1 s4 kb hp0
        replace HB := Lib.hid (HB.out.drewN nq)
        replace HP := Lib.hid (HP.out.drewN nq)
        replace HPL := Lib.hid (HPL.out.grown (gr_drewN (gr_refl _ none) nq) (fun g e => by cases e))
        replace HC := Lib.hid (HC.out.grown (gr_drewN (gr_refl _ none) nq) (fun g e => by cases e))
        replace HG := Lib.hid (gr_drewN HG.out nq)
        clear k0 k1 k2
        have k0 := HB.out.cell 0
        have k1 := HB.out.cell 1
        have k2 := HB.out.cell 2
        by_cases c200 : 200 < rn
        · have d200 : decide ((200 : Int) < (rn : Int)) = true := decide_eq_true (by omega)
          have HV := Lib.hid (show cxAt hours ctxs i = 2 by rw [HE.out]; unfold cxE; dsimp only; rw [if_pos c200])
          go_wp2_with fail
          go_ret
          exact ⟨by rw [HV.out]; try rfl, HG.out⟩
        · have d200 : decide ((200 : Int) < (rn : Int)) = false := decide_eq_false (by omega)
          have HV := Lib.hid (show cxAt hours ctxs i = if fstE (ruAt hours rules) rn = 0 then (if 10 < en then 2 else fstE (incAt incs) en) else fstE (ruAt hours rules) rn by rw [HE.out]; unfold cxE; dsimp only; rw [if_neg c200])
          clear HE
          go_wp2_with fail
          clear k0 k1 k2
          go_loopw [6, 7, 43] (fun _ _ t wr => ∃ k : Nat, k ≤ rn ∧ t = .int .i64 k ∧ w.grownBy wr none ∧ PlOk wr lo ⟨some ⟨g, o, none⟩, cn, cc, hA, hn, hc, ctxs, hours⟩ ∧ CxOk wr lo ⟨key, rA, rn, rc, iA, en, ic, rules, incs⟩ ∧ Blk wr w.heap.size 48 #[.slice (some ⟨g, o, none⟩) cn cc, .slice hA hn hc] ∧ Blk wr (w.heap.size + 1) 106 #[.string key, .slice rA rn rc, .slice iA en ic] ∧ fstE (ruAt hours rules) k = 0) (fun _ _ t _ => rn - (intOf t).toNat)
          case atStart => exact ⟨0, Nat.zero_le _, rfl, HG.out, HPL.out, HC.out, HP.out, HB.out, rfl⟩
          case round =>
            clear HG HPL HC HP HB
            obtain ⟨k, hk, rfl, hg, hpl, hcx, hp, hb, ha⟩ := hrel
            have HG := Lib.hid hg; have HPL := Lib.hid hpl; have HC := Lib.hid hcx; have HP := Lib.hid hp; have HB := Lib.hid hb; have HA := Lib.hid ha
            clear hg hpl hcx hp hb ha
            by_cases hlt : k < rn
            · obtain ⟨r, hr⟩ : ∃ r, rules[k]? = some r := ⟨_, List.getElem?_eq_getElem (by have := HC.out.rules.len; dsimp only at this; omega)⟩
              obtain ⟨E, hE⟩ : ∃ E, ruE hours (rules.take k) r = E := ⟨_, rfl⟩
              have HEA := Lib.hid (show ruAt hours rules k = E by unfold ruAt; rw [hr]; exact hE)
              have HRR := Lib.hid hr; have HE := Lib.hid hE
              clear hr hE
              have k0 := HB.out.cell 0
              have k1 := HB.out.cell 1
              have k2 := HB.out.cell 2
              go_wp2_with (first
                | (refine wpl_load_all Tryz.plT rfl _ rfl _ rfl _ _ HP.out rfl ?_)
                | (refine wpl_load_all Tryz.cxT rfl _ rfl _ rfl _ _ HB.out rfl ?_)
                | fail)
              refine (checkRule_any lo ⟨some ⟨g, o, none⟩, cn, cc, hA, hn, hc, ctxs, hours⟩ ⟨key, rA, rn, rc, iA, en, ic, rules, incs⟩ k r _ HPL.out.hours.1 HPL.out.hn HC.out HRR.out).mono ?_
              rintro e w5 ⟨rfl, hg5⟩
              dsimp only
              rw [HE.out]
              clear k0 k1 k2
              replace HB := Lib.hid (HB.out.grown hg5 (by simp))
              replace HP := Lib.hid (HP.out.grown hg5 (by simp))
              replace HPL := Lib.hid (HPL.out.grown hg5 (fun g e => by cases e))
              replace HC := Lib.hid (HC.out.grown hg5 (fun g e => by cases e))
              replace HG := Lib.hid (gr_none HG.out hg5)
              clear hg5
              have k0 := HB.out.cell 0
              have k1 := HB.out.cell 1
              have k2 := HB.out.cell 2
              by_cases e0 : E = 0
              · have dE : (E != 0) = false := by simpa using e0
                have HN := Lib.hid (HEA.out.trans e0)
                go_wp2_with fail
                go_roundw
                case rel => exact ⟨k + 1, by omega, by go_num, HG.out, HPL.out, HC.out, HP.out, HB.out, fstE_zero HA.out HN.out⟩
                case measure => simp [intOf]; omega
              · have dE : (E != 0) = true := by simpa using e0
                have HF := Lib.hid (fst_ret (X := (if 10 < en then 2 else fstE (incAt incs) en)) HA.out HEA.out e0 hlt)
                go_wp2_with fail
                go_ret
                exact ⟨by rw [HV.out, HF.out]; try rfl, HG.out⟩
            · obtain rfl : k = rn := by omega
              rw [if_pos HA.out] at HV
              have k0 := HB.out.cell 0
              have k1 := HB.out.cell 1
              have k2 := HB.out.cell 2
              by_cases c10 : 10 < en
              · have d10 : decide ((10 : Int) < (en : Int)) = true := decide_eq_true (by omega)
                rw [if_pos c10] at HV
                go_wp2_with fail
                go_ret
                exact ⟨by rw [HV.out]; try rfl, HG.out⟩
              · have d10 : decide ((10 : Int) < (en : Int)) = false := decide_eq_false (by omega)
                rw [if_neg c10] at HV
                go_wp2_with fail
                clear k0 k1 k2
                obtain ⟨wo, rfl⟩ : ∃ wo : World, wo = wr := ⟨_, rfl⟩
                go_loopw [8, 9, 61] (fun _ _ t wr => ∃ j : Nat, j ≤ en ∧ t = .int .i64 j ∧ wr = wo ∧ fstE (incAt incs) j = 0) (fun _ _ t _ => en - (intOf t).toNat)
                case atStart => exact ⟨0, Nat.zero_le _, rfl, rfl, rfl⟩
                case round =>
                  obtain ⟨j, hj, rfl, rfl, ha⟩ := hrel
                  have HA2 := Lib.hid ha; clear ha
                  by_cases hlt : j < en
                  · obtain ⟨g', o', s, hiA, _, hgl', hz', hcc'⟩ := HC.out.incs.get srow_len hlt
                    dsimp only at hiA hz'
                    subst hiA
                    have ks := hcc' 0 _ rfl
                    simp only [Nat.mul_one, Nat.add_zero] at ks
                    have HZ2 := Lib.hid hz'
                    obtain ⟨B, hB⟩ : ∃ B, memS (incs.take j) s = B := ⟨_, rfl⟩
                    have HBB := Lib.hid hB
                    have hcap : en ≤ ic := HC.out.incs.cap
                    have hjj : (j : Int) < (en : Int) := by omega
                    clear hz' hcc' hB
                    have k2 := HB.out.cell 2
                    go_wp2_with fail
                    refine (containsS_any lo (some ⟨g', o', none⟩) j ic (incs.take j) s _ (HC.out.incs.take srow_len (by dsimp only; omega)) (by omega)).mono ?_
                    rintro e w' ⟨rfl, rfl⟩
                    rw [show List.any (incs.take j) (fun x => nb x == nb s) = B from HBB.out]
                    cases B
                    · have HN := Lib.hid (show incAt incs j = 0 by unfold incAt; rw [HZ2.out]; show (if memS (incs.take j) s = true then (6 : Int) else 0) = 0; rw [HBB.out]; rfl)
                      go_wp2_with fail
                      go_roundw
                      case rel => exact ⟨j + 1, by omega, by go_num, by trivial, fstE_zero HA2.out HN.out⟩
                      case measure => simp [intOf]; omega
                    · have HN := Lib.hid (show incAt incs j = 6 by unfold incAt; rw [HZ2.out]; show (if memS (incs.take j) s = true then (6 : Int) else 0) = 6; rw [HBB.out]; rfl)
                      have HF := Lib.hid (show fstE (incAt incs) en = 6 by rw [fstE_stop HA2.out (by rw [HN.out]; decide) hlt, HN.out])
                      go_wp2_with fail
                      go_ret
                      exact ⟨by rw [HV.out, HF.out]; try rfl, HG.out⟩
                  · obtain rfl : j = en := by omega
                    go_wp2_with fail
                    go_ret
                    exact ⟨by rw [HV.out, HA2.out]; try rfl, HG.out⟩
      · have HV := Lib.hid (show cxAt hours ctxs i = 7 from cxAt_7 HI.out HB0.out h0 HB1.out h7)
        have s2 : (0 : Int) ≤ (i : Int) - 1 := by omega
        have s5 : (1 : Int) ≤ (i : Int) := by omega
        have s3 : (i : Int) - 1 < (cn : Int) := by omega
        have s6 : (0 : Int) < (cn : Int) := by omega
        have s1 : IntKind.i64.wrap ((i : Int) - 1) = (i : Int) - 1 := IntWalk.i64_in _ (by omega)
        have s4 : ((i : Int) - 1).toNat = i - 1 := by omega
        go_wp2_with fail
        go_quiet (fail)
        go_wp2_with fail
        go_ret
        exact ⟨by rw [HV.out]; try rfl, gr_drewN HG.out _⟩
    · have hi0 : decide ((0 : Int) < (i : Int)) = false := decide_eq_false (by omega)
      have HE := Lib.hid (show cxAt hours ctxs i = cxE hours ⟨key, rA, rn, rc, iA, en, ic, rules, incs⟩ from cxAt_z HI.out HB0.out h0)
      go_wp2_with fail
      go_quiet (fail)
      replace HB := Lib.hid (HB.out.drewN nq)
      replace HP := Lib.hid (HP.out.drewN nq)
      replace HPL := Lib.hid (HPL.out.grown (gr_drewN (gr_refl _ none) nq) (fun g e => by cases e))
      replace HC := Lib.hid (HC.out.grown (gr_drewN (gr_refl _ none) nq) (fun g e => by cases e))
      replace HG := Lib.hid (gr_drewN HG.out nq)
      clear k0 k1 k2
      have k0 := HB.out.cell 0
      have k1 := HB.out.cell 1
      have k2 := HB.out.cell 2
      by_cases c200 : 200 < rn
      · have d200 : decide ((200 : Int) < (rn : Int)) = true := decide_eq_true (by omega)
        have HV := Lib.hid (show cxAt hours ctxs i = 2 by rw [HE.out]; unfold cxE; dsimp only; rw [if_pos c200])
        go_wp2_with fail
        go_ret
        exact ⟨by rw [HV.out]; try rfl, HG.out⟩
      · have d200 : decide ((200 : Int) < (rn : Int)) = false := decide_eq_false (by omega)
        have HV := Lib.hid (show cxAt hours ctxs i = if fstE (ruAt hours rules) rn = 0 then (if 10 < en then 2 else fstE (incAt incs) en) else fstE (ruAt hours rules) rn by rw [HE.out]; unfold cxE; dsimp only; rw [if_neg c200])
        clear HE
        go_wp2_with fail
        clear k0 k1 k2
        go_loopw [6, 7, 43] (fun _ _ t wr => ∃ k : Nat, k ≤ rn ∧ t = .int .i64 k ∧ w.grownBy wr none ∧ PlOk wr lo ⟨some ⟨g, o, none⟩, cn, cc, hA, hn, hc, ctxs, hours⟩ ∧ CxOk wr lo ⟨key, rA, rn, rc, iA, en, ic, rules, incs⟩ ∧ Blk wr w.heap.size 48 #[.slice (some ⟨g, o, none⟩) cn cc, .slice hA hn hc] ∧ Blk wr (w.heap.size + 1) 106 #[.string key, .slice rA rn rc, .slice iA en ic] ∧ fstE (ruAt hours rules) k = 0) (fun _ _ t _ => rn - (intOf t).toNat)
        case atStart => exact ⟨0, Nat.zero_le _, rfl, HG.out, HPL.out, HC.out, HP.out, HB.out, rfl⟩
        case round =>
          clear HG HPL HC HP HB
          obtain ⟨k, hk, rfl, hg, hpl, hcx, hp, hb, ha⟩ := hrel
          have HG := Lib.hid hg; have HPL := Lib.hid hpl; have HC := Lib.hid hcx; have HP := Lib.hid hp; have HB := Lib.hid hb; have HA := Lib.hid ha
          clear hg hpl hcx hp hb ha
          by_cases hlt : k < rn
          · obtain ⟨r, hr⟩ : ∃ r, rules[k]? = some r := ⟨_, List.getElem?_eq_getElem (by have := HC.out.rules.len; dsimp only at this; omega)⟩
            obtain ⟨E, hE⟩ : ∃ E, ruE hours (rules.take k) r = E := ⟨_, rfl⟩
            have HEA := Lib.hid (show ruAt hours rules k = E by unfold ruAt; rw [hr]; exact hE)
            have HRR := Lib.hid hr; have HE := Lib.hid hE
            clear hr hE
            have k0 := HB.out.cell 0
            have k1 := HB.out.cell 1
            have k2 := HB.out.cell 2
            go_wp2_with (first
              | (refine wpl_load_all Tryz.plT rfl _ rfl _ rfl _ _ HP.out rfl ?_)
              | (refine wpl_load_all Tryz.cxT rfl _ rfl _ rfl _ _ HB.out rfl ?_)
              | fail)
            refine (checkRule_any lo ⟨some ⟨g, o, none⟩, cn, cc, hA, hn, hc, ctxs, hours⟩ ⟨key, rA, rn, rc, iA, en, ic, rules, incs⟩ k r _ HPL.out.hours.1 HPL.out.hn HC.out HRR.out).mono ?_
            rintro e w5 ⟨rfl, hg5⟩
            dsimp only
            rw [HE.out]
            clear k0 k1 k2
            replace HB := Lib.hid (HB.out.grown hg5 (by simp))
            replace HP := Lib.hid (HP.out.grown hg5 (by simp))
            replace HPL := Lib.hid (HPL.out.grown hg5 (fun g e => by cases e))
            replace HC := Lib.hid (HC.out.grown hg5 (fun g e => by cases e))
            replace HG := Lib.hid (gr_none HG.out hg5)
            clear hg5
            have k0 := HB.out.cell 0
            have k1 := HB.out.cell 1
            have k2 := HB.out.cell 2
            by_cases e0 : E = 0
            · have dE : (E != 0) = false := by simpa using e0
              have HN := Lib.hid (HEA.out.trans e0)
              go_wp2_with fail
              go_roundw
              case rel => exact ⟨k + 1, by omega, by go_num, HG.out, HPL.out, HC.out, HP.out, HB.out, fstE_zero HA.out HN.out⟩
              case measure => simp [intOf]; omega
            · have dE : (E != 0) = true := by simpa using e0
              have HF := Lib.hid (fst_ret (X := (if 10 < en then 2 else fstE (incAt incs) en)) HA.out HEA.out e0 hlt)
              go_wp2_with fail
              go_ret
              exact ⟨by rw [HV.out, HF.out]; try rfl, HG.out⟩
          · obtain rfl : k = rn := by omega
            rw [if_pos HA.out] at HV
            have k0 := HB.out.cell 0
            have k1 := HB.out.cell 1
            have k2 := HB.out.cell 2
            by_cases c10 : 10 < en
            · have d10 : decide ((10 : Int) < (en : Int)) = true := decide_eq_true (by omega)
              rw [if_pos c10] at HV
              go_wp2_with fail
              go_ret
              exact ⟨by rw [HV.out]; try rfl, HG.out⟩
            · have d10 : decide ((10 : Int) < (en : Int)) = false := decide_eq_false (by omega)
              rw [if_neg c10] at HV
              go_wp2_with fail
              clear k0 k1 k2
              obtain ⟨wo, rfl⟩ : ∃ wo : World, wo = wr := ⟨_, rfl⟩
              go_loopw [8, 9, 61] (fun _ _ t wr => ∃ j : Nat, j ≤ en ∧ t = .int .i64 j ∧ wr = wo ∧ fstE (incAt incs) j = 0) (fun _ _ t _ => en - (intOf t).toNat)
              case atStart => exact ⟨0, Nat.zero_le _, rfl, rfl, rfl⟩
              case round =>
                obtain ⟨j, hj, rfl, rfl, ha⟩ := hrel
                have HA2 := Lib.hid ha; clear ha
                by_cases hlt : j < en
                · obtain ⟨g', o', s, hiA, _, hgl', hz', hcc'⟩ := HC.out.incs.get srow_len hlt
                  dsimp only at hiA hz'
                  subst hiA
                  have ks := hcc' 0 _ rfl
                  simp only [Nat.mul_one, Nat.add_zero] at ks
                  have HZ2 := Lib.hid hz'
                  obtain ⟨B, hB⟩ : ∃ B, memS (incs.take j) s = B := ⟨_, rfl⟩
                  have HBB := Lib.hid hB
                  have hcap : en ≤ ic := HC.out.incs.cap
                  have hjj : (j : Int) < (en : Int) := by omega
                  clear hz' hcc' hB
                  have k2 := HB.out.cell 2
                  go_wp2_with fail
                  refine (containsS_any lo (some ⟨g', o', none⟩) j ic (incs.take j) s _ (HC.out.incs.take srow_len (by dsimp only; omega)) (by omega)).mono ?_
                  rintro e w' ⟨rfl, rfl⟩
                  rw [show List.any (incs.take j) (fun x => nb x == nb s) = B from HBB.out]
                  cases B
                  · have HN := Lib.hid (show incAt incs j = 0 by unfold incAt; rw [HZ2.out]; show (if memS (incs.take j) s = true then (6 : Int) else 0) = 0; rw [HBB.out]; rfl)
                    go_wp2_with fail
                    go_roundw
                    case rel => exact ⟨j + 1, by omega, by go_num, by trivial, fstE_zero HA2.out HN.out⟩
                    case measure => simp [intOf]; omega
                  · have HN := Lib.hid (show incAt incs j = 6 by unfold incAt; rw [HZ2.out]; show (if memS (incs.take j) s = true then (6 : Int) else 0) = 6; rw [HBB.out]; rfl)
                    have HF := Lib.hid (show fstE (incAt incs) en = 6 by rw [fstE_stop HA2.out (by rw [HN.out]; decide) hlt, HN.out])
                    go_wp2_with fail
                    go_ret
                    exact ⟨by rw [HV.out, HF.out]; try rfl, HG.out⟩
                · obtain rfl : j = en := by omega
                  go_wp2_with fail
                  go_ret
                  exact ⟨by rw [HV.out, HA2.out]; try rfl, HG.out⟩
end Go.Proofs.YtpjheibkacbbcaaGreatDoor

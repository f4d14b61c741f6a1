/- Contract of checkContext. Conditions: none. -/
import Derived.Test.YtfakdalpaopjaaaGreatDoorPlan1
import Derived.Test.YtfakdalpaopjaaaGreatDoorBun5
import Derived.Test.YtfakdalpaopjaaaGreatDoorBun8
import Derived.Test.YtfakdalpaopjaaaGreatDoorBun1
namespace Go.Proofs.YtfakdalpaopjaaaGreatDoor
section
open Go.RowKit

set_option maxHeartbeats 8000000 in
set_option maxRecDepth 100000 in
theorem checkContext_any (lo : Nat) (p : PlV) (i : Nat) (z : CxV) (w : World) (h : PlOk w lo p) (hi : p.ctxs[i]? = some z) :
    Calls Tryz.prog 98 #[.agg #[.slice p.cA p.cn p.cc, .slice p.hA p.hn p.hc], .int .i64 i] w (RetV (.int .i64 (cxAt p.hours p.ctxs i)) w) := by
  obtain ⟨cA, cn, cc, hA, hn, hc, ctxs, hours⟩ := p
  obtain ⟨key, rA, rn, rc, iA, en, ic, rules, incs⟩ := z
  have hlen := h.ctxs.len
  dsimp only at hi hlen ⊢
  have hin : i < cn := by rw [← hlen]; exact (List.getElem?_eq_some_iff.1 hi).1
  have hcn : cn ≤ 1000000 := h.cn
  have hkey : key.size ≤ 1000000 := (h.cok _ (mem_of_get hi)).key
  have hrn : rn ≤ 1000000 := (h.cok _ (mem_of_get hi)).rn
  have hen : en ≤ 1000000 := (h.cok _ (mem_of_get hi)).en
  have hin2 : (i : Int) < (cn : Int) := by omega
  clear hlen
  obtain ⟨W1, hW⟩ : ∃ W1, w.alloc (.cells #[.slice cA cn cc, .slice hA hn hc] 48) = W1 := ⟨_, rfl⟩
  have HP := Lib.hid (show Blk W1 w.heap.size 48 #[.slice cA cn cc, .slice hA hn hc] by rw [← hW]; exact Blk.new _ _ _)
  have HG := Lib.hid (show w.grownBy W1 none by rw [← hW]; exact gr_alloc (gr_refl _ _) _)
  have HPL := Lib.hid (h.grown HG.out (fun g e => by cases e))
  have HC := Lib.hid (HPL.out.cok _ (mem_of_get hi))
  obtain ⟨g, o, z', hcA, _, hgl, hz, hcc⟩ := HPL.out.ctxs.get CxV.row_len hin
  dsimp only at hcA hz
  obtain rfl : ⟨key, rA, rn, rc, iA, en, ic, rules, incs⟩ = z' := by rw [hi] at hz; injection hz
  subst hcA
  have HCC := Lib.hid hcc
  have HI := Lib.hid hi
  have HW := Lib.hid hW; clear h hW hi hz hcc
  obtain ⟨W2, hW2⟩ : ∃ W2, W1.alloc (.cells #[.string key, .slice rA rn rc, .slice iA en ic] 89) = W2 := ⟨_, rfl⟩
  have hz1 : W1.heap.size = w.heap.size + 1 := by rw [← HW.out]; simp
  have HB := Lib.hid (show Blk W2 (w.heap.size + 1) 89 #[.string key, .slice rA rn rc, .slice iA en ic] by rw [← hW2, ← hz1]; exact Blk.new _ _ _)
  have hg0 : W1.grownBy W2 none := by rw [← hW2]; exact gr_alloc (gr_refl _ _) _
  have HW2 := Lib.hid hW2
  have HZ1 := Lib.hid hz1
  clear hW2 hz1
  go_enter Tryz.func98, Tryz.ntmps98
  go_upto_region 1 with (fail)
  rw [HW.out]
  have k0 := HP.out.cell 0
  go_upto_region 2 with (first
    | (refine wpl_load_at Tryz.cxT rfl _ rfl _ rfl [.string key, .slice rA rn rc, .slice iA en ic] rfl (fun j u hu => by rw [add_mk]; exact HCC.out j u hu) ?_)
    | fail)
  rw [HZ1.out, HW2.out]
  clear k0
  replace HG := Lib.hid (gr_none HG.out hg0)
  replace HP := Lib.hid (HP.out.grown hg0 (by simp))
  replace HPL := Lib.hid (HPL.out.grown hg0 (fun g e => by cases e))
  replace HC := Lib.hid (HC.out.grown hg0 (fun g e => by cases e))
  clear hg0 hgl HCC
  have k0 := HB.out.cell 0
  have k1 := HB.out.cell 1
  have k2 := HB.out.cell 2
  obtain ⟨B0, hB0⟩ : ∃ B, keyOk (nb key) = B := ⟨_, rfl⟩
  have HB0 := Lib.hid hB0; clear hB0
  go_wp2_with fail
  refine (isKey_any key _ (by omega)).mono ?_
  rintro e w3 ⟨rfl, hg3⟩
  rw [show keyOk (nb key) = B0 from HB0.out]
  clear k0 k1 k2
  replace HB := Lib.hid (HB.out.grown hg3 (by simp))
  replace HP := Lib.hid (HP.out.grown hg3 (by simp))
  replace HPL := Lib.hid (HPL.out.grown hg3 (fun g e => by cases e))
  replace HC := Lib.hid (HC.out.grown hg3 (fun g e => by cases e))
  replace HG := Lib.hid (gr_none HG.out hg3)
  clear hg3
  have k0 := HB.out.cell 0
  have k1 := HB.out.cell 1
  have k2 := HB.out.cell 2
  cases B0
  · have HV := Lib.hid (show cxAt hours ctxs i = 5 from cxAt_5 HI.out HB0.out)
    go_wp2_with fail
    go_ret
    exact ⟨by rw [HV.out]; try rfl, HG.out⟩
  · by_cases h0 : 0 < i
    · obtain ⟨b, hb⟩ : ∃ b, ctxs[i - 1]? = some b := ⟨_, List.getElem?_eq_getElem (by have := HPL.out.ctxs.len; dsimp only at this; omega)⟩
      have kb := HPL.out.ctxs.at_ CxV.row_len hb 0 _ rfl
      simp only [Nat.add_zero] at kb
      have hp0 := HP.out.cell 0
      have HB1 := Lib.hid hb; clear hb
      have hi0 : decide ((0 : Int) < (i : Int)) = true := by simpa using h0
      cases h7 : (Op.bytesLess key.toList b.key.toList || key.toList == b.key.toList)
      · have HE := Lib.hid (show cxAt hours ctxs i = cxE hours ⟨key, rA, rn, rc, iA, en, ic, rules, incs⟩ from cxAt_e HI.out HB0.out HB1.out h7)
        have s2 : (0 : Int) ≤ (i : Int) - 1 := by omega
        have s5 : (1 : Int) ≤ (i : Int) := by omega
        have s3 : (i : Int) - 1 < (cn : Int) := by omega
        have s6 : (0 : Int) < (cn : Int) := by omega
        have s1 : IntKind.i64.wrap ((i : Int) - 1) = (i : Int) - 1 := IntWalk.i64_in _ (by omega)
        have s4 : ((i : Int) - 1).toNat = i - 1 := by omega
        go_wp2_with fail
        go_quiet (fail)
        clear s1 s4 kb hp0
        replace HB := Lib.hid (HB.out.drewN nq)
        replace HP := Lib.hid (HP.out.drewN nq)
        replace HPL := Lib.hid (HPL.out.grown (gr_drewN (gr_refl _ none) nq) (fun g e => by cases e))
        replace HC := Lib.hid (HC.out.grown (gr_drewN (gr_refl _ none) nq) (fun g e => by cases e))
        replace HG := Lib.hid (gr_drewN HG.out nq)
        clear k0 k1 k2
        have k0 := HB.out.cell 0
        have k1 := HB.out.cell 1
        have k2 := HB.out.cell 2
        by_cases c200 : 200 < rn
        · have d200 : decide ((200 : Int) < (rn : Int)) = true := decide_eq_true (by omega)
          have HV := Lib.hid (show cxAt hours ctxs i = 2 by rw [HE.out]; unfold cxE; dsimp only; rw [if_pos c200])
          go_wp2_with fail
          go_ret
          exact ⟨by rw [HV.out]; try rfl, HG.out⟩
        · have d200 : decide ((200 : Int) < (rn : Int)) = false := decide_eq_false (by omega)
          have HV := Lib.hid (show cxAt hours ctxs i = if fstE (ruAt hours rules) rn = 0 then (if 10 < en then 2 else fstE (incAt incs) en) else fstE (ruAt hours rules) rn by rw [HE.out]; unfold cxE; dsimp only; rw [if_neg c200])
          clear HE
          go_wp2_with fail
          clear k0 k1 k2
          go_loopw [6, 7, 43] (fun _ _ t wr => ∃ k : Nat, k ≤ rn ∧ t = .int .i64 k ∧ w.grownBy wr none ∧ PlOk wr lo ⟨some ⟨g, o, none⟩, cn, cc, hA, hn, hc, ctxs, hours⟩ ∧ CxOk wr lo ⟨key, rA, rn, rc, iA, en, ic, rules, incs⟩ ∧ Blk wr w.heap.size 48 #[.slice (some ⟨g, o, none⟩) cn cc, .slice hA hn hc] ∧ Blk wr (w.heap.size + 1) 89 #[.string key, .slice rA rn rc, .slice iA en ic] ∧ fstE (ruAt hours rules) k = 0) (fun _ _ t _ => rn - (intOf t).toNat)
          case atStart => exact ⟨0, Nat.zero_le _, rfl, HG.out, HPL.out, HC.out, HP.out, HB.out, rfl⟩
          case round =>
            clear HG HPL HC HP HB
            obtain ⟨k, hk, rfl, hg, hpl, hcx, hp, hb, ha⟩ := hrel
            have HG := Lib.hid hg; have HPL := Lib.hid hpl; have HC := Lib.hid hcx; have HP := Lib.hid hp; have HB := Lib.hid hb; have HA := Lib.hid ha
            clear hg hpl hcx hp hb ha
            by_cases hlt : k < rn
            · obtain ⟨r, hr⟩ : ∃ r, rules[k]? = some r := ⟨_, List.getElem?_eq_getElem (by have := HC.out.rules.len; dsimp only at this; omega)⟩
              obtain ⟨E, hE⟩ : ∃ E, ruE hours (rules.take k) r = E := ⟨_, rfl⟩
              have HEA := Lib.hid (show ruAt hours rules k = E by unfold ruAt; rw [hr]; exact hE)
              have HRR := Lib.hid hr; have HE := Lib.hid hE
              clear hr hE
              have k0 := HB.out.cell 0
              have k1 := HB.out.cell 1
              have k2 := HB.out.cell 2
              go_wp2_with (first
                | (refine wpl_load_all Tryz.plT rfl _ rfl _ rfl _ _ HP.out rfl ?_)
                | (refine wpl_load_all Tryz.cxT rfl _ rfl _ rfl _ _ HB.out rfl ?_)
                | fail)
              refine (checkRule_any lo ⟨some ⟨g, o, none⟩, cn, cc, hA, hn, hc, ctxs, hours⟩ ⟨key, rA, rn, rc, iA, en, ic, rules, incs⟩ k r _ HPL.out.hours.1 HPL.out.hn HC.out HRR.out).mono ?_
              rintro e w5 ⟨rfl, hg5⟩
              dsimp only
              rw [HE.out]
              clear k0 k1 k2
              replace HB := Lib.hid (HB.out.grown hg5 (by simp))
              replace HP := Lib.hid (HP.out.grown hg5 (by simp))
              replace HPL := Lib.hid (HPL.out.grown hg5 (fun g e => by cases e))
              replace HC := Lib.hid (HC.out.grown hg5 (fun g e => by cases e))
              replace HG := Lib.hid (gr_none HG.out hg5)
              clear hg5
              have k0 := HB.out.cell 0
              have k1 := HB.out.cell 1
              have k2 := HB.out.cell 2
              by_cases e0 : E = 0
              · have dE : (E != 0) = false := by simpa using e0
                have HN := Lib.hid (HEA.out.trans e0)
                go_wp2_with fail
                go_roundw
                case rel => exact ⟨k + 1, by omega, by go_num, HG.out, HPL.out, HC.out, HP.out, HB.out, fstE_zero HA.out HN.out⟩
                case measure => simp [intOf]; omega
              · have dE : (E != 0) = true := by simpa using e0
                have HF := Lib.hid (fst_ret (X := (if 10 < en then 2 else fstE (incAt incs) en)) HA.out HEA.out e0 hlt)
                go_wp2_with fail
                go_ret
                exact ⟨by rw [HV.out, HF.out]; try rfl, HG.out⟩
            · obtain rfl : k = rn := by omega
              rw [if_pos HA.out] at HV
              have k0 := HB.out.cell 0
              have k1 := HB.out.cell 1
              have k2 := HB.out.cell 2
              by_cases c10 : 10 < en
              · have d10 : decide ((10 : Int) < (en : Int)) = true := decide_eq_true (by omega)
                rw [if_pos c10] at HV
                go_wp2_with fail
                go_ret
                exact ⟨by rw [HV.out]; try rfl, HG.out⟩
              · have d10 : decide ((10 : Int) < (en : Int)) = false := decide_eq_false (by omega)
                rw [if_neg c10] at HV
                go_wp2_with fail
                clear k0 k1 k2
                obtain ⟨wo, rfl⟩ : ∃ wo : World, wo = wr := ⟨_, rfl⟩
                go_loopw [8, 9, 61] (fun _ _ t wr => ∃ j : Nat, j ≤ en ∧ t = .int .i64 j ∧ wr = wo ∧ fstE (incAt incs) j = 0) (fun _ _ t _ => en - (intOf t).toNat)
                case atStart => exact ⟨0, Nat.zero_le _, rfl, rfl, rfl⟩
                case round =>
                  obtain ⟨j, hj, rfl, rfl, ha⟩ := hrel
                  have HA2 := Lib.hid ha; clear ha
                  by_cases hlt : j < en
                  · obtain ⟨g', o', s, hiA, _, hgl', hz', hcc'⟩ := HC.out.incs.get srow_len hlt
                    dsimp only at hiA hz'
                    subst hiA
                    have ks := hcc' 0 _ rfl
                    simp only [Nat.mul_one, Nat.add_zero] at ks
                    have HZ2 := Lib.hid hz'
                    obtain ⟨B, hB⟩ : ∃ B, memS (incs.take j) s = B := ⟨_, rfl⟩
                    have HBB := Lib.hid hB
                    have hcap : en ≤ ic := HC.out.incs.cap
                    have hjj : (j : Int) < (en : Int) := by omega
                    clear hz' hcc' hB
                    have k2 := HB.out.cell 2
                    go_wp2_with fail
                    refine (containsS_any lo (some ⟨g', o', none⟩) j ic (incs.take j) s _ (HC.out.incs.take srow_len (by dsimp only; omega)) (by omega)).mono ?_
                    rintro e w' ⟨rfl, rfl⟩
                    rw [show List.any (incs.take j) (fun x => nb x == nb s) = B from HBB.out]
                    cases B
                    · have HN := Lib.hid (show incAt incs j = 0 by unfold incAt; rw [HZ2.out]; show (if memS (incs.take j) s = true then (6 : Int) else 0) = 0; rw [HBB.out]; rfl)
                      go_wp2_with fail
                      go_roundw
                      case rel => exact ⟨j + 1, by omega, by go_num, by trivial, fstE_zero HA2.out HN.out⟩
                      case measure => simp [intOf]; omega
                    · have HN := Lib.hid (show incAt incs j = 6 by unfold incAt; rw [HZ2.out]; show (if memS (incs.take j) s = true then (6 : Int) else 0) = 6; rw [HBB.out]; rfl)
                      have HF := Lib.hid (show fstE (incAt incs) en = 6 by rw [fstE_stop HA2.out (by rw [HN.out]; decide) hlt, HN.out])
                      go_wp2_with fail
                      go_ret
                      exact ⟨by rw [HV.out, HF.out]; try rfl, HG.out⟩
                  · obtain rfl : j = en := by omega
                    go_wp2_with fail
                    go_ret
                    exact ⟨by rw [HV.out, HA2.out]; try rfl, HG.out⟩
      · have HV := Lib.hid (show cxAt hours ctxs i = 7 from cxAt_7 HI.out HB0.out h0 HB1.out h7)
        have s2 : (0 : Int) ≤ (i : Int) - 1 := by omega
        have s5 : (1 : Int) ≤ (i : Int) := by omega
        have s3 : (i : Int) - 1 < (cn : Int) := by omega
        have s6 : (0 : Int) < (cn : Int) := by omega
        have s1 : IntKind.i64.wrap ((i : Int) - 1) = (i : Int) - 1 := IntWalk.i64_in _ (by omega)
        have s4 : ((i : Int) - 1).toNat = i - 1 := by omega
        go_wp2_with fail
        go_quiet (fail)
        go_wp2_with fail
        go_ret
        exact ⟨by rw [HV.out]; try rfl, gr_drewN HG.out _⟩
    · have hi0 : decide ((0 : Int) < (i : Int)) = false := decide_eq_false (by omega)
      have HE := Lib.hid (show cxAt hours ctxs i = cxE hours ⟨key, rA, rn, rc, iA, en, ic, rules, incs⟩ from cxAt_z HI.out HB0.out h0)
      go_wp2_with fail
      go_quiet (fail)
      replace HB := Lib.hid (HB.out.drewN nq)
      replace HP := Lib.hid (HP.out.drewN nq)
      replace HPL := Lib.hid (HPL.out.grown (gr_drewN (gr_refl _ none) nq) (fun g e => by cases e))
      replace HC := Lib.hid (HC.out.grown (gr_drewN (gr_refl _ none) nq) (fun g e => by cases e))
      replace HG := Lib.hid (gr_drewN HG.out nq)
      clear k0 k1 k2
      have k0 := HB.out.cell 0
      have k1 := HB.out.cell 1
      have k2 := HB.out.cell 2
      by_cases c200 : 200 < rn
      · have d200 : decide ((200 : Int) < (rn : Int)) = true := decide_eq_true (by omega)
        have HV := Lib.hid (show cxAt hours ctxs i = 2 by rw [HE.out]; unfold cxE; dsimp only; rw [if_pos c200])
        go_wp2_with fail
        go_ret
        exact ⟨by rw [HV.out]; try rfl, HG.out⟩
      · have d200 : decide ((200 : Int) < (rn : Int)) = false := decide_eq_false (by omega)
        have HV := Lib.hid (show cxAt hours ctxs i = if fstE (ruAt hours rules) rn = 0 then (if 10 < en then 2 else fstE (incAt incs) en) else fstE (ruAt hours rules) rn by rw [HE.out]; unfold cxE; dsimp only; rw [if_neg c200])
        clear HE
        go_wp2_with fail
        clear k0 k1 k2
        go_loopw [6, 7, 43] (fun _ _ t wr => ∃ k : Nat, k ≤ rn ∧ t = .int .i64 k ∧ w.grownBy wr none ∧ PlOk wr lo ⟨some ⟨g, o, none⟩, cn, cc, hA, hn, hc, ctxs, hours⟩ ∧ CxOk wr lo ⟨key, rA, rn, rc, iA, en, ic, rules, incs⟩ ∧ Blk wr w.heap.size 48 #[.slice (some ⟨g, o, none⟩) cn cc, .slice hA hn hc] ∧ Blk wr (w.heap.size + 1) 89 #[.string key, .slice rA rn rc, .slice iA en ic] ∧ fstE (ruAt hours rules) k = 0) (fun _ _ t _ => rn - (intOf t).toNat)
        case atStart => exact ⟨0, Nat.zero_le _, rfl, HG.out, HPL.out, HC.out, HP.out, HB.out, rfl⟩
        case round =>
          clear HG HPL HC HP HB
          obtain ⟨k, hk, rfl, hg, hpl, hcx, hp, hb, ha⟩ := hrel
          have HG := Lib.hid hg; have HPL := Lib.hid hpl; have HC := Lib.hid hcx; have HP := Lib.hid hp; have HB := Lib.hid hb; have HA := Lib.hid ha
          clear hg hpl hcx hp hb ha
          by_cases hlt : k < rn
          · obtain ⟨r, hr⟩ : ∃ r, rules[k]? = some r := ⟨_, List.getElem?_eq_getElem (by have := HC.out.rules.len; dsimp only at this; omega)⟩
            obtain ⟨E, hE⟩ : ∃ E, ruE hours (rules.take k) r = E := ⟨_, rfl⟩
            have HEA := Lib.hid (show ruAt hours rules k = E by unfold ruAt; rw [hr]; exact hE)
            have HRR := Lib.hid hr; have HE := Lib.hid hE
            clear hr hE
            have k0 := HB.out.cell 0
            have k1 := HB.out.cell 1
            have k2 := HB.out.cell 2
            go_wp2_with (first
              | (refine wpl_load_all Tryz.plT rfl _ rfl _ rfl _ _ HP.out rfl ?_)
              | (refine wpl_load_all Tryz.cxT rfl _ rfl _ rfl _ _ HB.out rfl ?_)
              | fail)
            refine (checkRule_any lo ⟨some ⟨g, o, none⟩, cn, cc, hA, hn, hc, ctxs, hours⟩ ⟨key, rA, rn, rc, iA, en, ic, rules, incs⟩ k r _ HPL.out.hours.1 HPL.out.hn HC.out HRR.out).mono ?_
            rintro e w5 ⟨rfl, hg5⟩
            dsimp only
            rw [HE.out]
            clear k0 k1 k2
            replace HB := Lib.hid (HB.out.grown hg5 (by simp))
            replace HP := Lib.hid (HP.out.grown hg5 (by simp))
            replace HPL := Lib.hid (HPL.out.grown hg5 (fun g e => by cases e))
            replace HC := Lib.hid (HC.out.grown hg5 (fun g e => by cases e))
            replace HG := Lib.hid (gr_none HG.out hg5)
            clear hg5
            have k0 := HB.out.cell 0
            have k1 := HB.out.cell 1
            have k2 := HB.out.cell 2
            by_cases e0 : E = 0
            · have dE : (E != 0) = false := by simpa using e0
              have HN := Lib.hid (HEA.out.trans e0)
              go_wp2_with fail
              go_roundw
              case rel => exact ⟨k + 1, by omega, by go_num, HG.out, HPL.out, HC.out, HP.out, HB.out, fstE_zero HA.out HN.out⟩
              case measure => simp [intOf]; omega
            · have dE : (E != 0) = true := by simpa using e0
              have HF := Lib.hid (fst_ret (X := (if 10 < en then 2 else fstE (incAt incs) en)) HA.out HEA.out e0 hlt)
              go_wp2_with fail
              go_ret
              exact ⟨by rw [HV.out, HF.out]; try rfl, HG.out⟩
          · obtain rfl : k = rn := by omega
            rw [if_pos HA.out] at HV
            have k0 := HB.out.cell 0
            have k1 := HB.out.cell 1
            have k2 := HB.out.cell 2
            by_cases c10 : 10 < en
            · have d10 : decide ((10 : Int) < (en : Int)) = true := decide_eq_true (by omega)
              rw [if_pos c10] at HV
              go_wp2_with fail
              go_ret
              exact ⟨by rw [HV.out]; try rfl, HG.out⟩
            · have d10 : decide ((10 : Int) < (en : Int)) = false := decide_eq_false (by omega)
              rw [if_neg c10] at HV
              go_wp2_with fail
              clear k0 k1 k2
              obtain ⟨wo, rfl⟩ : ∃ wo : World, wo = wr := ⟨_, rfl⟩
              go_loopw [8, 9, 61] (fun _ _ t wr => ∃ j : Nat, j ≤ en ∧ t = .int .i64 j ∧ wr = wo ∧ fstE (incAt incs) j = 0) (fun _ _ t _ => en - (intOf t).toNat)
              case atStart => exact ⟨0, Nat.zero_le _, rfl, rfl, rfl⟩
              case round =>
                obtain ⟨j, hj, rfl, rfl, ha⟩ := hrel
                have HA2 := Lib.hid ha; clear ha
                by_cases hlt : j < en
                · obtain ⟨g', o', s, hiA, _, hgl', hz', hcc'⟩ := HC.out.incs.get srow_len hlt
                  dsimp only at hiA hz'
                  subst hiA
                  have ks := hcc' 0 _ rfl
                  simp only [Nat.mul_one, Nat.add_zero] at ks
                  have HZ2 := Lib.hid hz'
                  obtain ⟨B, hB⟩ : ∃ B, memS (incs.take j) s = B := ⟨_, rfl⟩
                  have HBB := Lib.hid hB
                  have hcap : en ≤ ic := HC.out.incs.cap
                  have hjj : (j : Int) < (en : Int) := by omega
                  clear hz' hcc' hB
                  have k2 := HB.out.cell 2
                  go_wp2_with fail
                  refine (containsS_any lo (some ⟨g', o', none⟩) j ic (incs.take j) s _ (HC.out.incs.take srow_len (by dsimp only; omega)) (by omega)).mono ?_
                  rintro e w' ⟨rfl, rfl⟩
                  rw [show List.any (incs.take j) (fun x => nb x == nb s) = B from HBB.out]
                  cases B
                  · have HN := Lib.hid (show incAt incs j = 0 by unfold incAt; rw [HZ2.out]; show (if memS (incs.take j) s = true then (6 : Int) else 0) = 0; rw [HBB.out]; rfl)
                    go_wp2_with fail
                    go_roundw
                    case rel => exact ⟨j + 1, by omega, by go_num, by trivial, fstE_zero HA2.out HN.out⟩
                    case measure => simp [intOf]; omega
                  · have HN := Lib.hid (show incAt incs j = 6 by unfold incAt; rw [HZ2.out]; show (if memS (incs.take j) s = true then (6 : Int) else 0) = 6; rw [HBB.out]; rfl)
                    have HF := Lib.hid (show fstE (incAt incs) en = 6 by rw [fstE_stop HA2.out (by rw [HN.out]; decide) hlt, HN.out])
                    go_wp2_with fail
                    go_ret
                    exact ⟨by rw [HV.out, HF.out]; try rfl, HG.out⟩
                · obtain rfl : j = en := by omega
                  go_wp2_with fail
                  go_ret
                  exact ⟨by rw [HV.out, HA2.out]; try rfl, HG.out⟩
end
end Go.Proofs.YtfakdalpaopjaaaGreatDoor
/- Contracts of compareForwards, of strconv.Itoa at small numbers, of the document's key of a forward. Conditions: kinds of forwards that there are. -/
namespace Go.Proofs.YtfakdalpaopjaaaGreatDoor
section
open Go.RowKit

theorem Tryz.fwT : StructT Tryz.prog 97 4 := ⟨_, Tryz.underlying97, rfl, by kernel_rfl⟩
set_option maxHeartbeats 4000000 in
theorem compareForwards_any (a b : FwV) (w : World) (ha : inB a.when_ 1 3 = true) (hb : inB b.when_ 1 3 = true) : Calls Tryz.prog 66 #[.agg #[.string a.line, .int .i64 a.when_, .string a.to_, .string a.hrs], .agg #[.string b.line, .int .i64 b.when_, .string b.to_, .string b.hrs]] w (RetV (.int .i64 (fwCmp a b)) w) := by
  unfold inB at ha hb
  simp only [Bool.and_eq_true, decide_eq_true_eq] at ha hb
  obtain ⟨w1, hw1⟩ : ∃ v, w.alloc (.cells #[.string a.line, .int .i64 a.when_, .string a.to_, .string a.hrs] 97) = v := ⟨_, rfl⟩
  obtain ⟨w2, hw2⟩ : ∃ v, w1.alloc (.cells #[.string b.line, .int .i64 b.when_, .string b.to_, .string b.hrs] 97) = v := ⟨_, rfl⟩
  have HX := Lib.hid (show Blk w2 w.heap.size 97 #[.string a.line, .int .i64 a.when_, .string a.to_, .string a.hrs] by rw [← hw2, ← hw1]; exact (Blk.new _ _ _).alloc _)
  have HY := Lib.hid (show Blk w2 (w.heap.size + 1) 97 #[.string b.line, .int .i64 b.when_, .string b.to_, .string b.hrs] by
    rw [← hw2, ← hw1]
    have h := Blk.new (w.alloc (.cells #[.string a.line, .int .i64 a.when_, .string a.to_, .string a.hrs] 97)) 97 #[.string b.line, .int .i64 b.when_, .string b.to_, .string b.hrs]
    simpa using h)
  have HG := Lib.hid (show w.grownBy w2 none by rw [← hw2, ← hw1]; exact gr_alloc (gr_alloc (gr_refl _ _) _) _)
  have HW1 := Lib.hid hw1; have HW2 := Lib.hid hw2
  clear hw1 hw2
  have x0 := HX.out.cell 0; have x1 := HX.out.cell 1; have x3 := HX.out.cell 3
  have y0 := HY.out.cell 0; have y1 := HY.out.cell 1; have y3 := HY.out.cell 3
  have HV := Lib.hid (show fwCmp a b = if cmpS a.line b.line = 0 then (if a.when_ = b.when_ then cmpS a.hrs b.hrs else a.when_ - b.when_) else cmpS a.line b.line from rfl)
  obtain ⟨Q, hQ⟩ : ∃ q, cmpS a.line b.line = q := ⟨_, rfl⟩
  obtain ⟨R, hR⟩ : ∃ q, cmpS a.hrs b.hrs = q := ⟨_, rfl⟩
  rw [hQ, hR] at HV
  have HQ := Lib.hid hQ; have HR := Lib.hid hR
  clear hQ hR
  obtain ⟨u, hu⟩ : ∃ u, a.when_ = u := ⟨_, rfl⟩
  obtain ⟨v, hv⟩ : ∃ u, b.when_ = u := ⟨_, rfl⟩
  rw [hu] at ha HV x1
  rw [hv] at hb HV y1
  have HU := Lib.hid hu; have HVV := Lib.hid hv
  clear hu hv
  by_cases q0 : Q = 0
  · have d0 : (Q != 0) = false := by simp [q0]
    by_cases u0 : u = v
    · have d1 : (u != v) = false := by simp [u0]
      have HF := Lib.hid (show fwCmp a b = R by rw [HV.out, if_pos q0, if_pos u0])
      clear q0 u0
      go_enter Tryz.func66, Tryz.ntmps66
      go_upto_region 1 with (fail)
      (try rw [HW1.out])
      (try rw [HW2.out])
      go_wp2_with (first
        | (go_at_call 75; refine (strCmp_any _ _ _).mono ?_; rintro e w3 ⟨rfl, rfl⟩; rw [HQ.out])
        | (go_at_call 75; refine (strCmp_any _ _ _).mono ?_; rintro e w3 ⟨rfl, rfl⟩; rw [HR.out])
        | fail)
      go_ret
      exact ⟨by rw [HF.out]; try rfl, HG.out⟩
    · have d1 : (u != v) = true := by simpa using u0
      have hw : IntKind.i64.wrap (u - v) = u - v := IntWalk.i64_in _ (by omega)
      have HF := Lib.hid (show fwCmp a b = u - v by rw [HV.out, if_pos q0, if_neg u0])
      clear q0 u0
      go_enter Tryz.func66, Tryz.ntmps66
      go_upto_region 1 with (fail)
      (try rw [HW1.out])
      (try rw [HW2.out])
      go_wp2_with (first
        | (go_at_call 75; refine (strCmp_any _ _ _).mono ?_; rintro e w3 ⟨rfl, rfl⟩; rw [HQ.out])
        | fail)
      go_ret
      exact ⟨by rw [HF.out]; try rfl, HG.out⟩
  · have d0 : (Q != 0) = true := by simpa using q0
    have HF := Lib.hid (show fwCmp a b = Q by rw [HV.out, if_neg q0])
    clear q0
    go_enter Tryz.func66, Tryz.ntmps66
    go_upto_region 1 with (fail)
    (try rw [HW1.out])
    (try rw [HW2.out])
    go_wp2_with (first
      | (go_at_call 75; refine (strCmp_any _ _ _).mono ?_; rintro e w3 ⟨rfl, rfl⟩; rw [HQ.out])
      | fail)
    go_ret
    exact ⟨by rw [HF.out]; try rfl, HG.out⟩
/-! Small numbers as strings. -/
theorem fw_prev {hs : List HrV} {l : List FwV} {k : Nat} {b : FwV} (h : fstE (fwAt hs l) k = 0) (h0 : 0 < k) (hb : l[k - 1]? = some b) : fwF hs b = 0 := by
  have h1 := fstE_ev h (k - 1) (by omega)
  by_cases h2 : fwF hs b = 0
  · exact h2
  · rw [fwAt_f hb h2] at h1; exact absurd h1 h2
end
end Go.Proofs.YtfakdalpaopjaaaGreatDoor
/- Contracts of checkStates and of the document's StatesFault. Conditions: none. -/
namespace Go.Proofs.YtfakdalpaopjaaaGreatDoor
section
open Go.RowKit

theorem Tryz.prT : StructT Tryz.prog 148 2 := ⟨_, Tryz.underlying148, rfl, by kernel_rfl⟩
theorem tl_iff {s : ByteArray} {l : List UInt8} {m : List Nat} (h : l.map UInt8.toNat = m) : s.toList = l ↔ nb s = m := by
  subst h
  unfold nb
  rw [ByteArray.toList_eq]
  constructor
  · intro h; rw [h]
  · intro h
    exact (List.map_inj_right (fun a b h => UInt8.toNat_inj.1 h)).1 h
/-- The ways of a state's value. -/
theorem stV_ways (s : ByteArray) : ((s.toList == [98, 117, 115, 121]) = true ∧ stV (nb s) = 1) ∨ ((s.toList == [98, 117, 115, 121]) = false ∧ (s.toList == [115, 105, 108, 101, 110, 116]) = true ∧ stV (nb s) = 2) ∨ ((s.toList == [98, 117, 115, 121]) = false ∧ (s.toList == [115, 105, 108, 101, 110, 116]) = false ∧ stV (nb s) = 0) := by
  have h1 := tl_iff (s := s) (l := [98, 117, 115, 121]) (m := bsy) rfl
  have h2 := tl_iff (s := s) (l := [115, 105, 108, 101, 110, 116]) (m := sil) rfl
  unfold stV
  by_cases e1 : nb s = bsy
  · exact .inl ⟨by rw [beq_iff_eq]; exact h1.2 e1, if_pos e1⟩
  · have f1 : (s.toList == [98, 117, 115, 121]) = false := by rw [beq_eq_false_iff_ne]; exact fun h => e1 (h1.1 h)
    by_cases e2 : nb s = sil
    · exact .inr (.inl ⟨f1, by rw [beq_iff_eq]; exact h2.2 e2, by rw [if_neg e1, if_pos e2]⟩)
    · exact .inr (.inr ⟨f1, by rw [beq_eq_false_iff_ne]; exact fun h => e2 (h2.1 h), by rw [if_neg e1, if_neg e2]⟩)
/-- What checkStates answers: the error; if there is none, a map that holds how each line is. -/
def ChkSt (l : List PrV) (w : World) (e : Ending) (w' : World) : Prop := ∃ v, e = .returned (.tuple #[v, .int .i64 (stE l)]) ∧ w.grownBy w' none ∧ (stE l = 0 → ∃ b, v = .map (some b) ∧ w.heap.size ≤ b ∧ ∃ n, MapSI w' b n (stH l))
set_option maxHeartbeats 8000000 in
set_option maxRecDepth 100000 in
theorem checkStates_any (lo : Nat) (A : Option Addr) (n c : Nat) (l : List PrV) (w : World) (h : Prs w lo A n c l) (hn : n ≤ 1000000000) :
    Calls Tryz.prog 28 #[.slice A n c] w (ChkSt l w) := by
  have H := Lib.hid h; clear h
  by_cases hb : 500 < n
  · have HG := Lib.hid (gr_refl w none)
    have hb' : decide ((500 : Int) < (n : Int)) = true := decide_eq_true (by omega)
    have HF := Lib.hid (show stE l = 2 by unfold stE; rw [if_pos (by rw [H.out.1.len]; exact hb)])
    go_enter Tryz.func28, Tryz.ntmps28
    have HFIN := Lib.hid (show stE l = 2 by exact HF.out)
    go_wp2_with fail
    go_ret2
    exact ⟨.map none, by rw [HFIN.out]; try rfl, HG.out, fun h => by rw [HFIN.out] at h; omega⟩
  · have hb' : decide ((500 : Int) < (n : Int)) = false := decide_eq_false (by omega)
    have HF := Lib.hid (show stE l = fstE (stAt l) n by unfold stE; rw [if_neg (by rw [H.out.1.len]; exact hb), H.out.1.len])
    have hmm := @run_makeMap Tryz.prog
    go_enter Tryz.func28, Tryz.ntmps28
    have HM := Lib.hid (show MapSI (w.alloc (.map #[] 0)) w.heap.size 0 (stH (l.take 0)) from MapSI.new w)
    have HG := Lib.hid (show w.grownBy (w.alloc (.map #[] 0)) none from gr_alloc (gr_refl _ _) _)
    obtain ⟨b, hb⟩ : ∃ b, w.heap.size = b := ⟨_, rfl⟩
    have HBL := Lib.hid (show w.heap.size ≤ b by omega)
    rw [hb] at HM
    obtain ⟨w0, hw0⟩ : ∃ v, w.alloc (.map #[] 0) = v := ⟨_, rfl⟩
    rw [hw0] at HM HG
    have HW0 := Lib.hid hw0; have HB0 := Lib.hid hb
    clear hw0 hb
    go_upto_region 4 with (fail)
    clear hmm
    rw [HW0.out, HB0.out]
    clear HW0 HB0
    go_wp2_with fail

    go_loopw [6, 7, 14] (fun _ _ t wr => ∃ k : Nat, k ≤ n ∧ t = .int .i64 k ∧ w.grownBy wr none ∧ MapSI wr b k (stH (l.take k)) ∧ fstE (stAt l) k = 0) (fun _ _ t _ => n - (intOf t).toNat)
    case atStart => exact ⟨0, Nat.zero_le _, rfl, HG.out, HM.out, rfl⟩
    case round =>
      clear HG HM
      obtain ⟨k, hk, rfl, hg, hm, ha⟩ := hrel
      have HA := Lib.hid ha; have HG := Lib.hid hg; have HM := Lib.hid hm; clear ha hg hm
      by_cases hlt : k < n
      · obtain ⟨g, o, ⟨nm, vl⟩, rfl, _, hgl, hz, hc⟩ := (H.out.1.grown HG.out (fun g e => by cases e)).get PrV.row_len hlt
        obtain ⟨p1, p2⟩ := H.out.2 _ (mem_of_get hz)
        dsimp only at p1 p2
        have HZ := Lib.hid hz; have HC := Lib.hid hc; clear hz hc
        obtain ⟨w1, hw1⟩ : ∃ v, wr.alloc (.cells #[.string nm, .string vl] 148) = v := ⟨_, rfl⟩
        obtain ⟨zb, hzb⟩ : ∃ b, wr.heap.size = b := ⟨_, rfl⟩
        have HB := Lib.hid (show Blk w1 zb 148 #[.string nm, .string vl] by rw [← hw1, ← hzb]; exact Blk.new _ _ _)
        have hg1 : wr.grownBy w1 none := by rw [← hw1]; exact gr_alloc (gr_refl _ _) _
        replace HG := Lib.hid (gr_none HG.out hg1)
        replace HM := Lib.hid (HM.out.kept hg1 (by simp))
        have HW1 := Lib.hid hw1; have HZB := Lib.hid hzb
        clear hw1 hzb hg1
        go_upto_region 7 with (first
          | (refine wpl_load_at Tryz.prT rfl _ rfl _ rfl [.string nm, .string vl] rfl (fun j u hu => by rw [add_mk]; exact HC.out j u hu) ?_)
          | fail)
        rw [HW1.out]
        (try rw [HZB.out])
        clear HW1 HZB HC
        have k0 := HB.out.cell 0; have k1 := HB.out.cell 1
        go_wp2_with fail
        refine (isKey_any nm _ (by omega)).mono ?_
        rintro e w2 ⟨rfl, hg2⟩
        clear k0 k1
        replace HB := Lib.hid (HB.out.grown hg2 (by simp))
        replace HM := Lib.hid (HM.out.kept hg2 (by simp))
        replace HG := Lib.hid (gr_none HG.out hg2)
        clear hg2
        have k0 := HB.out.cell 0; have k1 := HB.out.cell 1
        obtain ⟨K1, hK1⟩ : ∃ V, keyOk (nb nm) = V := ⟨_, rfl⟩
        have HK := Lib.hid hK1
        rw [hK1]
        clear hK1
        cases K1
        · have e := stAt_5 HZ.out HK.out
          have HFIN := Lib.hid (show stE l = 5 by rw [HF.out, fstE_stop HA.out (by rw [e]; decide) hlt, e])
          go_wp2_with fail
          go_ret2
          exact ⟨.map none, by rw [HFIN.out]; try rfl, HG.out, fun h => by rw [HFIN.out] at h; omega⟩
        · rcases stV_ways vl with ⟨f1, hsv⟩ | ⟨f1, f2, hsv⟩ | ⟨f1, f2, hsv⟩
          · have HSV := Lib.hid hsv
            clear hsv
            obtain ⟨VU, hVU⟩ : ∃ V, stH (l.take k) nm = V := ⟨_, rfl⟩
            have HVU := Lib.hid hVU
            have hkn := stH_known (l := l) (i := k) (by rw [H.out.1.len]; omega) HA.out nm
            rw [hVU] at hkn
            have HKN := Lib.hid hkn
            clear hVU hkn
            by_cases u0 : VU = 0
            · have d0 : (VU != 0) = false := by simp [u0]
              have HE := Lib.hid (stAt_0 HZ.out HK.out (by rw [HSV.out]; decide) (by rw [HKN.out, u0]; rfl))
              clear u0
              go_wp2_with (first
                | (refine wpl_silook rfl _ _ rfl rfl nm rfl (by unfold maxLen; omega) (by exact HM.out) ?_; rw [HVU.out])
                | (refine wpl_siput rfl _ _ _ rfl rfl nm 1 rfl rfl (by unfold maxLen; omega) (int_wf (by omega) (by omega)) (by exact HM.out) (by unfold maxLen; omega) ?_
                   intro w8 hm8 hg8)
                | fail)
              have HM8 := Lib.hid (show MapSI w8 b (k + 1) (stH (l.take (k + 1))) from by
                have e : (fun k' : ByteArray => if nb nm = nb k' then (1 : Int) else stH (l.take k) k') = stH (l.take (k + 1)) := by
                  funext k'
                  rw [stH_succ HZ.out]
                  show _ = if nb nm = nb k' then stV (nb vl) else _
                  rw [HSV.out]
                rw [← e]; exact hm8)
              have HG8 := Lib.hid (gr_trans HG.out hg8 (fun g e => by injection e with e; subst e; exact .inr HBL.out))
              clear hm8 hg8
              go_roundw
              case rel => exact ⟨k + 1, by omega, by go_num, HG8.out, HM8.out, fstE_zero HA.out HE.out⟩
              case measure => simp [intOf]; omega
            · have d0 : (VU != 0) = true := by simpa using u0
              have e := stAt_6 HZ.out HK.out (by rw [HSV.out]; decide) (by rw [HKN.out]; exact decide_eq_true u0)
              have HFIN := Lib.hid (show stE l = 6 by rw [HF.out, fstE_stop HA.out (by rw [e]; decide) hlt, e])
              clear e u0
              go_wp2_with (first
                | (refine wpl_silook rfl _ _ rfl rfl nm rfl (by unfold maxLen; omega) (by exact HM.out) ?_; rw [HVU.out])
                | fail)
              go_ret2
              exact ⟨.map none, by rw [HFIN.out]; try rfl, HG.out, fun h => by rw [HFIN.out] at h; omega⟩
          · have HSV := Lib.hid hsv
            clear hsv
            obtain ⟨VU, hVU⟩ : ∃ V, stH (l.take k) nm = V := ⟨_, rfl⟩
            have HVU := Lib.hid hVU
            have hkn := stH_known (l := l) (i := k) (by rw [H.out.1.len]; omega) HA.out nm
            rw [hVU] at hkn
            have HKN := Lib.hid hkn
            clear hVU hkn
            by_cases u0 : VU = 0
            · have d0 : (VU != 0) = false := by simp [u0]
              have HE := Lib.hid (stAt_0 HZ.out HK.out (by rw [HSV.out]; decide) (by rw [HKN.out, u0]; rfl))
              clear u0
              go_wp2_with (first
                | (refine wpl_silook rfl _ _ rfl rfl nm rfl (by unfold maxLen; omega) (by exact HM.out) ?_; rw [HVU.out])
                | (refine wpl_siput rfl _ _ _ rfl rfl nm 2 rfl rfl (by unfold maxLen; omega) (int_wf (by omega) (by omega)) (by exact HM.out) (by unfold maxLen; omega) ?_
                   intro w8 hm8 hg8)
                | fail)
              have HM8 := Lib.hid (show MapSI w8 b (k + 1) (stH (l.take (k + 1))) from by
                have e : (fun k' : ByteArray => if nb nm = nb k' then (2 : Int) else stH (l.take k) k') = stH (l.take (k + 1)) := by
                  funext k'
                  rw [stH_succ HZ.out]
                  show _ = if nb nm = nb k' then stV (nb vl) else _
                  rw [HSV.out]
                rw [← e]; exact hm8)
              have HG8 := Lib.hid (gr_trans HG.out hg8 (fun g e => by injection e with e; subst e; exact .inr HBL.out))
              clear hm8 hg8
              go_roundw
              case rel => exact ⟨k + 1, by omega, by go_num, HG8.out, HM8.out, fstE_zero HA.out HE.out⟩
              case measure => simp [intOf]; omega
            · have d0 : (VU != 0) = true := by simpa using u0
              have e := stAt_6 HZ.out HK.out (by rw [HSV.out]; decide) (by rw [HKN.out]; exact decide_eq_true u0)
              have HFIN := Lib.hid (show stE l = 6 by rw [HF.out, fstE_stop HA.out (by rw [e]; decide) hlt, e])
              clear e u0
              go_wp2_with (first
                | (refine wpl_silook rfl _ _ rfl rfl nm rfl (by unfold maxLen; omega) (by exact HM.out) ?_; rw [HVU.out])
                | fail)
              go_ret2
              exact ⟨.map none, by rw [HFIN.out]; try rfl, HG.out, fun h => by rw [HFIN.out] at h; omega⟩
          · have e := stAt_3 HZ.out HK.out hsv
            have HFIN := Lib.hid (show stE l = 3 by rw [HF.out, fstE_stop HA.out (by rw [e]; decide) hlt, e])
            go_wp2_with fail
            go_ret2
            exact ⟨.map none, by rw [HFIN.out]; try rfl, HG.out, fun h => by rw [HFIN.out] at h; omega⟩
      · obtain rfl : k = n := by omega
        have HFIN := Lib.hid (show stE l = 0 by rw [HF.out, HA.out])
        go_wp2_with fail
        go_ret2
        exact ⟨.map (some b), by rw [HFIN.out]; try rfl, HG.out, fun _ => ⟨b, rfl, HBL.out, k, by
          have h := HM.out
          rw [List.take_of_length_le (by rw [H.out.1.len]; exact Nat.le_refl _)] at h
          exact h⟩⟩
end
end Go.Proofs.YtfakdalpaopjaaaGreatDoor

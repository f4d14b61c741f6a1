/- Contracts of account.CheckPayers and of the document's PayersFault. Conditions: none. -/
import Derived.Test.YtlkibeckfpjccaaGreatDoorTar1
import Derived.Deep.QuietTactic
import Derived.BigQuiet
namespace Go.Proofs.YtlkibeckfpjccaaGreatDoor
open Go.RowKit

theorem Tryz.pyT : StructT Tryz.prog 73 2 := ⟨_, Tryz.underlying73, rfl, by kernel_rfl⟩
theorem payAt_pe {l : List PyV} {i : Nat} {z b : PyV} (h : l[i]? = some z) (h1 : keyOk (nb z.key) = true) (hb : l[i - 1]? = some b) (h3 : leS z.key b.key = false) : payAt l i = if 500 < z.nn then 2 else fstE (numAt (hadN l i) z.nums) z.nn := by
  simp only [payAt, h, Option.elim, h1, hb, h3, Bool.and_false]; rfl
theorem payAt_pz {l : List PyV} {i : Nat} {z : PyV} (h : l[i]? = some z) (h1 : keyOk (nb z.key) = true) (hi : ¬ 0 < i) : payAt l i = if 500 < z.nn then 2 else fstE (numAt (hadN l i) z.nums) z.nn := by
  simp only [payAt, h, Option.elim, h1, decide_eq_false hi, Bool.false_and]; rfl
theorem hadN_one (l : List PyV) (i : Nat) {ns : List ByteArray} {j : Nat} {s : ByteArray} (h : ns[j]? = some s) : hadN l i ++ ns.take (j + 1) = (hadN l i ++ ns.take j) ++ [s] := by
  rw [take_snoc' h, List.append_assoc]
set_option maxHeartbeats 8000000 in
set_option maxRecDepth 100000 in
theorem checkPayers_any (lo : Nat) (A : Option Addr) (n c : Nat) (l : List PyV) (w : World) (h : Pys w lo A n c l) (hn : n ≤ 1000000000) :
    Calls Tryz.prog 77 #[.slice A n c] w (RetV (.int .i64 (pysE l)) w) := by
  have H := Lib.hid h; clear h
  by_cases hb : 500 < n
  · have HF := Lib.hid (show pysE l = 2 by unfold pysE; rw [if_pos (by rw [H.out.1.len]; exact hb)])
    have hb' : decide ((500 : Int) < (n : Int)) = true := decide_eq_true (by omega)
    go_enter Tryz.func77, Tryz.ntmps77
    go_wp2_with fail
    go_ret
    exact ⟨by rw [HF.out]; rfl, gr_refl _ _⟩
  · have hb' : decide ((500 : Int) < (n : Int)) = false := decide_eq_false (by omega)
    have HF := Lib.hid (show pysE l = fstE (payAt l) n by unfold pysE; rw [if_neg (by rw [H.out.1.len]; exact hb), H.out.1.len])
    have hmm := @run_makeMap Tryz.prog
    go_enter Tryz.func77, Tryz.ntmps77
    go_wp2_with fail
    clear hmm
    go_loopw [4, 5, 14] (fun _ _ t wr => ∃ k s m : Nat, k ≤ n ∧ t = .int .i64 k ∧ w.grownBy wr none ∧ SetS wr w.heap.size m (hadN l k) s ∧ m ≤ 500 * k ∧ fstE (payAt l) k = 0) (fun _ _ t _ => n - (intOf t).toNat)
    case atStart => exact ⟨0, 0, 0, Nat.zero_le _, rfl, gr_alloc (gr_refl _ _) _, SetS.new _, by omega, rfl⟩
    case round =>
      obtain ⟨k, s0, m, hk, rfl, hg, hset, hm, ha⟩ := hrel
      have zr := hg.size
      have zs : w.heap.size < wr.heap.size := by obtain ⟨_, h1, _⟩ := hset; exact h1.lt
      have HA := Lib.hid ha; have HG := Lib.hid hg; have HSET := Lib.hid hset; clear ha hg hset
      by_cases hlt : k < n
      · obtain ⟨g, o, ⟨key, nA, nn, nc, nums⟩, rfl, _, hgl, hz, hcc⟩ := (H.out.1.grown HG.out (fun g e => by cases e)).get PyV.row_len hlt
        obtain ⟨⟨p1, p2, p3⟩, p4⟩ := H.out.2 _ (mem_of_get hz)
        dsimp only at p1 p2 p3 p4
        have HP2 := Lib.hid p2; have HPN := Lib.hid p4; clear p2 p4
        have HZ := Lib.hid hz; have HC := Lib.hid hcc; clear hz hcc
        go_wp2_with (first
          | (refine wpl_load_at Tryz.pyT rfl _ rfl _ rfl [.string key, .slice nA nn nc] rfl (fun j u hu => by rw [add_mk]; exact HC.out j u hu) ?_)
          | fail)
        refine (isKey_any key _ (by omega)).mono ?_
        rintro e w2 ⟨rfl, hg2⟩
        have hsB := (Blk.new wr 73 #[.string key, .slice nA nn nc]).grown hg2 (by simp)
        have k0 := hsB.cell 0
        have k1 := hsB.cell 1
        replace HSET := Lib.hid ((HSET.out.kept (gr_alloc (gr_refl _ none) _) (by simp)).kept hg2 (by simp))
        replace HG := Lib.hid (gr_none (gr_alloc HG.out _) hg2)
        have HB := Lib.hid hsB
        have z2 := hg2.size; simp at z2
        clear hg2 hsB
        cases hB1 : keyOk (nb key)
        · have e := payAt_5 HZ.out hB1
          have HFIN := Lib.hid (show pysE l = 5 by rw [HF.out, fstE_stop HA.out (by rw [e]; decide) hlt, e])
          clear e
          go_wp2_with fail
          go_ret
          exact ⟨by rw [HFIN.out]; rfl, HG.out⟩
        · by_cases h0 : 0 < k
          · obtain ⟨⟨key', nA', nn', nc', nums'⟩, hb⟩ : ∃ b, l[k - 1]? = some b := ⟨_, List.getElem?_eq_getElem (by rw [H.out.1.len]; omega)⟩
            have kb := (H.out.1.grown HG.out (fun g e => by cases e)).at_ PyV.row_len hb 0 _ rfl
            simp only [Nat.add_zero] at kb
            have HBB := Lib.hid hb; clear hb
            have hi0 : decide ((0 : Int) < (k : Int)) = true := by simpa using h0
            have s2 : (0 : Int) ≤ (k : Int) - 1 := by omega
            have s5 : (1 : Int) ≤ (k : Int) := by omega
            have s3 : (k : Int) - 1 < (n : Int) := by omega
            have s6 : (0 : Int) < (n : Int) := by omega
            have s1 : IntKind.i64.wrap ((k : Int) - 1) = (k : Int) - 1 := IntWalk.i64_in _ (by omega)
            have s4 : ((k : Int) - 1).toNat = k - 1 := by omega
            cases h7 : (Op.bytesLess key.toList key'.toList || key.toList == key'.toList)
            · have HPA := Lib.hid (payAt_pe HZ.out hB1 HBB.out h7)
              go_wp2_with fail
              go_quiet (fail)
              clear s1 s4
              by_cases c5 : 500 < nn
              · have d5 : decide ((500 : Int) < (nn : Int)) = true := decide_eq_true (by omega)
                have e := HPA.out
                rw [if_pos c5] at e
                have HFIN := Lib.hid (show pysE l = 2 by rw [HF.out, fstE_stop HA.out (by rw [e]; decide) hlt, e])
                clear e
                go_wp2_with fail
                go_ret
                exact ⟨by rw [HFIN.out]; rfl, gr_drewN HG.out _⟩
              · have d5 : decide ((500 : Int) < (nn : Int)) = false := decide_eq_false (by omega)
                replace HPA := Lib.hid (show payAt l k = fstE (numAt (hadN l k) nums) nn by rw [HPA.out, if_neg c5])
                go_wp2_with fail
                clear k0 k1 HB
                have hlw : wr.heap.size ≤ w2.heap.size := by omega
                obtain ⟨wo, rfl⟩ : ∃ wo : World, wo = wr := ⟨_, rfl⟩
                go_loopw [7, 46] (fun _ t wr => ∃ j s m : Nat, j ≤ nn ∧ t = .int .i64 j ∧ w.grownBy wr none ∧ SetS wr w.heap.size m (hadN l k ++ nums.take j) s ∧ m ≤ 500 * k + j ∧ fstE (numAt (hadN l k) nums) j = 0) (fun _ t _ => nn - (intOf t).toNat)
                case atStart => exact ⟨0, _, m, Nat.zero_le _, rfl, gr_drewN HG.out _, by rw [List.take_zero, List.append_nil]; exact HSET.out.kept (gr_drewN (gr_refl _ none) _) (by simp), by omega, rfl⟩
                case round =>
                  clear HG HSET
                  obtain ⟨j, s1, m1, hj, rfl, hg, hset, hm1, ha⟩ := hrel
                  have zr1 := hg.size
                  have zs1 : w.heap.size < wr.heap.size := by obtain ⟨_, h1, _⟩ := hset; exact h1.lt
                  have HN := Lib.hid ha; have HG := Lib.hid hg; have HSET := Lib.hid hset; clear ha hg hset
                  by_cases hlt2 : j < nn
                  · obtain ⟨g2, o2, s, rfl, _, hgl2, hz, hcc⟩ := (HPN.out.grown HG.out (fun g e => by cases e)).get srow_len hlt2
                    have hsz : s.size ≤ 1000 := HP2.out _ (mem_of_get hz)
                    have ks := hcc 0 _ rfl
                    simp only [Nat.mul_one, Nat.add_zero] at ks
                    have HS := Lib.hid hz; clear hz hcc
                    go_wp2_with fail
                    refine (isNumber_any s _ (by omega)).mono ?_
                    rintro e w3 ⟨rfl, hg3⟩
                    replace HSET := Lib.hid (HSET.out.kept hg3 (by simp))
                    replace HG := Lib.hid (gr_none HG.out hg3)
                    have z3 := hg3.size
                    clear hg3 ks
                    cases hB2 : phOk (nb s)
                    · have e := numAt_3 (had := hadN l k) HS.out hB2
                      have HFIN := Lib.hid (show pysE l = 3 by rw [HF.out, fstE_stop HA.out (by rw [HPA.out, fstE_stop HN.out (by rw [e]; decide) hlt2, e]; decide) hlt, HPA.out, fstE_stop HN.out (by rw [e]; decide) hlt2, e])
                      clear e
                      go_wp2_with fail
                      go_ret
                      exact ⟨by rw [HFIN.out]; rfl, HG.out⟩
                    · obtain ⟨M, hM⟩ : ∃ M, memS (hadN l k ++ nums.take j) s = M := ⟨_, rfl⟩
                      have HM := Lib.hid hM; clear hM
                      cases M
                      · have HE := Lib.hid (numAt_z HS.out hB2 HM.out)
                        go_wp2_with (first
                          | (at_lookup; refine wpl_slook rfl _ _ rfl rfl s rfl (by unfold maxLen; omega) HSET.out ?_; rw [HM.out])
                          | (at_mapUpdate
                             refine wpl_sput rfl _ _ _ rfl rfl s rfl rfl (by unfold maxLen; omega) (by exact HSET.out) (by unfold maxLen; omega) ?_
                             intro w5 hset5 hg5
                             have HS5 := Lib.hid hset5; have HG5 := Lib.hid (gr_trans HG.out hg5 (fun g e => .inr (by injection e with e; omega)))
                             clear hset5 hg5)
                          | fail)
                        go_roundw
                        case rel => exact ⟨j + 1, _, _, by omega, by go_num, HG5.out, by rw [hadN_one l k HS.out]; exact HS5.out, by omega, fstE_zero HN.out HE.out⟩
                        case measure => simp [intOf]; omega
                      · have e := numAt_6 HS.out hB2 HM.out
                        have HFIN := Lib.hid (show pysE l = 6 by rw [HF.out, fstE_stop HA.out (by rw [HPA.out, fstE_stop HN.out (by rw [e]; decide) hlt2, e]; decide) hlt, HPA.out, fstE_stop HN.out (by rw [e]; decide) hlt2, e])
                        clear e
                        go_wp2_with (first
                          | (at_lookup; refine wpl_slook rfl _ _ rfl rfl s rfl (by unfold maxLen; omega) HSET.out ?_; rw [HM.out])
                          | fail)
                        go_ret
                        exact ⟨by rw [HFIN.out]; rfl, HG.out⟩
                  · obtain rfl : j = nn := by omega
                    have HE := Lib.hid (show payAt l k = 0 by rw [HPA.out, HN.out])
                    have HT := Lib.hid (show SetS wr w.heap.size m1 (hadN l (k + 1)) s1 by
                      rw [hadN_succ HZ.out]
                      have h := HSET.out
                      rw [List.take_of_length_le (by rw [HPN.out.len]; exact Nat.le_refl _)] at h
                      exact h)
                    go_wp2_with fail
                    go_roundw
                    case rel => exact ⟨k + 1, _, _, by omega, by go_num, HG.out, HT.out, by omega, fstE_zero HA.out HE.out⟩
                    case measure => simp [intOf]; omega
            · have e := payAt_7 HZ.out hB1 h0 HBB.out h7
              have HFIN := Lib.hid (show pysE l = 7 by rw [HF.out, fstE_stop HA.out (by rw [e]; decide) hlt, e])
              clear e
              go_wp2_with fail
              go_quiet (fail)
              go_wp2_with fail
              go_ret
              exact ⟨by rw [HFIN.out]; rfl, gr_drewN HG.out _⟩
          · have HPA := Lib.hid (payAt_pz HZ.out hB1 h0)
            have hi0 : decide ((0 : Int) < (k : Int)) = false := decide_eq_false (by omega)
            go_wp2_with fail
            go_quiet (fail)
            by_cases c5 : 500 < nn
            · have d5 : decide ((500 : Int) < (nn : Int)) = true := decide_eq_true (by omega)
              have e := HPA.out
              rw [if_pos c5] at e
              have HFIN := Lib.hid (show pysE l = 2 by rw [HF.out, fstE_stop HA.out (by rw [e]; decide) hlt, e])
              clear e
              go_wp2_with fail
              go_ret
              exact ⟨by rw [HFIN.out]; rfl, gr_drewN HG.out _⟩
            · have d5 : decide ((500 : Int) < (nn : Int)) = false := decide_eq_false (by omega)
              replace HPA := Lib.hid (show payAt l k = fstE (numAt (hadN l k) nums) nn by rw [HPA.out, if_neg c5])
              go_wp2_with fail
              clear k0 k1 HB
              have hlw : wr.heap.size ≤ w2.heap.size := by omega
              obtain ⟨wo, rfl⟩ : ∃ wo : World, wo = wr := ⟨_, rfl⟩
              go_loopw [7, 46] (fun _ t wr => ∃ j s m : Nat, j ≤ nn ∧ t = .int .i64 j ∧ w.grownBy wr none ∧ SetS wr w.heap.size m (hadN l k ++ nums.take j) s ∧ m ≤ 500 * k + j ∧ fstE (numAt (hadN l k) nums) j = 0) (fun _ t _ => nn - (intOf t).toNat)
              case atStart => exact ⟨0, _, m, Nat.zero_le _, rfl, gr_drewN HG.out _, by rw [List.take_zero, List.append_nil]; exact HSET.out.kept (gr_drewN (gr_refl _ none) _) (by simp), by omega, rfl⟩
              case round =>
                clear HG HSET
                obtain ⟨j, s1, m1, hj, rfl, hg, hset, hm1, ha⟩ := hrel
                have zr1 := hg.size
                have zs1 : w.heap.size < wr.heap.size := by obtain ⟨_, h1, _⟩ := hset; exact h1.lt
                have HN := Lib.hid ha; have HG := Lib.hid hg; have HSET := Lib.hid hset; clear ha hg hset
                by_cases hlt2 : j < nn
                · obtain ⟨g2, o2, s, rfl, _, hgl2, hz, hcc⟩ := (HPN.out.grown HG.out (fun g e => by cases e)).get srow_len hlt2
                  have hsz : s.size ≤ 1000 := HP2.out _ (mem_of_get hz)
                  have ks := hcc 0 _ rfl
                  simp only [Nat.mul_one, Nat.add_zero] at ks
                  have HS := Lib.hid hz; clear hz hcc
                  go_wp2_with fail
                  refine (isNumber_any s _ (by omega)).mono ?_
                  rintro e w3 ⟨rfl, hg3⟩
                  replace HSET := Lib.hid (HSET.out.kept hg3 (by simp))
                  replace HG := Lib.hid (gr_none HG.out hg3)
                  have z3 := hg3.size
                  clear hg3 ks
                  cases hB2 : phOk (nb s)
                  · have e := numAt_3 (had := hadN l k) HS.out hB2
                    have HFIN := Lib.hid (show pysE l = 3 by rw [HF.out, fstE_stop HA.out (by rw [HPA.out, fstE_stop HN.out (by rw [e]; decide) hlt2, e]; decide) hlt, HPA.out, fstE_stop HN.out (by rw [e]; decide) hlt2, e])
                    clear e
                    go_wp2_with fail
                    go_ret
                    exact ⟨by rw [HFIN.out]; rfl, HG.out⟩
                  · obtain ⟨M, hM⟩ : ∃ M, memS (hadN l k ++ nums.take j) s = M := ⟨_, rfl⟩
                    have HM := Lib.hid hM; clear hM
                    cases M
                    · have HE := Lib.hid (numAt_z HS.out hB2 HM.out)
                      go_wp2_with (first
                        | (at_lookup; refine wpl_slook rfl _ _ rfl rfl s rfl (by unfold maxLen; omega) HSET.out ?_; rw [HM.out])
                        | (at_mapUpdate
                           refine wpl_sput rfl _ _ _ rfl rfl s rfl rfl (by unfold maxLen; omega) (by exact HSET.out) (by unfold maxLen; omega) ?_
                           intro w5 hset5 hg5
                           have HS5 := Lib.hid hset5; have HG5 := Lib.hid (gr_trans HG.out hg5 (fun g e => .inr (by injection e with e; omega)))
                           clear hset5 hg5)
                        | fail)
                      go_roundw
                      case rel => exact ⟨j + 1, _, _, by omega, by go_num, HG5.out, by rw [hadN_one l k HS.out]; exact HS5.out, by omega, fstE_zero HN.out HE.out⟩
                      case measure => simp [intOf]; omega
                    · have e := numAt_6 HS.out hB2 HM.out
                      have HFIN := Lib.hid (show pysE l = 6 by rw [HF.out, fstE_stop HA.out (by rw [HPA.out, fstE_stop HN.out (by rw [e]; decide) hlt2, e]; decide) hlt, HPA.out, fstE_stop HN.out (by rw [e]; decide) hlt2, e])
                      clear e
                      go_wp2_with (first
                        | (at_lookup; refine wpl_slook rfl _ _ rfl rfl s rfl (by unfold maxLen; omega) HSET.out ?_; rw [HM.out])
                        | fail)
                      go_ret
                      exact ⟨by rw [HFIN.out]; rfl, HG.out⟩
                · obtain rfl : j = nn := by omega
                  have HE := Lib.hid (show payAt l k = 0 by rw [HPA.out, HN.out])
                  have HT := Lib.hid (show SetS wr w.heap.size m1 (hadN l (k + 1)) s1 by
                    rw [hadN_succ HZ.out]
                    have h := HSET.out
                    rw [List.take_of_length_le (by rw [HPN.out.len]; exact Nat.le_refl _)] at h
                    exact h)
                  go_wp2_with fail
                  go_roundw
                  case rel => exact ⟨k + 1, _, _, by omega, by go_num, HG.out, HT.out, by omega, fstE_zero HA.out HE.out⟩
                  case measure => simp [intOf]; omega
      · obtain rfl : k = n := by omega
        go_wp2_with fail
        go_ret
        exact ⟨by rw [HF.out, HA.out]; rfl, HG.out⟩
set_option maxHeartbeats 8000000 in
set_option maxRecDepth 100000 in
theorem payersFault_any (lo : Nat) (A : Option Addr) (n c : Nat) (l : List PyV) (w : World) (h : Pys w lo A n c l) (hn : n ≤ 1000000000) :
    Calls Tryz.prog 13 #[.slice A n c] w (RetV (.int .i64 (pysE l)) w) := by
  have H := Lib.hid h; clear h
  by_cases hb : 500 < n
  · have HF := Lib.hid (show pysE l = 2 by unfold pysE; rw [if_pos (by rw [H.out.1.len]; exact hb)])
    have hb' : decide ((500 : Int) < (n : Int)) = true := decide_eq_true (by omega)
    go_enter Tryz.func13, Tryz.ntmps13
    go_wp2_with fail
    go_ret
    exact ⟨by rw [HF.out]; rfl, gr_refl _ _⟩
  · have hb' : decide ((500 : Int) < (n : Int)) = false := decide_eq_false (by omega)
    have HF := Lib.hid (show pysE l = fstE (payAt l) n by unfold pysE; rw [if_neg (by rw [H.out.1.len]; exact hb), H.out.1.len])
    have hmm := @run_makeMap Tryz.prog
    go_enter Tryz.func13, Tryz.ntmps13
    go_wp2_with fail
    clear hmm
    go_loopw [4, 6, 15] (fun v _ t wr => ∃ k s m : Nat, k ≤ n ∧ t = .int .i64 k ∧ w.grownBy wr none ∧ SetS wr w.heap.size m (hadN l k) s ∧ m ≤ 500 * k ∧ fstE (payAt l) k = 0 ∧ v = .string (lastP l k)) (fun _ _ t _ => n - (intOf t).toNat)
    case atStart => exact ⟨0, 0, 0, Nat.zero_le _, rfl, gr_alloc (gr_refl _ _) _, SetS.new _, by omega, rfl, rfl⟩
    case round =>
      obtain ⟨k, s0, m, hk, rfl, hg, hset, hm, ha, rfl⟩ := hrel
      have zr := hg.size
      have zs : w.heap.size < wr.heap.size := by obtain ⟨_, h1, _⟩ := hset; exact h1.lt
      have HA := Lib.hid ha; have HG := Lib.hid hg; have HSET := Lib.hid hset; clear ha hg hset
      by_cases hlt : k < n
      · obtain ⟨g, o, ⟨key, nA, nn, nc, nums⟩, rfl, _, hgl, hz, hcc⟩ := (H.out.1.grown HG.out (fun g e => by cases e)).get PyV.row_len hlt
        obtain ⟨⟨p1, p2, p3⟩, p4⟩ := H.out.2 _ (mem_of_get hz)
        dsimp only at p1 p2 p3 p4
        have HP2 := Lib.hid p2; have HPN := Lib.hid p4; clear p2 p4
        have HZ := Lib.hid hz; have HC := Lib.hid hcc; clear hz hcc
        go_wp2_with (first
          | (refine wpl_load_at Tryz.pyT rfl _ rfl _ rfl [.string key, .slice nA nn nc] rfl (fun j u hu => by rw [add_mk]; exact HC.out j u hu) ?_)
          | fail)
        refine (keyRefR_any key _ (by omega)).mono ?_
        rintro e w2 ⟨rfl, hg2⟩
        have hsB := (Blk.new wr 73 #[.string key, .slice nA nn nc]).grown hg2 (by simp)
        have k0 := hsB.cell 0
        have k1 := hsB.cell 1
        replace HSET := Lib.hid ((HSET.out.kept (gr_alloc (gr_refl _ none) _) (by simp)).kept hg2 (by simp))
        replace HG := Lib.hid (gr_none (gr_alloc HG.out _) hg2)
        have HB := Lib.hid hsB
        have z2 := hg2.size; simp at z2
        clear hg2 hsB
        cases hB1 : keyOk (nb key)
        · have e := payAt_5 HZ.out hB1
          have HFIN := Lib.hid (show pysE l = 5 by rw [HF.out, fstE_stop HA.out (by rw [e]; decide) hlt, e])
          clear e
          go_wp2_with fail
          go_ret
          exact ⟨by rw [HFIN.out]; rfl, HG.out⟩
        · obtain ⟨lk, hlk⟩ : ∃ lk, lastP l k = lk := ⟨_, rfl⟩
          rw [hlk]
          have HLK := Lib.hid hlk; clear hlk
          cases h7 : (Op.bytesLess key.toList lk.toList || key.toList == lk.toList)
          · have HPA := Lib.hid (payAt_le HZ.out hB1 (by rw [HLK.out]; exact h7))
            by_cases c5 : 500 < nn
            · have d5 : decide ((500 : Int) < (nn : Int)) = true := decide_eq_true (by omega)
              have e := HPA.out
              rw [if_pos c5] at e
              have HFIN := Lib.hid (show pysE l = 2 by rw [HF.out, fstE_stop HA.out (by rw [e]; decide) hlt, e])
              clear e
              go_wp2_with fail
              go_ret
              exact ⟨by rw [HFIN.out]; rfl, HG.out⟩
            · have d5 : decide ((500 : Int) < (nn : Int)) = false := decide_eq_false (by omega)
              replace HPA := Lib.hid (show payAt l k = fstE (numAt (hadN l k) nums) nn by rw [HPA.out, if_neg c5])
              go_wp2_with fail
              clear k0 k1 HB
              have hlw : wr.heap.size ≤ w2.heap.size := by omega
              obtain ⟨wo, rfl⟩ : ∃ wo : World, wo = wr := ⟨_, rfl⟩
              go_loopw [8, 39] (fun _ t wr => ∃ j s m : Nat, j ≤ nn ∧ t = .int .i64 j ∧ w.grownBy wr none ∧ SetS wr w.heap.size m (hadN l k ++ nums.take j) s ∧ m ≤ 500 * k + j ∧ fstE (numAt (hadN l k) nums) j = 0) (fun _ t _ => nn - (intOf t).toNat)
              case atStart => exact ⟨0, _, m, Nat.zero_le _, rfl, HG.out, by rw [List.take_zero, List.append_nil]; exact HSET.out, by omega, rfl⟩
              case round =>
                clear HG HSET
                obtain ⟨j, s1, m1, hj, rfl, hg, hset, hm1, ha⟩ := hrel
                have zr1 := hg.size
                have zs1 : w.heap.size < wr.heap.size := by obtain ⟨_, h1, _⟩ := hset; exact h1.lt
                have HN := Lib.hid ha; have HG := Lib.hid hg; have HSET := Lib.hid hset; clear ha hg hset
                by_cases hlt2 : j < nn
                · obtain ⟨g2, o2, s, rfl, _, hgl2, hz, hcc⟩ := (HPN.out.grown HG.out (fun g e => by cases e)).get srow_len hlt2
                  have hsz : s.size ≤ 1000 := HP2.out _ (mem_of_get hz)
                  have ks := hcc 0 _ rfl
                  simp only [Nat.mul_one, Nat.add_zero] at ks
                  have HS := Lib.hid hz; clear hz hcc
                  go_wp2_with fail
                  refine (phoneNumber_any s _ (by omega)).mono ?_
                  rintro e w3 ⟨rfl, hg3⟩
                  replace HSET := Lib.hid (HSET.out.kept hg3 (by simp))
                  replace HG := Lib.hid (gr_none HG.out hg3)
                  have z3 := hg3.size
                  clear hg3 ks
                  cases hB2 : phOk (nb s)
                  · have e := numAt_3 (had := hadN l k) HS.out hB2
                    have HFIN := Lib.hid (show pysE l = 3 by rw [HF.out, fstE_stop HA.out (by rw [HPA.out, fstE_stop HN.out (by rw [e]; decide) hlt2, e]; decide) hlt, HPA.out, fstE_stop HN.out (by rw [e]; decide) hlt2, e])
                    clear e
                    go_wp2_with fail
                    go_ret
                    exact ⟨by rw [HFIN.out]; rfl, HG.out⟩
                  · obtain ⟨M, hM⟩ : ∃ M, memS (hadN l k ++ nums.take j) s = M := ⟨_, rfl⟩
                    have HM := Lib.hid hM; clear hM
                    cases M
                    · have HE := Lib.hid (numAt_z HS.out hB2 HM.out)
                      go_wp2_with (first
                        | (at_lookup; refine wpl_slook rfl _ _ rfl rfl s rfl (by unfold maxLen; omega) HSET.out ?_; rw [HM.out])
                        | (at_mapUpdate
                           refine wpl_sput rfl _ _ _ rfl rfl s rfl rfl (by unfold maxLen; omega) (by exact HSET.out) (by unfold maxLen; omega) ?_
                           intro w5 hset5 hg5
                           have HS5 := Lib.hid hset5; have HG5 := Lib.hid (gr_trans HG.out hg5 (fun g e => .inr (by injection e with e; omega)))
                           clear hset5 hg5)
                        | fail)
                      go_roundw
                      case rel => exact ⟨j + 1, _, _, by omega, by go_num, HG5.out, by rw [hadN_one l k HS.out]; exact HS5.out, by omega, fstE_zero HN.out HE.out⟩
                      case measure => simp [intOf]; omega
                    · have e := numAt_6 HS.out hB2 HM.out
                      have HFIN := Lib.hid (show pysE l = 6 by rw [HF.out, fstE_stop HA.out (by rw [HPA.out, fstE_stop HN.out (by rw [e]; decide) hlt2, e]; decide) hlt, HPA.out, fstE_stop HN.out (by rw [e]; decide) hlt2, e])
                      clear e
                      go_wp2_with (first
                        | (at_lookup; refine wpl_slook rfl _ _ rfl rfl s rfl (by unfold maxLen; omega) HSET.out ?_; rw [HM.out])
                        | fail)
                      go_ret
                      exact ⟨by rw [HFIN.out]; rfl, HG.out⟩
                · obtain rfl : j = nn := by omega
                  have HE := Lib.hid (show payAt l k = 0 by rw [HPA.out, HN.out])
                  have HT := Lib.hid (show SetS wr w.heap.size m1 (hadN l (k + 1)) s1 by
                    rw [hadN_succ HZ.out]
                    have h := HSET.out
                    rw [List.take_of_length_le (by rw [HPN.out.len]; exact Nat.le_refl _)] at h
                    exact h)
                  go_wp2_with fail
                  go_roundw
                  case rel => exact ⟨k + 1, _, _, by omega, by go_num, HG.out, HT.out, by omega, fstE_zero HA.out HE.out, (lastP_succ HZ.out).symm ▸ rfl⟩
                  case measure => simp [intOf]; omega
          · have e := payAt_l7 HZ.out hB1 (by rw [HLK.out]; exact h7)
            have HFIN := Lib.hid (show pysE l = 7 by rw [HF.out, fstE_stop HA.out (by rw [e]; decide) hlt, e])
            clear e
            go_wp2_with fail
            go_ret
            exact ⟨by rw [HFIN.out]; rfl, HG.out⟩
      · obtain rfl : k = n := by omega
        go_wp2_with fail
        go_ret
        exact ⟨by rw [HF.out, HA.out]; rfl, HG.out⟩
end Go.Proofs.YtlkibeckfpjccaaGreatDoor

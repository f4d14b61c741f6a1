/- Contracts of checkStates and of the document's StatesFault. Conditions: none. -/
import Derived.Test.YtpjheibkacbbcaaGreatDoorBun8
import Derived.Test.YtpjheibkacbbcaaGreatDoorBun2
import Derived.Test.YtpjheibkacbbcaaGreatDoorBun6
import Derived.Test.YtpjheibkacbbcaaGreatDoorBun1
import Derived.Test.YtpjheibkacbbcaaGreatDoorPlan1
namespace Go.Proofs.YtpjheibkacbbcaaGreatDoor
open Go.RowKit

theorem Tryz.prT : StructT Tryz.prog 186 2 := ⟨_, Tryz.underlying186, rfl, by kernel_rfl⟩
theorem tl_iff {s : ByteArray} {l : List UInt8} {m : List Nat} (h : l.map UInt8.toNat = m) : s.toList = l ↔ nb s = m := by
  subst h
  unfold nb
  rw [ByteArray.toList_eq]
  constructor
  · intro h; rw [h]
  · intro h
    exact (List.map_inj_right (fun a b h => UInt8.toNat_inj.1 h)).1 h
/-- The ways of a state's value. -/
theorem stV_ways (s : ByteArray) : ((s.toList == [98, 117, 115, 121]) = true ∧ stV (nb s) = 1) ∨ ((s.toList == [98, 117, 115, 121]) = false ∧ (s.toList == [115, 105, 108, 101, 110, 116]) = true ∧ stV (nb s) = 2) ∨ ((s.toList == [98, 117, 115, 121]) = false ∧ (s.toList == [115, 105, 108, 101, 110, 116]) = false ∧ stV (nb s) = 0) := by
  have h1 := tl_iff (s := s) (l := [98, 117, 115, 121]) (m := bsy) rfl
  have h2 := tl_iff (s := s) (l := [115, 105, 108, 101, 110, 116]) (m := sil) rfl
  unfold stV
  by_cases e1 : nb s = bsy
  · exact .inl ⟨by rw [beq_iff_eq]; exact h1.2 e1, if_pos e1⟩
  · have f1 : (s.toList == [98, 117, 115, 121]) = false := by rw [beq_eq_false_iff_ne]; exact fun h => e1 (h1.1 h)
    by_cases e2 : nb s = sil
    · exact .inr (.inl ⟨f1, by rw [beq_iff_eq]; exact h2.2 e2, by rw [if_neg e1, if_pos e2]⟩)
    · exact .inr (.inr ⟨f1, by rw [beq_eq_false_iff_ne]; exact fun h => e2 (h2.1 h), by rw [if_neg e1, if_neg e2]⟩)
/-- What checkStates answers: the error; if there is none, a map that holds how each line is. -/
def ChkSt (l : List PrV) (w : World) (e : Ending) (w' : World) : Prop := ∃ v, e = .returned (.tuple #[v, .int .i64 (stE l)]) ∧ w.grownBy w' none ∧ (stE l = 0 → ∃ b, v = .map (some b) ∧ w.heap.size ≤ b ∧ ∃ n, MapSI w' b n (stH l))
set_option maxHeartbeats 8000000 in
set_option maxRecDepth 100000 in
theorem checkStates_any (lo : Nat) (A : Option Addr) (n c : Nat) (l : List PrV) (w : World) (h : Prs w lo A n c l) (hn : n ≤ 1000000000) :
    Calls Tryz.prog 52 #[.slice A n c] w (ChkSt l w) := by
  have H := Lib.hid h; clear h
  by_cases hb : 500 < n
  · have HG := Lib.hid (gr_refl w none)
    have hb' : decide ((500 : Int) < (n : Int)) = true := decide_eq_true (by omega)
    have HF := Lib.hid (show stE l = 2 by unfold stE; rw [if_pos (by rw [H.out.1.len]; exact hb)])
    go_enter Tryz.func52, Tryz.ntmps52
    have HFIN := Lib.hid (show stE l = 2 by exact HF.out)
    go_wp2_with fail
    go_ret2
    exact ⟨.map none, by rw [HFIN.out]; try rfl, HG.out, fun h => by rw [HFIN.out] at h; omega⟩
  · have hb' : decide ((500 : Int) < (n : Int)) = false := decide_eq_false (by omega)
    have HF := Lib.hid (show stE l = fstE (stAt l) n by unfold stE; rw [if_neg (by rw [H.out.1.len]; exact hb), H.out.1.len])
    have hmm := @run_makeMap Tryz.prog
    go_enter Tryz.func52, Tryz.ntmps52
    have HM := Lib.hid (show MapSI (w.alloc (.map #[] 0)) w.heap.size 0 (stH (l.take 0)) from MapSI.new w)
    have HG := Lib.hid (show w.grownBy (w.alloc (.map #[] 0)) none from gr_alloc (gr_refl _ _) _)
    obtain ⟨b, hb⟩ : ∃ b, w.heap.size = b := ⟨_, rfl⟩
    have HBL := Lib.hid (show w.heap.size ≤ b by omega)
    rw [hb] at HM
    obtain ⟨w0, hw0⟩ : ∃ v, w.alloc (.map #[] 0) = v := ⟨_, rfl⟩
    rw [hw0] at HM HG
    have HW0 := Lib.hid hw0; have HB0 := Lib.hid hb
    clear hw0 hb
    go_upto_region 4 with (fail)
    clear hmm
    rw [HW0.out, HB0.out]
    clear HW0 HB0
    go_wp2_with fail

    go_loopw [6, 7, 14] (fun _ _ t wr => ∃ k : Nat, k ≤ n ∧ t = .int .i64 k ∧ w.grownBy wr none ∧ MapSI wr b k (stH (l.take k)) ∧ fstE (stAt l) k = 0) (fun _ _ t _ => n - (intOf t).toNat)
    case atStart => exact ⟨0, Nat.zero_le _, rfl, HG.out, HM.out, rfl⟩
    case round =>
      clear HG HM
      obtain ⟨k, hk, rfl, hg, hm, ha⟩ := hrel
      have HA := Lib.hid ha; have HG := Lib.hid hg; have HM := Lib.hid hm; clear ha hg hm
      by_cases hlt : k < n
      · obtain ⟨g, o, ⟨nm, vl⟩, rfl, _, hgl, hz, hc⟩ := (H.out.1.grown HG.out (fun g e => by cases e)).get PrV.row_len hlt
        obtain ⟨p1, p2⟩ := H.out.2 _ (mem_of_get hz)
        dsimp only at p1 p2
        have HZ := Lib.hid hz; have HC := Lib.hid hc; clear hz hc
        obtain ⟨w1, hw1⟩ : ∃ v, wr.alloc (.cells #[.string nm, .string vl] 186) = v := ⟨_, rfl⟩
        obtain ⟨zb, hzb⟩ : ∃ b, wr.heap.size = b := ⟨_, rfl⟩
        have HB := Lib.hid (show Blk w1 zb 186 #[.string nm, .string vl] by rw [← hw1, ← hzb]; exact Blk.new _ _ _)
        have hg1 : wr.grownBy w1 none := by rw [← hw1]; exact gr_alloc (gr_refl _ _) _
        replace HG := Lib.hid (gr_none HG.out hg1)
        replace HM := Lib.hid (HM.out.kept hg1 (by simp))
        have HW1 := Lib.hid hw1; have HZB := Lib.hid hzb
        clear hw1 hzb hg1
        go_upto_region 7 with (first
          | (refine wpl_load_at Tryz.prT rfl _ rfl _ rfl [.string nm, .string vl] rfl (fun j u hu => by rw [add_mk]; exact HC.out j u hu) ?_)
          | fail)
        rw [HW1.out]
        (try rw [HZB.out])
        clear HW1 HZB HC
        have k0 := HB.out.cell 0; have k1 := HB.out.cell 1
        go_wp2_with fail
        refine (isKey_any nm _ (by omega)).mono ?_
        rintro e w2 ⟨rfl, hg2⟩
        clear k0 k1
        replace HB := Lib.hid (HB.out.grown hg2 (by simp))
        replace HM := Lib.hid (HM.out.kept hg2 (by simp))
        replace HG := Lib.hid (gr_none HG.out hg2)
        clear hg2
        have k0 := HB.out.cell 0; have k1 := HB.out.cell 1
        obtain ⟨K1, hK1⟩ : ∃ V, keyOk (nb nm) = V := ⟨_, rfl⟩
        have HK := Lib.hid hK1
        rw [hK1]
        clear hK1
        cases K1
        · have e := stAt_5 HZ.out HK.out
          have HFIN := Lib.hid (show stE l = 5 by rw [HF.out, fstE_stop HA.out (by rw [e]; decide) hlt, e])
          go_wp2_with fail
          go_ret2
          exact ⟨.map none, by rw [HFIN.out]; try rfl, HG.out, fun h => by rw [HFIN.out] at h; omega⟩
        · rcases stV_ways vl with ⟨f1, hsv⟩ | ⟨f1, f2, hsv⟩ | ⟨f1, f2, hsv⟩
          · have HSV := Lib.hid hsv
            clear hsv
            obtain ⟨VU, hVU⟩ : ∃ V, stH (l.take k) nm = V := ⟨_, rfl⟩
            have HVU := Lib.hid hVU
            have hkn := stH_known (l := l) (i := k) (by rw [H.out.1.len]; omega) HA.out nm
            rw [hVU] at hkn
            have HKN := Lib.hid hkn
            clear hVU hkn
            by_cases u0 : VU = 0
            · have d0 : (VU != 0) = false := by simp [u0]
              have HE := Lib.hid (stAt_0 HZ.out HK.out (by rw [HSV.out]; decide) (by rw [HKN.out, u0]; rfl))
              clear u0
              go_wp2_with (first
                | (refine wpl_silook rfl _ _ rfl rfl nm rfl (by unfold maxLen; omega) (by exact HM.out) ?_; rw [HVU.out])
                | (refine wpl_siput rfl _ _ _ rfl rfl nm 1 rfl rfl (by unfold maxLen; omega) (int_wf (by omega) (by omega)) (by exact HM.out) (by unfold maxLen; omega) ?_
                   intro w8 hm8 hg8)
                | fail)
              have HM8 := Lib.hid (show MapSI w8 b (k + 1) (stH (l.take (k + 1))) from by
                have e : (fun k' : ByteArray => if nb nm = nb k' then (1 : Int) else stH (l.take k) k') = stH (l.take (k + 1)) := by
                  funext k'
                  rw [stH_succ HZ.out]
                  show _ = if nb nm = nb k' then stV (nb vl) else _
                  rw [HSV.out]
                rw [← e]; exact hm8)
              have HG8 := Lib.hid (gr_trans HG.out hg8 (fun g e => by injection e with e; subst e; exact .inr HBL.out))
              clear hm8 hg8
              go_roundw
              case rel => exact ⟨k + 1, by omega, by go_num, HG8.out, HM8.out, fstE_zero HA.out HE.out⟩
              case measure => simp [intOf]; omega
            · have d0 : (VU != 0) = true := by simpa using u0
              have e := stAt_6 HZ.out HK.out (by rw [HSV.out]; decide) (by rw [HKN.out]; exact decide_eq_true u0)
              have HFIN := Lib.hid (show stE l = 6 by rw [HF.out, fstE_stop HA.out (by rw [e]; decide) hlt, e])
              clear e u0
              go_wp2_with (first
                | (refine wpl_silook rfl _ _ rfl rfl nm rfl (by unfold maxLen; omega) (by exact HM.out) ?_; rw [HVU.out])
                | fail)
              go_ret2
              exact ⟨.map none, by rw [HFIN.out]; try rfl, HG.out, fun h => by rw [HFIN.out] at h; omega⟩
          · have HSV := Lib.hid hsv
            clear hsv
            obtain ⟨VU, hVU⟩ : ∃ V, stH (l.take k) nm = V := ⟨_, rfl⟩
            have HVU := Lib.hid hVU
            have hkn := stH_known (l := l) (i := k) (by rw [H.out.1.len]; omega) HA.out nm
            rw [hVU] at hkn
            have HKN := Lib.hid hkn
            clear hVU hkn
            by_cases u0 : VU = 0
            · have d0 : (VU != 0) = false := by simp [u0]
              have HE := Lib.hid (stAt_0 HZ.out HK.out (by rw [HSV.out]; decide) (by rw [HKN.out, u0]; rfl))
              clear u0
              go_wp2_with (first
                | (refine wpl_silook rfl _ _ rfl rfl nm rfl (by unfold maxLen; omega) (by exact HM.out) ?_; rw [HVU.out])
                | (refine wpl_siput rfl _ _ _ rfl rfl nm 2 rfl rfl (by unfold maxLen; omega) (int_wf (by omega) (by omega)) (by exact HM.out) (by unfold maxLen; omega) ?_
                   intro w8 hm8 hg8)
                | fail)
              have HM8 := Lib.hid (show MapSI w8 b (k + 1) (stH (l.take (k + 1))) from by
                have e : (fun k' : ByteArray => if nb nm = nb k' then (2 : Int) else stH (l.take k) k') = stH (l.take (k + 1)) := by
                  funext k'
                  rw [stH_succ HZ.out]
                  show _ = if nb nm = nb k' then stV (nb vl) else _
                  rw [HSV.out]
                rw [← e]; exact hm8)
              have HG8 := Lib.hid (gr_trans HG.out hg8 (fun g e => by injection e with e; subst e; exact .inr HBL.out))
              clear hm8 hg8
              go_roundw
              case rel => exact ⟨k + 1, by omega, by go_num, HG8.out, HM8.out, fstE_zero HA.out HE.out⟩
              case measure => simp [intOf]; omega
            · have d0 : (VU != 0) = true := by simpa using u0
              have e := stAt_6 HZ.out HK.out (by rw [HSV.out]; decide) (by rw [HKN.out]; exact decide_eq_true u0)
              have HFIN := Lib.hid (show stE l = 6 by rw [HF.out, fstE_stop HA.out (by rw [e]; decide) hlt, e])
              clear e u0
              go_wp2_with (first
                | (refine wpl_silook rfl _ _ rfl rfl nm rfl (by unfold maxLen; omega) (by exact HM.out) ?_; rw [HVU.out])
                | fail)
              go_ret2
              exact ⟨.map none, by rw [HFIN.out]; try rfl, HG.out, fun h => by rw [HFIN.out] at h; omega⟩
          · have e := stAt_3 HZ.out HK.out hsv
            have HFIN := Lib.hid (show stE l = 3 by rw [HF.out, fstE_stop HA.out (by rw [e]; decide) hlt, e])
            go_wp2_with fail
            go_ret2
            exact ⟨.map none, by rw [HFIN.out]; try rfl, HG.out, fun h => by rw [HFIN.out] at h; omega⟩
      · obtain rfl : k = n := by omega
        have HFIN := Lib.hid (show stE l = 0 by rw [HF.out, HA.out])
        go_wp2_with fail
        go_ret2
        exact ⟨.map (some b), by rw [HFIN.out]; try rfl, HG.out, fun _ => ⟨b, rfl, HBL.out, k, by
          have h := HM.out
          rw [List.take_of_length_le (by rw [H.out.1.len]; exact Nat.le_refl _)] at h
          exact h⟩⟩
set_option maxHeartbeats 1000000 in
theorem sameN_any (x : PrV) (t u : ByteArray) (cb : Nat) (w : World) (hb : Blk w cb 186 #[.string t, .string u]) :
    Calls Tryz.prog 116 #[.agg #[.string x.nam, .string x.val], .pointer (some ⟨cb, 0, none⟩)] w (RetV (.bool (nb x.nam == nb t)) w) := by
  have hlt := hb.lt
  have kc : (w.alloc (.cells #[.string x.nam, .string x.val] 186)).cell? ⟨cb, 0, none⟩ = some (.string t) := (hb.alloc _).cell 0
  have HE := Lib.hid (eqS_nb x.nam t)
  clear hb
  go_enter Tryz.func116, Tryz.ntmps116
  go_wp2_with fail
  go_ret
  exact ⟨by rw [← HE.out]; try rfl, gr_alloc (gr_refl _ _) _⟩
set_option maxHeartbeats 4000000 in
theorem sameNIdx_any (lo : Nat) (A : Option Addr) (n c : Nat) (l : List PrV) (t u : ByteArray) (cb : Nat) (w : World) (h : Recs PrV.row 2 w lo A n c l) (hn : n ≤ 1000000000000) (h_B : Blk w cb 186 #[.string t, .string u]) :
    Calls Tryz.prog 181 #[.slice A n c, .func (.func 116) #[] #[.pointer (some ⟨cb, 0, none⟩)]] w (RetV (.int .i64 (idxP (fun o : PrV => nb o.nam == nb t) l)) w) := by
  have H := Lib.hid h; have HB := Lib.hid h_B; clear h h_B
  go_enter Tryz.func181, Tryz.ntmps181
  go_wp2_with fail
  go_loopw [5, 8] (fun _ t' wr => ∃ i : Nat, i ≤ n ∧ t' = .int .i64 i ∧ w.grownBy wr none ∧ (l.take i).all (fun x => !((fun o : PrV => nb o.nam == nb t) x)) = true) (fun _ t' _ => n - (intOf t').toNat)
  case atStart => exact ⟨0, Nat.zero_le _, rfl, gr_refl _ _, by simp⟩
  case round =>
    obtain ⟨i, hi, rfl, hg, ha⟩ := hrel
    have HA := Lib.hid ha; have HG := Lib.hid hg; clear ha hg
    by_cases hlt : i < n
    · obtain ⟨g, o, b, rfl, _, hgl, hz, hc⟩ := (H.out.grown HG.out (fun g e => by cases e)).get PrV.row_len hlt
      have HZ := Lib.hid hz; have HC := Lib.hid hc; clear hz hc
      obtain ⟨B, hB⟩ : ∃ B, (fun o : PrV => nb o.nam == nb t) b = B := ⟨_, rfl⟩
      have HE := Lib.hid hB; clear hB
      cases B
      all_goals
        go_wp2_with (first
          | (refine wpl_load_at Tryz.prT rfl _ rfl _ rfl [.string b.nam, .string b.val] rfl (fun j u hu => by rw [add_mk]; exact HC.out j u hu) ?_)
          | (go_at_call 116; refine (sameN_any b t u cb _ (HB.out.grown HG.out (by simp))).mono ?_; rintro e w2 ⟨rfl, hg2⟩; have he := HE.out; (try dsimp only at he); rw [he]; clear he; have HG2 := Lib.hid (gr_none HG.out hg2); clear hg2)
          | fail)
      · go_roundw
        case rel => exact ⟨i + 1, by omega, by go_num, HG2.out, allP_succ (p := (fun o : PrV => nb o.nam == nb t)) HA.out HZ.out HE.out⟩
        case measure => simp [intOf]; omega
      · go_ret
        exact ⟨by rw [idxP_some (p := (fun o : PrV => nb o.nam == nb t)) HA.out HZ.out HE.out]; rfl, HG2.out⟩
    · obtain rfl : i = n := by omega
      go_wp2_with fail
      go_ret
      have h := HA.out
      rw [List.take_of_length_le (by rw [H.out.len]; exact Nat.le_refl _)] at h
      exact ⟨by rw [idxP_none (p := (fun o : PrV => nb o.nam == nb t)) h]; rfl, HG.out⟩
set_option maxHeartbeats 4000000 in
theorem sameNHas_any (lo : Nat) (A : Option Addr) (n c : Nat) (l : List PrV) (t u : ByteArray) (cb : Nat) (w : World) (h : Recs PrV.row 2 w lo A n c l) (hn : n ≤ 1000000000000) (h_B : Blk w cb 186 #[.string t, .string u]) :
    Calls Tryz.prog 115 #[.slice A n c, .func (.func 116) #[] #[.pointer (some ⟨cb, 0, none⟩)]] w (RetV (.bool (l.any (fun o : PrV => nb o.nam == nb t))) w) := by
  have H := Lib.hid h; have HB := Lib.hid h_B; clear h h_B
  have HI := Lib.hid (idxP_any (p := (fun o : PrV => nb o.nam == nb t)) (l := l))
  obtain ⟨I, hI⟩ : ∃ I, idxP (fun o : PrV => nb o.nam == nb t) l = I := ⟨_, rfl⟩
  rw [hI] at HI
  have HI2 := Lib.hid hI; clear hI
  go_enter Tryz.func115, Tryz.ntmps115
  go_wp2_with (first
    | (go_at_call 181; refine (sameNIdx_any lo _ _ _ l t u cb _ H.out hn HB.out).mono ?_; rintro e w2 ⟨rfl, hg2⟩; rw [HI2.out]; have HG2 := Lib.hid hg2; clear hg2)
    | fail)
  go_ret
  exact ⟨by rw [← HI.out]; rfl, HG2.out⟩
set_option maxHeartbeats 8000000 in
set_option maxRecDepth 100000 in
theorem statesFault_any (lo : Nat) (A : Option Addr) (n c : Nat) (l : List PrV) (w : World) (h : Prs w lo A n c l) (hn : n ≤ 1000000000) :
    Calls Tryz.prog 40 #[.slice A n c] w (RetV (.int .i64 (stE l)) w) := by
  have H := Lib.hid h; clear h
  by_cases hb : 500 < n
  · have HG := Lib.hid (gr_refl w none)
    have hb' : decide ((500 : Int) < (n : Int)) = true := decide_eq_true (by omega)
    have HF := Lib.hid (show stE l = 2 by unfold stE; rw [if_pos (by rw [H.out.1.len]; exact hb)])
    go_enter Tryz.func40, Tryz.ntmps40
    have HFIN := Lib.hid (show stE l = 2 by exact HF.out)
    go_wp2_with fail
    go_ret
    exact ⟨by rw [HFIN.out]; try rfl, HG.out⟩
  · have hb' : decide ((500 : Int) < (n : Int)) = false := decide_eq_false (by omega)
    have HF := Lib.hid (show stE l = fstE (stAt l) n by unfold stE; rw [if_neg (by rw [H.out.1.len]; exact hb), H.out.1.len])
    
    go_enter Tryz.func40, Tryz.ntmps40
    have HG := Lib.hid (gr_refl w none)
    go_wp2_with fail

    go_loopw [3, 4, 10] (fun _ _ t wr => ∃ k : Nat, k ≤ n ∧ t = .int .i64 k ∧ w.grownBy wr none ∧ fstE (stAt l) k = 0) (fun _ _ t _ => n - (intOf t).toNat)
    case atStart => exact ⟨0, Nat.zero_le _, rfl, HG.out, rfl⟩
    case round =>
      clear HG
      obtain ⟨k, hk, rfl, hg, ha⟩ := hrel
      have HA := Lib.hid ha; have HG := Lib.hid hg; clear ha hg
      by_cases hlt : k < n
      · obtain ⟨g, o, ⟨nm, vl⟩, rfl, _, hgl, hz, hc⟩ := (H.out.1.grown HG.out (fun g e => by cases e)).get PrV.row_len hlt
        obtain ⟨p1, p2⟩ := H.out.2 _ (mem_of_get hz)
        dsimp only at p1 p2
        have HZ := Lib.hid hz; have HC := Lib.hid hc; clear hz hc
        obtain ⟨w1, hw1⟩ : ∃ v, wr.alloc (.cells #[.string nm, .string vl] 186) = v := ⟨_, rfl⟩
        obtain ⟨zb, hzb⟩ : ∃ b, wr.heap.size = b := ⟨_, rfl⟩
        have HB := Lib.hid (show Blk w1 zb 186 #[.string nm, .string vl] by rw [← hw1, ← hzb]; exact Blk.new _ _ _)
        have hg1 : wr.grownBy w1 none := by rw [← hw1]; exact gr_alloc (gr_refl _ _) _
        replace HG := Lib.hid (gr_none HG.out hg1)
        
        have HW1 := Lib.hid hw1; have HZB := Lib.hid hzb
        clear hw1 hzb hg1
        go_upto_region 6 with (first
          | (refine wpl_load_at Tryz.prT rfl _ rfl _ rfl [.string nm, .string vl] rfl (fun j u hu => by rw [add_mk]; exact HC.out j u hu) ?_)
          | fail)
        rw [HW1.out]
        (try rw [HZB.out])
        clear HW1 HZB HC
        have k0 := HB.out.cell 0; have k1 := HB.out.cell 1
        go_wp2_with fail
        refine (keyRefR_any nm _ (by omega)).mono ?_
        rintro e w2 ⟨rfl, hg2⟩
        clear k0 k1
        replace HB := Lib.hid (HB.out.grown hg2 (by simp))

        replace HG := Lib.hid (gr_none HG.out hg2)
        clear hg2
        have k0 := HB.out.cell 0; have k1 := HB.out.cell 1
        obtain ⟨K1, hK1⟩ : ∃ V, keyOk (nb nm) = V := ⟨_, rfl⟩
        have HK := Lib.hid hK1
        rw [hK1]
        clear hK1
        cases K1
        · have e := stAt_5 HZ.out HK.out
          have HFIN := Lib.hid (show stE l = 5 by rw [HF.out, fstE_stop HA.out (by rw [e]; decide) hlt, e])
          go_wp2_with fail
          go_ret
          exact ⟨by rw [HFIN.out]; try rfl, HG.out⟩
        · rcases stV_ways vl with ⟨f1, hsv⟩ | ⟨f1, f2, hsv⟩ | ⟨f1, f2, hsv⟩
          · have HSV := Lib.hid hsv
            clear hsv
            obtain ⟨VU, hVU⟩ : ∃ V, (l.take k).any (fun o : PrV => nb o.nam == nb nm) = V := ⟨_, rfl⟩
            have HVU := Lib.hid hVU
            clear hVU
            have kk1 : (k : Int) ≤ (n : Int) := by omega
            have kk2 : (k : Int) ≤ (c : Int) := by have := H.out.1.cap; omega
            have kk3 : k ≤ c := by have := H.out.1.cap; omega
            go_wp2_with fail
            refine (sameNHas_any lo _ k c (l.take k) nm vl zb _ ((H.out.1.grown HG.out (fun g e => by cases e)).take PrV.row_len (by omega)) (by omega) HB.out).mono ?_
            rintro e w5 ⟨rfl, hg5⟩
            rw [HVU.out]
            clear k0 k1
            replace HB := Lib.hid (HB.out.grown hg5 (by simp))

            replace HG := Lib.hid (gr_none HG.out hg5)
            clear hg5
            have k0 := HB.out.cell 0; have k1 := HB.out.cell 1
            cases VU
            · have HE := Lib.hid (stAt_0 HZ.out HK.out (by rw [HSV.out]; decide) HVU.out)
              go_wp2_with fail
              go_roundw
              case rel => exact ⟨k + 1, by omega, by go_num, HG.out, fstE_zero HA.out HE.out⟩
              case measure => simp [intOf]; omega
            · have e := stAt_6 HZ.out HK.out (by rw [HSV.out]; decide) HVU.out
              have HFIN := Lib.hid (show stE l = 6 by rw [HF.out, fstE_stop HA.out (by rw [e]; decide) hlt, e])
              go_wp2_with fail
              go_ret
              exact ⟨by rw [HFIN.out]; try rfl, HG.out⟩
          · have HSV := Lib.hid hsv
            clear hsv
            obtain ⟨VU, hVU⟩ : ∃ V, (l.take k).any (fun o : PrV => nb o.nam == nb nm) = V := ⟨_, rfl⟩
            have HVU := Lib.hid hVU
            clear hVU
            have kk1 : (k : Int) ≤ (n : Int) := by omega
            have kk2 : (k : Int) ≤ (c : Int) := by have := H.out.1.cap; omega
            have kk3 : k ≤ c := by have := H.out.1.cap; omega
            go_wp2_with fail
            refine (sameNHas_any lo _ k c (l.take k) nm vl zb _ ((H.out.1.grown HG.out (fun g e => by cases e)).take PrV.row_len (by omega)) (by omega) HB.out).mono ?_
            rintro e w5 ⟨rfl, hg5⟩
            rw [HVU.out]
            clear k0 k1
            replace HB := Lib.hid (HB.out.grown hg5 (by simp))

            replace HG := Lib.hid (gr_none HG.out hg5)
            clear hg5
            have k0 := HB.out.cell 0; have k1 := HB.out.cell 1
            cases VU
            · have HE := Lib.hid (stAt_0 HZ.out HK.out (by rw [HSV.out]; decide) HVU.out)
              go_wp2_with fail
              go_roundw
              case rel => exact ⟨k + 1, by omega, by go_num, HG.out, fstE_zero HA.out HE.out⟩
              case measure => simp [intOf]; omega
            · have e := stAt_6 HZ.out HK.out (by rw [HSV.out]; decide) HVU.out
              have HFIN := Lib.hid (show stE l = 6 by rw [HF.out, fstE_stop HA.out (by rw [e]; decide) hlt, e])
              go_wp2_with fail
              go_ret
              exact ⟨by rw [HFIN.out]; try rfl, HG.out⟩
          · have e := stAt_3 HZ.out HK.out hsv
            have HFIN := Lib.hid (show stE l = 3 by rw [HF.out, fstE_stop HA.out (by rw [e]; decide) hlt, e])
            go_wp2_with fail
            go_ret
            exact ⟨by rw [HFIN.out]; try rfl, HG.out⟩
      · obtain rfl : k = n := by omega
        have HFIN := Lib.hid (show stE l = 0 by rw [HF.out, HA.out])
        go_wp2_with fail
        go_ret
        exact ⟨by rw [HFIN.out]; try rfl, HG.out⟩
end Go.Proofs.YtpjheibkacbbcaaGreatDoor

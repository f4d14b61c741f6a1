/- Contracts of talked, checkSeat, CheckSeats and of the document's SeatsFault. Conditions: callers whose numbers are in bounds (but for CheckSeats). -/
import Derived.Test.YtpeoijngmglbfaaGreatDoorRo7
namespace Go.Proofs.YtpeoijngmglbfaaGreatDoor
open Go.RowKit

theorem how_24 {z : SeV} (h1 : inB z.how 1 4 = true) (h2 : tkB z = false) (h3 : z.how ≠ 2) : z.how = 4 := by
  unfold inB at h1
  unfold tkB at h2
  simp only [Bool.and_eq_true, decide_eq_true_eq] at h1
  simp only [Bool.or_eq_false_iff, beq_eq_false_iff_ne] at h2
  omega
theorem how_13 {z : SeV} (h : tkB z = true) : (z.how == 2) = false ∧ (z.how == 4) = false := by
  unfold tkB at h
  simp only [Bool.or_eq_true, beq_iff_eq] at h
  rcases h with h | h <;> rw [h] <;> exact ⟨rfl, rfl⟩
set_option maxHeartbeats 1000000 in
theorem talked_any (z : SeV) (w : World) : Calls Tryz.prog 65 #[.agg #[.string z.ca, .string z.ag, .int .i64 z.how, .int .i64 z.beg, .int .i64 z.fin]] w (RetV (.bool (tkB z)) w) := by
  have HV := Lib.hid (show tkB z = (z.how == 1 || z.how == 3) from rfl)
  obtain ⟨B1, h1⟩ : ∃ B, (z.how == 1) = B := ⟨_, rfl⟩
  obtain ⟨B2, h2⟩ : ∃ B, (z.how == 3) = B := ⟨_, rfl⟩
  rw [h1, h2] at HV
  cases B1 <;> cases B2
  all_goals
    go_enter Tryz.func65, Tryz.ntmps65
    go_wp2_with fail
    go_ret
    exact ⟨by rw [HV.out]; rfl, gr_alloc (gr_refl _ _) _⟩
set_option maxHeartbeats 8000000 in
set_option maxRecDepth 100000 in
theorem checkSeat_any (c : CaV) (z : SeV) (w : World) (hz : SeOk z) (hcn : CaN c) : Calls Tryz.prog 93 #[.agg #[.string c.id, .string c.skill, .int .i64 c.at_, .int .i64 c.least, .int .i64 c.prio, .int .i64 c.pat, .int .i64 c.talk, .bool c.back], .agg #[.string z.ca, .string z.ag, .int .i64 z.how, .int .i64 z.beg, .int .i64 z.fin]] w (RetV (.int .i64 (seE c z)) w) := by
  obtain ⟨o1, o2, o3, o4, o5, o6⟩ := hz
  obtain ⟨m1, m2, m3, m4, m5, m6, _⟩ := hcn
  have qg : IntKind.i64.wrap (c.at_ + c.pat) = c.at_ + c.pat := IntWalk.i64_in _ (by omega)
  obtain ⟨TK, hTK⟩ : ∃ TK, tkB z = TK := ⟨_, rfl⟩
  have HTK := Lib.hid hTK
  obtain ⟨IB, hIB⟩ : ∃ IB, inB z.how 1 4 = IB := ⟨_, rfl⟩
  have HIB := Lib.hid hIB
  obtain ⟨KO, hKO⟩ : ∃ KO, keyOk (nb z.ag) = KO := ⟨_, rfl⟩
  have HKO := Lib.hid hKO
  have HS := Lib.hid (show seE c z = if nb z.ca = nb c.id then (if IB then (if TK then (if KO then (if c.at_ ≤ z.beg ∧ z.beg ≤ 691372800000 ∧ z.fin = z.beg + c.talk then 0 else 3) else 5)
      else (if nb z.ag = [] then (if z.how = 2 then (if z.beg = c.at_ + c.pat ∧ z.fin = z.beg then 0 else 3) else (if z.beg = 0 ∧ z.fin = 0 then 0 else 3)) else 3)) else 4) else 3 by unfold seE; rw [hTK, hIB, hKO])
  clear hTK hIB hKO
  obtain ⟨w1, hw1⟩ : ∃ w1, w.alloc (.cells #[.string c.id, .string c.skill, .int .i64 c.at_, .int .i64 c.least, .int .i64 c.prio, .int .i64 c.pat, .int .i64 c.talk, .bool c.back] 57) = w1 := ⟨_, rfl⟩
  obtain ⟨w2, hw2⟩ : ∃ w2, w1.alloc (.cells #[.string z.ca, .string z.ag, .int .i64 z.how, .int .i64 z.beg, .int .i64 z.fin] 44) = w2 := ⟨_, rfl⟩
  have hz1 : w1.heap.size = w.heap.size + 1 := by rw [← hw1]; simp
  have HC := Lib.hid (show Blk w2 w.heap.size 57 #[.string c.id, .string c.skill, .int .i64 c.at_, .int .i64 c.least, .int .i64 c.prio, .int .i64 c.pat, .int .i64 c.talk, .bool c.back] by rw [← hw2, ← hw1]; exact (Blk.new _ _ _).alloc _)
  have HB := Lib.hid (show Blk w2 (w.heap.size + 1) 44 #[.string z.ca, .string z.ag, .int .i64 z.how, .int .i64 z.beg, .int .i64 z.fin] by rw [← hw2, ← hz1]; exact Blk.new _ _ _)
  have HG := Lib.hid (show w.grownBy w2 none by rw [← hw2, ← hw1]; exact gr_alloc (gr_alloc (gr_refl _ _) _) _)
  have HW1 := Lib.hid hw1; have HW2 := Lib.hid hw2; have HZ1 := Lib.hid hz1
  clear hw1 hw2 hz1
  go_enter Tryz.func93, Tryz.ntmps93
  go_upto_region 1 with (fail)
  rw [HW1.out, HW2.out]
  (try rw [HZ1.out])
  have k0 := HB.out.cell 0
  have k1 := HB.out.cell 1
  have k2 := HB.out.cell 2
  have k3 := HB.out.cell 3
  have k4 := HB.out.cell 4
  have c0 := HC.out.cell 0
  have c2 := HC.out.cell 2
  have c5 := HC.out.cell 5
  have c6 := HC.out.cell 6
  by_cases hA : nb z.ca = nb c.id
  · have qa : (z.ca.toList == c.id.toList) = true := by rw [eqS_nb, hA]; exact beq_self_eq_true _
    have qb : (z.ca.toList != c.id.toList) = false := by unfold bne; rw [qa]; rfl
    rw [if_pos hA] at HS
    clear hA
    cases IB
    · have HV := Lib.hid (show seE c z = 4 from HS.out)
      go_wp2_with (first
        | (go_at_call 53; refine (within_any _ _ _ _).mono ?_; rintro e w' ⟨rfl, rfl⟩; rw [HIB.out])
        | fail)
      go_ret
      exact ⟨by rw [HV.out]; try rfl, HG.out⟩
    · rw [if_pos rfl] at HS
      go_wp2_with (first
        | (go_at_call 53; refine (within_any _ _ _ _).mono ?_; rintro e w' ⟨rfl, rfl⟩; rw [HIB.out])
        | (refine wpl_load_all Tryz.seT rfl _ rfl _ rfl _ _ HB.out rfl ?_)
        | fail)
      refine (talked_any z _).mono ?_
      rintro e w3 ⟨rfl, hg3⟩
      rw [HTK.out]
      clear k0 k1 k2 k3 k4 c0 c2 c5 c6
      replace HB := Lib.hid (HB.out.grown hg3 (by simp))
      replace HC := Lib.hid (HC.out.grown hg3 (by simp))
      replace HG := Lib.hid (gr_none HG.out hg3)
      clear hg3
      have k0 := HB.out.cell 0
      have k1 := HB.out.cell 1
      have k2 := HB.out.cell 2
      have k3 := HB.out.cell 3
      have k4 := HB.out.cell 4
      have c0 := HC.out.cell 0
      have c2 := HC.out.cell 2
      have c5 := HC.out.cell 5
      have c6 := HC.out.cell 6
      clear qa qb
      cases TK
      · rw [if_neg (by decide)] at HS
        go_wp2_with (first
          | (refine wpl_load_all Tryz.seT rfl _ rfl _ rfl _ _ HB.out rfl ?_)
          | fail)
        refine (talked_any z _).mono ?_
        rintro e w4 ⟨rfl, hg4⟩
        rw [HTK.out]
        clear k0 k1 k2 k3 k4 c0 c2 c5 c6
        replace HB := Lib.hid (HB.out.grown hg4 (by simp))
        replace HC := Lib.hid (HC.out.grown hg4 (by simp))
        replace HG := Lib.hid (gr_none HG.out hg4)
        clear hg4
        have k0 := HB.out.cell 0
        have k1 := HB.out.cell 1
        have k2 := HB.out.cell 2
        have k3 := HB.out.cell 3
        have k4 := HB.out.cell 4
        have c0 := HC.out.cell 0
        have c2 := HC.out.cell 2
        have c5 := HC.out.cell 5
        have c6 := HC.out.cell 6
        by_cases hag : nb z.ag = []
        · have qn := str_nil hag
          rw [if_pos hag] at HS
          have HH4 := Lib.hid (how_24 HIB.out HTK.out)
          clear hag
          go_wp2_with (first
            | (refine wpl_load_all Tryz.seT rfl _ rfl _ rfl _ _ HB.out rfl ?_)
            | fail)
          refine (talked_any z _).mono ?_
          rintro e w5 ⟨rfl, hg5⟩
          rw [HTK.out]
          clear k0 k1 k2 k3 k4 c0 c2 c5 c6
          replace HB := Lib.hid (HB.out.grown hg5 (by simp))
          replace HC := Lib.hid (HC.out.grown hg5 (by simp))
          replace HG := Lib.hid (gr_none HG.out hg5)
          clear hg5
          have k0 := HB.out.cell 0
          have k1 := HB.out.cell 1
          have k2 := HB.out.cell 2
          have k3 := HB.out.cell 3
          have k4 := HB.out.cell 4
          have c0 := HC.out.cell 0
          have c2 := HC.out.cell 2
          have c5 := HC.out.cell 5
          have c6 := HC.out.cell 6
          clear qn
          by_cases hw : z.how = 2
          · have h2 : (z.how == 2) = true := by simpa using hw
            have h4 : (z.how == 4) = false := by rw [hw]; rfl
            rw [if_pos hw] at HS
            clear hw
            by_cases b1 : z.beg = c.at_ + c.pat
            · have e1 : (z.beg != c.at_ + c.pat) = false := by simp [b1]
              by_cases b2 : z.fin = z.beg
              · have HV := Lib.hid (show seE c z = 0 by rw [HS.out, if_pos ⟨b1, b2⟩])
                have e2 : (z.fin != c.at_ + c.pat) = false := by rw [b2]; simp [b1]
                have e3 : (z.fin != z.beg) = false := by simp [b2]
                clear b1 b2
                go_wp2_with fail
                go_ret
                exact ⟨by rw [HV.out]; try rfl, HG.out⟩
              · have HV := Lib.hid (show seE c z = 3 by rw [HS.out, if_neg (fun h => b2 h.2)])
                have e2 : (z.fin != c.at_ + c.pat) = true := by rw [← b1]; simpa using b2
                have e3 : (z.fin != z.beg) = true := by simpa using b2
                clear b1 b2
                go_wp2_with fail
                go_ret
                exact ⟨by rw [HV.out]; try rfl, HG.out⟩
            · have e1 : (z.beg != c.at_ + c.pat) = true := by simpa using b1
              have HV := Lib.hid (show seE c z = 3 by rw [HS.out, if_neg (fun h => b1 h.1)])
              clear b1
              go_wp2_with fail
              go_ret
              exact ⟨by rw [HV.out]; try rfl, HG.out⟩
          · have h2 : (z.how == 2) = false := by simpa using hw
            have h4 : (z.how == 4) = true := by rw [HH4.out hw]; rfl
            rw [if_neg hw] at HS
            clear hw
            by_cases b1 : z.beg = 0
            · have e1 : (z.beg != 0) = false := by simp [b1]
              by_cases b2 : z.fin = 0
              · have HV := Lib.hid (show seE c z = 0 by rw [HS.out, if_pos ⟨b1, b2⟩])
                have e2 : (z.fin != 0) = false := by simp [b2]
                clear b1 b2
                go_wp2_with fail
                go_ret
                exact ⟨by rw [HV.out]; try rfl, HG.out⟩
              · have HV := Lib.hid (show seE c z = 3 by rw [HS.out, if_neg (fun h => b2 h.2)])
                have e2 : (z.fin != 0) = true := by simpa using b2
                clear b1 b2
                go_wp2_with fail
                go_ret
                exact ⟨by rw [HV.out]; try rfl, HG.out⟩
            · have e1 : (z.beg != 0) = true := by simpa using b1
              have HV := Lib.hid (show seE c z = 3 by rw [HS.out, if_neg (fun h => b1 h.1)])
              clear b1
              go_wp2_with fail
              go_ret
              exact ⟨by rw [HV.out]; try rfl, HG.out⟩
        · obtain ⟨q1, q2, q3⟩ := str_full hag
          rw [if_neg hag] at HS
          have HV := Lib.hid (show seE c z = 3 from HS.out)
          clear hag
          go_wp2_with fail
          go_ret
          exact ⟨by rw [HV.out]; try rfl, HG.out⟩
      · rw [if_pos rfl] at HS
        obtain ⟨h2, h4⟩ := how_13 HTK.out
        go_wp2_with fail
        refine (isKey_any z.ag _ (by omega)).mono ?_
        rintro e w4 ⟨rfl, hg4⟩
        rw [HKO.out]
        clear k0 k1 k2 k3 k4 c0 c2 c5 c6
        replace HB := Lib.hid (HB.out.grown hg4 (by simp))
        replace HC := Lib.hid (HC.out.grown hg4 (by simp))
        replace HG := Lib.hid (gr_none HG.out hg4)
        clear hg4
        have k0 := HB.out.cell 0
        have k1 := HB.out.cell 1
        have k2 := HB.out.cell 2
        have k3 := HB.out.cell 3
        have k4 := HB.out.cell 4
        have c0 := HC.out.cell 0
        have c2 := HC.out.cell 2
        have c5 := HC.out.cell 5
        have c6 := HC.out.cell 6
        cases KO
        · have HV := Lib.hid (show seE c z = 5 from HS.out)
          go_wp2_with fail
          go_ret
          exact ⟨by rw [HV.out]; try rfl, HG.out⟩
        · rw [if_pos rfl] at HS
          go_wp2_with (first
            | (refine wpl_load_all Tryz.seT rfl _ rfl _ rfl _ _ HB.out rfl ?_)
            | fail)
          refine (talked_any z _).mono ?_
          rintro e w5 ⟨rfl, hg5⟩
          rw [HTK.out]
          clear k0 k1 k2 k3 k4 c0 c2 c5 c6
          replace HB := Lib.hid (HB.out.grown hg5 (by simp))
          replace HC := Lib.hid (HC.out.grown hg5 (by simp))
          replace HG := Lib.hid (gr_none HG.out hg5)
          clear hg5
          have k0 := HB.out.cell 0
          have k1 := HB.out.cell 1
          have k2 := HB.out.cell 2
          have k3 := HB.out.cell 3
          have k4 := HB.out.cell 4
          have c0 := HC.out.cell 0
          have c2 := HC.out.cell 2
          have c5 := HC.out.cell 5
          have c6 := HC.out.cell 6
          go_wp2_with (first
            | (refine wpl_load_all Tryz.seT rfl _ rfl _ rfl _ _ HB.out rfl ?_)
            | fail)
          refine (talked_any z _).mono ?_
          rintro e w6 ⟨rfl, hg6⟩
          rw [HTK.out]
          clear k0 k1 k2 k3 k4 c0 c2 c5 c6
          replace HB := Lib.hid (HB.out.grown hg6 (by simp))
          replace HC := Lib.hid (HC.out.grown hg6 (by simp))
          replace HG := Lib.hid (gr_none HG.out hg6)
          clear hg6
          have k0 := HB.out.cell 0
          have k1 := HB.out.cell 1
          have k2 := HB.out.cell 2
          have k3 := HB.out.cell 3
          have k4 := HB.out.cell 4
          have c0 := HC.out.cell 0
          have c2 := HC.out.cell 2
          have c5 := HC.out.cell 5
          have c6 := HC.out.cell 6
          by_cases b1 : z.beg < c.at_
          · have HV := Lib.hid (show seE c z = 3 by rw [HS.out, if_neg (by omega)])
            have e1 : decide (z.beg < c.at_) = true := decide_eq_true b1
            clear b1
            go_wp2_with fail
            go_ret
            exact ⟨by rw [HV.out]; try rfl, HG.out⟩
          · have e1 : decide (z.beg < c.at_) = false := decide_eq_false b1
            by_cases b2 : 691372800000 < z.beg
            · have HV := Lib.hid (show seE c z = 3 by rw [HS.out, if_neg (by omega)])
              have e2 : decide (691372800000 < z.beg) = true := decide_eq_true b2
              clear b1 b2
              go_wp2_with fail
              go_ret
              exact ⟨by rw [HV.out]; try rfl, HG.out⟩
            · have e2 : decide (691372800000 < z.beg) = false := decide_eq_false b2
              by_cases b3 : z.fin < z.beg
              · have HV := Lib.hid (show seE c z = 3 by rw [HS.out, if_neg (by omega)])
                have e3 : decide (z.fin < z.beg) = true := decide_eq_true b3
                clear b1 b2 b3
                go_wp2_with fail
                go_ret
                exact ⟨by rw [HV.out]; try rfl, HG.out⟩
              · have e3 : decide (z.fin < z.beg) = false := decide_eq_false b3
                have qs : IntKind.i64.wrap (z.fin - z.beg) = z.fin - z.beg := IntWalk.i64_in _ (by omega)
                by_cases b4 : z.fin - z.beg = c.talk
                · have HV := Lib.hid (show seE c z = 0 by rw [HS.out, if_pos (by omega)])
                  have e4 : (z.fin - z.beg != c.talk) = false := by simp [b4]
                  clear b1 b2 b3 b4
                  go_wp2_with fail
                  go_ret
                  exact ⟨by rw [HV.out]; try rfl, HG.out⟩
                · have HV := Lib.hid (show seE c z = 3 by rw [HS.out, if_neg (by omega)])
                  have e4 : (z.fin - z.beg != c.talk) = true := by simpa using b4
                  clear b1 b2 b3 b4
                  go_wp2_with fail
                  go_ret
                  exact ⟨by rw [HV.out]; try rfl, HG.out⟩
  · have qa : (z.ca.toList == c.id.toList) = false := by rw [eqS_nb]; simpa using hA
    have qb : (z.ca.toList != c.id.toList) = true := by unfold bne; rw [qa]; rfl
    rw [if_neg hA] at HS
    have HV := Lib.hid (show seE c z = 3 from HS.out)
    clear hA
    go_wp2_with fail
    go_ret
    exact ⟨by rw [HV.out]; try rfl, HG.out⟩
set_option maxHeartbeats 8000000 in
set_option maxRecDepth 100000 in
theorem checkSeats_any (lo1 lo2 : Nat) (cA : Option Addr) (cn cc : Nat) (C : List CaV) (A : Option Addr) (n c0 : Nat) (l : List SeV) (w : World) (hC : Cas w lo1 cA cn cc C) (hS : Ses w lo2 A n c0 l) (hcn : cn ≤ 1000000000) (hn : n ≤ 1000000000) :
    Calls Tryz.prog 63 #[.slice cA cn cc, .slice A n c0] w (RetV (.int .i64 (chkE C l)) w) := by
  have HC := Lib.hid hC; have HS := Lib.hid hS
  have hlc := hC.1.len; have hls := hS.1.len
  obtain ⟨E, hE⟩ : ∃ E, casE C = E := ⟨_, rfl⟩
  have HE := Lib.hid hE
  clear hC hS hE
  go_enter Tryz.func63, Tryz.ntmps63
  go_wp2_with fail
  refine (checkCallers_any lo1 cA cn cc C _ HC.out (by omega)).mono ?_
  rintro e w2 ⟨rfl, hg2⟩
  rw [HE.out]
  have HG := Lib.hid hg2
  clear hg2
  by_cases hz : E = 0
  · have dz : (E != 0) = false := by simpa using hz
    have HV := Lib.hid (show chkE C l = seatsE C l by unfold chkE; rw [if_pos (HE.out.trans hz)])
    have HNUM := Lib.hid (fun x hx => caNum_n (casE_num (HE.out.trans hz) x hx))
    clear hz
    by_cases hl : n = cn
    · subst hl
      have HV2 := Lib.hid (show chkE C l = fstE (seAt C l) n by rw [HV.out]; unfold seatsE; rw [if_pos (by omega), hls])
      go_wp2_with fail
      go_loopw [6, 7, 8, 21] (fun _ _ _ t wr => ∃ k : Nat, k ≤ n ∧ t = .int .i64 k ∧ w.grownBy wr none ∧ fstE (seAt C l) k = 0) (fun _ _ _ t _ => n - (intOf t).toNat)
      case atStart => exact ⟨0, Nat.zero_le _, rfl, HG.out, rfl⟩
      case round =>
        clear HG
        obtain ⟨k, hk, rfl, hg, ha⟩ := hrel
        have HG := Lib.hid hg; have HAC := Lib.hid ha
        clear hg ha
        by_cases hlt : k < n
        · obtain ⟨sg, so, z, rfl, _, _, hz2, hzc⟩ := (HS.out.1.grown HG.out (fun g e => by cases e)).get SeV.row_len hlt
          obtain ⟨cg, co, c, rfl, _, _, hc2, hcc⟩ := (HC.out.1.grown HG.out (fun g e => by cases e)).get CaV.row_len hlt
          have hzo := HS.out.2 z (mem_of_get hz2)
          have hco := HNUM.out c (mem_of_get hc2)
          have HZC := Lib.hid hzc; have HCC := Lib.hid hcc
          have HX := Lib.hid (seAt_eq hz2 hc2)
          have HC2 := Lib.hid hc2
          obtain ⟨wa, hwa⟩ : ∃ wa, wr.alloc (.cells #[.string z.ca, .string z.ag, .int .i64 z.how, .int .i64 z.beg, .int .i64 z.fin] 44) = wa := ⟨_, rfl⟩
          obtain ⟨zb, hzb⟩ : ∃ zb, wr.heap.size = zb := ⟨_, rfl⟩
          have HB := Lib.hid (show Blk wa zb 44 #[.string z.ca, .string z.ag, .int .i64 z.how, .int .i64 z.beg, .int .i64 z.fin] by rw [← hwa, ← hzb]; exact Blk.new _ _ _)
          have HGa := Lib.hid (show wr.grownBy wa none by rw [← hwa]; exact gr_alloc (gr_refl _ _) _)
          have HWA := Lib.hid hwa; have HZB := Lib.hid hzb
          clear hwa hzb hz2 hc2 hzc hcc
          go_upto_region 9 with (first
            | (refine wpl_load_at Tryz.seT rfl _ rfl _ rfl [.string z.ca, .string z.ag, .int .i64 z.how, .int .i64 z.beg, .int .i64 z.fin] rfl (fun j u hu => by rw [add_mk]; exact HZC.out j u hu) ?_)
            | fail)
          rw [HWA.out]
          (try rw [HZB.out])
          clear HWA HZB HZC
          refine H_begin (fun w' => wa.grownBy w' none) (by kernel_rfl) ?_
          have hHeld : wa.grownBy wa.drew none := gr_drew (gr_refl _ _)
          refine H_take (k := 0) (v := ?_) (by rfl) (by kernel_rfl) (by kernel_rfl) (by kernel_rfl) (by exact fun _ _ _ h => h) (by rfl) ?_ (by assumption) ?_
          rotate_left 1
          · intro w hSw
            (try dsimp only at hSw)
            go_simp
            (try with_reducible rfl)
          (try simp only [Act.put, List.setIfInBounds_toArray, List.set_cons_zero, List.set_cons_succ])
          refine H_take (k := 1) (v := ?_) (by rfl) (by kernel_rfl) (by kernel_rfl) (by kernel_rfl) (by exact fun _ _ _ h => h) (by rfl) ?_ (by assumption) ?_
          rotate_left 1
          · intro w hSw
            (try dsimp only at hSw)
            go_simp
            (try with_reducible rfl)
          (try simp only [Act.put, List.setIfInBounds_toArray, List.set_cons_zero, List.set_cons_succ])
          refine H_take (k := 2) (v := ?_) (by rfl) (by kernel_rfl) (by kernel_rfl) (by kernel_rfl) (by exact fun _ _ _ h => h) (by rfl) ?_ (by assumption) ?_
          rotate_left 1
          · intro w hSw
            (try dsimp only at hSw)
            go_simp
            (try with_reducible rfl)
          (try simp only [Act.put, List.setIfInBounds_toArray, List.set_cons_zero, List.set_cons_succ])
          refine H_take (k := 3) (v := .agg #[.string c.id, .string c.skill, .int .i64 c.at_, .int .i64 c.least, .int .i64 c.prio, .int .i64 c.pat, .int .i64 c.talk, .bool c.back]) (by rfl) (by kernel_rfl) (by kernel_rfl) (by kernel_rfl) (by exact fun _ _ _ h => h) (by rfl) (fun w' hSw => exec_ldr Tryz.caT _ rfl _ rfl [.string c.id, .string c.skill, .int .i64 c.at_, .int .i64 c.least, .int .i64 c.prio, .int .i64 c.pat, .int .i64 c.talk, .bool c.back] (fun j u hu => by rw [add_mk]; exact ((HC.out.1.grown (gr_none (gr_none HG.out HGa.out) hSw) (fun g e => by cases e)).at_ CaV.row_len HC2.out) j u hu) rfl) (by assumption) ?_
          (try simp only [Act.put, List.setIfInBounds_toArray, List.set_cons_zero, List.set_cons_succ])
          refine H_take (k := 4) (v := .agg #[.string z.ca, .string z.ag, .int .i64 z.how, .int .i64 z.beg, .int .i64 z.fin]) (by rfl) (by kernel_rfl) (by kernel_rfl) (by kernel_rfl) (by exact fun _ _ _ h => h) (by rfl) (fun w' hSw => exec_ldb Tryz.seT _ rfl _ rfl 44 [.string z.ca, .string z.ag, .int .i64 z.how, .int .i64 z.beg, .int .i64 z.fin] (HB.out.grown hSw (by simp)) rfl) (by assumption) ?_
          (try simp only [Act.put, List.setIfInBounds_toArray, List.set_cons_zero, List.set_cons_succ])
          refine H_run (k := 5) (by rfl) (by kernel_rfl) (by rfl) (fun K hK => ?_)
          go_simp
          refine (checkSeat_any c z _ hzo hco).mono ?_
          rintro e w7 ⟨rfl, hg7⟩
          obtain ⟨F, hF⟩ : ∃ F, seE c z = F := ⟨_, rfl⟩
          rw [hF]
          have HF := Lib.hid (HX.out.trans hF)
          clear hF
          have hg := gr_none hHeld hg7
          refine hK _ _ hg ?_
          clear hK K hHeld hg7
          have hHeld := hg
          clear hg
          (try simp only [Act.put, List.setIfInBounds_toArray, List.set_cons_zero, List.set_cons_succ])
          refine H_take (k := 6) (v := ?_) (by rfl) (by kernel_rfl) (by kernel_rfl) (by kernel_rfl) (by exact fun _ _ _ h => h) (by rfl) ?_ (by assumption) ?_
          rotate_left 1
          · intro w hSw
            (try dsimp only at hSw)
            go_simp
            (try with_reducible rfl)
          (try simp only [Act.put, List.setIfInBounds_toArray, List.set_cons_zero, List.set_cons_succ])
          refine H_done (by kernel_rfl) ?_
          replace HG := Lib.hid (gr_none (gr_none HG.out HGa.out) hHeld)
          clear hHeld HGa HB
          by_cases hf : F = 0
          · have df : (F != 0) = false := by simpa using hf
            have HN := Lib.hid (fstE_zero HAC.out (HF.out.trans hf))
            clear hf
            go_wp2_with fail
            go_roundw
            case rel => exact ⟨k + 1, by omega, by go_num, HG.out, HN.out⟩
            case measure => simp [intOf]; omega
          · have df : (F != 0) = true := by simpa using hf
            have HN := Lib.hid (show chkE C l = F by rw [HV2.out, fstE_stop HAC.out (by rw [HF.out]; exact hf) hlt, HF.out])
            clear hf
            go_wp2_with fail
            go_ret
            exact ⟨by rw [HN.out]; rfl, HG.out⟩
        · obtain rfl : k = n := by omega
          go_wp2_with fail
          go_ret
          exact ⟨by rw [HV2.out, HAC.out]; rfl, HG.out⟩
    · have dl : ((n : Int) != (cn : Int)) = true := by simp; omega
      have HV2 := Lib.hid (show chkE C l = 3 by rw [HV.out]; unfold seatsE; rw [if_neg (by omega)])
      clear hl
      go_wp2_with fail
      go_ret
      exact ⟨by rw [HV2.out]; rfl, HG.out⟩
  · have dz : (E != 0) = true := by simpa using hz
    have HV := Lib.hid (show chkE C l = E by unfold chkE; rw [if_neg (by rw [HE.out]; exact hz), HE.out])
    clear hz
    go_wp2_with fail
    go_ret
    exact ⟨by rw [HV.out]; rfl, HG.out⟩
set_option maxHeartbeats 16000000 in
set_option maxRecDepth 100000 in
theorem seatsFault_any (lo1 lo2 : Nat) (cA : Option Addr) (cn cc : Nat) (C : List CaV) (A : Option Addr) (n c0 : Nat) (l : List SeV) (w : World) (hC : Cas w lo1 cA cn cc C) (hS : Ses w lo2 A n c0 l) (hcn : cn ≤ 1000000000) (hn : n ≤ 1000000000) (hnum : ∀ c ∈ C, CaN c) :
    Calls Tryz.prog 29 #[.slice cA cn cc, .slice A n c0] w (RetV (.int .i64 (seatsE C l)) w) := by
  have HCA := Lib.hid hC; have HSE := Lib.hid hS
  have hlc := hC.1.len; have hls := hS.1.len
  have HNUM := Lib.hid hnum
  clear hC hS hnum
  by_cases hl : n = cn
  · subst hl
    have HV2 := Lib.hid (show seatsE C l = fstE (seAt C l) n by unfold seatsE; rw [if_pos (by omega), hls])
    have dl : ((n : Int) != (n : Int)) = false := by simp
    go_enter Tryz.func29, Tryz.ntmps29
    go_wp2_with fail
    clear dl
    go_loopw [5, 6, 7, 8, 16] (fun _ _ _ _ t wr => ∃ k : Nat, k ≤ n ∧ t = .int .i64 k ∧ w.grownBy wr none ∧ fstE (seAt C l) k = 0) (fun _ _ _ _ t _ => n - (intOf t).toNat)
    case atStart => exact ⟨0, Nat.zero_le _, rfl, gr_refl _ _, rfl⟩
    case round =>
      obtain ⟨k, hk, rfl, hg, ha⟩ := hrel
      have HG := Lib.hid hg; have HAC := Lib.hid ha
      clear hg ha
      by_cases hlt : k < n
      · obtain ⟨sg, so, z, rfl, _, _, hz2, hzc⟩ := (HSE.out.1.grown HG.out (fun g e => by cases e)).get SeV.row_len hlt
        obtain ⟨cg, co, c, rfl, _, _, hc2, hcc⟩ := (HCA.out.1.grown HG.out (fun g e => by cases e)).get CaV.row_len hlt
        have hz := HSE.out.2 z (mem_of_get hz2)
        have hcn2 := HNUM.out c (mem_of_get hc2)
        have hlt2 : (k : Int) < (n : Int) := by omega
        have HZC := Lib.hid hzc; have HCC := Lib.hid hcc
        have HX := Lib.hid (seAt_eq hz2 hc2)
        clear hz2 hc2 hzc hcc
        obtain ⟨o1, o2, o3, o4, o5, o6⟩ := hz
        obtain ⟨m1, m2, m3, m4, m5, m6, _⟩ := hcn2
        have qu : IntKind.i64.wrap (z.beg + c.talk) = z.beg + c.talk := IntWalk.i64_in _ (by omega)
        have qg : IntKind.i64.wrap (c.at_ + c.pat) = c.at_ + c.pat := IntWalk.i64_in _ (by omega)
        obtain ⟨TK, hTK⟩ : ∃ TK, tkB z = TK := ⟨_, rfl⟩
        have HTK := Lib.hid hTK
        obtain ⟨IB, hIB⟩ : ∃ IB, inB z.how 1 4 = IB := ⟨_, rfl⟩
        have HIB := Lib.hid hIB
        obtain ⟨KO, hKO⟩ : ∃ KO, keyOk (nb z.ag) = KO := ⟨_, rfl⟩
        have HKO := Lib.hid hKO
        have HS := Lib.hid (show seE c z = if nb z.ca = nb c.id then (if IB then (if TK then (if KO then (if c.at_ ≤ z.beg ∧ z.beg ≤ 691372800000 ∧ z.fin = z.beg + c.talk then 0 else 3) else 5)
            else (if nb z.ag = [] then (if z.how = 2 then (if z.beg = c.at_ + c.pat ∧ z.fin = z.beg then 0 else 3) else (if z.beg = 0 ∧ z.fin = 0 then 0 else 3)) else 3)) else 4) else 3 by unfold seE; rw [hTK, hIB, hKO])
        clear hTK hIB hKO
        obtain ⟨w1, hw1⟩ : ∃ w1, wr.alloc (.cells #[.string z.ca, .string z.ag, .int .i64 z.how, .int .i64 z.beg, .int .i64 z.fin] 44) = w1 := ⟨_, rfl⟩
        obtain ⟨w2, hw2⟩ : ∃ w2, w1.alloc (.cells #[.string c.id, .string c.skill, .int .i64 c.at_, .int .i64 c.least, .int .i64 c.prio, .int .i64 c.pat, .int .i64 c.talk, .bool c.back] 57) = w2 := ⟨_, rfl⟩
        obtain ⟨zb, hzb⟩ : ∃ zb, wr.heap.size = zb := ⟨_, rfl⟩
        have hz1 : w1.heap.size = zb + 1 := by rw [← hw1, ← hzb]; simp
        have HB := Lib.hid (show Blk w2 zb 44 #[.string z.ca, .string z.ag, .int .i64 z.how, .int .i64 z.beg, .int .i64 z.fin] by rw [← hw2, ← hw1, ← hzb]; exact (Blk.new _ _ _).alloc _)
        have HC := Lib.hid (show Blk w2 (zb + 1) 57 #[.string c.id, .string c.skill, .int .i64 c.at_, .int .i64 c.least, .int .i64 c.prio, .int .i64 c.pat, .int .i64 c.talk, .bool c.back] by rw [← hw2, ← hz1]; exact Blk.new _ _ _)
        replace HG := Lib.hid (show w.grownBy w2 none by rw [← hw2, ← hw1]; exact gr_alloc (gr_alloc HG.out _) _)
        have HCC2 := Lib.hid (fun j u hu => show w1.cell? ⟨cg, co + k * 8 + j, none⟩ = some u by
          rw [← hw1]
          exact Lib.cell?_alloc_some _ (HCC.out j u hu))
        have HW1 := Lib.hid hw1; have HW2 := Lib.hid hw2; have HZ1 := Lib.hid hz1; have HZB := Lib.hid hzb
        clear hw1 hw2 hz1 hzb HCC
        go_upto_region 6 with (first
          | (refine wpl_load_at Tryz.seT rfl _ rfl _ rfl [.string z.ca, .string z.ag, .int .i64 z.how, .int .i64 z.beg, .int .i64 z.fin] rfl (fun j u hu => by rw [add_mk]; exact HZC.out j u hu) ?_)
          | fail)
        rw [HW1.out]
        (try rw [HZB.out])
        go_upto_region 7 with (first
          | (refine wpl_load_at Tryz.caT rfl _ rfl _ rfl [.string c.id, .string c.skill, .int .i64 c.at_, .int .i64 c.least, .int .i64 c.prio, .int .i64 c.pat, .int .i64 c.talk, .bool c.back] rfl (fun j u hu => by rw [add_mk]; exact HCC2.out j u hu) ?_)
          | fail)
        rw [HW2.out]
        (try rw [HZ1.out])
        clear HZC HCC2 HW1 HW2 HZ1 HZB
        have k0 := HB.out.cell 0
        have k1 := HB.out.cell 1
        have k2 := HB.out.cell 2
        have k3 := HB.out.cell 3
        have k4 := HB.out.cell 4
        have c0 := HC.out.cell 0
        have c2 := HC.out.cell 2
        have c5 := HC.out.cell 5
        have c6 := HC.out.cell 6
        obtain ⟨U1, hU1⟩ : ∃ U, (z.how == 1) = U := ⟨_, rfl⟩
        obtain ⟨U3, hU3⟩ : ∃ U, (z.how == 3) = U := ⟨_, rfl⟩
        have HTU := Lib.hid (show (U1 || U3) = TK from (by rw [← hU1, ← hU3]; exact HTK.out))
        go_cut [8] (fun v8 wx => v8 = .bool TK ∧ wx = w2)
        case first =>
          cases U1 <;> cases U3
          all_goals
            go_wp2_with fail
            go_meet
            exact ⟨by rw [← HTU.out]; rfl, rfl⟩
        case rest =>
          obtain ⟨rfl, rfl⟩ := hcut
          clear hU1 hU3
          by_cases hA : nb z.ca = nb c.id
          · have qa : (z.ca.toList == c.id.toList) = true := by rw [eqS_nb, hA]; exact beq_self_eq_true _
            have qb : (z.ca.toList != c.id.toList) = false := by unfold bne; rw [qa]; rfl
            rw [if_pos hA] at HS
            clear hA
            cases IB
            · have HV := Lib.hid (show seE c z = 4 from HS.out)
              have HN := Lib.hid (show seatsE C l = 4 by rw [HV2.out, fstE_stop HAC.out (by rw [HX.out.trans HV.out]; decide) hlt, HX.out, HV.out])
              go_wp2_with (first
                | (go_at_call 44; refine (in_any _ _ _ _).mono ?_; rintro e w' ⟨rfl, rfl⟩; rw [HIB.out])
                | fail)
              go_ret
              exact ⟨by rw [HN.out]; rfl, HG.out⟩
            · rw [if_pos rfl] at HS
              cases TK
              · rw [if_neg (by decide)] at HS
                by_cases hag : nb z.ag = []
                · have qn := str_nil hag
                  rw [if_pos hag] at HS
                  have HH4 := Lib.hid (how_24 HIB.out HTK.out)
                  have HIN := HIB
                  clear hag
                  by_cases hw : z.how = 2
                  · have h2 : (z.how == 2) = true := by simpa using hw
                    have h4 : (z.how == 4) = false := by rw [hw]; rfl
                    rw [if_pos hw] at HS
                    clear hw
                    by_cases b1 : z.beg = c.at_ + c.pat
                    · have e1 : (z.beg != c.at_ + c.pat) = false := by simp [b1]
                      by_cases b2 : z.fin = z.beg
                      · have HV := Lib.hid (show seE c z = 0 by rw [HS.out, if_pos ⟨b1, b2⟩])
                        have e2 : (z.fin != c.at_ + c.pat) = false := by rw [b2]; simp [b1]
                        have e3 : (z.fin != z.beg) = false := by simp [b2]
                        clear b1 b2
                        have HN := Lib.hid (fstE_zero HAC.out (HX.out.trans HV.out))
                        go_wp2_with (first
                          | (go_at_call 44; refine (in_any _ _ _ _).mono ?_; rintro e w' ⟨rfl, rfl⟩; first | rw [HIN.out] | rw [HIB.out] | fail)
                          | fail)
                        go_roundw
                        case rel => exact ⟨k + 1, by omega, by go_num, HG.out, HN.out⟩
                        case measure => simp [intOf]; omega
                      · have HV := Lib.hid (show seE c z = 3 by rw [HS.out, if_neg (fun h => b2 h.2)])
                        have e2 : (z.fin != c.at_ + c.pat) = true := by rw [← b1]; simpa using b2
                        have e3 : (z.fin != z.beg) = true := by simpa using b2
                        clear b1 b2
                        have HN := Lib.hid (show seatsE C l = 3 by rw [HV2.out, fstE_stop HAC.out (by rw [HX.out.trans HV.out]; decide) hlt, HX.out, HV.out])
                        go_wp2_with (first
                          | (go_at_call 44; refine (in_any _ _ _ _).mono ?_; rintro e w' ⟨rfl, rfl⟩; first | rw [HIN.out] | rw [HIB.out] | fail)
                          | fail)
                        go_ret
                        exact ⟨by rw [HN.out]; rfl, HG.out⟩
                    · have e1 : (z.beg != c.at_ + c.pat) = true := by simpa using b1
                      have HV := Lib.hid (show seE c z = 3 by rw [HS.out, if_neg (fun h => b1 h.1)])
                      clear b1
                      have HN := Lib.hid (show seatsE C l = 3 by rw [HV2.out, fstE_stop HAC.out (by rw [HX.out.trans HV.out]; decide) hlt, HX.out, HV.out])
                      go_wp2_with (first
                        | (go_at_call 44; refine (in_any _ _ _ _).mono ?_; rintro e w' ⟨rfl, rfl⟩; first | rw [HIN.out] | rw [HIB.out] | fail)
                        | fail)
                      go_ret
                      exact ⟨by rw [HN.out]; rfl, HG.out⟩
                  · have h2 : (z.how == 2) = false := by simpa using hw
                    have h4 : (z.how == 4) = true := by rw [HH4.out hw]; rfl
                    rw [if_neg hw] at HS
                    clear hw
                    by_cases b1 : z.beg = 0
                    · have e1 : (z.beg != 0) = false := by simp [b1]
                      by_cases b2 : z.fin = 0
                      · have HV := Lib.hid (show seE c z = 0 by rw [HS.out, if_pos ⟨b1, b2⟩])
                        have e2 : (z.fin != 0) = false := by simp [b2]
                        clear b1 b2
                        have HN := Lib.hid (fstE_zero HAC.out (HX.out.trans HV.out))
                        go_wp2_with (first
                          | (go_at_call 44; refine (in_any _ _ _ _).mono ?_; rintro e w' ⟨rfl, rfl⟩; first | rw [HIN.out] | rw [HIB.out] | fail)
                          | fail)
                        go_roundw
                        case rel => exact ⟨k + 1, by omega, by go_num, HG.out, HN.out⟩
                        case measure => simp [intOf]; omega
                      · have HV := Lib.hid (show seE c z = 3 by rw [HS.out, if_neg (fun h => b2 h.2)])
                        have e2 : (z.fin != 0) = true := by simpa using b2
                        clear b1 b2
                        have HN := Lib.hid (show seatsE C l = 3 by rw [HV2.out, fstE_stop HAC.out (by rw [HX.out.trans HV.out]; decide) hlt, HX.out, HV.out])
                        go_wp2_with (first
                          | (go_at_call 44; refine (in_any _ _ _ _).mono ?_; rintro e w' ⟨rfl, rfl⟩; first | rw [HIN.out] | rw [HIB.out] | fail)
                          | fail)
                        go_ret
                        exact ⟨by rw [HN.out]; rfl, HG.out⟩
                    · have e1 : (z.beg != 0) = true := by simpa using b1
                      have HV := Lib.hid (show seE c z = 3 by rw [HS.out, if_neg (fun h => b1 h.1)])
                      clear b1
                      have HN := Lib.hid (show seatsE C l = 3 by rw [HV2.out, fstE_stop HAC.out (by rw [HX.out.trans HV.out]; decide) hlt, HX.out, HV.out])
                      go_wp2_with (first
                        | (go_at_call 44; refine (in_any _ _ _ _).mono ?_; rintro e w' ⟨rfl, rfl⟩; first | rw [HIN.out] | rw [HIB.out] | fail)
                        | fail)
                      go_ret
                      exact ⟨by rw [HN.out]; rfl, HG.out⟩
                · obtain ⟨q1, q2, q3⟩ := str_full hag
                  rw [if_neg hag] at HS
                  have HV := Lib.hid (show seE c z = 3 from HS.out)
                  have HIN := HIB
                  clear hag
                  have HN := Lib.hid (show seatsE C l = 3 by rw [HV2.out, fstE_stop HAC.out (by rw [HX.out.trans HV.out]; decide) hlt, HX.out, HV.out])
                  go_wp2_with (first
                    | (go_at_call 44; refine (in_any _ _ _ _).mono ?_; rintro e w' ⟨rfl, rfl⟩; first | rw [HIN.out] | rw [HIB.out] | fail)
                    | fail)
                  go_ret
                  exact ⟨by rw [HN.out]; rfl, HG.out⟩
              · rw [if_pos rfl] at HS
                obtain ⟨h2, h4⟩ := how_13 HTK.out
                go_wp2_with (first
                  | (go_at_call 44; refine (in_any _ _ _ _).mono ?_; rintro e w' ⟨rfl, rfl⟩; rw [HIB.out])
                  | fail)
                refine (keyRefR_any z.ag _ (by omega)).mono ?_
                rintro e w4 ⟨rfl, hg4⟩
                rw [HKO.out]
                clear k0 k1 k2 k3 k4 c0 c2 c5 c6
                replace HB := Lib.hid (HB.out.grown hg4 (by simp))
                replace HC := Lib.hid (HC.out.grown hg4 (by simp))
                replace HG := Lib.hid (gr_none HG.out hg4)
                clear hg4
                have k0 := HB.out.cell 0
                have k1 := HB.out.cell 1
                have k2 := HB.out.cell 2
                have k3 := HB.out.cell 3
                have k4 := HB.out.cell 4
                have c0 := HC.out.cell 0
                have c2 := HC.out.cell 2
                have c5 := HC.out.cell 5
                have c6 := HC.out.cell 6
                clear qa qb
                have qa := 0
                clear qa
                cases KO
                · have HV := Lib.hid (show seE c z = 5 from HS.out)
                  have HIN := HIB
                  have HN := Lib.hid (show seatsE C l = 5 by rw [HV2.out, fstE_stop HAC.out (by rw [HX.out.trans HV.out]; decide) hlt, HX.out, HV.out])
                  go_wp2_with (first
                    | (go_at_call 44; refine (in_any _ _ _ _).mono ?_; rintro e w' ⟨rfl, rfl⟩; first | rw [HIN.out] | rw [HIB.out] | fail)
                    | fail)
                  go_ret
                  exact ⟨by rw [HN.out]; rfl, HG.out⟩
                · rw [if_pos rfl] at HS
                  by_cases b1 : c.at_ ≤ z.beg ∧ z.beg ≤ 691372800000
                  · have HIN := Lib.hid (show inB z.beg c.at_ 691372800000 = true by unfold inB; simp [b1.1, b1.2])
                    by_cases b4 : z.fin = z.beg + c.talk
                    · have HV := Lib.hid (show seE c z = 0 by rw [HS.out, if_pos ⟨b1.1, b1.2, b4⟩])
                      have e4 : (z.fin != z.beg + c.talk) = false := by simp [b4]
                      clear b1 b4
                      have HN := Lib.hid (fstE_zero HAC.out (HX.out.trans HV.out))
                      go_wp2_with (first
                        | (go_at_call 44; refine (in_any _ _ _ _).mono ?_; rintro e w' ⟨rfl, rfl⟩; first | rw [HIN.out] | rw [HIB.out] | fail)
                        | fail)
                      go_roundw
                      case rel => exact ⟨k + 1, by omega, by go_num, HG.out, HN.out⟩
                      case measure => simp [intOf]; omega
                    · have HV := Lib.hid (show seE c z = 3 by rw [HS.out, if_neg (fun h => b4 h.2.2)])
                      have e4 : (z.fin != z.beg + c.talk) = true := by simpa using b4
                      clear b1 b4
                      have HN := Lib.hid (show seatsE C l = 3 by rw [HV2.out, fstE_stop HAC.out (by rw [HX.out.trans HV.out]; decide) hlt, HX.out, HV.out])
                      go_wp2_with (first
                        | (go_at_call 44; refine (in_any _ _ _ _).mono ?_; rintro e w' ⟨rfl, rfl⟩; first | rw [HIN.out] | rw [HIB.out] | fail)
                        | fail)
                      go_ret
                      exact ⟨by rw [HN.out]; rfl, HG.out⟩
                  · have HIN := Lib.hid (show inB z.beg c.at_ 691372800000 = false by
                      unfold inB
                      rw [← Bool.not_eq_true, Bool.and_eq_true, decide_eq_true_eq, decide_eq_true_eq]
                      exact b1)
                    have HV := Lib.hid (show seE c z = 3 by rw [HS.out, if_neg (fun h => b1 ⟨h.1, h.2.1⟩)])
                    clear b1
                    have HN := Lib.hid (show seatsE C l = 3 by rw [HV2.out, fstE_stop HAC.out (by rw [HX.out.trans HV.out]; decide) hlt, HX.out, HV.out])
                    go_wp2_with (first
                      | (go_at_call 44; refine (in_any _ _ _ _).mono ?_; rintro e w' ⟨rfl, rfl⟩; first | rw [HIN.out] | rw [HIB.out] | fail)
                      | fail)
                    go_ret
                    exact ⟨by rw [HN.out]; rfl, HG.out⟩
          · have qa : (z.ca.toList == c.id.toList) = false := by rw [eqS_nb]; simpa using hA
            have qb : (z.ca.toList != c.id.toList) = true := by unfold bne; rw [qa]; rfl
            rw [if_neg hA] at HS
            have HV := Lib.hid (show seE c z = 3 from HS.out)
            have HIN := HIB
            clear hA
            have HN := Lib.hid (show seatsE C l = 3 by rw [HV2.out, fstE_stop HAC.out (by rw [HX.out.trans HV.out]; decide) hlt, HX.out, HV.out])
            go_wp2_with (first
              | (go_at_call 44; refine (in_any _ _ _ _).mono ?_; rintro e w' ⟨rfl, rfl⟩; first | rw [HIN.out] | rw [HIB.out] | fail)
              | fail)
            go_ret
            exact ⟨by rw [HN.out]; rfl, HG.out⟩
      · obtain rfl : k = n := by omega
        go_wp2_with fail
        go_ret
        exact ⟨by rw [HV2.out, HAC.out]; rfl, HG.out⟩
  · have dl : ((n : Int) != (cn : Int)) = true := by simp; omega
    have HV2 := Lib.hid (show seatsE C l = 3 by unfold seatsE; rw [if_neg (by omega)])
    clear hl
    go_enter Tryz.func29, Tryz.ntmps29
    go_wp2_with fail
    go_ret
    exact ⟨by rw [HV2.out]; rfl, gr_refl _ _⟩
end Go.Proofs.YtpeoijngmglbfaaGreatDoor

/- Contract of account.CheckRecords. Conditions: none. -/
import Derived.Test.YtpildcnoghojpaaGreatDoorBun4
import Derived.Test.YtpildcnoghojpaaGreatDoorBun6
import Derived.Test.YtpildcnoghojpaaGreatDoorBun1
namespace Go.Proofs.YtpildcnoghojpaaGreatDoor
open Go.RowKit
theorem exec_load_at {P : Program} {w : World} {o : Oper} {ev : Operand → Value} {ty : TypeId} {n : Nat} (T : StructT P ty n) (x : Operand) (ho : o.op = .load ty x) (p : Addr) (hx : ev x = .pointer (some p)) (cs : List Value) (hn : cs.length = n) (hc : ∀ j u, cs[j]? = some u → w.cell? (p.add j) = some u) :
    (execOp ev o).run P w = .ok (.value (.agg cs.toArray)) w := by
  unfold execOp
  simp only [ho, hx, Instr.loadAt, Instr.sureAddr, Sem.run_bind, Sem.run_pure, Result.andThen_ok, run_load_at T hn hc]
theorem dupB_one {l : List RcV} {k : Nat} {z : RcV} (h : l[k]? = some z) : dupB l (k + 1) = (dupB l k || memS ((l.take k).map (·.id)) z.id) := by rw [dupB, h]; rfl
theorem ids_one {l : List RcV} {k : Nat} {z : RcV} (h : l[k]? = some z) : (l.take (k + 1)).map (·.id) = (l.take k).map (·.id) ++ [z.id] := by
  rw [take_snoc' h, List.map_append]; rfl

set_option maxHeartbeats 8000000 in
set_option maxRecDepth 100000 in
theorem checkRecords_anyL (lo : Nat) (A : Option Addr) (n c : Nat) (l : List RcV) (w : World) (h : RcsL w lo A n c l) (hn : n ≤ 1000000000) :
    Calls Tryz.prog 73 #[.slice A n c] w (RetV (.int .i64 (rcsE l)) w) := by
  have H := Lib.hid h; clear h
  by_cases hb : 3000 < n
  · have HF := Lib.hid (show rcsE l = 2 by unfold rcsE; rw [if_pos (by rw [H.out.1.len]; exact hb)])
    have hb' : decide ((3000 : Int) < (n : Int)) = true := decide_eq_true (by omega)
    go_enter Tryz.func73, Tryz.ntmps73
    go_wp2_with fail
    go_ret
    exact ⟨by rw [HF.out]; rfl, gr_refl _ _⟩
  · have hb' : decide ((3000 : Int) < (n : Int)) = false := decide_eq_false (by omega)
    have HF := Lib.hid (show rcsE l = if fstE (rcAt l) n = 0 then (if dupB l n then 6 else 0) else fstE (rcAt l) n by unfold rcsE; rw [if_neg (by rw [H.out.1.len]; exact hb), H.out.1.len])
    have hmm := @run_makeMap Tryz.prog
    go_enter Tryz.func73, Tryz.ntmps73
    go_wp2_with fail
    clear hmm
    go_loopw [4, 5, 6, 13] (fun tw _ _ t wr => ∃ k : Nat, k ≤ n ∧ t = .int .i64 k ∧ w.grownBy wr none ∧ fstE (rcAt l) k = 0 ∧ tw = .bool (dupB l k) ∧ ∃ s m : Nat, SetS wr w.heap.size m ((l.take k).map (·.id)) s ∧ m ≤ k) (fun _ _ _ t _ => n - (intOf t).toNat)
    case atStart => exact ⟨0, Nat.zero_le _, rfl, gr_alloc (gr_refl _ _) _, rfl, rfl, 0, 0, SetS.new _, Nat.le_refl _⟩
    case round =>
      obtain ⟨k, hk, rfl, hg, ha, rfl, s0, m, hset, hm⟩ := hrel
      have zr := hg.size
      have zs : w.heap.size < wr.heap.size := by obtain ⟨_, h1, _⟩ := hset; exact h1.lt
      have HA := Lib.hid ha; have HG := Lib.hid hg; clear ha hg
      have HSET := Lib.hid hset; clear hset
      by_cases hlt : k < n
      · obtain ⟨g, o, ⟨id, frm, too, at_, ring, talk, how, car⟩, rfl, _, hgl, hz, hcc⟩ := (H.out.1.grown HG.out (fun g e => by cases e)).get RcV.row_len hlt
        have hok := H.out.2 _ (mem_of_get hz)
        have p1 : id.size ≤ 1000000 := hok.1
        have p2 : frm.size ≤ 1000000 := hok.2.1
        have p3 : too.size ≤ 1000000 := hok.2.2.1
        have p4 : car.size ≤ 1000000 := hok.2.2.2.1
        clear hok
        have HZ := Lib.hid hz; have HC := Lib.hid hcc; clear hz hcc
        obtain ⟨DB, hDB⟩ : ∃ D, dupB l k = D := ⟨_, rfl⟩
        rw [hDB]
        have HDB := Lib.hid hDB; clear hDB
        go_wp2_with (first
          | (refine wpl_load_at Tryz.rcT rfl _ rfl _ rfl [.string id, .string frm, .string too, .int .i64 at_, .int .i64 ring, .int .i64 talk, .int .i64 how, .string car] rfl (fun j u hu => by rw [add_mk]; exact HC.out j u hu) ?_)
          | fail)
        refine (isKey_any id _ (by omega)).mono ?_
        rintro e w2 ⟨rfl, hg2⟩
        have HB := Lib.hid (Blk.new wr 43 #[.string id, .string frm, .string too, .int .i64 at_, .int .i64 ring, .int .i64 talk, .int .i64 how, .string car])
        replace HG := Lib.hid (gr_alloc HG.out (.cells #[.string id, .string frm, .string too, .int .i64 at_, .int .i64 ring, .int .i64 talk, .int .i64 how, .string car] 43))
        replace HSET := Lib.hid (HSET.out.kept (gr_alloc (gr_refl _ none) (.cells #[.string id, .string frm, .string too, .int .i64 at_, .int .i64 ring, .int .i64 talk, .int .i64 how, .string car] 43)) (by simp))
        have k0 := True.intro; have k1 := k0; have k2 := k0; have k3 := k0; have k4 := k0; have k5 := k0; have k6 := k0; have k7 := k0
        replace HB := Lib.hid (HB.out.grown hg2 (by simp))
        replace HG := Lib.hid (gr_none HG.out hg2)
        (try replace HSET := Lib.hid (HSET.out.kept hg2 (by simp)))
        have z2 := (hg2).size
        clear k0 k1 k2 k3 k4 k5 k6 k7
        have k0 := HB.out.cell 0
        have k1 := HB.out.cell 1
        have k2 := HB.out.cell 2
        have k3 := HB.out.cell 3
        have k4 := HB.out.cell 4
        have k5 := HB.out.cell 5
        have k6 := HB.out.cell 6
        have k7 := HB.out.cell 7
        simp at z2
        clear hg2
        cases hB1 : keyOk (nb id)
        · have HFIN := Lib.hid (show rcsE l = 5 by have e := rcAt_5 HZ.out hB1; rw [HF.out, fstE_stop HA.out (by rw [e]; decide) hlt, e]; rfl)
          go_wp2_with (first
            | (go_at_call 53; refine (isMomB_any _ _).mono ?_; rintro e w1 ⟨rfl, rfl⟩; rw [HM.out])
            | (go_at_call 46; refine (withinA_any _ _ _ _).mono ?_; rintro e w1 ⟨rfl, rfl⟩; (first | rw [HRI.out] | rw [HTA.out] | rw [HHO.out] | fail))
            | fail)
          go_ret
          exact ⟨by rw [HFIN.out]; rfl, HG.out⟩
        · go_wp2_with fail
          refine (isNumber_any frm _ (by omega)).mono ?_
          rintro e w3 ⟨rfl, hg3⟩
          replace HB := Lib.hid (HB.out.grown hg3 (by simp))
          replace HG := Lib.hid (gr_none HG.out hg3)
          (try replace HSET := Lib.hid (HSET.out.kept hg3 (by simp)))
          have z2 := (hg3).size
          clear k0 k1 k2 k3 k4 k5 k6 k7
          have k0 := HB.out.cell 0
          have k1 := HB.out.cell 1
          have k2 := HB.out.cell 2
          have k3 := HB.out.cell 3
          have k4 := HB.out.cell 4
          have k5 := HB.out.cell 5
          have k6 := HB.out.cell 6
          have k7 := HB.out.cell 7
          clear hg3
          cases hF1 : phOk (nb frm)
          · have HFIN := Lib.hid (show rcsE l = 3 by have e := rcAt_3 HZ.out hB1 (by simp [hF1]); rw [HF.out, fstE_stop HA.out (by rw [e]; decide) hlt, e]; rfl)
            go_wp2_with (first
              | (go_at_call 53; refine (isMomB_any _ _).mono ?_; rintro e w1 ⟨rfl, rfl⟩; rw [HM.out])
              | (go_at_call 46; refine (withinA_any _ _ _ _).mono ?_; rintro e w1 ⟨rfl, rfl⟩; (first | rw [HRI.out] | rw [HTA.out] | rw [HHO.out] | fail))
              | fail)
            go_ret
            exact ⟨by rw [HFIN.out]; rfl, HG.out⟩
          · go_wp2_with fail
            refine (isNumber_any too _ (by omega)).mono ?_
            rintro e w4 ⟨rfl, hg4⟩
            replace HB := Lib.hid (HB.out.grown hg4 (by simp))
            replace HG := Lib.hid (gr_none HG.out hg4)
            (try replace HSET := Lib.hid (HSET.out.kept hg4 (by simp)))
            have z2 := (hg4).size
            clear k0 k1 k2 k3 k4 k5 k6 k7
            have k0 := HB.out.cell 0
            have k1 := HB.out.cell 1
            have k2 := HB.out.cell 2
            have k3 := HB.out.cell 3
            have k4 := HB.out.cell 4
            have k5 := HB.out.cell 5
            have k6 := HB.out.cell 6
            have k7 := HB.out.cell 7
            clear hg4
            cases hF2 : phOk (nb too)
            · have HFIN := Lib.hid (show rcsE l = 3 by have e := rcAt_3 HZ.out hB1 (by simp [hF1, hF2]); rw [HF.out, fstE_stop HA.out (by rw [e]; decide) hlt, e]; rfl)
              go_wp2_with (first
                | (go_at_call 53; refine (isMomB_any _ _).mono ?_; rintro e w1 ⟨rfl, rfl⟩; rw [HM.out])
                | (go_at_call 46; refine (withinA_any _ _ _ _).mono ?_; rintro e w1 ⟨rfl, rfl⟩; (first | rw [HRI.out] | rw [HTA.out] | rw [HHO.out] | fail))
                | fail)
              go_ret
              exact ⟨by rw [HFIN.out]; rfl, HG.out⟩
            · have hB2 : (phOk (nb frm) && phOk (nb too)) = true := by rw [hF1, hF2]; rfl
              obtain ⟨VM, hM⟩ : ∃ V, momB at_ = V := ⟨_, rfl⟩
              obtain ⟨VR, hR⟩ : ∃ V, inB ring 0 86400000 = V := ⟨_, rfl⟩
              obtain ⟨VT, hT⟩ : ∃ V, inB talk 0 86400000 = V := ⟨_, rfl⟩
              obtain ⟨VH, hH⟩ : ∃ V, inB how 1 4 = V := ⟨_, rfl⟩
              have hNum : rcNum ⟨id, frm, too, at_, ring, talk, how, car⟩ = (VM && VR && VT) := by unfold rcNum; rw [hM, hR, hT]
              have HM := Lib.hid hM; have HRI := Lib.hid hR; have HTA := Lib.hid hT; have HHO := Lib.hid hH; have HNUM := Lib.hid hNum
              clear hM hR hT hH hNum
              cases VM
              · have HFIN := Lib.hid (show rcsE l = 1 by have e := rcAt_1 HZ.out hB1 hB2 (HNUM.out.trans rfl); rw [HF.out, fstE_stop HA.out (by rw [e]; decide) hlt, e]; rfl)
                go_wp2_with (first
                  | (go_at_call 53; refine (isMomB_any _ _).mono ?_; rintro e w1 ⟨rfl, rfl⟩; rw [HM.out])
                  | (go_at_call 46; refine (withinA_any _ _ _ _).mono ?_; rintro e w1 ⟨rfl, rfl⟩; (first | rw [HRI.out] | rw [HTA.out] | rw [HHO.out] | fail))
                  | fail)
                go_ret
                exact ⟨by rw [HFIN.out]; rfl, HG.out⟩
              · cases VR
                · have HFIN := Lib.hid (show rcsE l = 1 by have e := rcAt_1 HZ.out hB1 hB2 (HNUM.out.trans rfl); rw [HF.out, fstE_stop HA.out (by rw [e]; decide) hlt, e]; rfl)
                  go_wp2_with (first
                    | (go_at_call 53; refine (isMomB_any _ _).mono ?_; rintro e w1 ⟨rfl, rfl⟩; rw [HM.out])
                    | (go_at_call 46; refine (withinA_any _ _ _ _).mono ?_; rintro e w1 ⟨rfl, rfl⟩; (first | rw [HRI.out] | rw [HTA.out] | rw [HHO.out] | fail))
                    | fail)
                  go_ret
                  exact ⟨by rw [HFIN.out]; rfl, HG.out⟩
                · cases VT
                  · have HFIN := Lib.hid (show rcsE l = 1 by have e := rcAt_1 HZ.out hB1 hB2 (HNUM.out.trans rfl); rw [HF.out, fstE_stop HA.out (by rw [e]; decide) hlt, e]; rfl)
                    go_wp2_with (first
                      | (go_at_call 53; refine (isMomB_any _ _).mono ?_; rintro e w1 ⟨rfl, rfl⟩; rw [HM.out])
                      | (go_at_call 46; refine (withinA_any _ _ _ _).mono ?_; rintro e w1 ⟨rfl, rfl⟩; (first | rw [HRI.out] | rw [HTA.out] | rw [HHO.out] | fail))
                      | fail)
                    go_ret
                    exact ⟨by rw [HFIN.out]; rfl, HG.out⟩
                  · have hB3 : rcNum ⟨id, frm, too, at_, ring, talk, how, car⟩ = true := HNUM.out
                    cases VH
                    · have HFIN := Lib.hid (show rcsE l = 4 by have e := rcAt_4 HZ.out hB1 hB2 hB3 HHO.out; rw [HF.out, fstE_stop HA.out (by rw [e]; decide) hlt, e]; rfl)
                      go_wp2_with (first
                        | (go_at_call 53; refine (isMomB_any _ _).mono ?_; rintro e w1 ⟨rfl, rfl⟩; rw [HM.out])
                        | (go_at_call 46; refine (withinA_any _ _ _ _).mono ?_; rintro e w1 ⟨rfl, rfl⟩; (first | rw [HRI.out] | rw [HTA.out] | rw [HHO.out] | fail))
                        | fail)
                      go_ret
                      exact ⟨by rw [HFIN.out]; rfl, HG.out⟩
                    · obtain ⟨VA, hA⟩ : ∃ V, (how == 1) = V := ⟨_, rfl⟩
                      obtain ⟨VB, hVB⟩ : ∃ V, decide (0 < talk) = V := ⟨_, rfl⟩
                      have hA2 : decide (how = 1) = VA := by rw [← hA]; rfl
                      obtain ⟨VE, hE⟩ : ∃ V, (VA != VB) = V := ⟨_, rfl⟩
                      have hE2 : (VA ^^ VB) = VE := hE
                      have hE3 : (!VA == VB) = VE := by rw [← hE]; cases VA <;> cases VB <;> rfl
                      have hEV : ((how == 1) == decide (0 < talk)) = !VE := by rw [hA, hVB, ← hE]; cases VA <;> cases VB <;> rfl
                      have HEV := Lib.hid hEV; clear hEV
                      cases VE
                      · have hB5 : ((how == 1) == decide (0 < talk)) = true := HEV.out
                        by_cases hcar : nb car = []
                        · have q0 := str_nil hcar
                          have hB6 : rcCar ⟨id, frm, too, at_, ring, talk, how, car⟩ = true := by unfold rcCar; simp [hcar]
                          clear hcar
                          go_wp2_with (first
                            | (go_at_call 53; refine (isMomB_any _ _).mono ?_; rintro e w1 ⟨rfl, rfl⟩; rw [HM.out])
                            | (go_at_call 46; refine (withinA_any _ _ _ _).mono ?_; rintro e w1 ⟨rfl, rfl⟩; (first | rw [HRI.out] | rw [HTA.out] | rw [HHO.out] | fail))
                            | fail)
                          clear q0
                          have HB1 := Lib.hid hB1; have HB2 := Lib.hid hB2; have HB3 := Lib.hid hB3; have HB5 := Lib.hid hB5; have HB6 := Lib.hid hB6
                          clear hB1 hB2 hB3 hB5 hB6 hA hVB hA2 hE hE2 hE3 hF1 hF2
                          rcases Nat.eq_zero_or_pos k with h0 | h0
                          · have HE := Lib.hid (rcAt_z HZ.out HB1.out HB2.out HB3.out HHO.out HB5.out HB6.out (by omega))
                            have hi0 : decide ((0 : Int) < (k : Int)) = false := decide_eq_false (by omega)
                            refine H_begin (fun w' => w4.grownBy w' none) (by kernel_rfl) ?_
                            have hHeld : w4.grownBy w4.drew none := gr_drew (gr_refl _ _)
                            refine H_take (k := 0) (v := ?_) (by rfl) (by kernel_rfl) (by kernel_rfl) (by kernel_rfl) (by exact fun _ _ _ h => h) (by rfl) ?_ (by assumption) ?_
                            rotate_left 1
                            · intro w hSw
                              (try dsimp only at hSw)
                              go_simp
                              (try with_reducible rfl)
                            (try simp only [Act.put, List.setIfInBounds_toArray, List.set_cons_zero, List.set_cons_succ])
                            refine H_take (k := 1) (v := ?_) (by rfl) (by kernel_rfl) (by kernel_rfl) (by kernel_rfl) (by exact fun _ _ _ h => h) (by rfl) ?_ (by assumption) ?_
                            rotate_left 1
                            · intro w hSw
                              (try dsimp only at hSw)
                              go_simp
                              (try with_reducible rfl)
                            (try simp only [Act.put, List.setIfInBounds_toArray, List.set_cons_zero, List.set_cons_succ])
                            refine H_take (k := 2) (v := ?_) (by rfl) (by kernel_rfl) (by kernel_rfl) (by kernel_rfl) (by exact fun _ _ _ h => h) (by rfl) ?_ (by assumption) ?_
                            rotate_left 1
                            · intro w hSw
                              (try dsimp only at hSw)
                              go_simp
                              (try with_reducible rfl)
                            (try simp only [Act.put, List.setIfInBounds_toArray, List.set_cons_zero, List.set_cons_succ])
                            refine H_skip (k := 3) (by rfl) (by kernel_rfl) (by kernel_rfl) (by kernel_rfl) (by exact fun _ _ _ h => h) (by rfl) (by assumption) ?_
                            (try simp only [Act.put, List.setIfInBounds_toArray, List.set_cons_zero, List.set_cons_succ])
                            refine H_skip (k := 4) (by rfl) (by kernel_rfl) (by kernel_rfl) (by kernel_rfl) (by exact fun _ _ _ h => h) (by rfl) (by assumption) ?_
                            (try simp only [Act.put, List.setIfInBounds_toArray, List.set_cons_zero, List.set_cons_succ])
                            refine H_skip (k := 5) (by rfl) (by kernel_rfl) (by kernel_rfl) (by kernel_rfl) (by exact fun _ _ _ h => h) (by rfl) (by assumption) ?_
                            (try simp only [Act.put, List.setIfInBounds_toArray, List.set_cons_zero, List.set_cons_succ])
                            refine H_skip (k := 6) (by rfl) (by kernel_rfl) (by kernel_rfl) (by kernel_rfl) (by exact fun _ _ _ h => h) (by rfl) (by assumption) ?_
                            (try simp only [Act.put, List.setIfInBounds_toArray, List.set_cons_zero, List.set_cons_succ])
                            refine H_skip (k := 7) (by rfl) (by kernel_rfl) (by kernel_rfl) (by kernel_rfl) (by exact fun _ _ _ h => h) (by rfl) (by assumption) ?_
                            (try simp only [Act.put, List.setIfInBounds_toArray, List.set_cons_zero, List.set_cons_succ])
                            refine H_skip (k := 8) (by rfl) (by kernel_rfl) (by kernel_rfl) (by kernel_rfl) (by exact fun _ _ _ h => h) (by rfl) (by assumption) ?_
                            (try simp only [Act.put, List.setIfInBounds_toArray, List.set_cons_zero, List.set_cons_succ])
                            refine H_skip (k := 9) (by rfl) (by kernel_rfl) (by kernel_rfl) (by kernel_rfl) (by exact fun _ _ _ h => h) (by rfl) (by assumption) ?_
                            (try simp only [Act.put, List.setIfInBounds_toArray, List.set_cons_zero, List.set_cons_succ])
                            refine H_skip (k := 10) (by rfl) (by kernel_rfl) (by kernel_rfl) (by kernel_rfl) (by exact fun _ _ _ h => h) (by rfl) (by assumption) ?_
                            (try simp only [Act.put, List.setIfInBounds_toArray, List.set_cons_zero, List.set_cons_succ])
                            refine H_take (k := 11) (v := ?_) (by rfl) (by kernel_rfl) (by kernel_rfl) (by kernel_rfl) (by exact fun _ _ _ h => h) (by rfl) ?_ (by assumption) ?_
                            rotate_left 1
                            · intro w hSw
                              (try dsimp only at hSw)
                              go_simp
                              (try with_reducible rfl)
                            (try simp only [Act.put, List.setIfInBounds_toArray, List.set_cons_zero, List.set_cons_succ])
                            refine H_take (k := 12) (v := ?_) (by rfl) (by kernel_rfl) (by kernel_rfl) (by kernel_rfl) (by exact fun _ _ _ h => h) (by rfl) ?_ (by assumption) ?_
                            rotate_left 1
                            · intro w hSw
                              (try dsimp only at hSw)
                              go_simp
                              (try with_reducible rfl)
                            (try simp only [Act.put, List.setIfInBounds_toArray, List.set_cons_zero, List.set_cons_succ])
                            refine H_done (by kernel_rfl) ?_
                            clear hi0
                            obtain ⟨wz, hwz⟩ : ∃ wz, w4.drew = wz := ⟨_, rfl⟩
                            rw [hwz]
                            have hgz : w4.grownBy wz none := by rw [← hwz]; exact gr_drew (gr_refl _ _)
                            replace HB := Lib.hid (HB.out.grown hgz (by simp))
                            replace HG := Lib.hid (gr_none HG.out hgz)
                            (try replace HSET := Lib.hid (HSET.out.kept hgz (by simp)))
                            have z2 := (hgz).size
                            clear k0 k1 k2 k3 k4 k5 k6 k7
                            have k0 := HB.out.cell 0
                            have k1 := HB.out.cell 1
                            have k2 := HB.out.cell 2
                            have k3 := HB.out.cell 3
                            have k4 := HB.out.cell 4
                            have k5 := HB.out.cell 5
                            have k6 := HB.out.cell 6
                            have k7 := HB.out.cell 7
                            clear hgz hwz hHeld
                            obtain ⟨M, hM⟩ : ∃ M, memS ((l.take k).map (·.id)) id = M := ⟨_, rfl⟩
                            have HM := Lib.hid hM; clear hM
                            cases DB
                            · have hlk := HSET.out.look (k := id) (by unfold maxLen; omega)
                              rw [HM.out] at hlk
                              go_wp2_with (first
                                | (at_mapUpdate
                                   refine wpl_sput rfl _ _ _ rfl rfl id rfl rfl (by unfold maxLen; omega) (by exact HSET.out) (by unfold maxLen; omega) ?_
                                   intro wq hset5 hg5
                                   have HS5 := Lib.hid hset5; have HG5 := Lib.hid (gr_trans HG.out hg5 (fun g e => .inr (by injection e with e; omega)))
                                   clear hset5 hg5)
                                | fail)
                              go_roundw
                              case rel => exact ⟨k + 1, by omega, by go_num, HG5.out, fstE_zero HA.out HE.out, by rw [dupB_one HZ.out, HDB.out, HM.out]; rfl, _, _, by rw [ids_one HZ.out]; exact HS5.out, by omega⟩
                              case measure => simp [intOf]; omega
                            · go_wp2_with (first
                                | (at_mapUpdate
                                   refine wpl_sput rfl _ _ _ rfl rfl id rfl rfl (by unfold maxLen; omega) (by exact HSET.out) (by unfold maxLen; omega) ?_
                                   intro wq hset5 hg5
                                   have HS5 := Lib.hid hset5; have HG5 := Lib.hid (gr_trans HG.out hg5 (fun g e => .inr (by injection e with e; omega)))
                                   clear hset5 hg5)
                                | fail)
                              go_roundw
                              case rel => exact ⟨k + 1, by omega, by go_num, HG5.out, fstE_zero HA.out HE.out, by rw [dupB_one HZ.out, HDB.out]; rfl, _, _, by rw [ids_one HZ.out]; exact HS5.out, by omega⟩
                              case measure => simp [intOf]; omega
                          · obtain ⟨⟨id', frm', too', at', ring', talk', how', car'⟩, hb⟩ : ∃ b, l[k - 1]? = some b := ⟨_, List.getElem?_eq_getElem (by rw [H.out.1.len]; omega)⟩
                            have HBB := Lib.hid hb; clear hb
                            have HPC := Lib.hid ((H.out.1.grown HG.out (fun g e => by cases e)).at_ RcV.row_len HBB.out)
                            have hi0 : decide ((0 : Int) < (k : Int)) = true := decide_eq_true (by omega)
                            have s2 : (0 : Int) ≤ (k : Int) - 1 := by omega
                            have s5 : (1 : Int) ≤ (k : Int) := by omega
                            have s3 : (k : Int) - 1 < (n : Int) := by omega
                            have s6 : (0 : Int) < (n : Int) := by omega
                            have s1 : IntKind.i64.wrap ((k : Int) - 1) = (k : Int) - 1 := IntWalk.i64_in _ (by omega)
                            have s4 : ((k : Int) - 1).toNat = k - 1 := by omega
                            obtain ⟨VO, hVO⟩ : ∃ V, decide (0 ≤ rcCmp ⟨id', frm', too', at', ring', talk', how', car'⟩ ⟨id, frm, too, at_, ring, talk, how, car⟩) = V := ⟨_, rfl⟩
                            have HVO := Lib.hid hVO; clear hVO
                            refine H_begin (fun w' => w4.grownBy w' none) (by kernel_rfl) ?_
                            have hHeld : w4.grownBy w4.drew none := gr_drew (gr_refl _ _)
                            refine H_take (k := 0) (v := ?_) (by rfl) (by kernel_rfl) (by kernel_rfl) (by kernel_rfl) (by exact fun _ _ _ h => h) (by rfl) ?_ (by assumption) ?_
                            rotate_left 1
                            · intro w hSw
                              (try dsimp only at hSw)
                              go_simp
                              (try with_reducible rfl)
                            (try simp only [Act.put, List.setIfInBounds_toArray, List.set_cons_zero, List.set_cons_succ])
                            refine H_take (k := 1) (v := ?_) (by rfl) (by kernel_rfl) (by kernel_rfl) (by kernel_rfl) (by exact fun _ _ _ h => h) (by rfl) ?_ (by assumption) ?_
                            rotate_left 1
                            · intro w hSw
                              (try dsimp only at hSw)
                              go_simp
                              (try with_reducible rfl)
                            (try simp only [Act.put, List.setIfInBounds_toArray, List.set_cons_zero, List.set_cons_succ])
                            refine H_take (k := 2) (v := ?_) (by rfl) (by kernel_rfl) (by kernel_rfl) (by kernel_rfl) (by exact fun _ _ _ h => h) (by rfl) ?_ (by assumption) ?_
                            rotate_left 1
                            · intro w hSw
                              (try dsimp only at hSw)
                              go_simp
                              (try with_reducible rfl)
                            (try simp only [Act.put, List.setIfInBounds_toArray, List.set_cons_zero, List.set_cons_succ])
                            refine H_take (k := 3) (v := ?_) (by rfl) (by kernel_rfl) (by kernel_rfl) (by kernel_rfl) (by exact fun _ _ _ h => h) (by rfl) ?_ (by assumption) ?_
                            rotate_left 1
                            · intro w hSw
                              (try dsimp only at hSw)
                              go_simp
                              (try with_reducible rfl)
                            (try simp only [Act.put, List.setIfInBounds_toArray, List.set_cons_zero, List.set_cons_succ])
                            refine H_take (k := 4) (v := ?_) (by rfl) (by kernel_rfl) (by kernel_rfl) (by kernel_rfl) (by exact fun _ _ _ h => h) (by rfl) ?_ (by assumption) ?_
                            rotate_left 1
                            · intro w hSw
                              (try dsimp only at hSw)
                              go_simp
                              (try with_reducible rfl)
                            (try simp only [Act.put, List.setIfInBounds_toArray, List.set_cons_zero, List.set_cons_succ])
                            refine H_take (k := 5) (v := ?_) (by rfl) (by kernel_rfl) (by kernel_rfl) (by kernel_rfl) (by exact fun _ _ _ h => h) (by rfl) ?_ (by assumption) ?_
                            rotate_left 1
                            · intro w hSw
                              (try dsimp only at hSw)
                              go_simp
                              (try with_reducible rfl)
                            (try simp only [Act.put, List.setIfInBounds_toArray, List.set_cons_zero, List.set_cons_succ])
                            refine H_take (k := 6) (v := ?_) (by rfl) (by kernel_rfl) (by kernel_rfl) (by kernel_rfl) (by exact fun _ _ _ h => h) (by rfl) ?_ (by assumption) ?_
                            rotate_left 1
                            · intro w hSw
                              (try dsimp only at hSw)
                              go_simp
                              (try with_reducible rfl)
                            (try simp only [Act.put, List.setIfInBounds_toArray, List.set_cons_zero, List.set_cons_succ])
                            refine H_take (k := 7) (v := .agg #[.string id', .string frm', .string too', .int .i64 at', .int .i64 ring', .int .i64 talk', .int .i64 how', .string car']) (by rfl) (by kernel_rfl) (by kernel_rfl) (by kernel_rfl) (by exact fun _ _ _ h => h) (by rfl) (fun w' hSw => exec_load_at Tryz.rcT _ rfl _ rfl [.string id', .string frm', .string too', .int .i64 at', .int .i64 ring', .int .i64 talk', .int .i64 how', .string car'] rfl (fun j u hu => by rw [add_mk]; exact ((H.out.1.grown (gr_none HG.out hSw) (fun g e => by cases e)).at_ RcV.row_len HBB.out) j u hu)) (by assumption) ?_
                            (try simp only [Act.put, List.setIfInBounds_toArray, List.set_cons_zero, List.set_cons_succ])
                            refine H_take (k := 8) (v := .agg #[.string id, .string frm, .string too, .int .i64 at_, .int .i64 ring, .int .i64 talk, .int .i64 how, .string car]) (by rfl) (by kernel_rfl) (by kernel_rfl) (by kernel_rfl) (by exact fun _ _ _ h => h) (by rfl) (fun w' hSw => exec_load_at Tryz.rcT _ rfl _ rfl [.string id, .string frm, .string too, .int .i64 at_, .int .i64 ring, .int .i64 talk, .int .i64 how, .string car] rfl (fun j u hu => by rw [add_mk, Nat.zero_add]; have hj := (List.getElem?_eq_some_iff.1 hu).1; exact ((HB.out.grown hSw (by simp)).cell j).trans (by simpa using hu))) (by assumption) ?_
                            (try simp only [Act.put, List.setIfInBounds_toArray, List.set_cons_zero, List.set_cons_succ])
                            refine H_run (k := 9) (by rfl) (by kernel_rfl) (by rfl) (fun K hK => ?_)
                            go_simp
                            refine (compareR_any ⟨id', frm', too', at', ring', talk', how', car'⟩ ⟨id, frm, too, at_, ring, talk, how, car⟩ _).mono ?_
                            rintro e w6 ⟨rfl, hg6⟩
                            go_simp
                            refine hK _ _ (gr_none (gr_drew (gr_refl w4 none)) hg6) ?_
                            clear hK K hHeld
                            have hgz : w4.grownBy w6 none := gr_none (gr_drew (gr_refl w4 none)) hg6
                            have hHeld := hgz
                            have hO1 := HVO.out
                            refine H_take (k := 10) (v := ?_) (by rfl) (by kernel_rfl) (by kernel_rfl) (by kernel_rfl) (by exact fun _ _ _ h => h) (by rfl) ?_ (by assumption) ?_
                            rotate_left 1
                            · intro w hSw
                              (try dsimp only at hSw)
                              go_simp
                              (try with_reducible rfl)
                            (try simp only [Act.put, List.setIfInBounds_toArray, List.set_cons_zero, List.set_cons_succ])
                            refine H_take (k := 11) (v := ?_) (by rfl) (by kernel_rfl) (by kernel_rfl) (by kernel_rfl) (by exact fun _ _ _ h => h) (by rfl) ?_ (by assumption) ?_
                            rotate_left 1
                            · intro w hSw
                              (try dsimp only at hSw)
                              go_simp
                              (try with_reducible rfl)
                            (try simp only [Act.put, List.setIfInBounds_toArray, List.set_cons_zero, List.set_cons_succ])
                            refine H_take (k := 12) (v := ?_) (by rfl) (by kernel_rfl) (by kernel_rfl) (by kernel_rfl) (by exact fun _ _ _ h => h) (by rfl) ?_ (by assumption) ?_
                            rotate_left 1
                            · intro w hSw
                              (try dsimp only at hSw)
                              go_simp
                              (try with_reducible rfl)
                            (try simp only [Act.put, List.setIfInBounds_toArray, List.set_cons_zero, List.set_cons_succ])
                            refine H_done (by kernel_rfl) ?_
                            clear hi0 s1 s2 s3 s4 s5 s6 hO1 HPC hg6
                            replace HB := Lib.hid (HB.out.grown hgz (by simp))
                            replace HG := Lib.hid (gr_none HG.out hgz)
                            (try replace HSET := Lib.hid (HSET.out.kept hgz (by simp)))
                            have z2 := (hgz).size
                            clear k0 k1 k2 k3 k4 k5 k6 k7
                            have k0 := HB.out.cell 0
                            have k1 := HB.out.cell 1
                            have k2 := HB.out.cell 2
                            have k3 := HB.out.cell 3
                            have k4 := HB.out.cell 4
                            have k5 := HB.out.cell 5
                            have k6 := HB.out.cell 6
                            have k7 := HB.out.cell 7
                            clear hgz hHeld
                            cases VO
                            · have HE := Lib.hid (rcAt_e HZ.out HB1.out HB2.out HB3.out HHO.out HB5.out HB6.out HBB.out (of_decide_eq_false HVO.out))
                              obtain ⟨M, hM⟩ : ∃ M, memS ((l.take k).map (·.id)) id = M := ⟨_, rfl⟩
                              have HM := Lib.hid hM; clear hM
                              cases DB
                              · have hlk := HSET.out.look (k := id) (by unfold maxLen; omega)
                                rw [HM.out] at hlk
                                go_wp2_with (first
                                  | (at_mapUpdate
                                     refine wpl_sput rfl _ _ _ rfl rfl id rfl rfl (by unfold maxLen; omega) (by exact HSET.out) (by unfold maxLen; omega) ?_
                                     intro wq hset5 hg5
                                     have HS5 := Lib.hid hset5; have HG5 := Lib.hid (gr_trans HG.out hg5 (fun g e => .inr (by injection e with e; omega)))
                                     clear hset5 hg5)
                                  | fail)
                                go_roundw
                                case rel => exact ⟨k + 1, by omega, by go_num, HG5.out, fstE_zero HA.out HE.out, by rw [dupB_one HZ.out, HDB.out, HM.out]; rfl, _, _, by rw [ids_one HZ.out]; exact HS5.out, by omega⟩
                                case measure => simp [intOf]; omega
                              · go_wp2_with (first
                                  | (at_mapUpdate
                                     refine wpl_sput rfl _ _ _ rfl rfl id rfl rfl (by unfold maxLen; omega) (by exact HSET.out) (by unfold maxLen; omega) ?_
                                     intro wq hset5 hg5
                                     have HS5 := Lib.hid hset5; have HG5 := Lib.hid (gr_trans HG.out hg5 (fun g e => .inr (by injection e with e; omega)))
                                     clear hset5 hg5)
                                  | fail)
                                go_roundw
                                case rel => exact ⟨k + 1, by omega, by go_num, HG5.out, fstE_zero HA.out HE.out, by rw [dupB_one HZ.out, HDB.out]; rfl, _, _, by rw [ids_one HZ.out]; exact HS5.out, by omega⟩
                                case measure => simp [intOf]; omega
                            · have e := rcAt_7 HZ.out HB1.out HB2.out HB3.out HHO.out HB5.out HB6.out h0 HBB.out (of_decide_eq_true HVO.out)
                              have HFIN := Lib.hid (show rcsE l = 7 by rw [HF.out, fstE_stop HA.out (by rw [e]; decide) hlt, e]; rfl)
                              clear e
                              go_wp2_with fail
                              go_ret
                              exact ⟨by rw [HFIN.out]; rfl, HG.out⟩
                        · obtain ⟨q1, q2, q3⟩ := str_full hcar
                          have hCE : rcCar ⟨id, frm, too, at_, ring, talk, how, car⟩ = keyOk (nb car) := by unfold rcCar; rw [decide_eq_false hcar]; rfl
                          clear hcar
                          go_wp2_with (first
                            | (go_at_call 53; refine (isMomB_any _ _).mono ?_; rintro e w1 ⟨rfl, rfl⟩; rw [HM.out])
                            | (go_at_call 46; refine (withinA_any _ _ _ _).mono ?_; rintro e w1 ⟨rfl, rfl⟩; (first | rw [HRI.out] | rw [HTA.out] | rw [HHO.out] | fail))
                            | fail)
                          refine (isKey_any car _ (by omega)).mono ?_
                          rintro e w5 ⟨rfl, hg5⟩
                          replace HB := Lib.hid (HB.out.grown hg5 (by simp))
                          replace HG := Lib.hid (gr_none HG.out hg5)
                          (try replace HSET := Lib.hid (HSET.out.kept hg5 (by simp)))
                          have z2 := (hg5).size
                          clear k0 k1 k2 k3 k4 k5 k6 k7
                          have k0 := HB.out.cell 0
                          have k1 := HB.out.cell 1
                          have k2 := HB.out.cell 2
                          have k3 := HB.out.cell 3
                          have k4 := HB.out.cell 4
                          have k5 := HB.out.cell 5
                          have k6 := HB.out.cell 6
                          have k7 := HB.out.cell 7
                          clear hg5
                          cases hK : keyOk (nb car)
                          · have HFIN := Lib.hid (show rcsE l = 5 by have e := rcAt_5b HZ.out hB1 hB2 hB3 HHO.out hB5 (hCE.trans hK); rw [HF.out, fstE_stop HA.out (by rw [e]; decide) hlt, e]; rfl)
                            go_wp2_with (first
                              | (go_at_call 53; refine (isMomB_any _ _).mono ?_; rintro e w1 ⟨rfl, rfl⟩; rw [HM.out])
                              | (go_at_call 46; refine (withinA_any _ _ _ _).mono ?_; rintro e w1 ⟨rfl, rfl⟩; (first | rw [HRI.out] | rw [HTA.out] | rw [HHO.out] | fail))
                              | fail)
                            go_ret
                            exact ⟨by rw [HFIN.out]; rfl, HG.out⟩
                          · have hB6 : rcCar ⟨id, frm, too, at_, ring, talk, how, car⟩ = true := hCE.trans hK
                            go_wp2_with fail
                            clear q1 q2 q3
                            have HB1 := Lib.hid hB1; have HB2 := Lib.hid hB2; have HB3 := Lib.hid hB3; have HB5 := Lib.hid hB5; have HB6 := Lib.hid hB6
                            clear hB1 hB2 hB3 hB5 hB6 hA hVB hA2 hE hE2 hE3 hF1 hF2
                            rcases Nat.eq_zero_or_pos k with h0 | h0
                            · have HE := Lib.hid (rcAt_z HZ.out HB1.out HB2.out HB3.out HHO.out HB5.out HB6.out (by omega))
                              have hi0 : decide ((0 : Int) < (k : Int)) = false := decide_eq_false (by omega)
                              refine H_begin (fun w' => w5.grownBy w' none) (by kernel_rfl) ?_
                              have hHeld : w5.grownBy w5.drew none := gr_drew (gr_refl _ _)
                              refine H_take (k := 0) (v := ?_) (by rfl) (by kernel_rfl) (by kernel_rfl) (by kernel_rfl) (by exact fun _ _ _ h => h) (by rfl) ?_ (by assumption) ?_
                              rotate_left 1
                              · intro w hSw
                                (try dsimp only at hSw)
                                go_simp
                                (try with_reducible rfl)
                              (try simp only [Act.put, List.setIfInBounds_toArray, List.set_cons_zero, List.set_cons_succ])
                              refine H_take (k := 1) (v := ?_) (by rfl) (by kernel_rfl) (by kernel_rfl) (by kernel_rfl) (by exact fun _ _ _ h => h) (by rfl) ?_ (by assumption) ?_
                              rotate_left 1
                              · intro w hSw
                                (try dsimp only at hSw)
                                go_simp
                                (try with_reducible rfl)
                              (try simp only [Act.put, List.setIfInBounds_toArray, List.set_cons_zero, List.set_cons_succ])
                              refine H_take (k := 2) (v := ?_) (by rfl) (by kernel_rfl) (by kernel_rfl) (by kernel_rfl) (by exact fun _ _ _ h => h) (by rfl) ?_ (by assumption) ?_
                              rotate_left 1
                              · intro w hSw
                                (try dsimp only at hSw)
                                go_simp
                                (try with_reducible rfl)
                              (try simp only [Act.put, List.setIfInBounds_toArray, List.set_cons_zero, List.set_cons_succ])
                              refine H_skip (k := 3) (by rfl) (by kernel_rfl) (by kernel_rfl) (by kernel_rfl) (by exact fun _ _ _ h => h) (by rfl) (by assumption) ?_
                              (try simp only [Act.put, List.setIfInBounds_toArray, List.set_cons_zero, List.set_cons_succ])
                              refine H_skip (k := 4) (by rfl) (by kernel_rfl) (by kernel_rfl) (by kernel_rfl) (by exact fun _ _ _ h => h) (by rfl) (by assumption) ?_
                              (try simp only [Act.put, List.setIfInBounds_toArray, List.set_cons_zero, List.set_cons_succ])
                              refine H_skip (k := 5) (by rfl) (by kernel_rfl) (by kernel_rfl) (by kernel_rfl) (by exact fun _ _ _ h => h) (by rfl) (by assumption) ?_
                              (try simp only [Act.put, List.setIfInBounds_toArray, List.set_cons_zero, List.set_cons_succ])
                              refine H_skip (k := 6) (by rfl) (by kernel_rfl) (by kernel_rfl) (by kernel_rfl) (by exact fun _ _ _ h => h) (by rfl) (by assumption) ?_
                              (try simp only [Act.put, List.setIfInBounds_toArray, List.set_cons_zero, List.set_cons_succ])
                              refine H_skip (k := 7) (by rfl) (by kernel_rfl) (by kernel_rfl) (by kernel_rfl) (by exact fun _ _ _ h => h) (by rfl) (by assumption) ?_
                              (try simp only [Act.put, List.setIfInBounds_toArray, List.set_cons_zero, List.set_cons_succ])
                              refine H_skip (k := 8) (by rfl) (by kernel_rfl) (by kernel_rfl) (by kernel_rfl) (by exact fun _ _ _ h => h) (by rfl) (by assumption) ?_
                              (try simp only [Act.put, List.setIfInBounds_toArray, List.set_cons_zero, List.set_cons_succ])
                              refine H_skip (k := 9) (by rfl) (by kernel_rfl) (by kernel_rfl) (by kernel_rfl) (by exact fun _ _ _ h => h) (by rfl) (by assumption) ?_
                              (try simp only [Act.put, List.setIfInBounds_toArray, List.set_cons_zero, List.set_cons_succ])
                              refine H_skip (k := 10) (by rfl) (by kernel_rfl) (by kernel_rfl) (by kernel_rfl) (by exact fun _ _ _ h => h) (by rfl) (by assumption) ?_
                              (try simp only [Act.put, List.setIfInBounds_toArray, List.set_cons_zero, List.set_cons_succ])
                              refine H_take (k := 11) (v := ?_) (by rfl) (by kernel_rfl) (by kernel_rfl) (by kernel_rfl) (by exact fun _ _ _ h => h) (by rfl) ?_ (by assumption) ?_
                              rotate_left 1
                              · intro w hSw
                                (try dsimp only at hSw)
                                go_simp
                                (try with_reducible rfl)
                              (try simp only [Act.put, List.setIfInBounds_toArray, List.set_cons_zero, List.set_cons_succ])
                              refine H_take (k := 12) (v := ?_) (by rfl) (by kernel_rfl) (by kernel_rfl) (by kernel_rfl) (by exact fun _ _ _ h => h) (by rfl) ?_ (by assumption) ?_
                              rotate_left 1
                              · intro w hSw
                                (try dsimp only at hSw)
                                go_simp
                                (try with_reducible rfl)
                              (try simp only [Act.put, List.setIfInBounds_toArray, List.set_cons_zero, List.set_cons_succ])
                              refine H_done (by kernel_rfl) ?_
                              clear hi0
                              obtain ⟨wz, hwz⟩ : ∃ wz, w5.drew = wz := ⟨_, rfl⟩
                              rw [hwz]
                              have hgz : w5.grownBy wz none := by rw [← hwz]; exact gr_drew (gr_refl _ _)
                              replace HB := Lib.hid (HB.out.grown hgz (by simp))
                              replace HG := Lib.hid (gr_none HG.out hgz)
                              (try replace HSET := Lib.hid (HSET.out.kept hgz (by simp)))
                              have z2 := (hgz).size
                              clear k0 k1 k2 k3 k4 k5 k6 k7
                              have k0 := HB.out.cell 0
                              have k1 := HB.out.cell 1
                              have k2 := HB.out.cell 2
                              have k3 := HB.out.cell 3
                              have k4 := HB.out.cell 4
                              have k5 := HB.out.cell 5
                              have k6 := HB.out.cell 6
                              have k7 := HB.out.cell 7
                              clear hgz hwz hHeld
                              obtain ⟨M, hM⟩ : ∃ M, memS ((l.take k).map (·.id)) id = M := ⟨_, rfl⟩
                              have HM := Lib.hid hM; clear hM
                              cases DB
                              · have hlk := HSET.out.look (k := id) (by unfold maxLen; omega)
                                rw [HM.out] at hlk
                                go_wp2_with (first
                                  | (at_mapUpdate
                                     refine wpl_sput rfl _ _ _ rfl rfl id rfl rfl (by unfold maxLen; omega) (by exact HSET.out) (by unfold maxLen; omega) ?_
                                     intro wq hset5 hg5
                                     have HS5 := Lib.hid hset5; have HG5 := Lib.hid (gr_trans HG.out hg5 (fun g e => .inr (by injection e with e; omega)))
                                     clear hset5 hg5)
                                  | fail)
                                go_roundw
                                case rel => exact ⟨k + 1, by omega, by go_num, HG5.out, fstE_zero HA.out HE.out, by rw [dupB_one HZ.out, HDB.out, HM.out]; rfl, _, _, by rw [ids_one HZ.out]; exact HS5.out, by omega⟩
                                case measure => simp [intOf]; omega
                              · go_wp2_with (first
                                  | (at_mapUpdate
                                     refine wpl_sput rfl _ _ _ rfl rfl id rfl rfl (by unfold maxLen; omega) (by exact HSET.out) (by unfold maxLen; omega) ?_
                                     intro wq hset5 hg5
                                     have HS5 := Lib.hid hset5; have HG5 := Lib.hid (gr_trans HG.out hg5 (fun g e => .inr (by injection e with e; omega)))
                                     clear hset5 hg5)
                                  | fail)
                                go_roundw
                                case rel => exact ⟨k + 1, by omega, by go_num, HG5.out, fstE_zero HA.out HE.out, by rw [dupB_one HZ.out, HDB.out]; rfl, _, _, by rw [ids_one HZ.out]; exact HS5.out, by omega⟩
                                case measure => simp [intOf]; omega
                            · obtain ⟨⟨id', frm', too', at', ring', talk', how', car'⟩, hb⟩ : ∃ b, l[k - 1]? = some b := ⟨_, List.getElem?_eq_getElem (by rw [H.out.1.len]; omega)⟩
                              have HBB := Lib.hid hb; clear hb
                              have HPC := Lib.hid ((H.out.1.grown HG.out (fun g e => by cases e)).at_ RcV.row_len HBB.out)
                              have hi0 : decide ((0 : Int) < (k : Int)) = true := decide_eq_true (by omega)
                              have s2 : (0 : Int) ≤ (k : Int) - 1 := by omega
                              have s5 : (1 : Int) ≤ (k : Int) := by omega
                              have s3 : (k : Int) - 1 < (n : Int) := by omega
                              have s6 : (0 : Int) < (n : Int) := by omega
                              have s1 : IntKind.i64.wrap ((k : Int) - 1) = (k : Int) - 1 := IntWalk.i64_in _ (by omega)
                              have s4 : ((k : Int) - 1).toNat = k - 1 := by omega
                              obtain ⟨VO, hVO⟩ : ∃ V, decide (0 ≤ rcCmp ⟨id', frm', too', at', ring', talk', how', car'⟩ ⟨id, frm, too, at_, ring, talk, how, car⟩) = V := ⟨_, rfl⟩
                              have HVO := Lib.hid hVO; clear hVO
                              refine H_begin (fun w' => w5.grownBy w' none) (by kernel_rfl) ?_
                              have hHeld : w5.grownBy w5.drew none := gr_drew (gr_refl _ _)
                              refine H_take (k := 0) (v := ?_) (by rfl) (by kernel_rfl) (by kernel_rfl) (by kernel_rfl) (by exact fun _ _ _ h => h) (by rfl) ?_ (by assumption) ?_
                              rotate_left 1
                              · intro w hSw
                                (try dsimp only at hSw)
                                go_simp
                                (try with_reducible rfl)
                              (try simp only [Act.put, List.setIfInBounds_toArray, List.set_cons_zero, List.set_cons_succ])
                              refine H_take (k := 1) (v := ?_) (by rfl) (by kernel_rfl) (by kernel_rfl) (by kernel_rfl) (by exact fun _ _ _ h => h) (by rfl) ?_ (by assumption) ?_
                              rotate_left 1
                              · intro w hSw
                                (try dsimp only at hSw)
                                go_simp
                                (try with_reducible rfl)
                              (try simp only [Act.put, List.setIfInBounds_toArray, List.set_cons_zero, List.set_cons_succ])
                              refine H_take (k := 2) (v := ?_) (by rfl) (by kernel_rfl) (by kernel_rfl) (by kernel_rfl) (by exact fun _ _ _ h => h) (by rfl) ?_ (by assumption) ?_
                              rotate_left 1
                              · intro w hSw
                                (try dsimp only at hSw)
                                go_simp
                                (try with_reducible rfl)
                              (try simp only [Act.put, List.setIfInBounds_toArray, List.set_cons_zero, List.set_cons_succ])
                              refine H_take (k := 3) (v := ?_) (by rfl) (by kernel_rfl) (by kernel_rfl) (by kernel_rfl) (by exact fun _ _ _ h => h) (by rfl) ?_ (by assumption) ?_
                              rotate_left 1
                              · intro w hSw
                                (try dsimp only at hSw)
                                go_simp
                                (try with_reducible rfl)
                              (try simp only [Act.put, List.setIfInBounds_toArray, List.set_cons_zero, List.set_cons_succ])
                              refine H_take (k := 4) (v := ?_) (by rfl) (by kernel_rfl) (by kernel_rfl) (by kernel_rfl) (by exact fun _ _ _ h => h) (by rfl) ?_ (by assumption) ?_
                              rotate_left 1
                              · intro w hSw
                                (try dsimp only at hSw)
                                go_simp
                                (try with_reducible rfl)
                              (try simp only [Act.put, List.setIfInBounds_toArray, List.set_cons_zero, List.set_cons_succ])
                              refine H_take (k := 5) (v := ?_) (by rfl) (by kernel_rfl) (by kernel_rfl) (by kernel_rfl) (by exact fun _ _ _ h => h) (by rfl) ?_ (by assumption) ?_
                              rotate_left 1
                              · intro w hSw
                                (try dsimp only at hSw)
                                go_simp
                                (try with_reducible rfl)
                              (try simp only [Act.put, List.setIfInBounds_toArray, List.set_cons_zero, List.set_cons_succ])
                              refine H_take (k := 6) (v := ?_) (by rfl) (by kernel_rfl) (by kernel_rfl) (by kernel_rfl) (by exact fun _ _ _ h => h) (by rfl) ?_ (by assumption) ?_
                              rotate_left 1
                              · intro w hSw
                                (try dsimp only at hSw)
                                go_simp
                                (try with_reducible rfl)
                              (try simp only [Act.put, List.setIfInBounds_toArray, List.set_cons_zero, List.set_cons_succ])
                              refine H_take (k := 7) (v := .agg #[.string id', .string frm', .string too', .int .i64 at', .int .i64 ring', .int .i64 talk', .int .i64 how', .string car']) (by rfl) (by kernel_rfl) (by kernel_rfl) (by kernel_rfl) (by exact fun _ _ _ h => h) (by rfl) (fun w' hSw => exec_load_at Tryz.rcT _ rfl _ rfl [.string id', .string frm', .string too', .int .i64 at', .int .i64 ring', .int .i64 talk', .int .i64 how', .string car'] rfl (fun j u hu => by rw [add_mk]; exact ((H.out.1.grown (gr_none HG.out hSw) (fun g e => by cases e)).at_ RcV.row_len HBB.out) j u hu)) (by assumption) ?_
                              (try simp only [Act.put, List.setIfInBounds_toArray, List.set_cons_zero, List.set_cons_succ])
                              refine H_take (k := 8) (v := .agg #[.string id, .string frm, .string too, .int .i64 at_, .int .i64 ring, .int .i64 talk, .int .i64 how, .string car]) (by rfl) (by kernel_rfl) (by kernel_rfl) (by kernel_rfl) (by exact fun _ _ _ h => h) (by rfl) (fun w' hSw => exec_load_at Tryz.rcT _ rfl _ rfl [.string id, .string frm, .string too, .int .i64 at_, .int .i64 ring, .int .i64 talk, .int .i64 how, .string car] rfl (fun j u hu => by rw [add_mk, Nat.zero_add]; have hj := (List.getElem?_eq_some_iff.1 hu).1; exact ((HB.out.grown hSw (by simp)).cell j).trans (by simpa using hu))) (by assumption) ?_
                              (try simp only [Act.put, List.setIfInBounds_toArray, List.set_cons_zero, List.set_cons_succ])
                              refine H_run (k := 9) (by rfl) (by kernel_rfl) (by rfl) (fun K hK => ?_)
                              go_simp
                              refine (compareR_any ⟨id', frm', too', at', ring', talk', how', car'⟩ ⟨id, frm, too, at_, ring, talk, how, car⟩ _).mono ?_
                              rintro e w6 ⟨rfl, hg6⟩
                              go_simp
                              refine hK _ _ (gr_none (gr_drew (gr_refl w5 none)) hg6) ?_
                              clear hK K hHeld
                              have hgz : w5.grownBy w6 none := gr_none (gr_drew (gr_refl w5 none)) hg6
                              have hHeld := hgz
                              have hO1 := HVO.out
                              refine H_take (k := 10) (v := ?_) (by rfl) (by kernel_rfl) (by kernel_rfl) (by kernel_rfl) (by exact fun _ _ _ h => h) (by rfl) ?_ (by assumption) ?_
                              rotate_left 1
                              · intro w hSw
                                (try dsimp only at hSw)
                                go_simp
                                (try with_reducible rfl)
                              (try simp only [Act.put, List.setIfInBounds_toArray, List.set_cons_zero, List.set_cons_succ])
                              refine H_take (k := 11) (v := ?_) (by rfl) (by kernel_rfl) (by kernel_rfl) (by kernel_rfl) (by exact fun _ _ _ h => h) (by rfl) ?_ (by assumption) ?_
                              rotate_left 1
                              · intro w hSw
                                (try dsimp only at hSw)
                                go_simp
                                (try with_reducible rfl)
                              (try simp only [Act.put, List.setIfInBounds_toArray, List.set_cons_zero, List.set_cons_succ])
                              refine H_take (k := 12) (v := ?_) (by rfl) (by kernel_rfl) (by kernel_rfl) (by kernel_rfl) (by exact fun _ _ _ h => h) (by rfl) ?_ (by assumption) ?_
                              rotate_left 1
                              · intro w hSw
                                (try dsimp only at hSw)
                                go_simp
                                (try with_reducible rfl)
                              (try simp only [Act.put, List.setIfInBounds_toArray, List.set_cons_zero, List.set_cons_succ])
                              refine H_done (by kernel_rfl) ?_
                              clear hi0 s1 s2 s3 s4 s5 s6 hO1 HPC hg6
                              replace HB := Lib.hid (HB.out.grown hgz (by simp))
                              replace HG := Lib.hid (gr_none HG.out hgz)
                              (try replace HSET := Lib.hid (HSET.out.kept hgz (by simp)))
                              have z2 := (hgz).size
                              clear k0 k1 k2 k3 k4 k5 k6 k7
                              have k0 := HB.out.cell 0
                              have k1 := HB.out.cell 1
                              have k2 := HB.out.cell 2
                              have k3 := HB.out.cell 3
                              have k4 := HB.out.cell 4
                              have k5 := HB.out.cell 5
                              have k6 := HB.out.cell 6
                              have k7 := HB.out.cell 7
                              clear hgz hHeld
                              cases VO
                              · have HE := Lib.hid (rcAt_e HZ.out HB1.out HB2.out HB3.out HHO.out HB5.out HB6.out HBB.out (of_decide_eq_false HVO.out))
                                obtain ⟨M, hM⟩ : ∃ M, memS ((l.take k).map (·.id)) id = M := ⟨_, rfl⟩
                                have HM := Lib.hid hM; clear hM
                                cases DB
                                · have hlk := HSET.out.look (k := id) (by unfold maxLen; omega)
                                  rw [HM.out] at hlk
                                  go_wp2_with (first
                                    | (at_mapUpdate
                                       refine wpl_sput rfl _ _ _ rfl rfl id rfl rfl (by unfold maxLen; omega) (by exact HSET.out) (by unfold maxLen; omega) ?_
                                       intro wq hset5 hg5
                                       have HS5 := Lib.hid hset5; have HG5 := Lib.hid (gr_trans HG.out hg5 (fun g e => .inr (by injection e with e; omega)))
                                       clear hset5 hg5)
                                    | fail)
                                  go_roundw
                                  case rel => exact ⟨k + 1, by omega, by go_num, HG5.out, fstE_zero HA.out HE.out, by rw [dupB_one HZ.out, HDB.out, HM.out]; rfl, _, _, by rw [ids_one HZ.out]; exact HS5.out, by omega⟩
                                  case measure => simp [intOf]; omega
                                · go_wp2_with (first
                                    | (at_mapUpdate
                                       refine wpl_sput rfl _ _ _ rfl rfl id rfl rfl (by unfold maxLen; omega) (by exact HSET.out) (by unfold maxLen; omega) ?_
                                       intro wq hset5 hg5
                                       have HS5 := Lib.hid hset5; have HG5 := Lib.hid (gr_trans HG.out hg5 (fun g e => .inr (by injection e with e; omega)))
                                       clear hset5 hg5)
                                    | fail)
                                  go_roundw
                                  case rel => exact ⟨k + 1, by omega, by go_num, HG5.out, fstE_zero HA.out HE.out, by rw [dupB_one HZ.out, HDB.out]; rfl, _, _, by rw [ids_one HZ.out]; exact HS5.out, by omega⟩
                                  case measure => simp [intOf]; omega
                              · have e := rcAt_7 HZ.out HB1.out HB2.out HB3.out HHO.out HB5.out HB6.out h0 HBB.out (of_decide_eq_true HVO.out)
                                have HFIN := Lib.hid (show rcsE l = 7 by rw [HF.out, fstE_stop HA.out (by rw [e]; decide) hlt, e]; rfl)
                                clear e
                                go_wp2_with fail
                                go_ret
                                exact ⟨by rw [HFIN.out]; rfl, HG.out⟩
                      · have HFIN := Lib.hid (show rcsE l = 3 by have e := rcAt_3b HZ.out hB1 hB2 hB3 HHO.out HEV.out; rw [HF.out, fstE_stop HA.out (by rw [e]; decide) hlt, e]; rfl)
                        go_wp2_with (first
                          | (go_at_call 53; refine (isMomB_any _ _).mono ?_; rintro e w1 ⟨rfl, rfl⟩; rw [HM.out])
                          | (go_at_call 46; refine (withinA_any _ _ _ _).mono ?_; rintro e w1 ⟨rfl, rfl⟩; (first | rw [HRI.out] | rw [HTA.out] | rw [HHO.out] | fail))
                          | fail)
                        go_ret
                        exact ⟨by rw [HFIN.out]; rfl, HG.out⟩
      · obtain rfl : k = n := by omega
        cases hD : dupB l k
        · go_wp2_with fail
          go_ret
          exact ⟨by rw [HF.out, HA.out, hD]; rfl, HG.out⟩
        · go_wp2_with fail
          go_ret
          exact ⟨by rw [HF.out, HA.out, hD]; rfl, HG.out⟩
theorem checkRecords_any (lo : Nat) (A : Option Addr) (n c : Nat) (l : List RcV) (w : World) (h : Rcs w lo A n c l) (hn : n ≤ 1000000000) :
    Calls Tryz.prog 73 #[.slice A n c] w (RetV (.int .i64 (rcsE l)) w) := checkRecords_anyL lo A n c l w h.l hn
end Go.Proofs.YtpildcnoghojpaaGreatDoor

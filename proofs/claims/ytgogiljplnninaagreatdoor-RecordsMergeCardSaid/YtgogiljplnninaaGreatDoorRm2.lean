/- Contract of account.Merge. Conditions: at most a thousand records in each list, each RcOk. -/
import Derived.Test.YtgogiljplnninaaGreatDoorBun6
import Derived.Test.YtgogiljplnninaaGreatDoorBun5
import Derived.Test.YtgogiljplnninaaGreatDoorBun1
import Derived.Test.YtgogiljplnninaaGreatDoorBun2
import Derived.Test.YtgogiljplnninaaGreatDoorBun7
namespace Go.Proofs.YtgogiljplnninaaGreatDoor
open Go.RowKit

theorem ixO_nil : (fun t => ixO t ([] : List RcV)) = fun _ => (none : Option Int) := by funext t; rfl
set_option maxHeartbeats 16000000 in
set_option maxRecDepth 100000 in
theorem merge_ok (lo lo' : Nat) (A A' : Option Addr) (n c n' c' : Nat) (l l' : List RcV) (w : World) (h : Rcs w lo A n c l) (h' : Rcs w lo' A' n' c' l') (hn : n ≤ 1000) (hn' : n' ≤ 1000) (he : mgE l l' = 0) :
    Calls Tryz.prog 13 #[.slice A n c, .slice A' n' c'] w (MgV l l' w) := by
  have z1 : rcsE l = 0 := by
    by_cases q : rcsE l = 0
    · exact q
    · unfold mgE at he; rw [if_neg q] at he; exact absurd he q
  have z2 : rcsE l' = 0 := by unfold mgE at he; rw [if_pos z1] at he; exact he
  have ZR1 := Lib.hid (rcs_right z1); have ZR2 := Lib.hid (rcs_right z2)
  have HE1 := Lib.hid z1; have HE2 := Lib.hid z2
  have H := Lib.hid h; have H' := Lib.hid h'
  have HDM := Lib.hid (fun j => mg_dist (b := l') (s := (l, [])) (j := j) (rcs_right z1).2.2)
  clear h h' he z1 z2
  have hmm := @run_makeMap Tryz.prog
  go_enter Tryz.func13, Tryz.ntmps13
  go_wp2_with fail
  refine (checkRecords_any lo A n c l _ H.out (by omega)).mono ?_
  rintro e w1 ⟨rfl, hg1⟩
  rw [HE1.out]
  have HG1 := Lib.hid hg1; clear hg1
  go_wp2_with fail
  refine (checkRecords_any lo' A' n' c' l' _ (H'.out.grown HG1.out (fun g e => by cases e)) (by omega)).mono ?_
  rintro e w2 ⟨rfl, hg2⟩
  rw [HE2.out]
  have HG2 := Lib.hid (gr_none HG1.out hg2); clear hg2 HG1 HE1 HE2
  go_wp2_with fail
  obtain ⟨mb, hmb⟩ : ∃ mb, w2.heap.size = mb := ⟨_, rfl⟩
  obtain ⟨wm, hwm⟩ : ∃ wm, w2.alloc (.map #[] 0) = wm := ⟨_, rfl⟩
  rw [hwm, hmb]
  have HMM := Lib.hid (show MapSO wm mb 0 (fun t => ixO t ([] : List RcV)) by rw [← hwm, ← hmb, ixO_nil]; exact MapSO.new _)
  have HGm := Lib.hid (show w.grownBy wm none by rw [← hwm]; exact gr_alloc HG2.out _)
  have hzm : wm.heap.size = mb + 1 := by rw [← hwm, ← hmb]; simp
  have hmw : w.heap.size ≤ mb := by rw [← hmb]; exact HG2.out.size
  clear hwm hmb HG2
  refine (cloneRc_any lo A n c l _ (H.out.1.grown HGm.out (fun g e => by cases e)) (by omega)).mono ?_
  rintro e w3 ⟨O0, oc0, rfl, hown, hg3⟩
  rw [hzm] at hown
  have HO0 := Lib.hid hown
  have HM3 := Lib.hid (HMM.out.kept hg3 (by simp))
  have HG3 := Lib.hid (gr_none HGm.out hg3)
  clear hown hg3 HMM HGm hzm
  go_wp2_with fail
  go_loopw [11, 12, 33] (fun _ _ t wr => ∃ k : Nat, k ≤ n ∧ t = .int .i64 k ∧ w3.grownBy wr (some mb) ∧ MapSO wr mb k (fun t => ixO t (l.take k))) (fun _ _ t _ => n - (intOf t).toNat)
  case atStart => exact ⟨0, Nat.zero_le _, rfl, gr_refl _ _, by rw [List.take_zero]; exact HM3.out⟩
  case round =>
    obtain ⟨k, hk, rfl, hg, hm⟩ := hrel
    have HG := Lib.hid hg; have HM := Lib.hid hm; clear hg hm
    have HGr := Lib.hid (show w.grownBy wr none from gr_trans HG3.out HG.out (fun g e => .inr (by injection e with e; omega)))
    by_cases hlt : k < n
    · obtain ⟨g, o, ⟨id, frm, too, at_, ring, talk, how, car⟩, rfl, _, hgl, hz, hcc⟩ := (H.out.1.grown HGr.out (fun g e => by cases e)).get RcV.row_len hlt
      obtain ⟨p1, p2, p3, p4, p5, p6⟩ := H.out.2 _ (mem_of_get hz)
      dsimp only at p1 p2 p3 p4 p5 p6
      have hix := ixO_one ZR1.out.2.2 hz
      dsimp only at hix
      have HIX := Lib.hid hix
      have HC := Lib.hid hcc
      clear hz hcc hix
      obtain ⟨wa, hwa⟩ : ∃ wa, wr.alloc (.cells #[.string id, .string frm, .string too, .int .i64 at_, .int .i64 ring, .int .i64 talk, .int .i64 how, .string car] 32) = wa := ⟨_, rfl⟩
      have HR := Lib.hid (show Blk wa wr.heap.size 32 #[.string id, .string frm, .string too, .int .i64 at_, .int .i64 ring, .int .i64 talk, .int .i64 how, .string car] by rw [← hwa]; exact Blk.new _ _ _)
      have HGa := Lib.hid (show wr.grownBy wa none by rw [← hwa]; exact gr_alloc (gr_refl _ _) _)
      have HMa := Lib.hid (HM.out.kept HGa.out (by simp))
      have HWA := Lib.hid hwa; clear hwa
      have k0 := HR.out.cell 0
      go_upto_region 12 with (first
        | (refine wpl_load_at Tryz.rcT rfl _ rfl _ rfl [.string id, .string frm, .string too, .int .i64 at_, .int .i64 ring, .int .i64 talk, .int .i64 how, .string car] rfl (fun j u hu => by rw [add_mk]; exact HC.out j u hu) ?_)
        | fail)
      rw [HWA.out]
      go_wp2_with (first
        | (at_mapUpdate
           refine wpl_soput rfl _ _ _ rfl rfl id (k : Int) rfl rfl (by unfold maxLen; omega) (int_wf (by omega) (by omega)) (by exact HMa.out) (by unfold maxLen; omega) ?_
           intro we hse hge
           have HSe := Lib.hid hse; have HGe := Lib.hid hge
           clear hse hge)
        | fail)
      go_roundw
      case rel => exact ⟨k + 1, by omega, by go_num, gr_same (gr_none HG.out HGa.out) HGe.out, by
        have h := HSe.out
        rw [HIX.out] at h
        exact h⟩
      case measure => simp [intOf]; omega
    · obtain rfl : k = n := by omega
      have hm := HM.out
      rw [List.take_of_length_le (by rw [H.out.1.len]; exact Nat.le_refl _)] at hm
      obtain ⟨IX, hIX⟩ : ∃ F, (fun t => ixO t l) = F := ⟨_, rfl⟩
      rw [hIX] at hm
      replace HM := Lib.hid hm
      have HIX := Lib.hid hIX
      have HO := Lib.hid (HO0.out.low HG.out (fun g e => by injection e with e; omega))
      clear hm hIX HO0 HM3 HG HG3
      obtain ⟨wo, rfl⟩ : ∃ wo : World, wo = wr := ⟨_, rfl⟩
      go_wp2_with fail
      go_loopw [10, 13, 15, 16, 17, 45] (fun ov dv _ _ _ t wr => ∃ (j on oc dn dc : Nat) (O D : Option Addr), j ≤ n' ∧ t = .int .i64 j ∧ ov = .slice O on oc ∧ dv = .slice D dn dc ∧ w.grownBy wr none ∧ MapSO wr mb k IX ∧ OwnR RcV.row 8 wr (mb + 1) 32 O on oc (mgFrom (l, []) l' j).1 ∧ OwnR srow 1 wr (mb + 1) 9 D dn dc (mgFrom (l, []) l' j).2) (fun _ _ _ _ _ t _ => n' - (intOf t).toNat)
      case atStart => exact ⟨0, k, oc0, 0, 0, O0, none, Nat.zero_le _, rfl, rfl, rfl, HGr.out, HM.out, HO.out, OwnR.nil _ _ _⟩
      case round =>
        clear HGr HM HO
        obtain ⟨j, on, oc, dn, dc, O, D, hj, rfl, rfl, rfl, hg, hm, hown, hdif⟩ := hrel
        obtain ⟨⟨q1, q2⟩, hQ⟩ : ∃ Q, mgFrom (l, []) l' j = Q := ⟨_, rfl⟩
        have hlen := mg_len (s := (l, [])) (b := l') (j := j)
        have hmem : ∀ x ∈ (mgFrom (l, []) l' j).1, x ∈ l ∨ x ∈ l' := fun x hx => mg_mem hx
        rw [hQ] at hown hdif hlen hmem
        have hl1 := hown.2; have hl2 := hdif.2
        have hlA := H.out.1.len
        dsimp only at hown hdif hlen hl1 hl2 hmem
        simp only [List.length_nil] at hlen
        have hon : on ≤ k + j := by omega
        have hdn : dn ≤ j := by omega
        have HLEN := Lib.hid hl1
        have HMEM := Lib.hid hmem
        have HO := Lib.hid hown; have HD := Lib.hid hdif; have HG := Lib.hid hg; have HM := Lib.hid hm; have HQ := Lib.hid hQ
        have zr : mb < wr.heap.size := hm.lt
        clear hown hdif hlen hg hm hQ hl1 hl2 hlA hmem
        by_cases hlt2 : j < n'
        · obtain ⟨g, o, ⟨id, frm, too, at_, ring, talk, how, car⟩, rfl, _, hgl, hz, hcc⟩ := (H'.out.1.grown HG.out (fun g e => by cases e)).get RcV.row_len hlt2
          obtain ⟨p1, p2, p3, p4, p5, p6⟩ := H'.out.2 _ (mem_of_get hz)
          dsimp only at p1 p2 p3 p4 p5 p6
          have hix := mg_at (a := l) (n := []) ZR2.out.2.2 hz
          have hsu := mg_succ (s := (l, [])) hz
          rw [HQ.out] at hix hsu
          dsimp only at hix
          have HSU := Lib.hid hsu
          have HC := Lib.hid hcc
          have hcs := ix_cases id q1
          clear hz hcc hsu
          obtain ⟨wa, hwa⟩ : ∃ wa, wr.alloc (.cells #[.string id, .string frm, .string too, .int .i64 at_, .int .i64 ring, .int .i64 talk, .int .i64 how, .string car] 32) = wa := ⟨_, rfl⟩
          have HR := Lib.hid (show Blk wa wr.heap.size 32 #[.string id, .string frm, .string too, .int .i64 at_, .int .i64 ring, .int .i64 talk, .int .i64 how, .string car] by rw [← hwa]; exact Blk.new _ _ _)
          have HGa := Lib.hid (show wr.grownBy wa none by rw [← hwa]; exact gr_alloc (gr_refl _ _) _)
          have HMa := Lib.hid (HM.out.kept HGa.out (by simp))
          have HOa := Lib.hid (HO.out.kept HGa.out (fun g e => by cases e))
          have HDa := Lib.hid (HD.out.kept HGa.out (fun g e => by cases e))
          have za := HGa.out.size
          have HWA := Lib.hid hwa; clear hwa
          have k0 := HR.out.cell 0
          go_upto_region 18 with (first
            | (refine wpl_load_at Tryz.rcT rfl _ rfl _ rfl [.string id, .string frm, .string too, .int .i64 at_, .int .i64 ring, .int .i64 talk, .int .i64 how, .string car] rfl (fun j u hu => by rw [add_mk]; exact HC.out j u hu) ?_)
            | fail)
          rw [HWA.out]
          rcases hcs with ⟨h1, _⟩ | ⟨i, ⟨id2, frm2, too2, at_2, ring2, talk2, how2, car2⟩, h1, hi, ho, hid⟩
          · have HF := Lib.hid (show IX id = none by rw [← HIX.out]; exact ixO_none (by rw [← hix]; exact h1))
            have HST := Lib.hid (st_new (q := (q1, q2)) (r := ⟨id, frm, too, at_, ring, talk, how, car⟩) (by show idxP (isId id) q1 < 0; omega))
            clear h1 hix
            go_wp2_with (first
              | (refine wpl_solook2 rfl _ _ rfl rfl id rfl (by unfold maxLen; omega) (by exact HMa.out) ?_; rw [HF.out]; (try simp only [Option.getD_none, Option.isSome_none]))
              | (refine wpl_load_all Tryz.rcT rfl _ rfl _ rfl _ _ HR.out rfl ?_)
              | (at_builtin
                 refine wpl_app _ rfl _ _ Tryz.rcsT rfl (mb + 1) O on oc _ rfl (by exact HOa.out.1.alloc _) _ _ 1 1 [.string id, .string frm, .string too, .int .i64 at_, .int .i64 ring, .int .i64 talk, .int .i64 how, .string car] rfl (by exact Reads.one _ _ _ _ rfl) (by simp [Value.oneCell']) (by unfold maxLen; omega) (by omega) (by simp; omega) ?_
                 intro A5 c5 w5 h5
                 have H5 := Lib.hid h5; clear h5)
              | fail)
            go_roundw
            case rel =>
              have ga : wa.grownBy (wa.alloc (.cells #[.string id, .string frm, .string too, .int .i64 at_, .int .i64 ring, .int .i64 talk, .int .i64 how, .string car] 32)) none := gr_alloc (gr_refl wa none) _
              have HOw := HOa.out.alloc (.cells #[.string id, .string frm, .string too, .int .i64 at_, .int .i64 ring, .int .i64 talk, .int .i64 how, .string car] 32)
              have HDw := HDa.out.alloc (.cells #[.string id, .string frm, .string too, .int .i64 at_, .int .i64 ring, .int .i64 talk, .int .i64 how, .string car] 32)
              exact ⟨j + 1, on + 1, c5, dn, dc, A5, D, by omega, by go_num, rfl, rfl, H5.out.gr (gr_none (gr_none HG.out HGa.out) ga) HOw.1 (by omega), (HMa.out.kept ga (by simp)).kept H5.out.2.1 (fun e => by have := (HOw.1.lt e.symm).1; omega), by rw [HSU.out, HST.out]; exact HOw.app rfl H5.out, by rw [HSU.out, HST.out]; exact HDw.kept H5.out.2.1 (fun g e e2 => Own.ne HDw.1 HOw.1 (by decide) e2 e)⟩
            case measure => simp [intOf]; omega
          · have HF := Lib.hid (show IX id = some (i : Int) by rw [← HIX.out]; exact ixO_some (by rw [← hix]; exact h1))
            have HST := Lib.hid (st_old (q := (q1, q2)) (r := ⟨id, frm, too, at_, ring, talk, how, car⟩) h1 ho)
            obtain ⟨gO, rfl, _, _⟩ := HOa.out.1.pos (by rw [HLEN.out] at hi; omega)
            have hi2 : i < on := by rw [HLEN.out] at hi; exact hi
            have HI := Lib.hid ho
            have q5 : (0 : Int) ≤ (i : Int) := by omega
            have q6 : (i : Int) < (on : Int) := by omega
            have q7 : (i : Int).toNat = i := by omega
            clear h1 hix hid ho hi
            go_upto_region 21 with (first
              | (refine wpl_solook2 rfl _ _ rfl rfl id rfl (by unfold maxLen; omega) (by exact HMa.out) ?_; rw [HF.out]; (try simp only [Option.getD_some, Option.isSome_some]))
              | fail)
            by_cases e : ((⟨id2, frm2, too2, at_2, ring2, talk2, how2, car2⟩ : RcV) = ⟨id, frm, too, at_, ring, talk, how, car⟩)
            · have HST2 := Lib.hid (HST.out.trans (if_pos e))
              have HEQ := Lib.hid (fun w' => (rcEq_neq ⟨id2, frm2, too2, at_2, ring2, talk2, how2, car2⟩ ⟨id, frm, too, at_, ring, talk, how, car⟩ w').trans (by rw [decide_eq_true e]))
              clear e
              refine H_begin (fun w' => wa.grownBy w' none) (by kernel_rfl) ?_
              have hHeld : wa.grownBy wa.drew none := gr_drew (gr_refl _ _)
              refine H_take (k := 0) (v := ?_) (by rfl) (by kernel_rfl) (by kernel_rfl) (by kernel_rfl) (by exact fun _ _ _ h => h) (by rfl) ?_ (by assumption) ?_
              rotate_left 1
              · intro w hSw
                (try dsimp only at hSw)
                go_simp
                (try with_reducible rfl)
              (try simp only [Act.put, List.setIfInBounds_toArray, List.set_cons_zero, List.set_cons_succ])
              refine H_take (k := 1) (v := ?_) (by rfl) (by kernel_rfl) (by kernel_rfl) (by kernel_rfl) (by exact fun _ _ _ h => h) (by rfl) ?_ (by assumption) ?_
              rotate_left 1
              · intro w hSw
                (try dsimp only at hSw)
                go_simp
                (try with_reducible rfl)
              (try simp only [Act.put, List.setIfInBounds_toArray, List.set_cons_zero, List.set_cons_succ])
              refine H_take (k := 2) (v := ?_) (by rfl) (by kernel_rfl) (by kernel_rfl) (by kernel_rfl) (by exact fun _ _ _ h => h) (by rfl) ?_ (by assumption) ?_
              rotate_left 1
              · intro w hSw
                (try dsimp only at hSw)
                go_simp
                (try with_reducible rfl)
              (try simp only [Act.put, List.setIfInBounds_toArray, List.set_cons_zero, List.set_cons_succ])
              refine H_take (k := 3) (v := .agg #[.string id2, .string frm2, .string too2, .int .i64 at_2, .int .i64 ring2, .int .i64 talk2, .int .i64 how2, .string car2]) (by rfl) (by kernel_rfl) (by kernel_rfl) (by kernel_rfl) (by exact fun _ _ _ h => h) (by rfl) (fun w' hSw => exec_ldr Tryz.rcT _ rfl _ rfl [.string id2, .string frm2, .string too2, .int .i64 at_2, .int .i64 ring2, .int .i64 talk2, .int .i64 how2, .string car2] (fun j u hu => by rw [add_mk]; have hcc := ((HOa.out.recs.grown hSw (fun g e => by cases e)).at_ RcV.row_len HI.out) j u hu; simp only [Nat.zero_add] at hcc; exact hcc) rfl) (by assumption) ?_
              (try simp only [Act.put, List.setIfInBounds_toArray, List.set_cons_zero, List.set_cons_succ])
              refine H_take (k := 4) (v := .agg #[.string id, .string frm, .string too, .int .i64 at_, .int .i64 ring, .int .i64 talk, .int .i64 how, .string car]) (by rfl) (by kernel_rfl) (by kernel_rfl) (by kernel_rfl) (by exact fun _ _ _ h => h) (by rfl) (fun w' hSw => exec_ldb Tryz.rcT _ rfl _ rfl 32 [.string id, .string frm, .string too, .int .i64 at_, .int .i64 ring, .int .i64 talk, .int .i64 how, .string car] (HR.out.grown hSw (by simp)) rfl) (by assumption) ?_
              (try simp only [Act.put, List.setIfInBounds_toArray, List.set_cons_zero, List.set_cons_succ])
              refine H_take (k := 5) (v := .bool false) (by rfl) (by kernel_rfl) (by kernel_rfl) (by kernel_rfl) (by exact fun _ _ _ h => h) (by rfl) (fun w' _ => exec_eqs _ _ rfl _ _ rfl rfl rcEq_guard (HEQ.out w')) (by assumption) ?_
              (try simp only [Act.put, List.setIfInBounds_toArray, List.set_cons_zero, List.set_cons_succ])
              refine H_take (k := 6) (v := ?_) (by rfl) (by kernel_rfl) (by kernel_rfl) (by kernel_rfl) (by exact fun _ _ _ h => h) (by rfl) ?_ (by assumption) ?_
              rotate_left 1
              · intro w hSw
                (try dsimp only at hSw)
                go_simp
                (try with_reducible rfl)
              (try simp only [Act.put, List.setIfInBounds_toArray, List.set_cons_zero, List.set_cons_succ])
              refine H_done (by kernel_rfl) ?_
              clear hHeld q5 q6 q7
              go_wp2_with fail
              go_roundw
              case rel =>
                have ga := gr_drew (gr_refl wa none)
                exact ⟨j + 1, on, oc, dn, dc, _, D, by omega, by go_num, rfl, rfl, gr_none (gr_none HG.out HGa.out) ga, HMa.out.kept ga (by simp), by rw [HSU.out, HST2.out]; exact HOa.out.kept ga (fun g e => by cases e), by rw [HSU.out, HST2.out]; exact HDa.out.kept ga (fun g e => by cases e)⟩
              case measure => simp [intOf]; omega
            · have HST2 := Lib.hid (HST.out.trans (if_neg e))
              have HEQ := Lib.hid (fun w' => (rcEq_neq ⟨id2, frm2, too2, at_2, ring2, talk2, how2, car2⟩ ⟨id, frm, too, at_, ring, talk, how, car⟩ w').trans (by rw [decide_eq_false e]))
              clear e
              refine H_begin (fun w' => wa.grownBy w' none) (by kernel_rfl) ?_
              have hHeld : wa.grownBy wa.drew none := gr_drew (gr_refl _ _)
              refine H_take (k := 0) (v := ?_) (by rfl) (by kernel_rfl) (by kernel_rfl) (by kernel_rfl) (by exact fun _ _ _ h => h) (by rfl) ?_ (by assumption) ?_
              rotate_left 1
              · intro w hSw
                (try dsimp only at hSw)
                go_simp
                (try with_reducible rfl)
              (try simp only [Act.put, List.setIfInBounds_toArray, List.set_cons_zero, List.set_cons_succ])
              refine H_take (k := 1) (v := ?_) (by rfl) (by kernel_rfl) (by kernel_rfl) (by kernel_rfl) (by exact fun _ _ _ h => h) (by rfl) ?_ (by assumption) ?_
              rotate_left 1
              · intro w hSw
                (try dsimp only at hSw)
                go_simp
                (try with_reducible rfl)
              (try simp only [Act.put, List.setIfInBounds_toArray, List.set_cons_zero, List.set_cons_succ])
              refine H_take (k := 2) (v := ?_) (by rfl) (by kernel_rfl) (by kernel_rfl) (by kernel_rfl) (by exact fun _ _ _ h => h) (by rfl) ?_ (by assumption) ?_
              rotate_left 1
              · intro w hSw
                (try dsimp only at hSw)
                go_simp
                (try with_reducible rfl)
              (try simp only [Act.put, List.setIfInBounds_toArray, List.set_cons_zero, List.set_cons_succ])
              refine H_take (k := 3) (v := .agg #[.string id2, .string frm2, .string too2, .int .i64 at_2, .int .i64 ring2, .int .i64 talk2, .int .i64 how2, .string car2]) (by rfl) (by kernel_rfl) (by kernel_rfl) (by kernel_rfl) (by exact fun _ _ _ h => h) (by rfl) (fun w' hSw => exec_ldr Tryz.rcT _ rfl _ rfl [.string id2, .string frm2, .string too2, .int .i64 at_2, .int .i64 ring2, .int .i64 talk2, .int .i64 how2, .string car2] (fun j u hu => by rw [add_mk]; have hcc := ((HOa.out.recs.grown hSw (fun g e => by cases e)).at_ RcV.row_len HI.out) j u hu; simp only [Nat.zero_add] at hcc; exact hcc) rfl) (by assumption) ?_
              (try simp only [Act.put, List.setIfInBounds_toArray, List.set_cons_zero, List.set_cons_succ])
              refine H_take (k := 4) (v := .agg #[.string id, .string frm, .string too, .int .i64 at_, .int .i64 ring, .int .i64 talk, .int .i64 how, .string car]) (by rfl) (by kernel_rfl) (by kernel_rfl) (by kernel_rfl) (by exact fun _ _ _ h => h) (by rfl) (fun w' hSw => exec_ldb Tryz.rcT _ rfl _ rfl 32 [.string id, .string frm, .string too, .int .i64 at_, .int .i64 ring, .int .i64 talk, .int .i64 how, .string car] (HR.out.grown hSw (by simp)) rfl) (by assumption) ?_
              (try simp only [Act.put, List.setIfInBounds_toArray, List.set_cons_zero, List.set_cons_succ])
              refine H_take (k := 5) (v := .bool true) (by rfl) (by kernel_rfl) (by kernel_rfl) (by kernel_rfl) (by exact fun _ _ _ h => h) (by rfl) (fun w' _ => exec_eqs _ _ rfl _ _ rfl rfl rcEq_guard (HEQ.out w')) (by assumption) ?_
              (try simp only [Act.put, List.setIfInBounds_toArray, List.set_cons_zero, List.set_cons_succ])
              refine H_take (k := 6) (v := ?_) (by rfl) (by kernel_rfl) (by kernel_rfl) (by kernel_rfl) (by exact fun _ _ _ h => h) (by rfl) ?_ (by assumption) ?_
              rotate_left 1
              · intro w hSw
                (try dsimp only at hSw)
                go_simp
                (try with_reducible rfl)
              (try simp only [Act.put, List.setIfInBounds_toArray, List.set_cons_zero, List.set_cons_succ])
              refine H_done (by kernel_rfl) ?_
              clear hHeld
              obtain ⟨wb, hwb⟩ : ∃ wb, wa.drew = wb := ⟨_, rfl⟩
              rw [hwb]
              have HGb := Lib.hid (show wr.grownBy wb none by rw [← hwb]; exact gr_drew HGa.out)
              have hgab : wa.grownBy wb none := by rw [← hwb]; exact gr_drew (gr_refl _ _)
              have HRb := Lib.hid (HR.out.grown hgab (by simp))
              have HMb := Lib.hid (HMa.out.kept hgab (by simp))
              have HOb := Lib.hid (HOa.out.kept hgab (fun g e => by cases e))
              have HDb := Lib.hid (HDa.out.kept hgab (fun g e => by cases e))
              have zb := HGb.out.size
              clear hwb hgab k0 HMa HOa HDa HR
              have k0 := HRb.out.cell 0
              go_upto_region 23 with (first
                | (at_builtin
                   refine wpl_app _ rfl _ _ Tryz.stT rfl (mb + 1) D dn dc _ rfl (by exact HDb.out.1.alloc _) _ _ 1 1 [.string id] rfl (by exact Reads.one _ _ _ _ rfl) (by simp [Value.oneCell']) (by unfold maxLen; omega) (by omega) (by simp; omega) ?_
                   intro A5 c5 w5 h5
                   have H5 := Lib.hid h5; clear h5)
                | fail)
              have ga : wb.grownBy (wb.alloc (.cells #[.string id] 9)) none := gr_alloc (gr_refl wb none) _
              have HOw := HOb.out.alloc (.cells #[.string id] 9)
              have HDw := HDb.out.alloc (.cells #[.string id] 9)
              have HD5 := Lib.hid (show OwnR srow 1 w5 (mb + 1) 9 A5 (dn + 1) c5 (q2 ++ [id]) from HDw.app rfl H5.out)
              have HO5 := Lib.hid (HOw.kept H5.out.2.1 (fun g e e2 => Own.ne HDw.1 HOw.1 (by decide) e e2))
              have HM5 := Lib.hid ((HMb.out.kept ga (by simp)).kept H5.out.2.1 (fun e => by have := (HDw.1.lt e.symm).1; omega))
              have HG5 := Lib.hid (H5.out.gr (gr_none (gr_none HG.out HGb.out) ga) HDw.1 (by omega))
              have HR5 := Lib.hid ((HRb.out.grown ga (by simp)).grown H5.out.2.1 (fun e => by have := (HD.out.1.lt e.symm).2; omega))
              have z5 := HR5.out.lt
              have HOK : OwnR RcV.row 8 w5 (mb + 1) 32 (some ⟨gO, 0, none⟩) on oc q1 := HO5.out
              clear H5 HDw HOw ga HOb HDb HMb HRb k0
              obtain ⟨BT, hBT⟩ : ∃ B, btr ⟨id, frm, too, at_, ring, talk, how, car⟩ ⟨id2, frm2, too2, at_2, ring2, talk2, how2, car2⟩ = B := ⟨_, rfl⟩
              have HBT := Lib.hid hBT; clear hBT HOK
              refine H_begin (fun w' => w5.grownBy w' none) (by kernel_rfl) ?_
              have hHeld : w5.grownBy w5.drew none := gr_drew (gr_refl _ _)
              refine H_take (k := 0) (v := .agg #[.string id, .string frm, .string too, .int .i64 at_, .int .i64 ring, .int .i64 talk, .int .i64 how, .string car]) (by rfl) (by kernel_rfl) (by kernel_rfl) (by kernel_rfl) (by exact fun _ _ _ h => h) (by rfl) (fun w' hSw => exec_ldb Tryz.rcT _ rfl _ rfl 32 [.string id, .string frm, .string too, .int .i64 at_, .int .i64 ring, .int .i64 talk, .int .i64 how, .string car] (HR5.out.grown hSw (by simp)) rfl) (by assumption) ?_
              (try simp only [Act.put, List.setIfInBounds_toArray, List.set_cons_zero, List.set_cons_succ])
              refine H_take (k := 1) (v := ?_) (by rfl) (by kernel_rfl) (by kernel_rfl) (by kernel_rfl) (by exact fun _ _ _ h => h) (by rfl) ?_ (by assumption) ?_
              rotate_left 1
              · intro w hSw
                (try dsimp only at hSw)
                go_simp
                (try with_reducible rfl)
              (try simp only [Act.put, List.setIfInBounds_toArray, List.set_cons_zero, List.set_cons_succ])
              refine H_take (k := 2) (v := ?_) (by rfl) (by kernel_rfl) (by kernel_rfl) (by kernel_rfl) (by exact fun _ _ _ h => h) (by rfl) ?_ (by assumption) ?_
              rotate_left 1
              · intro w hSw
                (try dsimp only at hSw)
                go_simp
                (try with_reducible rfl)
              (try simp only [Act.put, List.setIfInBounds_toArray, List.set_cons_zero, List.set_cons_succ])
              refine H_take (k := 3) (v := ?_) (by rfl) (by kernel_rfl) (by kernel_rfl) (by kernel_rfl) (by exact fun _ _ _ h => h) (by rfl) ?_ (by assumption) ?_
              rotate_left 1
              · intro w hSw
                (try dsimp only at hSw)
                go_simp
                (try with_reducible rfl)
              (try simp only [Act.put, List.setIfInBounds_toArray, List.set_cons_zero, List.set_cons_succ])
              refine H_take (k := 4) (v := .agg #[.string id2, .string frm2, .string too2, .int .i64 at_2, .int .i64 ring2, .int .i64 talk2, .int .i64 how2, .string car2]) (by rfl) (by kernel_rfl) (by kernel_rfl) (by kernel_rfl) (by exact fun _ _ _ h => h) (by rfl) (fun w' hSw => exec_ldr Tryz.rcT _ rfl _ rfl [.string id2, .string frm2, .string too2, .int .i64 at_2, .int .i64 ring2, .int .i64 talk2, .int .i64 how2, .string car2] (fun j u hu => by rw [add_mk]; have hcc := ((HO5.out.recs.grown hSw (fun g e => by cases e)).at_ RcV.row_len HI.out) j u hu; simp only [Nat.zero_add] at hcc; exact hcc) rfl) (by assumption) ?_
              (try simp only [Act.put, List.setIfInBounds_toArray, List.set_cons_zero, List.set_cons_succ])
              refine H_run (k := 5) (by rfl) (by kernel_rfl) (by rfl) (fun K hK => ?_)
              go_simp
              refine (better_any ⟨id, frm, too, at_, ring, talk, how, car⟩ ⟨id2, frm2, too2, at_2, ring2, talk2, how2, car2⟩ _).mono ?_
              rintro e w6 ⟨rfl, hg6⟩
              rw [HBT.out]
              go_simp
              have hgz : w5.grownBy w6 none := gr_none (gr_drew (gr_refl w5 none)) hg6
              refine hK _ _ hgz ?_
              clear hK K hHeld hg6
              have hHeld := hgz
              (try simp only [Act.put, List.setIfInBounds_toArray, List.set_cons_zero, List.set_cons_succ])
              refine H_done (by kernel_rfl) ?_
              have HO6 := Lib.hid (HO5.out.kept hgz (fun g e => by cases e))
              have HD6 := Lib.hid (HD5.out.kept hgz (fun g e => by cases e))
              have HM6 := Lib.hid (HM5.out.kept hgz (by simp))
              have HG6 := Lib.hid (gr_none HG5.out hgz)
              have HR6 := Lib.hid (HR5.out.grown hgz (by simp))
              clear hgz hHeld HO5 HD5 HM5 HG5 HR5
              cases BT
              · have HST3 := Lib.hid (show mgStep (q1, q2) ⟨id, frm, too, at_, ring, talk, how, car⟩ = (q1, q2 ++ [id]) by rw [HST2.out, HBT.out]; rfl)
                clear q5 q6 q7
                go_wp2_with fail
                go_roundw
                case rel => exact ⟨j + 1, on, oc, dn + 1, c5, _, A5, by omega, by go_num, rfl, rfl, HG6.out, HM6.out, by rw [HSU.out, HST3.out]; exact HO6.out, by rw [HSU.out, HST3.out]; exact HD6.out⟩
                case measure => simp [intOf]; omega
              · have HST3 := Lib.hid (show mgStep (q1, q2) ⟨id, frm, too, at_, ring, talk, how, car⟩ = (q1.set i ⟨id, frm, too, at_, ring, talk, how, car⟩, q2 ++ [id]) by rw [HST2.out, HBT.out]; rfl)
                go_wp2_with (first
                  | (refine wpl_load_all Tryz.rcT rfl _ rfl _ rfl _ _ HR6.out rfl ?_)
                  | (refine wpl_store_rec (row := RcV.row) rfl Tryz.rcT RcV.row_len (by decide) _ _ rfl i _ rfl rfl ⟨id, frm, too, at_, ring, talk, how, car⟩ rfl HO6.out (by omega) (RcV.one1 _) ?_
                     intro w8 hown8 hg8
                     have HO8 := Lib.hid hown8
                     have HM8 := Lib.hid (HM6.out.kept hg8 (fun e => by injection e with e; have := (HO6.out.1.lt (g := gO) rfl).1; omega))
                     have HD8 := Lib.hid (HD6.out.kept hg8 (fun g e e2 => by injection e with e; subst e; exact Own.ne HD6.out.1 HO6.out.1 (by decide) e2 rfl))
                     have HG8 := Lib.hid (gr_own HG6.out HO6.out.1 (by omega) hg8)
                     clear hown8 hg8)
                  | fail)
                clear q5 q6 q7
                go_roundw
                case rel => exact ⟨j + 1, on, oc, dn + 1, c5, _, A5, by omega, by go_num, rfl, rfl, HG8.out, HM8.out, by rw [HSU.out, HST3.out]; exact HO8.out, by rw [HSU.out, HST3.out]; exact HD8.out⟩
                case measure => simp [intOf]; omega
        · obtain rfl : j = n' := by omega
          have d9 : decide ((3000 : Int) < (on : Int)) = false := decide_eq_false (by omega)
          have d9' : decide (3000 < on) = false := decide_eq_false (by omega)
          have HL2 := Lib.hid H'.out.1.len
          have HOK := Lib.hid (show ∀ x ∈ q1, RcOkL x from fun x hx => ((HMEM.out x hx).elim (H.out.2 x) (H'.out.2 x)).l)
          go_wp2_with fail
          refine (sortP_any (mb + 1) O on oc q1 _ HO.out HOK.out (by omega)).mono ?_
          rintro e w8 ⟨rfl, out, hp, ha, hown8, hg8⟩
          have HO8 := Lib.hid hown8
          have HD8 := Lib.hid (HD.out.kept hg8 (fun g e e2 => Own.ne HO.out.1 HD.out.1 (by decide) e e2))
          have HG8 := Lib.hid (gr_own HG.out HO.out.1 (by omega) hg8)
          have HP := Lib.hid hp; have HA := Lib.hid ha
          clear hp ha hown8 hg8
          go_wp2_with fail
          refine (sortS_any (mb + 1) D dn dc q2 _ HD8.out (by omega)).mono ?_
          rintro e w9 ⟨rfl, hown9, hg9⟩
          have HD9 := Lib.hid hown9
          have HO9 := Lib.hid (HO8.out.kept hg9 (fun g e e2 => Own.ne HD8.out.1 HO8.out.1 (by decide) e e2))
          have HG9 := Lib.hid (gr_own HG8.out HD8.out.1 (by omega) hg9)
          clear hown9 hg9
          go_wp2_with fail
          go_ret3
          exact ⟨O, on, oc, D, dn, dc, out, rfl, by rw [HL2.out, HQ.out]; exact HP.out, HA.out, HO9.out.lower (by omega), by rw [HL2.out, HQ.out]; exact HD9.out.lower (by omega), HG9.out⟩
end Go.Proofs.YtgogiljplnninaaGreatDoor

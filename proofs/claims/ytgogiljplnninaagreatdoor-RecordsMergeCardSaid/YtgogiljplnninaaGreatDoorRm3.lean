/- Contracts of account.Merge with its errors and of the document's RecordsOf. Conditions: at most a thousand records in each list, each RcOk. -/
import Derived.Test.YtgogiljplnninaaGreatDoorRm2
import Derived.Test.YtgogiljplnninaaGreatDoorBun2
namespace Go.Proofs.YtgogiljplnninaaGreatDoor
open Go.RowKit

set_option maxHeartbeats 4000000 in
theorem merge_any (lo lo' : Nat) (A A' : Option Addr) (n c n' c' : Nat) (l l' : List RcV) (w : World) (h : Rcs w lo A n c l) (h' : Rcs w lo' A' n' c' l') (hn : n ≤ 1000) (hn' : n' ≤ 1000) :
    Calls Tryz.prog 13 #[.slice A n c, .slice A' n' c'] w (MgEV l l' w) := by
  by_cases he : mgE l l' = 0
  · exact (merge_ok lo lo' A A' n c n' c' l l' w h h' hn hn' he).mono fun _ _ q => .inr ⟨he, q⟩
  · have H := Lib.hid h; have H' := Lib.hid h'; clear h h'
    obtain ⟨E1, hE1⟩ : ∃ E, rcsE l = E := ⟨_, rfl⟩
    obtain ⟨E2, hE2⟩ : ∃ E, rcsE l' = E := ⟨_, rfl⟩
    by_cases z1 : E1 = 0
    · have hm : mgE l l' = E2 := by unfold mgE; rw [if_pos (hE1.trans z1)]; exact hE2
      have d1 : (E1 != 0) = false := by simp [z1]
      have d2 : (E2 != 0) = true := by rw [hm] at he; simpa using he
      have HM := Lib.hid hm; have HE := Lib.hid he; have HE1 := Lib.hid hE1; have HE2 := Lib.hid hE2
      clear z1 hm he hE1 hE2
      go_enter Tryz.func13, Tryz.ntmps13
      go_wp2_with fail
      refine (checkRecords_any lo A n c l _ H.out (by omega)).mono ?_
      rintro e w1 ⟨rfl, hg1⟩
      rw [HE1.out]
      have HG1 := Lib.hid hg1; clear hg1
      go_wp2_with fail
      refine (checkRecords_any lo' A' n' c' l' _ (H'.out.grown HG1.out (fun g e => by cases e)) (by omega)).mono ?_
      rintro e w2 ⟨rfl, hg2⟩
      rw [HE2.out]
      have HG2 := Lib.hid (gr_none HG1.out hg2); clear hg2
      go_wp2_with fail
      go_ret3
      exact .inl ⟨HE.out, by rw [HM.out]; rfl, HG2.out⟩
    · have hm : mgE l l' = E1 := by unfold mgE; rw [if_neg (by rw [hE1]; exact z1)]; exact hE1
      have d1 : (E1 != 0) = true := by simpa using z1
      have HM := Lib.hid hm; have HE := Lib.hid he; have HE1 := Lib.hid hE1
      clear z1 hm he hE1 hE2
      go_enter Tryz.func13, Tryz.ntmps13
      go_wp2_with fail
      refine (checkRecords_any lo A n c l _ H.out (by omega)).mono ?_
      rintro e w1 ⟨rfl, hg1⟩
      rw [HE1.out]
      have HG1 := Lib.hid hg1; clear hg1
      go_wp2_with fail
      go_ret3
      exact .inl ⟨HE.out, by rw [HM.out]; rfl, HG1.out⟩
set_option maxHeartbeats 16000000 in
set_option maxRecDepth 100000 in
theorem recordsOf_any (lo lo' : Nat) (A A' : Option Addr) (n c n' c' : Nat) (l l' : List RcV) (w : World) (h : Rcs w lo A n c l) (h' : Rcs w lo' A' n' c' l') (hn : n ≤ 1000) (hn' : n' ≤ 1000) (z1 : rcsE l = 0) (z2 : rcsE l' = 0) :
    Calls Tryz.prog 17 #[.slice A n c, .slice A' n' c'] w (MgV l l' w) := by
  have hr1 := rcs_right z1; have hr2 := rcs_right z2
  have hL1 : (l ++ l').length = n + n' := by rw [List.length_append, h.1.len, h'.1.len]
  have HRT := Lib.hid (show ∀ x ∈ l ++ l', RcRight x ∧ RcOkL x from fun x hx => (List.mem_append.1 hx).elim (fun q => ⟨hr1.2.1 x q, (h.2 x q).l⟩) (fun q => ⟨hr2.2.1 x q, (h'.2 x q).l⟩))
  have HFIN := Lib.hid (show mgFrom ([], []) (l ++ l') (n + n') = mgFrom (l, []) l' l'.length by
    have h1 := mg_rest (b := l') hr1.2.2 (Nat.le_refl l'.length)
    rw [h.1.len, h'.1.len] at h1
    rw [h1, h'.1.len])
  have H := Lib.hid h; have H' := Lib.hid h'
  obtain ⟨L, hL⟩ : ∃ L, l ++ l' = L := ⟨_, rfl⟩
  obtain ⟨N, hN⟩ : ∃ N, n + n' = N := ⟨_, rfl⟩
  rw [hL] at HRT HFIN hL1
  rw [hN] at HFIN hL1
  have hNb : N ≤ 2000 := by omega
  have HLN := Lib.hid hL1; have HL := Lib.hid hL; have HN := Lib.hid hN
  clear h h' z1 z2 hr1 hr2 hL hL1 hN
  obtain ⟨w1, hw1⟩ : ∃ w1, w.alloc (.cells #[.slice A n c, .slice A' n' c'] 26) = w1 := ⟨_, rfl⟩
  have HB := Lib.hid (show Blk w1 w.heap.size 26 #[.slice A n c, .slice A' n' c'] by rw [← hw1]; exact Blk.new _ _ _)
  have HG1 := Lib.hid (show w.grownBy w1 none by rw [← hw1]; exact gr_alloc (gr_refl _ _) _)
  have HW1 := Lib.hid hw1; clear hw1
  go_enter Tryz.func17, Tryz.ntmps17
  go_wp2_with fail
  rw [HW1.out]
  refine (concatRc_any lo lo' A A' n c n' c' l l' _ w.heap.size HB.out (H.out.1.grown HG1.out (fun g e => by cases e)) (H'.out.1.grown HG1.out (fun g e => by cases e)) (by omega) (by omega)).mono ?_
  rintro e w2 ⟨X, xc, rfl, hown, hg2⟩
  have hx := hown.recs
  rw [HL.out, HN.out] at hx
  rw [HN.out]
  have HX := Lib.hid (hx.lower (Nat.zero_le _))
  have HG2 := Lib.hid (gr_none HG1.out hg2)
  have hz2 := HG2.out.size
  clear hown hx hg2 HG1 HB
  go_wp2_with fail
  go_loopw [7, 8, 10, 11, 12, 13, 19] (fun ov dv _ _ _ _ t wr => ∃ (j on oc dn dc : Nat) (O D : Option Addr), j ≤ N ∧ t = .int .i64 j ∧ ov = .slice O on oc ∧ dv = .slice D dn dc ∧ w2.grownBy wr none ∧ OwnR RcV.row 8 wr w2.heap.size 32 O on oc (mgFrom ([], []) L j).1 ∧ OwnR srow 1 wr w2.heap.size 9 D dn dc (mgFrom ([], []) L j).2) (fun _ _ _ _ _ _ t _ => N - (intOf t).toNat)
  case atStart => exact ⟨0, 0, 0, 0, 0, none, none, Nat.zero_le _, rfl, rfl, rfl, gr_refl _ _, OwnR.nil _ _ _, OwnR.nil _ _ _⟩
  case round =>
    obtain ⟨j, on, oc, dn, dc, O, D, hj, rfl, rfl, rfl, hg, hown, hdif⟩ := hrel
    obtain ⟨⟨q1, q2⟩, hQ⟩ : ∃ Q, mgFrom ([], []) L j = Q := ⟨_, rfl⟩
    have hlen := mg_len (s := ([], [])) (b := L) (j := j)
    have hmem : ∀ x ∈ (mgFrom ([], []) L j).1, x ∈ L := fun x hx => (mg_mem hx).resolve_left (by simp)
    rw [hQ] at hown hdif hlen hmem
    have hl1 := hown.2; have hl2 := hdif.2
    dsimp only at hown hdif hlen hl1 hl2 hmem
    simp only [List.length_nil] at hlen
    have hon : on ≤ j := by omega
    have hdn : dn ≤ j := by omega
    have HLEN := Lib.hid hl1
    have HMEM := Lib.hid hmem
    have HO := Lib.hid hown; have HD := Lib.hid hdif; have HG := Lib.hid hg; have HQ := Lib.hid hQ
    have zr := hg.size
    clear hown hdif hlen hg hQ hl1 hl2 hmem
    by_cases hlt2 : j < N
    · obtain ⟨g, o, ⟨id, frm, too, at_, ring, talk, how, car⟩, rfl, _, hgl, hz, hcc⟩ := (HX.out.grown HG.out (fun g e => by cases e)).get RcV.row_len hlt2
      obtain ⟨hrr, p1, p2, p3, p4, p5, p6⟩ := HRT.out _ (mem_of_get hz)
      have hk1 := hrr.talk
      have hk2 := hrr.2.2.2.1
      unfold inB at hk2
      simp only [Bool.and_eq_true, decide_eq_true_eq] at hk2
      dsimp only at p1 p2 p3 p4 p5 p6 hk1 hk2
      obtain ⟨t1, t2, -, t4, t5, t6, t7⟩ := hk1
      obtain ⟨t8, t9⟩ := hk2
      have hsu := mg_succ (s := ([], [])) hz
      rw [HQ.out] at hsu
      have HSU := Lib.hid hsu
      have HC := Lib.hid hcc
      have hcs := ix_cases id q1
      clear hz hcc hsu hrr
      obtain ⟨wa, hwa⟩ : ∃ wa, wr.alloc (.cells #[.string id, .string frm, .string too, .int .i64 at_, .int .i64 ring, .int .i64 talk, .int .i64 how, .string car] 32) = wa := ⟨_, rfl⟩
      have HR := Lib.hid (show Blk wa wr.heap.size 32 #[.string id, .string frm, .string too, .int .i64 at_, .int .i64 ring, .int .i64 talk, .int .i64 how, .string car] by rw [← hwa]; exact Blk.new _ _ _)
      have HGa := Lib.hid (show wr.grownBy wa none by rw [← hwa]; exact gr_alloc (gr_refl _ _) _)
      have HOa := Lib.hid (HO.out.kept HGa.out (fun g e => by cases e))
      have HWA := Lib.hid hwa; clear hwa
      go_upto_region 6 with (first
        | (refine wpl_load_at Tryz.rcT rfl _ rfl _ rfl [.string id, .string frm, .string too, .int .i64 at_, .int .i64 ring, .int .i64 talk, .int .i64 how, .string car] rfl (fun j u hu => by rw [add_mk]; exact HC.out j u hu) ?_)
        | fail)
      rw [HWA.out]
      go_wp2_with fail
      refine (byIdIdx_any w2.heap.size O on oc q1 id wr.heap.size [.string frm, .string too, .int .i64 at_, .int .i64 ring, .int .i64 talk, .int .i64 how, .string car] _ HOa.out.recs (by omega) HR.out).mono ?_
      rintro e w4 ⟨rfl, hg4⟩
      have HG4 := Lib.hid (gr_none HGa.out hg4)
      have HR4 := Lib.hid (HR.out.grown hg4 (by simp))
      have HO4 := Lib.hid (HOa.out.kept hg4 (fun g e => by cases e))
      have HD4 := Lib.hid (HD.out.kept HG4.out (fun g e => by cases e))
      have z4 := HG4.out.size
      clear hg4 HOa HGa HR
      rcases hcs with ⟨h1, _⟩ | ⟨i, ⟨id2, frm2, too2, at_2, ring2, talk2, how2, car2⟩, h1, hi, ho, hid⟩
      · have HST := Lib.hid (st_new (q := (q1, q2)) (r := ⟨id, frm, too, at_, ring, talk, how, car⟩) (by show idxP (isId id) q1 < 0; omega))
        rw [h1]
        clear h1
        go_wp2_with (first
          | (refine wpl_load_all Tryz.rcT rfl _ rfl _ rfl _ _ HR4.out rfl ?_)
          | (at_builtin
             refine wpl_app _ rfl _ _ Tryz.rcsT rfl w2.heap.size O on oc _ rfl (by exact HO4.out.1.alloc _) _ _ 1 1 [.string id, .string frm, .string too, .int .i64 at_, .int .i64 ring, .int .i64 talk, .int .i64 how, .string car] rfl (by exact Reads.one _ _ _ _ rfl) (by simp [Value.oneCell']) (by unfold maxLen; omega) (by omega) (by simp; omega) ?_
             intro A5 c5 w5 h5
             have H5 := Lib.hid h5; clear h5)
          | fail)
        go_roundw
        case rel =>
          have ga : w4.grownBy (w4.alloc (.cells #[.string id, .string frm, .string too, .int .i64 at_, .int .i64 ring, .int .i64 talk, .int .i64 how, .string car] 32)) none := gr_alloc (gr_refl w4 none) _
          have HOw := HO4.out.alloc (.cells #[.string id, .string frm, .string too, .int .i64 at_, .int .i64 ring, .int .i64 talk, .int .i64 how, .string car] 32)
          have HDw := HD4.out.alloc (.cells #[.string id, .string frm, .string too, .int .i64 at_, .int .i64 ring, .int .i64 talk, .int .i64 how, .string car] 32)
          exact ⟨j + 1, on + 1, c5, dn, dc, A5, D, by omega, by go_num, rfl, rfl, H5.out.gr (gr_none (gr_none HG.out HG4.out) ga) HOw.1 (by omega), by rw [HSU.out, HST.out]; exact HOw.app rfl H5.out, by rw [HSU.out, HST.out]; exact HDw.kept H5.out.2.1 (fun g e e2 => Own.ne HDw.1 HOw.1 (by decide) e2 e)⟩
        case measure => simp [intOf]; omega
      · have HST := Lib.hid (st_old (q := (q1, q2)) (r := ⟨id, frm, too, at_, ring, talk, how, car⟩) h1 ho)
        rw [h1]
        obtain ⟨gO, rfl, _, _⟩ := HO4.out.1.pos (by rw [HLEN.out] at hi; omega)
        have hi2 : i < on := by rw [HLEN.out] at hi; exact hi
        have HI := Lib.hid ho
        obtain ⟨hro, -, -, -, -, -, -⟩ := HRT.out _ (HMEM.out _ (mem_of_get ho))
        have hj1 := hro.talk
        have hj2 := hro.2.2.2.1
        unfold inB at hj2
        simp only [Bool.and_eq_true, decide_eq_true_eq] at hj2
        dsimp only at hj1 hj2
        obtain ⟨v1, v2, -, v4, v5, v6, v7⟩ := hj1
        obtain ⟨v8, v9⟩ := hj2
        have q5 : (0 : Int) ≤ (i : Int) := by omega
        have q6 : (i : Int) < (on : Int) := by omega
        have q7 : (i : Int).toNat = i := by omega
        have dI : decide ((i : Int) < 0) = false := decide_eq_false (by omega)
        have HCO := Lib.hid (HO4.out.recs.at_ RcV.row_len ho)
        clear h1 hid ho hi hro
        obtain ⟨wb, hwb⟩ : ∃ wb, w4.alloc (.cells #[.string id2, .string frm2, .string too2, .int .i64 at_2, .int .i64 ring2, .int .i64 talk2, .int .i64 how2, .string car2] 32) = wb := ⟨_, rfl⟩
        have hgb : w4.grownBy wb none := by rw [← hwb]; exact gr_alloc (gr_refl _ _) _
        have HOB := Lib.hid (show Blk wb w4.heap.size 32 #[.string id2, .string frm2, .string too2, .int .i64 at_2, .int .i64 ring2, .int .i64 talk2, .int .i64 how2, .string car2] by rw [← hwb]; exact Blk.new _ _ _)
        have HRb := Lib.hid (HR4.out.grown hgb (by simp))
        have HOb := Lib.hid (HO4.out.kept hgb (fun g e => by cases e))
        have HDb := Lib.hid (HD4.out.kept hgb (fun g e => by cases e))
        have HGb := Lib.hid (gr_none (gr_none HG.out HG4.out) hgb)
        have zb := hgb.size
        have zb2 := HOB.out.lt
        have HWB := Lib.hid hwb
        clear hwb hgb
        go_upto_region 10 with (first
          | (refine wpl_load_at Tryz.rcT rfl _ rfl _ rfl [.string id2, .string frm2, .string too2, .int .i64 at_2, .int .i64 ring2, .int .i64 talk2, .int .i64 how2, .string car2] rfl (fun j u hu => by rw [add_mk]; have hcc := HCO.out j u hu; simp only [Nat.zero_add] at hcc; exact hcc) ?_)
          | fail)
        rw [HWB.out]
        clear dI
        by_cases e : ((⟨id2, frm2, too2, at_2, ring2, talk2, how2, car2⟩ : RcV) = ⟨id, frm, too, at_, ring, talk, how, car⟩)
        · have HST2 := Lib.hid (HST.out.trans (if_pos e))
          have HEQ := Lib.hid (fun w' => (rcEq_eql ⟨id2, frm2, too2, at_2, ring2, talk2, how2, car2⟩ ⟨id, frm, too, at_, ring, talk, how, car⟩ w').trans (by rw [decide_eq_true e]))
          clear e q5 q6 q7
          go_wp2_with (first
            | (refine wpl_load_all Tryz.rcT rfl _ rfl _ rfl _ _ HOB.out rfl ?_)
            | (refine wpl_load_all Tryz.rcT rfl _ rfl _ rfl _ _ HRb.out rfl ?_)
            | (refine wpl_eqs rfl _ _ rfl _ _ rfl rfl rcEq_guard (HEQ.out _) ?_)
            | fail)
          go_roundw
          case rel => exact ⟨j + 1, on, oc, dn, dc, _, D, by omega, by go_num, rfl, rfl, HGb.out, by rw [HSU.out, HST2.out]; exact HOb.out, by rw [HSU.out, HST2.out]; exact HDb.out⟩
          case measure => simp [intOf]; omega
        · have HST2 := Lib.hid (HST.out.trans (if_neg e))
          have HEQ := Lib.hid (fun w' => (rcEq_eql ⟨id2, frm2, too2, at_2, ring2, talk2, how2, car2⟩ ⟨id, frm, too, at_, ring, talk, how, car⟩ w').trans (by rw [decide_eq_false e]))
          clear e
          have k0 := HRb.out.cell 0
          go_upto_region 12 with (first
            | (refine wpl_load_all Tryz.rcT rfl _ rfl _ rfl _ _ HOB.out rfl ?_)
            | (refine wpl_load_all Tryz.rcT rfl _ rfl _ rfl _ _ HRb.out rfl ?_)
            | (refine wpl_eqs rfl _ _ rfl _ _ rfl rfl rcEq_guard (HEQ.out _) ?_)
            | (at_builtin
               refine wpl_app _ rfl _ _ Tryz.stT rfl w2.heap.size D dn dc _ rfl (by exact HDb.out.1.alloc _) _ _ 1 1 [.string id] rfl (by exact Reads.one _ _ _ _ rfl) (by simp [Value.oneCell']) (by unfold maxLen; omega) (by omega) (by simp; omega) ?_
               intro A5 c5 w5 h5
               have H5 := Lib.hid h5; clear h5)
            | fail)
          have ga : wb.grownBy (wb.alloc (.cells #[.string id] 9)) none := gr_alloc (gr_refl wb none) _
          have HOw := HOb.out.alloc (.cells #[.string id] 9)
          have HDw := HDb.out.alloc (.cells #[.string id] 9)
          have HD5 := Lib.hid (show OwnR srow 1 w5 w2.heap.size 9 A5 (dn + 1) c5 (q2 ++ [id]) from HDw.app rfl H5.out)
          have HO5 := Lib.hid (HOw.kept H5.out.2.1 (fun g e e2 => Own.ne HDw.1 HOw.1 (by decide) e e2))
          have HG5 := Lib.hid (H5.out.gr (gr_none HGb.out ga) HDw.1 (Nat.le_refl _))
          have HR5 := Lib.hid ((HRb.out.grown ga (by simp)).grown H5.out.2.1 (fun e => by have := (HD.out.1.lt e.symm).2; omega))
          have HB5 := Lib.hid ((HOB.out.grown ga (by simp)).grown H5.out.2.1 (fun e => by have := (HD.out.1.lt e.symm).2; omega))
          have z5 := HR5.out.lt; have z6 := HB5.out.lt
          clear H5 HDw HOw ga HOb HDb HRb HOB k0 HGb
          obtain ⟨BT, hBT⟩ : ∃ B, btr ⟨id, frm, too, at_, ring, talk, how, car⟩ ⟨id2, frm2, too2, at_2, ring2, talk2, how2, car2⟩ = B := ⟨_, rfl⟩
          obtain ⟨B1, hB1⟩ : ∃ B, btN ⟨id, frm, too, at_, ring, talk, how, car⟩ ⟨id2, frm2, too2, at_2, ring2, talk2, how2, car2⟩ = B := ⟨_, rfl⟩
          obtain ⟨B2, hB2⟩ : ∃ B, btS ⟨id, frm, too, at_, ring, talk, how, car⟩ ⟨id2, frm2, too2, at_2, ring2, talk2, how2, car2⟩ = B := ⟨_, rfl⟩
          have hdoc := btr_doc ⟨id, frm, too, at_, ring, talk, how, car⟩ ⟨id2, frm2, too2, at_2, ring2, talk2, how2, car2⟩
          rw [hBT, hB1, hB2] at hdoc
          have HBT := Lib.hid hBT
          have HB1 := Lib.hid (show cmpLL cmpZ [talk2, ring2, -at_2, -how2] [talk, ring, -at_, -how] = B1 from hB1)
          have HB2 := Lib.hid (show cmpLL cmpS [frm, too, car] [frm2, too2, car2] = B2 from hB2)
          clear hBT hB1 hB2
          have r5 := HR5.out.cell 5; have r4 := HR5.out.cell 4; have r3 := HR5.out.cell 3; have r6 := HR5.out.cell 6
          have s5 := HB5.out.cell 5; have s4 := HB5.out.cell 4; have s3 := HB5.out.cell 3; have s6 := HB5.out.cell 6
          have u1 : IntKind.i64.wrap (-at_) = -at_ := IntWalk.i64_in _ (by omega)
          have u2 : IntKind.i64.wrap (-how) = -how := IntWalk.i64_in _ (by omega)
          have u3 : IntKind.i64.wrap (-at_2) = -at_2 := IntWalk.i64_in _ (by omega)
          have u4 : IntKind.i64.wrap (-how2) = -how2 := IntWalk.i64_in _ (by omega)
          obtain ⟨W2, hW2⟩ : ∃ v, w5.alloc (.cells #[.int .i64 talk2, .int .i64 ring2, .int .i64 (-at_2), .int .i64 (-how2)] 3) = v := ⟨_, rfl⟩
          obtain ⟨g2, hg2⟩ : ∃ v, w5.heap.size = v := ⟨_, rfl⟩
          obtain ⟨W3, hW3⟩ : ∃ v, W2.alloc (.cells #[.int .i64 talk, .int .i64 ring, .int .i64 (-at_), .int .i64 (-how)] 3) = v := ⟨_, rfl⟩
          obtain ⟨g3, hg3⟩ : ∃ v, W2.heap.size = v := ⟨_, rfl⟩
          have HRX := Lib.hid (show Recs nrow 1 W3 g2 (some ⟨g2, 0, none⟩) 4 4 [talk2, ring2, -at_2, -how2] by
            rw [← hW3, ← hW2, ← hg2]
            exact ⟨(Reads.blk (Blk.new w5 3 #[.int .i64 talk2, .int .i64 ring2, .int .i64 (-at_2), .int .i64 (-how2)]) 1 4 rfl).grown (gr_alloc (gr_refl _ none) _) (fun g e => by cases e), rfl⟩)
          have HRY := Lib.hid (show Recs nrow 1 W3 g3 (some ⟨g3, 0, none⟩) 4 4 [talk, ring, -at_, -how] by
            rw [← hW3, ← hg3]
            exact ⟨Reads.blk (Blk.new W2 3 #[.int .i64 talk, .int .i64 ring, .int .i64 (-at_), .int .i64 (-how)]) 1 4 rfl, rfl⟩)
          have hzz : g3 = g2 + 1 := by rw [← hg3, ← hW2, ← hg2]; simp
          have hg53 : w5.grownBy W3 none := by rw [← hW3, ← hW2]; exact gr_alloc (gr_alloc (gr_refl _ _) _) _
          have HW2 := Lib.hid hW2; have HW3 := Lib.hid hW3; have HGG := Lib.hid hg2
          clear hW2 hW3 hg3
          subst hg2
          subst hzz
          go_upto_region 13 with (first
            | (go_at_call 68
               first
               | rw [HW2.out, HW3.out]
               | fail
               refine (compareI_any _ _ _ _ 4 4 4 4 [talk2, ring2, -at_2, -how2] [talk, ring, -at_, -how] _ HRX.out HRY.out (by omega) (by omega)).mono ?_
               rintro e w' ⟨rfl, rfl⟩
               rw [HB1.out])
            | fail)
          clear u1 u2 u3 u4 r5 r4 r3 r6 s5 s4 s3 s6 HRX HRY HGG
          replace HO5 := Lib.hid (HO5.out.kept hg53 (fun g e => by cases e))
          replace HD5 := Lib.hid (HD5.out.kept hg53 (fun g e => by cases e))
          replace HG5 := Lib.hid (gr_none HG5.out hg53)
          replace HR5 := Lib.hid (HR5.out.grown hg53 (by simp))
          replace HB5 := Lib.hid (HB5.out.grown hg53 (by simp))
          clear hg53
          have z7 := HB5.out.lt; have z8 := HR5.out.lt
          by_cases b1 : B1 < 0
          · obtain rfl : BT = true := by rw [hdoc, decide_eq_true b1]; rfl
            clear hdoc
            have d1 : decide (B1 < 0) = true := decide_eq_true b1
            clear b1
            have HST3 := Lib.hid (show mgStep (q1, q2) ⟨id, frm, too, at_, ring, talk, how, car⟩ = (q1.set i ⟨id, frm, too, at_, ring, talk, how, car⟩, q2 ++ [id]) by rw [HST2.out, HBT.out]; rfl)
            go_wp2_with (first
              | (refine wpl_load_all Tryz.rcT rfl _ rfl _ rfl _ _ HR5.out rfl ?_)
              | (refine wpl_store_rec (row := RcV.row) rfl Tryz.rcT RcV.row_len (by decide) _ _ rfl i _ rfl rfl ⟨id, frm, too, at_, ring, talk, how, car⟩ rfl HO5.out (by omega) (RcV.one1 _) ?_
                 intro w8 hown8 hg8
                 have HO8 := Lib.hid hown8
                 have HD8 := Lib.hid (HD5.out.kept hg8 (fun g e e2 => by injection e with e; subst e; exact Own.ne HD5.out.1 HO5.out.1 (by decide) e2 rfl))
                 have HG8 := Lib.hid (gr_own HG5.out HO5.out.1 (by omega) hg8)
                 clear hown8 hg8)
              | fail)
            clear q5 q6 q7
            go_roundw
            case rel => exact ⟨j + 1, on, oc, dn + 1, c5, _, A5, by omega, by go_num, rfl, rfl, HG8.out, by rw [HSU.out, HST3.out]; exact HO8.out, by rw [HSU.out, HST3.out]; exact HD8.out⟩
            case measure => simp [intOf]; omega
          · by_cases b0 : B1 = 0
            · subst b0
              clear b1
              have hf := HR5.out.cell 1; have hf2 := HR5.out.cell 2; have hf7 := HR5.out.cell 7
              have he := HB5.out.cell 1; have he2 := HB5.out.cell 2; have he7 := HB5.out.cell 7
              obtain ⟨W4, hW4⟩ : ∃ v, W3.alloc (.cells #[.string frm, .string too, .string car] 9) = v := ⟨_, rfl⟩
              obtain ⟨g2, hg2⟩ : ∃ v, W3.heap.size = v := ⟨_, rfl⟩
              obtain ⟨W5, hW5⟩ : ∃ v, W4.alloc (.cells #[.string frm2, .string too2, .string car2] 9) = v := ⟨_, rfl⟩
              obtain ⟨g3, hg3⟩ : ∃ v, W4.heap.size = v := ⟨_, rfl⟩
              have HRX := Lib.hid (show Recs srow 1 W5 g2 (some ⟨g2, 0, none⟩) 3 3 [frm, too, car] by
                rw [← hW5, ← hW4, ← hg2]
                exact ⟨(Reads.blk (Blk.new W3 9 #[.string frm, .string too, .string car]) 1 3 rfl).grown (gr_alloc (gr_refl _ none) _) (fun g e => by cases e), rfl⟩)
              have HRY := Lib.hid (show Recs srow 1 W5 g3 (some ⟨g3, 0, none⟩) 3 3 [frm2, too2, car2] by
                rw [← hW5, ← hg3]
                exact ⟨Reads.blk (Blk.new W4 9 #[.string frm2, .string too2, .string car2]) 1 3 rfl, rfl⟩)
              have hzz : g3 = g2 + 1 := by rw [← hg3, ← hW4, ← hg2]; simp
              have hg35 : W3.grownBy W5 none := by rw [← hW5, ← hW4]; exact gr_alloc (gr_alloc (gr_refl _ _) _) _
              have HW4 := Lib.hid hW4; have HW5 := Lib.hid hW5
              clear hW4 hW5 hg3
              subst hg2
              subst hzz
              have HO7 := Lib.hid (HO5.out.kept hg35 (fun g e => by cases e))
              have HD7 := Lib.hid (HD5.out.kept hg35 (fun g e => by cases e))
              have HG7 := Lib.hid (gr_none HG5.out hg35)
              have HR7 := Lib.hid (HR5.out.grown hg35 (by simp))
              clear hg35
              by_cases b2 : B2 < 0
              · obtain rfl : BT = true := by rw [hdoc, decide_eq_true b2]; rfl
                clear hdoc
                have d2 : decide (B2 < 0) = true := decide_eq_true b2
                clear b2
                have HST3 := Lib.hid (show mgStep (q1, q2) ⟨id, frm, too, at_, ring, talk, how, car⟩ = (q1.set i ⟨id, frm, too, at_, ring, talk, how, car⟩, q2 ++ [id]) by rw [HST2.out, HBT.out]; rfl)
                go_wp2_with (first
                  | (go_at_call 69
                     first
                     | rw [HW4.out, HW5.out]
                     | fail
                     refine (compareS_any _ _ _ _ 3 3 3 3 [frm, too, car] [frm2, too2, car2] _ HRX.out HRY.out (by omega) (by omega)).mono ?_
                     rintro e w' ⟨rfl, rfl⟩
                     rw [HB2.out])
                  | (refine wpl_load_all Tryz.rcT rfl _ rfl _ rfl _ _ HR7.out rfl ?_)
                  | (refine wpl_store_rec (row := RcV.row) rfl Tryz.rcT RcV.row_len (by decide) _ _ rfl i _ rfl rfl ⟨id, frm, too, at_, ring, talk, how, car⟩ rfl HO7.out (by omega) (RcV.one1 _) ?_
                     intro w8 hown8 hg8
                     have HO8 := Lib.hid hown8
                     have HD8 := Lib.hid (HD7.out.kept hg8 (fun g e e2 => by injection e with e; subst e; exact Own.ne HD7.out.1 HO7.out.1 (by decide) e2 rfl))
                     have HG8 := Lib.hid (gr_own HG7.out HO7.out.1 (by omega) hg8)
                     clear hown8 hg8)
                  | fail)
                clear q5 q6 q7
                go_roundw
                case rel => exact ⟨j + 1, on, oc, dn + 1, c5, _, A5, by omega, by go_num, rfl, rfl, HG8.out, by rw [HSU.out, HST3.out]; exact HO8.out, by rw [HSU.out, HST3.out]; exact HD8.out⟩
                case measure => simp [intOf]; omega
              · obtain rfl : BT = false := by rw [hdoc, decide_eq_false b2]; rfl
                clear hdoc
                have d2 : decide (B2 < 0) = false := decide_eq_false b2
                clear b2
                have HST3 := Lib.hid (show mgStep (q1, q2) ⟨id, frm, too, at_, ring, talk, how, car⟩ = (q1, q2 ++ [id]) by rw [HST2.out, HBT.out]; rfl)
                clear q5 q6 q7
                go_wp2_with (first
                  | (go_at_call 69
                     first
                     | rw [HW4.out, HW5.out]
                     | fail
                     refine (compareS_any _ _ _ _ 3 3 3 3 [frm, too, car] [frm2, too2, car2] _ HRX.out HRY.out (by omega) (by omega)).mono ?_
                     rintro e w' ⟨rfl, rfl⟩
                     rw [HB2.out])
                  | fail)
                go_roundw
                case rel => exact ⟨j + 1, on, oc, dn + 1, c5, _, A5, by omega, by go_num, rfl, rfl, HG7.out, by rw [HSU.out, HST3.out]; exact HO7.out, by rw [HSU.out, HST3.out]; exact HD7.out⟩
                case measure => simp [intOf]; omega
            · obtain rfl : BT = false := by rw [hdoc, decide_eq_false b1, decide_eq_false b0]; rfl
              clear hdoc
              have d1 : decide (B1 < 0) = false := decide_eq_false b1
              have d3 : (B1 == 0) = false := by simpa using b0
              clear b1 b0
              have HST3 := Lib.hid (show mgStep (q1, q2) ⟨id, frm, too, at_, ring, talk, how, car⟩ = (q1, q2 ++ [id]) by rw [HST2.out, HBT.out]; rfl)
              clear q5 q6 q7
              go_wp2_with fail
              go_roundw
              case rel => exact ⟨j + 1, on, oc, dn + 1, c5, _, A5, by omega, by go_num, rfl, rfl, HG5.out, by rw [HSU.out, HST3.out]; exact HO5.out, by rw [HSU.out, HST3.out]; exact HD5.out⟩
              case measure => simp [intOf]; omega
    · obtain rfl : j = N := by omega
      have d9 : decide ((3000 : Int) < (on : Int)) = false := decide_eq_false (by omega)
      have d9' : decide (3000 < on) = false := decide_eq_false (by omega)
      have HOK := Lib.hid (show ∀ x ∈ q1, RcOkL x from fun x hx => (HRT.out x (HMEM.out x hx)).2)
      have HQF := Lib.hid (show mgFrom (l, []) l' l'.length = (q1, q2) by rw [← HFIN.out]; exact HQ.out)
      go_wp2_with fail
      refine (sortD_any w2.heap.size O on oc q1 _ HO.out HOK.out (by omega)).mono ?_
      rintro e w8 ⟨rfl, out, hp, ha, hown8, hg8⟩
      have HO8 := Lib.hid hown8
      have HD8 := Lib.hid (HD.out.kept hg8 (fun g e e2 => Own.ne HO.out.1 HD.out.1 (by decide) e e2))
      have HG8 := Lib.hid (gr_own HG.out HO.out.1 (Nat.le_refl _) hg8)
      have HP := Lib.hid hp; have HA := Lib.hid ha
      clear hp ha hown8 hg8
      go_wp2_with fail
      refine (sortS_any w2.heap.size D dn dc q2 _ HD8.out (by omega)).mono ?_
      rintro e w9 ⟨rfl, hown9, hg9⟩
      have HD9 := Lib.hid hown9
      have HO9 := Lib.hid (HO8.out.kept hg9 (fun g e e2 => Own.ne HD8.out.1 HO8.out.1 (by decide) e e2))
      have HG9 := Lib.hid (gr_own HG8.out HD8.out.1 (Nat.le_refl _) hg9)
      clear hown9 hg9
      go_wp2_with fail
      go_ret3
      exact ⟨O, on, oc, D, dn, dc, out, rfl, by rw [HQF.out]; exact HP.out, HA.out, HO9.out.lower hz2, by rw [HQF.out]; exact HD9.out.lower hz2, gr_none HG2.out HG9.out⟩
end Go.Proofs.YtgogiljplnninaaGreatDoor

/- Contract of the document's WatchedOf. Conditions: the arguments are right. -/
import Derived.Test.YtdgjjjdndedeiaaGreatDoorWa4
import Derived.Test.YtdgjjjdndedeiaaGreatDoorRc10
namespace Go.Proofs.YtdgjjjdndedeiaaGreatDoor
open Go.RowKit

set_option maxHeartbeats 16000000 in
set_option maxRecDepth 100000 in
theorem watchedOf_any (lo : Nat) (cA iA : Option Addr) (cn cc en ic : Nat) (free : Int) (cl : List ClV) (ins : List ByteArray) (P : Option Addr) (pn pc : Nat) (p : List PyV) (L : Option Addr) (ln lc : Nat) (l : List RcV) (WA : Option Addr) (wn wc : Nat) (ws : List WaV) (w : World) (h : WatchOk w lo ⟨cA, cn, cc, free, iA, en, ic, cl, ins⟩ P pn pc p WA wn wc ws L ln lc l) (hpn : pn ≤ 1000) :
    Calls Tryz.prog 30 #[.agg #[.slice cA cn cc, .int .i64 free, .slice iA en ic], .slice P pn pc, .slice WA wn wc, .slice L ln lc] w (WatchV ⟨cA, cn, cc, free, iA, en, ic, cl, ins⟩ p ws l w) := by
  obtain ⟨⟨htf, hpy, hrc, het, hep, her⟩, hwa, hew⟩ := h
  obtain ⟨hr1, hr2, hr3⟩ := rcs_right her
  obtain ⟨hsr, hnum⟩ := tar_right htf.2.1.len het
  obtain ⟨hw1, hw2⟩ := was_right hew
  have hln : ln ≤ 3000 := by rw [← hrc.1.len]; exact hr1
  have hwn : wn ≤ 50 := by rw [← hwa.1.len]; exact hw1
  have HTF := Lib.hid htf; have HPY := Lib.hid hpy; have HRC := Lib.hid hrc; have HRR := Lib.hid hr2; have HNU := Lib.hid hnum
  have HWA := Lib.hid hwa; have HWN := Lib.hid hw2
  have HOK := Lib.hid (fun k => wRun_ok ⟨cA, cn, cc, free, iA, en, ic, cl, ins⟩ p ws l k)
  have HBD := Lib.hid (fun k => wRun_bd (t := ⟨cA, cn, cc, free, iA, en, ic, cl, ins⟩) (p := p) (ws := ws) hnum hr2 (fun s c h => clsOf_mem h) k)
  clear htf hpy hrc het hep her hr1 hr2 hr3 hsr hnum hwa hew hw1 hw2
  go_enter Tryz.func30, Tryz.ntmps30
  go_wp2_with fail
  have HT := Lib.hid (Blk.new w 29 #[.slice cA cn cc, .int .i64 free, .slice iA en ic])
  have HG1 := Lib.hid (gr_alloc (gr_refl w none) (.cells #[.slice cA cn cc, .int .i64 free, .slice iA en ic] 29))
  obtain ⟨w1, hw1⟩ : ∃ w1, w.alloc (.cells #[.slice cA cn cc, .int .i64 free, .slice iA en ic] 29) = w1 := ⟨_, rfl⟩
  rw [hw1] at HT HG1 ⊢
  have z1 : w.heap.size + 1 ≤ w1.heap.size := by rw [← hw1]; simp
  clear hw1
  go_loopw [10, 11, 12, 13, 14, 15, 16, 17, 18, 19, 20, 21, 22, 23, 25, 26, 27, 28, 29, 32] (fun bls stp cnt _ _ _ _ _ _ _ _ _ _ _ _ _ _ _ _ t wr => ∃ (k bn bc sn sc dn dc : Nat) (BA SA DA : Option Addr), k ≤ ln ∧ t = .int .i64 k ∧ bls = .slice BA bn bc ∧ stp = .slice SA sn sc ∧ cnt = .slice DA dn dc ∧ w1.grownBy wr none ∧
    OwnR BlV.row 4 wr w1.heap.size 73 BA bn bc (wRun ⟨cA, cn, cc, free, iA, en, ic, cl, ins⟩ p ws l k).bl ∧ OwnR irow 1 wr w1.heap.size 3 SA sn sc (natI (wRun ⟨cA, cn, cc, free, iA, en, ic, cl, ins⟩ p ws l k).st) ∧ OwnR irow 1 wr w1.heap.size 3 DA dn dc (natI (wRun ⟨cA, cn, cc, free, iA, en, ic, cl, ins⟩ p ws l k).ix) ∧ ∀ g, blkOf SA = some g → blkOf DA ≠ some g) (fun _ _ _ _ _ _ _ _ _ _ _ _ _ _ _ _ _ _ _ t _ => ln - (intOf t).toNat)
  case atStart => exact ⟨0, 0, 0, 0, 0, 0, 0, none, none, none, Nat.zero_le _, rfl, rfl, rfl, rfl, gr_refl _ _, OwnR.nil _ _ _, OwnR.nil _ _ _, OwnR.nil _ _ _, fun g e => by cases e⟩
  case round =>
    obtain ⟨k, bn, bc, sn, sc, dn, dc, BA, SA, DA, hk, rfl, rfl, rfl, rfl, hg, hob, hos, hod, hne⟩ := hrel
    have zr := hg.size
    have HG := Lib.hid hg; have HB := Lib.hid hob; have HS := Lib.hid hos; have HD := Lib.hid hod; have HNE := Lib.hid hne
    have hbn : bn ≤ k := by rw [← hob.2]; exact (HOK.out k).bn
    have hsn : sn ≤ k := by rw [← hos.2]; unfold natI; rw [List.length_map]; exact (HOK.out k).sn
    have hdn : dn ≤ k := by rw [← hod.2]; unfold natI; rw [List.length_map, (HOK.out k).len]; exact (HOK.out k).cn
    clear hg hob hos hod hne
    by_cases hlt : k < ln
    · obtain ⟨g, o, ⟨id, frm, too, at_, ring, talk, how, car⟩, rfl, _, hgl, hz, hcc⟩ := (HRC.out.1.grown (gr_none HG1.out HG.out) (fun g e => by cases e)).get RcV.row_len hlt
      obtain ⟨p1, p2, p3, p4, p5, p6⟩ := HRC.out.2 _ (mem_of_get hz)
      obtain ⟨t1, t2, -, t3, t4, -, -⟩ := (HRR.out _ (mem_of_get hz)).talk
      dsimp only at p1 p2 p3 p4 p5 p6 t1 t2 t3 t4
      have HZ := Lib.hid hz; have HZC := Lib.hid hcc; clear hz hcc
      obtain ⟨wa, hwa⟩ : ∃ wa, wr.alloc (.cells #[.string id, .string frm, .string too, .int .i64 at_, .int .i64 ring, .int .i64 talk, .int .i64 how, .string car] 84) = wa := ⟨_, rfl⟩
      have HR := Lib.hid (show Blk wa wr.heap.size 84 #[.string id, .string frm, .string too, .int .i64 at_, .int .i64 ring, .int .i64 talk, .int .i64 how, .string car] by rw [← hwa]; exact Blk.new _ _ _)
      have HGa := Lib.hid (show wr.grownBy wa none by rw [← hwa]; exact gr_alloc (gr_refl _ _) _)
      have HTa := Lib.hid (HT.out.grown (gr_none HG.out HGa.out) (by simp))
      have HWAE := Lib.hid hwa; clear hwa
      go_upto_region 6 with (first
        | (refine wpl_load_at Tryz.rcT rfl _ rfl _ rfl [.string id, .string frm, .string too, .int .i64 at_, .int .i64 ring, .int .i64 talk, .int .i64 how, .string car] rfl (fun j u hu => by rw [add_mk]; exact HZC.out j u hu) ?_)
        | fail)
      rw [HWAE.out]
      go_wp2_with (first
        | (refine wpl_load_all Tryz.rcT rfl _ rfl _ rfl _ _ HR.out rfl ?_)
        | (refine wpl_load_all Tryz.tfT rfl _ rfl _ rfl _ _ HTa.out rfl ?_)
        | fail)
      refine (paying_any lo cA iA cn cc en ic free cl ins P pn pc p id frm too at_ ring talk how car _ (HTF.out.grown (gr_none HG1.out (gr_none HG.out HGa.out)) (fun g e => by cases e)) (HPY.out.grown (gr_none HG1.out (gr_none HG.out HGa.out)) (fun g e => by cases e)) hpn p3).mono ?_
      rintro e w3 ⟨rfl, hg3⟩
      obtain ⟨Y, hY⟩ : ∃ Y, payerOf p (nb frm) = Y := ⟨_, rfl⟩
      obtain ⟨C, hC⟩ : ∃ C, clsOf cl (nb too) = C := ⟨_, rfl⟩
      obtain ⟨YS, hYS⟩ : ∃ YS, optS (Y.map (·.key)) = YS := ⟨_, rfl⟩
      obtain ⟨YB, hYB⟩ : ∃ YB, (Y.map (·.key)).isSome = YB := ⟨_, rfl⟩
      obtain ⟨CB, hCB⟩ : ∃ CB, C.isSome = CB := ⟨_, rfl⟩
      obtain ⟨q0, q1, i1, i2, i3, i4, hrow⟩ := clsRow_is C
      rw [show payVal ⟨cA, cn, cc, free, iA, en, ic, cl, ins⟩ p ⟨id, frm, too, at_, ring, talk, how, car⟩ = .tuple #[.string YS, .agg #[.string q0, .string q1, .int .i64 i1, .int .i64 i2, .int .i64 i3, .int .i64 i4], .bool (YB && CB)] by unfold payVal paidB; dsimp only; rw [hY, hC, hYS, hrow, hCB, ← hYB, Option.isSome_map]]
      have HY := Lib.hid hY; have HC := Lib.hid hC; have HYS := Lib.hid hYS; have HYB := Lib.hid hYB; have HCB := Lib.hid hCB; have HROW := Lib.hid hrow
      clear hY hC hYS hYB hCB hrow
      obtain ⟨wb, hwb⟩ : ∃ wb, w3.alloc (.cells #[.string q0, .string q1, .int .i64 i1, .int .i64 i2, .int .i64 i3, .int .i64 i4] 113) = wb := ⟨_, rfl⟩
      have HK := Lib.hid (show Blk wb w3.heap.size 113 #[.string q0, .string q1, .int .i64 i1, .int .i64 i2, .int .i64 i3, .int .i64 i4] by rw [← hwb]; exact Blk.new _ _ _)
      have HGb := Lib.hid (show wr.grownBy wb none by rw [← hwb]; exact gr_alloc (gr_none HGa.out hg3) _)
      have HRb := Lib.hid (show Blk wb wr.heap.size 84 #[.string id, .string frm, .string too, .int .i64 at_, .int .i64 ring, .int .i64 talk, .int .i64 how, .string car] by rw [← hwb]; exact (HR.out.grown hg3 (by simp)).alloc _)
      have z3 := (gr_none HGa.out hg3).size
      clear hg3
      go_upto_region 7 with (fail)
      clear hwb
      have k1 := HRb.out.cell 1
      go_wp2_with fail
      refine (payerFor_any lo P pn pc p frm _ (HPY.out.grown (gr_none HG1.out (gr_none HG.out HGb.out)) (fun g e => by cases e)) hpn).mono ?_
      rintro e w4 ⟨rfl, hg4⟩
      rw [HY.out, HYS.out, HYB.out]
      have HG4 := Lib.hid (gr_none HGb.out hg4)
      have HK4 := Lib.hid (HK.out.grown hg4 (by simp))
      have HR4 := Lib.hid (HRb.out.grown hg4 (by simp))
      have HB4 := Lib.hid (HB.out.kept HG4.out (fun g e => by cases e))
      have HS4 := Lib.hid (HS.out.kept HG4.out (fun g e => by cases e))
      have HD4 := Lib.hid (HD.out.kept HG4.out (fun g e => by cases e))
      have z4 := HG4.out.size
      have zk4 := HK4.out.lt
      clear hg4 k1 HB HS HD HK HRb HGa HR HTa
      cases YB
      · have HP := Lib.hid (wStep_none (t := ⟨cA, cn, cc, free, iA, en, ic, cl, ins⟩) (ws := ws) (k := k) (r := ⟨id, frm, too, at_, ring, talk, how, car⟩) (s := (wRun ⟨cA, cn, cc, free, iA, en, ic, cl, ins⟩ p ws l k)) (HY.out.trans (by cases Y with
          | none => rfl
          | some y => exact absurd HYB.out (by simp))))
        go_wp2_with fail
        go_roundw
        case rel => exact ⟨k + 1, bn, bc, sn, sc, dn, dc, BA, SA, DA, by omega, by go_num, rfl, rfl, rfl, gr_none HG.out HG4.out, by rw [wRun_one HZ.out, HP.out]; exact HB4.out, by rw [wRun_one HZ.out, HP.out]; exact HS4.out, by rw [wRun_one HZ.out, HP.out]; exact HD4.out, HNE.out⟩
        case measure => simp [intOf]; omega
      · obtain ⟨⟨key, nA, nn, nc, nums⟩, rfl⟩ : ∃ y, Y = some y := by cases Y with
          | none => exact absurd HYB.out (by simp)
          | some y => exact ⟨y, rfl⟩
        obtain rfl : key = YS := HYS.out
        have hks : key.size ≤ 1000 := (HPY.out.2 _ (List.mem_of_find?_eq_some HY.out)).1.1
        have k3 := HR4.out.cell 3
        go_wp2_with fail
        refine (blockedOf_any w1.heap.size BA bn bc (wRun ⟨cA, cn, cc, free, iA, en, ic, cl, ins⟩ p ws l k).bl key at_ _ HB4.out.recs (by omega)).mono ?_
        rintro e w5 ⟨rfl, hg5⟩
        obtain ⟨BB, hBB⟩ : ∃ BB, blkB (wRun ⟨cA, cn, cc, free, iA, en, ic, cl, ins⟩ p ws l k).bl key at_ = BB := ⟨_, rfl⟩
        rw [hBB]
        have HBB := Lib.hid hBB; clear hBB
        have HG5 := Lib.hid (gr_none HG4.out hg5)
        have HK5 := Lib.hid (HK4.out.grown hg5 (by simp))
        have HR5 := Lib.hid (HR4.out.grown hg5 (by simp))
        have HB5 := Lib.hid (HB4.out.kept hg5 (fun g e => by cases e))
        have HS5 := Lib.hid (HS4.out.kept hg5 (fun g e => by cases e))
        have HD5 := Lib.hid (HD4.out.kept hg5 (fun g e => by cases e))
        have z5 := HG5.out.size
        clear hg5 k3 HB4 HS4 HD4 HK4 HR4 HG4
        cases BB
        · cases CB
          · have HP := Lib.hid (wStep_nocls (t := ⟨cA, cn, cc, free, iA, en, ic, cl, ins⟩) (ws := ws) (k := k) (r := ⟨id, frm, too, at_, ring, talk, how, car⟩) (s := (wRun ⟨cA, cn, cc, free, iA, en, ic, cl, ins⟩ p ws l k)) HY.out HBB.out (HC.out.trans (opt_none HCB.out)))
            go_wp2_with fail
            go_roundw
            case rel => exact ⟨k + 1, bn, bc, sn, sc, dn, dc, BA, SA, DA, by omega, by go_num, rfl, rfl, rfl, gr_none HG.out HG5.out, by rw [wRun_one HZ.out, HP.out]; exact HB5.out, by rw [wRun_one HZ.out, HP.out]; exact HS5.out, by rw [wRun_one HZ.out, HP.out]; exact HD5.out, HNE.out⟩
            case measure => simp [intOf]; omega
          · rcases C with _ | ⟨pre, name, setup, first, step, rate⟩
            · exact absurd HCB.out (by decide)
            have hrow := HROW.out
            simp only [clsRow, Option.elim] at hrow
            simp only [Array.mk.injEq, List.cons.injEq, Value.string.injEq, Value.int.injEq, true_and, and_true] at hrow
            obtain ⟨rfl, rfl, rfl, rfl, rfl, rfl⟩ := hrow
            have HP := Lib.hid (wStep_add (t := ⟨cA, cn, cc, free, iA, en, ic, cl, ins⟩) (ws := ws) (k := k) (r := ⟨id, frm, too, at_, ring, talk, how, car⟩) (s := (wRun ⟨cA, cn, cc, free, iA, en, ic, cl, ins⟩ p ws l k)) HY.out HBB.out HC.out)
            clear HROW HCB HYB HYS
            go_upto_region 12 with (first
              | (at_builtin
                 refine wpl_app _ rfl _ _ Tryz.intsT rfl w1.heap.size DA dn dc _ rfl (by exact HD5.out.1.alloc _) _ _ 1 1 [.int .i64 k] rfl (by exact Reads.one _ _ _ _ rfl) (by simp [Value.oneCell']) (by unfold maxLen; omega) (by omega) (by simp; omega) ?_
                 intro DA1 dc1 w6 h6
                 have H6 := Lib.hid h6; clear h6)
              | fail)
            have g0 : w5.grownBy (w5.alloc (.cells #[.int .i64 k] 3)) none := gr_alloc (gr_refl _ _) _
            have g6 := H6.out.2.1
            have HD6 := Lib.hid (show OwnR irow 1 w6 w1.heap.size 3 DA1 (dn + 1) dc1 (natI ((wRun ⟨cA, cn, cc, free, iA, en, ic, cl, ins⟩ p ws l k).ix ++ [k])) by rw [natI_snoc]; exact (HD5.out.alloc _).app rfl H6.out)
            have HB6 := Lib.hid ((HB5.out.kept g0 (fun g e => by cases e)).kept g6 (fun g e => Own.ne HD5.out.1 HB5.out.1 (by decide) e))
            have HS6 := Lib.hid ((HS5.out.kept g0 (fun g e => by cases e)).kept g6 (fun g e e2 => HNE.out g e2 e))
            have HNE6 := Lib.hid (show ∀ g, blkOf SA = some g → blkOf DA1 ≠ some g from fun g e e2 => by
              rcases H6.out.2.2 g e2 with h | h
              · exact HNE.out g e h
              · have := (HS5.out.1.lt e).2; simp at h; omega)
            have HK6 := Lib.hid ((HK5.out.grown g0 (by simp)).grown g6 (fun e => HD5.out.1.blk_ne HK5.out (by decide) e.symm))
            have HR6 := Lib.hid ((HR5.out.grown g0 (by simp)).grown g6 (fun e => HD5.out.1.blk_ne HR5.out (by decide) e.symm))
            have HG6 := Lib.hid (show w1.grownBy w6 none from H6.out.gr (gr_none HG.out (gr_none HG5.out g0)) (HD5.out.1.alloc _) (Nat.le_refl _))
            have HT6 := Lib.hid (HT.out.grown HG6.out (by simp))
            have z6 := g6.size; simp at z6
            clear g0 g6 HB5 HS5 HD5 HK5 HR5
            obtain ⟨PV, hPV⟩ : ∃ PV, priceOf ⟨pre, name, setup, first, step, rate⟩ talk = PV := ⟨_, rfl⟩
            have HCN := Lib.hid (show cnOf ⟨key, nA, nn, nc, nums⟩ ⟨pre, name, setup, first, step, rate⟩ ⟨id, frm, too, at_, ring, talk, how, car⟩ = (⟨key, name, at_, PV⟩ : CnV) by unfold cnOf; dsimp only; rw [hPV])
            clear hPV
            obtain ⟨cs1, hcs1⟩ : ∃ cs1, (wRun ⟨cA, cn, cc, free, iA, en, ic, cl, ins⟩ p ws l k).cs ++ [(⟨key, name, at_, PV⟩ : CnV)] = cs1 := ⟨_, rfl⟩
            obtain ⟨ix1, hix1⟩ : ∃ ix1, (wRun ⟨cA, cn, cc, free, iA, en, ic, cl, ins⟩ p ws l k).ix ++ [k] = ix1 := ⟨_, rfl⟩
            rw [hix1] at HD6
            have HRUN := Lib.hid (show wRun ⟨cA, cn, cc, free, iA, en, ic, cl, ins⟩ p ws l (k + 1) = ⟨cs1, ix1, (wRun ⟨cA, cn, cc, free, iA, en, ic, cl, ins⟩ p ws l k).bl ++ wBlk ws cs1 (⟨key, name, at_, PV⟩ : CnV), (wRun ⟨cA, cn, cc, free, iA, en, ic, cl, ins⟩ p ws l k).st⟩ by rw [wRun_one HZ.out, HP.out, HCN.out, hcs1, hix1])
            have HOK1 := Lib.hid (HOK.out (k + 1))
            have HBD1 := Lib.hid (HBD.out (k + 1))
            rw [HRUN.out] at HOK1 HBD1
            have HCB1 := Lib.hid (wCnt_bd (cs := cs1) (fun e he => (HBD1.out e he).1))
            have HLC := Lib.hid (show cs1.length = dn + 1 by have h1 := HOK1.out.len; dsimp only at h1; have h2 := HD6.out.2; unfold natI at h2; rw [List.length_map] at h2; omega)
            clear hcs1 hix1
            go_wp2_with fail
            obtain ⟨wq, rfl⟩ : ∃ wq : World, wq = wr := ⟨_, rfl⟩
            go_loopw [10, 20, 21, 22, 23, 25, 26, 27, 28, 29, 72] (fun bls _ _ _ _ _ _ _ _ _ t wr => ∃ i : Nat, i ≤ wn ∧ t = .int .i64 i ∧ bls = .slice BA bn bc ∧ w6.grownBy wr none ∧ (ws.take i).all (fun z => !wTrip cs1 (⟨key, name, at_, PV⟩ : CnV) z) = true) (fun _ _ _ _ _ _ _ _ _ _ t _ => wn - (intOf t).toNat)
            case atStart => exact ⟨0, Nat.zero_le _, rfl, rfl, gr_refl _ _, rfl⟩
            case round =>
              obtain ⟨i, hi, rfl, rfl, hg, ha⟩ := hrel
              have zi := hg.size
              have HA := Lib.hid ha; have HGi := Lib.hid hg; clear ha hg
              by_cases hlti : i < wn
              · obtain ⟨g3, o3, ⟨cls, win, calls, cents, block⟩, rfl, _, hgl3, hz, hcc⟩ := (HWA.out.1.grown (gr_none HG1.out (gr_none HG6.out HGi.out)) (fun g e => by cases e)).get WaV.row_len hlti
                obtain ⟨⟨n1, n2⟩, ⟨n3, n4⟩, ⟨n5, n6⟩, n7, n8⟩ := waNum_bd (HWN.out _ (mem_of_get hz))
                dsimp only at n1 n2 n3 n4 n5 n6 n7 n8
                have HZW := Lib.hid hz; have HZWC := Lib.hid hcc; clear hz hcc
                obtain ⟨wx, hwx⟩ : ∃ wx, wr.alloc (.cells #[.string cls, .int .i64 win, .int .i64 calls, .int .i64 cents, .int .i64 block] 127) = wx := ⟨_, rfl⟩
                have HZB := Lib.hid (show Blk wx wr.heap.size 127 #[.string cls, .int .i64 win, .int .i64 calls, .int .i64 cents, .int .i64 block] by rw [← hwx]; exact Blk.new _ _ _)
                have HGx := Lib.hid (show w6.grownBy wx none by rw [← hwx]; exact gr_alloc HGi.out _)
                have HWX := Lib.hid hwx; clear hwx
                have zx := HZB.out.lt
                go_upto_region 15 with (first
                  | (refine wpl_load_at Tryz.waT rfl _ rfl _ rfl [.string cls, .int .i64 win, .int .i64 calls, .int .i64 cents, .int .i64 block] rfl (fun j u hu => by rw [add_mk]; exact HZWC.out j u hu) ?_)
                  | fail)
                rw [HWX.out]
                have kz0 := HZB.out.cell 0
                have kk1 := (HK6.out.grown HGx.out (by simp)).cell 1
                by_cases hcl : nb cls = []
                · have q0 := str_nil hcl
                  have HSE := Lib.hid (show wSees ⟨cls, win, calls, cents, block⟩ name = true by unfold wSees; dsimp only; rw [decide_eq_true hcl]; rfl)
                  have HNIL := Lib.hid (show decide (nb cls = []) = true from decide_eq_true hcl)
                  clear hcl
                  go_wp2_with fail
                  clear kz0 kk1
                  obtain ⟨wo, rfl⟩ : ∃ wo : World, wo = wr := ⟨_, rfl⟩
                  go_loopw [22, 23, 25, 26, 27, 28, 29, 89] (fun a b _ _ _ _ _ t wr => ∃ j : Nat, j ≤ dn + 1 ∧ t = .int .i64 j ∧ a = .int .i64 (wCnt cs1 ⟨cls, win, calls, cents, block⟩ key at_ j).1 ∧ b = .int .i64 (wCnt cs1 ⟨cls, win, calls, cents, block⟩ key at_ j).2 ∧ wx.grownBy wr none) (fun _ _ _ _ _ _ _ t _ => dn + 1 - (intOf t).toNat)
                  case atStart => exact ⟨0, Nat.zero_le _, rfl, rfl, rfl, gr_refl _ _⟩
                  case round =>
                    obtain ⟨j, hj, rfl, rfl, rfl, hg⟩ := hrel
                    have HGj := Lib.hid hg; clear hg
                    have zj := HGj.out.size
                    obtain ⟨b1, b2, b3, b4⟩ := HCB1.out ⟨cls, win, calls, cents, block⟩ key at_ j
                    obtain ⟨s1, hs1⟩ : ∃ s, (wCnt cs1 ⟨cls, win, calls, cents, block⟩ key at_ j).1 = s := ⟨_, rfl⟩
                    obtain ⟨s2, hs2⟩ : ∃ s, (wCnt cs1 ⟨cls, win, calls, cents, block⟩ key at_ j).2 = s := ⟨_, rfl⟩
                    rw [hs1] at b1 b2 ⊢; rw [hs2] at b3 b4 ⊢
                    have HS1 := Lib.hid hs1; have HS2 := Lib.hid hs2
                    clear hs1 hs2
                    by_cases hlt2 : j < dn + 1
                    · obtain ⟨g2, o2, zq, rfl, _, hgl2, hz, hcc⟩ := (HD6.out.recs.grown (gr_none HGx.out HGj.out) (fun g e => by cases e)).get irow_len hlt2
                      unfold natI at hz
                      rw [List.getElem?_map, Option.map_eq_some_iff] at hz
                      obtain ⟨q, hq, rfl⟩ := hz
                      have kq := hcc 0 _ rfl
                      simp only [Nat.mul_one, Nat.add_zero] at kq
                      obtain ⟨hqk, ⟨id2, frm2, too2, at2, ring2, talk2, how2, car2⟩, ⟨key2, nA2, nn2, nc2, nums2⟩, ⟨pre2, name2, setup2, first2, step2, rate2⟩, hr2, hy2, hc2, hcs2⟩ := HOK1.out.at_ j q hq
                      dsimp only at hy2 hc2 hcs2
                      have hql : q < ln := by omega
                      obtain ⟨b5, b6, b7, -⟩ := HRC.out.2 _ (mem_of_get hr2)
                      have hrr2 := (HRR.out _ (mem_of_get hr2)).talk
                      dsimp only at b5 b6 b7 hrr2
                      obtain ⟨r1, r2, -, r3, r4, -, -⟩ := hrr2
                      obtain ⟨PV2, hPV2⟩ : ∃ PV, priceOf ⟨pre2, name2, setup2, first2, step2, rate2⟩ talk2 = PV := ⟨_, rfl⟩
                      have a1 := (HBD1.out _ (mem_of_get hcs2)).1
                      unfold cnOf at hcs2 a1
                      dsimp only at hcs2 a1
                      rw [hPV2] at hcs2 a1
                      obtain ⟨a1, a3⟩ := a1
                      have HPV2 := Lib.hid hPV2; have HCS2 := Lib.hid hcs2; have HR2 := Lib.hid hr2; have HY2 := Lib.hid hy2; have HC2 := Lib.hid hc2
                      have HCELL := Lib.hid ((HRC.out.1.grown (gr_none HG1.out (gr_none HG6.out (gr_none HGx.out HGj.out))) (fun g e => by cases e)).at_ RcV.row_len hr2)
                      clear hq hcc hr2 hy2 hc2 hcs2 hPV2
                      obtain ⟨wz, hwz⟩ : ∃ wz, wr.alloc (.cells #[.string id2, .string frm2, .string too2, .int .i64 at2, .int .i64 ring2, .int .i64 talk2, .int .i64 how2, .string car2] 84) = wz := ⟨_, rfl⟩
                      have HOB := Lib.hid (show Blk wz wr.heap.size 84 #[.string id2, .string frm2, .string too2, .int .i64 at2, .int .i64 ring2, .int .i64 talk2, .int .i64 how2, .string car2] by rw [← hwz]; exact Blk.new _ _ _)
                      have HGz := Lib.hid (show wx.grownBy wz none by rw [← hwz]; exact gr_alloc HGj.out _)
                      have HWZ := Lib.hid hwz; clear hwz
                      have i0 : (0 : Int) ≤ (q : Int) := by omega
                      have i1 : (q : Int) < (ln : Int) := by omega
                      go_upto_region 21 with (first
                        | (refine wpl_load_at Tryz.rcT rfl _ rfl _ rfl [.string id2, .string frm2, .string too2, .int .i64 at2, .int .i64 ring2, .int .i64 talk2, .int .i64 how2, .string car2] rfl (fun j u hu => by rw [add_mk]; exact HCELL.out j u hu) ?_)
                        | fail)
                      rw [HWZ.out]
                      clear kq i0 i1
                      have HTz := Lib.hid (HT6.out.grown (gr_none HGx.out HGz.out) (by simp))
                      go_wp2_with (first
                        | (refine wpl_load_all Tryz.rcT rfl _ rfl _ rfl _ _ HOB.out rfl ?_)
                        | (refine wpl_load_all Tryz.tfT rfl _ rfl _ rfl _ _ HTz.out rfl ?_)
                        | fail)
                      refine (paying_any lo cA iA cn cc en ic free cl ins P pn pc p id2 frm2 too2 at2 ring2 talk2 how2 car2 _ (HTF.out.grown (gr_none HG1.out (gr_none HG6.out (gr_none HGx.out HGz.out))) (fun g e => by cases e)) (HPY.out.grown (gr_none HG1.out (gr_none HG6.out (gr_none HGx.out HGz.out))) (fun g e => by cases e)) hpn b7).mono ?_
                      rintro e w8 ⟨rfl, hg8⟩
                      rw [show payVal ⟨cA, cn, cc, free, iA, en, ic, cl, ins⟩ p ⟨id2, frm2, too2, at2, ring2, talk2, how2, car2⟩ = .tuple #[.string key2, .agg #[.string pre2, .string name2, .int .i64 setup2, .int .i64 first2, .int .i64 step2, .int .i64 rate2], .bool true] by unfold payVal paidB; dsimp only; rw [HY2.out, HC2.out]; rfl]
                      obtain ⟨w9, hw9⟩ : ∃ w9, w8.alloc (.cells #[.string pre2, .string name2, .int .i64 setup2, .int .i64 first2, .int .i64 step2, .int .i64 rate2] 113) = w9 := ⟨_, rfl⟩
                      have HKD := Lib.hid (show Blk w9 w8.heap.size 113 #[.string pre2, .string name2, .int .i64 setup2, .int .i64 first2, .int .i64 step2, .int .i64 rate2] by rw [← hw9]; exact Blk.new _ _ _)
                      have HG9 := Lib.hid (show wx.grownBy w9 none by rw [← hw9]; exact gr_alloc (gr_none HGz.out hg8) _)
                      have HOB9 := Lib.hid (show Blk w9 wr.heap.size 84 #[.string id2, .string frm2, .string too2, .int .i64 at2, .int .i64 ring2, .int .i64 talk2, .int .i64 how2, .string car2] by rw [← hw9]; exact (HOB.out.grown hg8 (by simp)).alloc _)
                      clear hg8
                      go_upto_region 22 with (fail)
                      clear hw9
                      have kd1 := HKD.out.cell 1
                      have ko3 := HOB9.out.cell 3
                      have kr3 := (HR6.out.grown (gr_none HGx.out HG9.out) (by simp)).cell 3
                      have kz0 := (HZB.out.grown HG9.out (by simp)).cell 0
                      have kz1 := (HZB.out.grown HG9.out (by simp)).cell 1
                      obtain ⟨E1, hE1⟩ : ∃ E, (key2.toList == key.toList) = E := ⟨_, rfl⟩
                      obtain ⟨E2, hE2b⟩ : ∃ E, (nb name2 == nb cls) = E := ⟨_, rfl⟩
                      obtain ⟨E3, hE3⟩ : ∃ E, decide (at_ - win < at2) = E := ⟨_, rfl⟩
                      have HHIT := Lib.hid (show cnHit ⟨cls, win, calls, cents, block⟩ key at_ ⟨key2, name2, at2, PV2⟩ = (E1 && (true || E2) && E3) by unfold cnHit; dsimp only; rw [← eqS_nb key2 key, hE1, hE2b, HNIL.out, hE3])
                      have HE2 := Lib.hid hE2b; clear hE2b
                      cases E1
                      · have HM := Lib.hid (wCnt_miss (z := ⟨cls, win, calls, cents, block⟩) (who := key) (t := at_) HCS2.out (HHIT.out.trans (by first | rfl | simp)))
                        go_wp2_with fail
                        go_roundw
                        case rel => exact ⟨j + 1, by omega, by go_num, by rw [HM.out, HS1.out], by rw [HM.out, HS2.out], HG9.out⟩
                        case measure => simp [intOf]; omega
                      · cases E3
                        · have HM := Lib.hid (wCnt_miss (z := ⟨cls, win, calls, cents, block⟩) (who := key) (t := at_) HCS2.out (HHIT.out.trans (by first | rfl | simp)))
                          go_wp2_with fail
                          go_roundw
                          case rel => exact ⟨j + 1, by omega, by go_num, by rw [HM.out, HS1.out], by rw [HM.out, HS2.out], HG9.out⟩
                          case measure => simp [intOf]; omega
                        · have HM := Lib.hid (wCnt_hit (z := ⟨cls, win, calls, cents, block⟩) (who := key) (t := at_) HCS2.out (HHIT.out.trans (by first | rfl | simp)))
                          have ko5 := HOB9.out.cell 5
                          go_wp2_with (first
                            | (refine wpl_load_all Tryz.clT rfl _ rfl _ rfl _ _ HKD.out rfl ?_)
                            | fail)
                          refine (priceFor_any ⟨pre2, name2, setup2, first2, step2, rate2⟩ talk2 _ (HNU.out _ (clsOf_mem HC2.out)) (by omega) (by omega)).mono ?_
                          rintro e w10 ⟨rfl, hg10⟩
                          rw [HPV2.out]
                          have HG10 := Lib.hid (gr_none HG9.out hg10); clear hg10
                          go_wp2_with fail
                          go_roundw
                          case rel => exact ⟨j + 1, by omega, by go_num, by rw [HM.out, HS1.out], by rw [HM.out, HS2.out], HG10.out⟩
                          case measure => simp [intOf]; omega
                    · obtain rfl : j = dn + 1 := by omega
                      obtain ⟨T1, hT1⟩ : ∃ T, decide (calls < s1) = T := ⟨_, rfl⟩
                      obtain ⟨T2, hT2⟩ : ∃ T, decide (1000 * cents < s2) = T := ⟨_, rfl⟩
                      have HTR := Lib.hid (show wTrip cs1 (⟨key, name, at_, PV⟩ : CnV) ⟨cls, win, calls, cents, block⟩ = (true && (T1 || T2)) by unfold wTrip; rw [show wSees ⟨cls, win, calls, cents, block⟩ (CnV.cls (⟨key, name, at_, PV⟩ : CnV)) = true from HSE.out, HLC.out]; dsimp only; rw [HS1.out, HS2.out, hT1, hT2])
                      have kz2 := (HZB.out.grown HGj.out (by simp)).cell 2
                      have kz3 := (HZB.out.grown HGj.out (by simp)).cell 3
                      cases T1
                      · cases T2
                        · go_wp2_with fail
                          go_roundw
                          case rel => exact ⟨i + 1, by omega, by go_num, rfl, gr_none HGx.out HGj.out, allP_succ (p := wTrip cs1 (⟨key, name, at_, PV⟩ : CnV)) HA.out HZW.out HTR.out⟩
                          case measure => simp [intOf]; omega
                        · have HGt := Lib.hid (gr_none HGx.out HGj.out)
                          have HBt := Lib.hid (HB6.out.kept HGt.out (fun g e => by cases e))
                          have HWB := Lib.hid (wBlk_some (cs := cs1) (d := (⟨key, name, at_, PV⟩ : CnV)) HA.out HZW.out HTR.out)
                          have kr3 := (HR6.out.grown HGt.out (by simp)).cell 3
                          have kz4 := (HZB.out.grown HGj.out (by simp)).cell 4
                          have zt := (gr_none HG6.out HGt.out).size
                          go_wp2_with (first
                            | (at_builtin
                               refine wpl_app _ rfl _ _ Tryz.blsT rfl w1.heap.size BA bn bc _ rfl (by exact HBt.out.1.alloc _) _ _ 1 1 [.string key, .int .i64 i, .int .i64 (at_ + 1), .int .i64 (at_ + 1 + block)] rfl (by exact Reads.one _ _ _ _ rfl) (by simp [Value.oneCell']) (by unfold maxLen; omega) (by omega) (by simp; omega) ?_
                               intro A11 c11 w11 h11
                               have H11 := Lib.hid h11; clear h11)
                            | fail)
                          go_roundw
                          case rel =>
                            have g0 : wr.grownBy (wr.alloc (.cells #[.string key, .int .i64 i, .int .i64 (at_ + 1), .int .i64 (at_ + 1 + block)] 73)) none := gr_alloc (gr_refl _ _) _
                            have g11 := H11.out.2.1
                            have hd : OwnR BlV.row 4 w11 w1.heap.size 73 A11 (bn + 1) c11 ((wRun ⟨cA, cn, cc, free, iA, en, ic, cl, ins⟩ p ws l k).bl ++ [⟨key, (i : Int), at_ + 1, at_ + 1 + block⟩]) := (HBt.out.alloc _).app rfl H11.out
                            exact ⟨k + 1, bn + 1, c11, sn, sc, dn + 1, dc1, A11, SA, _, by omega, by go_num, rfl, rfl, rfl, H11.out.gr (gr_none HG6.out (gr_none HGt.out g0)) (HBt.out.1.alloc _) (Nat.le_refl _), by rw [HRUN.out, HWB.out]; exact hd,
                              by rw [HRUN.out]; exact ((HS6.out.kept HGt.out (fun g e => by cases e)).kept g0 (fun g e => by cases e)).kept g11 (fun g e => Own.ne HBt.out.1 (HS6.out.kept HGt.out (fun g e => by cases e)).1 (by decide) e),
                              by rw [HRUN.out]; exact ((HD6.out.kept HGt.out (fun g e => by cases e)).kept g0 (fun g e => by cases e)).kept g11 (fun g e => Own.ne HBt.out.1 (HD6.out.kept HGt.out (fun g e => by cases e)).1 (by decide) e), HNE6.out⟩
                          case measure => simp [intOf]; omega
                      · have HGt := Lib.hid (gr_none HGx.out HGj.out)
                        have HBt := Lib.hid (HB6.out.kept HGt.out (fun g e => by cases e))
                        have HWB := Lib.hid (wBlk_some (cs := cs1) (d := (⟨key, name, at_, PV⟩ : CnV)) HA.out HZW.out HTR.out)
                        have kr3 := (HR6.out.grown HGt.out (by simp)).cell 3
                        have kz4 := (HZB.out.grown HGj.out (by simp)).cell 4
                        have zt := (gr_none HG6.out HGt.out).size
                        go_wp2_with (first
                          | (at_builtin
                             refine wpl_app _ rfl _ _ Tryz.blsT rfl w1.heap.size BA bn bc _ rfl (by exact HBt.out.1.alloc _) _ _ 1 1 [.string key, .int .i64 i, .int .i64 (at_ + 1), .int .i64 (at_ + 1 + block)] rfl (by exact Reads.one _ _ _ _ rfl) (by simp [Value.oneCell']) (by unfold maxLen; omega) (by omega) (by simp; omega) ?_
                             intro A11 c11 w11 h11
                             have H11 := Lib.hid h11; clear h11)
                          | fail)
                        go_roundw
                        case rel =>
                          have g0 : wr.grownBy (wr.alloc (.cells #[.string key, .int .i64 i, .int .i64 (at_ + 1), .int .i64 (at_ + 1 + block)] 73)) none := gr_alloc (gr_refl _ _) _
                          have g11 := H11.out.2.1
                          have hd : OwnR BlV.row 4 w11 w1.heap.size 73 A11 (bn + 1) c11 ((wRun ⟨cA, cn, cc, free, iA, en, ic, cl, ins⟩ p ws l k).bl ++ [⟨key, (i : Int), at_ + 1, at_ + 1 + block⟩]) := (HBt.out.alloc _).app rfl H11.out
                          exact ⟨k + 1, bn + 1, c11, sn, sc, dn + 1, dc1, A11, SA, _, by omega, by go_num, rfl, rfl, rfl, H11.out.gr (gr_none HG6.out (gr_none HGt.out g0)) (HBt.out.1.alloc _) (Nat.le_refl _), by rw [HRUN.out, HWB.out]; exact hd,
                            by rw [HRUN.out]; exact ((HS6.out.kept HGt.out (fun g e => by cases e)).kept g0 (fun g e => by cases e)).kept g11 (fun g e => Own.ne HBt.out.1 (HS6.out.kept HGt.out (fun g e => by cases e)).1 (by decide) e),
                            by rw [HRUN.out]; exact ((HD6.out.kept HGt.out (fun g e => by cases e)).kept g0 (fun g e => by cases e)).kept g11 (fun g e => Own.ne HBt.out.1 (HD6.out.kept HGt.out (fun g e => by cases e)).1 (by decide) e), HNE6.out⟩
                        case measure => simp [intOf]; omega
                · obtain ⟨q1, q2, q3⟩ := str_full hcl
                  obtain ⟨E, hE⟩ : ∃ E, (cls.toList == name.toList) = E := ⟨_, rfl⟩
                  have HE := Lib.hid (show (nb cls == nb name) = E by rw [← hE, eqS_nb])
                  have HNIL := Lib.hid (show decide (nb cls = []) = false from decide_eq_false hcl)
                  cases E
                  · have hE2 : (cls.toList != name.toList) = true := by rw [bne, hE]; rfl
                    have HTT := Lib.hid (show wTrip cs1 (⟨key, name, at_, PV⟩ : CnV) ⟨cls, win, calls, cents, block⟩ = false by unfold wTrip; rw [show wSees ⟨cls, win, calls, cents, block⟩ (CnV.cls (⟨key, name, at_, PV⟩ : CnV)) = false from sees_no hcl (by have := HE.out; simpa using this)]; rfl)
                    clear hcl
                    go_wp2_with fail
                    go_roundw
                    case rel => exact ⟨i + 1, by omega, by go_num, rfl, HGx.out, allP_succ (p := wTrip cs1 (⟨key, name, at_, PV⟩ : CnV)) HA.out HZW.out HTT.out⟩
                    case measure => simp [intOf]; omega
                  · have hE2 : (cls.toList != name.toList) = false := by rw [bne, hE]; rfl
                    have HSE := Lib.hid (show wSees ⟨cls, win, calls, cents, block⟩ name = true by unfold wSees; dsimp only; rw [HE.out]; exact Bool.or_true _)
                    clear hcl
                    go_wp2_with fail
                    clear kz0 kk1
                    obtain ⟨wo, rfl⟩ : ∃ wo : World, wo = wr := ⟨_, rfl⟩
                    go_loopw [22, 23, 25, 26, 27, 28, 29, 89] (fun a b _ _ _ _ _ t wr => ∃ j : Nat, j ≤ dn + 1 ∧ t = .int .i64 j ∧ a = .int .i64 (wCnt cs1 ⟨cls, win, calls, cents, block⟩ key at_ j).1 ∧ b = .int .i64 (wCnt cs1 ⟨cls, win, calls, cents, block⟩ key at_ j).2 ∧ wx.grownBy wr none) (fun _ _ _ _ _ _ _ t _ => dn + 1 - (intOf t).toNat)
                    case atStart => exact ⟨0, Nat.zero_le _, rfl, rfl, rfl, gr_refl _ _⟩
                    case round =>
                      obtain ⟨j, hj, rfl, rfl, rfl, hg⟩ := hrel
                      have HGj := Lib.hid hg; clear hg
                      have zj := HGj.out.size
                      obtain ⟨b1, b2, b3, b4⟩ := HCB1.out ⟨cls, win, calls, cents, block⟩ key at_ j
                      obtain ⟨s1, hs1⟩ : ∃ s, (wCnt cs1 ⟨cls, win, calls, cents, block⟩ key at_ j).1 = s := ⟨_, rfl⟩
                      obtain ⟨s2, hs2⟩ : ∃ s, (wCnt cs1 ⟨cls, win, calls, cents, block⟩ key at_ j).2 = s := ⟨_, rfl⟩
                      rw [hs1] at b1 b2 ⊢; rw [hs2] at b3 b4 ⊢
                      have HS1 := Lib.hid hs1; have HS2 := Lib.hid hs2
                      clear hs1 hs2
                      by_cases hlt2 : j < dn + 1
                      · obtain ⟨g2, o2, zq, rfl, _, hgl2, hz, hcc⟩ := (HD6.out.recs.grown (gr_none HGx.out HGj.out) (fun g e => by cases e)).get irow_len hlt2
                        unfold natI at hz
                        rw [List.getElem?_map, Option.map_eq_some_iff] at hz
                        obtain ⟨q, hq, rfl⟩ := hz
                        have kq := hcc 0 _ rfl
                        simp only [Nat.mul_one, Nat.add_zero] at kq
                        obtain ⟨hqk, ⟨id2, frm2, too2, at2, ring2, talk2, how2, car2⟩, ⟨key2, nA2, nn2, nc2, nums2⟩, ⟨pre2, name2, setup2, first2, step2, rate2⟩, hr2, hy2, hc2, hcs2⟩ := HOK1.out.at_ j q hq
                        dsimp only at hy2 hc2 hcs2
                        have hql : q < ln := by omega
                        obtain ⟨b5, b6, b7, -⟩ := HRC.out.2 _ (mem_of_get hr2)
                        have hrr2 := (HRR.out _ (mem_of_get hr2)).talk
                        dsimp only at b5 b6 b7 hrr2
                        obtain ⟨r1, r2, -, r3, r4, -, -⟩ := hrr2
                        obtain ⟨PV2, hPV2⟩ : ∃ PV, priceOf ⟨pre2, name2, setup2, first2, step2, rate2⟩ talk2 = PV := ⟨_, rfl⟩
                        have a1 := (HBD1.out _ (mem_of_get hcs2)).1
                        unfold cnOf at hcs2 a1
                        dsimp only at hcs2 a1
                        rw [hPV2] at hcs2 a1
                        obtain ⟨a1, a3⟩ := a1
                        have HPV2 := Lib.hid hPV2; have HCS2 := Lib.hid hcs2; have HR2 := Lib.hid hr2; have HY2 := Lib.hid hy2; have HC2 := Lib.hid hc2
                        have HCELL := Lib.hid ((HRC.out.1.grown (gr_none HG1.out (gr_none HG6.out (gr_none HGx.out HGj.out))) (fun g e => by cases e)).at_ RcV.row_len hr2)
                        clear hq hcc hr2 hy2 hc2 hcs2 hPV2
                        obtain ⟨wz, hwz⟩ : ∃ wz, wr.alloc (.cells #[.string id2, .string frm2, .string too2, .int .i64 at2, .int .i64 ring2, .int .i64 talk2, .int .i64 how2, .string car2] 84) = wz := ⟨_, rfl⟩
                        have HOB := Lib.hid (show Blk wz wr.heap.size 84 #[.string id2, .string frm2, .string too2, .int .i64 at2, .int .i64 ring2, .int .i64 talk2, .int .i64 how2, .string car2] by rw [← hwz]; exact Blk.new _ _ _)
                        have HGz := Lib.hid (show wx.grownBy wz none by rw [← hwz]; exact gr_alloc HGj.out _)
                        have HWZ := Lib.hid hwz; clear hwz
                        have i0 : (0 : Int) ≤ (q : Int) := by omega
                        have i1 : (q : Int) < (ln : Int) := by omega
                        go_upto_region 21 with (first
                          | (refine wpl_load_at Tryz.rcT rfl _ rfl _ rfl [.string id2, .string frm2, .string too2, .int .i64 at2, .int .i64 ring2, .int .i64 talk2, .int .i64 how2, .string car2] rfl (fun j u hu => by rw [add_mk]; exact HCELL.out j u hu) ?_)
                          | fail)
                        rw [HWZ.out]
                        clear kq i0 i1
                        have HTz := Lib.hid (HT6.out.grown (gr_none HGx.out HGz.out) (by simp))
                        go_wp2_with (first
                          | (refine wpl_load_all Tryz.rcT rfl _ rfl _ rfl _ _ HOB.out rfl ?_)
                          | (refine wpl_load_all Tryz.tfT rfl _ rfl _ rfl _ _ HTz.out rfl ?_)
                          | fail)
                        refine (paying_any lo cA iA cn cc en ic free cl ins P pn pc p id2 frm2 too2 at2 ring2 talk2 how2 car2 _ (HTF.out.grown (gr_none HG1.out (gr_none HG6.out (gr_none HGx.out HGz.out))) (fun g e => by cases e)) (HPY.out.grown (gr_none HG1.out (gr_none HG6.out (gr_none HGx.out HGz.out))) (fun g e => by cases e)) hpn b7).mono ?_
                        rintro e w8 ⟨rfl, hg8⟩
                        rw [show payVal ⟨cA, cn, cc, free, iA, en, ic, cl, ins⟩ p ⟨id2, frm2, too2, at2, ring2, talk2, how2, car2⟩ = .tuple #[.string key2, .agg #[.string pre2, .string name2, .int .i64 setup2, .int .i64 first2, .int .i64 step2, .int .i64 rate2], .bool true] by unfold payVal paidB; dsimp only; rw [HY2.out, HC2.out]; rfl]
                        obtain ⟨w9, hw9⟩ : ∃ w9, w8.alloc (.cells #[.string pre2, .string name2, .int .i64 setup2, .int .i64 first2, .int .i64 step2, .int .i64 rate2] 113) = w9 := ⟨_, rfl⟩
                        have HKD := Lib.hid (show Blk w9 w8.heap.size 113 #[.string pre2, .string name2, .int .i64 setup2, .int .i64 first2, .int .i64 step2, .int .i64 rate2] by rw [← hw9]; exact Blk.new _ _ _)
                        have HG9 := Lib.hid (show wx.grownBy w9 none by rw [← hw9]; exact gr_alloc (gr_none HGz.out hg8) _)
                        have HOB9 := Lib.hid (show Blk w9 wr.heap.size 84 #[.string id2, .string frm2, .string too2, .int .i64 at2, .int .i64 ring2, .int .i64 talk2, .int .i64 how2, .string car2] by rw [← hw9]; exact (HOB.out.grown hg8 (by simp)).alloc _)
                        clear hg8
                        go_upto_region 22 with (fail)
                        clear hw9
                        have kd1 := HKD.out.cell 1
                        have ko3 := HOB9.out.cell 3
                        have kr3 := (HR6.out.grown (gr_none HGx.out HG9.out) (by simp)).cell 3
                        have kz0 := (HZB.out.grown HG9.out (by simp)).cell 0
                        have kz1 := (HZB.out.grown HG9.out (by simp)).cell 1
                        obtain ⟨E1, hE1⟩ : ∃ E, (key2.toList == key.toList) = E := ⟨_, rfl⟩
                        obtain ⟨E2, hE2b⟩ : ∃ E, (nb name2 == nb cls) = E := ⟨_, rfl⟩
                        obtain ⟨E3, hE3⟩ : ∃ E, decide (at_ - win < at2) = E := ⟨_, rfl⟩
                        have HHIT := Lib.hid (show cnHit ⟨cls, win, calls, cents, block⟩ key at_ ⟨key2, name2, at2, PV2⟩ = (E1 && (false || E2) && E3) by unfold cnHit; dsimp only; rw [← eqS_nb key2 key, hE1, hE2b, HNIL.out, hE3])
                        have HE2 := Lib.hid hE2b; clear hE2b
                        have hE2c : (name2.toList == cls.toList) = E2 := by rw [eqS_nb]; exact HE2.out
                        cases E1
                        · have HM := Lib.hid (wCnt_miss (z := ⟨cls, win, calls, cents, block⟩) (who := key) (t := at_) HCS2.out (HHIT.out.trans (by first | rfl | simp)))
                          go_wp2_with fail
                          go_roundw
                          case rel => exact ⟨j + 1, by omega, by go_num, by rw [HM.out, HS1.out], by rw [HM.out, HS2.out], HG9.out⟩
                          case measure => simp [intOf]; omega
                        · cases E2
                          · have HM := Lib.hid (wCnt_miss (z := ⟨cls, win, calls, cents, block⟩) (who := key) (t := at_) HCS2.out (HHIT.out.trans (by first | rfl | simp)))
                            go_wp2_with fail
                            go_roundw
                            case rel => exact ⟨j + 1, by omega, by go_num, by rw [HM.out, HS1.out], by rw [HM.out, HS2.out], HG9.out⟩
                            case measure => simp [intOf]; omega
                          · cases E3
                            · have HM := Lib.hid (wCnt_miss (z := ⟨cls, win, calls, cents, block⟩) (who := key) (t := at_) HCS2.out (HHIT.out.trans (by first | rfl | simp)))
                              go_wp2_with fail
                              go_roundw
                              case rel => exact ⟨j + 1, by omega, by go_num, by rw [HM.out, HS1.out], by rw [HM.out, HS2.out], HG9.out⟩
                              case measure => simp [intOf]; omega
                            · have HM := Lib.hid (wCnt_hit (z := ⟨cls, win, calls, cents, block⟩) (who := key) (t := at_) HCS2.out (HHIT.out.trans (by first | rfl | simp)))
                              have ko5 := HOB9.out.cell 5
                              go_wp2_with (first
                                | (refine wpl_load_all Tryz.clT rfl _ rfl _ rfl _ _ HKD.out rfl ?_)
                                | fail)
                              refine (priceFor_any ⟨pre2, name2, setup2, first2, step2, rate2⟩ talk2 _ (HNU.out _ (clsOf_mem HC2.out)) (by omega) (by omega)).mono ?_
                              rintro e w10 ⟨rfl, hg10⟩
                              rw [HPV2.out]
                              have HG10 := Lib.hid (gr_none HG9.out hg10); clear hg10
                              go_wp2_with fail
                              go_roundw
                              case rel => exact ⟨j + 1, by omega, by go_num, by rw [HM.out, HS1.out], by rw [HM.out, HS2.out], HG10.out⟩
                              case measure => simp [intOf]; omega
                      · obtain rfl : j = dn + 1 := by omega
                        obtain ⟨T1, hT1⟩ : ∃ T, decide (calls < s1) = T := ⟨_, rfl⟩
                        obtain ⟨T2, hT2⟩ : ∃ T, decide (1000 * cents < s2) = T := ⟨_, rfl⟩
                        have HTR := Lib.hid (show wTrip cs1 (⟨key, name, at_, PV⟩ : CnV) ⟨cls, win, calls, cents, block⟩ = (true && (T1 || T2)) by unfold wTrip; rw [show wSees ⟨cls, win, calls, cents, block⟩ (CnV.cls (⟨key, name, at_, PV⟩ : CnV)) = true from HSE.out, HLC.out]; dsimp only; rw [HS1.out, HS2.out, hT1, hT2])
                        have kz2 := (HZB.out.grown HGj.out (by simp)).cell 2
                        have kz3 := (HZB.out.grown HGj.out (by simp)).cell 3
                        cases T1
                        · cases T2
                          · go_wp2_with fail
                            go_roundw
                            case rel => exact ⟨i + 1, by omega, by go_num, rfl, gr_none HGx.out HGj.out, allP_succ (p := wTrip cs1 (⟨key, name, at_, PV⟩ : CnV)) HA.out HZW.out HTR.out⟩
                            case measure => simp [intOf]; omega
                          · have HGt := Lib.hid (gr_none HGx.out HGj.out)
                            have HBt := Lib.hid (HB6.out.kept HGt.out (fun g e => by cases e))
                            have HWB := Lib.hid (wBlk_some (cs := cs1) (d := (⟨key, name, at_, PV⟩ : CnV)) HA.out HZW.out HTR.out)
                            have kr3 := (HR6.out.grown HGt.out (by simp)).cell 3
                            have kz4 := (HZB.out.grown HGj.out (by simp)).cell 4
                            have zt := (gr_none HG6.out HGt.out).size
                            go_wp2_with (first
                              | (at_builtin
                                 refine wpl_app _ rfl _ _ Tryz.blsT rfl w1.heap.size BA bn bc _ rfl (by exact HBt.out.1.alloc _) _ _ 1 1 [.string key, .int .i64 i, .int .i64 (at_ + 1), .int .i64 (at_ + 1 + block)] rfl (by exact Reads.one _ _ _ _ rfl) (by simp [Value.oneCell']) (by unfold maxLen; omega) (by omega) (by simp; omega) ?_
                                 intro A11 c11 w11 h11
                                 have H11 := Lib.hid h11; clear h11)
                              | fail)
                            go_roundw
                            case rel =>
                              have g0 : wr.grownBy (wr.alloc (.cells #[.string key, .int .i64 i, .int .i64 (at_ + 1), .int .i64 (at_ + 1 + block)] 73)) none := gr_alloc (gr_refl _ _) _
                              have g11 := H11.out.2.1
                              have hd : OwnR BlV.row 4 w11 w1.heap.size 73 A11 (bn + 1) c11 ((wRun ⟨cA, cn, cc, free, iA, en, ic, cl, ins⟩ p ws l k).bl ++ [⟨key, (i : Int), at_ + 1, at_ + 1 + block⟩]) := (HBt.out.alloc _).app rfl H11.out
                              exact ⟨k + 1, bn + 1, c11, sn, sc, dn + 1, dc1, A11, SA, _, by omega, by go_num, rfl, rfl, rfl, H11.out.gr (gr_none HG6.out (gr_none HGt.out g0)) (HBt.out.1.alloc _) (Nat.le_refl _), by rw [HRUN.out, HWB.out]; exact hd,
                                by rw [HRUN.out]; exact ((HS6.out.kept HGt.out (fun g e => by cases e)).kept g0 (fun g e => by cases e)).kept g11 (fun g e => Own.ne HBt.out.1 (HS6.out.kept HGt.out (fun g e => by cases e)).1 (by decide) e),
                                by rw [HRUN.out]; exact ((HD6.out.kept HGt.out (fun g e => by cases e)).kept g0 (fun g e => by cases e)).kept g11 (fun g e => Own.ne HBt.out.1 (HD6.out.kept HGt.out (fun g e => by cases e)).1 (by decide) e), HNE6.out⟩
                            case measure => simp [intOf]; omega
                        · have HGt := Lib.hid (gr_none HGx.out HGj.out)
                          have HBt := Lib.hid (HB6.out.kept HGt.out (fun g e => by cases e))
                          have HWB := Lib.hid (wBlk_some (cs := cs1) (d := (⟨key, name, at_, PV⟩ : CnV)) HA.out HZW.out HTR.out)
                          have kr3 := (HR6.out.grown HGt.out (by simp)).cell 3
                          have kz4 := (HZB.out.grown HGj.out (by simp)).cell 4
                          have zt := (gr_none HG6.out HGt.out).size
                          go_wp2_with (first
                            | (at_builtin
                               refine wpl_app _ rfl _ _ Tryz.blsT rfl w1.heap.size BA bn bc _ rfl (by exact HBt.out.1.alloc _) _ _ 1 1 [.string key, .int .i64 i, .int .i64 (at_ + 1), .int .i64 (at_ + 1 + block)] rfl (by exact Reads.one _ _ _ _ rfl) (by simp [Value.oneCell']) (by unfold maxLen; omega) (by omega) (by simp; omega) ?_
                               intro A11 c11 w11 h11
                               have H11 := Lib.hid h11; clear h11)
                            | fail)
                          go_roundw
                          case rel =>
                            have g0 : wr.grownBy (wr.alloc (.cells #[.string key, .int .i64 i, .int .i64 (at_ + 1), .int .i64 (at_ + 1 + block)] 73)) none := gr_alloc (gr_refl _ _) _
                            have g11 := H11.out.2.1
                            have hd : OwnR BlV.row 4 w11 w1.heap.size 73 A11 (bn + 1) c11 ((wRun ⟨cA, cn, cc, free, iA, en, ic, cl, ins⟩ p ws l k).bl ++ [⟨key, (i : Int), at_ + 1, at_ + 1 + block⟩]) := (HBt.out.alloc _).app rfl H11.out
                            exact ⟨k + 1, bn + 1, c11, sn, sc, dn + 1, dc1, A11, SA, _, by omega, by go_num, rfl, rfl, rfl, H11.out.gr (gr_none HG6.out (gr_none HGt.out g0)) (HBt.out.1.alloc _) (Nat.le_refl _), by rw [HRUN.out, HWB.out]; exact hd,
                              by rw [HRUN.out]; exact ((HS6.out.kept HGt.out (fun g e => by cases e)).kept g0 (fun g e => by cases e)).kept g11 (fun g e => Own.ne HBt.out.1 (HS6.out.kept HGt.out (fun g e => by cases e)).1 (by decide) e),
                              by rw [HRUN.out]; exact ((HD6.out.kept HGt.out (fun g e => by cases e)).kept g0 (fun g e => by cases e)).kept g11 (fun g e => Own.ne HBt.out.1 (HD6.out.kept HGt.out (fun g e => by cases e)).1 (by decide) e), HNE6.out⟩
                          case measure => simp [intOf]; omega
              · obtain rfl : i = wn := by omega
                have HLW := Lib.hid HWA.out.1.len
                have HWB := Lib.hid (show wBlk ws cs1 (⟨key, name, at_, PV⟩ : CnV) = [] from wBlk_none (by rw [HLW.out]; exact HA.out))
                go_wp2_with fail
                go_roundw
                case rel => exact ⟨k + 1, bn, bc, sn, sc, dn + 1, dc1, BA, SA, DA1, by omega, by go_num, rfl, rfl, rfl, gr_none HG6.out HGi.out, by rw [HRUN.out, HWB.out, List.append_nil]; exact HB6.out.kept HGi.out (fun g e => by cases e), by rw [HRUN.out]; exact HS6.out.kept HGi.out (fun g e => by cases e), by rw [HRUN.out]; exact HD6.out.kept HGi.out (fun g e => by cases e), HNE6.out⟩
                case measure => simp [intOf]; omega
        · have HP := Lib.hid (wStep_stop (t := ⟨cA, cn, cc, free, iA, en, ic, cl, ins⟩) (ws := ws) (k := k) (r := ⟨id, frm, too, at_, ring, talk, how, car⟩) (s := (wRun ⟨cA, cn, cc, free, iA, en, ic, cl, ins⟩ p ws l k)) HY.out HBB.out)
          go_wp2_with (first
            | (at_builtin
               refine wpl_app _ rfl _ _ Tryz.intsT rfl w1.heap.size SA sn sc _ rfl (by exact HS5.out.1.alloc _) _ _ 1 1 [.int .i64 k] rfl (by exact Reads.one _ _ _ _ rfl) (by simp [Value.oneCell']) (by unfold maxLen; omega) (by omega) (by simp; omega) ?_
               intro A6 c6 w6 h6
               have H6 := Lib.hid h6; clear h6)
            | fail)
          go_roundw
          case rel =>
            have g0 : w5.grownBy (w5.alloc (.cells #[.int .i64 k] 3)) none := gr_alloc (gr_refl _ _) _
            have g6 := H6.out.2.1
            exact ⟨k + 1, bn, bc, sn + 1, c6, dn, dc, BA, A6, DA, by omega, by go_num, rfl, rfl, rfl, H6.out.gr (gr_none HG.out (gr_none HG5.out g0)) (HS5.out.1.alloc _) (Nat.le_refl _),
              by rw [wRun_one HZ.out, HP.out]; exact (HB5.out.kept g0 (fun g e => by cases e)).kept g6 (fun g e => Own.ne HS5.out.1 HB5.out.1 (by decide) e),
              by rw [wRun_one HZ.out, HP.out]; rw [natI_snoc]; exact (HS5.out.alloc _).app rfl H6.out,
              by rw [wRun_one HZ.out, HP.out]; exact (HD5.out.kept g0 (fun g e => by cases e)).kept g6 (fun g e => HNE.out g e),
              fun g e e2 => by
                rcases H6.out.2.2 g e with h | h
                · exact HNE.out g h e2
                · have := (HD5.out.1.lt e2).2; simp at h; omega⟩
          case measure => simp [intOf]; omega
    · obtain rfl : k = ln := by omega
      go_wp2_with fail
      go_ret2
      refine ⟨BA, bn, bc, SA, sn, sc, rfl, ?_, ?_, gr_none HG1.out HG.out⟩
      · rw [HRC.out.1.len]; exact HB.out.lower (by omega)
      · rw [HRC.out.1.len]; exact HS.out.lower (by omega)
end Go.Proofs.YtdgjjjdndedeiaaGreatDoor

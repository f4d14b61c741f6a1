/- Contract of account.watch. Conditions: the arguments are right. -/
import Derived.Test.YtfakdalpaopjaaaGreatDoorWa3
import Derived.Test.YtfakdalpaopjaaaGreatDoorBun14
namespace Go.Proofs.YtfakdalpaopjaaaGreatDoor
open Go.RowKit

/-- Numbers of records, as numbers. -/
def natI (l : List Nat) : List Int := l.map (fun (n : Nat) => (n : Int))
theorem natI_snoc (l : List Nat) (k : Nat) : natI (l ++ [k]) = natI l ++ [(k : Int)] := by unfold natI; rw [List.map_append]; rfl
def WatchV (t : TfV) (p : List PyV) (ws : List WaV) (l : List RcV) (w : World) (e : Ending) (w' : World) : Prop := ∃ BA bn bc SA sn sc, e = .returned (.tuple #[.slice BA bn bc, .slice SA sn sc]) ∧ OwnR BlV.row 4 w' w.heap.size 58 BA bn bc (wRun t p ws l l.length).bl ∧ OwnR irow 1 w' w.heap.size 3 SA sn sc (natI (wRun t p ws l l.length).st) ∧ w.grownBy w' none
theorem MapSS.ne_blk {w : World} {b n g : Nat} {f : ByteArray → Option ByteArray} {t : TypeId} {cs : Array Value} (h : MapSS w b n f) (hb : Blk w g t cs) : b ≠ g := by
  obtain ⟨D, ⟨es, clock, h1, _⟩, _⟩ := h
  intro e
  subst e
  unfold Blk at hb
  rw [h1] at hb
  injection hb with hb
  cases hb
section
variable {w w' : World} {xb : Nat} {CA BA : Option Addr}
theorem Grew.blk {g : Nat} {t : TypeId} {cs : Array Value} (h : Grew w w' xb CA BA) (hb : Blk w g t cs) (h1 : blkOf CA ≠ some g) (h2 : xb ≠ g) (h3 : blkOf BA ≠ some g) : Blk w' g t cs := by
  obtain ⟨w1, w2, w3, g1, g2, g3, g4⟩ := h
  exact (((hb.grown g1 (fun e => h1 e.symm)).grown g2 (fun e => by injection e with e; exact h2 e.symm)).grown g3 (fun e => h3 e.symm)).grown g4 (fun e => by injection e with e; exact h2 e.symm)
theorem Grew.map {b n : Nat} {f : ByteArray → Option ByteArray} (h : Grew w w' xb CA BA) (hb : MapSS w b n f) (h1 : blkOf CA ≠ some b) (h2 : xb ≠ b) (h3 : blkOf BA ≠ some b) : MapSS w' b n f := by
  obtain ⟨w1, w2, w3, g1, g2, g3, g4⟩ := h
  exact (((hb.kept g1 (fun e => h1 e.symm)).kept g2 (fun e => by injection e with e; exact h2 e.symm)).kept g3 (fun e => h3 e.symm)).kept g4 (fun e => by injection e with e; exact h2 e.symm)
theorem Grew.own {α : Type} {row : α → List Value} {k lo n c : Nat} {e : TypeId} {A : Option Addr} {l : List α} (h : Grew w w' xb CA BA) (hb : OwnR row k w lo e A n c l) (h1 : ∀ g, blkOf CA = some g → blkOf A ≠ some g) (h2 : blkOf A ≠ some xb) (h3 : ∀ g, blkOf BA = some g → blkOf A ≠ some g) : OwnR row k w' lo e A n c l := by
  obtain ⟨w1, w2, w3, g1, g2, g3, g4⟩ := h
  exact (((hb.kept g1 h1).kept g2 (fun g e => by injection e with e; rw [← e]; exact h2)).kept g3 h3).kept g4 (fun g e => by injection e with e; rw [← e]; exact h2)
theorem Grew.size (h : Grew w w' xb CA BA) : w.heap.size ≤ w'.heap.size := by
  obtain ⟨w1, w2, w3, g1, g2, g3, g4⟩ := h
  have := g1.size; have := g2.size; have := g3.size; have := g4.size
  omega
end
/-- What the walk over the records is told of its arguments. -/
structure WatchOk (w : World) (lo : Nat) (t : TfV) (P : Option Addr) (pn pc : Nat) (p : List PyV) (WA : Option Addr) (wn wc : Nat) (ws : List WaV) (L : Option Addr) (ln lc : Nat) (l : List RcV) : Prop where
  use : UseOk w lo t P pn pc p L ln lc l
  wa : Was w lo WA wn wc ws
  ew : wasE ws = 0
theorem WatchOk.grown {w w' : World} {lo : Nat} {t : TfV} {P : Option Addr} {pn pc : Nat} {p : List PyV} {WA : Option Addr} {wn wc : Nat} {ws : List WaV} {L : Option Addr} {ln lc : Nat} {l : List RcV} (h : WatchOk w lo t P pn pc p WA wn wc ws L ln lc l) (hg : w.grownBy w' none) : WatchOk w' lo t P pn pc p WA wn wc ws L ln lc l :=
  ⟨h.use.grown hg, h.wa.grown hg (fun g e => by cases e), h.ew⟩
set_option maxHeartbeats 8000000 in
set_option maxRecDepth 100000 in
theorem watch_any (lo : Nat) (cA iA : Option Addr) (cn cc en ic : Nat) (free : Int) (cl : List ClV) (ins : List ByteArray) (P : Option Addr) (pn pc : Nat) (p : List PyV) (L : Option Addr) (ln lc : Nat) (l : List RcV) (WA : Option Addr) (wn wc : Nat) (ws : List WaV) (w : World) (h : WatchOk w lo ⟨cA, cn, cc, free, iA, en, ic, cl, ins⟩ P pn pc p WA wn wc ws L ln lc l) (hpn : pn ≤ 1000) :
    Calls Tryz.prog 24 #[.agg #[.slice cA cn cc, .int .i64 free, .slice iA en ic], .slice P pn pc, .slice WA wn wc, .slice L ln lc] w (WatchV ⟨cA, cn, cc, free, iA, en, ic, cl, ins⟩ p ws l w) := by
  obtain ⟨⟨htf, hpy, hrc, het, hep, her⟩, hwa, hew⟩ := h
  obtain ⟨hr1, hr2, hr3⟩ := rcs_right her
  obtain ⟨hsr, hnum⟩ := tar_right htf.2.1.len het
  obtain ⟨hw1, hw2⟩ := was_right hew
  have hln : ln ≤ 3000 := by rw [← hrc.1.len]; exact hr1
  have hwn : wn ≤ 50 := by rw [← hwa.1.len]; exact hw1
  have HTF := Lib.hid htf; have HPY := Lib.hid hpy; have HRC := Lib.hid hrc; have HRR := Lib.hid hr2; have HSR := Lib.hid hsr; have HNU := Lib.hid hnum
  have HWA := Lib.hid hwa; have HWN := Lib.hid hw2
  have HEP := Lib.hid hep
  have HPL := Lib.hid (fun q hq => (hpy.2 q hq).2.len : ∀ q ∈ p, q.nums.length = q.nn)
  have HOK := Lib.hid (fun k => wRun_ok ⟨cA, cn, cc, free, iA, en, ic, cl, ins⟩ p ws l k)
  have HBD := Lib.hid (fun k => wRun_bd (t := ⟨cA, cn, cc, free, iA, en, ic, cl, ins⟩) (p := p) (ws := ws) hnum hr2 (fun s c h => clsOf_mem h) k)
  clear htf hpy hrc het hep her hr1 hr2 hr3 hsr hnum hwa hew hw1 hw2
  obtain ⟨w1, hw1⟩ : ∃ w1, (w.alloc (.cells #[.slice cA cn cc, .int .i64 free, .slice iA en ic] 29)).alloc (.cells #[.slice WA wn wc, .slice none 0 0, .slice none 0 0] 135) = w1 := ⟨_, rfl⟩
  have HT1 := Lib.hid (show Blk w1 w.heap.size 29 #[.slice cA cn cc, .int .i64 free, .slice iA en ic] by rw [← hw1]; exact (Blk.new _ _ _).alloc _)
  have HX1 := Lib.hid (show Blk w1 (w.heap.size + 1) 135 #[.slice WA wn wc, .slice none 0 0, .slice none 0 0] by rw [← hw1]; exact blkN _ _ _ (by simp))
  have HG1 := Lib.hid (show w.grownBy w1 none by rw [← hw1]; exact gr_alloc (gr_alloc (gr_refl _ _) _) _)
  have z1 : w.heap.size + 2 ≤ w1.heap.size := by rw [← hw1]; simp
  have HW1 := Lib.hid hw1; clear hw1
  go_enter Tryz.func24, Tryz.ntmps24
  go_upto_region 2 with (fail)
  rw [HW1.out]
  go_wp2_with fail
  refine (owners_any lo P pn pc p _ (by exact HPY.out.grown HG1.out (fun g e => by cases e)) hpn).mono ?_
  rintro e w2 ⟨ob, mo, rfl, hms, hg2⟩
  have HG2 := Lib.hid (gr_none HG1.out hg2)
  have HT2 := Lib.hid (HT1.out.grown hg2 (by simp))
  have HX2 := Lib.hid (HX1.out.grown hg2 (by simp))
  obtain ⟨F, hF⟩ : ∃ F, lastOf (pairsOf p) = F := ⟨_, rfl⟩
  rw [hF] at hms
  have HF := Lib.hid (fun s => by rw [← hF]; exact payer_last HPL.out HEP.out s : ∀ s, F s = (payerOf p (nb s)).map (·.key))
  have HMS := Lib.hid hms
  have z2 := hg2.size
  have zo := hms.lt
  have hox : ob ≠ w.heap.size + 1 := hms.ne_blk HX2.out
  clear hF hms hg2 HX1 HT1
  go_wp2_with fail
  go_loopw [12, 13, 14, 15, 16, 17, 18, 26] (fun stp _ _ _ _ _ _ t wr => ∃ (k dn dc bn bc sn sc : Nat) (CA BA SA : Option Addr), k ≤ ln ∧ t = .int .i64 k ∧ stp = .slice SA sn sc ∧ w.grownBy wr none ∧ w2.heap.size ≤ wr.heap.size ∧ Blk wr w.heap.size 29 #[.slice cA cn cc, .int .i64 free, .slice iA en ic] ∧ Blk wr (w.heap.size + 1) 135 #[.slice WA wn wc, .slice CA dn dc, .slice BA bn bc] ∧
    MapSS wr ob mo F ∧ OwnR CnV.row 4 wr w2.heap.size 142 CA dn dc (wRun ⟨cA, cn, cc, free, iA, en, ic, cl, ins⟩ p ws l k).cs ∧ OwnR BlV.row 4 wr w2.heap.size 58 BA bn bc (wRun ⟨cA, cn, cc, free, iA, en, ic, cl, ins⟩ p ws l k).bl ∧ OwnR irow 1 wr w2.heap.size 3 SA sn sc (natI (wRun ⟨cA, cn, cc, free, iA, en, ic, cl, ins⟩ p ws l k).st)) (fun _ _ _ _ _ _ _ t _ => ln - (intOf t).toNat)
  case atStart => exact ⟨0, 0, 0, 0, 0, 0, 0, none, none, none, Nat.zero_le _, rfl, rfl, HG2.out, Nat.le_refl _, HT2.out, HX2.out, HMS.out, OwnR.nil _ _ _, OwnR.nil _ _ _, OwnR.nil _ _ _⟩
  case round =>
    clear HMS HT2 HX2
    obtain ⟨k, dn, dc, bn, bc, sn, sc, CA, BA, SA, hk, rfl, rfl, hg, hsz, ht, hx, hms, hoc, hob, hos⟩ := hrel
    have HG := Lib.hid hg; have HT := Lib.hid ht; have HX := Lib.hid hx; have HM := Lib.hid hms; have HC := Lib.hid hoc; have HB := Lib.hid hob; have HST := Lib.hid hos
    have hdn : dn ≤ k := by rw [← hoc.2]; exact (HOK.out k).cn
    have hbn : bn ≤ k := by rw [← hob.2]; exact (HOK.out k).bn
    have hsn : sn ≤ k := by rw [← hos.2]; unfold natI; rw [List.length_map]; exact (HOK.out k).sn
    clear hg ht hx hms hoc hob hos
    by_cases hlt : k < ln
    · obtain ⟨g, o, ⟨id, frm, too, at_, ring, talk, how, car⟩, rfl, _, hgl, hz, hcc⟩ := (HRC.out.1.grown HG.out (fun g e => by cases e)).get RcV.row_len hlt
      obtain ⟨p1, p2, p3, p4, p5, p6⟩ := HRC.out.2 _ (mem_of_get hz)
      obtain ⟨t1, t2, -, t3, t4, -, -⟩ := (HRR.out _ (mem_of_get hz)).talk
      dsimp only at p1 p2 p3 p4 p5 p6 t1 t2 t3 t4
      have HZ := Lib.hid hz; have HZC := Lib.hid hcc; clear hz hcc
      obtain ⟨wa, hwa⟩ : ∃ wa, wr.alloc (.cells #[.string id, .string frm, .string too, .int .i64 at_, .int .i64 ring, .int .i64 talk, .int .i64 how, .string car] 55) = wa := ⟨_, rfl⟩
      have HR := Lib.hid (show Blk wa wr.heap.size 55 #[.string id, .string frm, .string too, .int .i64 at_, .int .i64 ring, .int .i64 talk, .int .i64 how, .string car] by rw [← hwa]; exact Blk.new _ _ _)
      have HGa := Lib.hid (show wr.grownBy wa none by rw [← hwa]; exact gr_alloc (gr_refl _ _) _)
      have HWAE := Lib.hid hwa; clear hwa
      have za := HR.out.lt
      have k1 := HR.out.cell 1
      obtain ⟨Y, hY⟩ : ∃ Y, F frm = Y := ⟨_, rfl⟩
      obtain ⟨YS, hYS⟩ : ∃ YS, Y.getD ⟨#[]⟩ = YS := ⟨_, rfl⟩
      obtain ⟨YB, hYB⟩ : ∃ YB, Y.isSome = YB := ⟨_, rfl⟩
      have HMa := Lib.hid (HM.out.kept HGa.out (by simp))
      have HY := Lib.hid hY
      go_upto_region 8 with (first
        | (refine wpl_load_at Tryz.rcT rfl _ rfl _ rfl [.string id, .string frm, .string too, .int .i64 at_, .int .i64 ring, .int .i64 talk, .int .i64 how, .string car] rfl (fun j u hu => by rw [add_mk]; exact HZC.out j u hu) ?_)
        | (rw [HWAE.out]; refine wpl_sslook2 rfl _ _ rfl rfl frm rfl (by unfold maxLen; omega) (by exact HMa.out) ?_)
        | fail)
      have HYS := Lib.hid hYS; have HYB := Lib.hid hYB
      clear hY hYS hYB k1
      cases YB
      · have HP := Lib.hid (wStep_none (t := ⟨cA, cn, cc, free, iA, en, ic, cl, ins⟩) (ws := ws) (k := k) (r := ⟨id, frm, too, at_, ring, talk, how, car⟩) (s := (wRun ⟨cA, cn, cc, free, iA, en, ic, cl, ins⟩ p ws l k)) (pay_none (HY.out.symm.trans (HF.out frm)) HYB.out))
        go_wp2_with fail
        go_roundw
        case rel => exact ⟨k + 1, dn, dc, bn, bc, sn, sc, CA, BA, SA, by omega, by go_num, rfl, gr_none HG.out HGa.out, by have := HGa.out.size; omega, HT.out.grown HGa.out (by simp), HX.out.grown HGa.out (by simp), HMa.out, by rw [wRun_one HZ.out, HP.out]; exact HC.out.kept HGa.out (fun g e => by cases e), by rw [wRun_one HZ.out, HP.out]; exact HB.out.kept HGa.out (fun g e => by cases e), by rw [wRun_one HZ.out, HP.out]; exact HST.out.kept HGa.out (fun g e => by cases e)⟩
        case measure => simp [intOf]; omega
      · obtain ⟨⟨key, nA, nn, nc, nums⟩, hpo, rfl⟩ : ∃ y, payerOf p (nb frm) = some y ∧ y.key = YS := by
          have h := HF.out frm
          rw [HY.out] at h
          rcases Y with _ | who
          · exact absurd HYB.out (by decide)
          · obtain ⟨y, h1, h2⟩ := Option.map_eq_some_iff.1 h.symm
            exact ⟨y, h1, h2.trans HYS.out⟩
        have hks : key.size ≤ 1000 := (HPY.out.2 _ (List.mem_of_find?_eq_some hpo)).1.1
        have HPO := Lib.hid hpo; clear hpo
        dsimp only
        have HXa := Lib.hid (HX.out.grown HGa.out (by simp))
        go_wp2_with fail
        refine H_begin (fun w' => wa.grownBy w' none) (by kernel_rfl) ?_
        have hHeld : wa.grownBy wa.drew none := gr_drew (gr_refl _ _)
        refine H_take (k := 0) (v := ?_) (by rfl) (by kernel_rfl) (by kernel_rfl) (by kernel_rfl) (by exact fun _ _ _ h => h) (by rfl) ?_ (by assumption) ?_
        rotate_left 1
        · intro w hSw
          (try dsimp only at hSw)
          go_simp
          (try with_reducible rfl)
        (try simp only [Act.put, List.setIfInBounds_toArray, List.set_cons_zero, List.set_cons_succ])
        refine H_take (k := 1) (v := ?_) (by rfl) (by kernel_rfl) (by kernel_rfl) (by kernel_rfl) (by exact fun _ _ _ h => h) (by rfl) ?_ (by assumption) ?_
        rotate_left 1
        · intro w hSw
          (try dsimp only at hSw)
          go_simp
          (try with_reducible rfl)
        (try simp only [Act.put, List.setIfInBounds_toArray, List.set_cons_zero, List.set_cons_succ])
        refine H_take (k := 2) (v := ?_) (by rfl) (by kernel_rfl) (by kernel_rfl) (by kernel_rfl) (by exact fun _ _ _ h => h) (by rfl) ?_ (by assumption) ?_
        rotate_left 1
        · intro w hSw
          (try dsimp only at hSw)
          go_simp
          (try with_reducible rfl)
        (try simp only [Act.put, List.setIfInBounds_toArray, List.set_cons_zero, List.set_cons_succ])
        refine H_take (k := 3) (v := ?_) (by rfl) (by kernel_rfl) (by kernel_rfl) (by kernel_rfl) (by exact fun _ _ _ h => h) (by rfl) ?_ (by assumption) ?_
        rotate_left 1
        · intro w' hSw
          have kc := (HXa.out.grown hSw (by simp)).cell 2
          go_simp
          (try with_reducible rfl)
        (try simp only [Act.put, List.setIfInBounds_toArray, List.set_cons_zero, List.set_cons_succ])
        refine H_take (k := 4) (v := ?_) (by rfl) (by kernel_rfl) (by kernel_rfl) (by kernel_rfl) (by exact fun _ _ _ h => h) (by rfl) ?_ (by assumption) ?_
        rotate_left 1
        · intro w hSw
          (try dsimp only at hSw)
          go_simp
          (try with_reducible rfl)
        (try simp only [Act.put, List.setIfInBounds_toArray, List.set_cons_zero, List.set_cons_succ])
        refine H_take (k := 5) (v := ?_) (by rfl) (by kernel_rfl) (by kernel_rfl) (by kernel_rfl) (by exact fun _ _ _ h => h) (by rfl) ?_ (by assumption) ?_
        rotate_left 1
        · intro w hSw
          (try dsimp only at hSw)
          go_simp
          (try with_reducible rfl)
        (try simp only [Act.put, List.setIfInBounds_toArray, List.set_cons_zero, List.set_cons_succ])
        refine H_take (k := 6) (v := ?_) (by rfl) (by kernel_rfl) (by kernel_rfl) (by kernel_rfl) (by exact fun _ _ _ h => h) (by rfl) ?_ (by assumption) ?_
        rotate_left 1
        · intro w' hSw
          have kc := (HR.out.grown hSw (by simp)).cell 3
          go_simp
          (try with_reducible rfl)
        (try simp only [Act.put, List.setIfInBounds_toArray, List.set_cons_zero, List.set_cons_succ])
        refine H_run (k := 7) (by rfl) (by kernel_rfl) (by rfl) (fun K hK => ?_)
        go_simp
        refine (blockedP_any w2.heap.size BA bn bc (wRun ⟨cA, cn, cc, free, iA, en, ic, cl, ins⟩ p ws l k).bl key at_ _ (by exact HB.out.recs.grown (gr_none HGa.out (gr_drew (gr_refl wa none))) (fun g e => by cases e)) (by omega)).mono ?_
        rintro e w3 ⟨rfl, hg3⟩
        obtain ⟨BB, hBB⟩ : ∃ BB, blkB (wRun ⟨cA, cn, cc, free, iA, en, ic, cl, ins⟩ p ws l k).bl key at_ = BB := ⟨_, rfl⟩
        rw [hBB]
        have HBB := Lib.hid hBB; clear hBB
        have hgz : wa.grownBy w3 none := gr_none (gr_drew (gr_refl wa none)) hg3
        go_simp
        refine hK _ _ hgz ?_
        clear hK K hHeld hg3
        refine H_done (by kernel_rfl) ?_
        have HG3 := Lib.hid (gr_none HGa.out hgz)
        have HR3 := Lib.hid (HR.out.grown hgz (by simp))
        have z3 := hgz.size
        clear hgz
        cases BB
        · have HT3 := Lib.hid (HT.out.grown HG3.out (by simp))
          have k2 := HR3.out.cell 2
          go_simp
          go_wp2_with (first
            | (refine wpl_load_all Tryz.tfT rfl _ rfl _ rfl _ _ HT3.out rfl ?_)
            | fail)
          refine (classOf_any lo ⟨cA, cn, cc, free, iA, en, ic, cl, ins⟩ too _ (HTF.out.grown (gr_none HG.out HG3.out) (fun g e => by cases e)) (by omega) HSR.out).mono ?_
          rintro e w4 ⟨rfl, hg4⟩
          clear k2
          obtain ⟨C, hC⟩ : ∃ C, clsOf cl (nb too) = C := ⟨_, rfl⟩
          rw [show clsOf (TfV.cl ⟨cA, cn, cc, free, iA, en, ic, cl, ins⟩) (nb too) = C from hC]
          have HCC := Lib.hid hC; clear hC
          rcases C with _ | ⟨pre, name, setup, first, step, rate⟩
          · have HP := Lib.hid (wStep_nocls (t := ⟨cA, cn, cc, free, iA, en, ic, cl, ins⟩) (ws := ws) (k := k) (r := ⟨id, frm, too, at_, ring, talk, how, car⟩) (s := (wRun ⟨cA, cn, cc, free, iA, en, ic, cl, ins⟩ p ws l k)) HPO.out HBB.out HCC.out)
            have hgs : wr.grownBy (w4.alloc (.cells #[.string ⟨#[]⟩, .string ⟨#[]⟩, .int .i64 0, .int .i64 0, .int .i64 0, .int .i64 0] 68)) none := gr_alloc (gr_none HG3.out hg4) _
            rw [show clsRow none = #[.string ⟨#[]⟩, .string ⟨#[]⟩, .int .i64 0, .int .i64 0, .int .i64 0, .int .i64 0] from rfl]
            have HGS := Lib.hid hgs; clear hgs hg4
            go_wp2_with fail
            go_roundw
            case rel => exact ⟨k + 1, dn, dc, bn, bc, sn, sc, CA, BA, SA, by omega, by go_num, rfl, gr_none HG.out HGS.out, by have := HGS.out.size; omega, HT.out.grown HGS.out (by simp), HX.out.grown HGS.out (by simp), HM.out.kept HGS.out (by simp), by rw [wRun_one HZ.out, HP.out]; exact HC.out.kept HGS.out (fun g e => by cases e), by rw [wRun_one HZ.out, HP.out]; exact HB.out.kept HGS.out (fun g e => by cases e), by rw [wRun_one HZ.out, HP.out]; exact HST.out.kept HGS.out (fun g e => by cases e)⟩
            case measure => simp [intOf]; omega
          · have HP := Lib.hid (wStep_add (t := ⟨cA, cn, cc, free, iA, en, ic, cl, ins⟩) (ws := ws) (k := k) (r := ⟨id, frm, too, at_, ring, talk, how, car⟩) (s := (wRun ⟨cA, cn, cc, free, iA, en, ic, cl, ins⟩ p ws l k)) HPO.out HBB.out HCC.out)
            rw [show clsRow (some ⟨pre, name, setup, first, step, rate⟩) = #[.string pre, .string name, .int .i64 setup, .int .i64 first, .int .i64 step, .int .i64 rate] from rfl]
            obtain ⟨w5, hw5⟩ : ∃ w5, w4.alloc (.cells #[.string pre, .string name, .int .i64 setup, .int .i64 first, .int .i64 step, .int .i64 rate] 68) = w5 := ⟨_, rfl⟩
            have HK := Lib.hid (show Blk w5 w4.heap.size 68 #[.string pre, .string name, .int .i64 setup, .int .i64 first, .int .i64 step, .int .i64 rate] by rw [← hw5]; exact Blk.new _ _ _)
            have HG5 := Lib.hid (show wr.grownBy w5 none by rw [← hw5]; exact gr_alloc (gr_none HG3.out hg4) _)
            have HR5 := Lib.hid (show Blk w5 wr.heap.size 55 #[.string id, .string frm, .string too, .int .i64 at_, .int .i64 ring, .int .i64 talk, .int .i64 how, .string car] by rw [← hw5]; exact (HR3.out.grown hg4 (by simp)).alloc _)
            have z4 := hg4.size
            have z5 := HK.out.lt
            clear hg4
            go_upto_region 12 with (fail)
            clear hw5
            go_wp2_with fail
            refine wp_region_B (fun w' => w5.grownBy w' none) 11 (by kernel_rfl) ?_
            have hHeld : w5.grownBy w5.drew none := gr_drew (gr_refl _ _)
            refine B_take (k := 0) false (v := ?_) (by rfl) (by kernel_rfl) (by exact fun _ _ _ h => h) (by rfl) ?_ (by first | exact .inr hHeld | exact .inl (by rfl)) ?_
            rotate_left 1
            · intro w hSw
              clear hSw
              go_simp
              (try with_reducible rfl)
            (try simp only [Act.put, List.setIfInBounds_toArray, List.set_cons_zero, List.set_cons_succ])
            refine B_take (k := 1) false (v := ?_) (by rfl) (by kernel_rfl) (by exact fun _ _ _ h => h) (by rfl) ?_ (by first | exact .inr hHeld | exact .inl (by rfl)) ?_
            rotate_left 1
            · intro w hSw
              clear hSw
              go_simp
              (try with_reducible rfl)
            (try simp only [Act.put, List.setIfInBounds_toArray, List.set_cons_zero, List.set_cons_succ])
            refine B_take (k := 2) false (v := ?_) (by rfl) (by kernel_rfl) (by exact fun _ _ _ h => h) (by rfl) ?_ (by first | exact .inr hHeld | exact .inl (by rfl)) ?_
            rotate_left 1
            · intro w hSw
              clear hSw
              go_simp
              (try with_reducible rfl)
            (try simp only [Act.put, List.setIfInBounds_toArray, List.set_cons_zero, List.set_cons_succ])
            refine B_take (k := 3) true (v := ?_) (by rfl) (by kernel_rfl) (by exact fun _ _ _ h => h) (by rfl) ?_ (.inr hHeld) ?_
            rotate_left 1
            · intro w' hSw
              have kc := (HK.out.grown hSw (by simp)).cell 1
              clear hSw
              go_simp
              (try with_reducible rfl)
            (try simp only [Act.put, List.setIfInBounds_toArray, List.set_cons_zero, List.set_cons_succ])
            refine B_take (k := 4) false (v := ?_) (by rfl) (by kernel_rfl) (by exact fun _ _ _ h => h) (by rfl) ?_ (by first | exact .inr hHeld | exact .inl (by rfl)) ?_
            rotate_left 1
            · intro w hSw
              clear hSw
              go_simp
              (try with_reducible rfl)
            (try simp only [Act.put, List.setIfInBounds_toArray, List.set_cons_zero, List.set_cons_succ])
            refine B_take (k := 5) true (v := ?_) (by rfl) (by kernel_rfl) (by exact fun _ _ _ h => h) (by rfl) ?_ (.inr hHeld) ?_
            rotate_left 1
            · intro w' hSw
              have kc := (HR5.out.grown hSw (by simp)).cell 3
              clear hSw
              go_simp
              (try with_reducible rfl)
            (try simp only [Act.put, List.setIfInBounds_toArray, List.set_cons_zero, List.set_cons_succ])
            refine B_take (k := 6) true (v := .agg #[.string pre, .string name, .int .i64 setup, .int .i64 first, .int .i64 step, .int .i64 rate]) (by rfl) (by kernel_rfl) (by exact fun _ _ _ h => h) (by rfl) (fun w' hSw => exec_load_at Tryz.clT _ rfl _ rfl [.string pre, .string name, .int .i64 setup, .int .i64 first, .int .i64 step, .int .i64 rate] rfl (fun j u hu => by rw [add_mk, Nat.zero_add]; exact ((HK.out.grown hSw (by simp)).cell j).trans (by simpa using hu))) (.inr hHeld) ?_
            (try simp only [Act.put, List.setIfInBounds_toArray, List.set_cons_zero, List.set_cons_succ])
            refine B_take (k := 7) false (v := ?_) (by rfl) (by kernel_rfl) (by exact fun _ _ _ h => h) (by rfl) ?_ (by first | exact .inr hHeld | exact .inl (by rfl)) ?_
            rotate_left 1
            · intro w hSw
              clear hSw
              go_simp
              (try with_reducible rfl)
            (try simp only [Act.put, List.setIfInBounds_toArray, List.set_cons_zero, List.set_cons_succ])
            refine B_take (k := 8) true (v := ?_) (by rfl) (by kernel_rfl) (by exact fun _ _ _ h => h) (by rfl) ?_ (.inr hHeld) ?_
            rotate_left 1
            · intro w' hSw
              have kc := (HR5.out.grown hSw (by simp)).cell 5
              clear hSw
              go_simp
              (try with_reducible rfl)
            (try simp only [Act.put, List.setIfInBounds_toArray, List.set_cons_zero, List.set_cons_succ])
            refine B_run (k := 9) (by rfl) (by kernel_rfl) (by rfl) (fun K hK => ?_)
            go_simp
            refine (price_any ⟨pre, name, setup, first, step, rate⟩ talk _ (HNU.out _ (clsOf_mem HCC.out)) (by omega) (by omega)).mono ?_
            rintro e w6 ⟨rfl, hg6⟩
            obtain ⟨PV, hPV⟩ : ∃ PV, priceOf ⟨pre, name, setup, first, step, rate⟩ talk = PV := ⟨_, rfl⟩
            rw [hPV]
            have HPV := Lib.hid hPV; clear hPV
            have hg56 : w5.grownBy w6 none := gr_none (gr_drew (gr_refl w5 none)) hg6
            go_simp
            refine hK _ _ (.inr hg56) ?_
            clear hK K hHeld hg6
            have hHeld := hg56
            refine B_take (k := 10) false (v := ?_) (by rfl) (by kernel_rfl) (by exact fun _ _ _ h => h) (by rfl) ?_ (by first | exact .inr hHeld | exact .inl (by rfl)) ?_
            rotate_left 1
            · intro w hSw
              clear hSw
              go_simp
              (try with_reducible rfl)
            (try simp only [Act.put, List.setIfInBounds_toArray, List.set_cons_zero, List.set_cons_succ])
            refine B_run (k := 11) (by rfl) (by kernel_rfl) (by rfl) (fun K hK => ?_)
            go_simp
            have HG6 := Lib.hid (gr_none HG5.out hg56)
            have z6 := HG6.out.size
            have HC6 := Lib.hid (HC.out.kept HG6.out (fun g e => by cases e))
            have HB6 := Lib.hid (HB.out.kept HG6.out (fun g e => by cases e))
            have HS6 := Lib.hid (HST.out.kept HG6.out (fun g e => by cases e))
            have HX6 := Lib.hid (HX.out.grown HG6.out (by simp))
            have HT6 := Lib.hid (HT.out.grown HG6.out (by simp))
            have HM6 := Lib.hid (HM.out.kept HG6.out (by simp))
            have HCN := Lib.hid (show cnOf ⟨key, nA, nn, nc, nums⟩ ⟨pre, name, setup, first, step, rate⟩ ⟨id, frm, too, at_, ring, talk, how, car⟩ = ⟨key, name, at_, PV⟩ by unfold cnOf; dsimp only; rw [HPV.out])
            have HBK := Lib.hid (show ∀ e ∈ (wRun ⟨cA, cn, cc, free, iA, en, ic, cl, ins⟩ p ws l k).cs ++ [(⟨key, name, at_, PV⟩ : CnV)], (0 ≤ e.cost ∧ e.cost ≤ 86400001000000) ∧ 0 ≤ e.at_ ∧ e.at_ ≤ 345686399999 from fun e he => HBD.out (k + 1) e (by rw [wRun_one HZ.out, HP.out]; dsimp only; rw [HCN.out]; exact he))
            refine (count_any (w.heap.size + 1) w2.heap.size lo w WA wn wc ws CA dn dc (wRun ⟨cA, cn, cc, free, iA, en, ic, cl, ins⟩ p ws l k).cs BA bn bc (wRun ⟨cA, cn, cc, free, iA, en, ic, cl, ins⟩ p ws l k).bl key name at_ PV _ (gr_none HG.out HG6.out) (by omega) (by omega) (by omega) HWA.out hwn HWN.out HX6.out HC6.out HB6.out (by omega) (by omega) (fun e he => (HBK.out e he).1) (fun e he => (HBK.out e he).2) hks).mono ?_
            rintro e w7 ⟨CA1, BA1, dc1, bn1, bc1, rfl, hx1, hc1, hb1, hbn1, hgf, hgl⟩
            have HX7 := Lib.hid hx1; have HC7 := Lib.hid hc1; have HB7 := Lib.hid hb1; have HGF := Lib.hid hgf; have HGL := Lib.hid hgl
            have z7 := hgl.size
            clear hx1 hc1 hb1 hgf hgl
            go_simp
            refine hK _ _ (.inl (by rfl)) ?_
            clear hK K hHeld hg56
            refine B_done (by kernel_rfl) ?_
            go_simp
            go_wp2_with fail
            go_roundw
            case rel => exact ⟨k + 1, dn + 1, dc1, bn1, bc1, sn, sc, CA1, BA1, SA, by omega, by go_num, rfl, HGF.out, by omega, HGL.out.blk HT6.out (HC6.out.1.blk_ne HT6.out (by decide)) (by omega) (HB6.out.1.blk_ne HT6.out (by decide)), HX7.out,
              HGL.out.map HM6.out (fun e => by have := (HC6.out.1.lt e).1; omega) (fun e => hox e.symm) (fun e => by have := (HB6.out.1.lt e).1; omega),
              by rw [wRun_one HZ.out, HP.out]; dsimp only; rw [HCN.out]; exact HC7.out,
              by rw [wRun_one HZ.out, HP.out]; dsimp only; rw [HCN.out]; exact HB7.out,
              by rw [wRun_one HZ.out, HP.out]; exact HGL.out.own HS6.out (fun g e => Own.ne HC6.out.1 HS6.out.1 (by decide) e) (HS6.out.1.blk_ne HX6.out (by decide)) (fun g e => Own.ne HB6.out.1 HS6.out.1 (by decide) e)⟩
            case measure => simp [intOf]; omega
        · have HP := Lib.hid (wStep_stop (t := ⟨cA, cn, cc, free, iA, en, ic, cl, ins⟩) (ws := ws) (k := k) (r := ⟨id, frm, too, at_, ring, talk, how, car⟩) (s := (wRun ⟨cA, cn, cc, free, iA, en, ic, cl, ins⟩ p ws l k)) HPO.out HBB.out)
          have HST3 := Lib.hid (HST.out.kept HG3.out (fun g e => by cases e))
          have zw3 := HG3.out.size
          go_simp
          go_wp2_with (first
            | (at_builtin
               refine wpl_app _ rfl _ _ Tryz.intsT rfl w2.heap.size SA sn sc _ rfl (by exact HST3.out.1.alloc _) _ _ 1 1 [.int .i64 k] rfl (by exact Reads.one _ _ _ _ rfl) (by simp [Value.oneCell']) (by unfold maxLen; omega) (by omega) (by simp; omega) ?_
               intro A5 c5 w5 h5
               have H5 := Lib.hid h5; clear h5)
            | fail)
          go_roundw
          case rel =>
            have g0 : wr.grownBy (w3.alloc (.cells #[.int .i64 k] 3)) none := gr_alloc HG3.out _
            have g5 := H5.out.2.1
            have y5 := g5.size
            exact ⟨k + 1, dn, dc, bn, bc, sn + 1, c5, CA, BA, A5, by omega, by go_num, rfl, H5.out.gr (gr_none HG.out g0) (HST3.out.1.alloc _) (by omega), by simp at y5; omega, (HT.out.grown g0 (by simp)).grown g5 (fun e => HST3.out.1.blk_ne (HT.out.grown HG3.out (by simp)) (by decide) e.symm), (HX.out.grown g0 (by simp)).grown g5 (fun e => HST3.out.1.blk_ne (HX.out.grown HG3.out (by simp)) (by decide) e.symm), (HM.out.kept g0 (by simp)).kept g5 (fun e => by have := (HST3.out.1.lt e.symm).1; omega),
              by rw [wRun_one HZ.out, HP.out]; exact (HC.out.kept g0 (fun g e => by cases e)).kept g5 (fun g e => Own.ne HST3.out.1 (HC.out.kept HG3.out (fun g e => by cases e)).1 (by decide) e),
              by rw [wRun_one HZ.out, HP.out]; exact (HB.out.kept g0 (fun g e => by cases e)).kept g5 (fun g e => Own.ne HST3.out.1 (HB.out.kept HG3.out (fun g e => by cases e)).1 (by decide) e),
              by rw [wRun_one HZ.out, HP.out]; rw [natI_snoc]; exact (HST3.out.alloc _).app rfl H5.out⟩
          case measure => simp [intOf]; omega
    · obtain rfl : k = ln := by omega
      have kx2 := HX.out.cell 2
      go_wp2_with fail
      go_ret2
      refine ⟨BA, bn, bc, SA, sn, sc, rfl, ?_, ?_, HG.out⟩
      · rw [HRC.out.1.len]; exact HB.out.lower (by omega)
      · rw [HRC.out.1.len]; exact HST.out.lower (by omega)
end Go.Proofs.YtfakdalpaopjaaaGreatDoor

/- Contracts of checkWatch, Blocks, Stopped. Conditions: none. -/
import Derived.Test.YtdgjjjdndedeiaaGreatDoorWa4
namespace Go.Proofs.YtdgjjjdndedeiaaGreatDoor
open Go.RowKit

def watE (t : TfV) (p : List PyV) (ws : List WaV) (l : List RcV) : Int := if tarE t = 0 then (if pysE p = 0 then (if wasE ws = 0 then rcsE l else wasE ws) else pysE p) else tarE t
theorem wat_right {t : TfV} {p : List PyV} {ws : List WaV} {l : List RcV} (h : watE t p ws l = 0) : tarE t = 0 ∧ pysE p = 0 ∧ wasE ws = 0 ∧ rcsE l = 0 := by
  unfold watE at h
  by_cases h1 : tarE t = 0
  · rw [if_pos h1] at h
    by_cases h2 : pysE p = 0
    · rw [if_pos h2] at h
      by_cases h3 : wasE ws = 0
      · rw [if_pos h3] at h; exact ⟨h1, h2, h3, h⟩
      · rw [if_neg h3] at h; exact absurd h h3
    · rw [if_neg h2] at h; exact absurd h h2
  · rw [if_neg h1] at h; exact absurd h h1
set_option maxHeartbeats 4000000 in
theorem checkWatch_any (lo : Nat) (cA iA : Option Addr) (cn cc en ic : Nat) (free : Int) (cl : List ClV) (ins : List ByteArray) (P : Option Addr) (pn pc : Nat) (p : List PyV) (L : Option Addr) (ln lc : Nat) (l : List RcV) (WA : Option Addr) (wn wc : Nat) (ws : List WaV) (w : World) (htf : TfOk w lo ⟨cA, cn, cc, free, iA, en, ic, cl, ins⟩) (hpy : Pys w lo P pn pc p) (hwa : Was w lo WA wn wc ws) (hrc : Rcs w lo L ln lc l) (hpn : pn ≤ 1000) (hwn : wn ≤ 1000) (hln : ln ≤ 1000000000) :
    Calls Tryz.prog 66 #[.agg #[.slice cA cn cc, .int .i64 free, .slice iA en ic], .slice P pn pc, .slice WA wn wc, .slice L ln lc] w (RetV (.int .i64 (watE ⟨cA, cn, cc, free, iA, en, ic, cl, ins⟩ p ws l)) w) := by
  have HTF := Lib.hid htf; have HPY := Lib.hid hpy; have HRC := Lib.hid hrc; have HWA := Lib.hid hwa
  clear htf hpy hrc hwa
  obtain ⟨E1, h1⟩ : ∃ E, tarE ⟨cA, cn, cc, free, iA, en, ic, cl, ins⟩ = E := ⟨_, rfl⟩
  obtain ⟨E2, h2⟩ : ∃ E, pysE p = E := ⟨_, rfl⟩
  obtain ⟨E3, h3⟩ : ∃ E, wasE ws = E := ⟨_, rfl⟩
  have HF := Lib.hid (show watE ⟨cA, cn, cc, free, iA, en, ic, cl, ins⟩ p ws l = if E1 = 0 then (if E2 = 0 then (if E3 = 0 then rcsE l else E3) else E2) else E1 by unfold watE; rw [h1, h2, h3])
  have H1 := Lib.hid h1; have H2 := Lib.hid h2; have H3 := Lib.hid h3
  clear h1 h2 h3
  have HT := Lib.hid (Blk.new w 29 #[.slice cA cn cc, .int .i64 free, .slice iA en ic])
  have HG := Lib.hid (gr_alloc (gr_refl w none) (.cells #[.slice cA cn cc, .int .i64 free, .slice iA en ic] 29))
  by_cases e1 : E1 = 0
  · have d1 : (E1 != 0) = false := by simpa using e1
    by_cases e2 : E2 = 0
    · have d2 : (E2 != 0) = false := by simpa using e2
      by_cases e3 : E3 = 0
      · have d3 : (E3 != 0) = false := by simpa using e3
        have HFF := Lib.hid (show watE ⟨cA, cn, cc, free, iA, en, ic, cl, ins⟩ p ws l = rcsE l by rw [HF.out, if_pos e1, if_pos e2, if_pos e3])
        clear e1 e2 e3
        go_enter Tryz.func66, Tryz.ntmps66
        go_wp2_with (first
          | (refine wpl_load_all Tryz.tfT rfl _ rfl _ rfl _ _ HT.out rfl ?_)
          | fail)
        refine (checkTariff_any lo ⟨cA, cn, cc, free, iA, en, ic, cl, ins⟩ _ (HTF.out.grown HG.out (fun g e => by cases e))).mono ?_
        rintro e w2 ⟨rfl, hg2⟩
        rw [H1.out]
        have HG2 := Lib.hid (gr_none HG.out hg2); clear hg2
        go_wp2_with fail
        refine (checkPayers_any lo _ _ _ p _ (HPY.out.grown HG2.out (fun g e => by cases e)) (by omega)).mono ?_
        rintro e w3 ⟨rfl, hg3⟩
        rw [H2.out]
        have HG3 := Lib.hid (gr_none HG2.out hg3); clear hg3
        go_wp2_with fail
        refine (checkWatches_any lo _ _ _ ws _ (HWA.out.grown HG3.out (fun g e => by cases e)) (by omega)).mono ?_
        rintro e w4 ⟨rfl, hg4⟩
        rw [H3.out]
        have HG4 := Lib.hid (gr_none HG3.out hg4); clear hg4
        go_wp2_with fail
        refine (checkRecords_any lo _ _ _ l _ (HRC.out.grown HG4.out (fun g e => by cases e)) (by omega)).mono ?_
        rintro e w5 ⟨rfl, hg5⟩
        have HG5 := Lib.hid (gr_none HG4.out hg5); clear hg5
        go_wp2_with fail
        go_ret
        exact ⟨by rw [HFF.out]; rfl, HG5.out⟩
      · have d3 : (E3 != 0) = true := by simpa using e3
        have HFF := Lib.hid (show watE ⟨cA, cn, cc, free, iA, en, ic, cl, ins⟩ p ws l = E3 by rw [HF.out, if_pos e1, if_pos e2, if_neg e3])
        clear e1 e2 e3
        go_enter Tryz.func66, Tryz.ntmps66
        go_wp2_with (first
          | (refine wpl_load_all Tryz.tfT rfl _ rfl _ rfl _ _ HT.out rfl ?_)
          | fail)
        refine (checkTariff_any lo ⟨cA, cn, cc, free, iA, en, ic, cl, ins⟩ _ (HTF.out.grown HG.out (fun g e => by cases e))).mono ?_
        rintro e w2 ⟨rfl, hg2⟩
        rw [H1.out]
        have HG2 := Lib.hid (gr_none HG.out hg2); clear hg2
        go_wp2_with fail
        refine (checkPayers_any lo _ _ _ p _ (HPY.out.grown HG2.out (fun g e => by cases e)) (by omega)).mono ?_
        rintro e w3 ⟨rfl, hg3⟩
        rw [H2.out]
        have HG3 := Lib.hid (gr_none HG2.out hg3); clear hg3
        go_wp2_with fail
        refine (checkWatches_any lo _ _ _ ws _ (HWA.out.grown HG3.out (fun g e => by cases e)) (by omega)).mono ?_
        rintro e w4 ⟨rfl, hg4⟩
        rw [H3.out]
        have HG4 := Lib.hid (gr_none HG3.out hg4); clear hg4
        go_wp2_with fail
        go_ret
        exact ⟨by rw [HFF.out]; rfl, HG4.out⟩
    · have d2 : (E2 != 0) = true := by simpa using e2
      have HFF := Lib.hid (show watE ⟨cA, cn, cc, free, iA, en, ic, cl, ins⟩ p ws l = E2 by rw [HF.out, if_pos e1, if_neg e2])
      clear e1 e2
      go_enter Tryz.func66, Tryz.ntmps66
      go_wp2_with (first
        | (refine wpl_load_all Tryz.tfT rfl _ rfl _ rfl _ _ HT.out rfl ?_)
        | fail)
      refine (checkTariff_any lo ⟨cA, cn, cc, free, iA, en, ic, cl, ins⟩ _ (HTF.out.grown HG.out (fun g e => by cases e))).mono ?_
      rintro e w2 ⟨rfl, hg2⟩
      rw [H1.out]
      have HG2 := Lib.hid (gr_none HG.out hg2); clear hg2
      go_wp2_with fail
      refine (checkPayers_any lo _ _ _ p _ (HPY.out.grown HG2.out (fun g e => by cases e)) (by omega)).mono ?_
      rintro e w3 ⟨rfl, hg3⟩
      rw [H2.out]
      have HG3 := Lib.hid (gr_none HG2.out hg3); clear hg3
      go_wp2_with fail
      go_ret
      exact ⟨by rw [HFF.out]; rfl, HG3.out⟩
  · have d1 : (E1 != 0) = true := by simpa using e1
    have HFF := Lib.hid (show watE ⟨cA, cn, cc, free, iA, en, ic, cl, ins⟩ p ws l = E1 by rw [HF.out, if_neg e1])
    clear e1
    go_enter Tryz.func66, Tryz.ntmps66
    go_wp2_with (first
      | (refine wpl_load_all Tryz.tfT rfl _ rfl _ rfl _ _ HT.out rfl ?_)
      | fail)
    refine (checkTariff_any lo ⟨cA, cn, cc, free, iA, en, ic, cl, ins⟩ _ (HTF.out.grown HG.out (fun g e => by cases e))).mono ?_
    rintro e w2 ⟨rfl, hg2⟩
    rw [H1.out]
    have HG2 := Lib.hid (gr_none HG.out hg2); clear hg2
    go_wp2_with fail
    go_ret
    exact ⟨by rw [HFF.out]; rfl, HG2.out⟩
def blkL (t : TfV) (p : List PyV) (ws : List WaV) (l : List RcV) : List BlV := if watE t p ws l = 0 then (wRun t p ws l l.length).bl else []
def stpL (t : TfV) (p : List PyV) (ws : List WaV) (l : List RcV) : List Int := if watE t p ws l = 0 then natI (wRun t p ws l l.length).st else []
set_option maxHeartbeats 4000000 in
theorem Blocks_any (lo : Nat) (cA iA : Option Addr) (cn cc en ic : Nat) (free : Int) (cl : List ClV) (ins : List ByteArray) (P : Option Addr) (pn pc : Nat) (p : List PyV) (L : Option Addr) (ln lc : Nat) (l : List RcV) (WA : Option Addr) (wn wc : Nat) (ws : List WaV) (w : World) (htf : TfOk w lo ⟨cA, cn, cc, free, iA, en, ic, cl, ins⟩) (hpy : Pys w lo P pn pc p) (hwa : Was w lo WA wn wc ws) (hrc : Rcs w lo L ln lc l) (hpn : pn ≤ 1000) (hwn : wn ≤ 1000) (hln : ln ≤ 1000000000) :
    Calls Tryz.prog 23 #[.agg #[.slice cA cn cc, .int .i64 free, .slice iA en ic], .slice P pn pc, .slice WA wn wc, .slice L ln lc] w (SlErr BlV.row 4 73 (blkL ⟨cA, cn, cc, free, iA, en, ic, cl, ins⟩ p ws l) (watE ⟨cA, cn, cc, free, iA, en, ic, cl, ins⟩ p ws l) w) := by
  have HTF := Lib.hid htf; have HPY := Lib.hid hpy; have HRC := Lib.hid hrc; have HWA := Lib.hid hwa
  clear htf hpy hrc hwa
  obtain ⟨E1, h1⟩ : ∃ E, watE ⟨cA, cn, cc, free, iA, en, ic, cl, ins⟩ p ws l = E := ⟨_, rfl⟩
  have H1 := Lib.hid h1
  have HT := Lib.hid (Blk.new w 29 #[.slice cA cn cc, .int .i64 free, .slice iA en ic])
  have HG := Lib.hid (gr_alloc (gr_refl w none) (.cells #[.slice cA cn cc, .int .i64 free, .slice iA en ic] 29))
  by_cases e1 : E1 = 0
  · have d1 : (E1 != 0) = false := by simpa using e1
    obtain ⟨r1, r2, r3, r4⟩ := wat_right (h1.trans e1)
    have HOK := Lib.hid (show WatchOk w lo ⟨cA, cn, cc, free, iA, en, ic, cl, ins⟩ P pn pc p WA wn wc ws L ln lc l from ⟨⟨HTF.out, HPY.out, HRC.out, r1, r2, r4⟩, HWA.out, r3⟩)
    have HFF := Lib.hid (show blkL ⟨cA, cn, cc, free, iA, en, ic, cl, ins⟩ p ws l = (wRun ⟨cA, cn, cc, free, iA, en, ic, cl, ins⟩ p ws l l.length).bl by unfold blkL; rw [if_pos (h1.trans e1)])
    have HE0 := Lib.hid e1
    rw [h1]
    clear e1 h1 r1 r2 r3 r4
    go_enter Tryz.func23, Tryz.ntmps23
    go_wp2_with (first
      | (refine wpl_load_all Tryz.tfT rfl _ rfl _ rfl _ _ HT.out rfl ?_)
      | fail)
    refine (checkWatch_any lo cA iA cn cc en ic free cl ins P pn pc p L ln lc l WA wn wc ws _ (HTF.out.grown HG.out (fun g e => by cases e)) (HPY.out.grown HG.out (fun g e => by cases e)) (HWA.out.grown HG.out (fun g e => by cases e)) (HRC.out.grown HG.out (fun g e => by cases e)) hpn hwn hln).mono ?_
    rintro e w2 ⟨rfl, hg2⟩
    rw [H1.out]
    have HT2 := Lib.hid (HT.out.grown hg2 (by simp))
    have HG2 := Lib.hid (gr_none HG.out hg2); clear hg2
    go_wp2_with (first
      | (refine wpl_load_all Tryz.tfT rfl _ rfl _ rfl _ _ HT2.out rfl ?_)
      | fail)
    refine (watch_any lo cA iA cn cc en ic free cl ins P pn pc p L ln lc l WA wn wc ws _ (HOK.out.grown HG2.out) hpn).mono ?_
    rintro e w3 ⟨BA, bn, bc, SA, sn, sc, rfl, hob, hos, hg3⟩
    have HB := Lib.hid (hob.lower HG2.out.size); have HS := Lib.hid (hos.lower HG2.out.size); have HG3 := Lib.hid (gr_none HG2.out hg3)
    clear hob hos hg3
    go_wp2_with fail
    go_ret2
    exact ⟨_, _, _, by rw [← HE0.out]; rfl, by rw [HFF.out]; exact HB.out, HG3.out⟩
  · have d1 : (E1 != 0) = true := by simpa using e1
    have HFF := Lib.hid (show blkL ⟨cA, cn, cc, free, iA, en, ic, cl, ins⟩ p ws l = [] by unfold blkL; rw [if_neg (by rw [h1]; exact e1)])
    rw [h1]
    clear e1 h1
    go_enter Tryz.func23, Tryz.ntmps23
    go_wp2_with (first
      | (refine wpl_load_all Tryz.tfT rfl _ rfl _ rfl _ _ HT.out rfl ?_)
      | fail)
    refine (checkWatch_any lo cA iA cn cc en ic free cl ins P pn pc p L ln lc l WA wn wc ws _ (HTF.out.grown HG.out (fun g e => by cases e)) (HPY.out.grown HG.out (fun g e => by cases e)) (HWA.out.grown HG.out (fun g e => by cases e)) (HRC.out.grown HG.out (fun g e => by cases e)) hpn hwn hln).mono ?_
    rintro e w2 ⟨rfl, hg2⟩
    rw [H1.out]
    have HT2 := Lib.hid (HT.out.grown hg2 (by simp))
    have HG2 := Lib.hid (gr_none HG.out hg2); clear hg2
    go_wp2_with (first
      | (refine wpl_load_all Tryz.tfT rfl _ rfl _ rfl _ _ HT2.out rfl ?_)
      | fail)
    go_ret2
    exact ⟨none, 0, 0, rfl, by rw [HFF.out]; exact OwnR.nil _ _ _, HG2.out⟩
set_option maxHeartbeats 4000000 in
theorem Stopped_any (lo : Nat) (cA iA : Option Addr) (cn cc en ic : Nat) (free : Int) (cl : List ClV) (ins : List ByteArray) (P : Option Addr) (pn pc : Nat) (p : List PyV) (L : Option Addr) (ln lc : Nat) (l : List RcV) (WA : Option Addr) (wn wc : Nat) (ws : List WaV) (w : World) (htf : TfOk w lo ⟨cA, cn, cc, free, iA, en, ic, cl, ins⟩) (hpy : Pys w lo P pn pc p) (hwa : Was w lo WA wn wc ws) (hrc : Rcs w lo L ln lc l) (hpn : pn ≤ 1000) (hwn : wn ≤ 1000) (hln : ln ≤ 1000000000) :
    Calls Tryz.prog 24 #[.agg #[.slice cA cn cc, .int .i64 free, .slice iA en ic], .slice P pn pc, .slice WA wn wc, .slice L ln lc] w (SlErr irow 1 3 (stpL ⟨cA, cn, cc, free, iA, en, ic, cl, ins⟩ p ws l) (watE ⟨cA, cn, cc, free, iA, en, ic, cl, ins⟩ p ws l) w) := by
  have HTF := Lib.hid htf; have HPY := Lib.hid hpy; have HRC := Lib.hid hrc; have HWA := Lib.hid hwa
  clear htf hpy hrc hwa
  obtain ⟨E1, h1⟩ : ∃ E, watE ⟨cA, cn, cc, free, iA, en, ic, cl, ins⟩ p ws l = E := ⟨_, rfl⟩
  have H1 := Lib.hid h1
  have HT := Lib.hid (Blk.new w 29 #[.slice cA cn cc, .int .i64 free, .slice iA en ic])
  have HG := Lib.hid (gr_alloc (gr_refl w none) (.cells #[.slice cA cn cc, .int .i64 free, .slice iA en ic] 29))
  by_cases e1 : E1 = 0
  · have d1 : (E1 != 0) = false := by simpa using e1
    obtain ⟨r1, r2, r3, r4⟩ := wat_right (h1.trans e1)
    have HOK := Lib.hid (show WatchOk w lo ⟨cA, cn, cc, free, iA, en, ic, cl, ins⟩ P pn pc p WA wn wc ws L ln lc l from ⟨⟨HTF.out, HPY.out, HRC.out, r1, r2, r4⟩, HWA.out, r3⟩)
    have HFF := Lib.hid (show stpL ⟨cA, cn, cc, free, iA, en, ic, cl, ins⟩ p ws l = natI (wRun ⟨cA, cn, cc, free, iA, en, ic, cl, ins⟩ p ws l l.length).st by unfold stpL; rw [if_pos (h1.trans e1)])
    have HE0 := Lib.hid e1
    rw [h1]
    clear e1 h1 r1 r2 r3 r4
    go_enter Tryz.func24, Tryz.ntmps24
    go_wp2_with (first
      | (refine wpl_load_all Tryz.tfT rfl _ rfl _ rfl _ _ HT.out rfl ?_)
      | fail)
    refine (checkWatch_any lo cA iA cn cc en ic free cl ins P pn pc p L ln lc l WA wn wc ws _ (HTF.out.grown HG.out (fun g e => by cases e)) (HPY.out.grown HG.out (fun g e => by cases e)) (HWA.out.grown HG.out (fun g e => by cases e)) (HRC.out.grown HG.out (fun g e => by cases e)) hpn hwn hln).mono ?_
    rintro e w2 ⟨rfl, hg2⟩
    rw [H1.out]
    have HT2 := Lib.hid (HT.out.grown hg2 (by simp))
    have HG2 := Lib.hid (gr_none HG.out hg2); clear hg2
    go_wp2_with (first
      | (refine wpl_load_all Tryz.tfT rfl _ rfl _ rfl _ _ HT2.out rfl ?_)
      | fail)
    refine (watch_any lo cA iA cn cc en ic free cl ins P pn pc p L ln lc l WA wn wc ws _ (HOK.out.grown HG2.out) hpn).mono ?_
    rintro e w3 ⟨BA, bn, bc, SA, sn, sc, rfl, hob, hos, hg3⟩
    have HB := Lib.hid (hob.lower HG2.out.size); have HS := Lib.hid (hos.lower HG2.out.size); have HG3 := Lib.hid (gr_none HG2.out hg3)
    clear hob hos hg3
    go_wp2_with fail
    go_ret2
    exact ⟨_, _, _, by rw [← HE0.out]; rfl, by rw [HFF.out]; exact HS.out, HG3.out⟩
  · have d1 : (E1 != 0) = true := by simpa using e1
    have HFF := Lib.hid (show stpL ⟨cA, cn, cc, free, iA, en, ic, cl, ins⟩ p ws l = [] by unfold stpL; rw [if_neg (by rw [h1]; exact e1)])
    rw [h1]
    clear e1 h1
    go_enter Tryz.func24, Tryz.ntmps24
    go_wp2_with (first
      | (refine wpl_load_all Tryz.tfT rfl _ rfl _ rfl _ _ HT.out rfl ?_)
      | fail)
    refine (checkWatch_any lo cA iA cn cc en ic free cl ins P pn pc p L ln lc l WA wn wc ws _ (HTF.out.grown HG.out (fun g e => by cases e)) (HPY.out.grown HG.out (fun g e => by cases e)) (HWA.out.grown HG.out (fun g e => by cases e)) (HRC.out.grown HG.out (fun g e => by cases e)) hpn hwn hln).mono ?_
    rintro e w2 ⟨rfl, hg2⟩
    rw [H1.out]
    have HT2 := Lib.hid (HT.out.grown hg2 (by simp))
    have HG2 := Lib.hid (gr_none HG.out hg2); clear hg2
    go_wp2_with (first
      | (refine wpl_load_all Tryz.tfT rfl _ rfl _ rfl _ _ HT2.out rfl ?_)
      | fail)
    go_ret2
    exact ⟨none, 0, 0, rfl, by rw [HFF.out]; exact OwnR.nil _ _ _, HG2.out⟩
end Go.Proofs.YtdgjjjdndedeiaaGreatDoor

/- Contracts of checkWatch, Blocks, Stopped. Conditions: none. -/
import Derived.Test.YtfakdalpaopjaaaGreatDoorWa4
import Derived.Test.YtfakdalpaopjaaaGreatDoorGenPlR
import Derived.Test.YtfakdalpaopjaaaGreatDoorGenFwR
import Derived.Test.YtfakdalpaopjaaaGreatDoorBun6
import Derived.Test.YtfakdalpaopjaaaGreatDoorCf5
import Derived.Test.YtfakdalpaopjaaaGreatDoorBun13
import Derived.Test.YtfakdalpaopjaaaGreatDoorGenRec
import Derived.Test.YtfakdalpaopjaaaGreatDoorRc4
namespace Go.Proofs.YtfakdalpaopjaaaGreatDoor
section
open Go.RowKit

def watE (t : TfV) (p : List PyV) (ws : List WaV) (l : List RcV) : Int := if tarE t = 0 then (if pysE p = 0 then (if wasE ws = 0 then rcsE l else wasE ws) else pysE p) else tarE t
theorem wat_right {t : TfV} {p : List PyV} {ws : List WaV} {l : List RcV} (h : watE t p ws l = 0) : tarE t = 0 ∧ pysE p = 0 ∧ wasE ws = 0 ∧ rcsE l = 0 := by
  unfold watE at h
  by_cases h1 : tarE t = 0
  · rw [if_pos h1] at h
    by_cases h2 : pysE p = 0
    · rw [if_pos h2] at h
      by_cases h3 : wasE ws = 0
      · rw [if_pos h3] at h; exact ⟨h1, h2, h3, h⟩
      · rw [if_neg h3] at h; exact absurd h h3
    · rw [if_neg h2] at h; exact absurd h h2
  · rw [if_neg h1] at h; exact absurd h h1
set_option maxHeartbeats 4000000 in
theorem checkWatch_any (lo : Nat) (cA iA : Option Addr) (cn cc en ic : Nat) (free : Int) (cl : List ClV) (ins : List ByteArray) (P : Option Addr) (pn pc : Nat) (p : List PyV) (L : Option Addr) (ln lc : Nat) (l : List RcV) (WA : Option Addr) (wn wc : Nat) (ws : List WaV) (w : World) (htf : TfOk w lo ⟨cA, cn, cc, free, iA, en, ic, cl, ins⟩) (hpy : Pys w lo P pn pc p) (hwa : Was w lo WA wn wc ws) (hrc : Rcs w lo L ln lc l) (hpn : pn ≤ 1000) (hwn : wn ≤ 1000) (hln : ln ≤ 1000000000) :
    Calls Tryz.prog 23 #[.agg #[.slice cA cn cc, .int .i64 free, .slice iA en ic], .slice P pn pc, .slice WA wn wc, .slice L ln lc] w (RetV (.int .i64 (watE ⟨cA, cn, cc, free, iA, en, ic, cl, ins⟩ p ws l)) w) := by
  have HTF := Lib.hid htf; have HPY := Lib.hid hpy; have HRC := Lib.hid hrc; have HWA := Lib.hid hwa
  clear htf hpy hrc hwa
  obtain ⟨E1, h1⟩ : ∃ E, tarE ⟨cA, cn, cc, free, iA, en, ic, cl, ins⟩ = E := ⟨_, rfl⟩
  obtain ⟨E2, h2⟩ : ∃ E, pysE p = E := ⟨_, rfl⟩
  obtain ⟨E3, h3⟩ : ∃ E, wasE ws = E := ⟨_, rfl⟩
  have HF := Lib.hid (show watE ⟨cA, cn, cc, free, iA, en, ic, cl, ins⟩ p ws l = if E1 = 0 then (if E2 = 0 then (if E3 = 0 then rcsE l else E3) else E2) else E1 by unfold watE; rw [h1, h2, h3])
  have H1 := Lib.hid h1; have H2 := Lib.hid h2; have H3 := Lib.hid h3
  clear h1 h2 h3
  have HT := Lib.hid (Blk.new w 29 #[.slice cA cn cc, .int .i64 free, .slice iA en ic])
  have HG := Lib.hid (gr_alloc (gr_refl w none) (.cells #[.slice cA cn cc, .int .i64 free, .slice iA en ic] 29))
  by_cases e1 : E1 = 0
  · have d1 : (E1 != 0) = false := by simpa using e1
    by_cases e2 : E2 = 0
    · have d2 : (E2 != 0) = false := by simpa using e2
      by_cases e3 : E3 = 0
      · have d3 : (E3 != 0) = false := by simpa using e3
        have HFF := Lib.hid (show watE ⟨cA, cn, cc, free, iA, en, ic, cl, ins⟩ p ws l = rcsE l by rw [HF.out, if_pos e1, if_pos e2, if_pos e3])
        clear e1 e2 e3
        go_enter Tryz.func23, Tryz.ntmps23
        go_wp2_with (first
          | (refine wpl_load_all Tryz.tfT rfl _ rfl _ rfl _ _ HT.out rfl ?_)
          | fail)
        refine (checkTariff_any lo ⟨cA, cn, cc, free, iA, en, ic, cl, ins⟩ _ (HTF.out.grown HG.out (fun g e => by cases e))).mono ?_
        rintro e w2 ⟨rfl, hg2⟩
        rw [H1.out]
        have HG2 := Lib.hid (gr_none HG.out hg2); clear hg2
        go_wp2_with fail
        refine (checkPayers_any lo _ _ _ p _ (HPY.out.grown HG2.out (fun g e => by cases e)) (by omega)).mono ?_
        rintro e w3 ⟨rfl, hg3⟩
        rw [H2.out]
        have HG3 := Lib.hid (gr_none HG2.out hg3); clear hg3
        go_wp2_with fail
        refine (checkWatches_any lo _ _ _ ws _ (HWA.out.grown HG3.out (fun g e => by cases e)) (by omega)).mono ?_
        rintro e w4 ⟨rfl, hg4⟩
        rw [H3.out]
        have HG4 := Lib.hid (gr_none HG3.out hg4); clear hg4
        go_wp2_with fail
        refine (checkRecords_any lo _ _ _ l _ (HRC.out.grown HG4.out (fun g e => by cases e)) (by omega)).mono ?_
        rintro e w5 ⟨rfl, hg5⟩
        have HG5 := Lib.hid (gr_none HG4.out hg5); clear hg5
        go_wp2_with fail
        go_ret
        exact ⟨by rw [HFF.out]; rfl, HG5.out⟩
      · have d3 : (E3 != 0) = true := by simpa using e3
        have HFF := Lib.hid (show watE ⟨cA, cn, cc, free, iA, en, ic, cl, ins⟩ p ws l = E3 by rw [HF.out, if_pos e1, if_pos e2, if_neg e3])
        clear e1 e2 e3
        go_enter Tryz.func23, Tryz.ntmps23
        go_wp2_with (first
          | (refine wpl_load_all Tryz.tfT rfl _ rfl _ rfl _ _ HT.out rfl ?_)
          | fail)
        refine (checkTariff_any lo ⟨cA, cn, cc, free, iA, en, ic, cl, ins⟩ _ (HTF.out.grown HG.out (fun g e => by cases e))).mono ?_
        rintro e w2 ⟨rfl, hg2⟩
        rw [H1.out]
        have HG2 := Lib.hid (gr_none HG.out hg2); clear hg2
        go_wp2_with fail
        refine (checkPayers_any lo _ _ _ p _ (HPY.out.grown HG2.out (fun g e => by cases e)) (by omega)).mono ?_
        rintro e w3 ⟨rfl, hg3⟩
        rw [H2.out]
        have HG3 := Lib.hid (gr_none HG2.out hg3); clear hg3
        go_wp2_with fail
        refine (checkWatches_any lo _ _ _ ws _ (HWA.out.grown HG3.out (fun g e => by cases e)) (by omega)).mono ?_
        rintro e w4 ⟨rfl, hg4⟩
        rw [H3.out]
        have HG4 := Lib.hid (gr_none HG3.out hg4); clear hg4
        go_wp2_with fail
        go_ret
        exact ⟨by rw [HFF.out]; rfl, HG4.out⟩
    · have d2 : (E2 != 0) = true := by simpa using e2
      have HFF := Lib.hid (show watE ⟨cA, cn, cc, free, iA, en, ic, cl, ins⟩ p ws l = E2 by rw [HF.out, if_pos e1, if_neg e2])
      clear e1 e2
      go_enter Tryz.func23, Tryz.ntmps23
      go_wp2_with (first
        | (refine wpl_load_all Tryz.tfT rfl _ rfl _ rfl _ _ HT.out rfl ?_)
        | fail)
      refine (checkTariff_any lo ⟨cA, cn, cc, free, iA, en, ic, cl, ins⟩ _ (HTF.out.grown HG.out (fun g e => by cases e))).mono ?_
      rintro e w2 ⟨rfl, hg2⟩
      rw [H1.out]
      have HG2 := Lib.hid (gr_none HG.out hg2); clear hg2
      go_wp2_with fail
      refine (checkPayers_any lo _ _ _ p _ (HPY.out.grown HG2.out (fun g e => by cases e)) (by omega)).mono ?_
      rintro e w3 ⟨rfl, hg3⟩
      rw [H2.out]
      have HG3 := Lib.hid (gr_none HG2.out hg3); clear hg3
      go_wp2_with fail
      go_ret
      exact ⟨by rw [HFF.out]; rfl, HG3.out⟩
  · have d1 : (E1 != 0) = true := by simpa using e1
    have HFF := Lib.hid (show watE ⟨cA, cn, cc, free, iA, en, ic, cl, ins⟩ p ws l = E1 by rw [HF.out, if_neg e1])
    clear e1
    go_enter Tryz.func23, Tryz.ntmps23
    go_wp2_with (first
      | (refine wpl_load_all Tryz.tfT rfl _ rfl _ rfl _ _ HT.out rfl ?_)
      | fail)
    refine (checkTariff_any lo ⟨cA, cn, cc, free, iA, en, ic, cl, ins⟩ _ (HTF.out.grown HG.out (fun g e => by cases e))).mono ?_
    rintro e w2 ⟨rfl, hg2⟩
    rw [H1.out]
    have HG2 := Lib.hid (gr_none HG.out hg2); clear hg2
    go_wp2_with fail
    go_ret
    exact ⟨by rw [HFF.out]; rfl, HG2.out⟩
def blkL (t : TfV) (p : List PyV) (ws : List WaV) (l : List RcV) : List BlV := if watE t p ws l = 0 then (wRun t p ws l l.length).bl else []
def stpL (t : TfV) (p : List PyV) (ws : List WaV) (l : List RcV) : List Int := if watE t p ws l = 0 then natI (wRun t p ws l l.length).st else []
set_option maxHeartbeats 4000000 in
theorem Blocks_any (lo : Nat) (cA iA : Option Addr) (cn cc en ic : Nat) (free : Int) (cl : List ClV) (ins : List ByteArray) (P : Option Addr) (pn pc : Nat) (p : List PyV) (L : Option Addr) (ln lc : Nat) (l : List RcV) (WA : Option Addr) (wn wc : Nat) (ws : List WaV) (w : World) (htf : TfOk w lo ⟨cA, cn, cc, free, iA, en, ic, cl, ins⟩) (hpy : Pys w lo P pn pc p) (hwa : Was w lo WA wn wc ws) (hrc : Rcs w lo L ln lc l) (hpn : pn ≤ 1000) (hwn : wn ≤ 1000) (hln : ln ≤ 1000000000) :
    Calls Tryz.prog 8 #[.agg #[.slice cA cn cc, .int .i64 free, .slice iA en ic], .slice P pn pc, .slice WA wn wc, .slice L ln lc] w (SlErr BlV.row 4 58 (blkL ⟨cA, cn, cc, free, iA, en, ic, cl, ins⟩ p ws l) (watE ⟨cA, cn, cc, free, iA, en, ic, cl, ins⟩ p ws l) w) := by
  have HTF := Lib.hid htf; have HPY := Lib.hid hpy; have HRC := Lib.hid hrc; have HWA := Lib.hid hwa
  clear htf hpy hrc hwa
  obtain ⟨E1, h1⟩ : ∃ E, watE ⟨cA, cn, cc, free, iA, en, ic, cl, ins⟩ p ws l = E := ⟨_, rfl⟩
  have H1 := Lib.hid h1
  have HT := Lib.hid (Blk.new w 29 #[.slice cA cn cc, .int .i64 free, .slice iA en ic])
  have HG := Lib.hid (gr_alloc (gr_refl w none) (.cells #[.slice cA cn cc, .int .i64 free, .slice iA en ic] 29))
  by_cases e1 : E1 = 0
  · have d1 : (E1 != 0) = false := by simpa using e1
    obtain ⟨r1, r2, r3, r4⟩ := wat_right (h1.trans e1)
    have HOK := Lib.hid (show WatchOk w lo ⟨cA, cn, cc, free, iA, en, ic, cl, ins⟩ P pn pc p WA wn wc ws L ln lc l from ⟨⟨HTF.out, HPY.out, HRC.out, r1, r2, r4⟩, HWA.out, r3⟩)
    have HFF := Lib.hid (show blkL ⟨cA, cn, cc, free, iA, en, ic, cl, ins⟩ p ws l = (wRun ⟨cA, cn, cc, free, iA, en, ic, cl, ins⟩ p ws l l.length).bl by unfold blkL; rw [if_pos (h1.trans e1)])
    have HE0 := Lib.hid e1
    rw [h1]
    clear e1 h1 r1 r2 r3 r4
    go_enter Tryz.func8, Tryz.ntmps8
    go_wp2_with (first
      | (refine wpl_load_all Tryz.tfT rfl _ rfl _ rfl _ _ HT.out rfl ?_)
      | fail)
    refine (checkWatch_any lo cA iA cn cc en ic free cl ins P pn pc p L ln lc l WA wn wc ws _ (HTF.out.grown HG.out (fun g e => by cases e)) (HPY.out.grown HG.out (fun g e => by cases e)) (HWA.out.grown HG.out (fun g e => by cases e)) (HRC.out.grown HG.out (fun g e => by cases e)) hpn hwn hln).mono ?_
    rintro e w2 ⟨rfl, hg2⟩
    rw [H1.out]
    have HT2 := Lib.hid (HT.out.grown hg2 (by simp))
    have HG2 := Lib.hid (gr_none HG.out hg2); clear hg2
    go_wp2_with (first
      | (refine wpl_load_all Tryz.tfT rfl _ rfl _ rfl _ _ HT2.out rfl ?_)
      | fail)
    refine (watch_any lo cA iA cn cc en ic free cl ins P pn pc p L ln lc l WA wn wc ws _ (HOK.out.grown HG2.out) hpn).mono ?_
    rintro e w3 ⟨BA, bn, bc, SA, sn, sc, rfl, hob, hos, hg3⟩
    have HB := Lib.hid (hob.lower HG2.out.size); have HS := Lib.hid (hos.lower HG2.out.size); have HG3 := Lib.hid (gr_none HG2.out hg3)
    clear hob hos hg3
    go_wp2_with fail
    go_ret2
    exact ⟨_, _, _, by rw [← HE0.out]; rfl, by rw [HFF.out]; exact HB.out, HG3.out⟩
  · have d1 : (E1 != 0) = true := by simpa using e1
    have HFF := Lib.hid (show blkL ⟨cA, cn, cc, free, iA, en, ic, cl, ins⟩ p ws l = [] by unfold blkL; rw [if_neg (by rw [h1]; exact e1)])
    rw [h1]
    clear e1 h1
    go_enter Tryz.func8, Tryz.ntmps8
    go_wp2_with (first
      | (refine wpl_load_all Tryz.tfT rfl _ rfl _ rfl _ _ HT.out rfl ?_)
      | fail)
    refine (checkWatch_any lo cA iA cn cc en ic free cl ins P pn pc p L ln lc l WA wn wc ws _ (HTF.out.grown HG.out (fun g e => by cases e)) (HPY.out.grown HG.out (fun g e => by cases e)) (HWA.out.grown HG.out (fun g e => by cases e)) (HRC.out.grown HG.out (fun g e => by cases e)) hpn hwn hln).mono ?_
    rintro e w2 ⟨rfl, hg2⟩
    rw [H1.out]
    have HT2 := Lib.hid (HT.out.grown hg2 (by simp))
    have HG2 := Lib.hid (gr_none HG.out hg2); clear hg2
    go_wp2_with (first
      | (refine wpl_load_all Tryz.tfT rfl _ rfl _ rfl _ _ HT2.out rfl ?_)
      | fail)
    go_ret2
    exact ⟨none, 0, 0, rfl, by rw [HFF.out]; exact OwnR.nil _ _ _, HG2.out⟩
set_option maxHeartbeats 4000000 in
theorem Stopped_any (lo : Nat) (cA iA : Option Addr) (cn cc en ic : Nat) (free : Int) (cl : List ClV) (ins : List ByteArray) (P : Option Addr) (pn pc : Nat) (p : List PyV) (L : Option Addr) (ln lc : Nat) (l : List RcV) (WA : Option Addr) (wn wc : Nat) (ws : List WaV) (w : World) (htf : TfOk w lo ⟨cA, cn, cc, free, iA, en, ic, cl, ins⟩) (hpy : Pys w lo P pn pc p) (hwa : Was w lo WA wn wc ws) (hrc : Rcs w lo L ln lc l) (hpn : pn ≤ 1000) (hwn : wn ≤ 1000) (hln : ln ≤ 1000000000) :
    Calls Tryz.prog 9 #[.agg #[.slice cA cn cc, .int .i64 free, .slice iA en ic], .slice P pn pc, .slice WA wn wc, .slice L ln lc] w (SlErr irow 1 3 (stpL ⟨cA, cn, cc, free, iA, en, ic, cl, ins⟩ p ws l) (watE ⟨cA, cn, cc, free, iA, en, ic, cl, ins⟩ p ws l) w) := by
  have HTF := Lib.hid htf; have HPY := Lib.hid hpy; have HRC := Lib.hid hrc; have HWA := Lib.hid hwa
  clear htf hpy hrc hwa
  obtain ⟨E1, h1⟩ : ∃ E, watE ⟨cA, cn, cc, free, iA, en, ic, cl, ins⟩ p ws l = E := ⟨_, rfl⟩
  have H1 := Lib.hid h1
  have HT := Lib.hid (Blk.new w 29 #[.slice cA cn cc, .int .i64 free, .slice iA en ic])
  have HG := Lib.hid (gr_alloc (gr_refl w none) (.cells #[.slice cA cn cc, .int .i64 free, .slice iA en ic] 29))
  by_cases e1 : E1 = 0
  · have d1 : (E1 != 0) = false := by simpa using e1
    obtain ⟨r1, r2, r3, r4⟩ := wat_right (h1.trans e1)
    have HOK := Lib.hid (show WatchOk w lo ⟨cA, cn, cc, free, iA, en, ic, cl, ins⟩ P pn pc p WA wn wc ws L ln lc l from ⟨⟨HTF.out, HPY.out, HRC.out, r1, r2, r4⟩, HWA.out, r3⟩)
    have HFF := Lib.hid (show stpL ⟨cA, cn, cc, free, iA, en, ic, cl, ins⟩ p ws l = natI (wRun ⟨cA, cn, cc, free, iA, en, ic, cl, ins⟩ p ws l l.length).st by unfold stpL; rw [if_pos (h1.trans e1)])
    have HE0 := Lib.hid e1
    rw [h1]
    clear e1 h1 r1 r2 r3 r4
    go_enter Tryz.func9, Tryz.ntmps9
    go_wp2_with (first
      | (refine wpl_load_all Tryz.tfT rfl _ rfl _ rfl _ _ HT.out rfl ?_)
      | fail)
    refine (checkWatch_any lo cA iA cn cc en ic free cl ins P pn pc p L ln lc l WA wn wc ws _ (HTF.out.grown HG.out (fun g e => by cases e)) (HPY.out.grown HG.out (fun g e => by cases e)) (HWA.out.grown HG.out (fun g e => by cases e)) (HRC.out.grown HG.out (fun g e => by cases e)) hpn hwn hln).mono ?_
    rintro e w2 ⟨rfl, hg2⟩
    rw [H1.out]
    have HT2 := Lib.hid (HT.out.grown hg2 (by simp))
    have HG2 := Lib.hid (gr_none HG.out hg2); clear hg2
    go_wp2_with (first
      | (refine wpl_load_all Tryz.tfT rfl _ rfl _ rfl _ _ HT2.out rfl ?_)
      | fail)
    refine (watch_any lo cA iA cn cc en ic free cl ins P pn pc p L ln lc l WA wn wc ws _ (HOK.out.grown HG2.out) hpn).mono ?_
    rintro e w3 ⟨BA, bn, bc, SA, sn, sc, rfl, hob, hos, hg3⟩
    have HB := Lib.hid (hob.lower HG2.out.size); have HS := Lib.hid (hos.lower HG2.out.size); have HG3 := Lib.hid (gr_none HG2.out hg3)
    clear hob hos hg3
    go_wp2_with fail
    go_ret2
    exact ⟨_, _, _, by rw [← HE0.out]; rfl, by rw [HFF.out]; exact HS.out, HG3.out⟩
  · have d1 : (E1 != 0) = true := by simpa using e1
    have HFF := Lib.hid (show stpL ⟨cA, cn, cc, free, iA, en, ic, cl, ins⟩ p ws l = [] by unfold stpL; rw [if_neg (by rw [h1]; exact e1)])
    rw [h1]
    clear e1 h1
    go_enter Tryz.func9, Tryz.ntmps9
    go_wp2_with (first
      | (refine wpl_load_all Tryz.tfT rfl _ rfl _ rfl _ _ HT.out rfl ?_)
      | fail)
    refine (checkWatch_any lo cA iA cn cc en ic free cl ins P pn pc p L ln lc l WA wn wc ws _ (HTF.out.grown HG.out (fun g e => by cases e)) (HPY.out.grown HG.out (fun g e => by cases e)) (HWA.out.grown HG.out (fun g e => by cases e)) (HRC.out.grown HG.out (fun g e => by cases e)) hpn hwn hln).mono ?_
    rintro e w2 ⟨rfl, hg2⟩
    rw [H1.out]
    have HT2 := Lib.hid (HT.out.grown hg2 (by simp))
    have HG2 := Lib.hid (gr_none HG.out hg2); clear hg2
    go_wp2_with (first
      | (refine wpl_load_all Tryz.tfT rfl _ rfl _ rfl _ _ HT2.out rfl ?_)
      | fail)
    go_ret2
    exact ⟨none, 0, 0, rfl, by rw [HFF.out]; exact OwnR.nil _ _ _, HG2.out⟩
end
end Go.Proofs.YtfakdalpaopjaaaGreatDoor
/- A plan of three contexts without rules is right; the chain from le is le alone; who is stopped has a block; in plain Lean. Conditions: none. -/
namespace Go.Proofs.YtfakdalpaopjaaaGreatDoor
section
open Go.RowKit

section
variable {l : List CxV}
theorem ix_cb {a b c : CxV} (ha : a.key = ckN 0) (hb : b.key = ckN 1) : cxIx [a, b, c] ⟨#[99, 98]⟩ = 1 := by
  unfold cxIx
  refine idxP_some (i := 1) (z := b) ?_ rfl ?_
  · show (!(nb a.key == nb ⟨#[99, 98]⟩) && true) = true
    rw [ha]; decide +kernel
  · show (nb b.key == nb ⟨#[99, 98]⟩) = true
    rw [hb]; decide +kernel
theorem ix_cc {a b c : CxV} (ha : a.key = ckN 0) (hb : b.key = ckN 1) (hc : c.key = ckN 2) : cxIx [a, b, c] ⟨#[99, 99]⟩ = 2 := by
  unfold cxIx
  refine idxP_some (i := 2) (z := c) ?_ rfl ?_
  · show (!(nb a.key == nb ⟨#[99, 99]⟩) && (!(nb b.key == nb ⟨#[99, 99]⟩) && true)) = true
    rw [ha, hb]; decide +kernel
  · show (nb c.key == nb ⟨#[99, 99]⟩) = true
    rw [hc]; decide +kernel
/-- The includes of a context lie behind it. -/
theorem PlanR.up (h : PlanR l) {i j : Nat} (hj : j ∈ incIx l i) : i < j := by
  obtain ⟨a, b, c, rfl, ⟨ka, kb, kc⟩, _, _, _, qa, qb, qc⟩ := h
  have e1 := ix_cb (c := c) ka kb
  have e2 := ix_cc ka kb kc
  unfold incIx at hj
  match i with
  | 0 =>
    have hj2 : j ∈ a.incs.map fun s => (cxIx [a, b, c] s).toNat := hj
    rcases qa with q | q | q | q <;> rw [q] at hj2 <;> simp [e1, e2] at hj2 <;> omega
  | 1 =>
    have hj2 : j ∈ b.incs.map fun s => (cxIx [a, b, c] s).toNat := hj
    rcases qb with q | q <;> rw [q] at hj2 <;> simp [e2] at hj2 <;> omega
  | 2 =>
    have hj2 : j ∈ c.incs.map fun s => (cxIx [a, b, c] s).toNat := hj
    rw [qc] at hj2; simp at hj2
  | i + 3 => simp at hj
theorem PlanR.path (h : PlanR l) {i j : Nat} (hp : Path (incIx l) i j) : i < j := by
  induction hp with
  | one h1 => exact h.up h1
  | more h1 _ ih => have := h.up h1; omega
theorem PlanR.loops (h : PlanR l) : ¬ Loops l := fun ⟨i, _, hp⟩ => absurd (h.path hp) (by omega)
theorem PlanR.mis (h : PlanR l) : misB l = false := by
  obtain ⟨a, b, c, rfl, ⟨ka, kb, kc⟩, _, _, _, qa, qb, qc⟩ := h
  have e1 := ix_cb (c := c) ka kb
  have e2 := ix_cc ka kb kc
  have ha : misC [a, b, c] a = false := by
    unfold misC
    rcases qa with q | q | q | q <;> rw [q] <;> simp [e1, e2]
  have hb : misC [a, b, c] b = false := by
    unfold misC
    rcases qb with q | q <;> rw [q] <;> simp [e2]
  have hc : misC [a, b, c] c = false := by unfold misC; rw [qc]; rfl
  unfold misB
  rw [List.any_cons, List.any_cons, List.any_cons, List.any_nil, ha, hb, hc]; rfl
end
theorem inc_ok {l : List ByteArray} (h : QI0 l) (k : Nat) : incAt l k = 0 := by
  rcases h with rfl | rfl | rfl | rfl
  · rfl
  · match k with
    | 0 => decide +kernel
    | k + 1 => rfl
  · match k with
    | 0 => decide +kernel
    | 1 => decide +kernel
    | k + 2 => rfl
  · match k with
    | 0 => decide +kernel
    | 1 => decide +kernel
    | k + 2 => rfl
theorem inc_ok1 {l : List ByteArray} (h : QI1 l) (k : Nat) : incAt l k = 0 := by
  rcases h with rfl | rfl
  · rfl
  · match k with
    | 0 => decide +kernel
    | k + 1 => rfl
theorem cxE_ok {hs : List HrV} {c : CxV} (h1 : c.rn = 0) (h2 : c.en ≤ 2) (h3 : ∀ k, incAt c.incs k = 0) : cxE hs c = 0 := by
  unfold cxE
  rw [h1, if_neg (by omega), if_pos (show fstE (ruAt hs c.rules) 0 = 0 from rfl), if_neg (by omega)]
  exact fstE_nil _ fun k _ => h3 k
theorem PlanR.e {p : PlV} (h : PlanR p.ctxs) (hh : hrsE p.hours = 0) (hcn : p.cn = 3) (hen : ∀ a ∈ p.ctxs, a.rn ≤ 0 ∧ a.en ≤ 2) : plE p false = 0 := by
  have hm := h.mis
  unfold plE
  rw [if_pos hh, if_neg (by omega)]
  have h1 : fstE (cxAt p.hours p.ctxs) p.cn = 0 := by
    refine fstE_nil _ fun i hi => ?_
    rw [hcn] at hi
    generalize p.ctxs = l at h hen
    obtain ⟨a, b, c, rfl, ⟨ka, kb, kc⟩, ra, rb, rc, qa, qb, qc⟩ := h
    have o0 : keyOk (nb (ckN 0)) = true := by decide +kernel
    have o1 : keyOk (nb (ckN 1)) = true := by decide +kernel
    have o2 : keyOk (nb (ckN 2)) = true := by decide +kernel
    rcases (by omega : i = 0 ∨ i = 1 ∨ i = 2) with rfl | rfl | rfl
    · rw [cxAt_z (z := a) rfl (by rw [ka]; exact o0) (by omega)]
      exact cxE_ok ra.1 (hen a (by simp)).2 (inc_ok qa)
    · rw [cxAt_e (z := b) (b := a) rfl (by rw [kb]; exact o1) rfl (by rw [ka, kb]; decide +kernel)]
      exact cxE_ok rb.1 (hen b (by simp)).2 (inc_ok1 qb)
    · rw [cxAt_e (z := c) (b := b) rfl (by rw [kc]; exact o2) rfl (by rw [kb, kc]; decide +kernel)]
      exact cxE_ok rc.1 (hen c (by simp)).2 (inc_ok (.inl qc))
  rw [if_pos h1, hm]; rfl
/-- The chain from le. -/
theorem le_chain {p : PlV} {l : List FwV} (h1 : plE p false = 0) (h2 : fwE p.hours l = 0) (hl : ∀ f ∈ l, nb f.line ≠ nb ⟨#[108, 101]⟩) : chV p false l ⟨#[108, 101]⟩ 0 [] = ([⟨#[108, 101]⟩], 0) := by
  have hc : chP p false l = 0 := by rw [chP_yes h1]; exact h2
  have ha : chA ⟨#[108, 101]⟩ 0 [] = 0 := by decide +kernel
  have hn : nxF p.hours l 0 [] ⟨#[108, 101]⟩ = none := by
    unfold nxF
    rw [List.find?_eq_none.2 ?_]; rfl
    intro f hf e
    unfold nxP at e
    simp only [Bool.and_eq_true, beq_iff_eq] at e
    exact hl f hf (by first | exact e.1.1 | exact e.1 | exact e.1.1.1)
  unfold chV
  rw [if_pos hc, if_pos ha, chn_end hn]
/-- What is known of one that is stopped. -/
theorem stop_pay {t : TfV} {p : List PyV} {ws : List WaV} {l : List RcV} (hp : pysE p = 0) (hr : rcsE l = 0) {k : Nat} {i : Nat} (h : i ∈ (wRun t p ws l k).st) :
    ∃ r who, l[i]? = some r ∧ payAns p r.frm = some who ∧ payErr p r.frm = 0 ∧ ((wRun t p ws l k).bl.any fun b => b.pay.toList == who.toList) = true := by
  obtain ⟨r, y, h1, h2, b, h3, h4⟩ := stop_has k i h
  have hq := (rcs_right hr).2.1 r (mem_of_get h1)
  have hph : phOk (nb r.frm) = true := by have h := hq.2.1; rw [Bool.and_eq_true] at h; exact h.1
  refine ⟨r, y.key, h1, ?_, ?_, List.any_eq_true.2 ⟨b, h3, ?_⟩⟩
  · unfold payAns; rw [if_pos hp, hph, if_pos rfl, h2]; rfl
  · unfold payErr; rw [if_pos hp, hph, if_pos rfl]
  · rw [nb_inj h4]; simp
end
end Go.Proofs.YtfakdalpaopjaaaGreatDoor
/- slices.ContainsFunc at blocks with the law's closure; RightRecords gives right records. Conditions: none. -/
namespace Go.Proofs.YtfakdalpaopjaaaGreatDoor
section
open Go.RowKit

set_option maxHeartbeats 4000000 in
theorem tbClo_any (b : BlV) (kb : Nat) (who : ByteArray) (w : World) (hk : Blk w kb 9 #[.string who]) : Calls Tryz.prog 15 #[.agg #[.string b.pay, .int .i64 b.wch, .int .i64 b.frm, .int .i64 b.to_], .pointer (some ⟨kb, 0, none⟩)] w (RetV (.bool (b.pay.toList == who.toList)) w) := by
  obtain ⟨w1, hw1⟩ : ∃ v, w.alloc (.cells #[.string b.pay, .int .i64 b.wch, .int .i64 b.frm, .int .i64 b.to_] 58) = v := ⟨_, rfl⟩
  have HX := Lib.hid (show Blk w1 w.heap.size 58 #[.string b.pay, .int .i64 b.wch, .int .i64 b.frm, .int .i64 b.to_] by rw [← hw1]; exact Blk.new _ _ _)
  have HG := Lib.hid (show w.grownBy w1 none by rw [← hw1]; exact gr_alloc (gr_refl _ _) _)
  have HK := Lib.hid (hk.grown HG.out (by simp))
  have HW1 := Lib.hid hw1
  clear hw1 hk
  have k0 := HX.out.cell 0
  have k1 := HK.out.cell 0
  go_enter Tryz.func15, Tryz.ntmps15
  go_upto_region 1 with (fail)
  rw [HW1.out]
  go_wp2_with fail
  go_ret
  exact ⟨rfl, HG.out⟩
set_option maxHeartbeats 4000000 in
theorem tbIdx_any (lo : Nat) (A : Option Addr) (n c : Nat) (l : List BlV) (kb : Nat) (who : ByteArray) (w : World) (h : Recs BlV.row 4 w lo A n c l) (hn : n ≤ 1000000000000) (h_k : Blk w kb 9 #[.string who]) :
    Calls Tryz.prog 40 #[.slice A n c, .func (.func 15) #[] #[.pointer (some ⟨kb, 0, none⟩)]] w (RetV (.int .i64 (idxP (fun b : BlV => b.pay.toList == who.toList) l)) w) := by
  have H := Lib.hid h; have Hk := Lib.hid h_k; clear h h_k
  go_enter Tryz.func40, Tryz.ntmps40
  go_wp2_with fail
  go_loopw [5, 8] (fun _ t' wr => ∃ i : Nat, i ≤ n ∧ t' = .int .i64 i ∧ w.grownBy wr none ∧ (l.take i).all (fun x => !((fun b : BlV => b.pay.toList == who.toList) x)) = true) (fun _ t' _ => n - (intOf t').toNat)
  case atStart => exact ⟨0, Nat.zero_le _, rfl, gr_refl _ _, by simp⟩
  case round =>
    obtain ⟨i, hi, rfl, hg, ha⟩ := hrel
    have HA := Lib.hid ha; have HG := Lib.hid hg; clear ha hg
    by_cases hlt : i < n
    · obtain ⟨g, o, b, rfl, _, hgl, hz, hc⟩ := (H.out.grown HG.out (fun g e => by cases e)).get BlV.row_len hlt
      have HZ := Lib.hid hz; have HC := Lib.hid hc; clear hz hc
      obtain ⟨B, hB⟩ : ∃ B, (fun b : BlV => b.pay.toList == who.toList) b = B := ⟨_, rfl⟩
      have HE := Lib.hid hB; clear hB
      cases B
      all_goals
        go_wp2_with (first
          | (refine wpl_load_at Tryz.blT rfl _ rfl _ rfl [.string b.pay, .int .i64 b.wch, .int .i64 b.frm, .int .i64 b.to_] rfl (fun j u hu => by rw [add_mk]; exact HC.out j u hu) ?_)
          | (go_at_call 15; refine (tbClo_any b kb who _ (Hk.out.grown HG.out (by simp))).mono ?_; rintro e w2 ⟨rfl, hg2⟩; have he := HE.out; (try dsimp only at he); rw [he]; clear he; have HG2 := Lib.hid (gr_none HG.out hg2); clear hg2)
          | fail)
      · go_roundw
        case rel => exact ⟨i + 1, by omega, by go_num, HG2.out, allP_succ (p := (fun b : BlV => b.pay.toList == who.toList)) HA.out HZ.out HE.out⟩
        case measure => simp [intOf]; omega
      · go_ret
        exact ⟨by rw [idxP_some (p := (fun b : BlV => b.pay.toList == who.toList)) HA.out HZ.out HE.out]; rfl, HG2.out⟩
    · obtain rfl : i = n := by omega
      go_wp2_with fail
      go_ret
      have h := HA.out
      rw [List.take_of_length_le (by rw [H.out.len]; exact Nat.le_refl _)] at h
      exact ⟨by rw [idxP_none (p := (fun b : BlV => b.pay.toList == who.toList)) h]; rfl, HG.out⟩
set_option maxHeartbeats 4000000 in
theorem tbHas_any (lo : Nat) (A : Option Addr) (n c : Nat) (l : List BlV) (kb : Nat) (who : ByteArray) (w : World) (h : Recs BlV.row 4 w lo A n c l) (hn : n ≤ 1000000000000) (h_k : Blk w kb 9 #[.string who]) :
    Calls Tryz.prog 14 #[.slice A n c, .func (.func 15) #[] #[.pointer (some ⟨kb, 0, none⟩)]] w (RetV (.bool (l.any (fun b : BlV => b.pay.toList == who.toList))) w) := by
  have H := Lib.hid h; have Hk := Lib.hid h_k; clear h h_k
  have HI := Lib.hid (idxP_any (p := (fun b : BlV => b.pay.toList == who.toList)) (l := l))
  obtain ⟨I, hI⟩ : ∃ I, idxP (fun b : BlV => b.pay.toList == who.toList) l = I := ⟨_, rfl⟩
  rw [hI] at HI
  have HI2 := Lib.hid hI; clear hI
  go_enter Tryz.func14, Tryz.ntmps14
  go_wp2_with (first
    | (go_at_call 40; refine (tbIdx_any lo _ _ _ l kb who _ H.out hn Hk.out).mono ?_; rintro e w2 ⟨rfl, hg2⟩; rw [HI2.out]; have HG2 := Lib.hid hg2; clear hg2)
    | fail)
  go_ret
  exact ⟨by rw [← HI.out]; rfl, HG2.out⟩
set_option maxHeartbeats 8000000 in
theorem rightRecordsR_any (sb : Nat) (m : Int) (many : Nat) (w : World) (hs : Str w sb m) (hm : m ≤ 100000000) (hmany : many ≤ 14) :
    Calls Tryz.prog 7 #[.pointer (some ⟨sb, 0, none⟩), .int .i64 many] w (Drawn sb (m + 300 * many) (fun v w' => ∃ A n c l, v = .slice A n c ∧ Rcs w' w.heap.size A n c l ∧ n ≤ many ∧ rcsE l = 0) w) := by
  have hlt := hs.lt
  have HS0 := Lib.hid hs; clear hs
  go_enter Tryz.func7, Tryz.ntmps7
  go_wp2_with fail
  go_loopw [5, 6] (fun _ t wr => ∃ k : Nat, k ≤ 5 ∧ t = .int .i64 k ∧ Str wr sb (m + 60 * many * k) ∧ w.grownBy wr (some sb)) (fun _ t _ => 5 - (intOf t).toNat)
  case atStart => exact ⟨0, Nat.zero_le _, rfl, by simpa using HS0.out, gr_refl _ _⟩
  case round =>
    obtain ⟨k, hk, rfl, hs, hg⟩ := hrel
    have zr := hg.size
    have HS := Lib.hid hs; have HG := Lib.hid hg; clear hs hg
    obtain ⟨M, hM⟩ : ∃ M : Int, m + 60 * many * k = M := ⟨_, rfl⟩
    have hmk : (many : Int) * k ≤ 14 * 5 := Int.mul_le_mul (by omega) (by omega) (by omega) (by omega)
    have hmk0 : 0 ≤ (many : Int) * k := Int.mul_nonneg (by omega) (by omega)
    have hMe : M = m + 60 * (many * k) := by rw [← hM, Int.mul_assoc]
    rw [hM] at HS
    by_cases hlt2 : k < 5
    · have hM2 : M + 60 * many = m + 60 * many * ((k + 1 : Nat) : Int) := by
        rw [hMe, show ((k + 1 : Nat) : Int) = (k : Int) + 1 by omega, Int.mul_add, Int.mul_one, Int.mul_assoc]; omega
      have hmk5 : (many : Int) * k + many ≤ 5 * many := by
        have : (many : Int) * k ≤ many * 4 := Int.mul_le_mul (by omega) (by omega) (by omega) (by omega)
        omega
      go_wp2_with fail
      refine (records_any sb _ many _ HS.out (by omega) hmany).mono ?_
      rintro e w1 ⟨v1, rfl, ⟨A, n, c, l, rfl, hrc, hn⟩, hs1, hg1⟩
      replace HS := Lib.hid hs1
      have HR := Lib.hid hrc
      replace HG := Lib.hid (gr_same (a := w) HG.out hg1)
      obtain ⟨E, hE⟩ : ∃ E, rcsE l = E := ⟨_, rfl⟩
      have HE := Lib.hid hE
      clear hs1 hrc hg1 hE
      go_wp2_with fail
      refine (recordsFault_any _ A n c l _ HR.out (by omega)).mono ?_
      rintro e w2 ⟨rfl, hg2⟩
      rw [HE.out]
      replace HS := Lib.hid (HS.out.grown hg2 (fun g e => by cases e))
      replace HR := Lib.hid (HR.out.grown hg2 (fun g e => by cases e))
      replace HG := Lib.hid (gr_none HG.out hg2)
      clear hg2
      by_cases hz : E = 0
      · have dz : (E == 0) = true := by simpa using hz
        have hrg := HE.out.trans hz
        have HRG := Lib.hid hrg
        clear hz hrg
        go_wp2_with fail
        go_ret
        exact ⟨_, rfl, ⟨A, n, c, l, rfl, ⟨HR.out.1.lower zr, HR.out.2⟩, hn, HRG.out⟩, HS.out.mono (by omega), HG.out⟩
      · have dz : (E == 0) = false := by simpa using hz
        go_wp2_with fail
        go_roundw
        case rel => exact ⟨k + 1, by omega, by go_num, HS.out.mono (by omega), HG.out⟩
        case measure => simp [intOf]; omega
    · obtain rfl : k = 5 := by omega
      go_wp2_with fail
      go_ret
      exact ⟨_, rfl, ⟨none, 0, 0, [], rfl, ⟨(OwnR.nil (row := RcV.row) (k := 8) wr w.heap.size 0).recs, fun z hz => by cases hz⟩, by omega, by decide +kernel⟩, HS.out.mono (by omega), HG.out⟩
end
end Go.Proofs.YtfakdalpaopjaaaGreatDoor

/- Contracts of checkUse, checkMonth, Charges, Unpaid. Conditions: none. -/
import Derived.Test.YtpildcnoghojpaaGreatDoorRc5
namespace Go.Proofs.YtpildcnoghojpaaGreatDoor
open Go.RowKit

def useE (t : TfV) (p : List PyV) (l : List RcV) : Int := if tarE t = 0 then (if pysE p = 0 then rcsE l else pysE p) else tarE t
def monE (t : TfV) (p : List PyV) (l : List RcV) (month : Int) : Int := if useE t p l = 0 then (if inB month 0 132 then 0 else 1) else useE t p l
theorem use_right {t : TfV} {p : List PyV} {l : List RcV} (h : useE t p l = 0) : tarE t = 0 ∧ pysE p = 0 ∧ rcsE l = 0 := by
  unfold useE at h
  by_cases h1 : tarE t = 0
  · rw [if_pos h1] at h
    by_cases h2 : pysE p = 0
    · rw [if_pos h2] at h; exact ⟨h1, h2, h⟩
    · rw [if_neg h2] at h; exact absurd h h2
  · rw [if_neg h1] at h; exact absurd h h1
theorem mon_right {t : TfV} {p : List PyV} {l : List RcV} {month : Int} (h : monE t p l month = 0) : useE t p l = 0 ∧ inB month 0 132 = true := by
  unfold monE at h
  by_cases h1 : useE t p l = 0
  · rw [if_pos h1] at h
    cases h2 : inB month 0 132
    · rw [h2] at h; exact absurd h (by decide)
    · exact ⟨h1, rfl⟩
  · rw [if_neg h1] at h; exact absurd h h1
theorem tar_free {t : TfV} (h : tarE t = 0) : 0 ≤ t.free ∧ t.free ≤ 2592000000 := by
  unfold tarE at h
  split at h
  · exact absurd h (by decide)
  · split at h
    · cases hf : inB t.free 0 2592000000
      · rw [hf] at h; simp at h
      · unfold inB at hf; simpa using hf
    · rename_i h2; exact absurd h h2
set_option maxHeartbeats 4000000 in
theorem checkUse_any (lo : Nat) (cA iA : Option Addr) (cn cc en ic : Nat) (free : Int) (cl : List ClV) (ins : List ByteArray) (P : Option Addr) (pn pc : Nat) (p : List PyV) (L : Option Addr) (ln lc : Nat) (l : List RcV) (w : World) (htf : TfOk w lo ⟨cA, cn, cc, free, iA, en, ic, cl, ins⟩) (hpy : Pys w lo P pn pc p) (hrc : Rcs w lo L ln lc l) (hpn : pn ≤ 1000) (hln : ln ≤ 1000000000) :
    Calls Tryz.prog 45 #[.agg #[.slice cA cn cc, .int .i64 free, .slice iA en ic], .slice P pn pc, .slice L ln lc] w (RetV (.int .i64 (useE ⟨cA, cn, cc, free, iA, en, ic, cl, ins⟩ p l)) w) := by
  have HTF := Lib.hid htf; have HPY := Lib.hid hpy; have HRC := Lib.hid hrc
  clear htf hpy hrc
  obtain ⟨E1, h1⟩ : ∃ E, tarE ⟨cA, cn, cc, free, iA, en, ic, cl, ins⟩ = E := ⟨_, rfl⟩
  obtain ⟨E2, h2⟩ : ∃ E, pysE p = E := ⟨_, rfl⟩
  have HF := Lib.hid (show useE ⟨cA, cn, cc, free, iA, en, ic, cl, ins⟩ p l = if E1 = 0 then (if E2 = 0 then rcsE l else E2) else E1 by unfold useE; rw [h1, h2])
  have H1 := Lib.hid h1; have H2 := Lib.hid h2
  clear h1 h2
  have HT := Lib.hid (Blk.new w 51 #[.slice cA cn cc, .int .i64 free, .slice iA en ic])
  have HG := Lib.hid (gr_alloc (gr_refl w none) (.cells #[.slice cA cn cc, .int .i64 free, .slice iA en ic] 51))
  by_cases e1 : E1 = 0
  · have d1 : (E1 != 0) = false := by simpa using e1
    by_cases e2 : E2 = 0
    · have d2 : (E2 != 0) = false := by simpa using e2
      have HFF := Lib.hid (show useE ⟨cA, cn, cc, free, iA, en, ic, cl, ins⟩ p l = rcsE l by rw [HF.out, if_pos e1, if_pos e2])
      clear e1 e2
      go_enter Tryz.func45, Tryz.ntmps45
      go_wp2_with (first
        | (refine wpl_load_all Tryz.tfT rfl _ rfl _ rfl _ _ HT.out rfl ?_)
        | fail)
      refine (checkTariff_any lo ⟨cA, cn, cc, free, iA, en, ic, cl, ins⟩ _ (HTF.out.grown HG.out (fun g e => by cases e))).mono ?_
      rintro e w2 ⟨rfl, hg2⟩
      rw [H1.out]
      have HG2 := Lib.hid (gr_none HG.out hg2); clear hg2
      go_wp2_with fail
      refine (checkPayers_any lo _ _ _ p _ (HPY.out.grown HG2.out (fun g e => by cases e)) (by omega)).mono ?_
      rintro e w3 ⟨rfl, hg3⟩
      rw [H2.out]
      have HG3 := Lib.hid (gr_none HG2.out hg3); clear hg3
      go_wp2_with fail
      refine (checkRecords_any lo _ _ _ l _ (HRC.out.grown HG3.out (fun g e => by cases e)) (by omega)).mono ?_
      rintro e w4 ⟨rfl, hg4⟩
      have HG4 := Lib.hid (gr_none HG3.out hg4); clear hg4
      go_wp2_with fail
      go_ret
      exact ⟨by rw [HFF.out]; rfl, HG4.out⟩
    · have d2 : (E2 != 0) = true := by simpa using e2
      have HFF := Lib.hid (show useE ⟨cA, cn, cc, free, iA, en, ic, cl, ins⟩ p l = E2 by rw [HF.out, if_pos e1, if_neg e2])
      clear e1 e2
      go_enter Tryz.func45, Tryz.ntmps45
      go_wp2_with (first
        | (refine wpl_load_all Tryz.tfT rfl _ rfl _ rfl _ _ HT.out rfl ?_)
        | fail)
      refine (checkTariff_any lo ⟨cA, cn, cc, free, iA, en, ic, cl, ins⟩ _ (HTF.out.grown HG.out (fun g e => by cases e))).mono ?_
      rintro e w2 ⟨rfl, hg2⟩
      rw [H1.out]
      have HG2 := Lib.hid (gr_none HG.out hg2); clear hg2
      go_wp2_with fail
      refine (checkPayers_any lo _ _ _ p _ (HPY.out.grown HG2.out (fun g e => by cases e)) (by omega)).mono ?_
      rintro e w3 ⟨rfl, hg3⟩
      rw [H2.out]
      have HG3 := Lib.hid (gr_none HG2.out hg3); clear hg3
      go_wp2_with fail
      go_ret
      exact ⟨by rw [HFF.out]; rfl, HG3.out⟩
  · have d1 : (E1 != 0) = true := by simpa using e1
    have HFF := Lib.hid (show useE ⟨cA, cn, cc, free, iA, en, ic, cl, ins⟩ p l = E1 by rw [HF.out, if_neg e1])
    clear e1
    go_enter Tryz.func45, Tryz.ntmps45
    go_wp2_with (first
      | (refine wpl_load_all Tryz.tfT rfl _ rfl _ rfl _ _ HT.out rfl ?_)
      | fail)
    refine (checkTariff_any lo ⟨cA, cn, cc, free, iA, en, ic, cl, ins⟩ _ (HTF.out.grown HG.out (fun g e => by cases e))).mono ?_
    rintro e w2 ⟨rfl, hg2⟩
    rw [H1.out]
    have HG2 := Lib.hid (gr_none HG.out hg2); clear hg2
    go_wp2_with fail
    go_ret
    exact ⟨by rw [HFF.out]; rfl, HG2.out⟩
set_option maxHeartbeats 4000000 in
theorem checkMonth_any (lo : Nat) (cA iA : Option Addr) (cn cc en ic : Nat) (free : Int) (cl : List ClV) (ins : List ByteArray) (P : Option Addr) (pn pc : Nat) (p : List PyV) (L : Option Addr) (ln lc : Nat) (l : List RcV) (month : Int) (w : World) (htf : TfOk w lo ⟨cA, cn, cc, free, iA, en, ic, cl, ins⟩) (hpy : Pys w lo P pn pc p) (hrc : Rcs w lo L ln lc l) (hpn : pn ≤ 1000) (hln : ln ≤ 1000000000) :
    Calls Tryz.prog 23 #[.agg #[.slice cA cn cc, .int .i64 free, .slice iA en ic], .slice P pn pc, .slice L ln lc, .int .i64 month] w (RetV (.int .i64 (monE ⟨cA, cn, cc, free, iA, en, ic, cl, ins⟩ p l month)) w) := by
  have HTF := Lib.hid htf; have HPY := Lib.hid hpy; have HRC := Lib.hid hrc
  clear htf hpy hrc
  obtain ⟨E1, h1⟩ : ∃ E, useE ⟨cA, cn, cc, free, iA, en, ic, cl, ins⟩ p l = E := ⟨_, rfl⟩
  obtain ⟨M, hM⟩ : ∃ M, inB month 0 132 = M := ⟨_, rfl⟩
  have HF := Lib.hid (show monE ⟨cA, cn, cc, free, iA, en, ic, cl, ins⟩ p l month = if E1 = 0 then (if M then 0 else 1) else E1 by unfold monE; rw [h1, hM])
  have H1 := Lib.hid h1; have HM := Lib.hid hM
  clear h1 hM
  have HT := Lib.hid (Blk.new w 51 #[.slice cA cn cc, .int .i64 free, .slice iA en ic])
  have HG := Lib.hid (gr_alloc (gr_refl w none) (.cells #[.slice cA cn cc, .int .i64 free, .slice iA en ic] 51))
  by_cases e1 : E1 = 0
  · have d1 : (E1 != 0) = false := by simpa using e1
    cases M
    · have HFF := Lib.hid (show monE ⟨cA, cn, cc, free, iA, en, ic, cl, ins⟩ p l month = 1 by rw [HF.out, if_pos e1]; rfl)
      clear e1
      go_enter Tryz.func23, Tryz.ntmps23
      go_wp2_with (first
        | (refine wpl_load_all Tryz.tfT rfl _ rfl _ rfl _ _ HT.out rfl ?_)
        | fail)
      refine (checkUse_any lo cA iA cn cc en ic free cl ins P pn pc p L ln lc l _ (HTF.out.grown HG.out (fun g e => by cases e)) (HPY.out.grown HG.out (fun g e => by cases e)) (HRC.out.grown HG.out (fun g e => by cases e)) hpn hln).mono ?_
      rintro e w2 ⟨rfl, hg2⟩
      rw [H1.out]
      have HG2 := Lib.hid (gr_none HG.out hg2); clear hg2
      go_wp2_with (first
        | (go_at_call 46; refine (withinA_any _ _ _ _).mono ?_; rintro e w1 ⟨rfl, rfl⟩; rw [HM.out])
        | fail)
      go_ret
      exact ⟨by rw [HFF.out]; rfl, HG2.out⟩
    · have HFF := Lib.hid (show monE ⟨cA, cn, cc, free, iA, en, ic, cl, ins⟩ p l month = 0 by rw [HF.out, if_pos e1]; rfl)
      clear e1
      go_enter Tryz.func23, Tryz.ntmps23
      go_wp2_with (first
        | (refine wpl_load_all Tryz.tfT rfl _ rfl _ rfl _ _ HT.out rfl ?_)
        | fail)
      refine (checkUse_any lo cA iA cn cc en ic free cl ins P pn pc p L ln lc l _ (HTF.out.grown HG.out (fun g e => by cases e)) (HPY.out.grown HG.out (fun g e => by cases e)) (HRC.out.grown HG.out (fun g e => by cases e)) hpn hln).mono ?_
      rintro e w2 ⟨rfl, hg2⟩
      rw [H1.out]
      have HG2 := Lib.hid (gr_none HG.out hg2); clear hg2
      go_wp2_with (first
        | (go_at_call 46; refine (withinA_any _ _ _ _).mono ?_; rintro e w1 ⟨rfl, rfl⟩; rw [HM.out])
        | fail)
      go_ret
      exact ⟨by rw [HFF.out]; rfl, HG2.out⟩
  · have d1 : (E1 != 0) = true := by simpa using e1
    have HFF := Lib.hid (show monE ⟨cA, cn, cc, free, iA, en, ic, cl, ins⟩ p l month = E1 by rw [HF.out, if_neg e1])
    clear e1
    go_enter Tryz.func23, Tryz.ntmps23
    go_wp2_with (first
      | (refine wpl_load_all Tryz.tfT rfl _ rfl _ rfl _ _ HT.out rfl ?_)
      | fail)
    refine (checkUse_any lo cA iA cn cc en ic free cl ins P pn pc p L ln lc l _ (HTF.out.grown HG.out (fun g e => by cases e)) (HPY.out.grown HG.out (fun g e => by cases e)) (HRC.out.grown HG.out (fun g e => by cases e)) hpn hln).mono ?_
    rintro e w2 ⟨rfl, hg2⟩
    rw [H1.out]
    have HG2 := Lib.hid (gr_none HG.out hg2); clear hg2
    go_wp2_with (first
      | (go_at_call 46; refine (withinA_any _ _ _ _).mono ?_; rintro e w1 ⟨rfl, rfl⟩; rw [HM.out])
      | fail)
    go_ret
    exact ⟨by rw [HFF.out]; rfl, HG2.out⟩
theorem Tryz.chsT : ElemT Tryz.prog 58 62 5 64 (.agg #[.string ⟨#[]⟩, .string ⟨#[]⟩, .string ⟨#[]⟩, .int .i64 0, .int .i64 0]) := elemT_of Tryz.underlying58 (by kernel_rfl) rfl (by decide)
theorem Tryz.cgS : StructT Tryz.prog 91 13 := ⟨_, Tryz.underlying91, rfl, by kernel_rfl⟩
/-- A slice of its own and an error. -/
def SlErr {α : Type} (row : α → List Value) (k : Nat) (t : TypeId) (l : List α) (E : Int) (w : World) (e : Ending) (w' : World) : Prop := ∃ A n c, e = .returned (.tuple #[.slice A n c, .int .i64 E]) ∧ OwnR row k w' w.heap.size t A n c l ∧ w.grownBy w' none
def chgL (t : TfV) (p : List PyV) (l : List RcV) (month : Int) : List ChV := if monE t p l month = 0 then (chgAll t p month l).map (·.1) else []
theorem head5 {a b c d e : Value} {r : List Value} : ∀ (j : Nat) (u : Value), [a, b, c, d, e][j]? = some u → (a :: b :: c :: d :: e :: r)[j]? = some u
  | 0, _, h | 1, _, h | 2, _, h | 3, _, h | 4, _, h => h
  | j + 5, u, h => by simp at h
set_option maxHeartbeats 8000000 in
set_option maxRecDepth 100000 in
theorem Charges_any (lo : Nat) (cA iA : Option Addr) (cn cc en ic : Nat) (free : Int) (cl : List ClV) (ins : List ByteArray) (P : Option Addr) (pn pc : Nat) (p : List PyV) (L : Option Addr) (ln lc : Nat) (l : List RcV) (month : Int) (w : World) (htf : TfOk w lo ⟨cA, cn, cc, free, iA, en, ic, cl, ins⟩) (hpy : Pys w lo P pn pc p) (hrc : Rcs w lo L ln lc l) (hpn : pn ≤ 1000) (hln : ln ≤ 1000000000) :
    Calls Tryz.prog 11 #[.agg #[.slice cA cn cc, .int .i64 free, .slice iA en ic], .slice P pn pc, .slice L ln lc, .int .i64 month] w (SlErr ChV.row 5 62 (chgL ⟨cA, cn, cc, free, iA, en, ic, cl, ins⟩ p l month) (monE ⟨cA, cn, cc, free, iA, en, ic, cl, ins⟩ p l month) w) := by
  have HTF := Lib.hid htf; have HPY := Lib.hid hpy; have HRC := Lib.hid hrc
  clear htf hpy hrc
  obtain ⟨E1, h1⟩ : ∃ E, monE ⟨cA, cn, cc, free, iA, en, ic, cl, ins⟩ p l month = E := ⟨_, rfl⟩
  have H1 := Lib.hid h1
  have HT := Lib.hid (Blk.new w 51 #[.slice cA cn cc, .int .i64 free, .slice iA en ic])
  have HG := Lib.hid (gr_alloc (gr_refl w none) (.cells #[.slice cA cn cc, .int .i64 free, .slice iA en ic] 51))
  by_cases e1 : E1 = 0
  · have d1 : (E1 != 0) = false := by simpa using e1
    obtain ⟨hu, -⟩ := mon_right (h1.trans e1)
    obtain ⟨r1, r2, r3⟩ := use_right hu
    have HUSE := Lib.hid (show UseOk w lo ⟨cA, cn, cc, free, iA, en, ic, cl, ins⟩ P pn pc p L ln lc l from ⟨HTF.out, HPY.out, HRC.out, r1, r2, r3⟩)
    have HFR := Lib.hid (tar_free r1)
    have HLL := Lib.hid (show ln ≤ 3000 by rw [← HRC.out.1.len]; exact (rcs_right r3).1)
    have HFF := Lib.hid (show chgL ⟨cA, cn, cc, free, iA, en, ic, cl, ins⟩ p l month = (chgAll ⟨cA, cn, cc, free, iA, en, ic, cl, ins⟩ p month l).map (·.1) by unfold chgL; rw [if_pos (h1.trans e1)])
    have HE0 := Lib.hid e1
    rw [h1]
    clear e1 h1 hu r1 r2 r3
    go_enter Tryz.func11, Tryz.ntmps11
    go_wp2_with (first
      | (refine wpl_load_all Tryz.tfT rfl _ rfl _ rfl _ _ HT.out rfl ?_)
      | fail)
    refine (checkMonth_any lo cA iA cn cc en ic free cl ins P pn pc p L ln lc l month _ (HTF.out.grown HG.out (fun g e => by cases e)) (HPY.out.grown HG.out (fun g e => by cases e)) (HRC.out.grown HG.out (fun g e => by cases e)) hpn hln).mono ?_
    rintro e w2 ⟨rfl, hg2⟩
    rw [H1.out]
    have HT2 := Lib.hid (HT.out.grown hg2 (by simp))
    have HG2 := Lib.hid (gr_none HG.out hg2); clear hg2
    go_wp2_with (first
      | (refine wpl_load_all Tryz.tfT rfl _ rfl _ rfl _ _ HT2.out rfl ?_)
      | fail)
    refine (charges_any lo cA iA cn cc en ic free cl ins P pn pc p L ln lc l month _ (HUSE.out.grown HG2.out) hpn HFR.out).mono ?_
    rintro e w3 ⟨B, bn, bc, rfl, hown, hg3⟩
    have hlen : bn ≤ 3000 := by rw [← hown.2]; exact Nat.le_trans (chgTo_len _ _ _ _ _) (by rw [HRC.out.1.len]; exact HLL.out)
    have HB := Lib.hid hown.recs
    have HG3 := Lib.hid (gr_none HG2.out hg3)
    clear hown hg3
    go_wp2_with fail
    go_loopw [11, 13, 28] (fun out _ t wr => ∃ (k c : Nat) (A : Option Addr), k ≤ bn ∧ t = .int .i64 k ∧ out = .slice A k c ∧ w3.grownBy wr none ∧ OwnR ChV.row 5 wr w3.heap.size 62 A k c (((chgAll ⟨cA, cn, cc, free, iA, en, ic, cl, ins⟩ p month l).take k).map (·.1))) (fun _ _ t _ => bn - (intOf t).toNat)
    case atStart => exact ⟨0, 0, none, Nat.zero_le _, rfl, rfl, gr_refl _ _, OwnR.nil _ _ _⟩
    case round =>
      obtain ⟨k, c, A, hk, rfl, rfl, hg, hown⟩ := hrel
      have zr := hg.size
      have HO := Lib.hid hown; have HGr := Lib.hid hg; clear hg hown
      by_cases hlt : k < bn
      · obtain ⟨g, o, ⟨⟨id, key, name, fr, cost⟩, ⟨rid, frm, too, at_, ring, talk, how, car⟩⟩, rfl, _, hgl, hz, hcc⟩ := (HB.out.grown HGr.out (fun g e => by cases e)).get cgRow_len hlt
        have HZ := Lib.hid hz; have HC := Lib.hid hcc; clear hz hcc
        obtain ⟨wa, hwa⟩ : ∃ wa, wr.alloc (.cells #[.string id, .string key, .string name, .int .i64 fr, .int .i64 cost, .string rid, .string frm, .string too, .int .i64 at_, .int .i64 ring, .int .i64 talk, .int .i64 how, .string car] 91) = wa := ⟨_, rfl⟩
        have HR := Lib.hid (show Blk wa wr.heap.size 91 #[.string id, .string key, .string name, .int .i64 fr, .int .i64 cost, .string rid, .string frm, .string too, .int .i64 at_, .int .i64 ring, .int .i64 talk, .int .i64 how, .string car] by rw [← hwa]; exact Blk.new _ _ _)
        have HGa := Lib.hid (show wr.grownBy wa none by rw [← hwa]; exact gr_alloc (gr_refl _ _) _)
        have HOa := Lib.hid (HO.out.kept HGa.out (fun g e => by cases e))
        have za := HGa.out.size
        have HWA := Lib.hid hwa; clear hwa
        go_upto_region 8 with (first
          | (refine wpl_load_at Tryz.cgS rfl _ rfl _ rfl [.string id, .string key, .string name, .int .i64 fr, .int .i64 cost, .string rid, .string frm, .string too, .int .i64 at_, .int .i64 ring, .int .i64 talk, .int .i64 how, .string car] rfl (fun j u hu => by rw [add_mk]; exact HC.out j u hu) ?_)
          | fail)
        rw [HWA.out]
        go_wp2_with (first
          | (refine wpl_load_at Tryz.chT rfl _ rfl _ rfl [.string id, .string key, .string name, .int .i64 fr, .int .i64 cost] rfl (fun j u hu => by rw [add_mk, Nat.zero_add, HR.out.cell j]; exact (by simpa using head5 j u hu)) ?_)
          | (at_builtin
             refine wpl_app _ rfl _ _ Tryz.chsT rfl w3.heap.size A k c _ rfl (by exact HOa.out.1.alloc _) _ _ 1 1 [.string id, .string key, .string name, .int .i64 fr, .int .i64 cost] rfl (by exact Reads.one _ _ _ _ rfl) (by simp [Value.oneCell']) (by unfold maxLen; omega) (by omega) (by simp; omega) ?_
             intro A5 c5 w5 h5
             have H5 := Lib.hid h5; clear h5)
          | fail)
        go_roundw
        case rel => exact ⟨k + 1, c5, A5, by omega, by go_num, rfl, H5.out.gr (gr_alloc (gr_none HGr.out HGa.out) _) (HOa.out.1.alloc _) (Nat.le_refl _), by rw [take_snoc' HZ.out, List.map_append]; exact (HOa.out.alloc _).app rfl H5.out⟩
        case measure => simp [intOf]; omega
      · obtain rfl : k = bn := by omega
        have HLB := Lib.hid HB.out.len
        go_wp2_with fail
        go_ret2
        refine ⟨A, k, c, by rw [← HE0.out]; rfl, ?_, gr_none HG3.out HGr.out⟩
        have h := HO.out
        rw [List.take_of_length_le (by rw [HLB.out]; exact Nat.le_refl _), ← HFF.out] at h
        exact h.lower (by have := HG3.out.size; omega)
  · have d1 : (E1 != 0) = true := by simpa using e1
    have HFF := Lib.hid (show chgL ⟨cA, cn, cc, free, iA, en, ic, cl, ins⟩ p l month = [] by unfold chgL; rw [if_neg (by rw [h1]; exact e1)])
    rw [h1]
    clear e1 h1
    go_enter Tryz.func11, Tryz.ntmps11
    go_wp2_with (first
      | (refine wpl_load_all Tryz.tfT rfl _ rfl _ rfl _ _ HT.out rfl ?_)
      | fail)
    refine (checkMonth_any lo cA iA cn cc en ic free cl ins P pn pc p L ln lc l month _ (HTF.out.grown HG.out (fun g e => by cases e)) (HPY.out.grown HG.out (fun g e => by cases e)) (HRC.out.grown HG.out (fun g e => by cases e)) hpn hln).mono ?_
    rintro e w2 ⟨rfl, hg2⟩
    rw [H1.out]
    have HT2 := Lib.hid (HT.out.grown hg2 (by simp))
    have HG2 := Lib.hid (gr_none HG.out hg2); clear hg2
    go_wp2_with (first
      | (refine wpl_load_all Tryz.tfT rfl _ rfl _ rfl _ _ HT2.out rfl ?_)
      | fail)
    go_ret2
    exact ⟨none, 0, 0, rfl, by rw [HFF.out]; exact OwnR.nil _ _ _, HG2.out⟩
end Go.Proofs.YtpildcnoghojpaaGreatDoor

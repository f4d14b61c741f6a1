/- Contracts of checkUse, checkMonth, Charges, Unpaid. Conditions: none. -/
import Derived.Test.YtlkibeckfpjccaaGreatDoorRc5
import Derived.Test.YtlkibeckfpjccaaGreatDoorRc4
import Derived.Test.YtlkibeckfpjccaaGreatDoorBun2
import Derived.Test.YtlkibeckfpjccaaGreatDoorGenRec
import Derived.Test.YtlkibeckfpjccaaGreatDoorGenTar
namespace Go.Proofs.YtlkibeckfpjccaaGreatDoor
section
open Go.RowKit

def useE (t : TfV) (p : List PyV) (l : List RcV) : Int := if tarE t = 0 then (if pysE p = 0 then rcsE l else pysE p) else tarE t
def monE (t : TfV) (p : List PyV) (l : List RcV) (month : Int) : Int := if useE t p l = 0 then (if inB month 0 132 then 0 else 1) else useE t p l
theorem use_right {t : TfV} {p : List PyV} {l : List RcV} (h : useE t p l = 0) : tarE t = 0 ∧ pysE p = 0 ∧ rcsE l = 0 := by
  unfold useE at h
  by_cases h1 : tarE t = 0
  · rw [if_pos h1] at h
    by_cases h2 : pysE p = 0
    · rw [if_pos h2] at h; exact ⟨h1, h2, h⟩
    · rw [if_neg h2] at h; exact absurd h h2
  · rw [if_neg h1] at h; exact absurd h h1
theorem mon_right {t : TfV} {p : List PyV} {l : List RcV} {month : Int} (h : monE t p l month = 0) : useE t p l = 0 ∧ inB month 0 132 = true := by
  unfold monE at h
  by_cases h1 : useE t p l = 0
  · rw [if_pos h1] at h
    cases h2 : inB month 0 132
    · rw [h2] at h; exact absurd h (by decide)
    · exact ⟨h1, rfl⟩
  · rw [if_neg h1] at h; exact absurd h h1
theorem tar_free {t : TfV} (h : tarE t = 0) : 0 ≤ t.free ∧ t.free ≤ 2592000000 := by
  unfold tarE at h
  split at h
  · exact absurd h (by decide)
  · split at h
    · cases hf : inB t.free 0 2592000000
      · rw [hf] at h; simp at h
      · unfold inB at hf; simpa using hf
    · rename_i h2; exact absurd h h2
set_option maxHeartbeats 4000000 in
theorem checkUse_any (lo : Nat) (cA iA : Option Addr) (cn cc en ic : Nat) (free : Int) (cl : List ClV) (ins : List ByteArray) (P : Option Addr) (pn pc : Nat) (p : List PyV) (L : Option Addr) (ln lc : Nat) (l : List RcV) (w : World) (htf : TfOk w lo ⟨cA, cn, cc, free, iA, en, ic, cl, ins⟩) (hpy : Pys w lo P pn pc p) (hrc : Rcs w lo L ln lc l) (hpn : pn ≤ 1000) (hln : ln ≤ 1000000000) :
    Calls Tryz.prog 60 #[.agg #[.slice cA cn cc, .int .i64 free, .slice iA en ic], .slice P pn pc, .slice L ln lc] w (RetV (.int .i64 (useE ⟨cA, cn, cc, free, iA, en, ic, cl, ins⟩ p l)) w) := by
  have HTF := Lib.hid htf; have HPY := Lib.hid hpy; have HRC := Lib.hid hrc
  clear htf hpy hrc
  obtain ⟨E1, h1⟩ : ∃ E, tarE ⟨cA, cn, cc, free, iA, en, ic, cl, ins⟩ = E := ⟨_, rfl⟩
  obtain ⟨E2, h2⟩ : ∃ E, pysE p = E := ⟨_, rfl⟩
  have HF := Lib.hid (show useE ⟨cA, cn, cc, free, iA, en, ic, cl, ins⟩ p l = if E1 = 0 then (if E2 = 0 then rcsE l else E2) else E1 by unfold useE; rw [h1, h2])
  have H1 := Lib.hid h1; have H2 := Lib.hid h2
  clear h1 h2
  have HT := Lib.hid (Blk.new w 29 #[.slice cA cn cc, .int .i64 free, .slice iA en ic])
  have HG := Lib.hid (gr_alloc (gr_refl w none) (.cells #[.slice cA cn cc, .int .i64 free, .slice iA en ic] 29))
  by_cases e1 : E1 = 0
  · have d1 : (E1 != 0) = false := by simpa using e1
    by_cases e2 : E2 = 0
    · have d2 : (E2 != 0) = false := by simpa using e2
      have HFF := Lib.hid (show useE ⟨cA, cn, cc, free, iA, en, ic, cl, ins⟩ p l = rcsE l by rw [HF.out, if_pos e1, if_pos e2])
      clear e1 e2
      go_enter Tryz.func60, Tryz.ntmps60
      go_wp2_with (first
        | (refine wpl_load_all Tryz.tfT rfl _ rfl _ rfl _ _ HT.out rfl ?_)
        | fail)
      refine (checkTariff_any lo ⟨cA, cn, cc, free, iA, en, ic, cl, ins⟩ _ (HTF.out.grown HG.out (fun g e => by cases e))).mono ?_
      rintro e w2 ⟨rfl, hg2⟩
      rw [H1.out]
      have HG2 := Lib.hid (gr_none HG.out hg2); clear hg2
      go_wp2_with fail
      refine (checkPayers_any lo _ _ _ p _ (HPY.out.grown HG2.out (fun g e => by cases e)) (by omega)).mono ?_
      rintro e w3 ⟨rfl, hg3⟩
      rw [H2.out]
      have HG3 := Lib.hid (gr_none HG2.out hg3); clear hg3
      go_wp2_with fail
      refine (checkRecords_any lo _ _ _ l _ (HRC.out.grown HG3.out (fun g e => by cases e)) (by omega)).mono ?_
      rintro e w4 ⟨rfl, hg4⟩
      have HG4 := Lib.hid (gr_none HG3.out hg4); clear hg4
      go_wp2_with fail
      go_ret
      exact ⟨by rw [HFF.out]; rfl, HG4.out⟩
    · have d2 : (E2 != 0) = true := by simpa using e2
      have HFF := Lib.hid (show useE ⟨cA, cn, cc, free, iA, en, ic, cl, ins⟩ p l = E2 by rw [HF.out, if_pos e1, if_neg e2])
      clear e1 e2
      go_enter Tryz.func60, Tryz.ntmps60
      go_wp2_with (first
        | (refine wpl_load_all Tryz.tfT rfl _ rfl _ rfl _ _ HT.out rfl ?_)
        | fail)
      refine (checkTariff_any lo ⟨cA, cn, cc, free, iA, en, ic, cl, ins⟩ _ (HTF.out.grown HG.out (fun g e => by cases e))).mono ?_
      rintro e w2 ⟨rfl, hg2⟩
      rw [H1.out]
      have HG2 := Lib.hid (gr_none HG.out hg2); clear hg2
      go_wp2_with fail
      refine (checkPayers_any lo _ _ _ p _ (HPY.out.grown HG2.out (fun g e => by cases e)) (by omega)).mono ?_
      rintro e w3 ⟨rfl, hg3⟩
      rw [H2.out]
      have HG3 := Lib.hid (gr_none HG2.out hg3); clear hg3
      go_wp2_with fail
      go_ret
      exact ⟨by rw [HFF.out]; rfl, HG3.out⟩
  · have d1 : (E1 != 0) = true := by simpa using e1
    have HFF := Lib.hid (show useE ⟨cA, cn, cc, free, iA, en, ic, cl, ins⟩ p l = E1 by rw [HF.out, if_neg e1])
    clear e1
    go_enter Tryz.func60, Tryz.ntmps60
    go_wp2_with (first
      | (refine wpl_load_all Tryz.tfT rfl _ rfl _ rfl _ _ HT.out rfl ?_)
      | fail)
    refine (checkTariff_any lo ⟨cA, cn, cc, free, iA, en, ic, cl, ins⟩ _ (HTF.out.grown HG.out (fun g e => by cases e))).mono ?_
    rintro e w2 ⟨rfl, hg2⟩
    rw [H1.out]
    have HG2 := Lib.hid (gr_none HG.out hg2); clear hg2
    go_wp2_with fail
    go_ret
    exact ⟨by rw [HFF.out]; rfl, HG2.out⟩
set_option maxHeartbeats 4000000 in
theorem checkMonth_any (lo : Nat) (cA iA : Option Addr) (cn cc en ic : Nat) (free : Int) (cl : List ClV) (ins : List ByteArray) (P : Option Addr) (pn pc : Nat) (p : List PyV) (L : Option Addr) (ln lc : Nat) (l : List RcV) (month : Int) (w : World) (htf : TfOk w lo ⟨cA, cn, cc, free, iA, en, ic, cl, ins⟩) (hpy : Pys w lo P pn pc p) (hrc : Rcs w lo L ln lc l) (hpn : pn ≤ 1000) (hln : ln ≤ 1000000000) :
    Calls Tryz.prog 27 #[.agg #[.slice cA cn cc, .int .i64 free, .slice iA en ic], .slice P pn pc, .slice L ln lc, .int .i64 month] w (RetV (.int .i64 (monE ⟨cA, cn, cc, free, iA, en, ic, cl, ins⟩ p l month)) w) := by
  have HTF := Lib.hid htf; have HPY := Lib.hid hpy; have HRC := Lib.hid hrc
  clear htf hpy hrc
  obtain ⟨E1, h1⟩ : ∃ E, useE ⟨cA, cn, cc, free, iA, en, ic, cl, ins⟩ p l = E := ⟨_, rfl⟩
  obtain ⟨M, hM⟩ : ∃ M, inB month 0 132 = M := ⟨_, rfl⟩
  have HF := Lib.hid (show monE ⟨cA, cn, cc, free, iA, en, ic, cl, ins⟩ p l month = if E1 = 0 then (if M then 0 else 1) else E1 by unfold monE; rw [h1, hM])
  have H1 := Lib.hid h1; have HM := Lib.hid hM
  clear h1 hM
  have HT := Lib.hid (Blk.new w 29 #[.slice cA cn cc, .int .i64 free, .slice iA en ic])
  have HG := Lib.hid (gr_alloc (gr_refl w none) (.cells #[.slice cA cn cc, .int .i64 free, .slice iA en ic] 29))
  by_cases e1 : E1 = 0
  · have d1 : (E1 != 0) = false := by simpa using e1
    cases M
    · have HFF := Lib.hid (show monE ⟨cA, cn, cc, free, iA, en, ic, cl, ins⟩ p l month = 1 by rw [HF.out, if_pos e1]; rfl)
      clear e1
      go_enter Tryz.func27, Tryz.ntmps27
      go_wp2_with (first
        | (refine wpl_load_all Tryz.tfT rfl _ rfl _ rfl _ _ HT.out rfl ?_)
        | fail)
      refine (checkUse_any lo cA iA cn cc en ic free cl ins P pn pc p L ln lc l _ (HTF.out.grown HG.out (fun g e => by cases e)) (HPY.out.grown HG.out (fun g e => by cases e)) (HRC.out.grown HG.out (fun g e => by cases e)) hpn hln).mono ?_
      rintro e w2 ⟨rfl, hg2⟩
      rw [H1.out]
      have HG2 := Lib.hid (gr_none HG.out hg2); clear hg2
      go_wp2_with (first
        | (go_at_call 30; refine (withinA_any _ _ _ _).mono ?_; rintro e w1 ⟨rfl, rfl⟩; rw [HM.out])
        | fail)
      go_ret
      exact ⟨by rw [HFF.out]; rfl, HG2.out⟩
    · have HFF := Lib.hid (show monE ⟨cA, cn, cc, free, iA, en, ic, cl, ins⟩ p l month = 0 by rw [HF.out, if_pos e1]; rfl)
      clear e1
      go_enter Tryz.func27, Tryz.ntmps27
      go_wp2_with (first
        | (refine wpl_load_all Tryz.tfT rfl _ rfl _ rfl _ _ HT.out rfl ?_)
        | fail)
      refine (checkUse_any lo cA iA cn cc en ic free cl ins P pn pc p L ln lc l _ (HTF.out.grown HG.out (fun g e => by cases e)) (HPY.out.grown HG.out (fun g e => by cases e)) (HRC.out.grown HG.out (fun g e => by cases e)) hpn hln).mono ?_
      rintro e w2 ⟨rfl, hg2⟩
      rw [H1.out]
      have HG2 := Lib.hid (gr_none HG.out hg2); clear hg2
      go_wp2_with (first
        | (go_at_call 30; refine (withinA_any _ _ _ _).mono ?_; rintro e w1 ⟨rfl, rfl⟩; rw [HM.out])
        | fail)
      go_ret
      exact ⟨by rw [HFF.out]; rfl, HG2.out⟩
  · have d1 : (E1 != 0) = true := by simpa using e1
    have HFF := Lib.hid (show monE ⟨cA, cn, cc, free, iA, en, ic, cl, ins⟩ p l month = E1 by rw [HF.out, if_neg e1])
    clear e1
    go_enter Tryz.func27, Tryz.ntmps27
    go_wp2_with (first
      | (refine wpl_load_all Tryz.tfT rfl _ rfl _ rfl _ _ HT.out rfl ?_)
      | fail)
    refine (checkUse_any lo cA iA cn cc en ic free cl ins P pn pc p L ln lc l _ (HTF.out.grown HG.out (fun g e => by cases e)) (HPY.out.grown HG.out (fun g e => by cases e)) (HRC.out.grown HG.out (fun g e => by cases e)) hpn hln).mono ?_
    rintro e w2 ⟨rfl, hg2⟩
    rw [H1.out]
    have HG2 := Lib.hid (gr_none HG.out hg2); clear hg2
    go_wp2_with (first
      | (go_at_call 30; refine (withinA_any _ _ _ _).mono ?_; rintro e w1 ⟨rfl, rfl⟩; rw [HM.out])
      | fail)
    go_ret
    exact ⟨by rw [HFF.out]; rfl, HG2.out⟩
theorem Tryz.chsT : ElemT Tryz.prog 87 67 5 64 (.agg #[.string ⟨#[]⟩, .string ⟨#[]⟩, .string ⟨#[]⟩, .int .i64 0, .int .i64 0]) := elemT_of Tryz.underlying87 (by kernel_rfl) rfl (by decide)
theorem Tryz.cgS : StructT Tryz.prog 71 13 := ⟨_, Tryz.underlying71, rfl, by kernel_rfl⟩
/-- A slice of its own and an error. -/
def SlErr {α : Type} (row : α → List Value) (k : Nat) (t : TypeId) (l : List α) (E : Int) (w : World) (e : Ending) (w' : World) : Prop := ∃ A n c, e = .returned (.tuple #[.slice A n c, .int .i64 E]) ∧ OwnR row k w' w.heap.size t A n c l ∧ w.grownBy w' none
def chgL (t : TfV) (p : List PyV) (l : List RcV) (month : Int) : List ChV := if monE t p l month = 0 then (chgAll t p month l).map (·.1) else []
theorem head5 {a b c d e : Value} {r : List Value} : ∀ (j : Nat) (u : Value), [a, b, c, d, e][j]? = some u → (a :: b :: c :: d :: e :: r)[j]? = some u
  | 0, _, h | 1, _, h | 2, _, h | 3, _, h | 4, _, h => h
  | j + 5, u, h => by simp at h
end
end Go.Proofs.YtlkibeckfpjccaaGreatDoor
/- Contract of books: a tariff, payers and records, with their error. Conditions: none. -/
namespace Go.Proofs.YtlkibeckfpjccaaGreatDoor
section
open Go.RowKit

theorem whenE_any (b : Bool) (e : Int) (w : World) : Calls Tryz.prog 10 #[.bool b, .int .i64 e] w (Same (.int .i64 (if b then e else 0)) w) := by
  cases b
  all_goals
    go_enter Tryz.func10, Tryz.ntmps10
    go_wp2_with fail
    go_ret
    exact ⟨rfl, rfl⟩
/-- Four results, the first one in memory. -/
theorem ret_cell_tmp3 {P : Program} {w : World} {fn : Func} {a : Act} {R : Ending → World → Prop} {ty : TypeId} {n : Nat} (T : StructT P ty n) {p q r s : Tmp} (hr : fn.results = #[.cell p ty, .tmp q, .tmp r, .tmp s]) (g : Nat) (t : TypeId) (cs : Array Value) (u v x : Value) (hp : a.tmps.getD p undef = .pointer (some ⟨g, 0, none⟩)) (hq : a.tmps.getD q undef = u) (hu : a.tmps.getD r undef = v) (hx : a.tmps.getD s undef = x) (hb : Blk w g t cs) (hn : cs.size = n)
    (hd : a.defers = []) (h : R (.returned (.tuple #[.agg cs, u, v, x])) w) : bodyPost P fn R .ret a w := by
  obtain ⟨d, h1, h2, h3⟩ := T
  refine bodyPost_ret (v := .tuple #[.agg cs, u, v, x]) ?_ hd h
  have hp' : a.tmps[p]?.getD undef = .pointer (some ⟨g, 0, none⟩) := by simpa using hp
  have hq' : a.tmps[q]?.getD undef = u := by simpa using hq
  have hu' : a.tmps[r]?.getD undef = v := by simpa using hu
  have hx' : a.tmps[s]?.getD undef = x := by simpa using hx
  simp [results, hr, hp', hq', hu', hx', asAddr, run_loadVar_row w g t ty cs (0, 0) d hb h1 (by cases d <;> first | rfl | (cases h2)) (by rw [hn]; exact h3)]
/-- Books: what lies in memory, and the first error of all. -/
def IsBooks (lo many : Nat) (v : Value) (w : World) : Prop := ∃ (cA iA : Option Addr) (cn cc en ic : Nat) (free : Int) (cl : List ClV) (ins : List ByteArray) (P : Option Addr) (pn pc : Nat) (p : List PyV) (L : Option Addr) (ln lc : Nat) (l : List RcV),
  v = .tuple #[.agg #[.slice cA cn cc, .int .i64 free, .slice iA en ic], .slice P pn pc, .slice L ln lc, .int .i64 (firstE [tarE ⟨cA, cn, cc, free, iA, en, ic, cl, ins⟩, pysE p, rcsE l])] ∧ TfOk w lo ⟨cA, cn, cc, free, iA, en, ic, cl, ins⟩ ∧ Pys w lo P pn pc p ∧ Rcs w lo L ln lc l ∧ pn ≤ 4 ∧ ln ≤ many
theorem use_first (t : TfV) (p : List PyV) (l : List RcV) : firstE [tarE t, pysE p, rcsE l] = useE t p l := by
  simp only [firstE_cons, firstE_nil]
  unfold useE
  by_cases h1 : tarE t = 0
  · rw [if_pos h1, if_pos h1]
    by_cases h2 : pysE p = 0
    · rw [if_pos h2, if_pos h2]
      by_cases h3 : rcsE l = 0
      · rw [if_pos h3, h3]
      · rw [if_neg h3]
    · rw [if_neg h2, if_neg h2]
  · rw [if_neg h1, if_neg h1]
set_option maxHeartbeats 8000000 in
set_option maxRecDepth 100000 in
theorem books_any (sb : Nat) (m : Int) (many : Nat) (w : World) (hs : Str w sb m) (hm : m ≤ 100000) (hmany : many ≤ 14) :
    Calls Tryz.prog 4 #[.pointer (some ⟨sb, 0, none⟩), .int .i64 many] w (Drawn sb (m + 260 + 60 * many) (IsBooks w.heap.size many) w) := by
  have hlt := hs.lt
  have HS0 := Lib.hid (hs.alloc (.cells #[.slice none 0 0, .int .i64 0, .slice none 0 0] 29))
  obtain ⟨w0, hw0⟩ : ∃ w0, w.alloc (.cells #[.slice none 0 0, .int .i64 0, .slice none 0 0] 29) = w0 := ⟨_, rfl⟩
  have HR0 := Lib.hid (show Blk w0 w.heap.size 29 #[.slice none 0 0, .int .i64 0, .slice none 0 0] by rw [← hw0]; exact Blk.new _ _ _)
  have HG0 := Lib.hid (show w.grownBy w0 (some sb) by rw [← hw0]; exact gr_alloc (gr_refl _ _) _)
  have z0 : w.heap.size + 1 ≤ w0.heap.size := by rw [← hw0]; simp
  rw [hw0] at HS0
  have HW0 := Lib.hid hw0
  clear hs hw0
  go_enter Tryz.func4, Tryz.ntmps4
  go_upto_region 1 with (fail)
  rw [HW0.out]
  go_wp2_with fail
  refine (tariff_any sb m _ HS0.out (by omega)).mono ?_
  rintro e w1 ⟨v1, rfl, ⟨⟨cA, cn, cc, free, iA, en, ic, cl, ins⟩, rfl, hgt, hcn, hen⟩, hs1, hg1⟩
  have HTF := Lib.hid hgt.ok
  have HR1 := Lib.hid (HR0.out.grown hg1 (by simp; omega))
  have HG1 := Lib.hid (gr_same HG0.out hg1)
  have z1 := hg1.size
  have HS1 := Lib.hid hs1
  clear hgt hs1 hg1
  go_wp2_with fail
  refine (payers_any sb _ _ HS1.out (by omega)).mono ?_
  rintro e w2 ⟨v2, rfl, ⟨P, pn, pc, p, rfl, hpy, hpn⟩, hs2, hg2⟩
  have HPY := Lib.hid hpy
  have HTF2 := Lib.hid (HTF.out.grown hg2 (fun g e => by injection e with e; omega))
  have HR2 := Lib.hid (HR1.out.grown hg2 (by simp; omega))
  have HG2 := Lib.hid (gr_same HG1.out hg2)
  have z2 := hg2.size
  have HS2 := Lib.hid hs2
  clear hpy hs2 hg2
  go_wp2_with fail
  refine (records_any sb _ many _ HS2.out (by omega) hmany).mono ?_
  rintro e w3 ⟨v3, rfl, ⟨L, ln, lc, l, rfl, hrc, hln⟩, hs3, hg3⟩
  have HRC := Lib.hid hrc
  have HPY3 := Lib.hid (HPY.out.grown hg3 (fun g e => by injection e with e; omega))
  have HTF3 := Lib.hid (HTF2.out.grown hg3 (fun g e => by injection e with e; omega))
  have HR3 := Lib.hid (HR2.out.grown hg3 (by simp; omega))
  have HG3 := Lib.hid (gr_same HG2.out hg3)
  have z3 := hg3.size
  have HS3 := Lib.hid hs3
  clear hrc hs3 hg3
  dsimp only at hcn hen ⊢
  go_upto_region 2 with (fail)
  obtain ⟨w4, hw4⟩ : ∃ w4, w3.alloc (.cells #[.slice cA cn cc, .int .i64 free, .slice iA en ic] 29) = w4 := ⟨_, rfl⟩
  rw [hw4]
  have HT := Lib.hid (show Blk w4 w3.heap.size 29 #[.slice cA cn cc, .int .i64 free, .slice iA en ic] by rw [← hw4]; exact Blk.new _ _ _)
  have hg34 : w3.grownBy w4 none := by rw [← hw4]; exact gr_alloc (gr_refl _ _) _
  have HPY4 := Lib.hid ((HPY3.out.grown hg34 (fun g e => by cases e)))
  have HTF4 := Lib.hid ((HTF3.out.grown hg34 (fun g e => by cases e)))
  have HRC4 := Lib.hid ((HRC.out.grown hg34 (fun g e => by cases e)))
  have HR4 := Lib.hid (HR3.out.grown hg34 (by simp))
  have HG4 := Lib.hid (gr_none HG3.out hg34)
  have HS4 := Lib.hid (show Str w4 sb _ by rw [← hw4]; exact HS3.out.alloc _)
  clear hw4 hg34
  obtain ⟨ET, hET⟩ : ∃ E, tarE ⟨cA, cn, cc, free, iA, en, ic, cl, ins⟩ = E := ⟨_, rfl⟩
  obtain ⟨EP, hEP⟩ : ∃ E, pysE p = E := ⟨_, rfl⟩
  obtain ⟨ER, hER⟩ : ∃ E, rcsE l = E := ⟨_, rfl⟩
  have HET := Lib.hid hET; have HEP := Lib.hid hEP; have HER := Lib.hid hER
  clear hET hEP hER
  go_wp2_with fail
  refine H_begin (fun w' => w4.grownBy w' (some w.heap.size)) (by kernel_rfl) ?_
  have hHeld : w4.grownBy w4.drew (some w.heap.size) := gr_drew (gr_refl _ _)
  refine H_take (k := 0) (v := .agg #[.slice cA cn cc, .int .i64 free, .slice iA en ic]) (by rfl) (by kernel_rfl) (by kernel_rfl) (by kernel_rfl) (by exact fun _ _ _ h => h) (by rfl) (fun w' hSw => exec_load_at Tryz.tfT _ rfl _ rfl [.slice cA cn cc, .int .i64 free, .slice iA en ic] rfl (fun j u hu => by rw [add_mk, Nat.zero_add]; exact ((HT.out.grown hSw (by simp; omega)).cell j).trans (by simpa using hu))) (by assumption) ?_
  (try simp only [Act.put, List.setIfInBounds_toArray, List.set_cons_zero, List.set_cons_succ])
  refine H_take (k := 1) (v := ?_) (by rfl) (by kernel_rfl) (by kernel_rfl) (by kernel_rfl) (by exact fun _ _ _ h => h) (by rfl) ?_ (by assumption) ?_
  rotate_left 1
  · intro w hSw
    (try dsimp only at hSw)
    go_simp
    (try with_reducible rfl)
  (try simp only [Act.put, List.setIfInBounds_toArray, List.set_cons_zero, List.set_cons_succ])
  refine H_take (k := 2) (v := ?_) (by rfl) (by kernel_rfl) (by kernel_rfl) (by kernel_rfl) (by exact fun _ _ _ h => h) (by rfl) ?_ (by assumption) ?_
  rotate_left 1
  · intro w hSw
    (try dsimp only at hSw)
    go_simp
    (try with_reducible rfl)
  (try simp only [Act.put, List.setIfInBounds_toArray, List.set_cons_zero, List.set_cons_succ])
  refine H_take (k := 3) (v := .agg #[.slice cA cn cc, .int .i64 free, .slice iA en ic]) (by rfl) (by kernel_rfl) (by kernel_rfl) (by kernel_rfl) (by exact fun _ _ _ h => h) (by rfl) (fun w' hSw => exec_load_at Tryz.tfT _ rfl _ rfl [.slice cA cn cc, .int .i64 free, .slice iA en ic] rfl (fun j u hu => by rw [add_mk, Nat.zero_add]; exact ((HT.out.grown hSw (by simp; omega)).cell j).trans (by simpa using hu))) (by assumption) ?_
  (try simp only [Act.put, List.setIfInBounds_toArray, List.set_cons_zero, List.set_cons_succ])
  refine H_take (k := 5) (v := ?_) (by rfl) (by kernel_rfl) (by kernel_rfl) (by kernel_rfl) (by exact fun _ _ _ h => h) (by rfl) ?_ (by assumption) ?_
  rotate_left 1
  · intro w hSw
    (try dsimp only at hSw)
    go_simp
    (try with_reducible rfl)
  (try simp only [Act.put, List.setIfInBounds_toArray, List.set_cons_zero, List.set_cons_succ])
  refine H_take (k := 7) (v := ?_) (by rfl) (by kernel_rfl) (by kernel_rfl) (by kernel_rfl) (by exact fun _ _ _ h => h) (by rfl) ?_ (by assumption) ?_
  rotate_left 1
  · intro w hSw
    (try dsimp only at hSw)
    go_simp
    (try with_reducible rfl)
  (try simp only [Act.put, List.setIfInBounds_toArray, List.set_cons_zero, List.set_cons_succ])
  refine H_run (k := 4) (by rfl) (by kernel_rfl) (by rfl) (fun K hK => ?_)
  go_simp
  refine (tariffFault_any _ ⟨cA, cn, cc, free, iA, en, ic, cl, ins⟩ _ (by exact HTF4.out.grown (gr_drew (gr_refl w4 none)) (fun g e => by cases e))).mono ?_
  rintro e w5 ⟨rfl, hg5⟩
  rw [HET.out]
  have HG5 := Lib.hid (gr_none (gr_drew (gr_refl w4 none)) hg5)
  clear hg5
  go_simp
  refine hK _ _ (gr_trans (gr_refl w4 (some w.heap.size)) HG5.out (fun g e => by cases e)) ?_
  clear hK K hHeld
  have hHeld : w4.grownBy w5 (some w.heap.size) := gr_trans (gr_refl w4 (some w.heap.size)) HG5.out (fun g e => by cases e)
  refine H_run (k := 6) (by rfl) (by kernel_rfl) (by rfl) (fun K hK => ?_)
  go_simp
  refine (payersFault_any _ _ _ _ p _ (by exact HPY4.out.grown HG5.out (fun g e => by cases e)) (by omega)).mono ?_
  rintro e w6 ⟨rfl, hg6⟩
  rw [HEP.out]
  have HG6 := Lib.hid (gr_none HG5.out hg6)
  clear hg6
  go_simp
  refine hK _ _ (gr_trans (gr_refl w4 (some w.heap.size)) HG6.out (fun g e => by cases e)) ?_
  clear hK K hHeld
  have hHeld : w4.grownBy w6 (some w.heap.size) := gr_trans (gr_refl w4 (some w.heap.size)) HG6.out (fun g e => by cases e)
  refine H_run (k := 8) (by rfl) (by kernel_rfl) (by rfl) (fun K hK => ?_)
  go_simp
  refine (recordsFault_any _ _ _ _ l _ (by exact HRC4.out.grown HG6.out (fun g e => by cases e)) (by omega)).mono ?_
  rintro e w7 ⟨rfl, hg7⟩
  rw [HER.out]
  have HG7 := Lib.hid (gr_none HG6.out hg7)
  clear hg7
  go_simp
  refine hK _ _ (gr_trans (gr_refl w4 (some w.heap.size)) HG7.out (fun g e => by cases e)) ?_
  clear hK K hHeld
  have hHeld : w4.grownBy w7 (some w.heap.size) := gr_trans (gr_refl w4 (some w.heap.size)) HG7.out (fun g e => by cases e)
  refine H_run (k := 9) (by rfl) (by kernel_rfl) (by rfl) (fun K hK => ?_)
  go_simp
  have HG8 := Lib.hid (show w4.grownBy (w7.alloc (.cells #[.int .i64 ET, .int .i64 EP, .int .i64 ER] 32)) none from gr_alloc HG7.out _)
  refine hK _ _ (gr_trans (gr_refl w4 (some w.heap.size)) HG8.out (fun g e => by cases e)) ?_
  clear hK K hHeld
  have hHeld : w4.grownBy (w7.alloc (.cells #[.int .i64 ET, .int .i64 EP, .int .i64 ER] 32)) (some w.heap.size) := gr_trans (gr_refl w4 (some w.heap.size)) HG8.out (fun g e => by cases e)
  refine H_run (k := 10) (by rfl) (by kernel_rfl) (by rfl) (fun K hK => ?_)
  go_simp
  refine (errs_run 0 _ 3 3 [ET, EP, ER] _ (by exact (Reads.blk (Blk.new _ _ _) 1 3 rfl).lower (Nat.zero_le _)) (by omega)).mono ?_
  rintro e w' ⟨rfl, rfl⟩
  obtain ⟨EF, hEF⟩ : ∃ E, firstE [ET, EP, ER] = E := ⟨_, rfl⟩
  rw [hEF]
  have HEF := Lib.hid hEF; clear hEF
  go_simp
  refine hK _ _ hHeld ?_
  clear hK K
  refine H_run (k := 11) (by rfl) (by kernel_rfl) (by rfl) (fun K hK => ?_)
  refine wp_store_all Tryz.tfT _ _ rfl w.heap.size rfl 29 _ #[.slice cA cn cc, .int .i64 free, .slice iA en ic] rfl (HR4.out.grown HG8.out (by simp)) rfl rfl (by simp [Value.oneCell']) ?_
  intro w9 hst
  obtain ⟨hb9, hg9, -⟩ := hst
  have hg49 : w4.grownBy w9 (some w.heap.size) := gr_same hHeld hg9
  refine hK _ _ hg49 ?_
  clear hK K hHeld
  have hHeld := hg49
  have HB9 := Lib.hid hb9
  (try simp only [Act.put, List.setIfInBounds_toArray, List.set_cons_zero, List.set_cons_succ])
  refine H_take (k := 12) (v := ?_) (by rfl) (by kernel_rfl) (by kernel_rfl) (by kernel_rfl) (by exact fun _ _ _ h => h) (by rfl) ?_ (by assumption) ?_
  rotate_left 1
  · intro w hSw
    (try dsimp only at hSw)
    go_simp
    (try with_reducible rfl)
  (try simp only [Act.put, List.setIfInBounds_toArray, List.set_cons_zero, List.set_cons_succ])
  refine H_take (k := 13) (v := ?_) (by rfl) (by kernel_rfl) (by kernel_rfl) (by kernel_rfl) (by exact fun _ _ _ h => h) (by rfl) ?_ (by assumption) ?_
  rotate_left 1
  · intro w hSw
    (try dsimp only at hSw)
    go_simp
    (try with_reducible rfl)
  (try simp only [Act.put, List.setIfInBounds_toArray, List.set_cons_zero, List.set_cons_succ])
  refine H_take (k := 14) (v := ?_) (by rfl) (by kernel_rfl) (by kernel_rfl) (by kernel_rfl) (by exact fun _ _ _ h => h) (by rfl) ?_ (by assumption) ?_
  rotate_left 1
  · intro w hSw
    (try dsimp only at hSw)
    go_simp
    (try with_reducible rfl)
  (try simp only [Act.put, List.setIfInBounds_toArray, List.set_cons_zero, List.set_cons_succ])
  refine H_done (by kernel_rfl) ?_
  have hgf : w.grownBy w9 (some sb) := gr_trans HG4.out hg49 (fun g e => .inr (by injection e with e; omega))
  have HGF := Lib.hid hgf
  have HG49 := Lib.hid hg49
  clear hHeld hgf hg49 hb9 hg9
  go_simp
  go_wp2_with fail
  refine ret_cell_tmp3 Tryz.tfT rfl _ _ _ _ _ _ rfl rfl rfl rfl HB9.out rfl rfl ?_
  have g9 := HG49.out
  have u1 : ∀ g, some w.heap.size = some g → g < w0.heap.size := fun g e => by injection e with e; omega
  refine ⟨_, rfl, ⟨cA, iA, cn, cc, en, ic, free, cl, ins, P, pn, pc, p, L, ln, lc, l, ?_, ?_, ?_, ?_, hpn, hln⟩, ?_, HGF.out⟩
  · rw [HET.out, HEP.out, HER.out, HEF.out]; rfl
  · have h := HTF4.out.grown g9 u1
    exact ⟨h.1, h.2.1.lower (by omega), h.2.2.lower (by omega)⟩
  · have h := HPY4.out.grown g9 (fun g e => by have := u1 g e; omega)
    exact ⟨h.1.lower (by omega), fun q hq => ⟨(h.2 q hq).1, (h.2 q hq).2.lower (by omega)⟩⟩
  · have h := HRC4.out.grown g9 (fun g e => by have := u1 g e; omega)
    exact ⟨h.1.lower (by omega), h.2⟩
  · exact (HS4.out.grown g9 (fun g e => by injection e with e; omega)).mono (by omega)
end
end Go.Proofs.YtlkibeckfpjccaaGreatDoor

/- Contracts of account.classOf with its search, of the document's ClassFor, and of the prices. Conditions: none. -/
import Derived.Test.YtpildcnoghojpaaGreatDoorTar2
import Derived.Test.YtpildcnoghojpaaGreatDoorBun4
import Derived.Deep.RegionHeld3
namespace Go.Proofs.YtpildcnoghojpaaGreatDoor
open Go.RowKit

/-- A class, or none, as a value. -/
def clsRow (c : Option ClV) : Array Value := c.elim #[.string ⟨#[]⟩, .string ⟨#[]⟩, .int .i64 0, .int .i64 0, .int .i64 0, .int .i64 0] (fun c => #[.string c.pre, .string c.name, .int .i64 c.setup, .int .i64 c.first, .int .i64 c.step, .int .i64 c.rate])
set_option maxHeartbeats 1000000 in
theorem cmpClass_any (c : ClV) (s : ByteArray) (w : World) :
    Calls Tryz.prog 75 #[.agg #[.string c.pre, .string c.name, .int .i64 c.setup, .int .i64 c.first, .int .i64 c.step, .int .i64 c.rate], .string s] w (RetV (.int .i64 (cmpS c.pre s)) w) := by
  have HC := Lib.hid (show Lib.compareBytes c.pre.data.toList s.data.toList = cmpS c.pre s from rfl)
  go_enter Tryz.func75, Tryz.ntmps75
  go_wp2_with (first
    | (go_at_call 76; refine (Tryz.strings_Compare _ _ _).mono ?_; rintro e w' ⟨rfl, rfl⟩; rw [HC.out])
    | fail)
  go_ret
  exact ⟨rfl, gr_alloc (gr_refl _ _) _⟩
def FoundV (l : List ClV) (s : ByteArray) (w : World) (e : Ending) (w' : World) : Prop := ∃ (i : Nat) (f : Bool), e = .returned (.tuple #[.int .i64 i, .bool f]) ∧ Found l s i f ∧ w.grownBy w' none
set_option maxHeartbeats 4000000 in
theorem searchClass_any (lo : Nat) (A : Option Addr) (n c : Nat) (l : List ClV) (s : ByteArray) (w : World) (h : Recs ClV.row 6 w lo A n c l) (hn : n ≤ 1000000) (hs : Srt l) :
    Calls Tryz.prog 74 #[.slice A n c, .string s, .func (.func 75) #[] #[]] w (FoundV l s w) := by
  have H := Lib.hid h; have HS := Lib.hid hs; clear h hs
  go_enter Tryz.func74, Tryz.ntmps74
  go_wp2_with fail
  go_loopw [9, 10, 11] (fun x y _ wr => ∃ i j : Nat, i ≤ j ∧ j ≤ n ∧ x = .int .i64 i ∧ y = .int .i64 j ∧ w.grownBy wr none ∧ (∀ (q : Nat) (c : ClV), q < i → l[q]? = some c → cmpS c.pre s < 0) ∧ (∀ (q : Nat) (c : ClV), j ≤ q → l[q]? = some c → 0 ≤ cmpS c.pre s)) (fun x y _ _ => (intOf y - intOf x).toNat)
  case atStart => exact ⟨0, n, Nat.zero_le _, Nat.le_refl _, rfl, rfl, gr_refl _ _, (fun q c hq => by omega), fun q c hq hc => by have := (List.getElem?_eq_some_iff.1 hc).1; have := H.out.len; omega⟩
  case round =>
    obtain ⟨i, j, hij, hj, rfl, rfl, hg, h1, h2⟩ := hrel
    have HG := Lib.hid hg; have H1 := Lib.hid h1; have H2 := Lib.hid h2; clear hg h1 h2
    by_cases hlt : i < j
    · have hm3 : (i + j) / 2 < n := by omega
      obtain ⟨g, o, ⟨pre, name, setup, first, step, rate⟩, rfl, _, hgl, hz, hcc⟩ := (H.out.grown HG.out (fun g e => by cases e)).get ClV.row_len hm3
      have HZ := Lib.hid hz; have HC := Lib.hid hcc; clear hz hcc
      obtain ⟨z, hz⟩ : ∃ z, cmpS pre s = z := ⟨_, rfl⟩
      have HW := Lib.hid hz; clear hz
      by_cases hz0 : z < 0
      · have d0 : decide (z < 0) = true := decide_eq_true hz0
        go_wp2_with (first
          | (refine wpl_load_at Tryz.clT rfl _ rfl _ rfl [.string pre, .string name, .int .i64 setup, .int .i64 first, .int .i64 step, .int .i64 rate] rfl (fun j u hu => by rw [add_mk]; exact HC.out j u hu) ?_)
          | (go_at_call 75; refine (cmpClass_any ⟨pre, name, setup, first, step, rate⟩ s _).mono ?_; rintro e w2 ⟨rfl, hg2⟩; rw [show cmpS (ClV.pre ⟨pre, name, setup, first, step, rate⟩) s = z from HW.out]; have HG2 := Lib.hid (gr_none HG.out hg2); clear hg2)
          | fail)
        go_roundw
        case rel => exact ⟨(i + j) / 2 + 1, j, by omega, hj, congrArg (Value.int .i64) (by omega), rfl, HG2.out, (fun q c hq hc => by
          rcases Nat.lt_or_ge q ((i + j) / 2) with h | h
          · have h3 := HS.out q _ c _ h hc HZ.out
            exact cmpS_trans h3 (by rw [HW.out]; exact hz0)
          · obtain rfl : q = (i + j) / 2 := by omega
            rw [HZ.out] at hc
            injection hc with hc
            subst hc
            rw [HW.out]; exact hz0), fun q c hq hc => H2.out q c hq hc⟩
        case measure => simp [intOf]; omega
      · have d0 : decide (z < 0) = false := decide_eq_false hz0
        go_wp2_with (first
          | (refine wpl_load_at Tryz.clT rfl _ rfl _ rfl [.string pre, .string name, .int .i64 setup, .int .i64 first, .int .i64 step, .int .i64 rate] rfl (fun j u hu => by rw [add_mk]; exact HC.out j u hu) ?_)
          | (go_at_call 75; refine (cmpClass_any ⟨pre, name, setup, first, step, rate⟩ s _).mono ?_; rintro e w2 ⟨rfl, hg2⟩; rw [show cmpS (ClV.pre ⟨pre, name, setup, first, step, rate⟩) s = z from HW.out]; have HG2 := Lib.hid (gr_none HG.out hg2); clear hg2)
          | fail)
        go_roundw
        case rel => exact ⟨i, (i + j) / 2, by omega, by omega, rfl, congrArg (Value.int .i64) (by omega), HG2.out, (fun q c hq hc => H1.out q c hq hc), fun q c hq hc => by
          rcases Nat.lt_or_ge ((i + j) / 2) q with h | h
          · have h3 := HS.out _ q _ c h HZ.out hc
            rcases Int.lt_or_le (cmpS c.pre s) 0 with h0 | h0
            · have h4 : cmpS pre s < 0 := cmpS_trans h3 h0
              rw [HW.out] at h4; omega
            · exact h0
          · obtain rfl : q = (i + j) / 2 := by omega
            rw [HZ.out] at hc
            injection hc with hc
            subst hc
            have : cmpS pre s = z := HW.out
            show 0 ≤ cmpS pre s
            omega⟩
        case measure => simp [intOf]; omega
    · obtain rfl : i = j := by omega
      have HF := Lib.hid (found_of HS.out H1.out (fun q c hq hc => by have := H2.out q c hq hc; omega) (by rw [H.out.len]; exact hj))
      by_cases hin : i < n
      · obtain ⟨g, o, ⟨pre, name, setup, first, step, rate⟩, rfl, _, hgl, hz, hcc⟩ := (H.out.grown HG.out (fun g e => by cases e)).get ClV.row_len hin
        have HZ := Lib.hid hz; have HC := Lib.hid hcc; clear hz hcc
        obtain ⟨z, hz⟩ : ∃ z, cmpS pre s = z := ⟨_, rfl⟩
        have HF2 := Lib.hid (show Found l s i (z == 0) by
          have h := HF.out
          rw [HZ.out] at h
          rw [← hz]; exact h)
        have HW := Lib.hid hz; clear hz
        have d1 : decide ((i : Int) < (n : Int)) = true := decide_eq_true (by omega)
        have d2 : decide (i < n) = true := decide_eq_true hin
        obtain ⟨f, hf⟩ : ∃ f, (z == 0) = f := ⟨_, rfl⟩
        rw [hf] at HF2
        have e0 := HC.out 0 _ rfl
        have e1 := HC.out 1 _ rfl
        have e2 := HC.out 2 _ rfl
        have e3 := HC.out 3 _ rfl
        have e4 := HC.out 4 _ rfl
        have e5 := HC.out 5 _ rfl
        simp only [Nat.add_zero] at e0
        go_wp2_with (first
          | (go_at_call 75; refine (cmpClass_any ⟨pre, name, setup, first, step, rate⟩ s _).mono ?_; rintro e w2 ⟨rfl, hg2⟩; rw [show cmpS (ClV.pre ⟨pre, name, setup, first, step, rate⟩) s = z from HW.out]; have HG2 := Lib.hid (gr_none HG.out hg2); clear hg2)
          | fail)
        go_ret2
        exact ⟨i, f, rfl, HF2.out, HG2.out⟩
      · have HF2 := Lib.hid (show Found l s i false by
          have h := HF.out
          rw [List.getElem?_eq_none (by rw [H.out.len]; omega)] at h
          exact h)
        have d1 : decide ((i : Int) < (n : Int)) = false := decide_eq_false (by omega)
        have d2 : decide (i < n) = false := decide_eq_false hin
        go_wp2_with fail
        go_ret2
        exact ⟨i, false, rfl, HF2.out, HG.out⟩

theorem blkN (w : World) (t : TypeId) (cs : Array Value) {g : Nat} (hg : w.heap.size = g) : Blk (w.alloc (.cells cs t)) g t cs := by subst hg; exact Blk.new _ _ _
/-- The class among the prefixes of fewer than j bytes. -/
def clsB (l : List ClV) (s : List Nat) : Nat → Option ClV
  | 0 => none
  | j + 1 => clsTo l s j
theorem clsB_miss {l : List ClV} {s : List Nat} {m : Nat} (h : clsAt l (s.take m) = none) : clsTo l s m = clsB l s m := by
  cases m with
  | zero => rw [List.take_zero] at h; exact h
  | succ m => exact clsTo_miss h
set_option maxHeartbeats 8000000 in
set_option maxRecDepth 100000 in
theorem classOf_any (lo : Nat) (t : TfV) (s : ByteArray) (w : World) (h : TfOk w lo t) (hs : s.size ≤ 1000000) (hsr : Srt t.cl) :
    Calls Tryz.prog 48 #[.agg #[.slice t.cA t.cn t.cc, .int .i64 t.free, .slice t.iA t.en t.ic], .string s] w (RetV (.tuple #[.agg (clsRow (clsOf t.cl (nb s))), .bool (clsOf t.cl (nb s)).isSome]) w) := by
  obtain ⟨cA, cn, cc, free, iA, en, ic, cl, ins⟩ := t
  obtain ⟨⟨b1, b2, b3, b4⟩, hc, hi⟩ := h
  dsimp only at b1 b2 b3 b4 hc hi hsr ⊢
  obtain ⟨RES, hRES⟩ : ∃ R, clsOf cl (nb s) = R := ⟨_, rfl⟩
  rw [hRES]
  have HRES := Lib.hid (show RES = clsB cl (nb s) (s.size + 1) by rw [← hRES]; unfold clsOf; rw [nb_len]; rfl)
  have HCL := Lib.hid hc; have HSR := Lib.hid hsr
  clear hRES hc hi b1 b2 hsr
  go_enter Tryz.func48, Tryz.ntmps48
  go_wp2_with fail
  go_loopw [6, 7, 8] (fun kk _ _ wr => ∃ j : Nat, j ≤ s.size + 1 ∧ kk = .int .i64 ((j : Int) - 1) ∧ w.grownBy wr none ∧ Blk wr w.heap.size 51 #[.slice cA cn cc, .int .i64 free, .slice iA en ic] ∧ Blk wr (w.heap.size + 1) 47 #[.string ⟨#[]⟩, .string ⟨#[]⟩, .int .i64 0, .int .i64 0, .int .i64 0, .int .i64 0] ∧ RES = clsB cl (nb s) j) (fun kk _ _ _ => (intOf kk + 1).toNat)
  case atStart => exact ⟨s.size + 1, by omega, congrArg (Value.int .i64) (by omega), gr_alloc (gr_alloc (gr_refl _ _) _) _, (Blk.new _ _ _).alloc _, blkN _ _ _ (by simp), HRES.out⟩
  case round =>
    clear HRES
    obtain ⟨j, hj, rfl, hg, hb1, hb2, hres⟩ := hrel
    have zr := hg.size
    have zb := hb2.lt
    have kt := hb1.cell 0
    have HG := Lib.hid hg; have HB := Lib.hid hb1; have HZ0 := Lib.hid hb2; have HRES := Lib.hid hres; clear hg hb1 hb2 hres
    cases j with
    | zero =>
      have e1 : (((0 : Nat) : Int) - 1) = -1 := rfl
      rw [e1]
      clear e1 kt
      replace HRES := Lib.hid (show RES = none from HRES.out)
      go_wp2_with (first
        | (refine wpl_store_all Tryz.clT rfl _ _ rfl _ rfl _ _ _ rfl HZ0.out rfl rfl (by simp [Value.oneCell']) ?_
           intro wz hst
           have HST := Lib.hid hst; clear hst)
        | fail)
      have hst := HST.out
      refine ret_cell_tmp Tryz.clT rfl _ _ _ _ rfl rfl hst.1 rfl rfl ?_
      rw [HRES.out]
      exact ⟨rfl, gr_trans HG.out hst.2.1 (fun g e => .inr (by injection e with e; omega))⟩
    | succ m =>
      have e1 : (((m + 1 : Nat) : Int) - 1) = (m : Int) := by omega
      rw [e1]
      clear e1
      obtain ⟨u, hu⟩ : ∃ u, s.extract 0 m = u := ⟨_, rfl⟩
      have HU := Lib.hid (show nb u = (nb s).take m by rw [← hu, nb_extract, List.drop_zero])
      have s1 : (0 : Int) ≤ (m : Int) := by omega
      have s2 : (m : Int) ≤ (s.size : Int) := by omega
      replace HRES := Lib.hid (show RES = clsTo cl (nb s) m from HRES.out)
      go_wp2_with fail
      go_region_held3 (fun w' => w'.cell? ⟨w.heap.size, 0, none⟩ = some (.slice cA cn cc)) (go_keep) (first
        | (go_at_call 74
           refine (searchClass_any lo _ cn cc cl u _ (by exact HCL.out.grown (gr_drew HG.out) (fun g e => by cases e)) (by omega) HSR.out).mono ?_
           rintro e w2 ⟨i, f, rfl, hF, hg2⟩
           have HF := Lib.hid hF
           have hg3 : wr.grownBy w2 none := gr_same (gr_drew (gr_refl _ _)) hg2
           have HB2 := Lib.hid (HB.out.grown hg3 (by simp))
           have HZ2 := Lib.hid (HZ0.out.grown hg3 (by simp))
           have HG2 := Lib.hid (gr_none HG.out hg3)
           have kt2 := HB2.out.cell 0
           have z2 := hg3.size
           clear hF hg2 hg3)
        | fail)
      obtain ⟨hi1, hF⟩ := HF.out
      rw [HU.out] at hF
      rcases hF with ⟨rfl, c, hci, hca⟩ | ⟨rfl, hca⟩
      · have hin : i < cn := by have := (List.getElem?_eq_some_iff.1 hci).1; have := HCL.out.len; omega
        obtain ⟨g, o, c', hA, _, hgl, hz, hcc⟩ := (HCL.out.grown HG2.out (fun g e => by cases e)).get ClV.row_len hin
        subst hA
        rw [hci] at hz
        injection hz with hz
        subst hz
        obtain ⟨pre, name, setup, first, step, rate⟩ := c
        replace HRES := Lib.hid (show RES = some ⟨pre, name, setup, first, step, rate⟩ by rw [HRES.out]; exact clsTo_hit hca)
        have HC := Lib.hid hcc
        have i1 : (0 : Int) ≤ (i : Int) := by omega
        have i2 : (i : Int) < (cn : Int) := by omega
        clear hcc hci hca hi1 kt
        go_wp2_with (first
          | (refine wpl_load_at Tryz.clT rfl _ rfl _ rfl [.string pre, .string name, .int .i64 setup, .int .i64 first, .int .i64 step, .int .i64 rate] rfl (fun j u hu => by rw [add_mk]; exact HC.out j u hu) ?_)
          | (refine wpl_store_all Tryz.clT rfl _ _ rfl _ rfl _ _ _ rfl HZ2.out rfl rfl (by simp [Value.oneCell']) ?_
             intro wz hst
             have HST := Lib.hid hst; clear hst)
          | fail)
        have hst := HST.out
        refine ret_cell_tmp Tryz.clT rfl _ _ _ _ rfl rfl hst.1 rfl rfl ?_
        rw [HRES.out]
        exact ⟨rfl, gr_trans HG2.out hst.2.1 (fun g e => .inr (by injection e with e; omega))⟩
      · replace HRES := Lib.hid (show RES = clsB cl (nb s) m by rw [HRES.out]; exact clsB_miss hca)
        clear hca hi1 kt
        go_wp2_with fail
        go_roundw
        case rel => exact ⟨m, by omega, rfl, HG2.out, HB2.out, HZ2.out, HRES.out⟩
        case measure => simp [intOf]
set_option maxHeartbeats 2000000 in
theorem price_any (c : ClV) (talk : Int) (w : World) (hc : clNum c = true) (h1 : 0 ≤ talk) (h2 : talk ≤ 86400000) : Calls Tryz.prog 50 #[.agg #[.string c.pre, .string c.name, .int .i64 c.setup, .int .i64 c.first, .int .i64 c.step, .int .i64 c.rate], .int .i64 talk] w (RetV (.int .i64 (priceOf c talk)) w) := by
  obtain ⟨⟨b1, b2⟩, ⟨b3, b4⟩, ⟨b5, b6⟩, b7, b8⟩ := clNum_bd hc
  obtain ⟨q1, q2⟩ := price_bd hc h1 h2
  have e0 := steps_eq b7 talk
  rw [e0] at q1 q2
  have HV := Lib.hid (show priceOf c talk = if talk = 0 then 0 else c.setup + c.rate * ((max 0 (talk - c.first) + c.step - 1) / c.step) from rfl)
  obtain ⟨pre, name, setup, first, step, rate⟩ := c
  dsimp only at *
  obtain ⟨R, hR⟩ : ∃ R, priceOf ⟨pre, name, setup, first, step, rate⟩ talk = R := ⟨_, rfl⟩
  rw [hR] at HV ⊢
  clear hR e0 hc
  by_cases h0 : talk = 0
  · replace HV := Lib.hid (show R = 0 by rw [HV.out, if_pos h0])
    subst h0
    go_enter Tryz.func50, Tryz.ntmps50
    go_wp2_with fail
    go_ret
    exact ⟨by rw [HV.out]; rfl, gr_alloc (gr_refl _ _) _⟩
  · replace HV := Lib.hid (show R = setup + rate * ((max 0 (talk - first) + step - 1) / step) by rw [HV.out, if_neg h0])
    have t0 : (talk == 0) = false := by rw [beq_eq_false_iff_ne]; exact h0
    have k2 := (Blk.new w 47 #[.string pre, .string name, .int .i64 setup, .int .i64 first, .int .i64 step, .int .i64 rate]).cell 2
    have k4 := (Blk.new w 47 #[.string pre, .string name, .int .i64 setup, .int .i64 first, .int .i64 step, .int .i64 rate]).cell 4
    have k5 := (Blk.new w 47 #[.string pre, .string name, .int .i64 setup, .int .i64 first, .int .i64 step, .int .i64 rate]).cell 5
    go_enter Tryz.func50, Tryz.ntmps50
    go_wp2_with fail
    go_quiet (fail)
    go_wp2_with fail
    go_ret
    exact ⟨by rw [HV.out]; rfl, gr_drewN (gr_alloc (gr_refl _ _) _) _⟩
end Go.Proofs.YtpildcnoghojpaaGreatDoor

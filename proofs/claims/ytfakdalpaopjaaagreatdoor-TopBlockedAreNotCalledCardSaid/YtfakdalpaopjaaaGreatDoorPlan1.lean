/- Contracts of contextAt, hoursAt, hasHours, named, isDialled (from no sign on), checkRule; of the document's ContextAt, hoursAt, ruleFault. Conditions: none. -/
import Derived.Test.YtfakdalpaopjaaaGreatDoorBun5
import Derived.Test.YtfakdalpaopjaaaGreatDoorHou1
import Derived.Test.YtfakdalpaopjaaaGreatDoorBun8
import Derived.Test.YtfakdalpaopjaaaGreatDoorBun4
import Derived.Deep.CutBlock
namespace Go.Proofs.YtfakdalpaopjaaaGreatDoor
open Go.RowKit

theorem Tryz.cxT : StructT Tryz.prog 89 3 := ⟨_, Tryz.underlying89, rfl, by kernel_rfl⟩
theorem Tryz.ruT : StructT Tryz.prog 92 6 := ⟨_, Tryz.underlying92, rfl, by kernel_rfl⟩
theorem Tryz.plT : StructT Tryz.prog 48 2 := ⟨_, Tryz.underlying48, rfl, by kernel_rfl⟩
set_option maxHeartbeats 2000000 in
theorem cxP_any (c : CxV) (key : ByteArray) (kb : Nat) (w : World) (hk : Blk w kb 9 #[.string key]) :
    Calls Tryz.prog 132 #[.agg #[.string c.key, .slice c.rA c.rn c.rc, .slice c.iA c.en c.ic], .pointer (some ⟨kb, 0, none⟩)] w (RetV (.bool (nb c.key == nb key)) w) := by
  have kk := (hk.alloc (.cells #[.string c.key, .slice c.rA c.rn c.rc, .slice c.iA c.en c.ic] 89)).cell 0
  have hlt1 := hk.lt
  obtain ⟨E, hE⟩ : ∃ E, (c.key.toList == key.toList) = E := ⟨_, rfl⟩
  have HV := Lib.hid (show (nb c.key == nb key) = E by rw [← eqS_nb, hE])
  clear hk
  cases E
  all_goals
    go_enter Tryz.func132, Tryz.ntmps132
    go_wp2_with fail
    go_ret
    exact ⟨by rw [HV.out]; try rfl, gr_alloc (gr_refl _ _) _⟩
set_option maxHeartbeats 4000000 in
theorem cxPIdx_any (lo : Nat) (A : Option Addr) (n c : Nat) (l : List CxV) (key : ByteArray) (kb : Nat) (w : World) (h : Recs CxV.row 3 w lo A n c l) (hn : n ≤ 1000000000000) (h_k : Blk w kb 9 #[.string key]) :
    Calls Tryz.prog 131 #[.slice A n c, .func (.func 132) #[] #[.pointer (some ⟨kb, 0, none⟩)]] w (RetV (.int .i64 (idxP (fun x : CxV => nb x.key == nb key) l)) w) := by
  have H := Lib.hid h; have Hk := Lib.hid h_k; clear h h_k
  go_enter Tryz.func131, Tryz.ntmps131
  go_wp2_with fail
  go_loopw [5, 8] (fun _ t' wr => ∃ i : Nat, i ≤ n ∧ t' = .int .i64 i ∧ w.grownBy wr none ∧ (l.take i).all (fun x => !((fun x : CxV => nb x.key == nb key) x)) = true) (fun _ t' _ => n - (intOf t').toNat)
  case atStart => exact ⟨0, Nat.zero_le _, rfl, gr_refl _ _, by simp⟩
  case round =>
    obtain ⟨i, hi, rfl, hg, ha⟩ := hrel
    have HA := Lib.hid ha; have HG := Lib.hid hg; clear ha hg
    by_cases hlt : i < n
    · obtain ⟨g, o, b, rfl, _, hgl, hz, hc⟩ := (H.out.grown HG.out (fun g e => by cases e)).get CxV.row_len hlt
      have HZ := Lib.hid hz; have HC := Lib.hid hc; clear hz hc
      obtain ⟨B, hB⟩ : ∃ B, (fun x : CxV => nb x.key == nb key) b = B := ⟨_, rfl⟩
      have HE := Lib.hid hB; clear hB
      cases B
      all_goals
        go_wp2_with (first
          | (refine wpl_load_at Tryz.cxT rfl _ rfl _ rfl [.string b.key, .slice b.rA b.rn b.rc, .slice b.iA b.en b.ic] rfl (fun j u hu => by rw [add_mk]; exact HC.out j u hu) ?_)
          | (go_at_call 132; refine (cxP_any b key kb _ (Hk.out.grown HG.out (by simp))).mono ?_; rintro e w2 ⟨rfl, hg2⟩; have he := HE.out; (try dsimp only at he); rw [he]; clear he; have HG2 := Lib.hid (gr_none HG.out hg2); clear hg2)
          | fail)
      · go_roundw
        case rel => exact ⟨i + 1, by omega, by go_num, HG2.out, allP_succ (p := (fun x : CxV => nb x.key == nb key)) HA.out HZ.out HE.out⟩
        case measure => simp [intOf]; omega
      · go_ret
        exact ⟨by rw [idxP_some (p := (fun x : CxV => nb x.key == nb key)) HA.out HZ.out HE.out]; rfl, HG2.out⟩
    · obtain rfl : i = n := by omega
      go_wp2_with fail
      go_ret
      have h := HA.out
      rw [List.take_of_length_le (by rw [H.out.len]; exact Nat.le_refl _)] at h
      exact ⟨by rw [idxP_none (p := (fun x : CxV => nb x.key == nb key)) h]; rfl, HG.out⟩
set_option maxHeartbeats 2000000 in
theorem hrP_any (c : HrV) (key : ByteArray) (kb : Nat) (w : World) (hk : Blk w kb 9 #[.string key]) :
    Calls Tryz.prog 102 #[.agg #[.string c.key, .int .i64 c.zone, .slice c.rA c.rn c.rc, .slice c.hA c.hn c.hc], .pointer (some ⟨kb, 0, none⟩)] w (RetV (.bool (nb c.key == nb key)) w) := by
  have kk := (hk.alloc (.cells #[.string c.key, .int .i64 c.zone, .slice c.rA c.rn c.rc, .slice c.hA c.hn c.hc] 154)).cell 0
  have hlt1 := hk.lt
  obtain ⟨E, hE⟩ : ∃ E, (c.key.toList == key.toList) = E := ⟨_, rfl⟩
  have HV := Lib.hid (show (nb c.key == nb key) = E by rw [← eqS_nb, hE])
  clear hk
  cases E
  all_goals
    go_enter Tryz.func102, Tryz.ntmps102
    go_wp2_with fail
    go_ret
    exact ⟨by rw [HV.out]; try rfl, gr_alloc (gr_refl _ _) _⟩
set_option maxHeartbeats 4000000 in
theorem hrPIdx_any (lo : Nat) (A : Option Addr) (n c : Nat) (l : List HrV) (key : ByteArray) (kb : Nat) (w : World) (h : Recs HrV.row 4 w lo A n c l) (hn : n ≤ 1000000000000) (h_k : Blk w kb 9 #[.string key]) :
    Calls Tryz.prog 110 #[.slice A n c, .func (.func 102) #[] #[.pointer (some ⟨kb, 0, none⟩)]] w (RetV (.int .i64 (idxP (fun x : HrV => nb x.key == nb key) l)) w) := by
  have H := Lib.hid h; have Hk := Lib.hid h_k; clear h h_k
  go_enter Tryz.func110, Tryz.ntmps110
  go_wp2_with fail
  go_loopw [5, 8] (fun _ t' wr => ∃ i : Nat, i ≤ n ∧ t' = .int .i64 i ∧ w.grownBy wr none ∧ (l.take i).all (fun x => !((fun x : HrV => nb x.key == nb key) x)) = true) (fun _ t' _ => n - (intOf t').toNat)
  case atStart => exact ⟨0, Nat.zero_le _, rfl, gr_refl _ _, by simp⟩
  case round =>
    obtain ⟨i, hi, rfl, hg, ha⟩ := hrel
    have HA := Lib.hid ha; have HG := Lib.hid hg; clear ha hg
    by_cases hlt : i < n
    · obtain ⟨g, o, b, rfl, _, hgl, hz, hc⟩ := (H.out.grown HG.out (fun g e => by cases e)).get HrV.row_len hlt
      have HZ := Lib.hid hz; have HC := Lib.hid hc; clear hz hc
      obtain ⟨B, hB⟩ : ∃ B, (fun x : HrV => nb x.key == nb key) b = B := ⟨_, rfl⟩
      have HE := Lib.hid hB; clear hB
      cases B
      all_goals
        go_wp2_with (first
          | (refine wpl_load_at Tryz.hrT rfl _ rfl _ rfl [.string b.key, .int .i64 b.zone, .slice b.rA b.rn b.rc, .slice b.hA b.hn b.hc] rfl (fun j u hu => by rw [add_mk]; exact HC.out j u hu) ?_)
          | (go_at_call 102; refine (hrP_any b key kb _ (Hk.out.grown HG.out (by simp))).mono ?_; rintro e w2 ⟨rfl, hg2⟩; have he := HE.out; (try dsimp only at he); rw [he]; clear he; have HG2 := Lib.hid (gr_none HG.out hg2); clear hg2)
          | fail)
      · go_roundw
        case rel => exact ⟨i + 1, by omega, by go_num, HG2.out, allP_succ (p := (fun x : HrV => nb x.key == nb key)) HA.out HZ.out HE.out⟩
        case measure => simp [intOf]; omega
      · go_ret
        exact ⟨by rw [idxP_some (p := (fun x : HrV => nb x.key == nb key)) HA.out HZ.out HE.out]; rfl, HG2.out⟩
    · obtain rfl : i = n := by omega
      go_wp2_with fail
      go_ret
      have h := HA.out
      rw [List.take_of_length_le (by rw [H.out.len]; exact Nat.le_refl _)] at h
      exact ⟨by rw [idxP_none (p := (fun x : HrV => nb x.key == nb key)) h]; rfl, HG.out⟩
set_option maxHeartbeats 4000000 in
theorem hrPHas_any (lo : Nat) (A : Option Addr) (n c : Nat) (l : List HrV) (key : ByteArray) (kb : Nat) (w : World) (h : Recs HrV.row 4 w lo A n c l) (hn : n ≤ 1000000000000) (h_k : Blk w kb 9 #[.string key]) :
    Calls Tryz.prog 101 #[.slice A n c, .func (.func 102) #[] #[.pointer (some ⟨kb, 0, none⟩)]] w (RetV (.bool (l.any (fun x : HrV => nb x.key == nb key))) w) := by
  have H := Lib.hid h; have Hk := Lib.hid h_k; clear h h_k
  have HI := Lib.hid (idxP_any (p := (fun x : HrV => nb x.key == nb key)) (l := l))
  obtain ⟨I, hI⟩ : ∃ I, idxP (fun x : HrV => nb x.key == nb key) l = I := ⟨_, rfl⟩
  rw [hI] at HI
  have HI2 := Lib.hid hI; clear hI
  go_enter Tryz.func101, Tryz.ntmps101
  go_wp2_with (first
    | (go_at_call 110; refine (hrPIdx_any lo _ _ _ l key kb _ H.out hn Hk.out).mono ?_; rintro e w2 ⟨rfl, hg2⟩; rw [HI2.out]; have HG2 := Lib.hid hg2; clear hg2)
    | fail)
  go_ret
  exact ⟨by rw [← HI.out]; rfl, HG2.out⟩
set_option maxHeartbeats 2000000 in
theorem contextAt_any (lo : Nat) (p : PlV) (key : ByteArray) (w : World) (h : Recs CxV.row 3 w lo p.cA p.cn p.cc p.ctxs) (hn : p.cn ≤ 1000000) :
    Calls Tryz.prog 99 #[.agg #[.slice p.cA p.cn p.cc, .slice p.hA p.hn p.hc], .string key] w (RetV (.int .i64 (cxIx p.ctxs key)) w) := by
  obtain ⟨W1, hW⟩ : ∃ W1, (w.alloc (.cells #[.slice p.cA p.cn p.cc, .slice p.hA p.hn p.hc] 48)).alloc (.cells #[.string key] 9) = W1 := ⟨_, rfl⟩
  have HP := Lib.hid (show Blk W1 w.heap.size 48 #[.slice p.cA p.cn p.cc, .slice p.hA p.hn p.hc] by rw [← hW]; exact (Blk.new _ _ _).alloc _)
  have HK := Lib.hid (show Blk W1 (w.heap.size + 1) 9 #[.string key] by rw [← hW]; exact blk_newH _ _ _ (by simp))
  have HG := Lib.hid (show w.grownBy W1 none by rw [← hW]; exact gr_alloc (gr_alloc (gr_refl _ _) _) _)
  have H := Lib.hid (h.grown HG.out (fun g e => by cases e))
  have HW := Lib.hid hW; clear h hW
  obtain ⟨I, hI⟩ : ∃ I, cxIx p.ctxs key = I := ⟨_, rfl⟩
  rw [hI]
  have HI := Lib.hid hI; clear hI
  go_enter Tryz.func99, Tryz.ntmps99
  go_upto_region 1 with (fail)
  rw [HW.out]
  have k0 := HP.out.cell 0
  go_wp2_with fail
  refine (cxPIdx_any lo p.cA p.cn p.cc p.ctxs key (w.heap.size + 1) _ H.out (by omega) HK.out).mono ?_
  rintro e w2 ⟨rfl, hg2⟩
  rw [show idxP _ _ = I from HI.out]
  have HG2 := Lib.hid (gr_none HG.out hg2); clear hg2
  go_wp2_with fail
  go_ret
  exact ⟨rfl, HG2.out⟩
set_option maxHeartbeats 2000000 in
theorem hasHours_any (lo : Nat) (p : PlV) (key : ByteArray) (w : World) (h : Recs HrV.row 4 w lo p.hA p.hn p.hc p.hours) (hn : p.hn ≤ 1000000) :
    Calls Tryz.prog 65 #[.agg #[.slice p.cA p.cn p.cc, .slice p.hA p.hn p.hc], .string key] w (RetV (.bool (hrsOk p.hours key)) w) := by
  obtain ⟨W1, hW⟩ : ∃ W1, (w.alloc (.cells #[.slice p.cA p.cn p.cc, .slice p.hA p.hn p.hc] 48)).alloc (.cells #[.string key] 9) = W1 := ⟨_, rfl⟩
  have HP := Lib.hid (show Blk W1 w.heap.size 48 #[.slice p.cA p.cn p.cc, .slice p.hA p.hn p.hc] by rw [← hW]; exact (Blk.new _ _ _).alloc _)
  have HK := Lib.hid (show Blk W1 (w.heap.size + 1) 9 #[.string key] by rw [← hW]; exact blk_newH _ _ _ (by simp))
  have HG := Lib.hid (show w.grownBy W1 none by rw [← hW]; exact gr_alloc (gr_alloc (gr_refl _ _) _) _)
  have H := Lib.hid (h.grown HG.out (fun g e => by cases e))
  have HW := Lib.hid hW; clear h hW
  by_cases hk : nb key = []
  · have q0 := str_nil hk
    have HV := Lib.hid (show hrsOk p.hours key = true by unfold hrsOk; rw [decide_eq_true hk]; rfl)
    go_enter Tryz.func65, Tryz.ntmps65
    go_upto_region 1 with (fail)
    rw [HW.out]
    have k0 := HK.out.cell 0
    go_wp2_with fail
    go_ret
    exact ⟨by rw [HV.out]; try rfl, HG.out⟩
  · obtain ⟨q1, q2, q3⟩ := str_full hk
    obtain ⟨B, hB⟩ : ∃ B, p.hours.any (fun x : HrV => nb x.key == nb key) = B := ⟨_, rfl⟩
    have HV := Lib.hid (show hrsOk p.hours key = B by unfold hrsOk; rw [decide_eq_false hk, Bool.false_or]; exact hB)
    have HB := Lib.hid hB
    clear hB hk
    go_enter Tryz.func65, Tryz.ntmps65
    go_upto_region 1 with (fail)
    rw [HW.out]
    have k0 := HK.out.cell 0
    have k1 := HP.out.cell 1
    go_wp2_with fail
    refine (hrPHas_any lo p.hA p.hn p.hc p.hours key (w.heap.size + 1) _ H.out (by omega) HK.out).mono ?_
    rintro e w2 ⟨rfl, hg2⟩
    rw [show List.any _ _ = B from HB.out]
    have HG2 := Lib.hid (gr_none HG.out hg2); clear hg2
    go_wp2_with fail
    go_ret
    exact ⟨by rw [HV.out]; try rfl, HG2.out⟩
theorem named_any (t : Int) (w : World) : Calls Tryz.prog 153 #[.int .i64 t] w (Same (.bool (inB t 3 5)) w) := by
  by_cases h : t = 3 ∨ t = 4 ∨ t = 5
  · have HV := Lib.hid (show inB t 3 5 = true by unfold inB; simp only [Bool.and_eq_true, decide_eq_true_eq]; omega)
    rcases h with rfl | rfl | rfl
    all_goals
      go_enter Tryz.func153, Tryz.ntmps153
      go_wp2_with fail
      go_ret
      exact ⟨by rw [HV.out]; try rfl, rfl⟩
  · have HV := Lib.hid (show inB t 3 5 = false by unfold inB; rw [Bool.eq_false_iff]; simp only [ne_eq, Bool.and_eq_true, decide_eq_true_eq]; omega)
    have d3 : (t == 3) = false := by simp; omega
    have d4 : (t == 4) = false := by simp; omega
    have d5 : (t == 5) = false := by simp; omega
    clear h
    go_enter Tryz.func153, Tryz.ntmps153
    go_wp2_with fail
    go_ret
    exact ⟨by rw [HV.out]; try rfl, rfl⟩
set_option maxHeartbeats 2000000 in
theorem isDialled0_any (s : ByteArray) (w : World) (hs : s.size ≤ 1000000) : Calls Tryz.prog 152 #[.string s, .int .i64 0] w (RetV (.bool (preOk (nb s))) w) := by
  have hlen := nb_len s
  have HD := Lib.hid (show preOk (nb s) = (decide (s.size ≤ 30) && (nb s).all (fun b => decide (b ∈ sgn))) by unfold preOk; rw [hlen])
  clear hlen
  have q1 : decide ((0 : Int) ≤ (s.size : Int)) = true := decide_eq_true (by omega)
  by_cases h2 : s.size ≤ 30
  · have q2 : decide ((s.size : Int) ≤ 30) = true := decide_eq_true (by omega)
    obtain ⟨u, hu⟩ : ∃ u : ByteArray, (⟨(Lib.trimS s.data.toList [35, 42, 48, 49, 50, 51, 52, 53, 54, 55, 56, 57]).toArray⟩ : ByteArray) = u := ⟨_, rfl⟩
    have HU := Lib.hid hu
    obtain ⟨B, hB⟩ : ∃ B, (nb s).all (fun b => decide (b ∈ sgn)) = B := ⟨_, rfl⟩
    have HB := Lib.hid (show preOk (nb s) = B by rw [HD.out, decide_eq_true h2, hB]; rfl)
    have hul : u.toList = Lib.trimS s.data.toList [35, 42, 48, 49, 50, 51, 52, 53, 54, 55, 56, 57] := by rw [← hu]; exact ByteArray.toList_mk _
    cases B
    · have q3 : ¬ u.toList = [] := fun h => by
        rw [hul, trim_signs] at h
        have : (nb s).all (fun b => decide (b ∈ sgn)) = true := List.all_eq_true.2 (fun b hb => decide_eq_true (h b hb))
        rw [hB] at this; cases this
      have q4 : (u.toList == []) = false := by rw [beq_eq_false_iff_ne]; exact q3
      have q5 : u.toList.isEmpty = false := by rw [List.isEmpty_eq_false_iff]; exact q3
      clear hu hB hul q3
      go_enter Tryz.func152, Tryz.ntmps152
      go_wp2_with (first
        | (go_at_call 67; refine (trim_any s _ hs).mono ?_; rintro e w' ⟨rfl, hg⟩; rw [HU.out]; have HG := Lib.hid hg; clear hg)
        | fail)
      go_ret
      exact ⟨by rw [HB.out]; rfl, HG.out⟩
    · have q3 : u.toList = [] := by
        rw [hul, trim_signs]
        intro b hb
        exact of_decide_eq_true (List.all_eq_true.1 hB b hb)
      clear hu hB hul
      go_enter Tryz.func152, Tryz.ntmps152
      go_wp2_with (first
        | (go_at_call 67; refine (trim_any s _ hs).mono ?_; rintro e w' ⟨rfl, hg⟩; rw [HU.out]; have HG := Lib.hid hg; clear hg)
        | fail)
      go_ret
      exact ⟨by rw [HB.out]; rfl, HG.out⟩
  · have q2 : decide ((s.size : Int) ≤ 30) = false := decide_eq_false (by omega)
    have HB := Lib.hid (show preOk (nb s) = false by rw [HD.out, decide_eq_false h2]; rfl)
    clear h2
    go_enter Tryz.func152, Tryz.ntmps152
    go_wp2_with fail
    go_ret
    exact ⟨by rw [HB.out]; rfl, gr_refl _ _⟩
set_option maxHeartbeats 8000000 in
set_option maxRecDepth 100000 in
theorem checkRule_any (lo : Nat) (p : PlV) (c : CxV) (i : Nat) (r : RuV) (w : World) (h : Recs HrV.row 4 w lo p.hA p.hn p.hc p.hours) (hn : p.hn ≤ 1000000) (hc : CxOk w lo c) (hi : c.rules[i]? = some r) :
    Calls Tryz.prog 130 #[.agg #[.slice p.cA p.cn p.cc, .slice p.hA p.hn p.hc], .agg #[.string c.key, .slice c.rA c.rn c.rc, .slice c.iA c.en c.ic], .int .i64 i] w (RetV (.int .i64 (ruE p.hours (c.rules.take i) r)) w) := by
  obtain ⟨key, rA, rn, rc, iA, en, ic, rules, incs⟩ := c
  have hlen := hc.rules.len
  dsimp only at hlen
  have hin : i < rn := by rw [← hlen]; exact (List.getElem?_eq_some_iff.1 hi).1
  have hrn : rn ≤ 1000000 := hc.rn
  have hin2 : (i : Int) < (rn : Int) := by omega
  clear hlen
  dsimp only at hi ⊢
  obtain ⟨o1, o2, o3, o4⟩ := hc.rok r (mem_of_get hi)
  obtain ⟨W1, hW⟩ : ∃ W1, (w.alloc (.cells #[.slice p.cA p.cn p.cc, .slice p.hA p.hn p.hc] 48)).alloc (.cells #[.string key, .slice rA rn rc, .slice iA en ic] 89) = W1 := ⟨_, rfl⟩
  have HP := Lib.hid (show Blk W1 w.heap.size 48 #[.slice p.cA p.cn p.cc, .slice p.hA p.hn p.hc] by rw [← hW]; exact (Blk.new _ _ _).alloc _)
  have HK := Lib.hid (show Blk W1 (w.heap.size + 1) 89 #[.string key, .slice rA rn rc, .slice iA en ic] by rw [← hW]; exact blk_newH _ _ _ (by simp))
  have HG := Lib.hid (show w.grownBy W1 none by rw [← hW]; exact gr_alloc (gr_alloc (gr_refl _ _) _) _)
  have HH := Lib.hid (h.grown HG.out (fun g e => by cases e))
  have HC0 := hc.grown HG.out (fun g e => by cases e)
  obtain ⟨g, o, r', hrA, _, hgl, hz, hcc⟩ := HC0.rules.get RuV.row_len hin
  dsimp only at hrA hz
  obtain rfl : r = r' := by rw [hi] at hz; injection hz
  subst hrA
  have HC := Lib.hid HC0
  have HCC := Lib.hid hcc
  have hcap : rn ≤ rc := HC0.rules.cap
  have HW := Lib.hid hW; clear h hW hc hi hz hcc HC0
  obtain ⟨W2, hW2⟩ : ∃ W2, W1.alloc (.cells #[.string r.pat, .int .i64 r.strip, .string r.pre, .int .i64 r.to_, .string r.nam, .string r.hrs] 92) = W2 := ⟨_, rfl⟩
  have hz1 : W1.heap.size = w.heap.size + 2 := by rw [← HW.out]; simp
  have HR := Lib.hid (show Blk W2 (w.heap.size + 2) 92 #[.string r.pat, .int .i64 r.strip, .string r.pre, .int .i64 r.to_, .string r.nam, .string r.hrs] by rw [← hW2, ← hz1]; exact Blk.new _ _ _)
  have hg0 : W1.grownBy W2 none := by rw [← hW2]; exact gr_alloc (gr_refl _ _) _
  have HW2 := Lib.hid (show (W1.alloc (.cells #[.string r.pat, .int .i64 r.strip, .string r.pre, .int .i64 r.to_, .string r.nam, .string r.hrs] 92)) = W2 from hW2)
  have HZ1 := Lib.hid hz1
  clear hW2 hz1
  go_enter Tryz.func130, Tryz.ntmps130
  go_upto_region 1 with (fail)
  rw [HW.out]
  have k1 := HK.out.cell 1
  go_upto_region 2 with (first
    | (refine wpl_load_at Tryz.ruT rfl _ rfl _ rfl [.string r.pat, .int .i64 r.strip, .string r.pre, .int .i64 r.to_, .string r.nam, .string r.hrs] rfl (fun j u hu => by rw [add_mk]; exact HCC.out j u hu) ?_)
    | fail)
  rw [HZ1.out, HW2.out]
  clear k1
  replace HG := Lib.hid (gr_none HG.out hg0)
  replace HP := Lib.hid (HP.out.grown hg0 (by simp))
  replace HK := Lib.hid (HK.out.grown hg0 (by simp))
  replace HH := Lib.hid (HH.out.grown hg0 (fun g e => by cases e))
  replace HC := Lib.hid (HC.out.grown hg0 (fun g e => by cases e))
  clear hg0 hgl HCC
  have k0 := HR.out.cell 0
  have k1 := HR.out.cell 1
  have k2 := HR.out.cell 2
  have k3 := HR.out.cell 3
  have k4 := HR.out.cell 4
  have k5 := HR.out.cell 5
  go_wp2_with fail
  refine (checkPattern_any r.pat _).mono ?_
  rintro e w3 ⟨rfl, hg3⟩
  obtain ⟨PF, hPF⟩ : ∃ x, patF (nb r.pat) = x := ⟨_, rfl⟩
  rw [hPF]
  have HPF := Lib.hid hPF; clear hPF
  clear k0 k1 k2 k3 k4 k5
  replace HR := Lib.hid (HR.out.grown hg3 (by simp))
  replace HP := Lib.hid (HP.out.grown hg3 (by simp))
  replace HH := Lib.hid (HH.out.grown hg3 (fun g e => by cases e))
  replace HK := Lib.hid (HK.out.grown hg3 (by simp))
  replace HC := Lib.hid (HC.out.grown hg3 (fun g e => by cases e))
  replace HG := Lib.hid (gr_none HG.out hg3)
  clear hg3
  have k0 := HR.out.cell 0
  have k1 := HR.out.cell 1
  have k2 := HR.out.cell 2
  have k3 := HR.out.cell 3
  have k4 := HR.out.cell 4
  have k5 := HR.out.cell 5
  by_cases p0 : PF = 0
  · have dp : (PF != 0) = false := by simpa using p0
    subst p0
    obtain ⟨B1, hB1⟩ : ∃ x, inB r.strip 0 30 = x := ⟨_, rfl⟩
    have HB1 := Lib.hid hB1; clear hB1
    go_wp2_with fail
    refine (withinD_any _ _ _ _).mono ?_
    rintro e w' ⟨rfl, rfl⟩
    rw [show inB r.strip 0 30 = B1 from HB1.out]
    cases B1
    · have HE := Lib.hid (show ruE p.hours (rules.take i) r = 1 from ruE_1 HPF.out HB1.out)
      go_wp2_with fail
      go_ret
      exact ⟨by rw [HE.out]; try rfl, HG.out⟩
    · obtain ⟨B2, hB2⟩ : ∃ x, preOk (nb r.pre) = x := ⟨_, rfl⟩
      have HB2 := Lib.hid hB2; clear hB2
      go_wp2_with fail
      refine (isDialled0_any r.pre _ (by omega)).mono ?_
      rintro e w4 ⟨rfl, hg4⟩
      rw [show preOk (nb r.pre) = B2 from HB2.out]
      clear k0 k1 k2 k3 k4 k5
      replace HR := Lib.hid (HR.out.grown hg4 (by simp))
      replace HP := Lib.hid (HP.out.grown hg4 (by simp))
      replace HH := Lib.hid (HH.out.grown hg4 (fun g e => by cases e))
      replace HK := Lib.hid (HK.out.grown hg4 (by simp))
      replace HC := Lib.hid (HC.out.grown hg4 (fun g e => by cases e))
      replace HG := Lib.hid (gr_none HG.out hg4)
      clear hg4
      have k0 := HR.out.cell 0
      have k1 := HR.out.cell 1
      have k2 := HR.out.cell 2
      have k3 := HR.out.cell 3
      have k4 := HR.out.cell 4
      have k5 := HR.out.cell 5
      cases B2
      · have HE := Lib.hid (show ruE p.hours (rules.take i) r = 3 from ruE_3 HPF.out HB1.out HB2.out)
        go_wp2_with fail
        go_ret
        exact ⟨by rw [HE.out]; try rfl, HG.out⟩
      · obtain ⟨B3, hB3⟩ : ∃ x, inB r.to_ 1 6 = x := ⟨_, rfl⟩
        have HB3 := Lib.hid hB3; clear hB3
        go_wp2_with fail
        refine (withinD_any _ _ _ _).mono ?_
        rintro e w' ⟨rfl, rfl⟩
        rw [show inB r.to_ 1 6 = B3 from HB3.out]
        cases B3
        · have HE := Lib.hid (show ruE p.hours (rules.take i) r = 4 from ruE_4 HPF.out HB1.out HB2.out HB3.out)
          go_wp2_with fail
          go_ret
          exact ⟨by rw [HE.out]; try rfl, HG.out⟩
        · obtain ⟨B4, hB4⟩ : ∃ x, inB r.to_ 3 5 = x := ⟨_, rfl⟩
          have HB4 := Lib.hid hB4; clear hB4
          go_wp2_with fail
          refine (named_any _ _).mono ?_
          rintro e w' ⟨rfl, rfl⟩
          rw [show inB r.to_ 3 5 = _ from HB4.out]
          cases B4
          · by_cases hnm : nb r.nam = []
            · have q5 := str_nil hnm
              have HY := Lib.hid (show ruE p.hours (rules.take i) r = ruE2 p.hours (rules.take i) r by rw [ruE_s HPF.out HB1.out HB2.out HB3.out]; exact ruE1_u HB4.out hnm)
              clear hnm
              go_wp2_with fail
              refine (named_any _ _).mono ?_
              rintro e w' ⟨rfl, rfl⟩
              rw [show inB r.to_ 3 5 = _ from HB4.out]
              obtain ⟨B6, hB6⟩ : ∃ x, hrsOk p.hours r.hrs = x := ⟨_, rfl⟩
              have HB6 := Lib.hid hB6; clear hB6
              go_wp2_with (first
                | (refine wpl_load_all Tryz.plT rfl _ rfl _ rfl _ _ HP.out rfl ?_)
                | fail)
              refine (hasHours_any lo p r.hrs _ HH.out hn).mono ?_
              rintro e w7 ⟨rfl, hg7⟩
              rw [show hrsOk p.hours r.hrs = B6 from HB6.out]
              clear k0 k1 k2 k3 k4 k5
              replace HR := Lib.hid (HR.out.grown hg7 (by simp))
              replace HP := Lib.hid (HP.out.grown hg7 (by simp))
              replace HH := Lib.hid (HH.out.grown hg7 (fun g e => by cases e))
              replace HK := Lib.hid (HK.out.grown hg7 (by simp))
              replace HC := Lib.hid (HC.out.grown hg7 (fun g e => by cases e))
              replace HG := Lib.hid (gr_none HG.out hg7)
              clear hg7
              have k0 := HR.out.cell 0
              have k1 := HR.out.cell 1
              have k2 := HR.out.cell 2
              have k3 := HR.out.cell 3
              have k4 := HR.out.cell 4
              have k5 := HR.out.cell 5
              cases B6
              · have HE := Lib.hid (show ruE p.hours (rules.take i) r = 8 from by rw [HY.out]; unfold ruE2; rw [if_neg (by rw [HB6.out]; decide)])
                go_wp2_with fail
                go_ret
                exact ⟨by rw [HE.out]; try rfl, HG.out⟩
              · have HX := Lib.hid (show ruE p.hours (rules.take i) r = if (rules.take i).any (sameR r) = true then 6 else 0 by rw [HY.out]; unfold ruE2; rw [if_pos HB6.out])
                have kc1 := HK.out.cell 1
                go_wp2_with fail
                clear kc1
                clear k0 k1 k2 k3 k4 k5
                go_loopw [10, 68] (fun _ t wr => ∃ k : Nat, k ≤ i ∧ t = .int .i64 k ∧ w.grownBy wr none ∧ Blk wr (w.heap.size + 2) 92 #[.string r.pat, .int .i64 r.strip, .string r.pre, .int .i64 r.to_, .string r.nam, .string r.hrs] ∧ CxOk wr lo ⟨key, some ⟨g, o, none⟩, rn, rc, iA, en, ic, rules, incs⟩ ∧ (rules.take k).all (fun x => !(sameR r x)) = true) (fun _ t _ => i - (intOf t).toNat)
                case atStart => exact ⟨0, Nat.zero_le _, rfl, HG.out, HR.out, HC.out, by simp⟩
                case round =>
                  clear HG HR HC HP HH HK
                  obtain ⟨k, hk, rfl, hg, hr, hc, ha⟩ := hrel
                  have HG := Lib.hid hg; have HR := Lib.hid hr; have HC := Lib.hid hc; have HA := Lib.hid ha
                  clear hg hr hc ha
                  by_cases hlt : k < i
                  · obtain ⟨g', o', z, e', _, hgl, hz, hcc⟩ := HC.out.rules.get RuV.row_len (show k < rn by omega)
                    dsimp only at e'
                    injection e' with e'
                    injection e' with e1 e2
                    subst e1
                    subst e2
                    have HZ := Lib.hid hz; have HCC := Lib.hid hcc
                    have kr0 := (HR.out.alloc (.cells #[.string z.pat, .int .i64 z.strip, .string z.pre, .int .i64 z.to_, .string z.nam, .string z.hrs] 92)).cell 0
                    have kr5 := (HR.out.alloc (.cells #[.string z.pat, .int .i64 z.strip, .string z.pre, .int .i64 z.to_, .string z.nam, .string z.hrs] 92)).cell 5
                    obtain ⟨E1, hE1⟩ : ∃ E, (z.pat.toList == r.pat.toList) = E := ⟨_, rfl⟩
                    obtain ⟨E2, hE2⟩ : ∃ E, (z.hrs.toList == r.hrs.toList) = E := ⟨_, rfl⟩
                    have HS := Lib.hid (show sameR r z = (E1 && E2) by unfold sameR; rw [← eqS_nb, ← eqS_nb, hE1, hE2])
                    have hki : (k : Int) < (i : Int) := by omega
                    have hki2 : k < rn := by omega
                    clear hz hcc
                    have next : (E1 && E2) = false → (rules.take (k + 1)).all (fun x => !(sameR r x)) = true := fun e => allP_succ (p := sameR r) HA.out HZ.out (HS.out.trans e)
                    have HN := Lib.hid next; clear next
                    cases E1 <;> cases E2
                    all_goals
                      go_wp2_with (first
                        | (refine wpl_load_at Tryz.ruT rfl _ rfl _ rfl [.string z.pat, .int .i64 z.strip, .string z.pre, .int .i64 z.to_, .string z.nam, .string z.hrs] rfl (fun j u hu => by rw [add_mk]; exact HCC.out j u hu) ?_)
                        | fail)
                    all_goals first
                      | (go_roundw
                         case rel => exact ⟨k + 1, by omega, by go_num, gr_alloc HG.out _, HR.out.alloc _, HC.out.grown (gr_alloc (gr_refl _ none) _) (fun g e => by cases e), HN.out rfl⟩
                         case measure => simp [intOf]; omega)
                      | (go_ret
                         exact ⟨by rw [HX.out, if_pos (List.any_eq_true.2 ⟨z, mem_of_get (show (rules.take i)[k]? = some z by rw [List.getElem?_take, if_pos hlt]; exact HZ.out), HS.out⟩)]; try rfl, gr_alloc HG.out _⟩)
                      | fail
                  · obtain rfl : k = i := by omega
                    have HFIN := Lib.hid (show ruE p.hours (rules.take k) r = 0 by rw [HX.out, if_neg (by rw [any_no (p := sameR r) HA.out]; decide)])
                    go_wp2_with fail
                    go_ret
                    exact ⟨by rw [HFIN.out]; try rfl, HG.out⟩
            · obtain ⟨q5, q6, q7⟩ := str_full hnm
              have HE := Lib.hid (show ruE p.hours (rules.take i) r = 3 by rw [ruE_s HPF.out HB1.out HB2.out HB3.out]; exact ruE1_3 HB4.out hnm)
              clear hnm
              go_wp2_with fail
              refine (named_any _ _).mono ?_
              rintro e w' ⟨rfl, rfl⟩
              rw [show inB r.to_ 3 5 = _ from HB4.out]
              go_wp2_with fail
              go_ret
              exact ⟨by rw [HE.out]; try rfl, HG.out⟩
          · obtain ⟨B5, hB5⟩ : ∃ x, keyOk (nb r.nam) = x := ⟨_, rfl⟩
            have HB5 := Lib.hid hB5; clear hB5
            go_wp2_with fail
            refine (isKey_any r.nam _ (by omega)).mono ?_
            rintro e w6 ⟨rfl, hg6⟩
            rw [show keyOk (nb r.nam) = _ from HB5.out]
            clear k0 k1 k2 k3 k4 k5
            replace HR := Lib.hid (HR.out.grown hg6 (by simp))
            replace HP := Lib.hid (HP.out.grown hg6 (by simp))
            replace HH := Lib.hid (HH.out.grown hg6 (fun g e => by cases e))
            replace HK := Lib.hid (HK.out.grown hg6 (by simp))
            replace HC := Lib.hid (HC.out.grown hg6 (fun g e => by cases e))
            replace HG := Lib.hid (gr_none HG.out hg6)
            clear hg6
            have k0 := HR.out.cell 0
            have k1 := HR.out.cell 1
            have k2 := HR.out.cell 2
            have k3 := HR.out.cell 3
            have k4 := HR.out.cell 4
            have k5 := HR.out.cell 5
            cases B5
            · have HE := Lib.hid (show ruE p.hours (rules.take i) r = 5 from by rw [ruE_s HPF.out HB1.out HB2.out HB3.out]; exact ruE1_5 HB4.out HB5.out)
              go_wp2_with fail
              go_ret
              exact ⟨by rw [HE.out]; try rfl, HG.out⟩
            · have HY := Lib.hid (show ruE p.hours (rules.take i) r = ruE2 p.hours (rules.take i) r by rw [ruE_s HPF.out HB1.out HB2.out HB3.out]; exact ruE1_n HB4.out HB5.out)
              go_wp2_with fail
              refine (named_any _ _).mono ?_
              rintro e w' ⟨rfl, rfl⟩
              rw [show inB r.to_ 3 5 = _ from HB4.out]
              obtain ⟨B6, hB6⟩ : ∃ x, hrsOk p.hours r.hrs = x := ⟨_, rfl⟩
              have HB6 := Lib.hid hB6; clear hB6
              go_wp2_with (first
                | (refine wpl_load_all Tryz.plT rfl _ rfl _ rfl _ _ HP.out rfl ?_)
                | fail)
              refine (hasHours_any lo p r.hrs _ HH.out hn).mono ?_
              rintro e w7 ⟨rfl, hg7⟩
              rw [show hrsOk p.hours r.hrs = B6 from HB6.out]
              clear k0 k1 k2 k3 k4 k5
              replace HR := Lib.hid (HR.out.grown hg7 (by simp))
              replace HP := Lib.hid (HP.out.grown hg7 (by simp))
              replace HH := Lib.hid (HH.out.grown hg7 (fun g e => by cases e))
              replace HK := Lib.hid (HK.out.grown hg7 (by simp))
              replace HC := Lib.hid (HC.out.grown hg7 (fun g e => by cases e))
              replace HG := Lib.hid (gr_none HG.out hg7)
              clear hg7
              have k0 := HR.out.cell 0
              have k1 := HR.out.cell 1
              have k2 := HR.out.cell 2
              have k3 := HR.out.cell 3
              have k4 := HR.out.cell 4
              have k5 := HR.out.cell 5
              cases B6
              · have HE := Lib.hid (show ruE p.hours (rules.take i) r = 8 from by rw [HY.out]; unfold ruE2; rw [if_neg (by rw [HB6.out]; decide)])
                go_wp2_with fail
                go_ret
                exact ⟨by rw [HE.out]; try rfl, HG.out⟩
              · have HX := Lib.hid (show ruE p.hours (rules.take i) r = if (rules.take i).any (sameR r) = true then 6 else 0 by rw [HY.out]; unfold ruE2; rw [if_pos HB6.out])
                have kc1 := HK.out.cell 1
                go_wp2_with fail
                clear kc1
                clear k0 k1 k2 k3 k4 k5
                go_loopw [10, 68] (fun _ t wr => ∃ k : Nat, k ≤ i ∧ t = .int .i64 k ∧ w.grownBy wr none ∧ Blk wr (w.heap.size + 2) 92 #[.string r.pat, .int .i64 r.strip, .string r.pre, .int .i64 r.to_, .string r.nam, .string r.hrs] ∧ CxOk wr lo ⟨key, some ⟨g, o, none⟩, rn, rc, iA, en, ic, rules, incs⟩ ∧ (rules.take k).all (fun x => !(sameR r x)) = true) (fun _ t _ => i - (intOf t).toNat)
                case atStart => exact ⟨0, Nat.zero_le _, rfl, HG.out, HR.out, HC.out, by simp⟩
                case round =>
                  clear HG HR HC HP HH HK
                  obtain ⟨k, hk, rfl, hg, hr, hc, ha⟩ := hrel
                  have HG := Lib.hid hg; have HR := Lib.hid hr; have HC := Lib.hid hc; have HA := Lib.hid ha
                  clear hg hr hc ha
                  by_cases hlt : k < i
                  · obtain ⟨g', o', z, e', _, hgl, hz, hcc⟩ := HC.out.rules.get RuV.row_len (show k < rn by omega)
                    dsimp only at e'
                    injection e' with e'
                    injection e' with e1 e2
                    subst e1
                    subst e2
                    have HZ := Lib.hid hz; have HCC := Lib.hid hcc
                    have kr0 := (HR.out.alloc (.cells #[.string z.pat, .int .i64 z.strip, .string z.pre, .int .i64 z.to_, .string z.nam, .string z.hrs] 92)).cell 0
                    have kr5 := (HR.out.alloc (.cells #[.string z.pat, .int .i64 z.strip, .string z.pre, .int .i64 z.to_, .string z.nam, .string z.hrs] 92)).cell 5
                    obtain ⟨E1, hE1⟩ : ∃ E, (z.pat.toList == r.pat.toList) = E := ⟨_, rfl⟩
                    obtain ⟨E2, hE2⟩ : ∃ E, (z.hrs.toList == r.hrs.toList) = E := ⟨_, rfl⟩
                    have HS := Lib.hid (show sameR r z = (E1 && E2) by unfold sameR; rw [← eqS_nb, ← eqS_nb, hE1, hE2])
                    have hki : (k : Int) < (i : Int) := by omega
                    have hki2 : k < rn := by omega
                    clear hz hcc
                    have next : (E1 && E2) = false → (rules.take (k + 1)).all (fun x => !(sameR r x)) = true := fun e => allP_succ (p := sameR r) HA.out HZ.out (HS.out.trans e)
                    have HN := Lib.hid next; clear next
                    cases E1 <;> cases E2
                    all_goals
                      go_wp2_with (first
                        | (refine wpl_load_at Tryz.ruT rfl _ rfl _ rfl [.string z.pat, .int .i64 z.strip, .string z.pre, .int .i64 z.to_, .string z.nam, .string z.hrs] rfl (fun j u hu => by rw [add_mk]; exact HCC.out j u hu) ?_)
                        | fail)
                    all_goals first
                      | (go_roundw
                         case rel => exact ⟨k + 1, by omega, by go_num, gr_alloc HG.out _, HR.out.alloc _, HC.out.grown (gr_alloc (gr_refl _ none) _) (fun g e => by cases e), HN.out rfl⟩
                         case measure => simp [intOf]; omega)
                      | (go_ret
                         exact ⟨by rw [HX.out, if_pos (List.any_eq_true.2 ⟨z, mem_of_get (show (rules.take i)[k]? = some z by rw [List.getElem?_take, if_pos hlt]; exact HZ.out), HS.out⟩)]; try rfl, gr_alloc HG.out _⟩)
                      | fail
                  · obtain rfl : k = i := by omega
                    have HFIN := Lib.hid (show ruE p.hours (rules.take k) r = 0 by rw [HX.out, if_neg (by rw [any_no (p := sameR r) HA.out]; decide)])
                    go_wp2_with fail
                    go_ret
                    exact ⟨by rw [HFIN.out]; try rfl, HG.out⟩
  · have dp : (PF != 0) = true := by simpa using p0
    have HE := Lib.hid (show ruE p.hours (rules.take i) r = PF by rw [← HPF.out]; exact ruE_p (by rw [HPF.out]; exact p0))
    go_wp2_with fail
    go_ret
    exact ⟨by rw [HE.out]; try rfl, HG.out⟩
end Go.Proofs.YtfakdalpaopjaaaGreatDoor

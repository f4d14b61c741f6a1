/- Contracts of counts of dialplan and of the document, and of dialplan's decides. Conditions: a plan that is right. -/
import Derived.Test.YtdhaelpacffnlaaGreatDoorBun8
import Derived.Test.YtdhaelpacffnlaaGreatDoorPlanQ
import Derived.Test.YtdhaelpacffnlaaGreatDoorBun6
namespace Go.Proofs.YtdhaelpacffnlaaGreatDoor
section
open Go.RowKit

set_option maxHeartbeats 2000000 in
theorem hrC_any (c : HrV) (key : ByteArray) (kb : Nat) (w : World) (hk : Blk w kb 9 #[.string key]) :
    Calls Tryz.prog 106 #[.agg #[.string c.key, .int .i64 c.zone, .slice c.rA c.rn c.rc, .slice c.hA c.hn c.hc], .pointer (some ⟨kb, 0, none⟩)] w (RetV (.bool (nb c.key == nb key)) w) := by
  have kk := (hk.alloc (.cells #[.string c.key, .int .i64 c.zone, .slice c.rA c.rn c.rc, .slice c.hA c.hn c.hc] 122)).cell 0
  have hlt1 := hk.lt
  obtain ⟨E, hE⟩ : ∃ E, (c.key.toList == key.toList) = E := ⟨_, rfl⟩
  have HV := Lib.hid (show (nb c.key == nb key) = E by rw [← eqS_nb, hE])
  clear hk
  cases E
  all_goals
    go_enter Tryz.func106, Tryz.ntmps106
    go_wp2_with fail
    go_ret
    exact ⟨by rw [HV.out]; try rfl, gr_alloc (gr_refl _ _) _⟩
set_option maxHeartbeats 4000000 in
theorem hrCIdx_any (lo : Nat) (A : Option Addr) (n c : Nat) (l : List HrV) (key : ByteArray) (kb : Nat) (w : World) (h : Recs HrV.row 4 w lo A n c l) (hn : n ≤ 1000000000000) (h_k : Blk w kb 9 #[.string key]) :
    Calls Tryz.prog 105 #[.slice A n c, .func (.func 106) #[] #[.pointer (some ⟨kb, 0, none⟩)]] w (RetV (.int .i64 (idxP (fun x : HrV => nb x.key == nb key) l)) w) := by
  have H := Lib.hid h; have Hk := Lib.hid h_k; clear h h_k
  go_enter Tryz.func105, Tryz.ntmps105
  go_wp2_with fail
  go_loopw [5, 8] (fun _ t' wr => ∃ i : Nat, i ≤ n ∧ t' = .int .i64 i ∧ w.grownBy wr none ∧ (l.take i).all (fun x => !((fun x : HrV => nb x.key == nb key) x)) = true) (fun _ t' _ => n - (intOf t').toNat)
  case atStart => exact ⟨0, Nat.zero_le _, rfl, gr_refl _ _, by simp⟩
  case round =>
    obtain ⟨i, hi, rfl, hg, ha⟩ := hrel
    have HA := Lib.hid ha; have HG := Lib.hid hg; clear ha hg
    by_cases hlt : i < n
    · obtain ⟨g, o, b, rfl, _, hgl, hz, hc⟩ := (H.out.grown HG.out (fun g e => by cases e)).get HrV.row_len hlt
      have HZ := Lib.hid hz; have HC := Lib.hid hc; clear hz hc
      obtain ⟨B, hB⟩ : ∃ B, (fun x : HrV => nb x.key == nb key) b = B := ⟨_, rfl⟩
      have HE := Lib.hid hB; clear hB
      cases B
      all_goals
        go_wp2_with (first
          | (refine wpl_load_at Tryz.hrT rfl _ rfl _ rfl [.string b.key, .int .i64 b.zone, .slice b.rA b.rn b.rc, .slice b.hA b.hn b.hc] rfl (fun j u hu => by rw [add_mk]; exact HC.out j u hu) ?_)
          | (go_at_call 106; refine (hrC_any b key kb _ (Hk.out.grown HG.out (by simp))).mono ?_; rintro e w2 ⟨rfl, hg2⟩; have he := HE.out; (try dsimp only at he); rw [he]; clear he; have HG2 := Lib.hid (gr_none HG.out hg2); clear hg2)
          | fail)
      · go_roundw
        case rel => exact ⟨i + 1, by omega, by go_num, HG2.out, allP_succ (p := (fun x : HrV => nb x.key == nb key)) HA.out HZ.out HE.out⟩
        case measure => simp [intOf]; omega
      · go_ret
        exact ⟨by rw [idxP_some (p := (fun x : HrV => nb x.key == nb key)) HA.out HZ.out HE.out]; rfl, HG2.out⟩
    · obtain rfl : i = n := by omega
      go_wp2_with fail
      go_ret
      have h := HA.out
      rw [List.take_of_length_le (by rw [H.out.len]; exact Nat.le_refl _)] at h
      exact ⟨by rw [idxP_none (p := (fun x : HrV => nb x.key == nb key)) h]; rfl, HG.out⟩
theorem exec_load_rec {P : Program} {w : World} {o : Oper} {ev : Operand → Value} {ty : TypeId} {n : Nat} (T : StructT P ty n) (x : Operand) (ho : o.op = .load ty x) (a : Addr) (hx : ev x = .pointer (some a)) (cs : List Value) (hb : ∀ (j : Nat) (u : Value), cs[j]? = some u → w.cell? (a.add j) = some u) (hn : cs.length = n) :
    (execOp ev o).run P w = .ok (.value (.agg cs.toArray)) w := by
  unfold execOp
  simp only [ho, hx, Instr.loadAt, Instr.sureAddr, Sem.run_bind, Sem.run_pure, Result.andThen_ok, run_load_at T hn hb]
set_option maxHeartbeats 4000000 in
theorem counts_any (lo : Nat) (p : PlV) (key : ByteArray) (t : Int) (w : World) (h : PlOk w lo p) (hr : ∀ a ∈ p.hours, HrRight a) (hkk : hrsOk p.hours key = true) (t0 : -1 ≤ t) (t1 : t ≤ 345686400000) :
    Calls Tryz.prog 63 #[.agg #[.slice p.cA p.cn p.cc, .slice p.hA p.hn p.hc], .string key, .int .i64 t] w (RetV (.bool (cntB p.hours key t)) w) := by
  obtain ⟨W1, hW⟩ : ∃ W1, (w.alloc (.cells #[.slice p.cA p.cn p.cc, .slice p.hA p.hn p.hc] 29)).alloc (.cells #[.string key] 9) = W1 := ⟨_, rfl⟩
  have HP := Lib.hid (show Blk W1 w.heap.size 29 #[.slice p.cA p.cn p.cc, .slice p.hA p.hn p.hc] by rw [← hW]; exact (Blk.new _ _ _).alloc _)
  have HK := Lib.hid (show Blk W1 (w.heap.size + 1) 9 #[.string key] by rw [← hW]; exact blk_newH _ _ _ (by simp))
  have HG := Lib.hid (show w.grownBy W1 none by rw [← hW]; exact gr_alloc (gr_alloc (gr_refl _ _) _) _)
  have HW := Lib.hid hW; clear hW
  have hhn := h.hn
  by_cases hk : nb key = []
  · have q0 := str_nil hk
    have HV := Lib.hid (show cntB p.hours key t = true by unfold cntB; rw [decide_eq_true hk]; rfl)
    clear h hr hkk hk
    go_enter Tryz.func63, Tryz.ntmps63
    go_upto_region 1 with (fail)
    rw [HW.out]
    have k0 := HK.out.cell 0
    go_wp2_with fail
    go_ret
    exact ⟨by rw [HV.out]; try rfl, HG.out⟩
  · obtain ⟨q1, q2, q3⟩ := str_full hk
    obtain ⟨q, hh, hq, hz, hp, hf⟩ := idx_find (p := fun x : HrV => nb x.key == nb key) (l := p.hours) (by
      have h := hkk
      unfold hrsOk at h
      rw [decide_eq_false hk, Bool.false_or] at h
      exact h)
    have HQ := Lib.hid hq
    have HV := Lib.hid (show cntB p.hours key t = openAt hh.zone hh.rows hh.hol t by unfold cntB; rw [decide_eq_false hk, Bool.false_or, hf]; rfl)
    have HHO := Lib.hid (h.hours.2 hh (mem_of_get hz))
    have HHR := Lib.hid (hr hh (mem_of_get hz))
    have hqn : q < p.hn := by rw [← h.hours.1.len]; exact (List.getElem?_eq_some_iff.1 hz).1
    have hqn2 : (q : Int) < (p.hn : Int) := by omega
    obtain ⟨g, o, h2, hhA, _, hgl, hz2, hcc⟩ := h.hours.1.get HrV.row_len hqn
    obtain rfl : hh = h2 := by rw [hz] at hz2; injection hz2
    have HA := Lib.hid hhA
    have HZ := Lib.hid hz
    obtain ⟨V, hV⟩ : ∃ V, openAt hh.zone hh.rows hh.hol t = V := ⟨_, rfl⟩
    have HVV := Lib.hid hV
    clear hkk hq hp hf hz hz2 hcc hhA hr hgl hV
    have H0 := Lib.hid h
    clear h hk
    go_enter Tryz.func63, Tryz.ntmps63
    go_upto_region 1 with (fail)
    rw [HW.out]
    have k0 := HK.out.cell 0
    have k1 := HP.out.cell 1
    go_wp2_with fail
    refine (hrCIdx_any lo p.hA p.hn p.hc p.hours key (w.heap.size + 1) _ (H0.out.hours.1.grown HG.out (fun g e => by cases e)) (by omega) HK.out).mono ?_
    rintro e w2 ⟨rfl, hg2⟩
    rw [show idxP _ _ = _ from HQ.out]
    clear k0 k1
    have HG2 := Lib.hid (gr_none HG.out hg2)
    have k1 := (HP.out.grown hg2 (by simp)).cell 1
    have hA := HA.out
    have HR2 := Lib.hid (H0.out.hours.1.grown HG2.out (fun g e => by cases e))
    clear hg2
    go_wp2_with (first
      | (refine wpl_load_at Tryz.hrT rfl _ rfl _ rfl [.string hh.key, .int .i64 hh.zone, .slice hh.rA hh.rn hh.rc, .slice hh.hA hh.hn hh.hc] rfl (fun j u hu => by
           rw [add_mk]
           have hr2 := HR2.out
           rw [HA.out] at hr2
           exact hr2.at_ HrV.row_len HZ.out j u hu) ?_)
      | fail)
    refine (isOpen_any lo hh t _ (HHO.out.grown HG2.out (fun g e => by cases e)) HHR.out t0 t1).mono ?_
    rintro e w3 ⟨rfl, hg3⟩
    rw [HVV.out]
    have HG3 := Lib.hid (gr_none HG2.out hg3)
    clear hg3
    go_wp2_with fail
    go_ret
    exact ⟨by rw [HV.out, HVV.out]; try rfl, HG3.out⟩
set_option maxHeartbeats 4000000 in
theorem countsR_any (lo : Nat) (p : PlV) (key : ByteArray) (t : Int) (w : World) (h : PlOk w lo p) (hr : ∀ a ∈ p.hours, HrRight a) (hkk : hrsOk p.hours key = true) (t0 : -1 ≤ t) (t1 : t ≤ 345686400000) :
    Calls Tryz.prog 69 #[.agg #[.slice p.cA p.cn p.cc, .slice p.hA p.hn p.hc], .string key, .int .i64 t] w (RetV (.bool (cntB p.hours key t)) w) := by
  obtain ⟨W1, hW⟩ : ∃ W1, w.alloc (.cells #[.slice p.cA p.cn p.cc, .slice p.hA p.hn p.hc] 29) = W1 := ⟨_, rfl⟩
  have HP := Lib.hid (show Blk W1 w.heap.size 29 #[.slice p.cA p.cn p.cc, .slice p.hA p.hn p.hc] by rw [← hW]; exact Blk.new _ _ _)
  have HG := Lib.hid (show w.grownBy W1 none by rw [← hW]; exact gr_alloc (gr_refl _ _) _)
  have HW := Lib.hid hW; clear hW
  have hhn := h.hn
  by_cases hk : nb key = []
  · have q0 := str_nil hk
    have HV := Lib.hid (show cntB p.hours key t = true by unfold cntB; rw [decide_eq_true hk]; rfl)
    clear h hr hkk hk
    go_enter Tryz.func69, Tryz.ntmps69
    go_upto_region 1 with (fail)
    rw [HW.out]
    go_quiet (fail)
    go_wp2_with fail
    go_ret
    exact ⟨by rw [HV.out]; try rfl, gr_drewN HG.out _⟩
  · obtain ⟨q1, q2, q3⟩ := str_full hk
    obtain ⟨q, hh, hq, hz, hp, hf⟩ := idx_find (p := fun x : HrV => nb x.key == nb key) (l := p.hours) (by
      have h := hkk
      unfold hrsOk at h
      rw [decide_eq_false hk, Bool.false_or] at h
      exact h)
    have HQ := Lib.hid hq
    have HV := Lib.hid (show cntB p.hours key t = openAt hh.zone hh.rows hh.hol t by unfold cntB; rw [decide_eq_false hk, Bool.false_or, hf]; rfl)
    have HHO := Lib.hid (h.hours.2 hh (mem_of_get hz))
    have HHR := Lib.hid (hr hh (mem_of_get hz))
    have hqn : q < p.hn := by rw [← h.hours.1.len]; exact (List.getElem?_eq_some_iff.1 hz).1
    have hqn2 : (q : Int) < (p.hn : Int) := by omega
    obtain ⟨g, o, h2, hhA, _, hgl, hz2, hcc⟩ := h.hours.1.get HrV.row_len hqn
    obtain rfl : hh = h2 := by rw [hz] at hz2; injection hz2
    have HA := Lib.hid hhA
    have HZ := Lib.hid hz
    obtain ⟨V, hV⟩ : ∃ V, openAt hh.zone hh.rows hh.hol t = V := ⟨_, rfl⟩
    have HVV := Lib.hid hV
    clear hkk hq hp hf hz hz2 hcc hhA hr hgl hV
    have H0 := Lib.hid h
    clear h hk
    go_enter Tryz.func69, Tryz.ntmps69
    go_upto_region 1 with (fail)
    rw [HW.out]
    refine H_begin (fun w' => W1.grownBy w' none) (by kernel_rfl) ?_
    have hHeld : W1.grownBy W1.drew none := gr_drew (gr_refl _ _)
    refine H_take (k := 0) (v := ?_) (by rfl) (by kernel_rfl) (by kernel_rfl) (by kernel_rfl) (by exact fun _ _ _ h => h) (by rfl) ?_ (by assumption) ?_
    rotate_left 1
    · intro w hSw
      (try dsimp only at hSw)
      go_simp
      (try with_reducible rfl)
    (try simp only [Act.put, List.setIfInBounds_toArray, List.set_cons_zero, List.set_cons_succ])
    refine H_take (k := 1) (v := ?_) (by rfl) (by kernel_rfl) (by kernel_rfl) (by kernel_rfl) (by exact fun _ _ _ h => h) (by rfl) ?_ (by assumption) ?_
    rotate_left 1
    · intro w hSw
      (try dsimp only at hSw)
      go_simp
      (try with_reducible rfl)
    (try simp only [Act.put, List.setIfInBounds_toArray, List.set_cons_zero, List.set_cons_succ])
    refine H_take (k := 2) (v := ?_) (by rfl) (by kernel_rfl) (by kernel_rfl) (by kernel_rfl) (by exact fun _ _ _ h => h) (by rfl) ?_ (by assumption) ?_
    rotate_left 1
    · intro w hSw
      (try dsimp only at hSw)
      go_simp
      (try with_reducible rfl)
    (try simp only [Act.put, List.setIfInBounds_toArray, List.set_cons_zero, List.set_cons_succ])
    refine H_take (k := 3) (v := ?_) (by rfl) (by kernel_rfl) (by kernel_rfl) (by kernel_rfl) (by exact fun _ _ _ h => h) (by rfl) ?_ (by assumption) ?_
    rotate_left 1
    · intro w hSw
      (try dsimp only at hSw)
      go_simp
      (try with_reducible rfl)
    (try simp only [Act.put, List.setIfInBounds_toArray, List.set_cons_zero, List.set_cons_succ])
    refine H_take (k := 4) (v := ?_) (by rfl) (by kernel_rfl) (by kernel_rfl) (by kernel_rfl) (by exact fun _ _ _ h => h) (by rfl) ?_ hHeld ?_
    rotate_left 1
    · intro w' hSw
      have kc := (HP.out.grown hSw (by simp)).cell 1
      go_simp
      (try with_reducible rfl)
    (try simp only [Act.put, List.setIfInBounds_toArray, List.set_cons_zero, List.set_cons_succ])
    refine H_take (k := 5) (v := ?_) (by rfl) (by kernel_rfl) (by kernel_rfl) (by kernel_rfl) (by exact fun _ _ _ h => h) (by rfl) ?_ (by assumption) ?_
    rotate_left 1
    · intro w hSw
      (try dsimp only at hSw)
      go_simp
      (try with_reducible rfl)
    (try simp only [Act.put, List.setIfInBounds_toArray, List.set_cons_zero, List.set_cons_succ])
    refine H_take (k := 6) (v := ?_) (by rfl) (by kernel_rfl) (by kernel_rfl) (by kernel_rfl) (by exact fun _ _ _ h => h) (by rfl) ?_ hHeld ?_
    rotate_left 1
    · intro w' hSw
      have kc := (HP.out.grown hSw (by simp)).cell 1
      go_simp
      (try with_reducible rfl)
    (try simp only [Act.put, List.setIfInBounds_toArray, List.set_cons_zero, List.set_cons_succ])
    refine H_take (k := 7) (v := ?_) (by rfl) (by kernel_rfl) (by kernel_rfl) (by kernel_rfl) (by exact fun _ _ _ h => h) (by rfl) ?_ (by assumption) ?_
    rotate_left 1
    · intro w hSw
      (try dsimp only at hSw)
      go_simp
      (try with_reducible rfl)
    (try simp only [Act.put, List.setIfInBounds_toArray, List.set_cons_zero, List.set_cons_succ])
    refine H_take (k := 11) (v := ?_) (by rfl) (by kernel_rfl) (by kernel_rfl) (by kernel_rfl) (by exact fun _ _ _ h => h) (by rfl) ?_ (by assumption) ?_
    rotate_left 1
    · intro w hSw
      (try dsimp only at hSw)
      go_simp
      (try with_reducible rfl)
    (try simp only [Act.put, List.setIfInBounds_toArray, List.set_cons_zero, List.set_cons_succ])
    refine H_run (k := 8) (by rfl) (by kernel_rfl) (by rfl) (fun K hK => ?_)
    go_simp
    refine (hoursAt_any lo p.hA p.hn p.hc p.hours key _ (H0.out.hours.1.grown (gr_drew HG.out) (fun g e => by cases e)) hhn).mono ?_
    rintro e w2 ⟨rfl, hg2⟩
    rw [show hrIx p.hours key = _ from HQ.out]
    have hh2 := gr_none (gr_drew (gr_refl W1 none)) hg2
    refine hK _ _ hh2 ?_
    clear hK K hHeld hg2
    have hHeld := hh2
    clear hh2
    have hA := HA.out
    refine H_take (k := 9) (v := ?_) (by rfl) (by kernel_rfl) (by kernel_rfl) (by kernel_rfl) (by exact fun _ _ _ h => h) (by rfl) ?_ (by assumption) ?_
    rotate_left 1
    · intro w hSw
      (try dsimp only at hSw)
      go_simp
      (try with_reducible rfl)
    (try simp only [Act.put, List.setIfInBounds_toArray, List.set_cons_zero, List.set_cons_succ])
    refine H_take (k := 10) (v := .agg #[.string hh.key, .int .i64 hh.zone, .slice hh.rA hh.rn hh.rc, .slice hh.hA hh.hn hh.hc]) (by rfl) (by kernel_rfl) (by kernel_rfl) (by kernel_rfl) (by exact fun _ _ _ h => h) (by rfl) (fun w' hSw => exec_load_rec Tryz.hrT _ rfl _ rfl [.string hh.key, .int .i64 hh.zone, .slice hh.rA hh.rn hh.rc, .slice hh.hA hh.hn hh.hc] (fun j u hu => by
           rw [add_mk]
           have hr2 := H0.out.hours.1.grown (gr_none HG.out hSw) (fun g e => by cases e)
           rw [HA.out] at hr2
           exact hr2.at_ HrV.row_len HZ.out j u hu) rfl) hHeld ?_
    (try simp only [Act.put, List.setIfInBounds_toArray, List.set_cons_zero, List.set_cons_succ])
    clear hA
    refine H_run (k := 12) (by rfl) (by kernel_rfl) (by rfl) (fun K hK => ?_)
    go_simp
    refine (openOf_any lo hh t _ (HHO.out.grown (gr_none HG.out hHeld) (fun g e => by cases e)) HHR.out t0 t1).mono ?_
    rintro e w3 ⟨rfl, hg3⟩
    rw [HVV.out]
    have hh3 := gr_none hHeld hg3
    refine hK _ _ hh3 ?_
    clear hK K hHeld hg3
    have hHeld := hh3
    clear hh3
    refine H_take (k := 13) (v := ?_) (by rfl) (by kernel_rfl) (by kernel_rfl) (by kernel_rfl) (by exact fun _ _ _ h => h) (by rfl) ?_ (by assumption) ?_
    rotate_left 1
    · intro w hSw
      (try dsimp only at hSw)
      go_simp
      (try with_reducible rfl)
    (try simp only [Act.put, List.setIfInBounds_toArray, List.set_cons_zero, List.set_cons_succ])
    refine H_take (k := 14) (v := ?_) (by rfl) (by kernel_rfl) (by kernel_rfl) (by kernel_rfl) (by exact fun _ _ _ h => h) (by rfl) ?_ (by assumption) ?_
    rotate_left 1
    · intro w hSw
      (try dsimp only at hSw)
      go_simp
      (try with_reducible rfl)
    (try simp only [Act.put, List.setIfInBounds_toArray, List.set_cons_zero, List.set_cons_succ])
    refine H_done (by kernel_rfl) ?_
    go_wp2_with fail
    go_ret
    exact ⟨by rw [HV.out, HVV.out]; try rfl, gr_none HG.out hHeld⟩
end
end Go.Proofs.YtdhaelpacffnlaaGreatDoor
/- Contract of decides of dialplan. Conditions: a plan, a context, a string and a moment that are right. -/
namespace Go.Proofs.YtdhaelpacffnlaaGreatDoor
section
open Go.RowKit

/-- The pattern that is best so far, as it lies in block mb. -/
def MostR (rules : List RuV) (o : Option Nat) (mb : Nat) (wr : World) : Prop := ∃ (A : Option Addr) (n c : Nat) (tl : Int), Blk wr mb 97 #[.slice A n c, .int .u8 tl] ∧
  ∀ b, o = some b → ∃ (r : RuV) (y : List Nat × Nat), rules[b]? = some r ∧ patX (nb r.pat) = some y ∧ tl = y.2 ∧ Ints .u16 wr (mb + 1) A n c (u16L y.1) ∧ n ≤ 30
theorem MostR.grown {rules : List RuV} {o : Option Nat} {mb : Nat} {w w' : World} (h : MostR rules o mb w) (hg : w.grownBy w' none) : MostR rules o mb w' := by
  obtain ⟨A, n, c, tl, h1, h2⟩ := h
  refine ⟨A, n, c, tl, h1.grown hg (by simp), fun b e => ?_⟩
  obtain ⟨r, y, a1, a2, a3, a4, a5⟩ := h2 b e
  exact ⟨r, y, a1, a2, a3, a4.grown hg (fun g e => by cases e), a5⟩
set_option maxHeartbeats 16000000 in
set_option maxRecDepth 100000 in
theorem decidesP_any (lo : Nat) (p : PlV) (c : CxV) (dial : ByteArray) (t : Int) (w : World) (h : PlOk w lo p) (hr : ∀ a ∈ p.hours, HrRight a) (hc : CxOk w lo c) (hrr : ∀ r ∈ c.rules, RuRight p.hours r) (hd : dialOk (nb dial) = true) (t0 : -1 ≤ t) (t1 : t ≤ 345686400000) :
    Calls Tryz.prog 56 #[.agg #[.slice p.cA p.cn p.cc, .slice p.hA p.hn p.hc], .agg #[.string c.key, .slice c.rA c.rn c.rc, .slice c.iA c.en c.ic], .string dial, .int .i64 t] w (RetV (.int .i64 (bestI (decT p.hours (nb dial) t c.rules c.rn))) w) := by
  obtain ⟨key, rA, rn, rc, iA, en, ic, rules, incs⟩ := c
  have hrn : rn ≤ 1000000 := hc.rn
  have hlen := hc.rules.len
  have hb := hd
  unfold dialOk at hb
  simp only [Bool.and_eq_true, decide_eq_true_eq, List.all_eq_true] at hb
  have hd30 : dial.size ≤ 30 := by rw [← nb_len]; exact hb.1.2
  have HSG := Lib.hid hb.2
  dsimp only at hlen hrr ⊢
  obtain ⟨W1, hW⟩ : ∃ W1, (w.alloc (.cells #[.slice p.cA p.cn p.cc, .slice p.hA p.hn p.hc] 29)).alloc (.cells #[.string key, .slice rA rn rc, .slice iA en ic] 63) = W1 := ⟨_, rfl⟩
  have hz1 : W1.heap.size = w.heap.size + 2 := by rw [← hW]; simp
  obtain ⟨W2, hW2⟩ : ∃ W2, W1.alloc (.cells #[.slice none 0 0, .int .u8 0] 97) = W2 := ⟨_, rfl⟩
  have HP0 : Blk W1 w.heap.size 29 #[.slice p.cA p.cn p.cc, .slice p.hA p.hn p.hc] := by rw [← hW]; exact (Blk.new _ _ _).alloc _
  have HB0 : Blk W1 (w.heap.size + 1) 63 #[.string key, .slice rA rn rc, .slice iA en ic] := by rw [← hW]; exact blk_newH _ _ _ (by simp)
  have HG0 : w.grownBy W1 none := by rw [← hW]; exact gr_alloc (gr_alloc (gr_refl _ _) _) _
  have HP := Lib.hid (show Blk W2 w.heap.size 29 #[.slice p.cA p.cn p.cc, .slice p.hA p.hn p.hc] by rw [← hW2]; exact HP0.alloc _)
  have HB := Lib.hid (show Blk W2 (w.heap.size + 1) 63 #[.string key, .slice rA rn rc, .slice iA en ic] by rw [← hW2]; exact HB0.alloc _)
  have HM := Lib.hid (show MostR rules none (w.heap.size + 2) W2 from ⟨none, 0, 0, 0, by rw [← hW2, ← hz1]; exact Blk.new _ _ _, fun b e => by cases e⟩)
  have HG := Lib.hid (show w.grownBy W2 none by rw [← hW2]; exact gr_alloc HG0 _)
  have HW := Lib.hid hW; have HW2 := Lib.hid hW2; have HZ1 := Lib.hid hz1
  have H0 := Lib.hid h; have HC0 := Lib.hid hc; have HRR := Lib.hid hrr; have HHR := Lib.hid hr; have HDO := Lib.hid hd; have HLEN := Lib.hid hlen
  have k1 := HB0.cell 1
  clear h hc hrr hr hd hb hW hW2 hz1 HP0 HG0 hlen
  go_enter Tryz.func56, Tryz.ntmps56
  go_upto_region 1 with (fail)
  rw [HW.out]
  go_upto_region 3 with (fail)
  rw [HW2.out, HZ1.out]
  clear k1 HB0
  have k1 := HB.out.cell 1
  go_wp2_with fail
  clear k1
  go_loopw [9, 11, 12, 13, 14, 15, 16, 20] (fun v9 _ _ _ _ _ _ t20 wr => ∃ k : Nat, k ≤ rn ∧ t20 = .int .i64 k ∧ v9 = .int .i64 (bestI (decT p.hours (nb dial) t rules k)) ∧ w.grownBy wr none ∧ Blk wr w.heap.size 29 #[.slice p.cA p.cn p.cc, .slice p.hA p.hn p.hc] ∧ Blk wr (w.heap.size + 1) 63 #[.string key, .slice rA rn rc, .slice iA en ic] ∧ MostR rules (decT p.hours (nb dial) t rules k) (w.heap.size + 2) wr) (fun _ _ _ _ _ _ _ t20 _ => rn - (intOf t20).toNat)
  case atStart => exact ⟨0, Nat.zero_le _, rfl, rfl, HG.out, HP.out, HB.out, HM.out⟩
  case round =>
    clear HG HP HB HM
    obtain ⟨k, hk, rfl, rfl, hg, hp, hb, hmm⟩ := hrel
    have zg := hmm
    have HG := Lib.hid hg; have HP := Lib.hid hp; have HB := Lib.hid hb; have HM := Lib.hid hmm
    have zr : w.heap.size + 2 < wr.heap.size := by obtain ⟨_, _, _, _, h1, _⟩ := hmm; exact h1.lt
    clear hg hp hb hmm zg
    by_cases hlt : k < rn
    · obtain ⟨g, o, r, hrA, _, hgl, hz, hcc⟩ := (HC0.out.rules.grown HG.out (fun g e => by cases e)).get RuV.row_len hlt
      dsimp only at hrA hz
      subst hrA
      have HZ := Lib.hid hz; have HRC := Lib.hid hcc
      have HRU := Lib.hid (HRR.out r (mem_of_get hz))
      obtain ⟨x, hx⟩ := HRU.out.pat
      have HPX := Lib.hid hx
      obtain ⟨ro1, ro2, ro3, ro4⟩ := HC0.out.rok r (mem_of_get hz)
      have hkk : (k : Int) < (rn : Int) := by omega
      clear hz hcc hx hgl
      obtain ⟨wa, hwa⟩ : ∃ wa, wr.alloc (.cells #[.string r.pat, .int .i64 r.strip, .string r.pre, .int .i64 r.to_, .string r.nam, .string r.hrs] 67) = wa := ⟨_, rfl⟩
      have HRB := Lib.hid (show Blk wa wr.heap.size 67 #[.string r.pat, .int .i64 r.strip, .string r.pre, .int .i64 r.to_, .string r.nam, .string r.hrs] by rw [← hwa]; exact Blk.new _ _ _)
      have hga : wr.grownBy wa none := by rw [← hwa]; exact gr_alloc (gr_refl _ _) _
      have hza : wr.heap.size < wa.heap.size := by rw [← hwa]; simp
      have HWA := Lib.hid hwa; clear hwa
      go_upto_region 6 with (first
        | (refine wpl_load_at Tryz.ruT rfl _ rfl _ rfl [.string r.pat, .int .i64 r.strip, .string r.pre, .int .i64 r.to_, .string r.nam, .string r.hrs] rfl (fun j u hu => by rw [add_mk]; exact HRC.out j u hu) ?_)
        | fail)
      rw [HWA.out]
      obtain ⟨rb, hrb⟩ : ∃ rb, wr.heap.size = rb := ⟨_, rfl⟩
      rw [hrb] at HRB zr hza ⊢
      clear hrb HWA HRC
      replace HG := Lib.hid (gr_none HG.out hga)
      replace HP := Lib.hid (HP.out.grown hga (by simp))
      replace HB := Lib.hid (HB.out.grown hga (by simp))
      replace HM := Lib.hid (HM.out.grown hga)
      clear hga
      have kr0 := HRB.out.cell 0
      go_wp2_with fail
      refine (read_all r.pat _).mono ?_
      rintro e w6 ⟨v6, rfl, hv6, hg6⟩
      have z6 := hg6.size
      replace HRB := Lib.hid (HRB.out.grown hg6 (by simp))
      replace HG := Lib.hid (gr_none HG.out hg6)
      replace HP := Lib.hid (HP.out.grown hg6 (by simp))
      replace HB := Lib.hid (HB.out.grown hg6 (by simp))
      replace HM := Lib.hid (HM.out.grown hg6)
      clear hg6
      clear kr0
      rcases hv6 with ⟨x', xA, xn, xc, hx', rfl, hxi, hxn⟩ | ⟨hx', rfl⟩
      rotate_left 1
      · exfalso; rw [HPX.out] at hx'; cases hx'
      · obtain rfl : x = x' := by rw [HPX.out] at hx'; injection hx'
        have HXI0 := Lib.hid (hxi.lower (show w.heap.size + 2 + 1 ≤ wa.heap.size by omega))
        have HRT := Lib.hid (patX_right hx')
        clear hxi hx'
        obtain ⟨wx, hwx⟩ : ∃ wx, w6.alloc (.cells #[.slice xA xn xc, .int .u8 x.2] 97) = wx := ⟨_, rfl⟩
        obtain ⟨xb, hxb⟩ : ∃ xb, w6.heap.size = xb := ⟨_, rfl⟩
        have HX := Lib.hid (show Blk wx xb 97 #[.slice xA xn xc, .int .u8 x.2] by rw [← hwx, ← hxb]; exact Blk.new _ _ _)
        have hgx : w6.grownBy wx none := by rw [← hwx]; exact gr_alloc (gr_refl _ _) _
        have HXI := Lib.hid (HXI0.out.grown hgx (fun g e => by cases e))
        have hxbl : w.heap.size + 3 ≤ xb := by omega
        have HWX := Lib.hid hwx; have HXB := Lib.hid hxb
        clear hwx HXI0 hxb
        go_upto_region 7 with (fail)
        rw [HWX.out, HXB.out]
        clear HWX HXB
        replace HRB := Lib.hid (HRB.out.grown hgx (by simp))
        replace HG := Lib.hid (gr_none HG.out hgx)
        replace HP := Lib.hid (HP.out.grown hgx (by simp))
        replace HB := Lib.hid (HB.out.grown hgx (by simp))
        replace HM := Lib.hid (HM.out.grown hgx)
        clear hgx
        obtain ⟨M, hM⟩ : ∃ M, matchL x (nb dial) = M := ⟨_, rfl⟩
        have HMT := Lib.hid hM; clear hM
        go_wp2_with (first
          | (refine wpl_load_all Tryz.patT rfl _ rfl _ rfl _ _ HX.out rfl ?_)
          | fail)
        refine (begins_any xA xn xc x dial _ (HXI.out.lower (Nat.zero_le _)) HRT.out hxn hd30 HSG.out).mono ?_
        rintro e w7 ⟨v7, rfl, ⟨B7, rfl⟩, hg7⟩
        rw [HMT.out]
        replace HRB := Lib.hid (HRB.out.grown hg7 (by simp))
        replace HX := Lib.hid (HX.out.grown hg7 (by simp))
        replace HXI := Lib.hid (HXI.out.grown hg7 (fun g e => by cases e))
        replace HG := Lib.hid (gr_none HG.out hg7)
        replace HP := Lib.hid (HP.out.grown hg7 (by simp))
        replace HB := Lib.hid (HB.out.grown hg7 (by simp))
        replace HM := Lib.hid (HM.out.grown hg7)
        clear hg7
        cases M
        · have HN := Lib.hid (show (decT p.hours (nb dial) t rules (k + 1)) = (decT p.hours (nb dial) t rules k) from decT_no HZ.out (by unfold fitB; rw [HPX.out]; show (matchL x (nb dial) && _) = false; rw [HMT.out]; rfl))
          go_wp2_with fail
          go_roundw
          case rel => exact ⟨k + 1, by omega, by go_num, by rw [HN.out], HG.out, HP.out, HB.out, by rw [HN.out]; exact HM.out⟩
          case measure => simp [intOf]; omega
        · obtain ⟨C, hC⟩ : ∃ C, cntB p.hours r.hrs t = C := ⟨_, rfl⟩
          have HCB := Lib.hid hC
          have HFB := Lib.hid (show fitB p.hours (nb dial) t r = C by unfold fitB; rw [HPX.out]; show (matchL x (nb dial) && _) = C; rw [HMT.out, hC]; rfl)
          clear hC
          have cY := HP.out.cell
          have kr5 := HRB.out.cell 5
          go_wp2_with fail
          clear cY kr5
          refine (counts_any lo p r.hrs t _ (H0.out.grown HG.out (fun g e => by cases e)) HHR.out HRU.out.hrs t0 t1).mono ?_
          rintro e w8 ⟨rfl, hg8⟩
          rw [HCB.out]
          replace HRB := Lib.hid (HRB.out.grown hg8 (by simp))
          replace HX := Lib.hid (HX.out.grown hg8 (by simp))
          replace HXI := Lib.hid (HXI.out.grown hg8 (fun g e => by cases e))
          replace HG := Lib.hid (gr_none HG.out hg8)
          replace HP := Lib.hid (HP.out.grown hg8 (by simp))
          replace HB := Lib.hid (HB.out.grown hg8 (by simp))
          replace HM := Lib.hid (HM.out.grown hg8)
          clear hg8
          cases C
          · have HN := Lib.hid (show (decT p.hours (nb dial) t rules (k + 1)) = (decT p.hours (nb dial) t rules k) from decT_no HZ.out HFB.out)
            go_wp2_with fail
            go_roundw
            case rel => exact ⟨k + 1, by omega, by go_num, by rw [HN.out], HG.out, HP.out, HB.out, by rw [HN.out]; exact HM.out⟩
            case measure => simp [intOf]; omega
          · cases hdk : (decT p.hours (nb dial) t rules k) with
            | none =>
              have HN := Lib.hid (show (decT p.hours (nb dial) t rules (k + 1)) = some k from decT_first HZ.out HFB.out hdk)
              rw [hdk] at HM
              have HDK := Lib.hid hdk; clear hdk
              rw [show bestI none = -1 from rfl]
              obtain ⟨wx, rfl⟩ : ∃ wx : World, wx = w8 := ⟨_, rfl⟩
              go_upto_region 10 with (fail)
              obtain ⟨wo, hwo⟩ : ∃ wo : World, wx = wo := ⟨_, rfl⟩
              rw [hwo] at HM HX HP HB HG HXI
              rw [hwo]
              clear hwo
              obtain ⟨mA, mn, mc, mt, hmb, hmo⟩ := HM.out
              have HMB := Lib.hid hmb
              clear hmb hmo
              refine H_begin (fun w' => wo.grownBy w' (some (w.heap.size + 2))) (by kernel_rfl) ?_
              have hHeld : wo.grownBy wo.drew (some (w.heap.size + 2)) := gr_drew (gr_refl _ _)
              refine H_take (k := 0) (v := ?_) (by rfl) (by kernel_rfl) (by kernel_rfl) (by kernel_rfl) (by exact fun _ _ _ h => h) (by rfl) ?_ (by assumption) ?_
              rotate_left 1
              · intro w hSw
                (try dsimp only at hSw)
                go_simp
                (try with_reducible rfl)
              (try simp only [Act.put, List.setIfInBounds_toArray, List.set_cons_zero, List.set_cons_succ])
              refine H_take (k := 1) (v := .agg #[.slice xA xn xc, .int .u8 x.2]) (by rfl) (by kernel_rfl) (by kernel_rfl) (by kernel_rfl) (by exact fun _ _ _ h => h) (by rfl) (fun w' hSw => exec_load_blk' Tryz.patT _ rfl _ rfl 97 [.slice xA xn xc, .int .u8 x.2] (HX.out.grown hSw (by simp; omega)) rfl) hHeld ?_
              (try simp only [Act.put, List.setIfInBounds_toArray, List.set_cons_zero, List.set_cons_succ])
              refine H_take (k := 2) (v := ?_) (by rfl) (by kernel_rfl) (by kernel_rfl) (by kernel_rfl) (by exact fun _ _ _ h => h) (by rfl) ?_ (by assumption) ?_
              rotate_left 1
              · intro w hSw
                (try dsimp only at hSw)
                go_simp
                (try with_reducible rfl)
              (try simp only [Act.put, List.setIfInBounds_toArray, List.set_cons_zero, List.set_cons_succ])
              refine H_run (k := 3) (by rfl) (by kernel_rfl) (by rfl) (fun K hK => ?_)
              refine wp_store_all Tryz.patT _ _ (by rfl) (w.heap.size + 2) (by rfl) 97 _ #[.slice xA xn xc, .int .u8 x.2] (by rfl) (HMB.out.grown (gr_drew (gr_refl wo none)) (by simp)) rfl rfl (by simp [Value.oneCell']) ?_
              intro w9 h9
              have hg9 : wo.grownBy w9 (some (w.heap.size + 2)) := gr_trans (gr_drew (gr_refl wo _)) h9.2.1 (fun g e => .inl e.symm)
              have HMN := Lib.hid (show MostR rules (some k) (w.heap.size + 2) w9 from ⟨xA, xn, xc, x.2, h9.1, fun b e => by
                injection e with e
                subst e
                exact ⟨r, x, HZ.out, HPX.out, rfl, HXI.out.grown hg9 (fun g e => by injection e with e; omega), hxn⟩⟩)
              replace HG := Lib.hid (show w.grownBy w9 none from gr_trans HG.out hg9 (fun g e => .inr (by injection e with e; omega)))
              replace HP := Lib.hid (HP.out.grown hg9 (by simp))
              replace HB := Lib.hid (HB.out.grown hg9 (by simp))
              refine hK _ _ hg9 ?_
              clear hK K hHeld h9 hg9
              refine H_done (by kernel_rfl) ?_
              go_wp2_with fail
              go_roundw
              case rel => exact ⟨k + 1, by omega, by go_num, by rw [HN.out]; rfl, HG.out, HP.out, HB.out, by rw [HN.out]; exact HMN.out⟩
              case measure => simp [intOf]; omega
            | some b =>
              obtain ⟨mA, mn, mc, mt, hmb, hmo⟩ := HM.out
              obtain ⟨ro, y, hb1, hb2, rfl, hyi, hyn⟩ := hmo b hdk
              have HBF := Lib.hid (show befR r ro = decide (befL x y < 0) by unfold befR; rw [HPX.out]; show ((patX (nb ro.pat)).elim false fun y => decide (befL x y < 0)) = _; rw [hb2]; rfl)
              have HN0 := Lib.hid (decT_more HZ.out HFB.out hdk hb1)
              have HYI := Lib.hid hyi; have HMB := Lib.hid hmb
              have HRTY := Lib.hid (patX_right hb2)
              have HDK := Lib.hid hdk
              rw [hdk] at HM
              clear hmb hmo hb1 hb2 hyi hdk
              rw [show bestI (some b) = (b : Int) from rfl]
              have db : decide ((b : Int) < 0) = false := decide_eq_false (by omega)
              have cX := HX.out.cell
              have cM := HMB.out.cell
              go_wp2_with fail
              clear cX cM
              refine (before_any xA mA xn xc mn mc x y _ (HXI.out.lower (Nat.zero_le _)) (HYI.out.lower (Nat.zero_le _)) HRT.out HRTY.out hxn hyn).mono ?_
              rintro e w9 ⟨rfl, hg9⟩
              obtain ⟨V, hV⟩ : ∃ V, befL x y = V := ⟨_, rfl⟩
              rw [hV] at HBF ⊢
              clear hV
              replace HRB := Lib.hid (HRB.out.grown hg9 (by simp))
              replace HX := Lib.hid (HX.out.grown hg9 (by simp))
              replace HXI := Lib.hid (HXI.out.grown hg9 (fun g e => by cases e))
              replace HG := Lib.hid (gr_none HG.out hg9)
              replace HP := Lib.hid (HP.out.grown hg9 (by simp))
              replace HB := Lib.hid (HB.out.grown hg9 (by simp))
              replace HM := Lib.hid (HM.out.grown hg9)
              clear hg9
              clear HMB HYI HRTY
              by_cases hV0 : V < 0
              · have dV : decide (V < 0) = true := decide_eq_true hV0
                have HN := Lib.hid (show (decT p.hours (nb dial) t rules (k + 1)) = some k by rw [HN0.out, HBF.out, dV]; rfl)
                obtain ⟨wx, rfl⟩ : ∃ wx : World, wx = w9 := ⟨_, rfl⟩
                go_upto_region 10 with (fail)
                obtain ⟨wo, hwo⟩ : ∃ wo : World, wx = wo := ⟨_, rfl⟩
                rw [hwo] at HM HX HP HB HG HXI
                rw [hwo]
                clear hwo
                obtain ⟨mA, mn, mc, mt, hmb, hmo⟩ := HM.out
                have HMB := Lib.hid hmb
                clear hmb hmo
                refine H_begin (fun w' => wo.grownBy w' (some (w.heap.size + 2))) (by kernel_rfl) ?_
                have hHeld : wo.grownBy wo.drew (some (w.heap.size + 2)) := gr_drew (gr_refl _ _)
                refine H_take (k := 0) (v := ?_) (by rfl) (by kernel_rfl) (by kernel_rfl) (by kernel_rfl) (by exact fun _ _ _ h => h) (by rfl) ?_ (by assumption) ?_
                rotate_left 1
                · intro w hSw
                  (try dsimp only at hSw)
                  go_simp
                  (try with_reducible rfl)
                (try simp only [Act.put, List.setIfInBounds_toArray, List.set_cons_zero, List.set_cons_succ])
                refine H_take (k := 1) (v := .agg #[.slice xA xn xc, .int .u8 x.2]) (by rfl) (by kernel_rfl) (by kernel_rfl) (by kernel_rfl) (by exact fun _ _ _ h => h) (by rfl) (fun w' hSw => exec_load_blk' Tryz.patT _ rfl _ rfl 97 [.slice xA xn xc, .int .u8 x.2] (HX.out.grown hSw (by simp; omega)) rfl) hHeld ?_
                (try simp only [Act.put, List.setIfInBounds_toArray, List.set_cons_zero, List.set_cons_succ])
                refine H_take (k := 2) (v := ?_) (by rfl) (by kernel_rfl) (by kernel_rfl) (by kernel_rfl) (by exact fun _ _ _ h => h) (by rfl) ?_ (by assumption) ?_
                rotate_left 1
                · intro w hSw
                  (try dsimp only at hSw)
                  go_simp
                  (try with_reducible rfl)
                (try simp only [Act.put, List.setIfInBounds_toArray, List.set_cons_zero, List.set_cons_succ])
                refine H_run (k := 3) (by rfl) (by kernel_rfl) (by rfl) (fun K hK => ?_)
                refine wp_store_all Tryz.patT _ _ (by rfl) (w.heap.size + 2) (by rfl) 97 _ #[.slice xA xn xc, .int .u8 x.2] (by rfl) (HMB.out.grown (gr_drew (gr_refl wo none)) (by simp)) rfl rfl (by simp [Value.oneCell']) ?_
                intro w9 h9
                have hg9 : wo.grownBy w9 (some (w.heap.size + 2)) := gr_trans (gr_drew (gr_refl wo _)) h9.2.1 (fun g e => .inl e.symm)
                have HMN := Lib.hid (show MostR rules (some k) (w.heap.size + 2) w9 from ⟨xA, xn, xc, x.2, h9.1, fun b e => by
                  injection e with e
                  subst e
                  exact ⟨r, x, HZ.out, HPX.out, rfl, HXI.out.grown hg9 (fun g e => by injection e with e; omega), hxn⟩⟩)
                replace HG := Lib.hid (show w.grownBy w9 none from gr_trans HG.out hg9 (fun g e => .inr (by injection e with e; omega)))
                replace HP := Lib.hid (HP.out.grown hg9 (by simp))
                replace HB := Lib.hid (HB.out.grown hg9 (by simp))
                refine hK _ _ hg9 ?_
                clear hK K hHeld h9 hg9
                refine H_done (by kernel_rfl) ?_
                go_wp2_with fail
                go_roundw
                case rel => exact ⟨k + 1, by omega, by go_num, by rw [HN.out]; rfl, HG.out, HP.out, HB.out, by rw [HN.out]; exact HMN.out⟩
                case measure => simp [intOf]; omega
              · have dV : decide (V < 0) = false := decide_eq_false hV0
                have HN := Lib.hid (show (decT p.hours (nb dial) t rules (k + 1)) = some b by rw [HN0.out, HBF.out, dV]; rfl)
                go_wp2_with fail
                go_roundw
                case rel => exact ⟨k + 1, by omega, by go_num, by rw [HN.out]; rfl, HG.out, HP.out, HB.out, by rw [HN.out]; exact HM.out⟩
                case measure => simp [intOf]; omega
    · obtain rfl : k = rn := by omega
      go_wp2_with fail
      go_ret
      exact ⟨rfl, HG.out⟩
end
end Go.Proofs.YtdhaelpacffnlaaGreatDoor

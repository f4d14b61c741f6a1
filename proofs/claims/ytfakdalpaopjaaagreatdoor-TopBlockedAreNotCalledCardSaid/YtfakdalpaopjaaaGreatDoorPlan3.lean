/- Contracts of CheckPlan and of the function in it that looks for circles. Conditions: none. -/
import Derived.Test.YtfakdalpaopjaaaGreatDoorBun9
import Derived.Test.YtfakdalpaopjaaaGreatDoorBun5
import Derived.Test.YtfakdalpaopjaaaGreatDoorBun8
import Derived.Test.YtfakdalpaopjaaaGreatDoorBun1
import Derived.Laws.EntriesVeiled
namespace Go.Proofs.YtfakdalpaopjaaaGreatDoor
open Go.RowKit

theorem exec_load_blk' {P : Program} {w : World} {o : Oper} {ev : Operand → Value} {ty : TypeId} {n : Nat} (T : StructT P ty n) (x : Operand) (ho : o.op = .load ty x) (g : Nat) (hx : ev x = .pointer (some ⟨g, 0, none⟩)) (t : TypeId) (cs : List Value) (hb : Blk w g t cs.toArray) (hn : cs.length = n) :
    (execOp ev o).run P w = .ok (.value (.agg cs.toArray)) w := by
  unfold execOp
  simp only [ho, hx, Instr.loadAt, Instr.sureAddr, Sem.run_bind, Sem.run_pure, Result.andThen_ok, run_load_at T hn (fun j u hu => by rw [add_mk, Nat.zero_add, hb.cell]; simpa using hu)]
def colC (st : List Int) : Array Value := (st.map (Value.int .i64)).toArray
theorem colC_new (n : Nat) : colC (List.replicate n 0) = Array.replicate n (.int .i64 0) := by unfold colC; simp
theorem sAt_zero (n g : Nat) : sAt (List.replicate n 0) g = 0 := by
  unfold sAt; rw [List.getD_eq_getElem?_getD, List.getElem?_replicate]; split <;> rfl
theorem colC_get {st : List Int} {i : Nat} {v : Int} (h : st[i]? = some v) : (colC st)[i]? = some (.int .i64 v) := by unfold colC; simp [h]
theorem colC_set {st : List Int} {i : Nat} {v : Int} : (colC st).setIfInBounds i (.int .i64 v) = colC (st.set i v) := by unfold colC; simp
/-- The memory of the search: base world w0; the plan, the slice of colours, the function and the colours lie behind it. -/
structure RgW (w0 : World) (p : PlV) (pb svb fb stb n : Nat) (w : World) (st : List Int) : Prop where
  gr : w0.grownBy w none
  low : w0.heap.size ≤ stb
  ne : pb ≠ stb ∧ svb ≠ stb ∧ fb ≠ stb
  pl : Blk w pb 48 #[.slice p.cA p.cn p.cc, .slice p.hA p.hn p.hc]
  sv : Blk w svb 22 #[.slice (some ⟨stb, 0, none⟩) n n]
  fn : Blk w fb 65 #[.func (.func 100) #[] #[.pointer (some ⟨svb, 0, none⟩), .pointer (some ⟨pb, 0, none⟩), .pointer (some ⟨fb, 0, none⟩)]]
  st : Blk w stb 3 (colC st)
theorem RgW.quiet {w0 : World} {p : PlV} {pb svb fb stb n : Nat} {w w' : World} {st : List Int} (h : RgW w0 p pb svb fb stb n w st) (hg : w.grownBy w' none) : RgW w0 p pb svb fb stb n w' st :=
  ⟨gr_none h.gr hg, h.low, h.ne, h.pl.grown hg (by simp), h.sv.grown hg (by simp), h.fn.grown hg (by simp), h.st.grown hg (by simp)⟩
theorem RgW.put {w0 : World} {p : PlV} {pb svb fb stb n : Nat} {w : World} {st : List Int} (h : RgW w0 p pb svb fb stb n w st) (i : Nat) (v : Int) : RgW w0 p pb svb fb stb n (w.setCell ⟨stb, i, none⟩ (.int .i64 v)) (st.set i v) :=
  ⟨gr_setCell h.gr (.inr h.low) _, h.low, h.ne, h.pl.far h.ne.1 _, h.sv.far h.ne.2.1 _, h.fn.far h.ne.2.2 _, by rw [← colC_set]; exact h.st.set_ i _⟩
def RingsV (w0 : World) (p : PlV) (pb svb fb stb n : Nat) (st : List Int) (i : Nat) (e : Ending) (w' : World) : Prop :=
  ∃ (b : Bool) (st' : List Int), e = .returned (.bool b) ∧ RgW w0 p pb svb fb stb n w' st' ∧ DfsPost (incIx p.ctxs) n st i b st'
set_option maxHeartbeats 8000000 in
set_option maxRecDepth 100000 in
theorem rings_any (lo : Nat) (p : PlV) (pb svb fb stb : Nat) (w0 : World) (h0 : PlOk w0 lo p) (hm : misB p.ctxs = false) :
    ∀ (m : Nat) (st : List Int) (i : Nat) (w : World), zer st ≤ m → RgW w0 p pb svb fb stb p.cn w st → i < p.cn → DfsInv (incIx p.ctxs) p.cn st → DfsPre (incIx p.ctxs) st i →
    Calls Tryz.prog 100 #[.int .i64 i, .pointer (some ⟨svb, 0, none⟩), .pointer (some ⟨pb, 0, none⟩), .pointer (some ⟨fb, 0, none⟩)] w (RingsV w0 p pb svb fb stb p.cn st i) := by
  obtain ⟨cA, cn, cc, hA, hn, hc, ctxs, hours⟩ := p
  have hcn : cn ≤ 1000000 := h0.cn
  have H0 := Lib.hid h0; have HM := Lib.hid hm
  clear h0 hm
  intro m
  induction m with
  | zero => ?_
  | succ m ih => ?_
  all_goals
    intro st i w hz hw hi hv hp
    dsimp only at hw hi hv hp
    obtain ⟨v, hsv⟩ : ∃ v, st[i]? = some v := ⟨_, List.getElem?_eq_getElem (by rw [hv.1]; exact hi)⟩
    have hi2 : (i : Int) < (cn : Int) := by omega
    rcases (by exact hv.2.1 i v hsv : v = 0 ∨ v = 1 ∨ v = 2) with rfl | hv12
  · exfalso
    have : 0 < st.count 0 := List.count_pos_iff.2 (List.mem_iff_getElem?.2 ⟨i, hsv⟩)
    unfold zer at hz
    omega
  rotate_left 1
  · have hw1 := hw.put i 1
    have hv1 := hv.start hsv
    have hzz := zer_set (v := 1) hsv (by decide)
    have HS := Lib.hid hsv; have HPR := Lib.hid hp
    have HW := Lib.hid hw
    have HW1 := Lib.hid hw1
    have HV1 := Lib.hid hv1
    have HZ := Lib.hid (show zer (st.set i 1) ≤ m by omega)
    have k0 := hw.sv.cell 0
    have k1 := hw.st.cell i
    rw [colC_get hsv] at k1
    have k2 := hw.sv.cell 0
    have kf := hw.st.frozen i
    have kp := hw1.pl.cell 0
    clear hw hv hp hz hzz hsv hw1 hv1
    obtain ⟨⟨key, rA, rn, rc, iA, en, ic, rules, incs⟩, hzc⟩ : ∃ z, ctxs[i]? = some z := ⟨_, List.getElem?_eq_getElem (by have := H0.out.ctxs.len; dsimp only at this; omega)⟩
    have HZC := Lib.hid hzc; clear hzc
    obtain ⟨W1, hW1⟩ : ∃ W1, w.setCell ⟨stb, i, none⟩ (.int .i64 1) = W1 := ⟨_, rfl⟩
    rw [hW1] at HW1 kp
    have HW1E := Lib.hid hW1; clear hW1
    go_enter Tryz.func100, Tryz.ntmps100
    go_upto_region 4 with (fail)
    rw [HW1E.out]
    clear k0 k1 k2 kf
    have HPL := Lib.hid (H0.out.grown HW1.out.gr (fun g e => by cases e))
    obtain ⟨g, o, z', hcA, _, hgl, hz', hcc⟩ := HPL.out.ctxs.get CxV.row_len hi
    dsimp only at hcA hz'
    obtain rfl : ⟨key, rA, rn, rc, iA, en, ic, rules, incs⟩ = z' := by rw [HZC.out] at hz'; injection hz'
    subst hcA
    have ki := hcc 2 _ rfl
    clear hz' hcc
    have HC := Lib.hid (HPL.out.cok _ (mem_of_get HZC.out))
    have hen : en ≤ 1000000 := HC.out.en
    go_wp2_with fail
    clear kp ki
    go_loopw [7, 28] (fun _ t wr => ∃ (j : Nat) (st1 : List Int), j ≤ en ∧ t = .int .i64 j ∧ RgW w0 ⟨some ⟨g, o, none⟩, cn, cc, hA, hn, hc, ctxs, hours⟩ pb svb fb stb cn wr st1 ∧ DfsInv (incIx ctxs) cn st1 ∧ DfsOn (st.set i 1) st1 ∧ ∀ s, s ∈ incs.take j → sAt st1 (cxIx ctxs s).toNat = 2) (fun _ t _ => en - (intOf t).toNat)
    case atStart => exact ⟨0, _, Nat.zero_le _, rfl, HW1.out, HV1.out, DfsOn.refl _, fun s hs => by simp at hs⟩
    case round =>
      clear HW1 HPL HC HV1
      obtain ⟨j, st1, hj, rfl, hw, hv, hon, hdone⟩ := hrel
      have HW1 := Lib.hid hw; have HV1 := Lib.hid hv; have HON := Lib.hid hon; have HD := Lib.hid hdone
      have HPL := Lib.hid (H0.out.grown hw.gr (fun g e => by cases e))
      have HC := Lib.hid (HPL.out.cok _ (mem_of_get HZC.out))
      clear hw hv hon hdone
      by_cases hlt : j < en
      · obtain ⟨g', o', s, hiA, _, hgl', hz', hcc'⟩ := HC.out.incs.get srow_len hlt
        dsimp only at hiA hz'
        subst hiA
        have ks := hcc' 0 _ rfl
        simp only [Nat.mul_one, Nat.add_zero] at ks
        have HZ2 := Lib.hid hz'
        have hjj : (j : Int) < (en : Int) := by omega
        have hs0 := mis_no HM.out HZC.out (mem_of_get hz')
        obtain ⟨q, y, hq, hy, hyk⟩ := cxIx_some hs0
        have HQ := Lib.hid hq
        have hqS : q ∈ incIx ctxs i := by rw [incIx_at HZC.out]; exact List.mem_map.2 ⟨s, mem_of_get hz', by rw [hq]; rfl⟩
        have HQS := Lib.hid hqS
        have hqn : q < cn := by have := (List.getElem?_eq_some_iff.1 hy).1; have e := H0.out.ctxs.len; dsimp only at e; omega
        clear hz' hcc' hs0 hq hqS hy hyk
        go_upto_region 7 with (fail)
        refine H_begin (fun w' => Blk w' pb 48 #[.slice (some ⟨g, o, none⟩) cn cc, .slice hA hn hc] ∧ Blk w' fb 65 #[.func (.func 100) #[] #[.pointer (some ⟨svb, 0, none⟩), .pointer (some ⟨pb, 0, none⟩), .pointer (some ⟨fb, 0, none⟩)]]) (by kernel_rfl) ?_
        have hHeld : Blk wr.drew pb 48 #[.slice (some ⟨g, o, none⟩) cn cc, .slice hA hn hc] ∧ Blk wr.drew fb 65 #[.func (.func 100) #[] #[.pointer (some ⟨svb, 0, none⟩), .pointer (some ⟨pb, 0, none⟩), .pointer (some ⟨fb, 0, none⟩)]] := ⟨HW1.out.pl.drew, HW1.out.fn.drew⟩
        refine H_take (k := 0) (v := .func (.func 100) #[] #[.pointer (some ⟨svb, 0, none⟩), .pointer (some ⟨pb, 0, none⟩), .pointer (some ⟨fb, 0, none⟩)]) (by rfl) (by kernel_rfl) (by kernel_rfl) (by kernel_rfl) (by exact fun _ _ _ h => h) (by rfl) ?_ hHeld ?_
        · intro w' hSw
          have kc := hSw.2.cell 0
          go_simp
          (try with_reducible rfl)
        (try simp only [Act.put, List.setIfInBounds_toArray, List.set_cons_zero, List.set_cons_succ])
        refine H_take (k := 1) (v := .agg #[.slice (some ⟨g, o, none⟩) cn cc, .slice hA hn hc]) (by rfl) (by kernel_rfl) (by kernel_rfl) (by kernel_rfl) (by exact fun _ _ _ h => h) (by rfl) (fun w' hSw => exec_load_blk' Tryz.plT _ rfl _ rfl 48 [.slice (some ⟨g, o, none⟩) cn cc, .slice hA hn hc] hSw.1 rfl) hHeld ?_
        (try simp only [Act.put, List.setIfInBounds_toArray, List.set_cons_zero, List.set_cons_succ])
        refine H_take (k := 2) (v := ?_) (by rfl) (by kernel_rfl) (by kernel_rfl) (by kernel_rfl) (by exact fun _ _ _ h => h) (by rfl) ?_ (by assumption) ?_
        rotate_left 1
        · intro w hSw
          (try dsimp only at hSw)
          go_simp
          (try with_reducible rfl)
        (try simp only [Act.put, List.setIfInBounds_toArray, List.set_cons_zero, List.set_cons_succ])
        refine H_run (k := 3) (by rfl) (by kernel_rfl) (by rfl) (fun K hK => ?_)
        go_simp
        refine (contextAt_any lo ⟨some ⟨g, o, none⟩, cn, cc, hA, hn, hc, ctxs, hours⟩ s _ (HPL.out.ctxs.grown (gr_drew (gr_refl _ none)) (fun g e => by cases e)) hcn).mono ?_
        rintro e w5 ⟨rfl, hg5⟩
        dsimp only
        rw [show cxIx ctxs s = (q : Int) from HQ.out]
        have HW5 := Lib.hid (HW1.out.quiet (gr_none (gr_drew (gr_refl _ none)) hg5))
        refine hK _ _ ⟨HW5.out.pl, HW5.out.fn⟩ ?_
        clear hK K hHeld hg5
        have hHeld : Blk w5 pb 48 #[.slice (some ⟨g, o, none⟩) cn cc, .slice hA hn hc] ∧ Blk w5 fb 65 #[.func (.func 100) #[] #[.pointer (some ⟨svb, 0, none⟩), .pointer (some ⟨pb, 0, none⟩), .pointer (some ⟨fb, 0, none⟩)]] := ⟨HW5.out.pl, HW5.out.fn⟩
        refine H_run (k := 4) (by rfl) (by kernel_rfl) (by rfl) (fun K hK => ?_)
        go_simp
        refine (ih st1 q _ (Nat.le_trans HON.out.2.2 HZ.out) HW5.out hqn HV1.out (dfs_pre HPR.out (List.getElem?_eq_some_iff.1 HS.out).1 HON.out HQS.out)).mono ?_
        rintro e w6 ⟨b, st2, rfl, hrg2, hpost⟩
        have HW6 := Lib.hid hrg2; have HPO := Lib.hid hpost
        refine hK _ _ ⟨hrg2.pl, hrg2.fn⟩ ?_
        clear hK K hHeld hrg2 hpost
        refine H_done (by kernel_rfl) ?_
        cases b
        · have hpo := HPO.out.2.2 rfl
          have HPF := Lib.hid hpo
          clear hpo
          go_wp2_with fail
          go_roundw
          case rel => exact ⟨j + 1, st2, by omega, by go_num, HW6.out, HPF.out.1, HON.out.trans HPF.out.2.1, fun s' hs' => by
            rw [take_snoc' HZ2.out] at hs'
            rcases List.mem_append.1 hs' with e | e
            · exact HPF.out.2.1.2.1 _ (HD.out s' e)
            · rw [List.mem_singleton.1 e, HQ.out]; exact HPF.out.2.2⟩
          case measure => simp [intOf]; omega
        · have HPT := Lib.hid (HPO.out.2.1 rfl)
          go_wp2_with fail
          go_ret
          exact ⟨true, st2, rfl, HW6.out, HPO.out.1, fun _ => HPT.out, fun e => by cases e⟩
      · obtain rfl : j = en := by omega
        have hl1 : i < st1.length := by rw [HV1.out.1]; exact hi
        have k0 := HW1.out.sv.cell 0
        have kf := HW1.out.st.frozen i
        have hst : ∃ u, st1[i]? = some u := ⟨_, List.getElem?_eq_getElem hl1⟩
        obtain ⟨u, hu⟩ := hst
        have k1 := HW1.out.st.cell i
        rw [colC_get hu] at k1
        have HPO := Lib.hid (show DfsPost (incIx ctxs) cn st i false (st1.set i 2) from dfs_post HS.out hi HV1.out HON.out (fun q hq => by
          rw [incIx_at HZC.out] at hq
          obtain ⟨s, hs, rfl⟩ := List.mem_map.1 hq
          refine HD.out s ?_
          rw [List.take_of_length_le (by have := HC.out.incs.len; dsimp only at this ⊢; omega)]
          exact hs))
        have HWO := Lib.hid (HW1.out.put i 2)
        clear hu
        go_wp2_with fail
        go_ret
        exact ⟨false, _, rfl, HWO.out, HPO.out⟩
  all_goals
    have HP := Lib.hid (show DfsPost (incIx ctxs) cn st i (decide (v = 1)) st from by
      rcases hv12 with rfl | rfl
      · exact ⟨hv.1, fun _ => ⟨i, hi, hp i (sAt_get hsv)⟩, fun e => by simp at e⟩
      · exact ⟨hv.1, fun e => by simp at e, fun _ => ⟨hv, DfsOn.refl _, sAt_get hsv⟩⟩)
    have HW := Lib.hid hw
    have k0 := hw.sv.cell 0
    have k1 := hw.st.cell i
    rw [colC_get hsv] at k1
    clear hw hv hp hz hsv
    rcases hv12 with rfl | rfl
    all_goals
      go_enter Tryz.func100, Tryz.ntmps100
      go_wp2_with fail
      go_ret
      exact ⟨_, st, rfl, HW.out, HP.out⟩
set_option maxHeartbeats 8000000 in
set_option maxRecDepth 100000 in
theorem checkPlan_any (lo : Nat) (p : PlV) (LB : Bool) (w : World) (h : PlOk w lo p) (hLB : LB = true ↔ Loops p.ctxs) :
    Calls Tryz.prog 63 #[.agg #[.slice p.cA p.cn p.cc, .slice p.hA p.hn p.hc]] w (RetV (.int .i64 (plE p LB)) w) := by
  obtain ⟨cA, cn, cc, hA, hn, hc, ctxs, hours⟩ := p
  have hcn : cn ≤ 1000000 := h.cn
  have hhn : hn ≤ 1000000 := h.hn
  have hlen := h.ctxs.len
  dsimp only at hlen hLB ⊢
  obtain ⟨W1, hW⟩ : ∃ W1, w.alloc (.cells #[.slice cA cn cc, .slice hA hn hc] 48) = W1 := ⟨_, rfl⟩
  have HP := Lib.hid (show Blk W1 w.heap.size 48 #[.slice cA cn cc, .slice hA hn hc] by rw [← hW]; exact Blk.new _ _ _)
  have HG := Lib.hid (show w.grownBy W1 none by rw [← hW]; exact gr_alloc (gr_refl _ _) _)
  have HPL := Lib.hid (h.grown HG.out (fun g e => by cases e))
  have H0 := Lib.hid h
  have HW := Lib.hid hW
  have HLB := Lib.hid hLB
  have HLEN := Lib.hid hlen
  have hmk := run_make1 Tryz.inT cn rfl (by omega) (by omega)
  clear h hW hLB hlen
  obtain ⟨E0, hE0⟩ : ∃ E, hrsE hours = E := ⟨_, rfl⟩
  have HE0 := Lib.hid hE0; clear hE0
  go_enter Tryz.func63, Tryz.ntmps63
  go_upto_region 1 with (fail)
  rw [HW.out]
  have k1 := HP.out.cell 1
  go_wp2_with fail
  refine (checkHours_any lo hA hn hc hours _ HPL.out.hours (by omega)).mono ?_
  rintro e w2 ⟨rfl, hg2⟩
  rw [HE0.out]
  clear k1
  replace HP := Lib.hid (HP.out.grown hg2 (by simp))
  replace HPL := Lib.hid (HPL.out.grown hg2 (fun g e => by cases e))
  replace HG := Lib.hid (gr_none HG.out hg2)
  clear hg2
  by_cases e0 : E0 = 0
  · have dE : (E0 != 0) = false := by simpa using e0
    have HV := Lib.hid (show plE ⟨cA, cn, cc, hA, hn, hc, ctxs, hours⟩ LB = if 50 < cn then 2 else (if fstE (cxAt hours ctxs) cn = 0 then (if misB ctxs = true then 8 else (if LB = true then 14 else 0)) else fstE (cxAt hours ctxs) cn) by unfold plE; dsimp only; rw [if_pos (HE0.out.trans e0)])
    have k0 := HP.out.cell 0
    by_cases c50 : 50 < cn
    · have d50 : decide ((50 : Int) < (cn : Int)) = true := decide_eq_true (by omega)
      rw [if_pos c50] at HV
      go_wp2_with fail
      go_ret
      exact ⟨by rw [HV.out]; try rfl, HG.out⟩
    · have d50 : decide ((50 : Int) < (cn : Int)) = false := decide_eq_false (by omega)
      rw [if_neg c50] at HV
      go_wp2_with fail
      clear k0
      go_loopw [4, 5, 26] (fun _ _ t wr => ∃ k : Nat, k ≤ cn ∧ t = .int .i64 k ∧ w.grownBy wr none ∧ PlOk wr lo ⟨cA, cn, cc, hA, hn, hc, ctxs, hours⟩ ∧ Blk wr w.heap.size 48 #[.slice cA cn cc, .slice hA hn hc] ∧ fstE (cxAt hours ctxs) k = 0) (fun _ _ t _ => cn - (intOf t).toNat)
      case atStart => exact ⟨0, Nat.zero_le _, rfl, HG.out, HPL.out, HP.out, rfl⟩
      case round =>
        clear HG HPL HP
        obtain ⟨k, hk, rfl, hg, hpl, hp, ha⟩ := hrel
        have HG := Lib.hid hg; have HPL := Lib.hid hpl; have HP := Lib.hid hp
        clear hg hpl hp
        have HA := Lib.hid ha; clear ha
        by_cases hlt : k < cn
        · obtain ⟨⟨key, rA, rn, rc, iA, en, ic, rules, incs⟩, hzc⟩ : ∃ z, ctxs[k]? = some z := ⟨_, List.getElem?_eq_getElem (by have := HPL.out.ctxs.len; dsimp only at this; omega)⟩
          have HZC := Lib.hid hzc; clear hzc
          obtain ⟨E, hE⟩ : ∃ E, cxAt hours ctxs k = E := ⟨_, rfl⟩
          have HE := Lib.hid hE; clear hE
          go_wp2_with (first
            | (refine wpl_load_all Tryz.plT rfl _ rfl _ rfl _ _ HP.out rfl ?_)
            | fail)
          refine (checkContext_any lo ⟨cA, cn, cc, hA, hn, hc, ctxs, hours⟩ k ⟨key, rA, rn, rc, iA, en, ic, rules, incs⟩ _ HPL.out HZC.out).mono ?_
          rintro e w3 ⟨rfl, hg3⟩
          dsimp only
          rw [HE.out]
          replace HP := Lib.hid (HP.out.grown hg3 (by simp))
          replace HPL := Lib.hid (HPL.out.grown hg3 (fun g e => by cases e))
          replace HG := Lib.hid (gr_none HG.out hg3)
          clear hg3
          by_cases c0 : E = 0
          · have dE3 : (E != 0) = false := by simpa using c0
            have HN := Lib.hid (HE.out.trans c0)
            go_wp2_with fail
            go_roundw
            case rel => exact ⟨k + 1, by omega, by go_num, HG.out, HPL.out, HP.out, fstE_zero HA.out HN.out⟩
            case measure => simp [intOf]; omega
          · have dE3 : (E != 0) = true := by simpa using c0
            have HF := Lib.hid (fst_ret (X := (if misB ctxs = true then 8 else (if LB = true then 14 else 0))) HA.out HE.out c0 hlt)
            go_wp2_with fail
            go_ret
            exact ⟨by rw [HV.out, HF.out]; try rfl, HG.out⟩
        · obtain rfl : k = cn := by omega
          rw [if_pos HA.out] at HV
          clear HA
          have k0 := HP.out.cell 0
          go_wp2_with fail
          clear k0
          go_loopw [7, 9, 39] (fun _ _ t wr => ∃ q : Nat, q ≤ k ∧ t = .int .i64 q ∧ w.grownBy wr none ∧ PlOk wr lo ⟨cA, k, cc, hA, hn, hc, ctxs, hours⟩ ∧ Blk wr w.heap.size 48 #[.slice cA k cc, .slice hA hn hc] ∧ (ctxs.take q).all (fun z => !(misC ctxs z)) = true) (fun _ _ t _ => k - (intOf t).toNat)
          case atStart => exact ⟨0, Nat.zero_le _, rfl, HG.out, HPL.out, HP.out, by simp⟩
          case round =>
            clear HG HPL HP
            obtain ⟨q, hq, rfl, hg, hpl, hp, ha⟩ := hrel
            have HG := Lib.hid hg; have HPL := Lib.hid hpl; have HP := Lib.hid hp
            clear hg hpl hp
            have HA := Lib.hid ha; clear ha
            by_cases hlt : q < k
            · obtain ⟨⟨key, rA, rn, rc, iA, en, ic, rules, incs⟩, hzc⟩ : ∃ z, ctxs[q]? = some z := ⟨_, List.getElem?_eq_getElem (by have := HPL.out.ctxs.len; dsimp only at this; omega)⟩
              have HZC := Lib.hid hzc; clear hzc
              obtain ⟨g, o, z', hcA, _, hgl, hz', hcc⟩ := HPL.out.ctxs.get CxV.row_len hlt
              dsimp only at hcA hz'
              obtain rfl : ⟨key, rA, rn, rc, iA, en, ic, rules, incs⟩ = z' := by rw [HZC.out] at hz'; injection hz'
              subst hcA
              have HCC := Lib.hid hcc
              clear hz' hcc
              have HC := Lib.hid (HPL.out.cok _ (mem_of_get HZC.out))
              have hen : en ≤ 1000000 := HC.out.en
              have hqk : (q : Int) < (k : Int) := by omega
              obtain ⟨W3, hW3⟩ : ∃ W3, wr.alloc (.cells #[.string key, .slice rA rn rc, .slice iA en ic] 89) = W3 := ⟨_, rfl⟩
              have HB := Lib.hid (show Blk W3 wr.heap.size 89 #[.string key, .slice rA rn rc, .slice iA en ic] by rw [← hW3]; exact Blk.new _ _ _)
              have hg3 : wr.grownBy W3 none := by rw [← hW3]; exact gr_alloc (gr_refl _ _) _
              have HW3 := Lib.hid hW3; clear hW3
              go_upto_region 16 with (first
                | (refine wpl_load_at Tryz.cxT rfl _ rfl _ rfl [.string key, .slice rA rn rc, .slice iA en ic] rfl (fun j u hu => by rw [add_mk]; exact HCC.out j u hu) ?_)
                | fail)
              rw [HW3.out]
              replace HC := Lib.hid (HC.out.grown hg3 (fun g e => by cases e))
              replace HP := Lib.hid (HP.out.grown hg3 (by simp))
              replace HPL := Lib.hid (HPL.out.grown hg3 (fun g e => by cases e))
              replace HG := Lib.hid (gr_none HG.out hg3)
              clear hg3
              have kc := HB.out.cell 2
              go_wp2_with fail
              clear kc HB HCC
              obtain ⟨wo, rfl⟩ : ∃ wo : World, wo = W3 := ⟨_, rfl⟩
              go_loopw [9, 46] (fun _ t wr => ∃ j : Nat, j ≤ en ∧ t = .int .i64 j ∧ w.grownBy wr none ∧ PlOk wr lo ⟨some ⟨g, o, none⟩, k, cc, hA, hn, hc, ctxs, hours⟩ ∧ Blk wr w.heap.size 48 #[.slice (some ⟨g, o, none⟩) k cc, .slice hA hn hc] ∧ CxOk wr lo ⟨key, rA, rn, rc, iA, en, ic, rules, incs⟩ ∧ (incs.take j).all (fun s => !decide (cxIx ctxs s < 0)) = true) (fun _ t _ => en - (intOf t).toNat)
              case atStart => exact ⟨0, Nat.zero_le _, rfl, HG.out, HPL.out, HP.out, HC.out, by simp⟩
              case round =>
                clear HG HPL HP HC
                obtain ⟨j, hj, rfl, hg, hpl, hp, hcx, ha⟩ := hrel
                have HG := Lib.hid hg; have HPL := Lib.hid hpl; have HP := Lib.hid hp
                clear hg hpl hp
                have HC := Lib.hid hcx; have HA2 := Lib.hid ha; clear hcx ha
                by_cases hlt2 : j < en
                · obtain ⟨g', o', s, hiA, _, hgl', hz', hcc'⟩ := HC.out.incs.get srow_len hlt2
                  dsimp only at hiA hz'
                  subst hiA
                  have ks := hcc' 0 _ rfl
                  simp only [Nat.mul_one, Nat.add_zero] at ks
                  have HZ2 := Lib.hid hz'
                  have hjj : (j : Int) < (en : Int) := by omega
                  obtain ⟨I, hI⟩ : ∃ I, cxIx ctxs s = I := ⟨_, rfl⟩
                  have HI := Lib.hid hI
                  clear hz' hcc' hI
                  go_wp2_with (first
                    | (refine wpl_load_all Tryz.plT rfl _ rfl _ rfl _ _ HP.out rfl ?_)
                    | fail)
                  refine (contextAt_any lo ⟨some ⟨g, o, none⟩, k, cc, hA, hn, hc, ctxs, hours⟩ s _ HPL.out.ctxs hcn).mono ?_
                  rintro e w4 ⟨rfl, hg4⟩
                  dsimp only
                  rw [HI.out]
                  replace HC := Lib.hid (HC.out.grown hg4 (fun g e => by cases e))
                  replace HP := Lib.hid (HP.out.grown hg4 (by simp))
                  replace HPL := Lib.hid (HPL.out.grown hg4 (fun g e => by cases e))
                  replace HG := Lib.hid (gr_none HG.out hg4)
                  clear hg4
                  clear ks
                  by_cases c0 : I < 0
                  · have d0 : decide (I < 0) = true := decide_eq_true c0
                    have HM := Lib.hid (show misB ctxs = true by
                      unfold misB; refine any_at HZC.out ?_
                      unfold misC; refine any_at HZ2.out ?_
                      rw [HI.out]; exact decide_eq_true c0)
                    rw [if_pos HM.out] at HV
                    go_wp2_with fail
                    go_ret
                    exact ⟨by rw [HV.out]; try rfl, HG.out⟩
                  · have d0 : decide (I < 0) = false := decide_eq_false c0
                    have HN := Lib.hid (show decide (cxIx ctxs s < 0) = false by rw [HI.out]; exact d0)
                    go_wp2_with fail
                    go_roundw
                    case rel => exact ⟨j + 1, by omega, by go_num, HG.out, HPL.out, HP.out, HC.out, allP_succ (p := fun s => decide (cxIx ctxs s < 0)) HA2.out HZ2.out HN.out⟩
                    case measure => simp [intOf]; omega
                · obtain rfl : en = j := by omega
                  have HN := Lib.hid (show misC ctxs ⟨key, rA, rn, rc, iA, en, ic, rules, incs⟩ = false by
                    unfold misC; dsimp only
                    have h := HA2.out
                    rw [List.take_of_length_le (by have := HC.out.incs.len; dsimp only at this; omega)] at h
                    exact any_no h)
                  go_wp2_with fail
                  go_roundw
                  case rel => exact ⟨q + 1, by omega, by go_num, HG.out, HPL.out, HP.out, allP_succ (p := misC ctxs) HA.out HZC.out HN.out⟩
                  case measure => simp [intOf]; omega
            · obtain rfl : q = k := by omega
              have HM := Lib.hid (show misB ctxs = false by
                unfold misB
                have h := HA.out
                rw [List.take_of_length_le (by rw [HLEN.out]; exact Nat.le_refl _)] at h
                exact any_no h)
              rw [if_neg (by rw [HM.out]; decide)] at HV
              clear HA
              have k0 := HP.out.cell 0
              go_upto_region 26 with (fail)
              obtain ⟨WQ, hWQ⟩ : ∃ WQ, ((wr.alloc (.cells (Array.replicate q (.int .i64 0)) 3)).alloc (.cells #[.slice (some ⟨wr.heap.size, 0, none⟩) q q] 22)).alloc (.cells #[.func (.func 100) #[] #[.pointer (some ⟨wr.heap.size + 1, 0, none⟩), .pointer (some ⟨w.heap.size, 0, none⟩), .pointer (some ⟨wr.heap.size + 1 + 1, 0, none⟩)]] 65) = WQ := ⟨_, rfl⟩
              rw [hWQ]
              have HRG := Lib.hid (show RgW w ⟨cA, q, cc, hA, hn, hc, ctxs, hours⟩ w.heap.size (wr.heap.size + 1) (wr.heap.size + 1 + 1) wr.heap.size q WQ (List.replicate q 0) from by
                have z := HP.out.lt
                have zg := HG.out.size
                rw [← hWQ]
                exact ⟨gr_alloc (gr_alloc (gr_alloc HG.out _) _) _, zg, ⟨by omega, by omega, by omega⟩, ((HP.out.alloc _).alloc _).alloc _, (blk_newH _ _ _ (by simp)).alloc _, blk_newH _ _ _ (by simp), by rw [colC_new]; exact ((Blk.new _ _ _).alloc _).alloc _⟩)
              clear k0 hWQ HP HPL HG hmk
              obtain ⟨wz, rfl⟩ : ∃ wz : World, wz = wr := ⟨_, rfl⟩
              have k0 := HRG.out.pl.cell 0
              go_wp2_with fail
              clear k0
              go_loopw [12, 64] (fun _ t wr => ∃ (k : Nat) (st : List Int), k ≤ q ∧ t = .int .i64 k ∧ RgW w ⟨cA, q, cc, hA, hn, hc, ctxs, hours⟩ w.heap.size (wz.heap.size + 1) (wz.heap.size + 1 + 1) wz.heap.size q wr st ∧ DfsInv (incIx ctxs) q st ∧ (∀ g, sAt st g ≠ 1) ∧ ∀ x, x < k → sAt st x = 2) (fun _ t _ => q - (intOf t).toNat)
              case atStart => exact ⟨0, _, Nat.zero_le _, rfl, HRG.out, DfsInv.new _ _, fun g => by rw [sAt_zero]; decide, fun x hx => by omega⟩
              case round =>
                clear HRG
                obtain ⟨k, st, hk, rfl, hrg, hinv, hgr, hdn⟩ := hrel
                have HRG := Lib.hid hrg; have HI := Lib.hid hinv; have HGR := Lib.hid hgr; have HD := Lib.hid hdn
                clear hrg hinv hgr hdn
                by_cases hlt : k < q
                · have kf := HRG.out.fn.cell 0
                  go_wp2_with fail
                  refine (rings_any lo ⟨cA, q, cc, hA, hn, hc, ctxs, hours⟩ w.heap.size (wz.heap.size + 1) (wz.heap.size + 1 + 1) wz.heap.size w H0.out HM.out (zer st) st k _ (Nat.le_refl _) HRG.out hlt HI.out (fun g hg => absurd hg (HGR.out g))).mono ?_
                  rintro e w5 ⟨b, st2, rfl, hrg2, hpost⟩
                  have HW5 := Lib.hid hrg2; have HPO := Lib.hid hpost
                  clear kf hrg2 hpost
                  cases b
                  · have HPF := Lib.hid (HPO.out.2.2 rfl)
                    go_wp2_with fail
                    go_roundw
                    case rel => exact ⟨k + 1, st2, by omega, by go_num, HW5.out, HPF.out.1, fun g e => HGR.out g ((HPF.out.2.1.1 g).1 e), fun x hx => by
                      rcases Nat.lt_or_ge x k with h1 | h1
                      · exact HPF.out.2.1.2.1 x (HD.out x h1)
                      · obtain rfl : x = k := by omega
                        exact HPF.out.2.2⟩
                    case measure => simp [intOf]; omega
                  · have HL := Lib.hid (show LB = true from HLB.out.2 (dfs_loops (by rw [HLEN.out]; exact HPO.out.2.1 rfl)))
                    rw [if_pos HL.out] at HV
                    go_wp2_with fail
                    go_ret
                    exact ⟨by rw [HV.out]; try rfl, HW5.out.gr⟩
                · obtain rfl : k = q := by omega
                  have HL := Lib.hid (show ¬ LB = true from fun e => dfs_none (by rw [HLEN.out]; exact HI.out) (fun x hx => HD.out x (by rw [HLEN.out] at hx; exact hx)) (HLB.out.1 e))
                  rw [if_neg HL.out] at HV
                  go_wp2_with fail
                  go_ret
                  exact ⟨by rw [HV.out]; try rfl, HRG.out.gr⟩
  · have dE : (E0 != 0) = true := by simpa using e0
    have HV := Lib.hid (show plE ⟨cA, cn, cc, hA, hn, hc, ctxs, hours⟩ LB = E0 by unfold plE; dsimp only; rw [if_neg (by rw [HE0.out]; exact e0), HE0.out])
    go_wp2_with fail
    go_ret
    exact ⟨by rw [HV.out]; try rfl, HG.out⟩
end Go.Proofs.YtfakdalpaopjaaaGreatDoor

/- Contracts of the document's costs, at its two ways to name a charge. Conditions: at most 3000 charges, each ChOk. -/
import Derived.Test.YtlkibeckfpjccaaGreatDoorBun5
import Derived.Test.YtlkibeckfpjccaaGreatDoorRc10
import Derived.Test.YtlkibeckfpjccaaGreatDoorBun1
import Derived.Test.YtlkibeckfpjccaaGreatDoorBun3
namespace Go.Proofs.YtlkibeckfpjccaaGreatDoor
open Go.RowKit Go.Maps Go.WideMaps

section
variable {α : Type} {enc : α → Value} {w : World} {o : Oper} {a : Act} {K : Act → World → Prop} {Q : Exit → Act → World → Prop} {b n : Nat} {f : ByteArray → Option α}
theorem exec_glook {ev : Operand → Value} (t : TypeId) (m x : Operand) (hop : o.op = Op.lookup t m x false) {e : TypeId} (ht : Tryz.prog.underlying t = some (.map 9 e)) {zv : Value} (hz : (zeroValue e).run Tryz.prog w = .ok zv w) (hm : ev m = .map (some b)) (k : ByteArray) (hx : ev x = .string k) (hw : k.size ≤ maxLen) (h : MapG enc w b n f) :
    (execOp ev o).run Tryz.prog w = .ok (.value ((f k).elim zv enc)) w := by
  unfold execOp
  simp [hop, hm, hx, (h.look ht hz hw).1, Result.andThen]
theorem wp_gput (hi : ∀ a b, enc a = enc b → a = b) (t : TypeId) (m x v : Operand) (hop : o.op = Op.mapUpdate t m x v) {e : TypeId} (ht : Tryz.prog.underlying t = some (.map 9 e)) (hm : a.eval m = .map (some b)) (k : ByteArray) (u : α) (hx : a.eval x = .string k) (hv : a.eval v = enc u) (hw : k.size ≤ maxLen) (h : MapG enc w b n f) (hn : n < maxLen)
    (hK : ∀ w', MapG enc w' b (n + 1) (fun k' => if nb k = nb k' then some u else f k') → w.grownBy w' (some b) → K (a.put o.dst undef) w') : o.wp Tryz.prog a w K Q := by
  obtain ⟨w', hrun, h1, h2⟩ := h.put hi ht hn u hw
  unfold Oper.wp
  simp [execOp, hop, hm, hx, hv, hrun, Result.andThen]
  exact hK w' h1 h2
end
set_option maxHeartbeats 1000000 in
theorem whoC_any (c : ChV) (w : World) : Calls Tryz.prog 43 #[.agg #[.string c.rec_, .string c.pay, .string c.cls, .int .i64 c.free, .int .i64 c.cost]] w (RetV (.string c.pay) w) := by
  go_enter Tryz.func43, Tryz.ntmps43
  go_wp2_with fail
  go_ret
  exact ⟨rfl, gr_alloc (gr_refl _ _) _⟩
set_option maxHeartbeats 8000000 in
set_option maxRecDepth 100000 in
theorem costsWho_any (lo : Nat) (A : Option Addr) (n c : Nat) (L : List (ChV × RcV))  (w : World) (h : Recs ChV.row 5 w lo A n c (L.map (·.1))) (hn : n ≤ 3000) (hok : ∀ x ∈ L, ChOk x) (hsz : ∀ x ∈ L, x.1.pay.size ≤ 1000 ∧ x.2.too.size ≤ 1000) :
    Calls Tryz.prog 44 #[.slice A n c, .func (.func 43) #[] #[]] w (fun e w' => ∃ b, e = .returned (.map (some b)) ∧ w.heap.size ≤ b ∧ MapG (Value.int .i64) w' b n (fun k => sumF (·.1.pay) L k) ∧ w.grownBy w' none) := by
  have H := Lib.hid h; have HOK := Lib.hid hok; have HSZ := Lib.hid hsz
  have HLN := Lib.hid (show L.length = n by rw [← h.len, List.length_map])
  clear h hok hsz
  have hmm := @run_makeMap Tryz.prog
  go_enter Tryz.func44, Tryz.ntmps44
  go_wp2_with fail
  clear hmm
  obtain ⟨mb, hmb⟩ : ∃ mb, w.heap.size = mb := ⟨_, rfl⟩
  obtain ⟨wm, hwm⟩ : ∃ wm, w.alloc (.map #[] 0) = wm := ⟨_, rfl⟩
  (try rw [hwm])
  (try rw [hmb])
  have HM0 := Lib.hid (show MapG (Value.int .i64) wm mb 0 (fun k => sumF (·.1.pay) (L.take 0) k) by rw [← hwm, ← hmb, List.take_zero, sumF_nil]; exact MapG.new _ _)
  have HG0 := Lib.hid (show w.grownBy wm none by rw [← hwm]; exact gr_alloc (gr_refl _ _) _)
  have HMB := Lib.hid hmb
  have hzm : wm.heap.size = mb + 1 := by rw [← hwm, ← hmb]; simp
  clear hwm hmb
  go_loopw [7, 11] (fun _ t wr => ∃ i : Nat, i ≤ n ∧ t = .int .i64 i ∧ wm.grownBy wr (some mb) ∧ MapG (Value.int .i64) wr mb i (fun k => sumF (·.1.pay) (L.take i) k)) (fun _ t _ => n - (intOf t).toNat)
  case atStart => exact ⟨0, Nat.zero_le _, rfl, gr_refl _ _, HM0.out⟩
  case round =>
    obtain ⟨i, hi, rfl, hg, hm⟩ := hrel
    have HG := Lib.hid hg; have HM := Lib.hid hm; clear hg hm
    have HGw := Lib.hid (show w.grownBy wr none from gr_trans HG0.out HG.out (fun g e => .inr (by injection e with e; have := HMB.out; omega)))
    have zr := HG.out.size
    by_cases hlt : i < n
    · obtain ⟨g, o, z, rfl, _, hgl, hz, hcc⟩ := (H.out.grown HGw.out (fun g e => by cases e)).get ChV.row_len hlt
      obtain ⟨x, hx, hxz⟩ : ∃ x, L[i]? = some x ∧ x.1 = z := by
        rw [List.getElem?_map] at hz
        cases hL : L[i]? with
        | none => rw [hL] at hz; cases hz
        | some x => rw [hL] at hz; exact ⟨x, rfl, Option.some.inj hz⟩
      subst hxz
      have HX := Lib.hid hx; have HC := Lib.hid hcc
      obtain ⟨s1, s2⟩ := HSZ.out x (mem_of_get hx)
      have hbd := costK_take (f := (·.1.pay)) (i := i) (k := x.1.pay) HOK.out (by rw [HLN.out]; omega)
      obtain ⟨_, _, b3, b4⟩ := HOK.out x (mem_of_get hx)
      have HSU := Lib.hid (show (fun k => if nb x.1.pay = nb k then some (costK (·.1.pay) (L.take i) x.1.pay + x.1.cost) else sumF (·.1.pay) (L.take i) k) = fun k => sumF (·.1.pay) (L.take (i + 1)) k from sumF_succ (f := (·.1.pay)) hx)
      clear hz hcc hx
      obtain ⟨wa, hwa⟩ : ∃ wa, wr.alloc (.cells #[.string x.1.rec_, .string x.1.pay, .string x.1.cls, .int .i64 x.1.free, .int .i64 x.1.cost] 67) = wa := ⟨_, rfl⟩
      obtain ⟨zb, hzb⟩ : ∃ b, wr.heap.size = b := ⟨_, rfl⟩
      have HB := Lib.hid (show Blk wa zb 67 #[.string x.1.rec_, .string x.1.pay, .string x.1.cls, .int .i64 x.1.free, .int .i64 x.1.cost] by rw [← hwa, ← hzb]; exact Blk.new _ _ _)
      have hga : wr.grownBy wa none := by rw [← hwa]; exact gr_alloc (gr_refl _ _) _
      have HMa := Lib.hid (HM.out.kept hga (by simp))
      have HGa := Lib.hid (gr_none HG.out hga)
      have HGwa := Lib.hid (gr_none HGw.out hga)
      have zz : mb < zb := by rw [← hzb]; exact HM.out.lt
      have HWA := Lib.hid hwa; have HZB := Lib.hid hzb; clear hwa hzb hga
      go_upto_region 5 with (first
        | (refine wpl_load_at Tryz.chT rfl _ rfl _ rfl [.string x.1.rec_, .string x.1.pay, .string x.1.cls, .int .i64 x.1.free, .int .i64 x.1.cost] rfl (fun j u hu => by rw [add_mk]; exact HC.out j u hu) ?_)
        | fail)
      rw [HWA.out]
      (try rw [HZB.out])
      clear HWA HZB HC
      have kc4 := HB.out.cell 4
      refine wp_region_B (fun w' => wa.grownBy w' none) 8 (by kernel_rfl) ?_
      have hHeld : wa.grownBy wa.drew none := gr_drew (gr_refl _ _)
      generalize wa.drew = wd at hHeld ⊢
      refine B_take (k := 0) false (v := ?_) (by rfl) (by kernel_rfl) (by exact fun _ _ _ h => h) (by rfl) ?_ (by first | exact .inr hHeld | exact .inl (by rfl)) ?_
      rotate_left 1
      · intro w hSw
        clear hSw
        go_simp
        (try with_reducible rfl)
      (try simp only [Act.put, List.setIfInBounds_toArray, List.set_cons_zero, List.set_cons_succ])
      refine B_take (k := 1) false (v := ?_) (by rfl) (by kernel_rfl) (by exact fun _ _ _ h => h) (by rfl) ?_ (by first | exact .inr hHeld | exact .inl (by rfl)) ?_
      rotate_left 1
      · intro w hSw
        clear hSw
        go_simp
        (try with_reducible rfl)
      (try simp only [Act.put, List.setIfInBounds_toArray, List.set_cons_zero, List.set_cons_succ])
      refine B_take (k := 2) true (v := .agg #[.string x.1.rec_, .string x.1.pay, .string x.1.cls, .int .i64 x.1.free, .int .i64 x.1.cost]) (by rfl) (by kernel_rfl) (by exact fun _ _ _ h => h) (by rfl) (fun w' hSw => exec_ldb Tryz.chT _ rfl _ rfl 67 [.string x.1.rec_, .string x.1.pay, .string x.1.cls, .int .i64 x.1.free, .int .i64 x.1.cost] (HB.out.grown hSw (by simp)) rfl) (.inr hHeld) ?_
      (try simp only [Act.put, List.setIfInBounds_toArray, List.set_cons_zero, List.set_cons_succ])
      refine B_take (k := 5) false (v := ?_) (by rfl) (by kernel_rfl) (by exact fun _ _ _ h => h) (by rfl) ?_ (by first | exact .inr hHeld | exact .inl (by rfl)) ?_
      rotate_left 1
      · intro w hSw
        clear hSw
        go_simp
        (try with_reducible rfl)
      (try simp only [Act.put, List.setIfInBounds_toArray, List.set_cons_zero, List.set_cons_succ])
      refine B_take (k := 6) true (v := ?_) (by rfl) (by kernel_rfl) (by exact fun _ _ _ h => h) (by rfl) ?_ (.inr hHeld) ?_
      rotate_left 1
      · intro w' hSw
        have kc := (HB.out.grown hSw (by simp)).cell 4
        go_simp
        (try with_reducible rfl)
      (try simp only [Act.put, List.setIfInBounds_toArray, List.set_cons_zero, List.set_cons_succ])
      refine B_run (k := 3) (by rfl) (by kernel_rfl) (by rfl) (fun K hK => ?_)
      go_simp
      refine (whoC_any x.1 _).mono ?_
      rintro e w2 ⟨rfl, hg2⟩
      have hh1 := gr_none hHeld hg2
      refine hK _ _ (.inr hh1) ?_
      clear hK K hHeld hg2
      have hHeld := hh1
      clear hh1
      (try simp only [Act.put, List.setIfInBounds_toArray, List.set_cons_zero, List.set_cons_succ])
      refine B_take (k := 4) true (v := .int .i64 (costK (·.1.pay) (L.take i) x.1.pay)) (by rfl) (by kernel_rfl) (by exact fun _ _ _ h => h) (by rfl) (fun w' hSw => (exec_glook 63 _ _ rfl Tryz.underlying63 (Tryz.zeroSI w') rfl x.1.pay rfl (by unfold maxLen; omega) (HMa.out.kept hSw (by simp))).trans (by rw [sumF_val])) (.inr hHeld) ?_
      (try simp only [Act.put, List.setIfInBounds_toArray, List.set_cons_zero, List.set_cons_succ])
      obtain ⟨V, hV⟩ : ∃ v, costK (·.1.pay) (L.take i) x.1.pay = v := ⟨_, rfl⟩
      rw [hV] at hbd HSU ⊢
      clear hV
      have sw : IntKind.i64.wrap (V + x.1.cost) = V + x.1.cost := IntWalk.i64_in _ (by omega)
      refine B_take (k := 7) false (v := ?_) (by rfl) (by kernel_rfl) (by exact fun _ _ _ h => h) (by rfl) ?_ (by first | exact .inr hHeld | exact .inl (by rfl)) ?_
      rotate_left 1
      · intro w hSw
        clear hSw
        go_simp
        (try with_reducible rfl)
      (try simp only [Act.put, List.setIfInBounds_toArray, List.set_cons_zero, List.set_cons_succ])
      refine B_run (k := 8) (by rfl) (by kernel_rfl) (by rfl) (fun K hK => ?_)
      refine wp_gput (fun a b h => by injection h) 63 _ _ _ rfl Tryz.underlying63 rfl x.1.pay (V + x.1.cost) rfl rfl (by unfold maxLen; omega) (HMa.out.kept hHeld (by simp)) (by unfold maxLen; omega) ?_
      intro w3 hput hg3
      refine hK _ _ (.inl (by rfl)) ?_
      clear hK K
      (try simp only [Act.put, List.setIfInBounds_toArray, List.set_cons_zero, List.set_cons_succ])
      refine B_done (by kernel_rfl) ?_
      have HPT := Lib.hid (show MapG (Value.int .i64) w3 mb (i + 1) (fun k => sumF (·.1.pay) (L.take (i + 1)) k) by rw [← HSU.out]; exact hput)
      have HG3 := Lib.hid (gr_trans (gr_none HGa.out hHeld) hg3 (fun g e => .inl e.symm))
      clear hput hg3 hHeld sw
      go_wp2_with fail
      go_roundw
      case rel => exact ⟨i + 1, by omega, by go_num, HG3.out, HPT.out⟩
      case measure => simp [intOf]; omega
    · obtain rfl : i = n := by omega
      have hm := HM.out
      rw [List.take_of_length_le (by rw [HLN.out]; exact Nat.le_refl _)] at hm
      have HMF := Lib.hid hm
      clear hm
      go_wp2_with fail
      go_ret
      exact ⟨mb, rfl, by rw [HMB.out]; exact Nat.le_refl _, HMF.out, HGw.out⟩
end Go.Proofs.YtlkibeckfpjccaaGreatDoor

/- Contracts of the closures of the document's TopOf, and of costs at the number that was called. Conditions: at most 3000 charges and records, Ids apart. -/
import Derived.Test.YtlkibeckfpjccaaGreatDoorTc3
namespace Go.Proofs.YtlkibeckfpjccaaGreatDoor
open Go.RowKit Go.Maps Go.WideMaps

set_option maxHeartbeats 1000000 in
theorem sameC_any (x : RcV) (c : ChV) (cb : Nat) (w : World) (hb : Blk w cb 67 #[.string c.rec_, .string c.pay, .string c.cls, .int .i64 c.free, .int .i64 c.cost]) :
    Calls Tryz.prog 48 #[.agg #[.string x.id, .string x.frm, .string x.too, .int .i64 x.at_, .int .i64 x.ring, .int .i64 x.talk, .int .i64 x.how, .string x.car], .pointer (some ⟨cb, 0, none⟩)] w (RetV (.bool (nb x.id == nb c.rec_)) w) := by
  have hlt := hb.lt
  have kc : (w.alloc (.cells #[.string x.id, .string x.frm, .string x.too, .int .i64 x.at_, .int .i64 x.ring, .int .i64 x.talk, .int .i64 x.how, .string x.car] 69)).cell? ⟨cb, 0, none⟩ = some (.string c.rec_) := (hb.alloc _).cell 0
  have HE := Lib.hid (eqS_nb x.id c.rec_)
  clear hb
  go_enter Tryz.func48, Tryz.ntmps48
  go_wp2_with fail
  go_ret
  exact ⟨by rw [← HE.out]; rfl, gr_alloc (gr_refl _ _) _⟩
set_option maxHeartbeats 4000000 in
theorem idC_any (lo : Nat) (A : Option Addr) (n c0 : Nat) (l : List RcV) (c : ChV) (cb : Nat) (w : World) (h : Recs RcV.row 8 w lo A n c0 l) (hn : n ≤ 1000000000000) (h_B : Blk w cb 67 #[.string c.rec_, .string c.pay, .string c.cls, .int .i64 c.free, .int .i64 c.cost]) :
    Calls Tryz.prog 47 #[.slice A n c0, .func (.func 48) #[] #[.pointer (some ⟨cb, 0, none⟩)]] w (RetV (.int .i64 (idxP (fun y : RcV => nb y.id == nb c.rec_) l)) w) := by
  have H := Lib.hid h; have HB := Lib.hid h_B; clear h h_B
  go_enter Tryz.func47, Tryz.ntmps47
  go_wp2_with fail
  go_loopw [5, 8] (fun _ t' wr => ∃ i : Nat, i ≤ n ∧ t' = .int .i64 i ∧ w.grownBy wr none ∧ (l.take i).all (fun x => !((fun y : RcV => nb y.id == nb c.rec_) x)) = true) (fun _ t' _ => n - (intOf t').toNat)
  case atStart => exact ⟨0, Nat.zero_le _, rfl, gr_refl _ _, by simp⟩
  case round =>
    obtain ⟨i, hi, rfl, hg, ha⟩ := hrel
    have HA := Lib.hid ha; have HG := Lib.hid hg; clear ha hg
    by_cases hlt : i < n
    · obtain ⟨g, o, b, rfl, _, hgl, hz, hc⟩ := (H.out.grown HG.out (fun g e => by cases e)).get RcV.row_len hlt
      have HZ := Lib.hid hz; have HC := Lib.hid hc; clear hz hc
      obtain ⟨B, hB⟩ : ∃ B, (nb b.id == nb c.rec_) = B := ⟨_, rfl⟩
      have HE := Lib.hid hB; clear hB
      cases B
      all_goals
        go_wp2_with (first
          | (refine wpl_load_at Tryz.rcT rfl _ rfl _ rfl [.string b.id, .string b.frm, .string b.too, .int .i64 b.at_, .int .i64 b.ring, .int .i64 b.talk, .int .i64 b.how, .string b.car] rfl (fun j u hu => by rw [add_mk]; exact HC.out j u hu) ?_)
          | (go_at_call 48; refine (sameC_any b c cb _ (HB.out.grown HG.out (by simp))).mono ?_; rintro e w2 ⟨rfl, hg2⟩; rw [HE.out]; have HG2 := Lib.hid (gr_none HG.out hg2); clear hg2)
          | fail)
      · go_roundw
        case rel => exact ⟨i + 1, by omega, by go_num, HG2.out, allP_succ (p := (fun y : RcV => nb y.id == nb c.rec_)) HA.out HZ.out HE.out⟩
        case measure => simp [intOf]; omega
      · go_ret
        exact ⟨by rw [idxP_some (p := (fun y : RcV => nb y.id == nb c.rec_)) HA.out HZ.out HE.out]; rfl, HG2.out⟩
    · obtain rfl : i = n := by omega
      go_wp2_with fail
      go_ret
      have h := HA.out
      rw [List.take_of_length_le (by rw [H.out.len]; exact Nat.le_refl _)] at h
      exact ⟨by rw [idxP_none (p := (fun y : RcV => nb y.id == nb c.rec_)) h]; rfl, HG.out⟩
/-- What the closure of TopOf has at hand: the records, each charge's among them. -/
structure TopX (w : World) (L : List (ChV × RcV)) (lr : Nat) (A : Option Addr) (n c : Nat) (l : List RcV) (cb : Nat) : Prop where
  blk : Blk w cb 31 #[.slice A n c]
  rcs : Recs RcV.row 8 w lr A n c l
  dist : Dist (l.map (·.id))
  mem : ∀ x ∈ L, x.2 ∈ l ∧ x.1.rec_ = x.2.id
  len : n ≤ 3000
theorem TopX.grown {w w' : World} {L : List (ChV × RcV)} {lr : Nat} {A : Option Addr} {n c : Nat} {l : List RcV} {cb : Nat} (h : TopX w L lr A n c l cb) (hg : w.grownBy w' none) : TopX w' L lr A n c l cb :=
  ⟨h.blk.grown hg (by simp), h.rcs.grown hg (fun g e => by cases e), h.dist, h.mem, h.len⟩
set_option maxHeartbeats 4000000 in
set_option maxRecDepth 100000 in
theorem toC_any (lr : Nat) (A : Option Addr) (n c : Nat) (l : List RcV) (cb : Nat) (L : List (ChV × RcV)) (x : ChV × RcV) (w : World) (h : TopX w L lr A n c l cb) (hx : x ∈ L) :
    Calls Tryz.prog 46 #[.agg #[.string x.1.rec_, .string x.1.pay, .string x.1.cls, .int .i64 x.1.free, .int .i64 x.1.cost], .pointer (some ⟨cb, 0, none⟩)] w (RetV (.string x.2.too) w) := by
  obtain ⟨hm, hid⟩ := h.mem x hx
  obtain ⟨k, hk1, hk2⟩ := rc_find h.dist hm (s := x.1.rec_) (by rw [hid])
  have hkn : k < n := by rw [← h.rcs.len]; exact (List.getElem?_eq_some_iff.1 hk2).1
  have hn3 := h.len
  obtain ⟨g, o, a, hA, _, _, _, _⟩ := h.rcs.get RcV.row_len hkn
  subst hA
  obtain ⟨w0, hw0⟩ : ∃ v, w.alloc (.cells #[.string x.1.rec_, .string x.1.pay, .string x.1.cls, .int .i64 x.1.free, .int .i64 x.1.cost] 67) = v := ⟨_, rfl⟩
  have HB := Lib.hid (show Blk w0 w.heap.size 67 #[.string x.1.rec_, .string x.1.pay, .string x.1.cls, .int .i64 x.1.free, .int .i64 x.1.cost] by rw [← hw0]; exact Blk.new _ _ _)
  have hg0 : w.grownBy w0 none := by rw [← hw0]; exact gr_alloc (gr_refl _ _) _
  have HG := Lib.hid hg0
  have HS := Lib.hid (h.blk.grown hg0 (by simp)); have HR := Lib.hid (h.rcs.grown hg0 (fun g e => by cases e))
  have HK := Lib.hid hk2; have HIX := Lib.hid hk1; have HW := Lib.hid hw0
  clear hw0 hg0 h hm hid hk1 hk2
  have q5 : (0 : Int) ≤ (k : Int) := by omega
  have q6 : (k : Int) < (n : Int) := by omega
  have q7 : (k : Int).toNat = k := by omega
  go_enter Tryz.func46, Tryz.ntmps46
  go_upto_region 1 with (fail)
  rw [HW.out]
  clear HW
  refine H_begin (fun w' => w0.grownBy w' none) (by kernel_rfl) ?_
  have hHeld : w0.grownBy w0.drew none := gr_drew (gr_refl _ _)
  generalize w0.drew = wd at hHeld ⊢
  refine H_take (k := 0) (v := ?_) (by rfl) (by kernel_rfl) (by kernel_rfl) (by kernel_rfl) (by exact fun _ _ _ h => h) (by rfl) ?_ (by assumption) ?_
  rotate_left 1
  · intro w' hSw
    have kc := (HS.out.grown hSw (by simp)).cell 0
    go_simp
    (try with_reducible rfl)
  (try simp only [Act.put, List.setIfInBounds_toArray, List.set_cons_zero, List.set_cons_succ])
  refine H_take (k := 1) (v := ?_) (by rfl) (by kernel_rfl) (by kernel_rfl) (by kernel_rfl) (by exact fun _ _ _ h => h) (by rfl) ?_ (by assumption) ?_
  rotate_left 1
  · intro w' hSw
    have kc := (HS.out.grown hSw (by simp)).cell 0
    go_simp
    (try with_reducible rfl)
  (try simp only [Act.put, List.setIfInBounds_toArray, List.set_cons_zero, List.set_cons_succ])
  refine H_take (k := 2) (v := ?_) (by rfl) (by kernel_rfl) (by kernel_rfl) (by kernel_rfl) (by exact fun _ _ _ h => h) (by rfl) ?_ (by assumption) ?_
  rotate_left 1
  · intro w hSw
    (try dsimp only at hSw)
    go_simp
    (try with_reducible rfl)
  (try simp only [Act.put, List.setIfInBounds_toArray, List.set_cons_zero, List.set_cons_succ])
  refine H_run (k := 3) (by rfl) (by kernel_rfl) (by rfl) (fun K hK => ?_)
  go_simp
  refine (idC_any lr (some ⟨g, o, none⟩) n c l x.1 w.heap.size _ (HR.out.grown hHeld (fun g e => by cases e)) (by omega) (HB.out.grown hHeld (by simp))).mono ?_
  rintro e w2 ⟨rfl, hg2⟩
  rw [HIX.out]
  have hh1 := gr_none hHeld hg2
  refine hK _ _ hh1 ?_
  clear hK K hHeld hg2
  have hHeld := hh1
  clear hh1
  (try simp only [Act.put, List.setIfInBounds_toArray, List.set_cons_zero, List.set_cons_succ])
  refine H_take (k := 4) (v := ?_) (by rfl) (by kernel_rfl) (by kernel_rfl) (by kernel_rfl) (by exact fun _ _ _ h => h) (by rfl) ?_ (by assumption) ?_
  rotate_left 1
  · intro w hSw
    (try dsimp only at hSw)
    go_simp
    (try with_reducible rfl)
  (try simp only [Act.put, List.setIfInBounds_toArray, List.set_cons_zero, List.set_cons_succ])
  refine H_take (k := 5) (v := ?_) (by rfl) (by kernel_rfl) (by kernel_rfl) (by kernel_rfl) (by exact fun _ _ _ h => h) (by rfl) ?_ (by assumption) ?_
  rotate_left 1
  · intro w hSw
    (try dsimp only at hSw)
    go_simp
    (try with_reducible rfl)
  (try simp only [Act.put, List.setIfInBounds_toArray, List.set_cons_zero, List.set_cons_succ])
  refine H_take (k := 6) (v := ?_) (by rfl) (by kernel_rfl) (by kernel_rfl) (by kernel_rfl) (by exact fun _ _ _ h => h) (by rfl) ?_ (by assumption) ?_
  rotate_left 1
  · intro w' hSw
    have kc := (HR.out.grown hSw (fun g e => by cases e)).at_ RcV.row_len HK.out 2 _ rfl
    go_simp
    (try with_reducible rfl)
  (try simp only [Act.put, List.setIfInBounds_toArray, List.set_cons_zero, List.set_cons_succ])
  refine H_take (k := 7) (v := ?_) (by rfl) (by kernel_rfl) (by kernel_rfl) (by kernel_rfl) (by exact fun _ _ _ h => h) (by rfl) ?_ (by assumption) ?_
  rotate_left 1
  · intro w hSw
    (try dsimp only at hSw)
    go_simp
    (try with_reducible rfl)
  (try simp only [Act.put, List.setIfInBounds_toArray, List.set_cons_zero, List.set_cons_succ])
  refine H_done (by kernel_rfl) ?_
  have HG2 := Lib.hid (gr_none HG.out hHeld)
  clear hHeld q5 q6 q7
  go_wp2_with fail
  go_ret
  exact ⟨rfl, HG2.out⟩
set_option maxHeartbeats 8000000 in
set_option maxRecDepth 100000 in
theorem costsTo_any (lo : Nat) (A : Option Addr) (n c : Nat) (L : List (ChV × RcV)) (lr : Nat) (AR : Option Addr) (nR cR : Nat) (lR : List RcV) (cb : Nat) (w : World) (h : Recs ChV.row 5 w lo A n c (L.map (·.1))) (hn : n ≤ 3000) (hok : ∀ x ∈ L, ChOk x) (hsz : ∀ x ∈ L, x.1.pay.size ≤ 1000 ∧ x.2.too.size ≤ 1000) (htx : TopX w L lr AR nR cR lR cb) :
    Calls Tryz.prog 44 #[.slice A n c, .func (.func 46) #[] #[.pointer (some ⟨cb, 0, none⟩)]] w (fun e w' => ∃ b, e = .returned (.map (some b)) ∧ w.heap.size ≤ b ∧ MapG (Value.int .i64) w' b n (fun k => sumF (·.2.too) L k) ∧ w.grownBy w' none) := by
  have H := Lib.hid h; have HOK := Lib.hid hok; have HSZ := Lib.hid hsz
  have HLN := Lib.hid (show L.length = n by rw [← h.len, List.length_map])
  have HTX := Lib.hid htx; clear htx
  clear h hok hsz
  have hmm := @run_makeMap Tryz.prog
  go_enter Tryz.func44, Tryz.ntmps44
  go_wp2_with fail
  clear hmm
  obtain ⟨mb, hmb⟩ : ∃ mb, w.heap.size = mb := ⟨_, rfl⟩
  obtain ⟨wm, hwm⟩ : ∃ wm, w.alloc (.map #[] 0) = wm := ⟨_, rfl⟩
  (try rw [hwm])
  (try rw [hmb])
  have HM0 := Lib.hid (show MapG (Value.int .i64) wm mb 0 (fun k => sumF (·.2.too) (L.take 0) k) by rw [← hwm, ← hmb, List.take_zero, sumF_nil]; exact MapG.new _ _)
  have HG0 := Lib.hid (show w.grownBy wm none by rw [← hwm]; exact gr_alloc (gr_refl _ _) _)
  have HMB := Lib.hid hmb
  have hzm : wm.heap.size = mb + 1 := by rw [← hwm, ← hmb]; simp
  clear hwm hmb
  go_loopw [7, 11] (fun _ t wr => ∃ i : Nat, i ≤ n ∧ t = .int .i64 i ∧ wm.grownBy wr (some mb) ∧ MapG (Value.int .i64) wr mb i (fun k => sumF (·.2.too) (L.take i) k)) (fun _ t _ => n - (intOf t).toNat)
  case atStart => exact ⟨0, Nat.zero_le _, rfl, gr_refl _ _, HM0.out⟩
  case round =>
    obtain ⟨i, hi, rfl, hg, hm⟩ := hrel
    have HG := Lib.hid hg; have HM := Lib.hid hm; clear hg hm
    have HGw := Lib.hid (show w.grownBy wr none from gr_trans HG0.out HG.out (fun g e => .inr (by injection e with e; have := HMB.out; omega)))
    have zr := HG.out.size
    by_cases hlt : i < n
    · obtain ⟨g, o, z, rfl, _, hgl, hz, hcc⟩ := (H.out.grown HGw.out (fun g e => by cases e)).get ChV.row_len hlt
      obtain ⟨x, hx, hxz⟩ : ∃ x, L[i]? = some x ∧ x.1 = z := by
        rw [List.getElem?_map] at hz
        cases hL : L[i]? with
        | none => rw [hL] at hz; cases hz
        | some x => rw [hL] at hz; exact ⟨x, rfl, Option.some.inj hz⟩
      subst hxz
      have HX := Lib.hid hx; have HC := Lib.hid hcc
      obtain ⟨s1, s2⟩ := HSZ.out x (mem_of_get hx)
      have hbd := costK_take (f := (·.2.too)) (i := i) (k := x.2.too) HOK.out (by rw [HLN.out]; omega)
      obtain ⟨_, _, b3, b4⟩ := HOK.out x (mem_of_get hx)
      have HSU := Lib.hid (show (fun k => if nb x.2.too = nb k then some (costK (·.2.too) (L.take i) x.2.too + x.1.cost) else sumF (·.2.too) (L.take i) k) = fun k => sumF (·.2.too) (L.take (i + 1)) k from sumF_succ (f := (·.2.too)) hx)
      clear hz hcc hx
      obtain ⟨wa, hwa⟩ : ∃ wa, wr.alloc (.cells #[.string x.1.rec_, .string x.1.pay, .string x.1.cls, .int .i64 x.1.free, .int .i64 x.1.cost] 67) = wa := ⟨_, rfl⟩
      obtain ⟨zb, hzb⟩ : ∃ b, wr.heap.size = b := ⟨_, rfl⟩
      have HB := Lib.hid (show Blk wa zb 67 #[.string x.1.rec_, .string x.1.pay, .string x.1.cls, .int .i64 x.1.free, .int .i64 x.1.cost] by rw [← hwa, ← hzb]; exact Blk.new _ _ _)
      have hga : wr.grownBy wa none := by rw [← hwa]; exact gr_alloc (gr_refl _ _) _
      have HMa := Lib.hid (HM.out.kept hga (by simp))
      have HGa := Lib.hid (gr_none HG.out hga)
      have HGwa := Lib.hid (gr_none HGw.out hga)
      have zz : mb < zb := by rw [← hzb]; exact HM.out.lt
      have HWA := Lib.hid hwa; have HZB := Lib.hid hzb; clear hwa hzb hga
      go_upto_region 5 with (first
        | (refine wpl_load_at Tryz.chT rfl _ rfl _ rfl [.string x.1.rec_, .string x.1.pay, .string x.1.cls, .int .i64 x.1.free, .int .i64 x.1.cost] rfl (fun j u hu => by rw [add_mk]; exact HC.out j u hu) ?_)
        | fail)
      rw [HWA.out]
      (try rw [HZB.out])
      clear HWA HZB HC
      have kc4 := HB.out.cell 4
      refine wp_region_B (fun w' => wa.grownBy w' none) 8 (by kernel_rfl) ?_
      have hHeld : wa.grownBy wa.drew none := gr_drew (gr_refl _ _)
      generalize wa.drew = wd at hHeld ⊢
      refine B_take (k := 0) false (v := ?_) (by rfl) (by kernel_rfl) (by exact fun _ _ _ h => h) (by rfl) ?_ (by first | exact .inr hHeld | exact .inl (by rfl)) ?_
      rotate_left 1
      · intro w hSw
        clear hSw
        go_simp
        (try with_reducible rfl)
      (try simp only [Act.put, List.setIfInBounds_toArray, List.set_cons_zero, List.set_cons_succ])
      refine B_take (k := 1) false (v := ?_) (by rfl) (by kernel_rfl) (by exact fun _ _ _ h => h) (by rfl) ?_ (by first | exact .inr hHeld | exact .inl (by rfl)) ?_
      rotate_left 1
      · intro w hSw
        clear hSw
        go_simp
        (try with_reducible rfl)
      (try simp only [Act.put, List.setIfInBounds_toArray, List.set_cons_zero, List.set_cons_succ])
      refine B_take (k := 2) true (v := .agg #[.string x.1.rec_, .string x.1.pay, .string x.1.cls, .int .i64 x.1.free, .int .i64 x.1.cost]) (by rfl) (by kernel_rfl) (by exact fun _ _ _ h => h) (by rfl) (fun w' hSw => exec_ldb Tryz.chT _ rfl _ rfl 67 [.string x.1.rec_, .string x.1.pay, .string x.1.cls, .int .i64 x.1.free, .int .i64 x.1.cost] (HB.out.grown hSw (by simp)) rfl) (.inr hHeld) ?_
      (try simp only [Act.put, List.setIfInBounds_toArray, List.set_cons_zero, List.set_cons_succ])
      refine B_take (k := 5) false (v := ?_) (by rfl) (by kernel_rfl) (by exact fun _ _ _ h => h) (by rfl) ?_ (by first | exact .inr hHeld | exact .inl (by rfl)) ?_
      rotate_left 1
      · intro w hSw
        clear hSw
        go_simp
        (try with_reducible rfl)
      (try simp only [Act.put, List.setIfInBounds_toArray, List.set_cons_zero, List.set_cons_succ])
      refine B_take (k := 6) true (v := ?_) (by rfl) (by kernel_rfl) (by exact fun _ _ _ h => h) (by rfl) ?_ (.inr hHeld) ?_
      rotate_left 1
      · intro w' hSw
        have kc := (HB.out.grown hSw (by simp)).cell 4
        go_simp
        (try with_reducible rfl)
      (try simp only [Act.put, List.setIfInBounds_toArray, List.set_cons_zero, List.set_cons_succ])
      refine B_run (k := 3) (by rfl) (by kernel_rfl) (by rfl) (fun K hK => ?_)
      go_simp
      refine (toC_any lr AR nR cR lR cb L x _ (HTX.out.grown (gr_none HGwa.out hHeld)) (mem_of_get HX.out)).mono ?_
      rintro e w2 ⟨rfl, hg2⟩
      have hh1 := gr_none hHeld hg2
      refine hK _ _ (.inr hh1) ?_
      clear hK K hHeld hg2
      have hHeld := hh1
      clear hh1
      (try simp only [Act.put, List.setIfInBounds_toArray, List.set_cons_zero, List.set_cons_succ])
      refine B_take (k := 4) true (v := .int .i64 (costK (·.2.too) (L.take i) x.2.too)) (by rfl) (by kernel_rfl) (by exact fun _ _ _ h => h) (by rfl) (fun w' hSw => (exec_glook 63 _ _ rfl Tryz.underlying63 (Tryz.zeroSI w') rfl x.2.too rfl (by unfold maxLen; omega) (HMa.out.kept hSw (by simp))).trans (by rw [sumF_val])) (.inr hHeld) ?_
      (try simp only [Act.put, List.setIfInBounds_toArray, List.set_cons_zero, List.set_cons_succ])
      obtain ⟨V, hV⟩ : ∃ v, costK (·.2.too) (L.take i) x.2.too = v := ⟨_, rfl⟩
      rw [hV] at hbd HSU ⊢
      clear hV
      have sw : IntKind.i64.wrap (V + x.1.cost) = V + x.1.cost := IntWalk.i64_in _ (by omega)
      refine B_take (k := 7) false (v := ?_) (by rfl) (by kernel_rfl) (by exact fun _ _ _ h => h) (by rfl) ?_ (by first | exact .inr hHeld | exact .inl (by rfl)) ?_
      rotate_left 1
      · intro w hSw
        clear hSw
        go_simp
        (try with_reducible rfl)
      (try simp only [Act.put, List.setIfInBounds_toArray, List.set_cons_zero, List.set_cons_succ])
      refine B_run (k := 8) (by rfl) (by kernel_rfl) (by rfl) (fun K hK => ?_)
      refine wp_gput (fun a b h => by injection h) 63 _ _ _ rfl Tryz.underlying63 rfl x.2.too (V + x.1.cost) rfl rfl (by unfold maxLen; omega) (HMa.out.kept hHeld (by simp)) (by unfold maxLen; omega) ?_
      intro w3 hput hg3
      refine hK _ _ (.inl (by rfl)) ?_
      clear hK K
      (try simp only [Act.put, List.setIfInBounds_toArray, List.set_cons_zero, List.set_cons_succ])
      refine B_done (by kernel_rfl) ?_
      have HPT := Lib.hid (show MapG (Value.int .i64) w3 mb (i + 1) (fun k => sumF (·.2.too) (L.take (i + 1)) k) by rw [← HSU.out]; exact hput)
      have HG3 := Lib.hid (gr_trans (gr_none HGa.out hHeld) hg3 (fun g e => .inl e.symm))
      clear hput hg3 hHeld sw
      go_wp2_with fail
      go_roundw
      case rel => exact ⟨i + 1, by omega, by go_num, HG3.out, HPT.out⟩
      case measure => simp [intOf]; omega
    · obtain rfl : i = n := by omega
      have hm := HM.out
      rw [List.take_of_length_le (by rw [HLN.out]; exact Nat.le_refl _)] at hm
      have HMF := Lib.hid hm
      clear hm
      go_wp2_with fail
      go_ret
      exact ⟨mb, rfl, by rw [HMB.out]; exact Nat.le_refl _, HMF.out, HGw.out⟩
end Go.Proofs.YtlkibeckfpjccaaGreatDoor

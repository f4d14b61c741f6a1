/- Contracts of the program's next moment. Conditions: a player that is played. -/
import Derived.Test.YtpildcnoghojpaaGreatDoorPl4
import Derived.Test.YtpildcnoghojpaaGreatDoorBun5
import Derived.Lib.MinMax
import Derived.Deep.CutBlock
namespace Go.Proofs.YtpildcnoghojpaaGreatDoor
open Go.RowKit

/-- What next's inner function captures: the moment, whether one was found, the one found. -/
def CapN (base w : World) (ab ob bb : Nat) (at_ : Int) (o : Option Int) : Prop := base.grownBy w none ∧ Blk w ab 3 #[.int .i64 at_] ∧ Blk w ob 4 #[.bool o.isSome] ∧ Blk w bb 3 #[.int .i64 (o.getD 0)]
theorem CapN.kept {base w w' : World} {ab ob bb : Nat} {at_ : Int} {o : Option Int} (h : CapN base w ab ob bb at_ o) (hg : w.grownBy w' none) : CapN base w' ab ob bb at_ o := ⟨gr_none h.1 hg, h.2.1.grown hg (by simp), h.2.2.1.grown hg (by simp), h.2.2.2.grown hg (by simp)⟩
set_option maxHeartbeats 4000000 in
set_option maxRecDepth 100000 in
theorem take_any (base : World) (ab ob bb : Nat) (n at_ : Int) (o : Option Int) (w : World) (h : CapN base w ab ob bb at_ o) (b1 : base.heap.size ≤ ob) (b2 : base.heap.size ≤ bb) (n1 : ab ≠ ob) (n2 : ab ≠ bb) (n3 : ob ≠ bb) :
    Calls Tryz.prog 62 #[.int .i64 n, .pointer (some ⟨ab, 0, none⟩), .pointer (some ⟨ob, 0, none⟩), .pointer (some ⟨bb, 0, none⟩)] w (fun e w' => e = .returned (.tuple #[]) ∧ CapN base w' ab ob bb at_ (minP at_ o n)) := by
  obtain ⟨hg, ha, ho, hb⟩ := h
  have HG := Lib.hid hg; have HAB := Lib.hid ha; have HOB := Lib.hid ho; have HBB := Lib.hid hb
  have ka := ha.cell 0
  obtain ⟨D1, hD1⟩ : ∃ D, decide (at_ < n) = D := ⟨_, rfl⟩
  clear hg ha ho hb
  go_enter Tryz.func62, Tryz.ntmps62
  cases D1
  · have HN := Lib.hid (show minP at_ o n = o by unfold minP; rw [hD1]; rfl)
    go_wp2_with fail
    go_end0
    exact ⟨rfl, by rw [HN.out]; exact ⟨HG.out, HAB.out, HOB.out, HBB.out⟩⟩
  · cases o with
    | none =>
      have HN := Lib.hid (show minP at_ none n = some n by unfold minP; rw [hD1]; rfl)
      have ko := (show Blk w ob 4 #[.bool false] from HOB.out).cell 0
      obtain ⟨w2, hw2⟩ : ∃ w2, w.setCell ⟨bb, 0, none⟩ (.int .i64 n) = w2 := ⟨_, rfl⟩
      obtain ⟨w3, hw3⟩ : ∃ w3, w2.setCell ⟨ob, 0, none⟩ (.bool true) = w3 := ⟨_, rfl⟩
      have HB2 := Lib.hid (show Blk w2 bb 3 #[.int .i64 n] by rw [← hw2]; exact HBB.out.set_ 0 _)
      have G2 := Lib.hid (show w.grownBy w2 (some bb) by rw [← hw2]; exact gr_setCell (gr_refl _ _) (.inl rfl) _)
      have HO2 := Lib.hid (HOB.out.grown G2.out (fun e => n3 (by injection e)))
      have HA2 := Lib.hid (HAB.out.grown G2.out (fun e => n2 (by injection e)))
      have HO3 := Lib.hid (show Blk w3 ob 4 #[.bool true] by rw [← hw3]; exact HO2.out.set_ 0 _)
      have G3 := Lib.hid (show w2.grownBy w3 (some ob) by rw [← hw3]; exact gr_setCell (gr_refl _ _) (.inl rfl) _)
      have HB3 := Lib.hid (HB2.out.grown G3.out (fun e => n3 (by injection e with e; exact e.symm)))
      have HA3 := Lib.hid (HA2.out.grown G3.out (fun e => n1 (by injection e)))
      have GG := Lib.hid (gr_trans (gr_trans HG.out G2.out (fun g e => .inr (by injection e with e; omega))) G3.out (fun g e => .inr (by injection e with e; omega)))
      have f1 := HBB.out.frozen 0
      have f2 := HO2.out.frozen 0
      have c2 := HO2.out.cell 0
      have c1 := HBB.out.cell 0
      rw [← hw2] at f2 c2
      have HW2 := Lib.hid hw2; have HW3 := Lib.hid hw3
      clear hw2 hw3
      go_wp2_with fail
      rw [HW2.out, HW3.out]
      go_end0
      exact ⟨rfl, by rw [HN.out]; exact ⟨GG.out, HA3.out, HO3.out, HB3.out⟩⟩
    | some b =>
      have ko := (show Blk w ob 4 #[.bool true] from HOB.out).cell 0
      have kb := (show Blk w bb 3 #[.int .i64 b] from HBB.out).cell 0
      obtain ⟨D2, hD2⟩ : ∃ D, decide (n < b) = D := ⟨_, rfl⟩
      have HN := Lib.hid (show minP at_ (some b) n = if D2 then some n else some b by unfold minP; rw [hD1, Bool.true_and]; show (if decide (n < b) = true then _ else _) = _; rw [hD2])
      cases D2
      · go_wp2_with fail
        go_end0
        exact ⟨rfl, by rw [HN.out]; exact ⟨HG.out, HAB.out, HOB.out, HBB.out⟩⟩
      · obtain ⟨w2, hw2⟩ : ∃ w2, w.setCell ⟨bb, 0, none⟩ (.int .i64 n) = w2 := ⟨_, rfl⟩
        obtain ⟨w3, hw3⟩ : ∃ w3, w2.setCell ⟨ob, 0, none⟩ (.bool true) = w3 := ⟨_, rfl⟩
        have HB2 := Lib.hid (show Blk w2 bb 3 #[.int .i64 n] by rw [← hw2]; exact HBB.out.set_ 0 _)
        have G2 := Lib.hid (show w.grownBy w2 (some bb) by rw [← hw2]; exact gr_setCell (gr_refl _ _) (.inl rfl) _)
        have HO2 := Lib.hid (HOB.out.grown G2.out (fun e => n3 (by injection e)))
        have HA2 := Lib.hid (HAB.out.grown G2.out (fun e => n2 (by injection e)))
        have HO3 := Lib.hid (show Blk w3 ob 4 #[.bool true] by rw [← hw3]; exact HO2.out.set_ 0 _)
        have G3 := Lib.hid (show w2.grownBy w3 (some ob) by rw [← hw3]; exact gr_setCell (gr_refl _ _) (.inl rfl) _)
        have HB3 := Lib.hid (HB2.out.grown G3.out (fun e => n3 (by injection e with e; exact e.symm)))
        have HA3 := Lib.hid (HA2.out.grown G3.out (fun e => n1 (by injection e)))
        have GG := Lib.hid (gr_trans (gr_trans HG.out G2.out (fun g e => .inr (by injection e with e; omega))) G3.out (fun g e => .inr (by injection e with e; omega)))
        have f1 := HBB.out.frozen 0
        have f2 := HO2.out.frozen 0
        have c2 := HO2.out.cell 0
        have c1 := HBB.out.cell 0
        rw [← hw2] at f2 c2
        have HW2 := Lib.hid hw2; have HW3 := Lib.hid hw3
        clear hw2 hw3
        go_wp2_with fail
        rw [HW2.out, HW3.out]
        go_end0
        exact ⟨rfl, by rw [HN.out]; exact ⟨GG.out, HA3.out, HO3.out, HB3.out⟩⟩
def nextV (A : List AgV) (C : List CaV) (p : PlS) (at_ : Int) : Value := .tuple #[.int .i64 ((nextP A C p at_).getD 0), .bool (nextP A C p at_).isSome]
set_option maxHeartbeats 16000000 in
set_option maxRecDepth 100000 in
theorem pnext_any (wb : World) (R : PlC) (s : StyV) (A : List AgV) (C : List CaV) (p : PlS) (at_ : Int) (w : World) (h : Pm wb w R s A C p) :
    Calls Tryz.prog 33 #[.pointer (some ⟨R.pb, 0, none⟩), .int .i64 at_] w (RetV (nextV A C p at_) w) := by
  have H := Lib.hid h
  have hn := h.n
  have hm := h.m
  obtain ⟨w1, hw1⟩ : ∃ w1, w.alloc (.cells #[.int .i64 at_] 3) = w1 := ⟨_, rfl⟩
  obtain ⟨w2, hw2⟩ : ∃ w2, w1.alloc (.cells #[.int .i64 0] 3) = w2 := ⟨_, rfl⟩
  obtain ⟨w3, hw3⟩ : ∃ w3, w2.alloc (.cells #[.bool false] 4) = w3 := ⟨_, rfl⟩
  obtain ⟨ab, hab⟩ : ∃ b, w.heap.size = b := ⟨_, rfl⟩
  obtain ⟨bb, hbb⟩ : ∃ b, w1.heap.size = b := ⟨_, rfl⟩
  obtain ⟨ob, hob⟩ : ∃ b, bb + 1 = b := ⟨_, rfl⟩
  have hs1 : w1.heap.size = w.heap.size + 1 := by rw [← hw1]; simp
  have hs2 : w2.heap.size = w1.heap.size + 1 := by rw [← hw2]; simp
  have HBL := Lib.hid (show w.heap.size ≤ ob ∧ w.heap.size ≤ bb ∧ ab ≠ ob ∧ ab ≠ bb ∧ ob ≠ bb from ⟨by omega, by omega, by omega, by omega, by omega⟩)
  have HCP0 := Lib.hid (show CapN w w3 ab ob bb at_ (minL at_ []) from ⟨by rw [← hw3, ← hw2, ← hw1]; exact gr_alloc (gr_alloc (gr_alloc (gr_refl _ _) _) _) _,
    by rw [← hw3, ← hw2, ← hw1, ← hab]; exact ((Blk.new _ _ _).alloc _).alloc _,
    by rw [← hw3, show ob = w2.heap.size by omega]; exact Blk.new _ _ _,
    by rw [← hw3, ← hw2, ← hbb]; exact (Blk.new _ _ _).alloc _⟩)
  have HW1 := Lib.hid hw1; have HW2 := Lib.hid hw2; have HW3 := Lib.hid hw3; have HAB := Lib.hid hab; have HBB := Lib.hid hbb; have HOB := Lib.hid hob
  clear h hw1 hw2 hw3 hab hbb hob hs1 hs2
  go_enter Tryz.func33, Tryz.ntmps33
  go_upto_region 1 with (fail)
  rw [HW1.out]
  go_upto_region 3 with (fail)
  rw [HW2.out, HW3.out, HBB.out, HOB.out, HAB.out]
  clear HW1 HW2 HW3 HBB HOB HAB
  have k4 := (H.out.kept HCP0.out.1).pp.cell 4
  go_wp2_with fail
  clear k4
  go_loopw [9, 11, 22] (fun v9 _ t22 wr => ∃ k : Nat, t22 = .int .i64 k ∧ k ≤ C.length ∧ v9 = .bool (waB p.wt k) ∧ CapN w wr ab ob bb at_ (minL at_ (waT C p.wt k))) (fun _ _ t22 _ => C.length - (intOf t22).toNat)
  case atStart => exact ⟨0, rfl, Nat.zero_le _, rfl, HCP0.out⟩
  case round =>
    clear HCP0
    obtain ⟨k, rfl, hk, rfl, hcp⟩ := hrel
    have HCP := Lib.hid hcp
    clear hcp
    by_cases hlt : k < C.length
    · obtain ⟨c, hc⟩ : ∃ c, C[k]? = some c := ⟨_, List.getElem?_eq_getElem hlt⟩
      have hlt2 : (k : Int) < (C.length : Int) := by omega
      have HPM := Lib.hid (H.out.kept HCP.out.1)
      obtain ⟨wg, wof, b, hW, hbi, kc, hx, hwb⟩ := HPM.out.at_.waiter hc
      obtain ⟨n1, n2, n3, n4, _⟩ := (H.out.cn c (mem_of_get hc)).1
      have HWT := Lib.hid (waT_succ (wt := p.wt) hc)
      have HWBS := Lib.hid (show waB p.wt (k + 1) = (waB p.wt k || (decide ((wtAt p.wt k).how = 0) || inL (wtAt p.wt k))) from rfl)
      revert hwb HWT HWBS
      generalize hxe : wtAt p.wt k = x
      intro hwb HWT HWBS
      have HXE := Lib.hid hxe
      clear hxe
      have HX0 := Lib.hid hwb
      have HWB := Lib.hid (show Blk wr b 119 #[.string c.id, .string c.skill, .int .i64 c.at_, .int .i64 c.least, .int .i64 c.prio, .int .i64 c.pat, .int .i64 c.talk, .bool c.back, .int .i64 x.how, .string x.seat.ca, .string x.seat.ag, .int .i64 x.seat.how, .int .i64 x.seat.beg, .int .i64 x.seat.fin] from hwb)
      have HBI := Lib.hid hbi
      unfold ptrV at kc
      obtain ⟨WB, hWB⟩ : ∃ W, waB p.wt k = W := ⟨_, rfl⟩
      rw [hWB] at HWBS
      rw [hW, hWB]
      have k8 := HWB.out.cell 8
      have qw : IntKind.i64.wrap (c.at_ + c.pat) = c.at_ + c.pat := IntWalk.i64_in _ (by omega)
      clear hc hbi hx hW hwb hWB
      by_cases h0 : x.how = 0
      · have d0 : (x.how == 0) = true := by simpa using h0
        have k2 := HWB.out.cell 2
        have HN := Lib.hid (show minP at_ (minL at_ (waT C p.wt k)) c.at_ = minL at_ (waT C p.wt (k + 1)) by
          rw [HWT.out, minL_app]; unfold waT1; rw [if_pos h0]; rfl)
        have HNB := Lib.hid (show waB p.wt (k + 1) = true by rw [HWBS.out, decide_eq_true h0]; simp)
        clear h0
        go_wp2_with fail
        refine (take_any w ab ob bb c.at_ at_ _ _ HCP.out HBL.out.1 HBL.out.2.1 HBL.out.2.2.1 HBL.out.2.2.2.1 HBL.out.2.2.2.2).mono ?_
        rintro e w4 ⟨rfl, hcp⟩
        have HCP4 := Lib.hid (show CapN w w4 ab ob bb at_ (minL at_ (waT C p.wt (k + 1))) by rw [← HN.out]; exact hcp)
        clear hcp k8 k2 kc
        go_wp2_with fail
        go_roundw
        case rel => exact ⟨k + 1, by go_num, by omega, by rw [HNB.out], HCP4.out⟩
        case measure => simp [intOf]; omega
      · have d0 : (x.how == 0) = false := by simpa using h0
        by_cases h1 : x.how = 1
        · have d1 : (x.how == 1) = true := by simpa using h1
          have HN := Lib.hid (show minP at_ (minL at_ (waT C p.wt k)) (c.at_ + c.pat) = minL at_ (waT C p.wt (k + 1)) by
            rw [HWT.out, minL_app]; unfold waT1; rw [if_neg h0, if_pos h1]; rfl)
          have HNB := Lib.hid (show waB p.wt (k + 1) = true by rw [HWBS.out]; unfold inL; rw [decide_eq_true h1]; simp)
          have HIL := Lib.hid (show inL x = true by unfold inL; rw [decide_eq_true h1]; rfl)
          clear h0 h1
          go_upto_region 11 with (fail)
          clear k8 kc
          obtain ⟨wv, rfl⟩ : ∃ wv : World, wv = wr := ⟨_, rfl⟩
          refine wp_region_B (fun w' => wv.grownBy w' none) 12 (by kernel_rfl) ?_
          have hHeld : wv.grownBy wv.drew none := gr_drew (gr_refl _ _)
          refine B_take (k := 0) false (v := ?_) (by rfl) (by kernel_rfl) (by exact fun _ _ _ h => h) (by rfl) ?_ (by first | exact .inr hHeld | exact .inl (by rfl)) ?_
          rotate_left 1
          · intro w hSw
            clear hSw
            go_simp
            (try with_reducible rfl)
          (try simp only [Act.put, List.setIfInBounds_toArray, List.set_cons_zero, List.set_cons_succ])
          refine B_take (k := 1) false (v := ?_) (by rfl) (by kernel_rfl) (by exact fun _ _ _ h => h) (by rfl) ?_ (by first | exact .inr hHeld | exact .inl (by rfl)) ?_
          rotate_left 1
          · intro w hSw
            clear hSw
            go_simp
            (try with_reducible rfl)
          (try simp only [Act.put, List.setIfInBounds_toArray, List.set_cons_zero, List.set_cons_succ])
          refine B_take (k := 2) false (v := ?_) (by rfl) (by kernel_rfl) (by exact fun _ _ _ h => h) (by rfl) ?_ (by first | exact .inr hHeld | exact .inl (by rfl)) ?_
          rotate_left 1
          · intro w hSw
            clear hSw
            go_simp
            (try with_reducible rfl)
          (try simp only [Act.put, List.setIfInBounds_toArray, List.set_cons_zero, List.set_cons_succ])
          refine B_take (k := 3) false (v := ?_) (by rfl) (by kernel_rfl) (by exact fun _ _ _ h => h) (by rfl) ?_ (by first | exact .inr hHeld | exact .inl (by rfl)) ?_
          rotate_left 1
          · intro w hSw
            clear hSw
            go_simp
            (try with_reducible rfl)
          (try simp only [Act.put, List.setIfInBounds_toArray, List.set_cons_zero, List.set_cons_succ])
          refine B_take (k := 4) false (v := ?_) (by rfl) (by kernel_rfl) (by exact fun _ _ _ h => h) (by rfl) ?_ (by first | exact .inr hHeld | exact .inl (by rfl)) ?_
          rotate_left 1
          · intro w hSw
            clear hSw
            go_simp
            (try with_reducible rfl)
          (try simp only [Act.put, List.setIfInBounds_toArray, List.set_cons_zero, List.set_cons_succ])
          refine B_take (k := 5) true (v := ?_) (by rfl) (by kernel_rfl) (by exact fun _ _ _ h => h) (by rfl) ?_ (.inr hHeld) ?_
          rotate_left 1
          · intro w' hSw
            have kc := (HWB.out.grown hSw (by simp)).cell 2
            go_simp
            (try with_reducible rfl)
          (try simp only [Act.put, List.setIfInBounds_toArray, List.set_cons_zero, List.set_cons_succ])
          refine B_take (k := 6) false (v := ?_) (by rfl) (by kernel_rfl) (by exact fun _ _ _ h => h) (by rfl) ?_ (by first | exact .inr hHeld | exact .inl (by rfl)) ?_
          rotate_left 1
          · intro w hSw
            clear hSw
            go_simp
            (try with_reducible rfl)
          (try simp only [Act.put, List.setIfInBounds_toArray, List.set_cons_zero, List.set_cons_succ])
          refine B_take (k := 7) false (v := ?_) (by rfl) (by kernel_rfl) (by exact fun _ _ _ h => h) (by rfl) ?_ (by first | exact .inr hHeld | exact .inl (by rfl)) ?_
          rotate_left 1
          · intro w hSw
            clear hSw
            go_simp
            (try with_reducible rfl)
          (try simp only [Act.put, List.setIfInBounds_toArray, List.set_cons_zero, List.set_cons_succ])
          refine B_take (k := 8) false (v := ?_) (by rfl) (by kernel_rfl) (by exact fun _ _ _ h => h) (by rfl) ?_ (by first | exact .inr hHeld | exact .inl (by rfl)) ?_
          rotate_left 1
          · intro w hSw
            clear hSw
            go_simp
            (try with_reducible rfl)
          (try simp only [Act.put, List.setIfInBounds_toArray, List.set_cons_zero, List.set_cons_succ])
          refine B_take (k := 9) false (v := ?_) (by rfl) (by kernel_rfl) (by exact fun _ _ _ h => h) (by rfl) ?_ (by first | exact .inr hHeld | exact .inl (by rfl)) ?_
          rotate_left 1
          · intro w hSw
            clear hSw
            go_simp
            (try with_reducible rfl)
          (try simp only [Act.put, List.setIfInBounds_toArray, List.set_cons_zero, List.set_cons_succ])
          refine B_take (k := 10) true (v := ?_) (by rfl) (by kernel_rfl) (by exact fun _ _ _ h => h) (by rfl) ?_ (.inr hHeld) ?_
          rotate_left 1
          · intro w' hSw
            have kc := (HWB.out.grown hSw (by simp)).cell 5
            go_simp
            (try with_reducible rfl)
          (try simp only [Act.put, List.setIfInBounds_toArray, List.set_cons_zero, List.set_cons_succ])
          refine B_take (k := 11) false (v := ?_) (by rfl) (by kernel_rfl) (by exact fun _ _ _ h => h) (by rfl) ?_ (by first | exact .inr hHeld | exact .inl (by rfl)) ?_
          rotate_left 1
          · intro w hSw
            clear hSw
            go_simp
            (try with_reducible rfl)
          (try simp only [Act.put, List.setIfInBounds_toArray, List.set_cons_zero, List.set_cons_succ])
          refine B_run (k := 12) (by rfl) (by kernel_rfl) (by rfl) (fun K hK => ?_)
          go_simp
          refine (take_any w ab ob bb (c.at_ + c.pat) at_ _ _ (HCP.out.kept hHeld) HBL.out.1 HBL.out.2.1 HBL.out.2.2.1 HBL.out.2.2.2.1 HBL.out.2.2.2.2).mono ?_
          rintro e w4 ⟨rfl, hcp⟩
          have HCP4 := Lib.hid (show CapN w w4 ab ob bb at_ (minL at_ (waT C p.wt (k + 1))) by rw [← HN.out]; exact hcp)
          refine hK _ _ (.inl (by rfl)) ?_
          clear hK K hHeld hcp
          (try simp only [Act.put, List.setIfInBounds_toArray, List.set_cons_zero, List.set_cons_succ])
          refine B_done (by kernel_rfl) ?_
          cases WB
          · go_wp2_with fail
            have hpm4 := H.out.kept HCP4.out.1
            obtain ⟨c5, hc5⟩ : ∃ c, C[k]? = some c := ⟨_, List.getElem?_eq_getElem hlt⟩
            obtain ⟨_, _, b5, _, hb5, _, _, hwb5⟩ := hpm4.at_.waiter hc5
            obtain rfl : b = b5 := by have := HBI.out; rw [hb5] at this; injection this with this; exact this.symm
            rw [HXE.out] at hwb5
            refine (inLine_any b c5 x _ hwb5).mono ?_
            rintro e w5 ⟨rfl, hg5⟩
            have HCP5 := Lib.hid (HCP4.out.kept hg5)
            have HNB2 := Lib.hid (show inL x = waB p.wt (k + 1) by rw [HNB.out, HIL.out])
            rw [HNB2.out]
            clear hpm4 hc5 hb5 hwb5 hg5
            go_wp2_with fail
            go_roundw
            case rel => exact ⟨k + 1, by go_num, by omega, rfl, HCP5.out⟩
            case measure => simp [intOf]; omega
          · go_wp2_with fail
            go_roundw
            case rel => exact ⟨k + 1, by go_num, by omega, by rw [HNB.out], HCP4.out⟩
            case measure => simp [intOf]; omega
        · have d1 : (x.how == 1) = false := by simpa using h1
          have HN := Lib.hid (show waT C p.wt (k + 1) = waT C p.wt k by
            rw [HWT.out]; unfold waT1; rw [if_neg h0, if_neg h1, List.append_nil])
          have HNB := Lib.hid (show waB p.wt (k + 1) = (WB || inL x) by rw [HWBS.out, decide_eq_false h0]; rfl)
          clear h0 h1
          cases WB
          · go_wp2_with fail
            refine (inLine_any b c x _ HX0.out).mono ?_
            rintro e w5 ⟨rfl, hg5⟩
            have HCP5 := Lib.hid (HCP.out.kept hg5)
            obtain ⟨IL, hIL⟩ : ∃ I, inL x = I := ⟨_, rfl⟩
            rw [hIL] at HNB ⊢
            clear hg5 hIL k8 kc
            go_wp2_with fail
            go_roundw
            case rel => exact ⟨k + 1, by go_num, by omega, by rw [HNB.out]; try rfl, by rw [HN.out]; exact HCP5.out⟩
            case measure => simp [intOf]; omega
          · go_wp2_with fail
            go_roundw
            case rel => exact ⟨k + 1, by go_num, by omega, by rw [HNB.out]; try rfl, by rw [HN.out]; exact HCP.out⟩
            case measure => simp [intOf]; omega
    · obtain rfl : k = C.length := by omega
      clear hk hlt
      obtain ⟨WB, hWB⟩ : ∃ W, waB p.wt C.length = W := ⟨_, rfl⟩
      have HNX := Lib.hid (show nextP A C p at_ = if WB then minL at_ (waT C p.wt C.length ++ dkT A p.dk A.length) else none by unfold nextP; rw [hWB])
      rw [hWB]
      clear hWB
      cases WB
      · have HV := Lib.hid (show nextV A C p at_ = .tuple #[.int .i64 0, .bool false] by unfold nextV; rw [HNX.out]; rfl)
        go_wp2_with fail
        go_ret2
        exact ⟨by rw [HV.out]; try rfl, HCP.out.1⟩
      · have k3 := (H.out.kept HCP.out.1).pp.cell 3
        go_wp2_with fail
        clear k3
        go_loopw [13, 15, 71] (fun _ _ t71 wr => ∃ k : Nat, t71 = .int .i64 k ∧ k ≤ A.length ∧ CapN w wr ab ob bb at_ (minL at_ (waT C p.wt C.length ++ dkT A p.dk k))) (fun _ _ t71 _ => A.length - (intOf t71).toNat)
        case atStart => exact ⟨0, rfl, Nat.zero_le _, by show CapN w _ ab ob bb at_ (minL at_ (waT C p.wt C.length ++ [])); rw [List.append_nil]; exact HCP.out⟩
        case round =>
          clear HCP
          obtain ⟨k, rfl, hk, hcp⟩ := hrel
          have HCP := Lib.hid hcp
          clear hcp
          by_cases hlt : k < A.length
          · obtain ⟨a, ha⟩ : ∃ a, A[k]? = some a := ⟨_, List.getElem?_eq_getElem hlt⟩
            have hlt2 : (k : Int) < (A.length : Int) := by omega
            have HPM := Lib.hid (H.out.kept HCP.out.1)
            obtain ⟨dg, dof, b, hD, hbi, kc, hx, hdb⟩ := HPM.out.at_.desk ha
            obtain ⟨a1, a2, a3, a4, a5, _⟩ := (H.out.an a (mem_of_get ha)).1
            obtain ⟨q1, q2, q3, q4, q5, q6⟩ := H.out.bd _ (mem_of_get hx)
            have HDK := Lib.hid (show ∀ wx, w.grownBy wx none → Blk wx b 116 #[.string a.key, .slice a.sA a.sn a.sc, .int .i64 a.fr, .int .i64 a.til, .slice a.pA a.pn a.pc, .int .i64 a.wrap, .int .i64 (dkAt p.dk k).tk, .int .i64 (dkAt p.dk k).en, .int .i64 (dkAt p.dk k).n] from fun wx hg => by
              obtain ⟨_, _, b2, _, hb2, _, _, hd2⟩ := (H.out.kept hg).at_.desk ha
              obtain rfl : b = b2 := by rw [hbi] at hb2; injection hb2
              exact hd2)
            have HAG := Lib.hid (H.out.ag ha)
            have hpn := HAG.out.1.2.2.2
            have hpl := HAG.out.2.2.len
            have HDT := Lib.hid (dkT_succ (dk := p.dk) ha)
            revert HDK HDT q1 q2 q3 q4 q5 q6
            generalize dkAt p.dk k = x
            intro q1 q2 q3 q4 q5 q6 HDK HDT
            obtain ⟨o1, ho1⟩ : ∃ o, minL at_ (waT C p.wt C.length ++ dkT A p.dk k) = o := ⟨_, rfl⟩
            obtain ⟨o2, ho2⟩ : ∃ o, (if 0 < x.tk then [x.tk] else []).foldl (minP at_) o1 = o := ⟨_, rfl⟩
            obtain ⟨o3, ho3⟩ : ∃ o, (if 0 < x.n then [max x.tk x.en + a.wrap] else []).foldl (minP at_) o2 = o := ⟨_, rfl⟩
            obtain ⟨o4, ho4⟩ : ∃ o, minP at_ o3 a.fr = o := ⟨_, rfl⟩
            have HFIN := Lib.hid (show minL at_ (waT C p.wt C.length ++ dkT A p.dk (k + 1)) = (a.ps.map (·.2)).foldl (minP at_) o4 by
              rw [HDT.out, ← List.append_assoc, minL_app, ho1]
              unfold dkT1
              rw [List.foldl_append, ho2, List.foldl_append, ho3, List.foldl_cons, ho4])
            have HO2 := Lib.hid ho2; have HO3 := Lib.hid ho3; have HO4 := Lib.hid ho4
            rw [ho1] at HCP
            unfold ptrV at kc
            rw [hD]
            have k6 := (HDK.out wr HCP.out.1).cell 6
            obtain ⟨D1, hD1⟩ : ∃ D, decide (0 < x.tk) = D := ⟨_, rfl⟩
            obtain ⟨D2, hD2⟩ : ∃ D, decide (0 < x.n) = D := ⟨_, rfl⟩
            have HD1 := Lib.hid hD1; have HD2 := Lib.hid hD2
            clear ha hD hbi hx hdb ho1 ho2 ho3 ho4 HDT hD2
            go_upto_if 79 with (fail)
            clear kc hD1
            obtain ⟨wv, rfl⟩ : ∃ wv : World, wv = wr := ⟨_, rfl⟩
            go_cut [13] (fun v wx => v = .pointer (some ⟨b, 0, none⟩) ∧ CapN w wx ab ob bb at_ o2)
            case first =>
              cases D1
              rotate_left 1
              · have h1 : 0 < x.tk := of_decide_eq_true HD1.out
                have HN := Lib.hid (show minP at_ o1 x.tk = o2 by rw [← HO2.out, if_pos h1]; rfl)
                clear h1
                go_wp2_with fail
                refine (take_any w ab ob bb x.tk at_ _ _ HCP.out HBL.out.1 HBL.out.2.1 HBL.out.2.2.1 HBL.out.2.2.2.1 HBL.out.2.2.2.2).mono ?_
                rintro e w4 ⟨rfl, hcp⟩
                have HCP4 := Lib.hid (show CapN w w4 ab ob bb at_ o2 by rw [← HN.out]; exact hcp)
                clear hcp k6
                go_wp2_with fail
                go_meet
                exact ⟨rfl, HCP4.out⟩
              · have h1 : ¬ 0 < x.tk := of_decide_eq_false HD1.out
                have HN := Lib.hid (show o1 = o2 by rw [← HO2.out, if_neg h1]; rfl)
                clear h1
                go_wp2_with fail
                go_meet
                exact ⟨rfl, by rw [← HN.out]; exact HCP.out⟩
            case rest =>
              obtain ⟨rfl, hcp2⟩ := hcut
              obtain ⟨w5, rfl⟩ : ∃ w5 : World, w5 = wc := ⟨_, rfl⟩
              replace HCP := Lib.hid hcp2
              clear hcp2 k6
              have k8 := (HDK.out w5 HCP.out.1).cell 8
              have hD2 := HD2.out
              go_upto_if 90 with (fail)
              clear k8 hD2
              go_cut [13] (fun v wx => v = .pointer (some ⟨b, 0, none⟩) ∧ CapN w wx ab ob bb at_ o3)
              case first =>
                cases D2
                rotate_left 1
                · have h1 : 0 < x.n := of_decide_eq_true HD2.out
                  have HN := Lib.hid (show minP at_ o2 (max x.tk x.en + a.wrap) = o3 by rw [← HO3.out, if_pos h1]; rfl)
                  have qw : IntKind.i64.wrap (max x.tk x.en + a.wrap) = max x.tk x.en + a.wrap := IntWalk.i64_in _ (by omega)
                  have HWK := Lib.hid (HDK.out w5 HCP.out.1)
                  clear h1
                  go_upto_region 22 with (fail)
                  refine wp_region_B (fun w' => w5.grownBy w' none) 16 (by kernel_rfl) ?_
                  have hHeld : w5.grownBy w5.drew none := gr_drew (gr_refl _ _)
                  refine B_take (k := 0) false (v := ?_) (by rfl) (by kernel_rfl) (by exact fun _ _ _ h => h) (by rfl) ?_ (by first | exact .inr hHeld | exact .inl (by rfl)) ?_
                  rotate_left 1
                  · intro w hSw
                    clear hSw
                    go_simp
                    (try with_reducible rfl)
                  (try simp only [Act.put, List.setIfInBounds_toArray, List.set_cons_zero, List.set_cons_succ])
                  refine B_take (k := 1) false (v := ?_) (by rfl) (by kernel_rfl) (by exact fun _ _ _ h => h) (by rfl) ?_ (by first | exact .inr hHeld | exact .inl (by rfl)) ?_
                  rotate_left 1
                  · intro w hSw
                    clear hSw
                    go_simp
                    (try with_reducible rfl)
                  (try simp only [Act.put, List.setIfInBounds_toArray, List.set_cons_zero, List.set_cons_succ])
                  refine B_take (k := 2) false (v := ?_) (by rfl) (by kernel_rfl) (by exact fun _ _ _ h => h) (by rfl) ?_ (by first | exact .inr hHeld | exact .inl (by rfl)) ?_
                  rotate_left 1
                  · intro w hSw
                    clear hSw
                    go_simp
                    (try with_reducible rfl)
                  (try simp only [Act.put, List.setIfInBounds_toArray, List.set_cons_zero, List.set_cons_succ])
                  refine B_take (k := 3) false (v := ?_) (by rfl) (by kernel_rfl) (by exact fun _ _ _ h => h) (by rfl) ?_ (by first | exact .inr hHeld | exact .inl (by rfl)) ?_
                  rotate_left 1
                  · intro w hSw
                    clear hSw
                    go_simp
                    (try with_reducible rfl)
                  (try simp only [Act.put, List.setIfInBounds_toArray, List.set_cons_zero, List.set_cons_succ])
                  refine B_take (k := 4) true (v := ?_) (by rfl) (by kernel_rfl) (by exact fun _ _ _ h => h) (by rfl) ?_ (.inr hHeld) ?_
                  rotate_left 1
                  · intro w' hSw
                    have kc := (HWK.out.grown hSw (by simp)).cell 6
                    go_simp
                    (try with_reducible rfl)
                  (try simp only [Act.put, List.setIfInBounds_toArray, List.set_cons_zero, List.set_cons_succ])
                  refine B_take (k := 5) false (v := ?_) (by rfl) (by kernel_rfl) (by exact fun _ _ _ h => h) (by rfl) ?_ (by first | exact .inr hHeld | exact .inl (by rfl)) ?_
                  rotate_left 1
                  · intro w hSw
                    clear hSw
                    go_simp
                    (try with_reducible rfl)
                  (try simp only [Act.put, List.setIfInBounds_toArray, List.set_cons_zero, List.set_cons_succ])
                  refine B_take (k := 6) false (v := ?_) (by rfl) (by kernel_rfl) (by exact fun _ _ _ h => h) (by rfl) ?_ (by first | exact .inr hHeld | exact .inl (by rfl)) ?_
                  rotate_left 1
                  · intro w hSw
                    clear hSw
                    go_simp
                    (try with_reducible rfl)
                  (try simp only [Act.put, List.setIfInBounds_toArray, List.set_cons_zero, List.set_cons_succ])
                  refine B_take (k := 7) false (v := ?_) (by rfl) (by kernel_rfl) (by exact fun _ _ _ h => h) (by rfl) ?_ (by first | exact .inr hHeld | exact .inl (by rfl)) ?_
                  rotate_left 1
                  · intro w hSw
                    clear hSw
                    go_simp
                    (try with_reducible rfl)
                  (try simp only [Act.put, List.setIfInBounds_toArray, List.set_cons_zero, List.set_cons_succ])
                  refine B_take (k := 8) true (v := ?_) (by rfl) (by kernel_rfl) (by exact fun _ _ _ h => h) (by rfl) ?_ (.inr hHeld) ?_
                  rotate_left 1
                  · intro w' hSw
                    have kc := (HWK.out.grown hSw (by simp)).cell 7
                    go_simp
                    (try with_reducible rfl)
                  (try simp only [Act.put, List.setIfInBounds_toArray, List.set_cons_zero, List.set_cons_succ])
                  refine B_take (k := 9) false (v := ?_) (by rfl) (by kernel_rfl) (by exact fun _ _ _ h => h) (by rfl) ?_ (by first | exact .inr hHeld | exact .inl (by rfl)) ?_
                  rotate_left 1
                  · intro w hSw
                    clear hSw
                    go_simp
                    (try with_reducible rfl)
                  (try simp only [Act.put, List.setIfInBounds_toArray, List.set_cons_zero, List.set_cons_succ])
                  refine B_take (k := 10) false (v := ?_) (by rfl) (by kernel_rfl) (by exact fun _ _ _ h => h) (by rfl) ?_ (by first | exact .inr hHeld | exact .inl (by rfl)) ?_
                  rotate_left 1
                  · intro w hSw
                    clear hSw
                    go_simp
                    (try with_reducible rfl)
                  (try simp only [Act.put, List.setIfInBounds_toArray, List.set_cons_zero, List.set_cons_succ])
                  refine B_take (k := 11) false (v := ?_) (by rfl) (by kernel_rfl) (by exact fun _ _ _ h => h) (by rfl) ?_ (by first | exact .inr hHeld | exact .inl (by rfl)) ?_
                  rotate_left 1
                  · intro w hSw
                    clear hSw
                    go_simp
                    (try with_reducible rfl)
                  (try simp only [Act.put, List.setIfInBounds_toArray, List.set_cons_zero, List.set_cons_succ])
                  refine B_take (k := 12) false (v := ?_) (by rfl) (by kernel_rfl) (by exact fun _ _ _ h => h) (by rfl) ?_ (by first | exact .inr hHeld | exact .inl (by rfl)) ?_
                  rotate_left 1
                  · intro w hSw
                    clear hSw
                    go_simp
                    (try with_reducible rfl)
                  (try simp only [Act.put, List.setIfInBounds_toArray, List.set_cons_zero, List.set_cons_succ])
                  refine B_take (k := 13) false (v := ?_) (by rfl) (by kernel_rfl) (by exact fun _ _ _ h => h) (by rfl) ?_ (by first | exact .inr hHeld | exact .inl (by rfl)) ?_
                  rotate_left 1
                  · intro w hSw
                    clear hSw
                    go_simp
                    (try with_reducible rfl)
                  (try simp only [Act.put, List.setIfInBounds_toArray, List.set_cons_zero, List.set_cons_succ])
                  refine B_take (k := 14) true (v := ?_) (by rfl) (by kernel_rfl) (by exact fun _ _ _ h => h) (by rfl) ?_ (.inr hHeld) ?_
                  rotate_left 1
                  · intro w' hSw
                    have kc := (HWK.out.grown hSw (by simp)).cell 5
                    go_simp
                    (try with_reducible rfl)
                  (try simp only [Act.put, List.setIfInBounds_toArray, List.set_cons_zero, List.set_cons_succ])
                  refine B_take (k := 15) false (v := ?_) (by rfl) (by kernel_rfl) (by exact fun _ _ _ h => h) (by rfl) ?_ (by first | exact .inr hHeld | exact .inl (by rfl)) ?_
                  rotate_left 1
                  · intro w hSw
                    clear hSw
                    go_simp
                    (try with_reducible rfl)
                  (try simp only [Act.put, List.setIfInBounds_toArray, List.set_cons_zero, List.set_cons_succ])
                  refine B_run (k := 16) (by rfl) (by kernel_rfl) (by rfl) (fun K hK => ?_)
                  go_simp
                  refine (take_any w ab ob bb (max x.tk x.en + a.wrap) at_ _ _ (HCP.out.kept hHeld) HBL.out.1 HBL.out.2.1 HBL.out.2.2.1 HBL.out.2.2.2.1 HBL.out.2.2.2.2).mono ?_
                  rintro e w4 ⟨rfl, hcp⟩
                  have HCP4 := Lib.hid (show CapN w w4 ab ob bb at_ o3 by rw [← HN.out]; exact hcp)
                  refine hK _ _ (.inl (by rfl)) ?_
                  clear hK K hHeld hcp
                  (try simp only [Act.put, List.setIfInBounds_toArray, List.set_cons_zero, List.set_cons_succ])
                  refine B_done (by kernel_rfl) ?_
                  go_wp2_with fail
                  go_meet
                  exact ⟨rfl, HCP4.out⟩
                · have h1 : ¬ 0 < x.n := of_decide_eq_false HD2.out
                  have HN := Lib.hid (show o2 = o3 by rw [← HO3.out, if_neg h1]; rfl)
                  clear h1
                  go_wp2_with fail
                  go_meet
                  exact ⟨rfl, by rw [← HN.out]; exact HCP.out⟩
              case rest =>
                obtain ⟨rfl, hcp2⟩ := hcut
                obtain ⟨w6, rfl⟩ : ∃ w6 : World, w6 = wc := ⟨_, rfl⟩
                replace HCP := Lib.hid hcp2
                clear hcp2
                have k2 := (HDK.out w6 HCP.out.1).cell 2
                go_wp2_with fail
                refine (take_any w ab ob bb a.fr at_ _ _ HCP.out HBL.out.1 HBL.out.2.1 HBL.out.2.2.1 HBL.out.2.2.2.1 HBL.out.2.2.2.2).mono ?_
                rintro e w7 ⟨rfl, hcp⟩
                replace HCP := Lib.hid (show CapN w w7 ab ob bb at_ o4 by rw [← HO4.out]; exact hcp)
                clear hcp k2
                have k4 := (HDK.out w7 HCP.out.1).cell 4
                go_wp2_with fail
                clear k4
                go_loopw [15, 122] (fun _ t122 wr => ∃ j : Nat, t122 = .int .i64 j ∧ j ≤ a.pn ∧ CapN w wr ab ob bb at_ (((a.ps.take j).map (·.2)).foldl (minP at_) o4)) (fun _ t122 _ => a.pn - (intOf t122).toNat)
                case atStart => exact ⟨0, rfl, Nat.zero_le _, HCP.out⟩
                case round =>
                  clear HCP
                  obtain ⟨j, rfl, hj, hcp⟩ := hrel
                  have HCP := Lib.hid hcp
                  clear hcp
                  by_cases hlj : j < a.pn
                  · obtain ⟨pg, po, z, hpe, _, _, hp2, hpc⟩ := (HAG.out.2.2.grown HCP.out.1 (fun g e => by cases e)).get pwRow_len hlj
                    have hlj2 : (j : Int) < (a.pn : Int) := by omega
                    have HPC := Lib.hid hpc
                    have HN := Lib.hid (show minP at_ (((a.ps.take j).map (·.2)).foldl (minP at_) o4) z.2 = ((a.ps.take (j + 1)).map (·.2)).foldl (minP at_) o4 by
                      rw [take_snoc hp2, List.map_append, List.foldl_append]; rfl)
                    clear hp2 hpc
                    rw [hpe]
                    obtain ⟨wa, hwa⟩ : ∃ wa, wr.alloc (.cells #[.int .i64 z.1, .int .i64 z.2] 77) = wa := ⟨_, rfl⟩
                    obtain ⟨zb, hzb⟩ : ∃ zb, wr.heap.size = zb := ⟨_, rfl⟩
                    have HB := Lib.hid (show Blk wa zb 77 #[.int .i64 z.1, .int .i64 z.2] by rw [← hwa, ← hzb]; exact Blk.new _ _ _)
                    have HGa := Lib.hid (show wr.grownBy wa none by rw [← hwa]; exact gr_alloc (gr_refl _ _) _)
                    have HWA := Lib.hid hwa; have HZB := Lib.hid hzb
                    clear hwa hzb
                    go_upto_region 27 with (first
                      | (refine wpl_load_at Tryz.winT rfl _ rfl _ rfl [.int .i64 z.1, .int .i64 z.2] rfl (fun j u hu => by rw [add_mk]; exact HPC.out j u hu) ?_)
                      | fail)
                    rw [HWA.out]
                    (try rw [HZB.out])
                    replace HCP := Lib.hid (HCP.out.kept HGa.out)
                    have kz := HB.out.cell 1
                    clear HWA HZB HPC HGa
                    go_wp2_with fail
                    refine (take_any w ab ob bb z.2 at_ _ _ HCP.out HBL.out.1 HBL.out.2.1 HBL.out.2.2.1 HBL.out.2.2.2.1 HBL.out.2.2.2.2).mono ?_
                    rintro e w8 ⟨rfl, hcp⟩
                    replace HCP := Lib.hid (show CapN w w8 ab ob bb at_ (((a.ps.take (j + 1)).map (·.2)).foldl (minP at_) o4) by rw [← HN.out]; exact hcp)
                    clear hcp kz
                    go_wp2_with fail
                    go_roundw
                    case rel => exact ⟨j + 1, by go_num, by omega, HCP.out⟩
                    case measure => simp [intOf]; omega
                  · obtain rfl : j = a.pn := by omega
                    have HN := Lib.hid (show ((a.ps.take a.pn).map (·.2)).foldl (minP at_) o4 = minL at_ (waT C p.wt C.length ++ dkT A p.dk (k + 1)) by rw [HFIN.out, ← hpl, List.take_length])
                    go_wp2_with fail
                    go_roundw
                    case rel => exact ⟨k + 1, by go_num, by omega, by rw [← HN.out]; exact HCP.out⟩
                    case measure => simp [intOf]; omega
          · obtain rfl : k = A.length := by omega
            obtain ⟨o, ho⟩ : ∃ o, minL at_ (waT C p.wt C.length ++ dkT A p.dk A.length) = o := ⟨_, rfl⟩
            rw [ho] at HCP
            have HV := Lib.hid (show nextV A C p at_ = .tuple #[.int .i64 (o.getD 0), .bool o.isSome] by unfold nextV; rw [HNX.out, if_pos (by trivial), ho])
            have HOB := Lib.hid HCP.out.2.2.1; have HBB := Lib.hid HCP.out.2.2.2
            clear ho
            obtain ⟨wv, rfl⟩ : ∃ wv : World, wv = wr := ⟨_, rfl⟩
            go_upto_region 30 with (fail)
            refine H_begin (fun w' => wv.grownBy w' none) (by kernel_rfl) ?_
            have hHeld : wv.grownBy wv.drew none := gr_drew (gr_refl _ _)
            refine H_take (k := 0) (v := ?_) (by rfl) (by kernel_rfl) (by kernel_rfl) (by kernel_rfl) (by exact fun _ _ _ h => h) (by rfl) ?_ (by assumption) ?_
            rotate_left 1
            · intro w' hSw
              have kc := (HBB.out.grown hSw (by simp)).cell 0
              go_simp
              (try with_reducible rfl)
            (try simp only [Act.put, List.setIfInBounds_toArray, List.set_cons_zero, List.set_cons_succ])
            refine H_take (k := 1) (v := ?_) (by rfl) (by kernel_rfl) (by kernel_rfl) (by kernel_rfl) (by exact fun _ _ _ h => h) (by rfl) ?_ (by assumption) ?_
            rotate_left 1
            · intro w' hSw
              have kc := (HOB.out.grown hSw (by simp)).cell 0
              go_simp
              (try with_reducible rfl)
            (try simp only [Act.put, List.setIfInBounds_toArray, List.set_cons_zero, List.set_cons_succ])
            refine H_take (k := 2) (v := ?_) (by rfl) (by kernel_rfl) (by kernel_rfl) (by kernel_rfl) (by exact fun _ _ _ h => h) (by rfl) ?_ (by assumption) ?_
            rotate_left 1
            · intro w hSw
              (try dsimp only at hSw)
              go_simp
              (try with_reducible rfl)
            (try simp only [Act.put, List.setIfInBounds_toArray, List.set_cons_zero, List.set_cons_succ])
            refine H_take (k := 3) (v := ?_) (by rfl) (by kernel_rfl) (by kernel_rfl) (by kernel_rfl) (by exact fun _ _ _ h => h) (by rfl) ?_ (by assumption) ?_
            rotate_left 1
            · intro w hSw
              (try dsimp only at hSw)
              go_simp
              (try with_reducible rfl)
            (try simp only [Act.put, List.setIfInBounds_toArray, List.set_cons_zero, List.set_cons_succ])
            refine H_done (by kernel_rfl) ?_
            go_wp2_with fail
            go_ret2
            exact ⟨by rw [HV.out]; try rfl, gr_none HCP.out.1 hHeld⟩
end Go.Proofs.YtpildcnoghojpaaGreatDoor

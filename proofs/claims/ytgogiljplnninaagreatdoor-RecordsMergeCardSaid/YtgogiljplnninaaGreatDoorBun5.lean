/- The orders of records with the world's exact shape; slices.SortFunc at records by either of them: the same sorted list. Conditions: records of bounded numbers for the document's order. -/
import Derived.Test.YtgogiljplnninaaGreatDoorRmG
import Derived.Test.YtgogiljplnninaaGreatDoorBun2
import Derived.Test.YtgogiljplnninaaGreatDoorBun1
import Derived.Test.YtgogiljplnninaaGreatDoorShelfSRc
namespace Go.Proofs.YtgogiljplnninaaGreatDoor
section
open Go.RowKit Go.Sort

set_option maxHeartbeats 4000000 in
set_option maxRecDepth 100000 in
theorem compareR_q (a b : RcV) (w : World) : Calls Tryz.prog 56 #[.agg #[.string a.id, .string a.frm, .string a.too, .int .i64 a.at_, .int .i64 a.ring, .int .i64 a.talk, .int .i64 a.how, .string a.car], .agg #[.string b.id, .string b.frm, .string b.too, .int .i64 b.at_, .int .i64 b.ring, .int .i64 b.talk, .int .i64 b.how, .string b.car]] w (RetQ (.int .i64 (rcCmp a b)) w) := by
  obtain ⟨W1, hW⟩ : ∃ W1, (w.alloc (.cells #[.string a.id, .string a.frm, .string a.too, .int .i64 a.at_, .int .i64 a.ring, .int .i64 a.talk, .int .i64 a.how, .string a.car] 32)).alloc (.cells #[.string b.id, .string b.frm, .string b.too, .int .i64 b.at_, .int .i64 b.ring, .int .i64 b.talk, .int .i64 b.how, .string b.car] 32) = W1 := ⟨_, rfl⟩
  have HA := Lib.hid (show Blk W1 w.heap.size 32 #[.string a.id, .string a.frm, .string a.too, .int .i64 a.at_, .int .i64 a.ring, .int .i64 a.talk, .int .i64 a.how, .string a.car] by rw [← hW]; exact (Blk.new _ _ _).alloc _)
  have HB := Lib.hid (show Blk W1 (w.heap.size + 1) 32 #[.string b.id, .string b.frm, .string b.too, .int .i64 b.at_, .int .i64 b.ring, .int .i64 b.talk, .int .i64 b.how, .string b.car] by
    rw [← hW]
    have h := Blk.new (w.alloc (.cells #[.string a.id, .string a.frm, .string a.too, .int .i64 a.at_, .int .i64 a.ring, .int .i64 a.talk, .int .i64 a.how, .string a.car] 32)) 32 #[.string b.id, .string b.frm, .string b.too, .int .i64 b.at_, .int .i64 b.ring, .int .i64 b.talk, .int .i64 b.how, .string b.car]
    simpa using h)
  have HQ := Lib.hid (show Gq w W1 by rw [← hW]; exact ((Gq.refl w).alloc _).alloc _)
  have hz1 : W1.heap.size = w.heap.size + 1 + 1 := by rw [← hW]; simp
  have HW := Lib.hid hW; clear hW
  have HV := Lib.hid (show rcCmp a b = orL [cmpZ a.at_ b.at_, cmpS a.id b.id] by rw [← rcCmp_or]; unfold orZ orL orL orL; split <;> simp_all)
  obtain ⟨q1, h1⟩ : ∃ q, cmpZ a.at_ b.at_ = q := ⟨_, rfl⟩
  obtain ⟨q2, h2⟩ : ∃ q, cmpS a.id b.id = q := ⟨_, rfl⟩
  rw [h1, h2] at HV
  have H1 := Lib.hid h1
  have H2 := Lib.hid h2
  clear h1 h2
  go_enter Tryz.func56, Tryz.ntmps56
  go_wp2_with fail
  rw [HW.out]
  refine H_begin (fun w' => Gq W1 w') (by kernel_rfl) ?_
  have hHeld : Gq W1 W1.drew := (Gq.refl _).drew
  generalize W1.drew = wd at hHeld ⊢
  refine H_take (k := 0) (v := ?_) (by rfl) (by kernel_rfl) (by kernel_rfl) (by kernel_rfl) (by exact fun _ _ _ h => h) (by rfl) ?_ (by assumption) ?_
  rotate_left 1
  · intro w hSw
    (try dsimp only at hSw)
    go_simp
    (try with_reducible rfl)
  (try simp only [Act.put, List.setIfInBounds_toArray, List.set_cons_zero, List.set_cons_succ])
  refine H_take (k := 1) (v := ?_) (by rfl) (by kernel_rfl) (by kernel_rfl) (by kernel_rfl) (by exact fun _ _ _ h => h) (by rfl) ?_ (by assumption) ?_
  rotate_left 1
  · intro w' hSw
    have kc := (HA.out.grown hSw.gr (by simp)).cell 3
    go_simp
    (try with_reducible rfl)
  (try simp only [Act.put, List.setIfInBounds_toArray, List.set_cons_zero, List.set_cons_succ])
  refine H_take (k := 2) (v := ?_) (by rfl) (by kernel_rfl) (by kernel_rfl) (by kernel_rfl) (by exact fun _ _ _ h => h) (by rfl) ?_ (by assumption) ?_
  rotate_left 1
  · intro w hSw
    (try dsimp only at hSw)
    go_simp
    (try with_reducible rfl)
  (try simp only [Act.put, List.setIfInBounds_toArray, List.set_cons_zero, List.set_cons_succ])
  refine H_take (k := 3) (v := ?_) (by rfl) (by kernel_rfl) (by kernel_rfl) (by kernel_rfl) (by exact fun _ _ _ h => h) (by rfl) ?_ (by assumption) ?_
  rotate_left 1
  · intro w' hSw
    have kc := (HB.out.grown hSw.gr (by simp)).cell 3
    go_simp
    (try with_reducible rfl)
  (try simp only [Act.put, List.setIfInBounds_toArray, List.set_cons_zero, List.set_cons_succ])
  refine H_take (k := 5) (v := ?_) (by rfl) (by kernel_rfl) (by kernel_rfl) (by kernel_rfl) (by exact fun _ _ _ h => h) (by rfl) ?_ (by assumption) ?_
  rotate_left 1
  · intro w hSw
    (try dsimp only at hSw)
    go_simp
    (try with_reducible rfl)
  (try simp only [Act.put, List.setIfInBounds_toArray, List.set_cons_zero, List.set_cons_succ])
  refine H_take (k := 6) (v := ?_) (by rfl) (by kernel_rfl) (by kernel_rfl) (by kernel_rfl) (by exact fun _ _ _ h => h) (by rfl) ?_ (by assumption) ?_
  rotate_left 1
  · intro w' hSw
    have kc := (HA.out.grown hSw.gr (by simp)).cell 0
    go_simp
    (try with_reducible rfl)
  (try simp only [Act.put, List.setIfInBounds_toArray, List.set_cons_zero, List.set_cons_succ])
  refine H_take (k := 7) (v := ?_) (by rfl) (by kernel_rfl) (by kernel_rfl) (by kernel_rfl) (by exact fun _ _ _ h => h) (by rfl) ?_ (by assumption) ?_
  rotate_left 1
  · intro w hSw
    (try dsimp only at hSw)
    go_simp
    (try with_reducible rfl)
  (try simp only [Act.put, List.setIfInBounds_toArray, List.set_cons_zero, List.set_cons_succ])
  refine H_take (k := 8) (v := ?_) (by rfl) (by kernel_rfl) (by kernel_rfl) (by kernel_rfl) (by exact fun _ _ _ h => h) (by rfl) ?_ (by assumption) ?_
  rotate_left 1
  · intro w' hSw
    have kc := (HB.out.grown hSw.gr (by simp)).cell 0
    go_simp
    (try with_reducible rfl)
  (try simp only [Act.put, List.setIfInBounds_toArray, List.set_cons_zero, List.set_cons_succ])
  refine H_run (k := 4) (by rfl) (by kernel_rfl) (by rfl) (fun K hK => ?_)
  go_simp
  refine same_calls (cmpZ_any _ _ _) ?_
  rw [H1.out]
  refine hK _ _ hHeld ?_
  clear hK K
  (try simp only [Act.put, List.setIfInBounds_toArray, List.set_cons_zero, List.set_cons_succ])
  refine H_run (k := 9) (by rfl) (by kernel_rfl) (by rfl) (fun K hK => ?_)
  go_simp
  refine same_calls (strCmp_any _ _ _) ?_
  rw [H2.out]
  refine hK _ _ hHeld ?_
  clear hK K
  (try simp only [Act.put, List.setIfInBounds_toArray, List.set_cons_zero, List.set_cons_succ])
  refine H_run (k := 10) (by rfl) (by kernel_rfl) (by rfl) (fun K hK => ?_)
  go_simp
  obtain ⟨W2, hW2⟩ : ∃ W2, wd.alloc (.cells #[.int .i64 q1, .int .i64 q2] 3) = W2 := ⟨_, rfl⟩
  obtain ⟨g2, hg2⟩ : ∃ g, wd.heap.size = g := ⟨_, rfl⟩
  have hq2 : Gq W1 W2 := by rw [← hW2]; exact hHeld.alloc _
  have HC := Lib.hid (show Blk W2 g2 3 ([q1, q2].map (Value.int .i64)).toArray by rw [← hW2, ← hg2]; exact Blk.new _ _ _)
  (try rw [hW2])
  (try rw [hg2])
  refine hK _ _ hq2 ?_
  clear hK K hHeld hW2 hg2
  have hHeld := hq2
  (try simp only [Act.put, List.setIfInBounds_toArray, List.set_cons_zero, List.set_cons_succ])
  refine H_run (k := 11) (by rfl) (by kernel_rfl) (by rfl) (fun K hK => ?_)
  go_simp
  refine same_calls (orL_any [q1, q2] g2 2 _ HC.out rfl (by omega)) ?_

  refine hK _ _ hHeld ?_
  clear hK K
  (try simp only [Act.put, List.setIfInBounds_toArray, List.set_cons_zero, List.set_cons_succ])
  refine H_take (k := 12) (v := ?_) (by rfl) (by kernel_rfl) (by kernel_rfl) (by kernel_rfl) (by exact fun _ _ _ h => h) (by rfl) ?_ (by assumption) ?_
  rotate_left 1
  · intro w hSw
    (try dsimp only at hSw)
    go_simp
    (try with_reducible rfl)
  (try simp only [Act.put, List.setIfInBounds_toArray, List.set_cons_zero, List.set_cons_succ])
  refine H_done (by kernel_rfl) ?_
  go_wp2_with fail
  go_ret
  exact ⟨by rw [HV.out]; try rfl, HQ.out.trans hHeld⟩
set_option maxHeartbeats 2000000 in
set_option maxRecDepth 100000 in
theorem recordOrder_q (a b : RcV) (w : World) (ha : RcOkL a) (hb : RcOkL b) : Calls Tryz.prog 52 #[.agg #[.string a.id, .string a.frm, .string a.too, .int .i64 a.at_, .int .i64 a.ring, .int .i64 a.talk, .int .i64 a.how, .string a.car], .agg #[.string b.id, .string b.frm, .string b.too, .int .i64 b.at_, .int .i64 b.ring, .int .i64 b.talk, .int .i64 b.how, .string b.car]] w (RetQ (.int .i64 (rcCmp a b)) w) := by
  obtain ⟨-, -, -, -, a1, a2⟩ := ha
  obtain ⟨-, -, -, -, b1, b2⟩ := hb
  have hsub : IntKind.i64.wrap (a.at_ - b.at_) = a.at_ - b.at_ := IntWalk.i64_in _ (by omega)
  clear a1 a2 b1 b2
  obtain ⟨W1, hW⟩ : ∃ W1, (w.alloc (.cells #[.string a.id, .string a.frm, .string a.too, .int .i64 a.at_, .int .i64 a.ring, .int .i64 a.talk, .int .i64 a.how, .string a.car] 32)).alloc (.cells #[.string b.id, .string b.frm, .string b.too, .int .i64 b.at_, .int .i64 b.ring, .int .i64 b.talk, .int .i64 b.how, .string b.car] 32) = W1 := ⟨_, rfl⟩
  have HA := Lib.hid (show Blk W1 w.heap.size 32 #[.string a.id, .string a.frm, .string a.too, .int .i64 a.at_, .int .i64 a.ring, .int .i64 a.talk, .int .i64 a.how, .string a.car] by rw [← hW]; exact (Blk.new _ _ _).alloc _)
  have HB := Lib.hid (show Blk W1 (w.heap.size + 1) 32 #[.string b.id, .string b.frm, .string b.too, .int .i64 b.at_, .int .i64 b.ring, .int .i64 b.talk, .int .i64 b.how, .string b.car] by
    rw [← hW]
    have h := Blk.new (w.alloc (.cells #[.string a.id, .string a.frm, .string a.too, .int .i64 a.at_, .int .i64 a.ring, .int .i64 a.talk, .int .i64 a.how, .string a.car] 32)) 32 #[.string b.id, .string b.frm, .string b.too, .int .i64 b.at_, .int .i64 b.ring, .int .i64 b.talk, .int .i64 b.how, .string b.car]
    simpa using h)
  have HQ := Lib.hid (show Gq w W1 by rw [← hW]; exact ((Gq.refl w).alloc _).alloc _)
  have hz1 : W1.heap.size = w.heap.size + 1 + 1 := by rw [← hW]; simp
  have HW := Lib.hid hW; clear hW
  have a3 := HA.out.cell 3; have a0 := HA.out.cell 0; have b3 := HB.out.cell 3; have b0 := HB.out.cell 0
  by_cases e : a.at_ = b.at_
  · have d : (a.at_ != b.at_) = false := by simp [e]
    have HR := Lib.hid (show cmpS a.id b.id = rcCmp a b by unfold rcCmp; rw [if_pos e])
    clear e
    go_enter Tryz.func52, Tryz.ntmps52
    go_wp2_with fail
    rw [HW.out]
    go_wp2_with fail
    refine same_calls (strCmp_any _ _ _) ?_
    go_wp2_with fail
    go_ret
    exact ⟨by rw [← HR.out]; try rfl, HQ.out⟩
  · have d : (a.at_ != b.at_) = true := by simpa using e
    have HR := Lib.hid (rcCmp_sgn a b e)
    clear e
    go_enter Tryz.func52, Tryz.ntmps52
    go_wp2_with fail
    rw [HW.out]
    go_wp2_with fail
    refine same_calls (sgnZ_any _ _) ?_
    go_wp2_with fail
    go_ret
    exact ⟨by rw [← HR.out]; try rfl, HQ.out⟩
/-- The order of records is strict and weak. -/
theorem rcCmp_lt (a b : RcV) : rcCmp a b < 0 ↔ a.at_ < b.at_ ∨ a.at_ = b.at_ ∧ cmpS a.id b.id < 0 := by
  unfold rcCmp
  by_cases h : a.at_ = b.at_
  · rw [if_pos h]; constructor
    · exact fun h1 => .inr ⟨h, h1⟩
    · rintro (h1 | ⟨_, h1⟩)
      · omega
      · exact h1
  · rw [if_neg h]
    by_cases h1 : a.at_ < b.at_
    · rw [if_pos h1]; constructor
      · exact fun _ => .inl h1
      · exact fun _ => by decide
    · rw [if_neg h1]; constructor
      · intro h2; exact absurd h2 (by decide)
      · rintro (h2 | ⟨h2, _⟩)
        · exact absurd h2 h1
        · exact absurd h2 h
theorem swoRc : SWO (ltOf rcCmp) where
  irrefl x := by
    unfold ltOf
    rw [decide_eq_false_iff_not, rcCmp_lt]
    have h := cmpS_zero (a := x.id) (b := x.id)
    have := h.2 rfl
    omega
  trans x y z h1 h2 := by
    unfold ltOf at *
    rw [decide_eq_true_eq, rcCmp_lt] at *
    rcases h1 with h1 | ⟨h1, k1⟩ <;> rcases h2 with h2 | ⟨h2, k2⟩
    · exact .inl (by omega)
    · exact .inl (by omega)
    · exact .inl (by omega)
    · exact .inr ⟨by omega, cmpS_trans k1 k2⟩
  ntrans x y z h1 h2 := by
    unfold ltOf at *
    rw [decide_eq_false_iff_not, rcCmp_lt] at *
    intro h3
    have n1 := cmpS_neg x.id y.id; have n2 := cmpS_neg y.id z.id
    have hxy : ¬ x.at_ < y.at_ := fun h => h1 (.inl h)
    have hyz : ¬ y.at_ < z.at_ := fun h => h2 (.inl h)
    rcases h3 with h3 | ⟨h3, k3⟩
    · omega
    · have e1 : x.at_ = y.at_ := by omega
      have e2 : y.at_ = z.at_ := by omega
      have g1 : ¬ cmpS x.id y.id < 0 := fun h => h1 (.inr ⟨e1, h⟩)
      have g2 : ¬ cmpS y.id z.id < 0 := fun h => h2 (.inr ⟨e2, h⟩)
      exact cmpS_ntrans g1 g2 k3
def SortedRc (A : Option Addr) (n c lo : Nat) (l : List RcV) (w : World) (e : Ending) (w' : World) : Prop := e = .returned (.tuple #[]) ∧ ∃ l' : List RcV, l'.Perm l ∧ Asc rcCmp l' ∧ OwnR RcV.row 8 w' lo 32 A n c l' ∧ w.grownBy w' (blkOf A)
theorem sortP_any (lo : Nat) (A : Option Addr) (n c : Nat) (l : List RcV) (w : World) (h : OwnR RcV.row 8 w lo 32 A n c l) (hl : ∀ r ∈ l, RcOkL r) (hn : n ≤ 100000) :
    Calls Tryz.prog 55 #[.slice A n c, .func (.func 56) #[] #[]] w (SortedRc A n c lo l w) := by
  have eg : ∀ args w, (callFunc 56 args).run Tryz.prog w = .ok (.enter 56 args) w := enters_of Tryz.func56 (by kernel_rfl) rfl
  have hcon := sortRec_any Tryz.sortRc Tryz.isAgg32 Tryz.sizeOf32 RcV.row_len (fun x => RcV.one1 x) rcCmp swoRc 56 #[] eg (Ok := RcOkL) (fun x y w1 _ _ => compareR_q x y w1) A h hl (by omega)
  exact hcon
theorem sortD_any (lo : Nat) (A : Option Addr) (n c : Nat) (l : List RcV) (w : World) (h : OwnR RcV.row 8 w lo 32 A n c l) (hl : ∀ r ∈ l, RcOkL r) (hn : n ≤ 100000) :
    Calls Tryz.prog 55 #[.slice A n c, .func (.func 52) #[] #[]] w (SortedRc A n c lo l w) := by
  have eg : ∀ args w, (callFunc 52 args).run Tryz.prog w = .ok (.enter 52 args) w := enters_of Tryz.func52 (by kernel_rfl) rfl
  have hcon := sortRec_any Tryz.sortRc Tryz.isAgg32 Tryz.sizeOf32 RcV.row_len (fun x => RcV.one1 x) rcCmp swoRc 52 #[] eg (Ok := RcOkL) (fun x y w1 hx hy => recordOrder_q x y w1 hx hy) A h hl (by omega)
  exact hcon
end
end Go.Proofs.YtgogiljplnninaaGreatDoor
/- Contract of better: which of two records of one Id counts. Conditions: none. -/
namespace Go.Proofs.YtgogiljplnninaaGreatDoor
section
open Go.RowKit

set_option maxHeartbeats 8000000 in
set_option maxRecDepth 100000 in
theorem better_any (a b : RcV) (w : World) : Calls Tryz.prog 54 #[.agg #[.string a.id, .string a.frm, .string a.too, .int .i64 a.at_, .int .i64 a.ring, .int .i64 a.talk, .int .i64 a.how, .string a.car], .agg #[.string b.id, .string b.frm, .string b.too, .int .i64 b.at_, .int .i64 b.ring, .int .i64 b.talk, .int .i64 b.how, .string b.car]] w (RetV (.bool (btr a b)) w) := by
  obtain ⟨W1, hW⟩ : ∃ W1, (w.alloc (.cells #[.string a.id, .string a.frm, .string a.too, .int .i64 a.at_, .int .i64 a.ring, .int .i64 a.talk, .int .i64 a.how, .string a.car] 32)).alloc (.cells #[.string b.id, .string b.frm, .string b.too, .int .i64 b.at_, .int .i64 b.ring, .int .i64 b.talk, .int .i64 b.how, .string b.car] 32) = W1 := ⟨_, rfl⟩
  have HA := Lib.hid (show Blk W1 w.heap.size 32 #[.string a.id, .string a.frm, .string a.too, .int .i64 a.at_, .int .i64 a.ring, .int .i64 a.talk, .int .i64 a.how, .string a.car] by rw [← hW]; exact (Blk.new _ _ _).alloc _)
  have HB := Lib.hid (show Blk W1 (w.heap.size + 1) 32 #[.string b.id, .string b.frm, .string b.too, .int .i64 b.at_, .int .i64 b.ring, .int .i64 b.talk, .int .i64 b.how, .string b.car] by
    rw [← hW]
    have h := Blk.new (w.alloc (.cells #[.string a.id, .string a.frm, .string a.too, .int .i64 a.at_, .int .i64 a.ring, .int .i64 a.talk, .int .i64 a.how, .string a.car] 32)) 32 #[.string b.id, .string b.frm, .string b.too, .int .i64 b.at_, .int .i64 b.ring, .int .i64 b.talk, .int .i64 b.how, .string b.car]
    simpa using h)
  have HQ := Lib.hid (show Gq w W1 by rw [← hW]; exact ((Gq.refl w).alloc _).alloc _)
  have hz1 : W1.heap.size = w.heap.size + 1 + 1 := by rw [← hW]; simp
  have HW := Lib.hid hW; clear hW
  have HV := Lib.hid (show btr a b = decide (orL [cmpZ b.talk a.talk, cmpZ b.ring a.ring, cmpZ a.at_ b.at_, cmpZ a.how b.how, cmpS a.frm b.frm, cmpS a.too b.too, cmpS a.car b.car] < 0) from rfl)
  obtain ⟨q1, h1⟩ : ∃ q, cmpZ b.talk a.talk = q := ⟨_, rfl⟩
  obtain ⟨q2, h2⟩ : ∃ q, cmpZ b.ring a.ring = q := ⟨_, rfl⟩
  obtain ⟨q3, h3⟩ : ∃ q, cmpZ a.at_ b.at_ = q := ⟨_, rfl⟩
  obtain ⟨q4, h4⟩ : ∃ q, cmpZ a.how b.how = q := ⟨_, rfl⟩
  obtain ⟨q5, h5⟩ : ∃ q, cmpS a.frm b.frm = q := ⟨_, rfl⟩
  obtain ⟨q6, h6⟩ : ∃ q, cmpS a.too b.too = q := ⟨_, rfl⟩
  obtain ⟨q7, h7⟩ : ∃ q, cmpS a.car b.car = q := ⟨_, rfl⟩
  rw [h1, h2, h3, h4, h5, h6, h7] at HV
  have H1 := Lib.hid h1
  have H2 := Lib.hid h2
  have H3 := Lib.hid h3
  have H4 := Lib.hid h4
  have H5 := Lib.hid h5
  have H6 := Lib.hid h6
  have H7 := Lib.hid h7
  clear h1 h2 h3 h4 h5 h6 h7
  go_enter Tryz.func54, Tryz.ntmps54
  go_wp2_with fail
  rw [HW.out]
  refine H_begin (fun w' => Gq W1 w') (by kernel_rfl) ?_
  have hHeld : Gq W1 W1.drew := (Gq.refl _).drew
  generalize W1.drew = wd at hHeld ⊢
  refine H_take (k := 0) (v := ?_) (by rfl) (by kernel_rfl) (by kernel_rfl) (by kernel_rfl) (by exact fun _ _ _ h => h) (by rfl) ?_ (by assumption) ?_
  rotate_left 1
  · intro w hSw
    (try dsimp only at hSw)
    go_simp
    (try with_reducible rfl)
  (try simp only [Act.put, List.setIfInBounds_toArray, List.set_cons_zero, List.set_cons_succ])
  refine H_take (k := 1) (v := ?_) (by rfl) (by kernel_rfl) (by kernel_rfl) (by kernel_rfl) (by exact fun _ _ _ h => h) (by rfl) ?_ (by assumption) ?_
  rotate_left 1
  · intro w' hSw
    have kc := (HB.out.grown hSw.gr (by simp)).cell 5
    go_simp
    (try with_reducible rfl)
  (try simp only [Act.put, List.setIfInBounds_toArray, List.set_cons_zero, List.set_cons_succ])
  refine H_take (k := 2) (v := ?_) (by rfl) (by kernel_rfl) (by kernel_rfl) (by kernel_rfl) (by exact fun _ _ _ h => h) (by rfl) ?_ (by assumption) ?_
  rotate_left 1
  · intro w hSw
    (try dsimp only at hSw)
    go_simp
    (try with_reducible rfl)
  (try simp only [Act.put, List.setIfInBounds_toArray, List.set_cons_zero, List.set_cons_succ])
  refine H_take (k := 3) (v := ?_) (by rfl) (by kernel_rfl) (by kernel_rfl) (by kernel_rfl) (by exact fun _ _ _ h => h) (by rfl) ?_ (by assumption) ?_
  rotate_left 1
  · intro w' hSw
    have kc := (HA.out.grown hSw.gr (by simp)).cell 5
    go_simp
    (try with_reducible rfl)
  (try simp only [Act.put, List.setIfInBounds_toArray, List.set_cons_zero, List.set_cons_succ])
  refine H_take (k := 5) (v := ?_) (by rfl) (by kernel_rfl) (by kernel_rfl) (by kernel_rfl) (by exact fun _ _ _ h => h) (by rfl) ?_ (by assumption) ?_
  rotate_left 1
  · intro w hSw
    (try dsimp only at hSw)
    go_simp
    (try with_reducible rfl)
  (try simp only [Act.put, List.setIfInBounds_toArray, List.set_cons_zero, List.set_cons_succ])
  refine H_take (k := 6) (v := ?_) (by rfl) (by kernel_rfl) (by kernel_rfl) (by kernel_rfl) (by exact fun _ _ _ h => h) (by rfl) ?_ (by assumption) ?_
  rotate_left 1
  · intro w' hSw
    have kc := (HB.out.grown hSw.gr (by simp)).cell 4
    go_simp
    (try with_reducible rfl)
  (try simp only [Act.put, List.setIfInBounds_toArray, List.set_cons_zero, List.set_cons_succ])
  refine H_take (k := 7) (v := ?_) (by rfl) (by kernel_rfl) (by kernel_rfl) (by kernel_rfl) (by exact fun _ _ _ h => h) (by rfl) ?_ (by assumption) ?_
  rotate_left 1
  · intro w hSw
    (try dsimp only at hSw)
    go_simp
    (try with_reducible rfl)
  (try simp only [Act.put, List.setIfInBounds_toArray, List.set_cons_zero, List.set_cons_succ])
  refine H_take (k := 8) (v := ?_) (by rfl) (by kernel_rfl) (by kernel_rfl) (by kernel_rfl) (by exact fun _ _ _ h => h) (by rfl) ?_ (by assumption) ?_
  rotate_left 1
  · intro w' hSw
    have kc := (HA.out.grown hSw.gr (by simp)).cell 4
    go_simp
    (try with_reducible rfl)
  (try simp only [Act.put, List.setIfInBounds_toArray, List.set_cons_zero, List.set_cons_succ])
  refine H_take (k := 10) (v := ?_) (by rfl) (by kernel_rfl) (by kernel_rfl) (by kernel_rfl) (by exact fun _ _ _ h => h) (by rfl) ?_ (by assumption) ?_
  rotate_left 1
  · intro w hSw
    (try dsimp only at hSw)
    go_simp
    (try with_reducible rfl)
  (try simp only [Act.put, List.setIfInBounds_toArray, List.set_cons_zero, List.set_cons_succ])
  refine H_take (k := 11) (v := ?_) (by rfl) (by kernel_rfl) (by kernel_rfl) (by kernel_rfl) (by exact fun _ _ _ h => h) (by rfl) ?_ (by assumption) ?_
  rotate_left 1
  · intro w' hSw
    have kc := (HA.out.grown hSw.gr (by simp)).cell 3
    go_simp
    (try with_reducible rfl)
  (try simp only [Act.put, List.setIfInBounds_toArray, List.set_cons_zero, List.set_cons_succ])
  refine H_take (k := 12) (v := ?_) (by rfl) (by kernel_rfl) (by kernel_rfl) (by kernel_rfl) (by exact fun _ _ _ h => h) (by rfl) ?_ (by assumption) ?_
  rotate_left 1
  · intro w hSw
    (try dsimp only at hSw)
    go_simp
    (try with_reducible rfl)
  (try simp only [Act.put, List.setIfInBounds_toArray, List.set_cons_zero, List.set_cons_succ])
  refine H_take (k := 13) (v := ?_) (by rfl) (by kernel_rfl) (by kernel_rfl) (by kernel_rfl) (by exact fun _ _ _ h => h) (by rfl) ?_ (by assumption) ?_
  rotate_left 1
  · intro w' hSw
    have kc := (HB.out.grown hSw.gr (by simp)).cell 3
    go_simp
    (try with_reducible rfl)
  (try simp only [Act.put, List.setIfInBounds_toArray, List.set_cons_zero, List.set_cons_succ])
  refine H_take (k := 15) (v := ?_) (by rfl) (by kernel_rfl) (by kernel_rfl) (by kernel_rfl) (by exact fun _ _ _ h => h) (by rfl) ?_ (by assumption) ?_
  rotate_left 1
  · intro w hSw
    (try dsimp only at hSw)
    go_simp
    (try with_reducible rfl)
  (try simp only [Act.put, List.setIfInBounds_toArray, List.set_cons_zero, List.set_cons_succ])
  refine H_take (k := 16) (v := ?_) (by rfl) (by kernel_rfl) (by kernel_rfl) (by kernel_rfl) (by exact fun _ _ _ h => h) (by rfl) ?_ (by assumption) ?_
  rotate_left 1
  · intro w' hSw
    have kc := (HA.out.grown hSw.gr (by simp)).cell 6
    go_simp
    (try with_reducible rfl)
  (try simp only [Act.put, List.setIfInBounds_toArray, List.set_cons_zero, List.set_cons_succ])
  refine H_take (k := 17) (v := ?_) (by rfl) (by kernel_rfl) (by kernel_rfl) (by kernel_rfl) (by exact fun _ _ _ h => h) (by rfl) ?_ (by assumption) ?_
  rotate_left 1
  · intro w hSw
    (try dsimp only at hSw)
    go_simp
    (try with_reducible rfl)
  (try simp only [Act.put, List.setIfInBounds_toArray, List.set_cons_zero, List.set_cons_succ])
  refine H_take (k := 18) (v := ?_) (by rfl) (by kernel_rfl) (by kernel_rfl) (by kernel_rfl) (by exact fun _ _ _ h => h) (by rfl) ?_ (by assumption) ?_
  rotate_left 1
  · intro w' hSw
    have kc := (HB.out.grown hSw.gr (by simp)).cell 6
    go_simp
    (try with_reducible rfl)
  (try simp only [Act.put, List.setIfInBounds_toArray, List.set_cons_zero, List.set_cons_succ])
  refine H_take (k := 20) (v := ?_) (by rfl) (by kernel_rfl) (by kernel_rfl) (by kernel_rfl) (by exact fun _ _ _ h => h) (by rfl) ?_ (by assumption) ?_
  rotate_left 1
  · intro w hSw
    (try dsimp only at hSw)
    go_simp
    (try with_reducible rfl)
  (try simp only [Act.put, List.setIfInBounds_toArray, List.set_cons_zero, List.set_cons_succ])
  refine H_take (k := 21) (v := ?_) (by rfl) (by kernel_rfl) (by kernel_rfl) (by kernel_rfl) (by exact fun _ _ _ h => h) (by rfl) ?_ (by assumption) ?_
  rotate_left 1
  · intro w' hSw
    have kc := (HA.out.grown hSw.gr (by simp)).cell 1
    go_simp
    (try with_reducible rfl)
  (try simp only [Act.put, List.setIfInBounds_toArray, List.set_cons_zero, List.set_cons_succ])
  refine H_take (k := 22) (v := ?_) (by rfl) (by kernel_rfl) (by kernel_rfl) (by kernel_rfl) (by exact fun _ _ _ h => h) (by rfl) ?_ (by assumption) ?_
  rotate_left 1
  · intro w hSw
    (try dsimp only at hSw)
    go_simp
    (try with_reducible rfl)
  (try simp only [Act.put, List.setIfInBounds_toArray, List.set_cons_zero, List.set_cons_succ])
  refine H_take (k := 23) (v := ?_) (by rfl) (by kernel_rfl) (by kernel_rfl) (by kernel_rfl) (by exact fun _ _ _ h => h) (by rfl) ?_ (by assumption) ?_
  rotate_left 1
  · intro w' hSw
    have kc := (HB.out.grown hSw.gr (by simp)).cell 1
    go_simp
    (try with_reducible rfl)
  (try simp only [Act.put, List.setIfInBounds_toArray, List.set_cons_zero, List.set_cons_succ])
  refine H_take (k := 25) (v := ?_) (by rfl) (by kernel_rfl) (by kernel_rfl) (by kernel_rfl) (by exact fun _ _ _ h => h) (by rfl) ?_ (by assumption) ?_
  rotate_left 1
  · intro w hSw
    (try dsimp only at hSw)
    go_simp
    (try with_reducible rfl)
  (try simp only [Act.put, List.setIfInBounds_toArray, List.set_cons_zero, List.set_cons_succ])
  refine H_take (k := 26) (v := ?_) (by rfl) (by kernel_rfl) (by kernel_rfl) (by kernel_rfl) (by exact fun _ _ _ h => h) (by rfl) ?_ (by assumption) ?_
  rotate_left 1
  · intro w' hSw
    have kc := (HA.out.grown hSw.gr (by simp)).cell 2
    go_simp
    (try with_reducible rfl)
  (try simp only [Act.put, List.setIfInBounds_toArray, List.set_cons_zero, List.set_cons_succ])
  refine H_take (k := 27) (v := ?_) (by rfl) (by kernel_rfl) (by kernel_rfl) (by kernel_rfl) (by exact fun _ _ _ h => h) (by rfl) ?_ (by assumption) ?_
  rotate_left 1
  · intro w hSw
    (try dsimp only at hSw)
    go_simp
    (try with_reducible rfl)
  (try simp only [Act.put, List.setIfInBounds_toArray, List.set_cons_zero, List.set_cons_succ])
  refine H_take (k := 28) (v := ?_) (by rfl) (by kernel_rfl) (by kernel_rfl) (by kernel_rfl) (by exact fun _ _ _ h => h) (by rfl) ?_ (by assumption) ?_
  rotate_left 1
  · intro w' hSw
    have kc := (HB.out.grown hSw.gr (by simp)).cell 2
    go_simp
    (try with_reducible rfl)
  (try simp only [Act.put, List.setIfInBounds_toArray, List.set_cons_zero, List.set_cons_succ])
  refine H_take (k := 30) (v := ?_) (by rfl) (by kernel_rfl) (by kernel_rfl) (by kernel_rfl) (by exact fun _ _ _ h => h) (by rfl) ?_ (by assumption) ?_
  rotate_left 1
  · intro w hSw
    (try dsimp only at hSw)
    go_simp
    (try with_reducible rfl)
  (try simp only [Act.put, List.setIfInBounds_toArray, List.set_cons_zero, List.set_cons_succ])
  refine H_take (k := 31) (v := ?_) (by rfl) (by kernel_rfl) (by kernel_rfl) (by kernel_rfl) (by exact fun _ _ _ h => h) (by rfl) ?_ (by assumption) ?_
  rotate_left 1
  · intro w' hSw
    have kc := (HA.out.grown hSw.gr (by simp)).cell 7
    go_simp
    (try with_reducible rfl)
  (try simp only [Act.put, List.setIfInBounds_toArray, List.set_cons_zero, List.set_cons_succ])
  refine H_take (k := 32) (v := ?_) (by rfl) (by kernel_rfl) (by kernel_rfl) (by kernel_rfl) (by exact fun _ _ _ h => h) (by rfl) ?_ (by assumption) ?_
  rotate_left 1
  · intro w hSw
    (try dsimp only at hSw)
    go_simp
    (try with_reducible rfl)
  (try simp only [Act.put, List.setIfInBounds_toArray, List.set_cons_zero, List.set_cons_succ])
  refine H_take (k := 33) (v := ?_) (by rfl) (by kernel_rfl) (by kernel_rfl) (by kernel_rfl) (by exact fun _ _ _ h => h) (by rfl) ?_ (by assumption) ?_
  rotate_left 1
  · intro w' hSw
    have kc := (HB.out.grown hSw.gr (by simp)).cell 7
    go_simp
    (try with_reducible rfl)
  (try simp only [Act.put, List.setIfInBounds_toArray, List.set_cons_zero, List.set_cons_succ])
  refine H_run (k := 4) (by rfl) (by kernel_rfl) (by rfl) (fun K hK => ?_)
  go_simp
  refine same_calls (cmpZ_any _ _ _) ?_
  rw [H1.out]
  refine hK _ _ hHeld ?_
  clear hK K
  (try simp only [Act.put, List.setIfInBounds_toArray, List.set_cons_zero, List.set_cons_succ])
  refine H_run (k := 9) (by rfl) (by kernel_rfl) (by rfl) (fun K hK => ?_)
  go_simp
  refine same_calls (cmpZ_any _ _ _) ?_
  rw [H2.out]
  refine hK _ _ hHeld ?_
  clear hK K
  (try simp only [Act.put, List.setIfInBounds_toArray, List.set_cons_zero, List.set_cons_succ])
  refine H_run (k := 14) (by rfl) (by kernel_rfl) (by rfl) (fun K hK => ?_)
  go_simp
  refine same_calls (cmpZ_any _ _ _) ?_
  rw [H3.out]
  refine hK _ _ hHeld ?_
  clear hK K
  (try simp only [Act.put, List.setIfInBounds_toArray, List.set_cons_zero, List.set_cons_succ])
  refine H_run (k := 19) (by rfl) (by kernel_rfl) (by rfl) (fun K hK => ?_)
  go_simp
  refine same_calls (cmpZ_any _ _ _) ?_
  rw [H4.out]
  refine hK _ _ hHeld ?_
  clear hK K
  (try simp only [Act.put, List.setIfInBounds_toArray, List.set_cons_zero, List.set_cons_succ])
  refine H_run (k := 24) (by rfl) (by kernel_rfl) (by rfl) (fun K hK => ?_)
  go_simp
  refine same_calls (strCmp_any _ _ _) ?_
  rw [H5.out]
  refine hK _ _ hHeld ?_
  clear hK K
  (try simp only [Act.put, List.setIfInBounds_toArray, List.set_cons_zero, List.set_cons_succ])
  refine H_run (k := 29) (by rfl) (by kernel_rfl) (by rfl) (fun K hK => ?_)
  go_simp
  refine same_calls (strCmp_any _ _ _) ?_
  rw [H6.out]
  refine hK _ _ hHeld ?_
  clear hK K
  (try simp only [Act.put, List.setIfInBounds_toArray, List.set_cons_zero, List.set_cons_succ])
  refine H_run (k := 34) (by rfl) (by kernel_rfl) (by rfl) (fun K hK => ?_)
  go_simp
  refine same_calls (strCmp_any _ _ _) ?_
  rw [H7.out]
  refine hK _ _ hHeld ?_
  clear hK K
  (try simp only [Act.put, List.setIfInBounds_toArray, List.set_cons_zero, List.set_cons_succ])
  refine H_run (k := 35) (by rfl) (by kernel_rfl) (by rfl) (fun K hK => ?_)
  go_simp
  obtain ⟨W2, hW2⟩ : ∃ W2, wd.alloc (.cells #[.int .i64 q1, .int .i64 q2, .int .i64 q3, .int .i64 q4, .int .i64 q5, .int .i64 q6, .int .i64 q7] 3) = W2 := ⟨_, rfl⟩
  obtain ⟨g2, hg2⟩ : ∃ g, wd.heap.size = g := ⟨_, rfl⟩
  have hq2 : Gq W1 W2 := by rw [← hW2]; exact hHeld.alloc _
  have HC := Lib.hid (show Blk W2 g2 3 ([q1, q2, q3, q4, q5, q6, q7].map (Value.int .i64)).toArray by rw [← hW2, ← hg2]; exact Blk.new _ _ _)
  (try rw [hW2])
  (try rw [hg2])
  refine hK _ _ hq2 ?_
  clear hK K hHeld hW2 hg2
  have hHeld := hq2
  (try simp only [Act.put, List.setIfInBounds_toArray, List.set_cons_zero, List.set_cons_succ])
  refine H_run (k := 36) (by rfl) (by kernel_rfl) (by rfl) (fun K hK => ?_)
  go_simp
  refine same_calls (orL_any [q1, q2, q3, q4, q5, q6, q7] g2 7 _ HC.out rfl (by omega)) ?_

  refine hK _ _ hHeld ?_
  clear hK K
  (try simp only [Act.put, List.setIfInBounds_toArray, List.set_cons_zero, List.set_cons_succ])
  obtain ⟨OV, hOV⟩ : ∃ V, orL [q1, q2, q3, q4, q5, q6, q7] = V := ⟨_, rfl⟩
  rw [hOV] at HV ⊢
  clear hOV
  refine H_take (k := 37) (v := ?_) (by rfl) (by kernel_rfl) (by kernel_rfl) (by kernel_rfl) (by exact fun _ _ _ h => h) (by rfl) ?_ (by assumption) ?_
  rotate_left 1
  · intro w hSw
    (try dsimp only at hSw)
    go_simp
    (try with_reducible rfl)
  (try simp only [Act.put, List.setIfInBounds_toArray, List.set_cons_zero, List.set_cons_succ])
  refine H_take (k := 38) (v := ?_) (by rfl) (by kernel_rfl) (by kernel_rfl) (by kernel_rfl) (by exact fun _ _ _ h => h) (by rfl) ?_ (by assumption) ?_
  rotate_left 1
  · intro w hSw
    (try dsimp only at hSw)
    go_simp
    (try with_reducible rfl)
  (try simp only [Act.put, List.setIfInBounds_toArray, List.set_cons_zero, List.set_cons_succ])
  refine H_done (by kernel_rfl) ?_
  go_wp2_with fail
  go_ret
  exact ⟨by rw [HV.out]; try rfl, (HQ.out.trans hHeld).gr⟩
end
end Go.Proofs.YtgogiljplnninaaGreatDoor

/- Contracts of the orders of acts, of isFrom and callerId. Conditions: acts of bounded numbers for the document's order. -/
import Derived.Test.YtgogiljplnninaaGreatDoorBun6
import Derived.Test.YtgogiljplnninaaGreatDoorBun2
import Derived.Test.YtgogiljplnninaaGreatDoorBun5
import Derived.Test.YtgogiljplnninaaGreatDoorCmpLS
import Derived.Test.YtgogiljplnninaaGreatDoorTar1
namespace Go.Proofs.YtgogiljplnninaaGreatDoor
open Go.RowKit

theorem Tryz.acT : StructT Tryz.prog 56 6 := ⟨_, Tryz.underlying56, rfl, by kernel_rfl⟩
set_option maxHeartbeats 4000000 in
set_option maxRecDepth 100000 in
theorem compareActs_q (a b : ActV) (w : World) : Calls Tryz.prog 135 #[.agg #[.int .i64 a.at_, .string a.bx, .string a.id, .int .i64 a.kd, .int .i64 a.lg, .string a.frm], .agg #[.int .i64 b.at_, .string b.bx, .string b.id, .int .i64 b.kd, .int .i64 b.lg, .string b.frm]] w (RetQ (.int .i64 (acCmp a b)) w) := by
  obtain ⟨W1, hW⟩ : ∃ W1, (w.alloc (.cells #[.int .i64 a.at_, .string a.bx, .string a.id, .int .i64 a.kd, .int .i64 a.lg, .string a.frm] 56)).alloc (.cells #[.int .i64 b.at_, .string b.bx, .string b.id, .int .i64 b.kd, .int .i64 b.lg, .string b.frm] 56) = W1 := ⟨_, rfl⟩
  have HA := Lib.hid (show Blk W1 w.heap.size 56 #[.int .i64 a.at_, .string a.bx, .string a.id, .int .i64 a.kd, .int .i64 a.lg, .string a.frm] by rw [← hW]; exact (Blk.new _ _ _).alloc _)
  have HB := Lib.hid (show Blk W1 (w.heap.size + 1) 56 #[.int .i64 b.at_, .string b.bx, .string b.id, .int .i64 b.kd, .int .i64 b.lg, .string b.frm] by
    rw [← hW]
    have h := Blk.new (w.alloc (.cells #[.int .i64 a.at_, .string a.bx, .string a.id, .int .i64 a.kd, .int .i64 a.lg, .string a.frm] 56)) 56 #[.int .i64 b.at_, .string b.bx, .string b.id, .int .i64 b.kd, .int .i64 b.lg, .string b.frm]
    simpa using h)
  have HQ := Lib.hid (show Gq w W1 by rw [← hW]; exact ((Gq.refl w).alloc _).alloc _)
  have hz1 : W1.heap.size = w.heap.size + 1 + 1 := by rw [← hW]; simp
  have HW := Lib.hid hW; clear hW
  have HV := Lib.hid (show acCmp a b = orL [cmpZ a.at_ b.at_, cmpS a.bx b.bx, cmpS a.id b.id, cmpZ a.kd b.kd] from rfl)
  obtain ⟨q1, h1⟩ : ∃ q, cmpZ a.at_ b.at_ = q := ⟨_, rfl⟩
  obtain ⟨q2, h2⟩ : ∃ q, cmpS a.bx b.bx = q := ⟨_, rfl⟩
  obtain ⟨q3, h3⟩ : ∃ q, cmpS a.id b.id = q := ⟨_, rfl⟩
  obtain ⟨q4, h4⟩ : ∃ q, cmpZ a.kd b.kd = q := ⟨_, rfl⟩
  rw [h1, h2, h3, h4] at HV
  have H1 := Lib.hid h1; have H4 := Lib.hid h4
  have H2 := Lib.hid h2
  have H3 := Lib.hid h3
  clear h1 h2 h3 h4
  go_enter Tryz.func135, Tryz.ntmps135
  go_wp2_with fail
  rw [HW.out]
  refine H_begin (fun w' => Gq W1 w') (by kernel_rfl) ?_
  have hHeld : Gq W1 W1.drew := (Gq.refl _).drew
  generalize W1.drew = wd at hHeld ⊢
  refine H_take (k := 0) (v := ?_) (by rfl) (by kernel_rfl) (by kernel_rfl) (by kernel_rfl) (by exact fun _ _ _ h => h) (by rfl) ?_ (by assumption) ?_
  rotate_left 1
  · intro w hSw
    (try dsimp only at hSw)
    go_simp
    (try with_reducible rfl)
  (try simp only [Act.put, List.setIfInBounds_toArray, List.set_cons_zero, List.set_cons_succ])
  refine H_take (k := 1) (v := ?_) (by rfl) (by kernel_rfl) (by kernel_rfl) (by kernel_rfl) (by exact fun _ _ _ h => h) (by rfl) ?_ (by assumption) ?_
  rotate_left 1
  · intro w' hSw
    have kc := (HA.out.grown hSw.gr (by simp)).cell 0
    go_simp
    (try with_reducible rfl)
  (try simp only [Act.put, List.setIfInBounds_toArray, List.set_cons_zero, List.set_cons_succ])
  refine H_take (k := 2) (v := ?_) (by rfl) (by kernel_rfl) (by kernel_rfl) (by kernel_rfl) (by exact fun _ _ _ h => h) (by rfl) ?_ (by assumption) ?_
  rotate_left 1
  · intro w hSw
    (try dsimp only at hSw)
    go_simp
    (try with_reducible rfl)
  (try simp only [Act.put, List.setIfInBounds_toArray, List.set_cons_zero, List.set_cons_succ])
  refine H_take (k := 3) (v := ?_) (by rfl) (by kernel_rfl) (by kernel_rfl) (by kernel_rfl) (by exact fun _ _ _ h => h) (by rfl) ?_ (by assumption) ?_
  rotate_left 1
  · intro w' hSw
    have kc := (HB.out.grown hSw.gr (by simp)).cell 0
    go_simp
    (try with_reducible rfl)
  (try simp only [Act.put, List.setIfInBounds_toArray, List.set_cons_zero, List.set_cons_succ])
  refine H_take (k := 5) (v := ?_) (by rfl) (by kernel_rfl) (by kernel_rfl) (by kernel_rfl) (by exact fun _ _ _ h => h) (by rfl) ?_ (by assumption) ?_
  rotate_left 1
  · intro w hSw
    (try dsimp only at hSw)
    go_simp
    (try with_reducible rfl)
  (try simp only [Act.put, List.setIfInBounds_toArray, List.set_cons_zero, List.set_cons_succ])
  refine H_take (k := 6) (v := ?_) (by rfl) (by kernel_rfl) (by kernel_rfl) (by kernel_rfl) (by exact fun _ _ _ h => h) (by rfl) ?_ (by assumption) ?_
  rotate_left 1
  · intro w' hSw
    have kc := (HA.out.grown hSw.gr (by simp)).cell 1
    go_simp
    (try with_reducible rfl)
  (try simp only [Act.put, List.setIfInBounds_toArray, List.set_cons_zero, List.set_cons_succ])
  refine H_take (k := 7) (v := ?_) (by rfl) (by kernel_rfl) (by kernel_rfl) (by kernel_rfl) (by exact fun _ _ _ h => h) (by rfl) ?_ (by assumption) ?_
  rotate_left 1
  · intro w hSw
    (try dsimp only at hSw)
    go_simp
    (try with_reducible rfl)
  (try simp only [Act.put, List.setIfInBounds_toArray, List.set_cons_zero, List.set_cons_succ])
  refine H_take (k := 8) (v := ?_) (by rfl) (by kernel_rfl) (by kernel_rfl) (by kernel_rfl) (by exact fun _ _ _ h => h) (by rfl) ?_ (by assumption) ?_
  rotate_left 1
  · intro w' hSw
    have kc := (HB.out.grown hSw.gr (by simp)).cell 1
    go_simp
    (try with_reducible rfl)
  (try simp only [Act.put, List.setIfInBounds_toArray, List.set_cons_zero, List.set_cons_succ])
  refine H_take (k := 10) (v := ?_) (by rfl) (by kernel_rfl) (by kernel_rfl) (by kernel_rfl) (by exact fun _ _ _ h => h) (by rfl) ?_ (by assumption) ?_
  rotate_left 1
  · intro w hSw
    (try dsimp only at hSw)
    go_simp
    (try with_reducible rfl)
  (try simp only [Act.put, List.setIfInBounds_toArray, List.set_cons_zero, List.set_cons_succ])
  refine H_take (k := 11) (v := ?_) (by rfl) (by kernel_rfl) (by kernel_rfl) (by kernel_rfl) (by exact fun _ _ _ h => h) (by rfl) ?_ (by assumption) ?_
  rotate_left 1
  · intro w' hSw
    have kc := (HA.out.grown hSw.gr (by simp)).cell 2
    go_simp
    (try with_reducible rfl)
  (try simp only [Act.put, List.setIfInBounds_toArray, List.set_cons_zero, List.set_cons_succ])
  refine H_take (k := 12) (v := ?_) (by rfl) (by kernel_rfl) (by kernel_rfl) (by kernel_rfl) (by exact fun _ _ _ h => h) (by rfl) ?_ (by assumption) ?_
  rotate_left 1
  · intro w hSw
    (try dsimp only at hSw)
    go_simp
    (try with_reducible rfl)
  (try simp only [Act.put, List.setIfInBounds_toArray, List.set_cons_zero, List.set_cons_succ])
  refine H_take (k := 13) (v := ?_) (by rfl) (by kernel_rfl) (by kernel_rfl) (by kernel_rfl) (by exact fun _ _ _ h => h) (by rfl) ?_ (by assumption) ?_
  rotate_left 1
  · intro w' hSw
    have kc := (HB.out.grown hSw.gr (by simp)).cell 2
    go_simp
    (try with_reducible rfl)
  (try simp only [Act.put, List.setIfInBounds_toArray, List.set_cons_zero, List.set_cons_succ])
  refine H_take (k := 15) (v := ?_) (by rfl) (by kernel_rfl) (by kernel_rfl) (by kernel_rfl) (by exact fun _ _ _ h => h) (by rfl) ?_ (by assumption) ?_
  rotate_left 1
  · intro w hSw
    (try dsimp only at hSw)
    go_simp
    (try with_reducible rfl)
  (try simp only [Act.put, List.setIfInBounds_toArray, List.set_cons_zero, List.set_cons_succ])
  refine H_take (k := 16) (v := ?_) (by rfl) (by kernel_rfl) (by kernel_rfl) (by kernel_rfl) (by exact fun _ _ _ h => h) (by rfl) ?_ (by assumption) ?_
  rotate_left 1
  · intro w' hSw
    have kc := (HA.out.grown hSw.gr (by simp)).cell 3
    go_simp
    (try with_reducible rfl)
  (try simp only [Act.put, List.setIfInBounds_toArray, List.set_cons_zero, List.set_cons_succ])
  refine H_take (k := 17) (v := ?_) (by rfl) (by kernel_rfl) (by kernel_rfl) (by kernel_rfl) (by exact fun _ _ _ h => h) (by rfl) ?_ (by assumption) ?_
  rotate_left 1
  · intro w hSw
    (try dsimp only at hSw)
    go_simp
    (try with_reducible rfl)
  (try simp only [Act.put, List.setIfInBounds_toArray, List.set_cons_zero, List.set_cons_succ])
  refine H_take (k := 18) (v := ?_) (by rfl) (by kernel_rfl) (by kernel_rfl) (by kernel_rfl) (by exact fun _ _ _ h => h) (by rfl) ?_ (by assumption) ?_
  rotate_left 1
  · intro w' hSw
    have kc := (HB.out.grown hSw.gr (by simp)).cell 3
    go_simp
    (try with_reducible rfl)
  (try simp only [Act.put, List.setIfInBounds_toArray, List.set_cons_zero, List.set_cons_succ])
  refine H_run (k := 4) (by rfl) (by kernel_rfl) (by rfl) (fun K hK => ?_)
  go_simp
  refine same_calls (cmpZ_any _ _ _) ?_
  rw [H1.out]
  refine hK _ _ hHeld ?_
  clear hK K
  (try simp only [Act.put, List.setIfInBounds_toArray, List.set_cons_zero, List.set_cons_succ])
  refine H_run (k := 9) (by rfl) (by kernel_rfl) (by rfl) (fun K hK => ?_)
  go_simp
  refine same_calls (strCmp_any _ _ _) ?_
  rw [H2.out]
  refine hK _ _ hHeld ?_
  clear hK K
  (try simp only [Act.put, List.setIfInBounds_toArray, List.set_cons_zero, List.set_cons_succ])
  refine H_run (k := 14) (by rfl) (by kernel_rfl) (by rfl) (fun K hK => ?_)
  go_simp
  refine same_calls (strCmp_any _ _ _) ?_
  rw [H3.out]
  refine hK _ _ hHeld ?_
  clear hK K
  (try simp only [Act.put, List.setIfInBounds_toArray, List.set_cons_zero, List.set_cons_succ])
  refine H_run (k := 19) (by rfl) (by kernel_rfl) (by rfl) (fun K hK => ?_)
  go_simp
  refine same_calls (cmpZ_any _ _ _) ?_
  rw [H4.out]
  refine hK _ _ hHeld ?_
  clear hK K
  (try simp only [Act.put, List.setIfInBounds_toArray, List.set_cons_zero, List.set_cons_succ])
  refine H_run (k := 20) (by rfl) (by kernel_rfl) (by rfl) (fun K hK => ?_)
  go_simp
  obtain ⟨W2, hW2⟩ : ∃ W2, wd.alloc (.cells #[.int .i64 q1, .int .i64 q2, .int .i64 q3, .int .i64 q4] 3) = W2 := ⟨_, rfl⟩
  obtain ⟨g2, hg2⟩ : ∃ g, wd.heap.size = g := ⟨_, rfl⟩
  have hq2 : Gq W1 W2 := by rw [← hW2]; exact hHeld.alloc _
  have HC := Lib.hid (show Blk W2 g2 3 ([q1, q2, q3, q4].map (Value.int .i64)).toArray by rw [← hW2, ← hg2]; exact Blk.new _ _ _)
  (try rw [hW2])
  (try rw [hg2])
  refine hK _ _ hq2 ?_
  clear hK K hHeld hW2 hg2
  have hHeld := hq2
  (try simp only [Act.put, List.setIfInBounds_toArray, List.set_cons_zero, List.set_cons_succ])
  refine H_run (k := 21) (by rfl) (by kernel_rfl) (by rfl) (fun K hK => ?_)
  go_simp
  refine same_calls (orL_any [q1, q2, q3, q4] g2 4 _ HC.out rfl (by omega)) ?_

  refine hK _ _ hHeld ?_
  clear hK K
  (try simp only [Act.put, List.setIfInBounds_toArray, List.set_cons_zero, List.set_cons_succ])
  refine H_take (k := 22) (v := ?_) (by rfl) (by kernel_rfl) (by kernel_rfl) (by kernel_rfl) (by exact fun _ _ _ h => h) (by rfl) ?_ (by assumption) ?_
  rotate_left 1
  · intro w hSw
    (try dsimp only at hSw)
    go_simp
    (try with_reducible rfl)
  (try simp only [Act.put, List.setIfInBounds_toArray, List.set_cons_zero, List.set_cons_succ])
  refine H_done (by kernel_rfl) ?_
  go_wp2_with fail
  go_ret
  exact ⟨by rw [HV.out]; try rfl, HQ.out.trans hHeld⟩
theorem sgn_cmp (x y : Int) : sgnZ (x - y) = cmpZ x y := by
  unfold sgnZ cmpZ
  by_cases h1 : x < y
  · rw [if_pos h1, if_pos (by omega)]
  · by_cases h2 : y < x
    · rw [if_neg h1, if_pos h2, if_neg (by omega), if_pos (by omega)]
    · rw [if_neg h1, if_neg h2, if_neg (by omega), if_neg (by omega)]
set_option maxHeartbeats 4000000 in
set_option maxRecDepth 100000 in
theorem actOrder_q (a b : ActV) (w : World) (ha : AcOkL a) (hb : AcOkL b) : Calls Tryz.prog 72 #[.agg #[.int .i64 a.at_, .string a.bx, .string a.id, .int .i64 a.kd, .int .i64 a.lg, .string a.frm], .agg #[.int .i64 b.at_, .string b.bx, .string b.id, .int .i64 b.kd, .int .i64 b.lg, .string b.frm]] w (RetQ (.int .i64 (acCmp a b)) w) := by
  obtain ⟨-, ⟨a1, a2⟩, a3, a4⟩ := ha
  obtain ⟨-, ⟨b1, b2⟩, b3, b4⟩ := hb
  have u1 : IntKind.i64.wrap (a.at_ - b.at_) = a.at_ - b.at_ := IntWalk.i64_in _ (by omega)
  have u2 : IntKind.i64.wrap (a.kd - b.kd) = a.kd - b.kd := IntWalk.i64_in _ (by omega)
  clear a1 a2 a3 a4 b1 b2 b3 b4
  obtain ⟨W1, hW⟩ : ∃ W1, (w.alloc (.cells #[.int .i64 a.at_, .string a.bx, .string a.id, .int .i64 a.kd, .int .i64 a.lg, .string a.frm] 56)).alloc (.cells #[.int .i64 b.at_, .string b.bx, .string b.id, .int .i64 b.kd, .int .i64 b.lg, .string b.frm] 56) = W1 := ⟨_, rfl⟩
  have HA := Lib.hid (show Blk W1 w.heap.size 56 #[.int .i64 a.at_, .string a.bx, .string a.id, .int .i64 a.kd, .int .i64 a.lg, .string a.frm] by rw [← hW]; exact (Blk.new _ _ _).alloc _)
  have HB := Lib.hid (show Blk W1 (w.heap.size + 1) 56 #[.int .i64 b.at_, .string b.bx, .string b.id, .int .i64 b.kd, .int .i64 b.lg, .string b.frm] by
    rw [← hW]
    have h := Blk.new (w.alloc (.cells #[.int .i64 a.at_, .string a.bx, .string a.id, .int .i64 a.kd, .int .i64 a.lg, .string a.frm] 56)) 56 #[.int .i64 b.at_, .string b.bx, .string b.id, .int .i64 b.kd, .int .i64 b.lg, .string b.frm]
    simpa using h)
  have HQ := Lib.hid (show Gq w W1 by rw [← hW]; exact ((Gq.refl w).alloc _).alloc _)
  have hz1 : W1.heap.size = w.heap.size + 1 + 1 := by rw [← hW]; simp
  have HW := Lib.hid hW; clear hW
  have kA0 := HA.out.cell 0; have kA1 := HA.out.cell 1; have kA2 := HA.out.cell 2; have kA3 := HA.out.cell 3
  have kB0 := HB.out.cell 0; have kB1 := HB.out.cell 1; have kB2 := HB.out.cell 2; have kB3 := HB.out.cell 3
  have HD := Lib.hid (acCmp_doc a b)
  have HSG := Lib.hid (sgn_cmp a.at_ b.at_); have HSK := Lib.hid (sgn_cmp a.kd b.kd)
  by_cases e : a.at_ = b.at_
  · have d : (a.at_ != b.at_) = false := by simp [e]
    obtain ⟨W2, hW2⟩ : ∃ v, W1.alloc (.cells #[.string a.bx, .string a.id] 9) = v := ⟨_, rfl⟩
    obtain ⟨g2, hg2⟩ : ∃ v, W1.heap.size = v := ⟨_, rfl⟩
    obtain ⟨W3, hW3⟩ : ∃ v, W2.alloc (.cells #[.string b.bx, .string b.id] 9) = v := ⟨_, rfl⟩
    obtain ⟨g3, hg3⟩ : ∃ v, W2.heap.size = v := ⟨_, rfl⟩
    have HR2 := Lib.hid (show Recs srow 1 W3 g2 (some ⟨g2, 0, none⟩) 2 2 [a.bx, a.id] by
      rw [← hW3, ← hW2, ← hg2]
      exact ⟨(Reads.blk (Blk.new W1 9 #[.string a.bx, .string a.id]) 1 2 rfl).grown (gr_alloc (gr_refl _ none) _) (fun g e => by cases e), rfl⟩)
    have HR3 := Lib.hid (show Recs srow 1 W3 g3 (some ⟨g3, 0, none⟩) 2 2 [b.bx, b.id] by
      rw [← hW3, ← hg3]
      exact ⟨Reads.blk (Blk.new W2 9 #[.string b.bx, .string b.id]) 1 2 rfl, rfl⟩)
    have hz2 : g3 = g2 + 1 := by rw [← hg3, ← hW2, ← hg2]; simp
    have HQ3 := Lib.hid (show Gq w W3 by rw [← hW3, ← hW2]; exact (HQ.out.alloc _).alloc _)
    have HW2 := Lib.hid hW2; have HW3 := Lib.hid hW3
    obtain ⟨QC, hQC⟩ : ∃ q, cmpLL cmpS [a.bx, a.id] [b.bx, b.id] = q := ⟨_, rfl⟩
    have HQC := Lib.hid hQC
    replace HD := Lib.hid (show acCmp a b = if QC = 0 then cmpZ a.kd b.kd else QC by rw [HD.out, if_pos e, hQC])
    have kA3' : W3.cell? ⟨w.heap.size, 3, none⟩ = some (.int .i64 a.kd) := by rw [← hW3, ← hW2]; exact ((HA.out.alloc _).alloc _).cell 3
    have kB3' : W3.cell? ⟨w.heap.size + 1, 3, none⟩ = some (.int .i64 b.kd) := by rw [← hW3, ← hW2]; exact ((HB.out.alloc _).alloc _).cell 3
    have e2 : g2 = w.heap.size + 1 + 1 := by rw [← hg2]; exact hz1
    clear hW2 hg2 hW3 hg3 hQC e
    subst e2
    subst hz2
    go_enter Tryz.func72, Tryz.ntmps72
    go_wp2_with fail
    rw [HW.out]
    go_wp2_with fail
    rw [HW2.out, HW3.out]
    refine (compareS_any _ _ _ _ 2 2 2 2 [a.bx, a.id] [b.bx, b.id] _ HR2.out HR3.out (by omega) (by omega)).mono ?_
    rintro e w' ⟨rfl, rfl⟩
    rw [HQC.out]
    clear kA0 kA1 kA2 kA3 kB0 kB1 kB2 kB3
    by_cases hz : QC = 0
    · have d2 : (QC != 0) = false := by simpa using hz
      have HF := Lib.hid (show acCmp a b = sgnZ (a.kd - b.kd) by rw [HD.out, if_pos hz, HSK.out])
      clear hz
      go_wp2_with (first
        | (go_at_call 118; refine (sgnZ_any _ _).mono ?_; rintro e w' ⟨rfl, rfl⟩)
        | fail)
      go_ret
      exact ⟨by rw [HF.out]; try rfl, HQ3.out⟩
    · have d2 : (QC != 0) = true := by simpa using hz
      have HF := Lib.hid (show acCmp a b = QC by rw [HD.out, if_neg hz])
      clear hz
      go_wp2_with fail
      go_ret
      exact ⟨by rw [HF.out]; try rfl, HQ3.out⟩
  · have d : (a.at_ != b.at_) = true := by simpa using e
    have HF := Lib.hid (show acCmp a b = sgnZ (a.at_ - b.at_) by rw [HD.out, if_neg e, HSG.out])
    clear e
    go_enter Tryz.func72, Tryz.ntmps72
    go_wp2_with fail
    rw [HW.out]
    go_wp2_with (first
      | (go_at_call 118; refine (sgnZ_any _ _).mono ?_; rintro e w' ⟨rfl, rfl⟩)
      | fail)
    go_ret
    exact ⟨by rw [HF.out]; try rfl, HQ.out⟩
theorem withinV_any (n lo hi : Int) (w : World) : Calls Tryz.prog 108 #[.int .i64 n, .int .i64 lo, .int .i64 hi] w (Same (.bool (inB n lo hi)) w) := by
  have hfin : inB n lo hi = (decide (lo ≤ n) && decide (n ≤ hi)) := rfl
  have H := Lib.hid hfin; clear hfin
  by_cases h1 : lo ≤ n <;> by_cases h2 : n ≤ hi
  all_goals
    go_enter Tryz.func108, Tryz.ntmps108
    go_wp2
    go_ret
    exact ⟨by rw [H.out]; simp [h1, h2], rfl⟩
theorem from_nil {l : List Nat} (h : l = []) : fromOk l = true := by unfold fromOk; rw [decide_eq_true h]; rfl
theorem from_none {l : List Nat} (h0 : l ≠ []) (h : plusOf l = none) : fromOk l = false := by unfold fromOk; rw [decide_eq_false h0, h]; rfl
theorem from_some {l d : List Nat} (h0 : l ≠ []) (h : plusOf l = some d) : fromOk l = (inB (d.length : Int) 4 15 && digB d) := by
  unfold fromOk inB
  rw [decide_eq_false h0, h, Bool.false_or]
  show (decide (4 ≤ d.length) && decide (d.length ≤ 15) && digB d) = _
  congr 2
  all_goals
    rw [Bool.eq_iff_iff]
    simp only [decide_eq_true_eq]
    omega
set_option maxHeartbeats 4000000 in
theorem isFrom_any (s : ByteArray) (w : World) (hs : s.size ≤ 1000000) : Calls Tryz.prog 134 #[.string s] w (RetV (.bool (fromOk (nb s))) w) := by
  obtain ⟨d, b, hd, hb, hsz, h⟩ := plus_cut s
  have HD := Lib.hid hd; have HB := Lib.hid hb; clear hd hb
  obtain ⟨u, hu, hut⟩ := trimDig_eq d
  have HU := Lib.hid hu; clear hu
  by_cases h0 : nb s = []
  · have q0 := str_nil h0
    have HV := Lib.hid (from_nil h0)
    clear h h0
    cases b
    all_goals
      go_enter Tryz.func134, Tryz.ntmps134
      go_wp2_with (first
        | (go_at_call 125; refine (cutPlus_any s d _ _ HD.out HB.out).mono ?_; rintro e w' ⟨rfl, rfl⟩)
        | fail)
      go_ret
      exact ⟨by rw [HV.out]; rfl, gr_refl _ _⟩
  · obtain ⟨q1, q2, q3⟩ := str_full h0
    rcases h with ⟨rfl, h⟩ | ⟨rfl, h⟩
    · have HV := Lib.hid (from_none h0 h); clear h h0
      go_enter Tryz.func134, Tryz.ntmps134
      go_wp2_with (first
        | (go_at_call 125; refine (cutPlus_any s d false _ HD.out HB.out).mono ?_; rintro e w' ⟨rfl, rfl⟩)
        | fail)
      go_ret
      exact ⟨by rw [HV.out]; rfl, gr_refl _ _⟩
    · have hV := from_some h0 h
      obtain ⟨B1, hB1⟩ : ∃ B, inB (d.size : Int) 4 15 = B := ⟨_, rfl⟩
      obtain ⟨B2, hB2⟩ : ∃ B, digB (nb d) = B := ⟨_, rfl⟩
      rw [nb_len, hB1, hB2] at hV
      have HV := Lib.hid hV; have H1 := Lib.hid hB1; have H2 := Lib.hid hB2; clear h hV h0 hB1
      cases B1
      · clear hB2
        go_enter Tryz.func134, Tryz.ntmps134
        go_wp2_with (first
          | (go_at_call 125; refine (cutPlus_any s d true _ HD.out HB.out).mono ?_; rintro e w' ⟨rfl, rfl⟩)
          | (go_at_call 108; refine (withinV_any _ _ _ _).mono ?_; rintro e w' ⟨rfl, rfl⟩; rw [H1.out])
          | fail)
        go_ret
        exact ⟨by rw [HV.out]; rfl, gr_refl _ _⟩
      · rcases hut with ⟨h1, h2⟩ | ⟨h1, h2, h3⟩
        · obtain rfl : true = B2 := by rw [← hB2, h1]
          clear hB2 h1
          go_enter Tryz.func134, Tryz.ntmps134
          go_wp2_with (first
            | (go_at_call 125; refine (cutPlus_any s d true _ HD.out HB.out).mono ?_; rintro e w' ⟨rfl, rfl⟩)
            | (go_at_call 108; refine (withinV_any _ _ _ _).mono ?_; rintro e w' ⟨rfl, rfl⟩; rw [H1.out])
            | (go_at_call 126; refine (trimDig_any d _ (by omega)).mono ?_; rintro e w' ⟨rfl, hg⟩; rw [HU.out]; have HG := Lib.hid hg; clear hg)
            | fail)
          go_ret
          exact ⟨by rw [HV.out]; rfl, HG.out⟩
        · obtain rfl : false = B2 := by rw [← hB2, h1]
          clear hB2 h1
          go_enter Tryz.func134, Tryz.ntmps134
          go_wp2_with (first
            | (go_at_call 125; refine (cutPlus_any s d true _ HD.out HB.out).mono ?_; rintro e w' ⟨rfl, rfl⟩)
            | (go_at_call 108; refine (withinV_any _ _ _ _).mono ?_; rintro e w' ⟨rfl, rfl⟩; rw [H1.out])
            | (go_at_call 126; refine (trimDig_any d _ (by omega)).mono ?_; rintro e w' ⟨rfl, hg⟩; rw [HU.out]; have HG := Lib.hid hg; clear hg)
            | fail)
          go_ret
          exact ⟨by rw [HV.out]; rfl, HG.out⟩
set_option maxHeartbeats 4000000 in
theorem callerId_any (s : ByteArray) (w : World) (hs : s.size ≤ 1000000) : Calls Tryz.prog 84 #[.string s] w (RetV (.bool (fromOk (nb s))) w) := by
  obtain ⟨d, b, hd, hb, hsz, h⟩ := plus_cut s
  have HD := Lib.hid hd; have HB := Lib.hid hb; clear hd hb
  obtain ⟨dg, hdg, hall⟩ := digits_str
  have HA := Lib.hid hall; clear hall
  by_cases h0 : nb s = []
  · have q0 := str_nil h0
    have HV := Lib.hid (from_nil h0)
    clear h h0
    cases b
    all_goals
      go_enter Tryz.func84, Tryz.ntmps84
      go_wp2_with (first
        | (go_at_call 125; refine (cutPlus_any s d _ _ HD.out HB.out).mono ?_; rintro e w' ⟨rfl, rfl⟩)
        | fail)
      go_ret
      exact ⟨by rw [HV.out]; rfl, gr_refl _ _⟩
  · obtain ⟨q1, q2, q3⟩ := str_full h0
    rcases h with ⟨rfl, h⟩ | ⟨rfl, h⟩
    · have HV := Lib.hid (from_none h0 h); clear h h0
      go_enter Tryz.func84, Tryz.ntmps84
      go_wp2_with (first
        | (go_at_call 125; refine (cutPlus_any s d false _ HD.out HB.out).mono ?_; rintro e w' ⟨rfl, rfl⟩)
        | fail)
      go_ret
      exact ⟨by rw [HV.out]; rfl, gr_refl _ _⟩
    · have hV := from_some h0 h
      obtain ⟨B1, hB1⟩ : ∃ B, inB (d.size : Int) 4 15 = B := ⟨_, rfl⟩
      obtain ⟨B2, hB2⟩ : ∃ B, digB (nb d) = B := ⟨_, rfl⟩
      rw [nb_len, hB1, hB2] at hV
      have HV := Lib.hid hV; have H1 := Lib.hid hB1; have H2 := Lib.hid hB2; clear h hV h0 hB1
      cases B1
      · clear hB2
        go_enter Tryz.func84, Tryz.ntmps84
        go_wp2_with (first
          | (go_at_call 125; refine (cutPlus_any s d true _ HD.out HB.out).mono ?_; rintro e w' ⟨rfl, rfl⟩)
          | (go_at_call 60; refine (in_any _ _ _ _).mono ?_; rintro e w' ⟨rfl, rfl⟩; rw [H1.out])
          | fail)
        go_ret
        exact ⟨by rw [HV.out]; rfl, gr_refl _ _⟩
      · clear hB2
        cases B2
        all_goals
          go_enter Tryz.func84, Tryz.ntmps84
          go_wp2_with (first
            | (go_at_call 125; refine (cutPlus_any s d true _ HD.out HB.out).mono ?_; rintro e w' ⟨rfl, rfl⟩)
            | (go_at_call 60; refine (in_any _ _ _ _).mono ?_; rintro e w' ⟨rfl, rfl⟩; rw [H1.out])
            | (go_at_call 110; refine (onlyS_any d dg _ (by omega)).mono ?_; rintro e w' ⟨rfl, rfl⟩; rw [HA.out, H2.out])
            | fail)
          go_ret
          exact ⟨by rw [HV.out]; rfl, gr_refl _ _⟩
end Go.Proofs.YtgogiljplnninaaGreatDoor

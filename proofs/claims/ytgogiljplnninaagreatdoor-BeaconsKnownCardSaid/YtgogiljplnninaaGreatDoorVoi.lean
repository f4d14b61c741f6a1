/- voiced() answers true. Conditions: none. -/
import Derived.Test.YtgogiljplnninaaGreatDoorAt1
import Derived.Test.YtgogiljplnninaaGreatDoorKeyOk
import Derived.Test.YtgogiljplnninaaGreatDoorBun1
import Derived.WalkKit
namespace Go.Proofs.YtgogiljplnninaaGreatDoor
open Go.RowKit

theorem Tryz.boxT : StructT Tryz.prog 135 9 := ⟨_, Tryz.underlying135, rfl, by kernel_rfl⟩
theorem Tryz.msgT : StructT Tryz.prog 137 6 := ⟨_, Tryz.underlying137, rfl, by kernel_rfl⟩
set_option maxRecDepth 100000 in
set_option maxHeartbeats 4000000 in
theorem checkBox0_any (w : World) : Calls Tryz.prog 205 #[.agg #[.string ⟨#[98]⟩, .int .i64 1, .int .i64 1, .int .i64 0, .int .i64 0, .slice none 0 0, .bool false, .int .i64 0, .int .i64 0]] w (RetV (.int .i64 0) w) := by
  have i1 : inB 1 1 1000 = true := by decide
  have i2 : inB 1 0 4000 = true := by decide
  have i3 : inB 0 0 4000 = true := by decide
  have i4 : inB 0 0 1439 = true := by decide
  have i5 : inB 0 (-1440) 1440 = true := by decide
  obtain ⟨w1, hw1⟩ : ∃ v, w.alloc (.cells #[.string ⟨#[98]⟩, .int .i64 1, .int .i64 1, .int .i64 0, .int .i64 0, .slice none 0 0, .bool false, .int .i64 0, .int .i64 0] 135) = v := ⟨_, rfl⟩
  obtain ⟨b, hb⟩ : ∃ b, w.heap.size = b := ⟨_, rfl⟩
  have HB := Lib.hid (show Blk w1 b 135 #[.string ⟨#[98]⟩, .int .i64 1, .int .i64 1, .int .i64 0, .int .i64 0, .slice none 0 0, .bool false, .int .i64 0, .int .i64 0] by rw [← hw1, ← hb]; exact Blk.new _ _ _)
  have HG := Lib.hid (show w.grownBy w1 none by rw [← hw1]; exact gr_alloc (gr_refl _ _) _)
  have HW := Lib.hid hw1; have HZ := Lib.hid hb
  clear hw1 hb
  go_enter Tryz.func205, Tryz.ntmps205
  go_upto_region 1 with (fail)
  rw [HW.out]
  (try rw [HZ.out])
  have c1 := HB.out.cell 1
  have c2 := HB.out.cell 2
  have c3 := HB.out.cell 3
  have c4 := HB.out.cell 4
  have c5 := HB.out.cell 5
  have c6 := HB.out.cell 6
  have c7 := HB.out.cell 7
  have c8 := HB.out.cell 8
  go_wp2_with (first
    | (go_at_call 108; refine same_calls (withinV_any _ _ _ _) ?_; first | rw [i1] | rw [i2] | rw [i3] | rw [i4] | rw [i5])
    | fail)
  go_loopw [4, 34] (fun _ t wr => t = .int .i64 0 ∧ w1 = wr) (fun _ _ _ => 0)
  case atStart => exact ⟨rfl, rfl⟩
  case round =>
    obtain ⟨rfl, rfl⟩ := hrel
    go_wp2_with (first
      | (go_at_call 108; refine same_calls (withinV_any _ _ _ _) ?_; first | rw [i1] | rw [i2] | rw [i3] | rw [i4] | rw [i5])
      | fail)
    go_ret
    exact ⟨rfl, HG.out⟩
set_option maxRecDepth 100000 in
set_option maxHeartbeats 4000000 in
theorem checkBoxes0_any (g : Nat) (w : World) (h : Blk w g 135 #[.string ⟨#[98]⟩, .int .i64 1, .int .i64 1, .int .i64 0, .int .i64 0, .slice none 0 0, .bool false, .int .i64 0, .int .i64 0]) : Calls Tryz.prog 146 #[.slice (some ⟨g, 0, none⟩) 1 1] w (RetV (.int .i64 0) w) := by
  have k1 : keyOk (nb ⟨#[98]⟩) = true := by decide
  have H := Lib.hid h
  clear h
  go_enter Tryz.func146, Tryz.ntmps146
  go_wp2_with fail
  go_loopw [3, 4, 5, 11] (fun _ _ _ t wr => ∃ i : Nat, i ≤ 1 ∧ t = .int .i64 i ∧ w.grownBy wr none) (fun _ _ _ t _ => 1 - (intOf t).toNat)
  case atStart => exact ⟨0, by omega, rfl, gr_refl _ _⟩
  case round =>
    obtain ⟨i, hi, rfl, hg⟩ := hrel
    have HG := Lib.hid hg
    have HB := Lib.hid (H.out.grown hg (by simp))
    clear hg
    have hi2 : i = 0 ∨ i = 1 := by omega
    rcases hi2 with rfl | rfl
    · clear hi
      go_upto_region 6 with (first
        | (refine wpl_load_all Tryz.boxT rfl _ rfl g rfl 135 _ HB.out rfl ?_)
        | (refine wpl_store_all Tryz.boxT rfl _ _ rfl _ rfl _ _ _ rfl (Blk.new _ _ _) rfl rfl (by simp [Value.oneCell']) ?_; intro wz hst; have HST := Lib.hid hst; clear hst)
        | fail)
      obtain ⟨sb, hsb⟩ : ∃ b, wr.heap.size = b := ⟨_, rfl⟩
      have HS := Lib.hid (show Blk wz sb 135 #[.string ⟨#[98]⟩, .int .i64 1, .int .i64 1, .int .i64 0, .int .i64 0, .slice none 0 0, .bool false, .int .i64 0, .int .i64 0] by rw [← hsb]; exact HST.out.1)
      have hg2 : w.grownBy wz none := gr_trans (gr_alloc HG.out _) HST.out.2.1 (fun g e => .inr (by injection e with e; have := HG.out.size; omega))
      have HG2 := Lib.hid hg2
      (try rw [hsb])
      have c0 := HS.out.cell 0
      clear hsb HST HG hg2
      go_wp2_with (first
        | (go_at_call 61; refine (isKey_any _ _ (by decide)).mono ?_; rintro e wk ⟨rfl, hgk⟩; first | rw [k1] | rw [k2])
        | fail)
      have HS2 := Lib.hid (HS.out.grown hgk (by simp))
      replace HG2 := Lib.hid (gr_none HG2.out hgk)
      clear HS hgk c0
      have c0 := HS2.out.cell 0
      go_wp2_with fail
      go_quiet (fail)
      go_wp2_with (first
        | (refine wpl_load_all Tryz.boxT rfl _ rfl sb rfl 135 _ HS2.out rfl ?_)
        | (go_at_call 205; refine (checkBox0_any _).mono ?_; rintro e wc ⟨rfl, hgc⟩; have HGC := Lib.hid hgc; clear hgc)
        | fail)
      go_roundw
      case rel => exact ⟨1, by omega, by go_num, gr_none (gr_drewN HG2.out _) HGC.out⟩
      case measure => simp [intOf]
    · go_wp2_with fail
      go_ret
      exact ⟨rfl, HG.out⟩
set_option maxRecDepth 100000 in
set_option maxHeartbeats 4000000 in
theorem ends0_any (w : World) : Calls Tryz.prog 147 #[.agg #[.string ⟨#[98]⟩, .int .i64 1, .int .i64 1, .int .i64 0, .int .i64 0, .slice none 0 0, .bool false, .int .i64 0, .int .i64 0], .agg #[.string ⟨#[109]⟩, .string ⟨#[]⟩, .int .i64 0, .int .i64 1, .int .i64 1, .int .i64 0]] w (RetV (.int .i64 86400000) w) := by
  obtain ⟨w1, hw1⟩ : ∃ v, w.alloc (.cells #[.string ⟨#[98]⟩, .int .i64 1, .int .i64 1, .int .i64 0, .int .i64 0, .slice none 0 0, .bool false, .int .i64 0, .int .i64 0] 135) = v := ⟨_, rfl⟩
  obtain ⟨w2, hw2⟩ : ∃ v, w1.alloc (.cells #[.string ⟨#[109]⟩, .string ⟨#[]⟩, .int .i64 0, .int .i64 1, .int .i64 1, .int .i64 0] 137) = v := ⟨_, rfl⟩
  have HB := Lib.hid (show Blk w2 w.heap.size 135 #[.string ⟨#[98]⟩, .int .i64 1, .int .i64 1, .int .i64 0, .int .i64 0, .slice none 0 0, .bool false, .int .i64 0, .int .i64 0] by rw [← hw2, ← hw1]; exact (Blk.new _ _ _).alloc _)
  have HM := Lib.hid (show Blk w2 (w.heap.size + 1) 137 #[.string ⟨#[109]⟩, .string ⟨#[]⟩, .int .i64 0, .int .i64 1, .int .i64 1, .int .i64 0] by
    rw [← hw2, ← hw1]
    have h := Blk.new (w.alloc (.cells #[.string ⟨#[98]⟩, .int .i64 1, .int .i64 1, .int .i64 0, .int .i64 0, .slice none 0 0, .bool false, .int .i64 0, .int .i64 0] 135)) 137 #[.string ⟨#[109]⟩, .string ⟨#[]⟩, .int .i64 0, .int .i64 1, .int .i64 1, .int .i64 0]
    simpa using h)
  have HG := Lib.hid (show w.grownBy w2 none by rw [← hw2, ← hw1]; exact gr_alloc (gr_alloc (gr_refl _ _) _) _)
  have HW := Lib.hid hw2; have HW1 := Lib.hid hw1
  clear hw1 hw2
  go_enter Tryz.func147, Tryz.ntmps147
  go_upto_region 1 with (fail)
  (try rw [HW1.out])
  (try rw [HW.out])
  have c2 := HB.out.cell 2
  have c3 := HB.out.cell 3
  have c4 := HB.out.cell 4
  have m4 := HM.out.cell 4
  have m5 := HM.out.cell 5
  go_wp2_with fail
  go_ret
  exact ⟨rfl, HG.out⟩
set_option maxRecDepth 100000 in
set_option maxHeartbeats 4000000 in
theorem voicedEnds_any (w : World) : Calls Tryz.prog 97 #[.agg #[.string ⟨#[98]⟩, .int .i64 1, .int .i64 1, .int .i64 0, .int .i64 0, .slice none 0 0, .bool false, .int .i64 0, .int .i64 0], .agg #[.string ⟨#[109]⟩, .string ⟨#[]⟩, .int .i64 0, .int .i64 1, .int .i64 1, .int .i64 0]] w (RetV (.tuple #[.int .i64 86400000, .int .i64 0]) w) := by
  have k2 : keyOk (nb ⟨#[109]⟩) = true := by decide
  have i1 : inB 1 1 86400000 = true := by decide
  have i2 : inB 1 1 4 = true := by decide
  obtain ⟨w1, hw1⟩ : ∃ v, w.alloc (.cells #[.string ⟨#[98]⟩, .int .i64 1, .int .i64 1, .int .i64 0, .int .i64 0, .slice none 0 0, .bool false, .int .i64 0, .int .i64 0] 135) = v := ⟨_, rfl⟩
  obtain ⟨w2, hw2⟩ : ∃ v, w1.alloc (.cells #[.string ⟨#[109]⟩, .string ⟨#[]⟩, .int .i64 0, .int .i64 1, .int .i64 1, .int .i64 0] 137) = v := ⟨_, rfl⟩
  have HB := Lib.hid (show Blk w2 w.heap.size 135 #[.string ⟨#[98]⟩, .int .i64 1, .int .i64 1, .int .i64 0, .int .i64 0, .slice none 0 0, .bool false, .int .i64 0, .int .i64 0] by rw [← hw2, ← hw1]; exact (Blk.new _ _ _).alloc _)
  have HM := Lib.hid (show Blk w2 (w.heap.size + 1) 137 #[.string ⟨#[109]⟩, .string ⟨#[]⟩, .int .i64 0, .int .i64 1, .int .i64 1, .int .i64 0] by
    rw [← hw2, ← hw1]
    have h := Blk.new (w.alloc (.cells #[.string ⟨#[98]⟩, .int .i64 1, .int .i64 1, .int .i64 0, .int .i64 0, .slice none 0 0, .bool false, .int .i64 0, .int .i64 0] 135)) 137 #[.string ⟨#[109]⟩, .string ⟨#[]⟩, .int .i64 0, .int .i64 1, .int .i64 1, .int .i64 0]
    simpa using h)
  have HG := Lib.hid (show w.grownBy w2 none by rw [← hw2, ← hw1]; exact gr_alloc (gr_alloc (gr_refl _ _) _) _)
  have HW := Lib.hid hw2; have HW1 := Lib.hid hw1
  clear hw1 hw2
  go_enter Tryz.func97, Tryz.ntmps97
  go_upto_region 1 with (fail)
  (try rw [HW1.out])
  (try rw [HW.out])
  go_wp2_with (first
    | (refine wpl_load_all Tryz.boxT rfl _ rfl _ rfl 135 _ HB.out rfl ?_)
    | fail)
  refine (checkBoxes0_any _ _ (Blk.new _ _ _)).mono ?_
  rintro e w3 ⟨rfl, hg3⟩
  have hg4 := gr_trans (gr_alloc (gr_refl w2 none) (.cells #[.string ⟨#[98]⟩, .int .i64 1, .int .i64 1, .int .i64 0, .int .i64 0, .slice none 0 0, .bool false, .int .i64 0, .int .i64 0] 135)) hg3 (fun g e => by cases e)
  replace HB := Lib.hid (HB.out.grown hg4 (by simp))
  replace HM := Lib.hid (HM.out.grown hg4 (by simp))
  replace HG := Lib.hid (gr_none HG.out hg4)
  clear hg3 hg4
  have m0 := HM.out.cell 0
  go_upto_region 6 with (first
    | (go_at_call 61; refine (isKey_any _ _ (by decide)).mono ?_; rintro e wk ⟨rfl, hgk⟩; first | rw [k1] | rw [k2])
    | fail)
  replace HB := Lib.hid (HB.out.grown hgk (by simp))
  replace HM := Lib.hid (HM.out.grown hgk (by simp))
  replace HG := Lib.hid (gr_none HG.out hgk)
  clear hgk m0
  have m2 := HM.out.cell 2
  have m3 := HM.out.cell 3
  have m4 := HM.out.cell 4
  have m5 := HM.out.cell 5
  have q1 : momB 0 = true := by decide
  go_wp2_with (first
    | (go_at_call 63; refine same_calls (isMomB_any _ _) ?_)
    | (go_at_call 108; refine same_calls (withinV_any _ _ _ _) ?_; first | rw [i1] | rw [i2] | rw [i3] | rw [i4] | rw [i5])
    | (refine wpl_load_all Tryz.boxT rfl _ rfl _ rfl 135 _ HB.out rfl ?_)
    | (refine wpl_load_all Tryz.msgT rfl _ rfl _ rfl 137 _ HM.out rfl ?_)
    | (go_at_call 147; refine (ends0_any _).mono ?_; rintro e wc ⟨rfl, hgc⟩; have HGC := Lib.hid hgc; clear hgc)
    | fail)
  go_ret2
  exact ⟨rfl, gr_none HG.out HGC.out⟩
set_option maxRecDepth 100000 in
set_option maxHeartbeats 4000000 in
theorem voiced_true (w : World) : Calls Tryz.prog 29 #[] w (RetV (.bool true) w) := by
  go_enter Tryz.func29, Tryz.ntmps29
  go_wp2_with fail
  refine (voicedEnds_any _).mono ?_
  rintro e w1 ⟨rfl, hg⟩
  have HG := Lib.hid hg
  clear hg
  go_wp2_with fail
  go_ret
  exact ⟨rfl, HG.out⟩
end Go.Proofs.YtgogiljplnninaaGreatDoor

/- Contract of the document's RecordOrder. Conditions: the records are RcOk. -/
import Derived.Test.YtdgjjjdndedeiaaGreatDoorRc1
namespace Go.Proofs.YtdgjjjdndedeiaaGreatDoor
open Go.RowKit

def sgnZ (n : Int) : Int := if n < 0 then -1 else if 0 < n then 1 else 0
theorem sgnZ_any (n : Int) (w : World) : Calls Tryz.prog 108 #[.int .i64 n] w (Same (.int .i64 (sgnZ n)) w) := by
  by_cases h : n < 0
  · have d : decide (n < 0) = true := decide_eq_true h
    have HR := Lib.hid (show sgnZ n = -1 by unfold sgnZ; rw [if_pos h])
    clear h
    go_enter Tryz.func108, Tryz.ntmps108
    go_wp2_with fail
    go_ret
    exact ⟨by rw [HR.out]; rfl, rfl⟩
  · have d : decide (n < 0) = false := decide_eq_false h
    by_cases h2 : 0 < n
    · have d2 : decide (0 < n) = true := decide_eq_true h2
      have d3 : decide (n > 0) = true := decide_eq_true h2
      have HR := Lib.hid (show sgnZ n = 1 by unfold sgnZ; rw [if_neg h, if_pos h2])
      clear h h2
      go_enter Tryz.func108, Tryz.ntmps108
      go_wp2_with fail
      go_ret
      exact ⟨by rw [HR.out]; rfl, rfl⟩
    · have d2 : decide (0 < n) = false := decide_eq_false h2
      have d3 : decide (n > 0) = false := decide_eq_false h2
      have HR := Lib.hid (show sgnZ n = 0 by unfold sgnZ; rw [if_neg h, if_neg h2])
      clear h h2
      go_enter Tryz.func108, Tryz.ntmps108
      go_wp2_with fail
      go_ret
      exact ⟨by rw [HR.out]; rfl, rfl⟩
theorem rcCmp_sgn (a b : RcV) (h : a.at_ ≠ b.at_) : sgnZ (a.at_ - b.at_) = rcCmp a b := by
  unfold sgnZ rcCmp
  rw [if_neg h]
  by_cases h1 : a.at_ < b.at_
  · rw [if_pos h1, if_pos (by omega)]
  · rw [if_neg h1, if_neg (by omega), if_pos (by omega)]
set_option maxHeartbeats 2000000 in
set_option maxRecDepth 100000 in
theorem recordOrder_any (a b : RcV) (w : World) (ha : RcOk a) (hb : RcOk b) :
    Calls Tryz.prog 73 #[.agg #[.string a.id, .string a.frm, .string a.too, .int .i64 a.at_, .int .i64 a.ring, .int .i64 a.talk, .int .i64 a.how, .string a.car], .agg #[.string b.id, .string b.frm, .string b.too, .int .i64 b.at_, .int .i64 b.ring, .int .i64 b.talk, .int .i64 b.how, .string b.car]] w (RetV (.int .i64 (rcCmp a b)) w) := by
  obtain ⟨-, -, -, -, a1, a2⟩ := ha
  obtain ⟨-, -, -, -, b1, b2⟩ := hb
  have hsub : IntKind.i64.wrap (a.at_ - b.at_) = a.at_ - b.at_ := IntWalk.i64_in _ (by omega)
  clear a1 a2 b1 b2
  obtain ⟨W1, hW⟩ : ∃ W1, (w.alloc (.cells #[.string a.id, .string a.frm, .string a.too, .int .i64 a.at_, .int .i64 a.ring, .int .i64 a.talk, .int .i64 a.how, .string a.car] 84)).alloc (.cells #[.string b.id, .string b.frm, .string b.too, .int .i64 b.at_, .int .i64 b.ring, .int .i64 b.talk, .int .i64 b.how, .string b.car] 84) = W1 := ⟨_, rfl⟩
  have HA : Blk W1 w.heap.size 84 #[.string a.id, .string a.frm, .string a.too, .int .i64 a.at_, .int .i64 a.ring, .int .i64 a.talk, .int .i64 a.how, .string a.car] := by rw [← hW]; exact (Blk.new _ _ _).alloc _
  have HB : Blk W1 (w.heap.size + 1) 84 #[.string b.id, .string b.frm, .string b.too, .int .i64 b.at_, .int .i64 b.ring, .int .i64 b.talk, .int .i64 b.how, .string b.car] := by
    rw [← hW]
    have h := Blk.new (w.alloc (.cells #[.string a.id, .string a.frm, .string a.too, .int .i64 a.at_, .int .i64 a.ring, .int .i64 a.talk, .int .i64 a.how, .string a.car] 84)) 84 #[.string b.id, .string b.frm, .string b.too, .int .i64 b.at_, .int .i64 b.ring, .int .i64 b.talk, .int .i64 b.how, .string b.car]
    simpa using h
  have a3 : W1.cell? ⟨w.heap.size, 3, none⟩ = some (.int .i64 a.at_) := HA.cell 3
  have a0 : W1.cell? ⟨w.heap.size, 0, none⟩ = some (.string a.id) := HA.cell 0
  have b3 : W1.cell? ⟨w.heap.size + 1, 3, none⟩ = some (.int .i64 b.at_) := HB.cell 3
  have b0 : W1.cell? ⟨w.heap.size + 1, 0, none⟩ = some (.string b.id) := HB.cell 0
  clear HA HB
  have HG := Lib.hid (show w.grownBy W1 none by rw [← hW]; exact gr_alloc (gr_alloc (gr_refl _ _) _) _)
  have HW := Lib.hid hW; clear hW
  by_cases e : a.at_ = b.at_
  · have d : (a.at_ != b.at_) = false := by simp [e]
    have HR := Lib.hid (show cmpS a.id b.id = rcCmp a b by unfold rcCmp; rw [if_pos e])
    clear e
    go_enter Tryz.func73, Tryz.ntmps73
    go_wp2_with fail
    rw [HW.out]
    go_wp2_with fail
    refine (Tryz.strings_Compare _ _ _).mono ?_
    rintro e w' ⟨rfl, rfl⟩
    go_wp2_with fail
    go_ret
    exact ⟨by rw [← HR.out]; rfl, HG.out⟩
  · have d : (a.at_ != b.at_) = true := by simpa using e
    have HR := Lib.hid (rcCmp_sgn a b e)
    clear e
    go_enter Tryz.func73, Tryz.ntmps73
    go_wp2_with fail
    rw [HW.out]
    go_wp2_with fail
    refine (sgnZ_any _ _).mono ?_
    rintro e w' ⟨rfl, rfl⟩
    go_wp2_with fail
    go_ret
    exact ⟨by rw [← HR.out]; rfl, HG.out⟩
end Go.Proofs.YtdgjjjdndedeiaaGreatDoor

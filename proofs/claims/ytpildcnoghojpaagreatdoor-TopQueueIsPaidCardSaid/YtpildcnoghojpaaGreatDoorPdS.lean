/- The law's order of records with the world's exact shape; slices.SortFunc by it leaves records that are in order. Conditions: moments of bounded numbers. -/
import Derived.Test.YtpildcnoghojpaaGreatDoorPdQ
import Derived.Test.YtpildcnoghojpaaGreatDoorBun1
import Derived.Test.YtpildcnoghojpaaGreatDoorBun4
import Derived.Test.YtpildcnoghojpaaGreatDoorShelfSRc
namespace Go.Proofs.YtpildcnoghojpaaGreatDoor
open Go.RowKit Go.Sort

theorem RcV.oneQ (r : RcV) : ∀ u ∈ r.row, u.oneCell' = true := by
  intro u hu
  simp only [RcV.row, List.mem_cons, List.not_mem_nil, or_false] at hu
  rcases hu with rfl | rfl | rfl | rfl | rfl | rfl | rfl | rfl <;> rfl
set_option maxHeartbeats 2000000 in
set_option maxRecDepth 100000 in
theorem tqCmp_q (a b : RcV) (w : World) (ha : RcOkL a) (hb : RcOkL b) : Calls Tryz.prog 9 #[.agg #[.string a.id, .string a.frm, .string a.too, .int .i64 a.at_, .int .i64 a.ring, .int .i64 a.talk, .int .i64 a.how, .string a.car], .agg #[.string b.id, .string b.frm, .string b.too, .int .i64 b.at_, .int .i64 b.ring, .int .i64 b.talk, .int .i64 b.how, .string b.car]] w (RetQ (.int .i64 (cfQ a b)) w) := by
  obtain ⟨-, -, -, -, a1, a2⟩ := ha
  obtain ⟨-, -, -, -, b1, b2⟩ := hb
  have hsub : IntKind.i64.wrap (a.at_ - b.at_) = a.at_ - b.at_ := IntWalk.i64_in _ (by omega)
  clear a1 a2 b1 b2
  obtain ⟨W1, hW⟩ : ∃ W1, (w.alloc (.cells #[.string a.id, .string a.frm, .string a.too, .int .i64 a.at_, .int .i64 a.ring, .int .i64 a.talk, .int .i64 a.how, .string a.car] 43)).alloc (.cells #[.string b.id, .string b.frm, .string b.too, .int .i64 b.at_, .int .i64 b.ring, .int .i64 b.talk, .int .i64 b.how, .string b.car] 43) = W1 := ⟨_, rfl⟩
  have HA := Lib.hid (show Blk W1 w.heap.size 43 #[.string a.id, .string a.frm, .string a.too, .int .i64 a.at_, .int .i64 a.ring, .int .i64 a.talk, .int .i64 a.how, .string a.car] by rw [← hW]; exact (Blk.new _ _ _).alloc _)
  have HB := Lib.hid (show Blk W1 (w.heap.size + 1) 43 #[.string b.id, .string b.frm, .string b.too, .int .i64 b.at_, .int .i64 b.ring, .int .i64 b.talk, .int .i64 b.how, .string b.car] by
    rw [← hW]
    have h := Blk.new (w.alloc (.cells #[.string a.id, .string a.frm, .string a.too, .int .i64 a.at_, .int .i64 a.ring, .int .i64 a.talk, .int .i64 a.how, .string a.car] 43)) 43 #[.string b.id, .string b.frm, .string b.too, .int .i64 b.at_, .int .i64 b.ring, .int .i64 b.talk, .int .i64 b.how, .string b.car]
    simpa using h)
  have HQ := Lib.hid (show Gq w W1 by rw [← hW]; exact ((Gq.refl w).alloc _).alloc _)
  have hz1 : W1.heap.size = w.heap.size + 1 + 1 := by rw [← hW]; simp
  have HW := Lib.hid hW; clear hW
  have a3 := HA.out.cell 3; have a0 := HA.out.cell 0; have b3 := HB.out.cell 3; have b0 := HB.out.cell 0
  by_cases e : a.at_ = b.at_
  · have d : (a.at_ != b.at_) = false := by simp [e]
    obtain ⟨L, hL⟩ : ∃ L, Op.bytesLess a.id.toList b.id.toList = L := ⟨_, rfl⟩
    have HR := Lib.hid (show cfQ a b = if L then -1 else 1 by unfold cfQ; rw [if_pos e, show ltQ a.id b.id = L from hL])
    clear e
    cases L
    · go_enter Tryz.func9, Tryz.ntmps9
      go_upto_region 1 with (fail)
      rw [HW.out]
      go_wp2_with fail
      go_ret
      exact ⟨by rw [HR.out]; rfl, HQ.out⟩
    · go_enter Tryz.func9, Tryz.ntmps9
      go_upto_region 1 with (fail)
      rw [HW.out]
      go_wp2_with fail
      go_ret
      exact ⟨by rw [HR.out]; rfl, HQ.out⟩
  · have d : (a.at_ != b.at_) = true := by simpa using e
    have HR := Lib.hid (show cfQ a b = a.at_ - b.at_ by unfold cfQ; rw [if_neg e])
    clear e
    go_enter Tryz.func9, Tryz.ntmps9
    go_upto_region 1 with (fail)
    rw [HW.out]
    go_wp2_with fail
    go_ret
    exact ⟨by rw [HR.out]; try rfl, HQ.out⟩
/-- The sort leaves them. -/
theorem sortQ_any (lo : Nat) (A : Option Addr) (n c : Nat) (l : List RcV) (w : World) (h : OwnR RcV.row 8 w lo 43 A n c l) (hg : RecsG l) (hl : ∀ r ∈ l, RcOkL r) :
    Calls Tryz.prog 8 #[.slice A n c, .func (.func 9) #[] #[]] w (fun e w' => e = .returned (.tuple #[]) ∧ OwnR RcV.row 8 w' lo 43 A n c l ∧ w.grownBy w' (blkOf A)) := by
  have eg : ∀ args w, (callFunc 9 args).run Tryz.prog w = .ok (.enter 9 args) w := enters_of Tryz.func9 (by kernel_rfl) rfl
  have hcon := sortRec_any Tryz.sortRc Tryz.isAgg43 Tryz.sizeOf43 RcV.row_len (fun x => RcV.oneQ x) cfQ swoQ 9 #[] eg (Ok := RcOkL) (fun x y w1 hx hy => tqCmp_q x y w1 hx hy) A h hl (by have := h.2; have := hg.len; omega)
  refine hcon.mono ?_
  rintro e w' ⟨rfl, l', hp, ha, ho, hgr⟩
  rw [hg.same hp ha] at ho
  exact ⟨rfl, ho, hgr⟩
end Go.Proofs.YtpildcnoghojpaaGreatDoor

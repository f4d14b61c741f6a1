/- planned is true. Conditions: the table of math/bits. -/
import Derived.Test.YtdhaelpacffnlaaDoorPat8
namespace Go.Proofs.YtdhaelpacffnlaaDoor
open Go.RowKit

theorem leR_n1 : leR (nb ⟨#[78, 49]⟩) = ([50, 49], 0) := by decide +kernel
set_option maxHeartbeats 2000000 in
theorem planned_true (w : World) (ht : DbT w) : Calls Tryd.prog 18 #[] w (RetV (.bool true) w) := by
  have HT := Lib.hid ht; clear ht
  have hx : (strN [50, 49]).toList = [50, 49] := by rw [ByteArray.toList_eq]; decide
  go_enter Tryd.func18, Tryd.ntmps18
  go_wp2_with (first
    | (go_at_call 41
       refine (least_any ⟨#[78, 49]⟩ _ HT.out).mono ?_
       rintro e w1 ⟨rfl, hg1⟩
       rw [leR_n1]
       have HG := Lib.hid hg1; clear hg1)
    | fail)
  go_ret
  exact ⟨rfl, HG.out⟩
theorem DbT.pos {w : World} (h : DbT w) : 0 < w.heap.size := World.block_lt_of_cell? w _ (h 0 (by omega))

end Go.Proofs.YtdhaelpacffnlaaDoor

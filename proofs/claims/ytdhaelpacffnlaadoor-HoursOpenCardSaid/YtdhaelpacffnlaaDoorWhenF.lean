/- Contracts of the statements' when and momentFault. Conditions: none. -/
import Derived.Test.YtdhaelpacffnlaaDoorFst
namespace Go.Proofs.YtdhaelpacffnlaaDoor
open Go.RowKit
set_option maxHeartbeats 1000000 in
theorem whenF_any (b : Bool) (e : Int) (w : World) : Calls Tryd.prog 33 #[.bool b, .int .i64 e] w (Same (.int .i64 (if b then e else 0)) w) := by
  cases b
  all_goals
    go_enter Tryd.func33, Tryd.ntmps33
    go_wp2_with fail
    go_ret
    exact ⟨rfl, rfl⟩
def momF (t : Int) : Int := if momB t then 0 else 1
set_option maxHeartbeats 1000000 in
theorem momF_any (t : Int) (w : World) : Calls Tryd.prog 13 #[.int .i64 t] w (Same (.int .i64 (momF t)) w) := by
  have HV := Lib.hid (show momF t = if momB t then 0 else 1 from rfl)
  cases hm : momB t
  all_goals
    rw [hm] at HV
    go_enter Tryd.func13, Tryd.ntmps13
    go_wp2_with (first
      | (go_at_call 34; refine (momentB_any _ _).mono ?_; rintro e w' ⟨rfl, rfl⟩; rw [hm])
      | (go_at_call 33; refine (whenF_any _ _ _).mono ?_; rintro e w' ⟨rfl, rfl⟩)
      | fail)
    go_ret
    exact ⟨by rw [HV.out]; rfl, rfl⟩
end Go.Proofs.YtdhaelpacffnlaaDoor

/- Contracts of strings.IndexByte. Conditions: none. -/
import Derived.Test.YtdgjjjdndedeiaaGreatDoorRet
import Derived.Lib.Bytealg
namespace Go.Proofs.YtdgjjjdndedeiaaGreatDoor
open Go.RowKit

set_option maxHeartbeats 2000000 in
theorem slIndexByte_any (s : ByteArray) (c : Int) (w : World) :
    Calls Tryz.prog 135 #[.string s, .int .u8 c] w (Same (.int .i64 (Lib.indexByte s.data.toList c.toNat.toUInt8)) w) := by
  have hcf : ∀ w, (callFunc 175 #[.string s, .int .u8 c]).run Tryz.prog w = .ok (.value (.int .i64 (Lib.indexByte s.data.toList c.toNat.toUInt8))) w := fun w => by
    rw [run_callFunc_extern Tryz.func175 (by kernel_rfl) (by kernel_rfl) (by kernel_rfl) (e := Extern.BytealgIndexByte.indexByte) (by kernel_rfl), Lib.run_indexByteString]
    rfl
  go_enter Tryz.func135, Tryz.ntmps135
  go_wp2_with fail
  go_ret
  exact ⟨rfl, rfl⟩
set_option maxHeartbeats 2000000 in
theorem indexByte_any (s : ByteArray) (c : Int) (w : World) :
    Calls Tryz.prog 118 #[.string s, .int .u8 c] w (Same (.int .i64 (Lib.indexByte s.data.toList c.toNat.toUInt8)) w) := by
  go_enter Tryz.func118, Tryz.ntmps118
  go_wp2_with (first
    | (go_at_call 135; refine (slIndexByte_any _ _ _).mono ?_; rintro e w' ⟨rfl, rfl⟩)
    | fail)
  go_ret
  exact ⟨rfl, rfl⟩
end Go.Proofs.YtdgjjjdndedeiaaGreatDoor

/- Contracts of strings.IndexByte. Conditions: none. -/
import Derived.Test.YtdhaelpacffnlaaDoorRet
import Derived.Lib.Bytealg
namespace Go.Proofs.YtdhaelpacffnlaaDoor
open Go.RowKit

set_option maxHeartbeats 2000000 in
theorem slIndexByte_any (s : ByteArray) (c : Int) (w : World) :
    Calls Tryd.prog 78 #[.string s, .int .u8 c] w (Same (.int .i64 (Lib.indexByte s.data.toList c.toNat.toUInt8)) w) := by
  have hcf : ∀ w, (callFunc 91 #[.string s, .int .u8 c]).run Tryd.prog w = .ok (.value (.int .i64 (Lib.indexByte s.data.toList c.toNat.toUInt8))) w := fun w => by
    rw [run_callFunc_extern Tryd.func91 (by kernel_rfl) (by kernel_rfl) (by kernel_rfl) (e := Extern.BytealgIndexByte.indexByte) (by kernel_rfl), Lib.run_indexByteString]
    rfl
  go_enter Tryd.func78, Tryd.ntmps78
  go_wp2_with fail
  go_ret
  exact ⟨rfl, rfl⟩
set_option maxHeartbeats 2000000 in
theorem indexByte_any (s : ByteArray) (c : Int) (w : World) :
    Calls Tryd.prog 59 #[.string s, .int .u8 c] w (Same (.int .i64 (Lib.indexByte s.data.toList c.toNat.toUInt8)) w) := by
  go_enter Tryd.func59, Tryd.ntmps59
  go_wp2_with (first
    | (go_at_call 78; refine (slIndexByte_any _ _ _).mono ?_; rintro e w' ⟨rfl, rfl⟩)
    | fail)
  go_ret
  exact ⟨rfl, rfl⟩
end Go.Proofs.YtdhaelpacffnlaaDoor

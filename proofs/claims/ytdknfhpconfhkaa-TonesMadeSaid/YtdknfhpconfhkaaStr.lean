/- Contracts of strings.IndexByte. Conditions: none. -/
import Derived.Test.YtdknfhpconfhkaaPktCheck
import Derived.Lib.Bytealg
namespace Go.Proofs.Ytdknfhpconfhkaa
open Go.RowKit

set_option maxHeartbeats 2000000 in
theorem slIndexByte_any (s : ByteArray) (c : Int) (w : World) :
    Calls Try.prog 97 #[.string s, .int .u8 c] w (Same (.int .i64 (Lib.indexByte s.data.toList c.toNat.toUInt8)) w) := by
  have hcf : ∀ w, (callFunc 100 #[.string s, .int .u8 c]).run Try.prog w = .ok (.value (.int .i64 (Lib.indexByte s.data.toList c.toNat.toUInt8))) w := fun w => by
    rw [run_callFunc_extern Try.func100 (by kernel_rfl) (by kernel_rfl) (by kernel_rfl) (e := Extern.BytealgIndexByte.indexByte) (by kernel_rfl), Lib.run_indexByteString]
    rfl
  go_enter Try.func97, Try.ntmps97
  go_wp2_with fail
  go_ret
  exact ⟨rfl, rfl⟩
set_option maxHeartbeats 2000000 in
theorem indexByte_any (s : ByteArray) (c : Int) (w : World) :
    Calls Try.prog 87 #[.string s, .int .u8 c] w (Same (.int .i64 (Lib.indexByte s.data.toList c.toNat.toUInt8)) w) := by
  go_enter Try.func87, Try.ntmps87
  go_wp2_with (first
    | (go_at_call 97; refine (slIndexByte_any _ _ _).mono ?_; rintro e w' ⟨rfl, rfl⟩)
    | fail)
  go_ret
  exact ⟨rfl, rfl⟩
end Go.Proofs.Ytdknfhpconfhkaa

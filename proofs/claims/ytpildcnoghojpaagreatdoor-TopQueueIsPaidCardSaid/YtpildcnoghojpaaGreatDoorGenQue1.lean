/- Contracts of the generators of styles and callers. Conditions: none. -/
import Derived.Test.YtpildcnoghojpaaGreatDoorBun4
import Derived.Test.YtpildcnoghojpaaGreatDoorBun1
import Derived.Test.YtpildcnoghojpaaGreatDoorQue4
import Derived.Laws.Runes
namespace Go.Proofs.YtpildcnoghojpaaGreatDoor
open Go.RowKit

theorem Tryz.styT : StructT Tryz.prog 33 3 := ⟨_, Tryz.underlying33, rfl, by kernel_rfl⟩
/-! Callers. -/
def GCas (w : World) (lo : Nat) (A : Option Addr) (n c : Nat) (l : List CaV) : Prop := OwnR CaV.row 8 w lo 41 A n c l ∧ ∀ a ∈ l, CaOk a
section
variable {w w' : World} {lo n c : Nat} {A : Option Addr} {l : List CaV}
theorem GCas.cas (h : GCas w lo A n c l) : Cas w lo A n c l := ⟨h.1.recs, h.2⟩
theorem GCas.low (h : GCas w lo A n c l) {r : Option Nat} (hg : w.grownBy w' r) (hr : ∀ g, r = some g → g < lo) : GCas w' lo A n c l := ⟨h.1.low hg hr, h.2⟩
end
theorem encS (n : Int) : (Utf8.encode n).size ≤ 4 := by
  unfold Utf8.encode
  dsimp only
  split <;> (try split) <;> (try split) <;> (try split) <;> first | (show 1 ≤ 4; omega) | (show 2 ≤ 4; omega) | (show 3 ≤ 4; omega) | (show 4 ≤ 4; omega) | fail
theorem appS (s t : ByteArray) : (s ++ t).size = s.size + t.size := by
  rw [← nb_len, nb_append, List.length_append, nb_len, nb_len]
end Go.Proofs.YtpildcnoghojpaaGreatDoor

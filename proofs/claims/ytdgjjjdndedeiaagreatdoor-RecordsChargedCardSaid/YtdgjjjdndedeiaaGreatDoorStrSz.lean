/- Sizes of strings that are made. Conditions: none. -/
import Derived.Test.YtdgjjjdndedeiaaGreatDoorStrs
import Derived.Laws.Runes
namespace Go.Proofs.YtdgjjjdndedeiaaGreatDoor
theorem enc_size (n : Int) : (Utf8.encode n).size ≤ 4 := by
  unfold Utf8.encode
  dsimp only
  split <;> (try split) <;> (try split) <;> (try split) <;> first | (show 1 ≤ 4; omega) | (show 2 ≤ 4; omega) | (show 3 ≤ 4; omega) | (show 4 ≤ 4; omega) | fail
theorem ext_size (s : ByteArray) (a b : Nat) : (s.extract a b).size ≤ s.size := by
  rw [← nb_len, nb_extract, List.length_drop, List.length_take, nb_len]; omega
theorem app_size (s t : ByteArray) : (s ++ t).size = s.size + t.size := by
  rw [← nb_len, nb_append, List.length_append, nb_len, nb_len]
end Go.Proofs.YtdgjjjdndedeiaaGreatDoor

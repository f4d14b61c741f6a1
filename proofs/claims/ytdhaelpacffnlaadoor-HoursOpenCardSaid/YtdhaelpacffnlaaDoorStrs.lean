/- Strings as lists of bytes. Conditions: none. -/
import Derived.Test.YtdhaelpacffnlaaDoorBase
import Derived.Laws.Strings
namespace Go.Proofs.YtdhaelpacffnlaaDoor
/-- The bytes of a string, as numbers. -/
def nb (s : ByteArray) : List Nat := s.data.toList.map UInt8.toNat
/-- A string of bytes. -/
def strN (l : List Nat) : ByteArray := ⟨(l.map Nat.toUInt8).toArray⟩
theorem nb_len (s : ByteArray) : (nb s).length = s.size := by unfold nb; rw [List.length_map]; rfl
theorem nb_lt {s : ByteArray} {b : Nat} (h : b ∈ nb s) : b < 256 := by
  obtain ⟨u, _, rfl⟩ := List.mem_map.1 h
  exact u.toNat_lt
theorem strN_nb (s : ByteArray) : strN (nb s) = s := by
  cases s with
  | mk d =>
    unfold strN nb
    rw [List.map_map, show (Nat.toUInt8 ∘ UInt8.toNat) = id from funext fun u => by simp, List.map_id]
theorem nb_strN {l : List Nat} (h : ∀ b ∈ l, b < 256) : nb (strN l) = l := by
  unfold nb strN
  simp only [List.map_map]
  conv => rhs; rw [← List.map_id l]
  apply List.map_congr_left
  intro b hb
  simp [Nat.mod_eq_of_lt (h b hb)]
theorem nb_inj {s t : ByteArray} (h : nb s = nb t) : s = t := by rw [← strN_nb s, h, strN_nb]
theorem nb_eq {s : ByteArray} {l : List Nat} (h : nb s = l) : s = strN l := by rw [← h, strN_nb]
theorem nb_append (s t : ByteArray) : nb (s ++ t) = nb s ++ nb t := by
  unfold nb
  rw [ByteArray.data_append, Array.toList_append, List.map_append]
theorem nb_extract (s : ByteArray) (a b : Nat) : nb (s.extract a b) = ((nb s).take b).drop a := by
  unfold nb
  rw [ByteArray.data_extract, Array.toList_extract, ← List.map_take, ← List.map_drop]
  rw [List.extract_eq_take_drop, List.drop_take]
theorem nb_get {s : ByteArray} {k : Nat} (h : k < s.size) : s[k].toNat = (nb s).getD k 0 := by
  unfold nb
  rw [List.getD_eq_getElem?_getD, List.getElem?_map]
  have hk : k < s.data.toList.length := by rw [Array.length_toList]; exact h
  rw [List.getElem?_eq_getElem hk]
  rfl
theorem strN_append (a b : List Nat) : strN a ++ strN b = strN (a ++ b) := by
  unfold strN
  apply ByteArray.ext
  rw [ByteArray.data_append]
  simp
theorem strN_size (l : List Nat) : (strN l).size = l.length := by simp [strN, ByteArray.size]
theorem strN_extract (l : List Nat) (a b : Nat) : (strN l).extract a b = strN ((l.take b).drop a) := by
  unfold strN
  apply ByteArray.ext
  rw [ByteArray.data_extract]
  apply Array.ext'
  simp [List.extract_eq_take_drop, List.map_drop, List.map_take, List.drop_take]
theorem str_nil {t : ByteArray} (h : nb t = []) : t.toList = [] := by
  rw [ByteArray.toList_eq]
  unfold nb at h
  simpa using h
theorem str_full {t : ByteArray} (h : ¬ nb t = []) : (t.toList == []) = false ∧ t.toList.isEmpty = false ∧ 0 < t.size := by
  have h1 : ¬ t.toList = [] := fun e => h (by unfold nb; rw [← ByteArray.toList_eq, e]; rfl)
  refine ⟨by rw [beq_eq_false_iff_ne]; exact h1, by rw [List.isEmpty_eq_false_iff]; exact h1, ?_⟩
  rcases Nat.eq_zero_or_pos t.size with h2 | h2
  · exact absurd (List.eq_nil_of_length_eq_zero (by rw [nb_len]; exact h2)) h
  · exact h2
end Go.Proofs.YtdhaelpacffnlaaDoor

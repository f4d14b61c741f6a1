/- string(b) of bytes that lie in memory. Conditions: none. -/
import Derived.Test.YtdhaelpacffnlaaDoorRet
import Derived.Laws.BytesString
import Derived.Lib.BufferRead
namespace Go.Proofs.YtdhaelpacffnlaaDoor
open Go.RowKit

/-- A string of bytes, given as numbers. -/
def strI (l : List Int) : ByteArray := ⟨(l.map (fun z => z.toNat.toUInt8)).toArray⟩
theorem fold_push (l : List Int) (s : ByteArray) : l.foldl (fun r n => r.push (UInt8.ofNat n.toNat)) s = ⟨s.data ++ (l.map (fun z => z.toNat.toUInt8)).toArray⟩ := by
  induction l generalizing s with
  | nil => simp
  | cons x l ih =>
    rw [List.foldl_cons, ih]
    simp [ByteArray.push]
theorem run_str {P : Program} {src dst e : TypeId} {w : World} {lo : Nat} {A : Option Addr} {n c : Nat} {l : List Int} (hs : P.underlying src = some (.slice e)) (he : P.underlying e = some (.int .u8)) (hd : P.underlying dst = some .string) (h : Ints .u8 w lo A n c l) :
    (convert src dst (.slice A n c)).run P w = .ok (.string (strI l)) w := by
  cases A with
  | none =>
    have hn : n = 0 := by
      rcases Nat.eq_zero_or_pos n with h0 | h0
      · exact h0
      · obtain ⟨g, o, e, _⟩ := h.2.2 h0; cases e
    subst hn
    have hl : l = [] := List.eq_nil_of_length_eq_zero h.len
    subst hl
    rw [Lib.run_convert_nil_bytes w src dst e c hs he hd]
    rfl
  | some ad =>
    have hlen := h.len
    have hload : (loadCells ad n).run P w = .ok (l.map (Value.int .u8)).toArray w := by
      have := run_loadCells_list (P := P) w ad (l.map (Value.int .u8)) (fun j u hu => by
        have hj := (List.getElem?_eq_some_iff.1 hu).1
        rw [List.length_map] at hj
        obtain ⟨g, o, e, _, _, h3⟩ := h.2.2 (by omega)
        injection e with e
        subst e
        rw [add_mk]
        exact h3 j u hu)
      rw [List.length_map, hlen] at this
      exact this
    rw [run_convert_bytes_string w src dst e _ _ _ hs he hd, run_bytesToString w ad n c l hload, fold_push]
    simp [strI, ByteArray.empty, ByteArray.emptyWithCapacity]
    rfl
end Go.Proofs.YtdhaelpacffnlaaDoor

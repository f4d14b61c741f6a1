/- Contracts of strength and strongest, the program's and the document's. Conditions: none. -/
import Derived.Test.YtdknfhpconfhkaaHum
namespace Go.Proofs.Ytdknfhpconfhkaa
open Go.RowKit

/-- The two numbers that strength carries from sample to sample. -/
def strTo (c : Int) (l : List Int) : Nat → Int × Int
  | 0 => (0, 0)
  | i + 1 => (wrap64 (wrap64 (l.getD i 0 / 8 + wrap64 (c * (strTo c l i).1) / 16384) - (strTo c l i).2), (strTo c l i).1)
def strength (c : Int) (l : List Int) : Int :=
  wrap64 (wrap64 (wrap64 ((strTo c l l.length).1 * (strTo c l l.length).1) + wrap64 ((strTo c l l.length).2 * (strTo c l l.length).2)) - wrap64 (wrap64 (c * (strTo c l l.length).1) / 16384 * (strTo c l l.length).2))

theorem strTo_succ {c : Int} {l : List Int} {i : Nat} {z a b : Int} (hz : l[i]? = some z) (h : strTo c l i = (a, b)) : strTo c l (i + 1) = (wrap64 (wrap64 (z / 8 + wrap64 (c * a) / 16384) - b), a) := by
  rw [strTo, h, List.getD_eq_getElem?_getD, hz]; rfl
theorem strength_eq {c : Int} {l : List Int} {n : Nat} {a b : Int} (hn : l.length = n) (h : strTo c l n = (a, b)) : strength c l = wrap64 (wrap64 (wrap64 (a * a) + wrap64 (b * b)) - wrap64 (wrap64 (c * a) / 16384 * b)) := by
  unfold strength; rw [hn, h]
theorem wrap64_bd (n : Int) : -9223372036854775808 ≤ wrap64 n ∧ wrap64 n ≤ 9223372036854775807 := by unfold wrap64; omega

set_option maxRecDepth 100000 in
set_option maxHeartbeats 8000000 in
theorem mstrength_any (lo : Nat) (A : Option Addr) (n cap : Nat) (l : List Int) (c : Int) (w : World) (h : Ints .i64 w lo A n cap l) (hn : n ≤ 1000000) (hl : ∀ z ∈ l, -32768 ≤ z ∧ z ≤ 32767) :
    Calls Try.prog 98 #[.int .i64 c, .slice A n cap] w (Same (.int .i64 (strength c l)) w) := by
  have H := Lib.hid h; clear h
  have HL := Lib.hid hl; clear hl
  go_enter Try.func98, Try.ntmps98
  go_wp2_with fail
  go_loop [5, 6, 8, 9, 12] (fun u v _ _ t => ∃ (i : Nat) (a b : Int), i ≤ n ∧ t = .int .i64 i ∧ u = .int .i64 a ∧ v = .int .i64 b ∧ strTo c l i = (a, b)) (fun _ _ _ _ t => n - (intOf t).toNat)
  case atStart => exact ⟨0, 0, 0, Nat.zero_le _, rfl, rfl, rfl, rfl⟩
  case round =>
    obtain ⟨i, a, b, hi, rfl, rfl, rfl, hst⟩ := hrel
    have HST := Lib.hid hst; clear hst
    by_cases hlt : i < n
    · obtain ⟨g, o, z, rfl, _, _, hz, hc⟩ := H.out.get hlt
      obtain ⟨z0, z1⟩ := HL.out z (mem_of_get hz)
      have HZ := Lib.hid hz; clear hz
      go_wp2_with fail
      go_round
      case rel => exact ⟨i + 1, _, _, by omega, by go_num, rfl, rfl, strTo_succ HZ.out HST.out⟩
      case measure => simp [intOf]; omega
    · obtain rfl : i = n := by omega
      go_wp2_with fail
      go_ret
      exact ⟨by rw [strength_eq H.out.len HST.out]; rfl, rfl⟩

set_option maxRecDepth 100000 in
set_option maxHeartbeats 8000000 in
theorem qstrength_any (lo : Nat) (A : Option Addr) (n cap : Nat) (l : List Int) (c : Int) (w : World) (h : Ints .i64 w lo A n cap l) (hn : n ≤ 1000000) (hl : ∀ z ∈ l, -32768 ≤ z ∧ z ≤ 32767) :
    Calls Try.prog 99 #[.int .i64 c, .slice A n cap] w (Same (.int .i64 (strength c l)) w) := by
  have H := Lib.hid h; clear h
  have HL := Lib.hid hl; clear hl
  go_enter Try.func99, Try.ntmps99
  go_wp2_with fail
  go_loop [5, 6, 8, 11] (fun u v _ t => ∃ (i : Nat) (a b : Int), i ≤ n ∧ t = .int .i64 i ∧ u = .int .i64 a ∧ v = .int .i64 b ∧ strTo c l i = (a, b)) (fun _ _ _ t => n - (intOf t).toNat)
  case atStart => exact ⟨0, 0, 0, Nat.zero_le _, rfl, rfl, rfl, rfl⟩
  case round =>
    obtain ⟨i, a, b, hi, rfl, rfl, rfl, hst⟩ := hrel
    have HST := Lib.hid hst; clear hst
    have HWB := Lib.hid (wrap64_bd (c * a))
    by_cases hlt : i < n
    · obtain ⟨g, o, z, rfl, _, _, hz, hc⟩ := H.out.get hlt
      obtain ⟨z0, z1⟩ := HL.out z (mem_of_get hz)
      have HZ := Lib.hid hz; clear hz
      go_wp2_with fail
      refine (floor_any z 8 _ (by omega) (by omega) (by omega)).mono ?_
      rintro e w' ⟨rfl, rfl⟩
      go_wp2_with fail
      refine (floor_any (wrap64 (c * a)) 16384 _ HWB.out.1 HWB.out.2 (by omega)).mono ?_
      rintro e w' ⟨rfl, rfl⟩
      go_wp2_with fail
      go_round
      case rel => exact ⟨i + 1, _, _, by omega, by go_num, rfl, rfl, strTo_succ HZ.out HST.out⟩
      case measure => simp [intOf]; omega
    · obtain rfl : i = n := by omega
      go_wp2_with fail
      refine (floor_any (wrap64 (c * a)) 16384 _ HWB.out.1 HWB.out.2 (by omega)).mono ?_
      rintro e w' ⟨rfl, rfl⟩
      go_wp2_with fail
      go_ret
      exact ⟨by rw [strength_eq H.out.len HST.out]; rfl, rfl⟩
end Go.Proofs.Ytdknfhpconfhkaa

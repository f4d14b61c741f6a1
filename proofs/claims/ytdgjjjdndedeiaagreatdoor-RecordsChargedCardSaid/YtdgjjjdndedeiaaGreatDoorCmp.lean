/- Contracts of cmp.Compare and cmp.Or at int. Conditions: none. -/
import Derived.Test.YtdgjjjdndedeiaaGreatDoorFst
import Derived.Test.YtdgjjjdndedeiaaGreatDoorShelfTrim
namespace Go.Proofs.YtdgjjjdndedeiaaGreatDoor
open Go.RowKit

def cmpZ (a b : Int) : Int := if a < b then -1 else if b < a then 1 else 0
theorem cmpZ_any (a b : Int) (w : World) : Calls Tryz.prog 101 #[.int .i64 a, .int .i64 b] w (Same (.int .i64 (cmpZ a b)) w) := by
  refine (Tryz.cmp_Compare_int a b w).mono ?_
  rintro e w' ⟨rfl, rfl⟩
  exact ⟨rfl, rfl⟩
/-- The first of two numbers that is not 0. -/
def orZ (a b : Int) : Int := if a = 0 then b else a
set_option maxHeartbeats 2000000 in
theorem orZ_any (a b : Int) (g : Nat) (w : World) (hb : Blk w g 3 #[.int .i64 a, .int .i64 b]) : Calls Tryz.prog 100 #[.slice (some ⟨g, 0, none⟩) 2 2] w (Same (.int .i64 (orZ a b)) w) := by
  have c0 : w.cell? ⟨g, 0, none⟩ = some (.int .i64 a) := hb.cell 0
  have c1 : w.cell? ⟨g, 1, none⟩ = some (.int .i64 b) := hb.cell 1
  clear hb
  go_enter Tryz.func100, Tryz.ntmps100
  go_wp2_with fail
  go_loop [5, 8] (fun _ t => ∃ i : Nat, i ≤ 2 ∧ t = .int .i64 i ∧ (1 ≤ i → a = 0) ∧ (2 ≤ i → b = 0)) (fun _ t => 2 - (intOf t).toNat)
  case atStart => exact ⟨0, by omega, rfl, by omega, by omega⟩
  case round =>
    obtain ⟨i, hi, rfl, h1, h2⟩ := hrel
    have H1 := Lib.hid h1; have H2 := Lib.hid h2
    clear h1 h2
    rcases (by omega : i = 0 ∨ i = 1 ∨ i = 2) with rfl | rfl | rfl
    · by_cases hz : a = 0
      · have q : (a != 0) = false := by simp [hz]
        have HA := Lib.hid hz; clear hz
        go_wp2_with fail
        go_round
        case rel => exact ⟨1, by omega, rfl, fun _ => HA.out, fun h => by omega⟩
        case measure => simp [intOf]
      · have q : (a != 0) = true := by simpa using hz
        have HA := Lib.hid (show orZ a b = a by unfold orZ; rw [if_neg hz]); clear hz
        go_wp2_with fail
        go_ret
        exact ⟨by rw [HA.out]; rfl, rfl⟩
    · have ha := H1.out (by omega)
      have HA := Lib.hid (show orZ a b = b by unfold orZ; rw [if_pos ha])
      have HA0 := Lib.hid ha; clear ha
      by_cases hz : b = 0
      · have q : (b != 0) = false := by simp [hz]
        have HBZ := Lib.hid hz; clear hz
        go_wp2_with fail
        go_round
        case rel => exact ⟨2, by omega, rfl, fun _ => HA0.out, fun _ => HBZ.out⟩
        case measure => simp [intOf]
      · have q : (b != 0) = true := by simpa using hz
        go_wp2_with fail
        go_ret
        exact ⟨by rw [HA.out]; rfl, rfl⟩
    · have HA := Lib.hid (show orZ a b = 0 by unfold orZ; rw [if_pos (H1.out (by omega)), H2.out (by omega)])
      go_wp2_with fail
      go_ret
      exact ⟨by rw [HA.out]; rfl, rfl⟩
end Go.Proofs.YtdgjjjdndedeiaaGreatDoor

/- Contracts of talked, checkSeat, CheckSeats and of the document's SeatsFault. Conditions: callers whose numbers are in bounds (but for CheckSeats). -/
import Derived.Test.YtnmodobkennklaaGreatDoorRo7
namespace Go.Proofs.YtnmodobkennklaaGreatDoor
section
open Go.RowKit

theorem how_24 {z : SeV} (h1 : inB z.how 1 4 = true) (h2 : tkB z = false) (h3 : z.how ≠ 2) : z.how = 4 := by
  unfold inB at h1
  unfold tkB at h2
  simp only [Bool.and_eq_true, decide_eq_true_eq] at h1
  simp only [Bool.or_eq_false_iff, beq_eq_false_iff_ne] at h2
  omega
theorem how_13 {z : SeV} (h : tkB z = true) : (z.how == 2) = false ∧ (z.how == 4) = false := by
  unfold tkB at h
  simp only [Bool.or_eq_true, beq_iff_eq] at h
  rcases h with h | h <;> rw [h] <;> exact ⟨rfl, rfl⟩
end
end Go.Proofs.YtnmodobkennklaaGreatDoor
/- Contracts of fraction and of the document's Lowest, at numbers that are not below 0. Conditions: the second number is above 0. -/
namespace Go.Proofs.YtnmodobkennklaaGreatDoor
section
open Go.RowKit
end
end Go.Proofs.YtnmodobkennklaaGreatDoor

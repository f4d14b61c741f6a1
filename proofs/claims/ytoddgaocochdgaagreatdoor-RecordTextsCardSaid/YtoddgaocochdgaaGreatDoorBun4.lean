/- Contract of slices.Equal at records that read as the same list. Conditions: none. -/
import Derived.Test.YtoddgaocochdgaaGreatDoorBun3
import Derived.WalkKit
import Derived.Deep.QuietTactic
import Derived.BigQuiet
import Derived.Test.YtoddgaocochdgaaGreatDoorBun1
namespace Go.Proofs.YtoddgaocochdgaaGreatDoor
section
open Go.RowKit
set_option maxHeartbeats 4000000 in
theorem equalRc_same (lo lo' : Nat) (A A' : Option Addr) (n c n' c' : Nat) (l : List RcV) (w : World) (h1 : Recs RcV.row 8 w lo A n c l) (h2 : Recs RcV.row 8 w lo' A' n' c' l) (hn2 : n ≤ 1000000000000) :
    Calls Tryz.prog 40 #[.slice A n c, .slice A' n' c'] w fun e w' => e = .returned (.bool true) ∧ ∃ k, w' = w.drewN k := by
  obtain rfl : n = n' := by rw [← h1.len, ← h2.len]
  have H1 := Lib.hid h1; have H2 := Lib.hid h2; clear h1 h2
  go_enter Tryz.func40, Tryz.ntmps40
  go_wp2_with fail
  go_loopw [5, 13] (fun _ t wr => ∃ i : Nat, i ≤ n ∧ t = .int .i64 i ∧ ∃ k, wr = w.drewN k) (fun _ t _ => n - (intOf t).toNat)
  case atStart => exact ⟨0, Nat.zero_le _, rfl, 0, rfl⟩
  case round =>
    obtain ⟨i, hi, rfl, k, rfl⟩ := hrel
    by_cases hlt : i < n
    · obtain ⟨g, o, z, rfl, _, _, hz, hc⟩ := H1.out.get RcV.row_len hlt
      obtain ⟨g', o', z', rfl, _, _, hz', hc2⟩ := H2.out.get RcV.row_len hlt
      rw [hz] at hz'
      injection hz' with hz'
      subst hz'
      have c0 := hc 0 _ rfl
      have d0 := hc2 0 _ rfl
      have c1 := hc 1 _ rfl
      have d1 := hc2 1 _ rfl
      have c2 := hc 2 _ rfl
      have d2 := hc2 2 _ rfl
      have c3 := hc 3 _ rfl
      have d3 := hc2 3 _ rfl
      have c4 := hc 4 _ rfl
      have d4 := hc2 4 _ rfl
      have c5 := hc 5 _ rfl
      have d5 := hc2 5 _ rfl
      have c6 := hc 6 _ rfl
      have d6 := hc2 6 _ rfl
      have c7 := hc 7 _ rfl
      have d7 := hc2 7 _ rfl
      simp only [Nat.add_zero] at c0 d0
      clear hz hc hc2
      have hi0 : (0 : Int) ≤ (i : Int) := by omega
      have hi1 : (i : Int) < (n : Int) := by omega
      go_wp2_with fail
      go_quiet (fail)
      go_wp2_with fail
      go_roundw
      case rel => exact ⟨i + 1, by omega, by go_num, _, rfl⟩
      case measure => simp [intOf]; omega
    · obtain rfl : i = n := by omega
      go_wp2_with fail
      go_ret
      exact ⟨rfl, _, rfl⟩
end
end Go.Proofs.YtoddgaocochdgaaGreatDoor
/- Contracts of slices.Index and slices.Contains at strings. Conditions: none. -/
namespace Go.Proofs.YtoddgaocochdgaaGreatDoor
section
open Go.RowKit

set_option maxHeartbeats 2000000 in
theorem indexS_any (lo : Nat) (A : Option Addr) (n c : Nat) (l : List ByteArray) (s : ByteArray) (w : World) (h : Recs srow 1 w lo A n c l) (hn : n ≤ 1000000000) :
    Calls Tryz.prog 123 #[.slice A n c, .string s] w (Same (.int .i64 (idxP (fun x => nb x == nb s) l)) w) := by
  have H := Lib.hid h; clear h
  go_enter Tryz.func123, Tryz.ntmps123
  go_wp2_with fail
  go_loop [5, 8] (fun _ t => ∃ i : Nat, i ≤ n ∧ t = .int .i64 i ∧ (l.take i).all (fun x => !(nb x == nb s)) = true) (fun _ t => n - (intOf t).toNat)
  case atStart => exact ⟨0, Nat.zero_le _, rfl, rfl⟩
  case round =>
    obtain ⟨i, hi, rfl, ha⟩ := hrel
    have HA := Lib.hid ha; clear ha
    by_cases hlt : i < n
    · obtain ⟨g, o, x, rfl, _, hgl, hz, hcc⟩ := H.out.get srow_len hlt
      have ks := hcc 0 _ rfl
      simp only [Nat.mul_one, Nat.add_zero] at ks
      have HZ := Lib.hid hz; clear hz hcc
      obtain ⟨E, hE⟩ : ∃ E, (s.toList == x.toList) = E := ⟨_, rfl⟩
      have HE := Lib.hid (show (nb x == nb s) = E by rw [← hE, eqS_nb, Bool.eq_iff_iff, beq_iff_eq, beq_iff_eq]; exact eq_comm)
      cases E
      · go_wp2_with fail
        go_round
        case rel => exact ⟨i + 1, by omega, by go_num, allP_succ (p := fun x : ByteArray => nb x == nb s) HA.out HZ.out HE.out⟩
        case measure => simp [intOf]; omega
      · go_wp2_with fail
        go_ret
        exact ⟨by rw [idxP_some (p := fun x : ByteArray => nb x == nb s) HA.out HZ.out HE.out]; rfl, rfl⟩
    · obtain rfl : n = i := by omega
      go_wp2_with fail
      go_ret
      have h := HA.out
      rw [List.take_of_length_le (by rw [H.out.len]; exact Nat.le_refl _)] at h
      exact ⟨by rw [idxP_none (p := fun x : ByteArray => nb x == nb s) h]; rfl, rfl⟩
set_option maxHeartbeats 1000000 in
theorem containsS_any (lo : Nat) (A : Option Addr) (n c : Nat) (l : List ByteArray) (s : ByteArray) (w : World) (h : Recs srow 1 w lo A n c l) (hn : n ≤ 1000000000) :
    Calls Tryz.prog 137 #[.slice A n c, .string s] w (Same (.bool (l.any (fun x => nb x == nb s))) w) := by
  have H := Lib.hid h; clear h
  obtain ⟨I, hI⟩ : ∃ I, idxP (fun x => nb x == nb s) l = I := ⟨_, rfl⟩
  have HI := Lib.hid (show decide (0 ≤ I) = l.any (fun x => nb x == nb s) by rw [← hI]; exact idxP_any)
  have HI2 := Lib.hid hI; clear hI
  go_enter Tryz.func137, Tryz.ntmps137
  go_wp2_with (first
    | (go_at_call 123; refine (indexS_any lo _ _ _ l s _ H.out hn).mono ?_; rintro e w2 ⟨rfl, rfl⟩; rw [HI2.out])
    | fail)
  go_ret
  exact ⟨by rw [← HI.out]; rfl, rfl⟩
end
end Go.Proofs.YtoddgaocochdgaaGreatDoor

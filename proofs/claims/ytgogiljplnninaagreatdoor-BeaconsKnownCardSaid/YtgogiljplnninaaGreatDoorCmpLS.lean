/- Contracts of cmp.Compare and slices.Compare at strings. Conditions: none. -/
import Derived.Test.YtgogiljplnninaaGreatDoorBun4
import Derived.Test.YtgogiljplnninaaGreatDoorBun1
namespace Go.Proofs.YtgogiljplnninaaGreatDoor
open Go.RowKit

theorem isNaNS_any (a : ByteArray) (w : World) : Calls Tryz.prog 191 #[.string a] w (Same (.bool false) w) := by
  have q : (a.toList != a.toList) = false := by simp
  go_enter Tryz.func191, Tryz.ntmps191
  go_wp2_with fail
  go_ret
  exact ⟨rfl, rfl⟩
set_option maxHeartbeats 2000000 in
theorem cmpStr_any (a b : ByteArray) (w : World) : Calls Tryz.prog 129 #[.string a, .string b] w (Same (.int .i64 (cmpS a b)) w) := by
  have l1 := ltS_cmp a b
  have l2 := ltS_cmp b a
  have hr := cmpS_range a b
  have hn := cmpS_neg a b
  have hz := @cmpS_zero a b
  have he := eqS_nb a b
  obtain ⟨q, hq⟩ : ∃ q, cmpS a b = q := ⟨_, rfl⟩
  have HQ := Lib.hid hq
  rw [hq] at l1 hr hn hz
  rw [hn] at l2
  clear hq hn
  rcases hr with rfl | rfl | rfl
  · have d1 : Op.bytesLess a.toList b.toList = true := by rw [l1]; decide
    have d2 : Op.bytesLess b.toList a.toList = false := by rw [l2]; decide
    have d3 : (a.toList == b.toList) = false := by rw [he, beq_eq_false_iff_ne]; exact fun q => absurd (hz.2 q) (by decide)
    clear l1 l2 hz he
    go_enter Tryz.func129, Tryz.ntmps129
    go_wp2_with (first
      | (go_at_call 191; refine (isNaNS_any _ _).mono ?_; rintro e w' ⟨rfl, rfl⟩)
      | fail)
    go_ret
    exact ⟨by rw [HQ.out]; rfl, rfl⟩
  · have d3 : (a.toList == b.toList) = true := by rw [he]; simpa using hz.1 rfl
    have d1 : Op.bytesLess a.toList b.toList = false := by rw [l1]; decide
    have d2 : Op.bytesLess b.toList a.toList = false := by rw [l2]; decide
    clear l1 l2 hz he
    go_enter Tryz.func129, Tryz.ntmps129
    go_wp2_with (first
      | (go_at_call 191; refine (isNaNS_any _ _).mono ?_; rintro e w' ⟨rfl, rfl⟩)
      | fail)
    go_ret
    exact ⟨by rw [HQ.out]; rfl, rfl⟩
  · have d1 : Op.bytesLess a.toList b.toList = false := by rw [l1]; decide
    have d2 : Op.bytesLess b.toList a.toList = true := by rw [l2]; decide
    have d3 : (a.toList == b.toList) = false := by rw [he, beq_eq_false_iff_ne]; exact fun q => absurd (hz.2 q) (by decide)
    clear l1 l2 hz he
    go_enter Tryz.func129, Tryz.ntmps129
    go_wp2_with (first
      | (go_at_call 191; refine (isNaNS_any _ _).mono ?_; rintro e w' ⟨rfl, rfl⟩)
      | fail)
    go_ret
    exact ⟨by rw [HQ.out]; rfl, rfl⟩
set_option maxHeartbeats 2000000 in
theorem compareS_any (lo lo' : Nat) (A A' : Option Addr) (n c n' c' : Nat) (l m : List ByteArray) (w : World) (h : Recs srow 1 w lo A n c l) (h' : Recs srow 1 w lo' A' n' c' m) (hn : n ≤ 1000000) (_ : n' ≤ 1000000) :
    Calls Tryz.prog 69 #[.slice A n c, .slice A' n' c'] w (Same (.int .i64 (cmpLL cmpS l m)) w) := by
  have H := Lib.hid h; have H' := Lib.hid h'
  have HL := Lib.hid h.len; have HL' := Lib.hid h'.len
  clear h h'
  go_enter Tryz.func69, Tryz.ntmps69
  go_wp2_with fail
  go_loop [5, 6, 7, 8, 11] (fun _ _ _ _ t => ∃ i : Nat, i ≤ n ∧ t = .int .i64 i ∧ cmpLL cmpS l m = cmpLL cmpS (l.drop i) (m.drop i)) (fun _ _ _ _ t => n - (intOf t).toNat)
  case atStart => exact ⟨0, Nat.zero_le _, rfl, rfl⟩
  case round =>
    obtain ⟨i, hi, rfl, he⟩ := hrel
    have HE := Lib.hid he; clear he
    by_cases hlt : i < n
    · obtain ⟨g, o, z, rfl, _, _, hz, hc⟩ := H.out.get srow_len hlt
      have c0 := hc 0 _ rfl
      simp only [Nat.mul_one, Nat.add_zero] at c0
      clear hc
      by_cases hm : i < n'
      · obtain ⟨g', o', z', rfl, _, _, hz', hc'⟩ := H'.out.get srow_len hm
        have c1 := hc' 0 _ rfl
        simp only [Nat.mul_one, Nat.add_zero] at c1
        clear hc'
        have HS := Lib.hid (show cmpLL cmpS l m = if cmpS z z' = 0 then cmpLL cmpS (l.drop (i + 1)) (m.drop (i + 1)) else cmpS z z' by rw [HE.out, cmpLL_drop hz hz'])
        have d1 : decide ((n' : Int) ≤ (i : Int)) = false := decide_eq_false (by omega)
        have d1' : decide (n' ≤ i) = false := decide_eq_false (by omega)
        obtain ⟨q, hq⟩ : ∃ q, cmpS z z' = q := ⟨_, rfl⟩
        have HQ := Lib.hid hq
        clear hz hz' hq
        by_cases hq0 : q = 0
        · have b1 : (q != 0) = false := by simp [hq0]
          have HN := Lib.hid (show cmpLL cmpS l m = cmpLL cmpS (l.drop (i + 1)) (m.drop (i + 1)) by rw [HS.out, HQ.out, if_pos hq0])
          clear hq0
          go_wp2_with (first
            | (go_at_call 129; refine (cmpStr_any z z' _).mono ?_; rintro e w' ⟨rfl, rfl⟩; rw [HQ.out])
            | fail)
          go_round
          case rel => exact ⟨i + 1, by omega, by go_num, HN.out⟩
          case measure => simp [intOf]; omega
        · have b1 : (q != 0) = true := by simpa using hq0
          have HN := Lib.hid (show cmpLL cmpS l m = q by rw [HS.out, HQ.out, if_neg hq0])
          clear hq0
          go_wp2_with (first
            | (go_at_call 129; refine (cmpStr_any z z' _).mono ?_; rintro e w' ⟨rfl, rfl⟩; rw [HQ.out])
            | fail)
          go_ret
          exact ⟨by rw [HN.out]; rfl, rfl⟩
      · have HN := Lib.hid (show cmpLL cmpS l m = 1 by rw [HE.out, cmpLL_gt (by rw [HL.out]; exact hlt) (by rw [HL'.out]; omega)])
        have d1 : decide ((n' : Int) ≤ (i : Int)) = true := decide_eq_true (by omega)
        have d1' : decide (n' ≤ i) = true := decide_eq_true (by omega)
        clear hz
        go_wp2_with fail
        go_ret
        exact ⟨by rw [HN.out]; rfl, rfl⟩
    · obtain rfl : i = n := by omega
      have HN := Lib.hid (show cmpLL cmpS l m = if i < n' then -1 else 0 by rw [HE.out, cmpLL_end HL.out, HL'.out])
      by_cases hlt2 : i < n'
      · have d1 : decide ((i : Int) < (n' : Int)) = true := decide_eq_true (by omega)
        have d1' : decide (i < n') = true := decide_eq_true hlt2
        go_wp2_with fail
        go_ret
        exact ⟨by rw [HN.out, if_pos hlt2]; rfl, rfl⟩
      · have d1 : decide ((i : Int) < (n' : Int)) = false := decide_eq_false (by omega)
        have d1' : decide (i < n') = false := decide_eq_false hlt2
        go_wp2_with fail
        go_ret
        exact ⟨by rw [HN.out, if_neg hlt2]; rfl, rfl⟩
end Go.Proofs.YtgogiljplnninaaGreatDoor

/- Contracts of the generators of patterns. Conditions: none. -/
import Derived.Test.YtpjheibkacbbcaaGreatDoorBun2
import Derived.Test.YtpjheibkacbbcaaGreatDoorShelfRep
namespace Go.Proofs.YtpjheibkacbbcaaGreatDoor
open Go.RowKit

theorem repeat_any (s : ByteArray) (c : Nat) (k : Nat) (w : World) (hc : c ≤ 100) (hs : s.size ≤ 4) (hk : s.size * c ≤ k) :
    Calls Tryz.prog 152 #[.string s, .int .i64 c] w (RetP (fun v _ => ∃ t : ByteArray, v = .string t ∧ t.size ≤ k) w) := by
  have h4 : s.size * c ≤ 4 * 100 := Nat.mul_le_mul hs hc
  refine (Tryz.strings_Repeat s c w (by omega) (by omega)).mono ?_
  rintro e w' ⟨rfl, hb⟩
  refine ⟨_, rfl, ⟨_, rfl, ?_⟩, gr_below hb none⟩
  have : (Lib.repeatL s.data.toList c).length = s.size * c := by
    rw [Lib.repeatL_length, Nat.mul_comm]
    rfl
  show (Lib.repeatL s.data.toList c).toArray.size ≤ k
  rw [List.size_toArray, this]
  exact hk
set_option maxRecDepth 100000 in
set_option maxHeartbeats 4000000 in
theorem rightPattern_any (sb : Nat) (m : Int) (w : World) (hs : Str w sb m) (hm : m ≤ 1000000000000) :
    Calls Tryz.prog 135 #[.pointer (some ⟨sb, 0, none⟩)] w (Drawn sb (m + 6) (StrBd 40) w) := by
  have HS := Lib.hid hs; clear hs
  go_enter Tryz.func135, Tryz.ntmps135
  go_wp2_with fail
  refine (range_any sb m 1 4 _ HS.out (by omega) (by omega) (by omega) (by omega)).mono ?_
  rintro e w1 ⟨v1, rfl, ⟨r, r0, r1, rfl⟩, hs1, hg1⟩
  obtain ⟨N, rfl⟩ : ∃ N : Nat, r = N := ⟨r.toNat, by omega⟩
  have HS1 := Lib.hid hs1; have HG1 := Lib.hid hg1; clear hs1 hg1
  go_wp2_with fail
  go_loopw [3, 6] (fun s t wr => ∃ (i : Nat) (x : ByteArray), i ≤ N ∧ t = .int .i64 i ∧ s = .string x ∧ x.size ≤ 6 * i ∧ Str wr sb (m + 1 + i) ∧ w.grownBy wr (some sb)) (fun _ t _ => N - (intOf t).toNat)
  case atStart => exact ⟨0, ⟨#[]⟩, Nat.zero_le _, rfl, rfl, by decide, HS1.out.mono (by omega), HG1.out⟩
  case round =>
    obtain ⟨i, x, hi, rfl, rfl, hx, hs2, hg2⟩ := hrel
    have HS2 := Lib.hid hs2; have HG2 := Lib.hid hg2; clear hs2 hg2
    by_cases hlt : i < N
    · have d1 : decide ((i : Int) < (N : Int)) = true := decide_eq_true (by omega)
      have d1' : decide (i < N) = true := decide_eq_true hlt
      go_wp2_with fail
      refine (some_new (n := 14) sb _ 6 _ HS2.out (by omega) rfl (by
        repeat (first | exact StrsOk.nil _ | refine StrsOk.cons (by decide) ?_)) rfl (by omega) (by omega)).mono ?_
      rintro e w3 ⟨v3, rfl, ⟨y, rfl, hy⟩, hs3, hg3⟩
      have HS3 := Lib.hid hs3; have HG3 := Lib.hid (gr_same HG2.out hg3); clear hs3 hg3
      go_wp2_with fail
      go_roundw
      case rel => exact ⟨i + 1, x ++ y, by omega, by go_num, rfl, by rw [app_size]; omega, HS3.out.mono (by omega), HG3.out⟩
      case measure => simp [intOf]; omega
    · obtain rfl : i = N := by omega
      have d1 : decide ((i : Int) < (i : Int)) = false := decide_eq_false (by omega)
      go_wp2_with fail
      refine (some_new (n := 5) sb _ 1 _ HS2.out (by omega) rfl (by
        repeat (first | exact StrsOk.nil _ | refine StrsOk.cons (by decide) ?_)) rfl (by omega) (by omega)).mono ?_
      rintro e w3 ⟨v3, rfl, ⟨y, rfl, hy⟩, hs3, hg3⟩
      have HS3 := Lib.hid hs3; have HG3 := Lib.hid (gr_same HG2.out hg3); clear hs3 hg3
      go_wp2_with fail
      go_ret
      exact ⟨_, rfl, ⟨_, rfl, by rw [app_size]; omega⟩, HS3.out.mono (by omega), HG3.out⟩
set_option maxRecDepth 100000 in
set_option maxHeartbeats 4000000 in
theorem pattern_any (sb : Nat) (m : Int) (w : World) (hs : Str w sb m) (hm : m ≤ 1000000000000) :
    Calls Tryz.prog 69 #[.pointer (some ⟨sb, 0, none⟩)] w (Drawn sb (m + 20) (StrBd 300) w) := by
  have hlt := hs.lt
  have HS := Lib.hid hs; clear hs
  go_enter Tryz.func69, Tryz.ntmps69
  go_wp2_with fail
  refine (rightPattern_any sb m _ HS.out (by omega)).mono ?_
  rintro e w1 ⟨v1, rfl, ⟨x, rfl, hx⟩, hs1, hg1⟩
  have HS1 := Lib.hid hs1; have HG1 := Lib.hid hg1; clear hs1 hg1
  go_wp2_with fail
  refine (flip_any sb _ 8 _ HS1.out (by omega) (by omega) (by omega)).mono ?_
  rintro e w2 ⟨v2, rfl, ⟨f2, rfl⟩, hs2, hg2⟩
  have HS2 := Lib.hid hs2; have HG2 := Lib.hid (gr_same HG1.out hg2); clear hs2 hg2
  obtain ⟨wb, rfl⟩ : ∃ wb : World, wb = w2 := ⟨_, rfl⟩
  have z2 := HG2.out.size
  go_upto_if 7 with (fail)
  go_cut [3] (fun v wx => ∃ y : ByteArray, v = .string y ∧ y.size ≤ 64 ∧ Str wx sb (m + 8) ∧ w.grownBy wx (some sb))
  case first =>
    cases f2
    · go_wp2_with fail
      go_meet
      exact ⟨x, rfl, by omega, HS2.out.mono (by omega), HG2.out⟩
    · go_wp2_with fail
      refine (repeat_any ⟨#[49]⟩ 31 31 _ (by omega) (by decide) (by decide)).mono ?_
      rintro e w3 ⟨v3, rfl, ⟨t3, rfl, ht3⟩, hg3⟩
      have HS3 := Lib.hid (HS2.out.grown hg3 (fun g e => by cases e)); have HG3 := Lib.hid (gr_none HG2.out hg3); clear hg3
      go_wp2_with fail
      refine (repeat_any ⟨#[88]⟩ 29 29 _ (by omega) (by decide) (by decide)).mono ?_
      rintro e w4 ⟨v4, rfl, ⟨t4, rfl, ht4⟩, hg4⟩
      have HS4 := Lib.hid (HS3.out.grown hg4 (fun g e => by cases e)); have HG4 := Lib.hid (gr_none HG3.out hg4); clear hg4
      obtain ⟨u4, hu4⟩ : ∃ u4, t4 ++ ⟨#[33]⟩ = u4 := ⟨_, rfl⟩
      have us4 : u4.size ≤ 64 := by rw [← hu4, app_size]; show t4.size + 1 ≤ 64; omega
      go_wp2_with fail
      refine (repeat_any ⟨#[91, 49, 50, 93]⟩ 16 64 _ (by omega) (by decide) (by decide)).mono ?_
      rintro e w5 ⟨v5, rfl, ⟨t5, rfl, ht5⟩, hg5⟩
      have HS5 := Lib.hid (HS4.out.grown hg5 (fun g e => by cases e)); have HG5 := Lib.hid (gr_none HG4.out hg5); clear hg5
      go_wp2_with fail
      refine (some_new (n := 18) sb _ 64 _ HS5.out (by omega) rfl (by
        repeat (first | exact StrsOk.nil _ | refine StrsOk.cons (by first | assumption | omega | decide) ?_)) rfl (by omega) (by omega)).mono ?_
      rintro e w6 ⟨v6, rfl, ⟨y, rfl, hy⟩, hs6, hg6⟩
      have HS6 := Lib.hid hs6; have HG6 := Lib.hid (gr_same HG5.out hg6); clear hs6 hg6
      go_wp2_with fail
      go_meet
      exact ⟨y, rfl, hy, HS6.out.mono (by omega), HG6.out⟩
  case rest =>
    obtain ⟨y, rfl, hy, hsc, hgc⟩ := hcut
    have HSC := Lib.hid hsc; have HGC := Lib.hid hgc; clear hsc hgc
    go_wp2_with fail
    refine (pick_new sb _ [0, 0, 0, 0, 1] _ HSC.out (by omega) (by simp) rfl rfl (by simp) (by simp)).mono ?_
    rintro e w7 ⟨v7, rfl, ⟨r7, hr7, rfl⟩, hs7, hg7⟩
    have HS7 := Lib.hid hs7; have HG7 := Lib.hid (gr_same HGC.out hg7); clear hs7 hg7
    have hr : r7 = 0 ∨ r7 = 1 := by simp at hr7; omega
    obtain ⟨N, rfl⟩ : ∃ N : Nat, r7 = N := ⟨r7.toNat, by omega⟩
    have hN : N ≤ 1 := by omega
    clear hr hr7
    go_wp2_with fail
    go_loopw [3, 18] (fun s t wr => ∃ (i : Nat) (x : ByteArray), i ≤ N ∧ t = .int .i64 i ∧ s = .string x ∧ x.size ≤ 64 + 100 * i ∧ Str wr sb (m + 9 + 3 * i) ∧ w.grownBy wr (some sb)) (fun _ t _ => N - (intOf t).toNat)
    case atStart => exact ⟨0, y, Nat.zero_le _, rfl, rfl, by omega, HS7.out.mono (by omega), HG7.out⟩
    case round =>
      obtain ⟨i, x, hi, rfl, rfl, hx, hs8, hg8⟩ := hrel
      have HS8 := Lib.hid hs8; have HG8 := Lib.hid hg8; clear hs8 hg8
      by_cases hlt : i < N
      · have d1 : decide ((i : Int) < (N : Int)) = true := decide_eq_true (by omega)
        have d1' : decide (i < N) = true := decide_eq_true hlt
        have hi0 : i = 0 := by omega
        have HI0 := Lib.hid hi0; clear hi0
        go_wp2_with fail
        refine (changed_any sb _ x ⟨#[49, 50, 88, 46, 33, 91, 93, 45, 78]⟩ _ HS8.out (by omega) (by omega) (by decide)).mono ?_
        rintro e w9 ⟨v9, rfl, ⟨y9, rfl, hy9⟩, hs9, hg9⟩
        have HS9 := Lib.hid hs9; have HG9 := Lib.hid (gr_same HG8.out hg9); clear hs9 hg9
        have hy9' : y9.size ≤ 2 * x.size + 9 + 4 := hy9
        go_wp2_with fail
        go_roundw
        case rel => exact ⟨i + 1, y9, by omega, by go_num, rfl, by have := HI0.out; omega, HS9.out.mono (by omega), HG9.out⟩
        case measure => simp [intOf]; omega
      · obtain rfl : i = N := by omega
        have d1 : decide ((i : Int) < (i : Int)) = false := decide_eq_false (by omega)
        go_wp2_with fail
        go_ret
        exact ⟨_, rfl, ⟨_, rfl, by omega⟩, HS8.out.mono (by omega), HG8.out⟩
end Go.Proofs.YtpjheibkacbbcaaGreatDoor

/- h10facts is true. Conditions: the table of math/bits. -/
import Derived.Test.YtfakdalpaopjaaaGreatDoorBun4
import Derived.Test.YtfakdalpaopjaaaGreatDoorBun7
import Derived.Test.YtfakdalpaopjaaaGreatDoorBun12
namespace Go.Proofs.YtfakdalpaopjaaaGreatDoor
open Go.RowKit

/-! h10facts. -/
set_option maxHeartbeats 1000000 in
theorem expand128_any (w : World) : Calls Tryz.prog 44 #[.int .u8 128] w (Same (.int .i64 32124) w) := by
  go_enter Tryz.func44, Tryz.ntmps44
  go_wp2
  go_ret
  exact ⟨rfl, rfl⟩
theorem presR_f : presR ⟨⟨#[97]⟩, none, 0, 0, 0, 5, none, 0, 0, 0, [], []⟩ 4 = .tuple #[.bool true, .int .i64 0] := by
  have h : agsE [⟨⟨#[97]⟩, none, 0, 0, 0, 5, none, 0, 0, 0, [], []⟩] = 0 := by decide +kernel
  unfold presR
  rw [if_pos h, if_pos (by decide)]
  have h2 : presB ⟨⟨#[97]⟩, none, 0, 0, 0, 5, none, 0, 0, 0, [], []⟩ 4 = true := by decide
  rw [h2]
set_option maxRecDepth 100000 in
set_option maxHeartbeats 4000000 in
theorem h10_true (w : World) (ht : DbT w) : Calls Tryz.prog 16 #[] w (RetV (.bool true) w) := by
  have HT := Lib.hid ht; clear ht
  have hx : (strN [50, 49]).toList = [50, 49] := by rw [ByteArray.toList_eq]; decide
  go_enter Tryz.func16, Tryz.ntmps16
  go_wp2_with fail
  refine (least_any ⟨#[78, 49]⟩ _ HT.out).mono ?_
  rintro e w1 ⟨rfl, hg1⟩
  rw [leR_n1]
  have HG := Lib.hid hg1; clear hg1
  go_wp2_with fail
  refine (Present_any 0 ⟨⟨#[97]⟩, none, 0, 0, 0, 5, none, 0, 0, 0, [], []⟩ 4 _ ⟨⟨by decide, (fun s hs => by cases hs), Nat.zero_le _, Nat.zero_le _⟩, Recs.nil, Recs.nil⟩).mono ?_
  rintro e w2 ⟨rfl, hg2⟩
  rw [presR_f]
  replace HG := Lib.hid (gr_none HG.out hg2); clear hg2
  go_wp2_with fail
  refine (voicedEnds_any _).mono ?_
  rintro e w3 ⟨rfl, hg3⟩
  replace HG := Lib.hid (gr_none HG.out hg3); clear hg3
  go_wp2_with (first
    | (go_at_call 44; refine (expand128_any _).mono ?_; rintro e w4 ⟨rfl, rfl⟩)
    | fail)
  go_ret
  exact ⟨rfl, HG.out⟩
end Go.Proofs.YtfakdalpaopjaaaGreatDoor

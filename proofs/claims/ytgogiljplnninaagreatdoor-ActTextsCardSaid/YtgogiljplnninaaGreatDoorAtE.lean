/- Contract of the generator of act texts. Conditions: the table of powers of ten, outside the stream's block. -/
import Derived.Test.YtgogiljplnninaaGreatDoorAt6
import Derived.Test.YtgogiljplnninaaGreatDoorAt9
import Derived.Test.YtgogiljplnninaaGreatDoorBun1
namespace Go.Proofs.YtgogiljplnninaaGreatDoor
open Go.RowKit

set_option maxHeartbeats 8000000 in
set_option maxRecDepth 100000 in
theorem actTextG_any (sb : Nat) (m : Int) (w : World) (hs : Str w sb m) (hm : m ≤ 10000000) (hp : PwT w) (hsb : sb ≠ 3) :
    Calls Tryz.prog 22 #[.pointer (some ⟨sb, 0, none⟩)] w (Drawn sb (m + 1300) (StrBd 80000) w) := by
  have hlt := hs.lt
  have HS := Lib.hid hs; have HPW := Lib.hid hp; have HSB := Lib.hid hsb
  have HG := Lib.hid (gr_refl w (some sb))
  clear hs hp hsb
  go_enter Tryz.func22, Tryz.ntmps22
  go_wp2_with fail
  refine (range_any sb _ 0 4 _ (by first | exact HS.out | exact HS.out.alloc _ | exact (HS.out.alloc _).alloc _ | exact ((HS.out.alloc _).alloc _).alloc _ | exact HS.out.drewN _ | exact HS.out.setCell (by simp; omega) _ | exact (HS.out.alloc _).setCell (by simp; omega) _ | exact (HS.out.setCell (by simp; omega) _).alloc _ | exact (HS.out.setCell (by simp; omega) _).drewN _ | exact (HS.out.alloc _).drewN _) (by omega) (by omega) (by omega) (by omega)).mono ?_
  rintro e w0 ⟨v0, rfl, ⟨r0, hlo0, hhi0, rfl⟩, hs0, hg0⟩
  have z0 := hg0.size; try simp at z0
  try replace HZ := Lib.hid (HZ.out.grown hg0 (by simp; omega))
  try replace HP := Lib.hid (HP.out.grown hg0 (by simp; omega))
  try replace HGA := Lib.hid (HGA.out.kept hg0 (fun g e => by injection e with e; omega))
  try replace HY := Lib.hid (Own.kept HY.out hg0 (fun g e e' => by injection e with e; have := (HY.out.lt e').1; omega))
  replace HG := Lib.hid (gr_same (a := w) (by repeat (first | exact HG.out | refine gr_alloc ?_ _ | refine gr_drew ?_ | refine gr_drewN ?_ _ | refine gr_setCell ?_ (.inr (by simp; omega)) _)) hg0); clear hg0
  replace HS := Lib.hid hs0; clear hs0
  replace HPW := Lib.hid (HPW.out.low HG.out fun g e => by injection e with e; rw [← e]; exact HSB.out)
  obtain ⟨q, rfl⟩ : ∃ q : Nat, r0 = q := ⟨r0.toNat, by omega⟩
  go_wp2_with fail
  refine (rightActs_any sb _ q _ HS.out (by omega) (by omega)).mono ?_
  rintro e w1 ⟨v1, rfl, ⟨A, n, c, l, rfl, hrc, hn, hrg⟩, hs1, hg1⟩
  replace HS := Lib.hid hs1
  replace HG := Lib.hid (gr_same (a := w) HG.out hg1)
  replace HPW := Lib.hid (HPW.out.low hg1 fun g e => by injection e with e; rw [← e]; exact HSB.out)
  have z1 := hg1.size
  have HR := Lib.hid hrc; have HRG := Lib.hid hrg
  clear hs1 hg1 hrc hrg
  go_wp2_with fail
  refine (actLines_any _ A n c l _ HR.out (by omega) HRG.out HPW.out).mono ?_
  rintro e w5 ⟨rfl, hg5⟩
  obtain ⟨t0, ht0⟩ : ∃ t : ByteArray, (⟨(acTo l n).toArray⟩ : ByteArray) = t := ⟨_, rfl⟩
  have hsz : t0.size ≤ 16400 := by
    have h1 := acTo_len (l := l) (M := 1000) (fun z hz => ⟨HRG.out z hz, (HR.out.2 z hz).1⟩) n
    rw [← ht0]
    show (acTo l n).toArray.size ≤ _
    rw [List.size_toArray]
    omega
  rw [ht0]
  replace HS := Lib.hid (HS.out.grown hg5 (fun g e => by cases e))
  replace HG := Lib.hid (gr_none HG.out hg5)
  have z5 := hg5.size
  clear hg5 HR HRG ht0 HPW
  go_wp2_with fail
  refine (pick_new sb _ [0, 0, 1, 2] _ (by first | exact HS.out | exact HS.out.alloc _ | exact (HS.out.alloc _).alloc _ | exact ((HS.out.alloc _).alloc _).alloc _ | exact HS.out.drewN _ | exact HS.out.setCell (by simp; omega) _ | exact (HS.out.alloc _).setCell (by simp; omega) _ | exact (HS.out.setCell (by simp; omega) _).alloc _ | exact (HS.out.setCell (by simp; omega) _).drewN _ | exact (HS.out.alloc _).drewN _) (by omega) (by simp) rfl rfl (by simp) (by simp)).mono ?_
  rintro e w6 ⟨v6, rfl, ⟨r6, hr6, rfl⟩, hs6, hg6⟩
  have HR6 := Lib.hid hr6; clear hr6
  have z6 := hg6.size; try simp at z6
  try replace HZ := Lib.hid (HZ.out.grown hg6 (by simp; omega))
  try replace HP := Lib.hid (HP.out.grown hg6 (by simp; omega))
  try replace HGA := Lib.hid (HGA.out.kept hg6 (fun g e => by injection e with e; omega))
  try replace HY := Lib.hid (Own.kept HY.out hg6 (fun g e e' => by injection e with e; have := (HY.out.lt e').1; omega))
  replace HG := Lib.hid (gr_same (a := w) (by repeat (first | exact HG.out | refine gr_alloc ?_ _ | refine gr_drew ?_ | refine gr_drewN ?_ _ | refine gr_setCell ?_ (.inr (by simp; omega)) _)) hg6); clear hg6
  replace HS := Lib.hid hs6; clear hs6
  have hr6 : 0 ≤ r6 ∧ r6 ≤ 2 := by have := HR6.out; simp at this; omega
  obtain ⟨p, rfl⟩ : ∃ q : Nat, r6 = q := ⟨r6.toNat, by omega⟩
  obtain ⟨q0, q2⟩ := hr6
  have zz : w.heap.size ≤ w6.heap.size := by omega
  clear HR6
  go_wp2_with fail
  go_loopw [3, 12] (fun v t wr => ∃ (k : Nat) (s : ByteArray), k ≤ p ∧ t = .int .i64 k ∧ v = .string s ∧ (k = 0 ∧ s.size ≤ 16400 ∨ k = 1 ∧ s.size ≤ 32813 ∨ k = 2 ∧ s.size ≤ 65640) ∧ Str wr sb (m + 1290 + 3 * k) ∧ w.grownBy wr (some sb)) (fun _ t _ => p - (intOf t).toNat)
  case atStart => exact ⟨0, t0, by omega, rfl, rfl, .inl ⟨rfl, hsz⟩, HS.out.mono (by omega), HG.out⟩
  case round =>
    clear HS HG
    obtain ⟨k, s, hk, rfl, rfl, hsz, hs, hg⟩ := hrel
    have HS := Lib.hid hs; have HG := Lib.hid hg
    clear hs hg
    by_cases hlt2 : k < p
    · go_wp2_with fail
      refine (changed_any sb _ s ⟨#[32, 10, 48, 45, 57, 98, 109, 108, 43]⟩ _ (by first | exact HS.out | exact HS.out.alloc _ | exact (HS.out.alloc _).alloc _ | exact ((HS.out.alloc _).alloc _).alloc _ | exact HS.out.drewN _ | exact HS.out.setCell (by simp; omega) _ | exact (HS.out.alloc _).setCell (by simp; omega) _ | exact (HS.out.setCell (by simp; omega) _).alloc _ | exact (HS.out.setCell (by simp; omega) _).drewN _ | exact (HS.out.alloc _).drewN _) (by omega) (by omega) (by decide)).mono ?_
      rintro e w7 ⟨v7, rfl, ⟨s7, rfl, b7⟩, hs7, hg7⟩
      have b8 : s7.size ≤ 2 * s.size + 13 := b7
      go_wp2_with fail
      go_roundw
      case rel => exact ⟨k + 1, s7, by omega, by go_num, rfl, by omega, (Str.mono hs7 (by omega)), gr_same (a := w) (by repeat (first | exact HG.out | refine gr_alloc ?_ _ | refine gr_drew ?_ | refine gr_drewN ?_ _ | refine gr_setCell ?_ (.inr (by simp; omega)) _)) hg7⟩
      case measure => simp [intOf]; omega
    · obtain rfl : k = p := by omega
      go_wp2_with fail
      go_ret
      exact ⟨_, rfl, ⟨s, rfl, by omega⟩, HS.out.mono (by omega), HG.out⟩
end Go.Proofs.YtgogiljplnninaaGreatDoor

/- Contracts of the generators of codecs, nearly always right ones, and of their texts. Conditions: the table of powers of ten, outside the stream's block. -/
import Derived.Test.YtoddgaocochdgaaGreatDoorCd6
namespace Go.Proofs.YtoddgaocochdgaaGreatDoor
open Go.RowKit

set_option maxHeartbeats 8000000 in
set_option maxRecDepth 100000 in
theorem codecs_any (sb : Nat) (m : Int) (w : World) (hs : Str w sb m) (hm : m ≤ 1000000000) : Calls Tryz.prog 7 #[.pointer (some ⟨sb, 0, none⟩)] w (Drawn sb (m + 60) (fun v w' => ∃ A n c l, v = .slice A n c ∧ Cds w' w.heap.size A n c l ∧ CdsR l ∧ n ≤ 5) w) := by
  have hlt := hs.lt
  have HS0 := Lib.hid hs; clear hs
  go_enter Tryz.func7, Tryz.ntmps7
  go_wp2_with fail
  refine (rightCodecs_any sb _ _ HS0.out (by omega)).mono ?_
  rintro e w1 ⟨v1, rfl, ⟨A, n, c, l, rfl, hown, hlr, hn⟩, hs1, hg1⟩
  have HO := Lib.hid hown; have HS := Lib.hid hs1; have HG := Lib.hid hg1; have HLR := Lib.hid hlr
  have z1 := hg1.size
  clear hown hs1 hg1 hlr HS0
  go_wp2_with fail
  refine (flip_any sb _ 10 _ HS.out (by omega) (by omega) (by omega)).mono ?_
  rintro e w2 ⟨v2, rfl, ⟨f2, rfl⟩, hs2, hg2⟩
  have z2 := hg2.size; (try simp at z2)
  replace HO := Lib.hid (HO.out.low hg2 (fun g e => by injection e with e; omega))
  (try replace HN := Lib.hid (HN.out.grown hg2 (by simp; omega)))
  replace HG := Lib.hid (gr_same (a := w) HG.out hg2)
  replace HS := Lib.hid hs2
  clear hs2 hg2
  cases f2
  · go_wp2_with fail
    go_ret
    exact ⟨_, rfl, ⟨A, n, c, l, rfl, ⟨HO.out.recs, HLR.out.ok⟩, HLR.out, by omega⟩, HS.out.mono (by omega), HG.out⟩
  · go_wp2_with fail
    refine (odd_any sb _ 0 127 _ HS.out (by omega) (by omega) (by omega) (by omega)).mono ?_
    rintro e w3 ⟨v3, rfl, ⟨r3, hlo3, hhi3, rfl⟩, hs3, hg3⟩
    have z3 := hg3.size; (try simp at z3)
    replace HO := Lib.hid (HO.out.low hg3 (fun g e => by injection e with e; omega))
    (try replace HN := Lib.hid (HN.out.grown hg3 (by simp; omega)))
    replace HG := Lib.hid (gr_same (a := w) HG.out hg3)
    replace HS := Lib.hid hs3
    clear hs3 hg3
    go_wp2_with fail
    refine (some_new (n := 3) sb _ 2 _ HS.out (by omega) (by simp) (by
      repeat (first | exact StrsOk.nil _ | refine StrsOk.cons (by decide) ?_)) rfl (by omega) (by omega)).mono ?_
    rintro e w4 ⟨v4, rfl, ⟨y4, rfl, hy4⟩, hs4, hg4⟩
    have z4 := hg4.size; (try simp at z4)
    replace HO := Lib.hid (HO.out.low hg4 (fun g e => by injection e with e; omega))
    (try replace HN := Lib.hid (HN.out.grown hg4 (by simp; omega)))
    replace HG := Lib.hid (gr_same (a := w) HG.out hg4)
    replace HS := Lib.hid hs4
    clear hs4 hg4
    go_wp2_with fail
    refine (odd_any sb _ 1000 96000 _ HS.out (by omega) (by omega) (by omega) (by omega)).mono ?_
    rintro e w5 ⟨v5, rfl, ⟨r5, hlo5, hhi5, rfl⟩, hs5, hg5⟩
    have z5 := hg5.size; (try simp at z5)
    replace HO := Lib.hid (HO.out.low hg5 (fun g e => by injection e with e; omega))
    (try replace HN := Lib.hid (HN.out.grown hg5 (by simp; omega)))
    replace HG := Lib.hid (gr_same (a := w) HG.out hg5)
    replace HS := Lib.hid hs5
    clear hs5 hg5
    have HOR := Lib.hid (HLR.out.app (z := ⟨r3, r5, y4⟩) ⟨by show y4.size ≤ _; omega, by show _ ≤ r3; omega, by show r3 ≤ _; omega, by show _ ≤ r5; omega, by show r5 ≤ _; omega⟩)
    go_wp2_with (first
      | (at_builtin
         refine wpl_app _ rfl _ _ Tryz.cdsT rfl w.heap.size A n c _ rfl (by exact HO.out.1.alloc _) _ _ 1 1 [.int .i64 r3, .int .i64 r5, .string y4] rfl (by exact Reads.one _ _ _ _ rfl) (by simp [Value.oneCell']) (by unfold maxLen; omega) (by omega) (by simp; have := HG.out.size; omega) ?_
         intro A5 c5 wy h5
         have H5 := Lib.hid h5; clear h5)
      | fail)
    go_ret
    exact ⟨_, rfl, ⟨A5, n + 1, c5, l ++ [⟨r3, r5, y4⟩], rfl, ⟨((HO.out.alloc _).app rfl H5.out).recs, HOR.out.ok⟩, HOR.out, by omega⟩, ((HS.out.alloc _).grown H5.out.2.1 (fun g e => by have := (HO.out.1.lt e).1; omega)).mono (by omega), H5.out.gr (gr_alloc HG.out _) (HO.out.1.alloc _) (Nat.le_refl _)⟩
theorem cdTo_small {l : List CdV} (h : CdsR l) (k : Nat) : (cdTo l k).size ≤ 49 * k := cdTo_size (M := 4) (fun z hz => ⟨(h z hz).n, (h z hz).1⟩) k
set_option maxHeartbeats 8000000 in
set_option maxRecDepth 100000 in
theorem offerTextG_any (sb : Nat) (m : Int) (w : World) (hs : Str w sb m) (hm : m ≤ 1000000000) (hp : PwT w) (hsb : sb ≠ 2) :
    Calls Tryz.prog 8 #[.pointer (some ⟨sb, 0, none⟩)] w (Drawn sb (m + 60) (StrBd 40000) w) := by
  have hlt := hs.lt
  have HS := Lib.hid hs; have HPW := Lib.hid hp; have HSB := Lib.hid hsb
  have HG := Lib.hid (gr_refl w (some sb))
  clear hs hp hsb
  go_enter Tryz.func8, Tryz.ntmps8
  go_wp2_with fail
  refine (rightCodecs_any sb _ _ HS.out (by omega)).mono ?_
  rintro e w1 ⟨v1, rfl, ⟨A, n, c, l, rfl, hown, hlr, hn⟩, hs1, hg1⟩
  replace HS := Lib.hid hs1
  replace HG := Lib.hid (gr_same HG.out hg1)
  replace HPW := Lib.hid (HPW.out.low hg1 fun g e => by injection e with e; rw [← e]; exact HSB.out)
  have z1 := hg1.size
  have HB := Lib.hid (show Cds w1 w.heap.size A n c l from ⟨hown.recs, hlr.ok⟩)
  have HLR := Lib.hid hlr
  clear hs1 hg1 hown hlr
  go_wp2_with fail
  refine (offerLines_any _ A n c l _ HB.out (by omega) (fun z hz => ⟨(HLR.out z hz).n, by have := (HLR.out z hz).1; omega⟩) HPW.out).mono ?_
  rintro e w5 ⟨rfl, hg5⟩
  obtain ⟨t0, ht0⟩ : ∃ t : ByteArray, cdTo l n = t := ⟨_, rfl⟩
  have hsz : t0.size ≤ 8400 := by
    have := cdTo_small HLR.out n
    rw [← ht0]
    omega
  rw [ht0]
  replace HS := Lib.hid (HS.out.grown hg5 (fun g e => by cases e))
  replace HG := Lib.hid (gr_none HG.out hg5)
  have z5 := hg5.size
  clear hg5 HB HLR ht0 HPW
  go_wp2_with fail
  refine (pick_new sb _ [0, 0, 1, 2] _ (by first | exact HS.out | exact HS.out.alloc _ | exact (HS.out.alloc _).alloc _ | exact ((HS.out.alloc _).alloc _).alloc _ | exact HS.out.drewN _ | exact HS.out.setCell (by simp; omega) _ | exact (HS.out.alloc _).setCell (by simp; omega) _ | exact (HS.out.setCell (by simp; omega) _).alloc _ | exact (HS.out.setCell (by simp; omega) _).drewN _ | exact (HS.out.alloc _).drewN _) (by omega) (by simp) rfl rfl (by simp) (by simp)).mono ?_
  rintro e w6 ⟨v6, rfl, ⟨r6, hr6, rfl⟩, hs6, hg6⟩
  have HR6 := Lib.hid hr6; clear hr6
  have z6 := hg6.size; try simp at z6
  try replace HZ := Lib.hid (HZ.out.grown hg6 (by simp; omega))
  try replace HP := Lib.hid (HP.out.grown hg6 (by simp; omega))
  try replace HGA := Lib.hid (HGA.out.kept hg6 (fun g e => by injection e with e; omega))
  try replace HY := Lib.hid (Own.kept HY.out hg6 (fun g e e' => by injection e with e; have := (HY.out.lt e').1; omega))
  replace HG := Lib.hid (gr_same (a := w) (by repeat (first | exact HG.out | refine gr_alloc ?_ _ | refine gr_drew ?_ | refine gr_drewN ?_ _ | refine gr_setCell ?_ (.inr (by simp; omega)) _)) hg6); clear hg6
  replace HS := Lib.hid hs6; clear hs6
  have hr6 : 0 ≤ r6 ∧ r6 ≤ 2 := by have := HR6.out; simp at this; omega
  obtain ⟨q, rfl⟩ : ∃ q : Nat, r6 = q := ⟨r6.toNat, by omega⟩
  obtain ⟨q0, q2⟩ := hr6
  have zz : w.heap.size ≤ w6.heap.size := by omega
  clear z1 z5 z6 HR6
  go_wp2_with fail
  go_loopw [3, 10] (fun v t wr => ∃ (k : Nat) (s : ByteArray), k ≤ q ∧ t = .int .i64 k ∧ v = .string s ∧ (k = 0 ∧ s.size ≤ 8400 ∨ k = 1 ∧ s.size ≤ 16812 ∨ k = 2 ∧ s.size ≤ 33636) ∧ Str wr sb (m + 50 + 3 * k) ∧ w.grownBy wr (some sb)) (fun _ t _ => q - (intOf t).toNat)
  case atStart => exact ⟨0, t0, by omega, rfl, rfl, .inl ⟨rfl, hsz⟩, HS.out.mono (by omega), HG.out⟩
  case round =>
    clear HS HG
    obtain ⟨k, s, hk, rfl, rfl, hsz, hs, hg⟩ := hrel
    have HS := Lib.hid hs; have HG := Lib.hid hg
    clear hs hg
    by_cases hlt2 : k < q
    · go_wp2_with fail
      refine (changed_any sb _ s ⟨#[32, 10, 48, 45, 57, 109, 117]⟩ _ (by first | exact HS.out | exact HS.out.alloc _ | exact (HS.out.alloc _).alloc _ | exact ((HS.out.alloc _).alloc _).alloc _ | exact HS.out.drewN _ | exact HS.out.setCell (by simp; omega) _ | exact (HS.out.alloc _).setCell (by simp; omega) _ | exact (HS.out.setCell (by simp; omega) _).alloc _ | exact (HS.out.setCell (by simp; omega) _).drewN _ | exact (HS.out.alloc _).drewN _) (by omega) (by omega) (by decide)).mono ?_
      rintro e w7 ⟨v7, rfl, ⟨s7, rfl, b7⟩, hs7, hg7⟩
      have b8 : s7.size ≤ 2 * s.size + 11 := b7
      go_wp2_with fail
      go_roundw
      case rel => exact ⟨k + 1, s7, by omega, by go_num, rfl, by omega, (Str.mono hs7 (by omega)), gr_same (a := w) (by repeat (first | exact HG.out | refine gr_alloc ?_ _ | refine gr_drew ?_ | refine gr_drewN ?_ _ | refine gr_setCell ?_ (.inr (by simp; omega)) _)) hg7⟩
      case measure => simp [intOf]; omega
    · obtain rfl : k = q := by omega
      go_wp2_with fail
      go_ret
      exact ⟨_, rfl, ⟨s, rfl, by omega⟩, HS.out.mono (by omega), HG.out⟩
end Go.Proofs.YtoddgaocochdgaaGreatDoor

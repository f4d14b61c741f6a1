/- Contract of the generator of right callers: their numbers are in bounds. Conditions: none. -/
import Derived.Test.YtnmodobkennklaaGreatDoorGenQue1
namespace Go.Proofs.YtnmodobkennklaaGreatDoor
open Go.RowKit

def IsNCas (lo most : Nat) (v : Value) (w : World) : Prop := ∃ (A : Option Addr) (n c : Nat) (l : List CaV), v = .slice A n c ∧ GCas w lo A n c l ∧ n ≤ most ∧ ∀ a ∈ l, CaN a
set_option maxHeartbeats 4000000 in
set_option maxRecDepth 100000 in
theorem rightCallersN_any (sb : Nat) (m most : Int) (w : World) (hs : Str w sb m) (hm : m ≤ 100000000000) (h0 : 0 ≤ most) (h1 : most ≤ 20) : Calls Tryz.prog 15 #[.pointer (some ⟨sb, 0, none⟩), .int .i64 most] w (Drawn sb (m + 201) (IsNCas w.heap.size most.toNat) w) := by
  have hlt := hs.lt
  have HS := Lib.hid hs; clear hs
  have HG := Lib.hid (gr_refl w (some sb))
  go_enter Tryz.func15, Tryz.ntmps15
  go_wp2_with fail
  refine (range_any sb _ 0 most _ (by first | exact HS.out | exact HS.out.alloc _ | exact (HS.out.alloc _).alloc _ | exact ((HS.out.alloc _).alloc _).alloc _ | exact HS.out.drewN _ | exact HS.out.setCell (by simp; omega) _ | exact (HS.out.alloc _).setCell (by simp; omega) _ | exact (HS.out.setCell (by simp; omega) _).alloc _ | exact (HS.out.setCell (by simp; omega) _).drewN _ | exact (HS.out.alloc _).drewN _) (by omega) (by omega) (by omega) (by omega)).mono ?_
  rintro e w1 ⟨v1, rfl, ⟨r1, hlo1, hhi1, rfl⟩, hs1, hg1⟩
  have z1 := hg1.size; try simp at z1
  try replace HZ := Lib.hid (HZ.out.grown hg1 (by simp; omega))
  try replace HP := Lib.hid (HP.out.grown hg1 (by simp; omega))
  try replace HGA := Lib.hid (HGA.out.kept hg1 (fun g e => by injection e with e; omega))
  try replace HY := Lib.hid (Own.kept HY.out hg1 (fun g e e' => by injection e with e; have := (HY.out.lt e').1; omega))
  replace HG := Lib.hid (gr_same (a := w) (by repeat (first | exact HG.out | refine gr_alloc ?_ _ | refine gr_drew ?_ | refine gr_drewN ?_ _ | refine gr_setCell ?_ (.inr (by simp; omega)) _)) hg1); clear hg1
  replace HS := Lib.hid hs1; clear hs1
  obtain ⟨nn, rfl⟩ : ∃ nn : Nat, r1 = nn := ⟨r1.toNat, by omega⟩
  go_wp2_with fail
  go_loopw [5, 6, 7, 11] (fun v u _ t wr => ∃ (k : Nat) (A : Option Addr) (c : Nat) (l : List CaV) (at_ : Int), k ≤ nn ∧ t = .int .i64 k ∧ v = .slice A k c ∧ u = .int .i64 at_ ∧ Str wr sb (m + 1 + 10 * k) ∧ w.grownBy wr (some sb) ∧ GCas wr w.heap.size A k c l ∧ (0 ≤ at_ ∧ at_ ≤ 10 * (k : Int)) ∧ ∀ a ∈ l, CaN a) (fun _ _ _ t _ => nn - (intOf t).toNat)
  case atStart => exact ⟨0, none, 0, [], 0, Nat.zero_le _, rfl, rfl, rfl, HS.out.mono (by omega), HG.out, ⟨OwnR.nil _ _ _, fun a ha => by cases ha⟩, ⟨by omega, by omega⟩, fun a ha => by cases ha⟩
  case round =>
    clear HS HG
    obtain ⟨k, A, c, l, at_, hk, rfl, rfl, rfl, hs, hg, hga, hat, hcn⟩ := hrel
    have HCN := Lib.hid hcn
    have HS := Lib.hid hs; have HG := Lib.hid hg; have HGA := Lib.hid hga
    have zr := hg.size
    clear hs hg hga hcn
    by_cases hlt2 : k < nn
    · have hkn : decide (k < nn) = true := decide_eq_true hlt2
      go_wp2_with fail
      refine (pick_new sb _ [0, 0, 1, 3, 10] _ (by first | exact HS.out | exact HS.out.alloc _ | exact (HS.out.alloc _).alloc _ | exact ((HS.out.alloc _).alloc _).alloc _ | exact HS.out.drewN _ | exact HS.out.setCell (by simp; omega) _ | exact (HS.out.alloc _).setCell (by simp; omega) _ | exact (HS.out.setCell (by simp; omega) _).alloc _ | exact (HS.out.setCell (by simp; omega) _).drewN _ | exact (HS.out.alloc _).drewN _) (by omega) (by simp) rfl rfl (by simp) (by simp)).mono ?_
      rintro e w2 ⟨v2, rfl, ⟨r2, hr2, rfl⟩, hs2, hg2⟩
      have hb2 : 0 ≤ r2 ∧ r2 ≤ 10 := by simp only [List.mem_cons, List.not_mem_nil, or_false] at hr2; omega
      clear hr2
      replace HGA := Lib.hid (HGA.out.low hg2 (fun g e => by injection e with e; omega))
      have z2 := hg2.size; try simp at z2
      replace HG := Lib.hid (gr_same (a := w) (by repeat (first | exact HG.out | refine gr_alloc ?_ _ | refine gr_drew ?_ | refine gr_drewN ?_ _ | refine gr_setCell ?_ (.inr (by simp; omega)) _)) hg2); clear hg2
      replace HS := Lib.hid hs2; clear hs2
      have hk20 : k ≤ 20 := by omega
      have qat : IntKind.i64.wrap (at_ + r2) = at_ + r2 := IntWalk.i64_in _ (by omega)
      obtain ⟨cc, hcc⟩ : ∃ cc : ByteArray, (⟨#[99]⟩ : ByteArray) = cc := ⟨_, rfl⟩
      have hccs : cc.size ≤ 1 := by rw [← hcc]; decide
      obtain ⟨en, hen⟩ : ∃ en, Utf8.encode (97 + (k : Int)) = en := ⟨_, rfl⟩
      have hens : en.size ≤ 4 := by rw [← hen]; exact encS _
      have a1 : ¬ 9223372036854775807 < cc.size + en.size := by omega
      obtain ⟨id, hid⟩ : ∃ id, cc ++ en = id := ⟨_, rfl⟩
      have hids : id.size ≤ 5 := by rw [← hid, appS]; omega
      go_wp2_with fail
      refine (some_new (n := 3) sb _ 4 _ (by first | exact HS.out | exact HS.out.alloc _ | exact (HS.out.alloc _).alloc _ | exact ((HS.out.alloc _).alloc _).alloc _ | exact HS.out.drewN _ | exact HS.out.setCell (by simp; omega) _ | exact (HS.out.alloc _).setCell (by simp; omega) _ | exact (HS.out.setCell (by simp; omega) _).alloc _ | exact (HS.out.setCell (by simp; omega) _).drewN _ | exact (HS.out.alloc _).drewN _) (by omega) (by simp) (by
        repeat (first | exact StrsOk.nil _ | refine StrsOk.cons (by decide) ?_)) rfl (by omega) (by omega)).mono ?_
      rintro e w3 ⟨v3, rfl, ⟨y3, rfl, hy3⟩, hs3, hg3⟩
      replace HGA := Lib.hid (HGA.out.low hg3 (fun g e => by injection e with e; omega))
      have z3 := hg3.size; try simp at z3
      replace HG := Lib.hid (gr_same (a := w) (by repeat (first | exact HG.out | refine gr_alloc ?_ _ | refine gr_drew ?_ | refine gr_drewN ?_ _ | refine gr_setCell ?_ (.inr (by simp; omega)) _)) hg3); clear hg3
      replace HS := Lib.hid hs3; clear hs3
      clear hcc hen hid
      go_wp2_with fail
      refine (pick_new sb _ [1, 1, 2] _ (by first | exact HS.out | exact HS.out.alloc _ | exact (HS.out.alloc _).alloc _ | exact ((HS.out.alloc _).alloc _).alloc _ | exact HS.out.drewN _ | exact HS.out.setCell (by simp; omega) _ | exact (HS.out.alloc _).setCell (by simp; omega) _ | exact (HS.out.setCell (by simp; omega) _).alloc _ | exact (HS.out.setCell (by simp; omega) _).drewN _ | exact (HS.out.alloc _).drewN _) (by omega) (by simp) rfl rfl (by simp) (by simp)).mono ?_
      rintro e w4 ⟨v4, rfl, ⟨r4, hr4, rfl⟩, hs4, hg4⟩
      clear hr4
      replace HGA := Lib.hid (HGA.out.low hg4 (fun g e => by injection e with e; omega))
      have z4 := hg4.size; try simp at z4
      replace HG := Lib.hid (gr_same (a := w) (by repeat (first | exact HG.out | refine gr_alloc ?_ _ | refine gr_drew ?_ | refine gr_drewN ?_ _ | refine gr_setCell ?_ (.inr (by simp; omega)) _)) hg4); clear hg4
      replace HS := Lib.hid hs4; clear hs4
      go_wp2_with fail
      refine (pick_new sb _ [0, 0, 0, 1, 5] _ (by first | exact HS.out | exact HS.out.alloc _ | exact (HS.out.alloc _).alloc _ | exact ((HS.out.alloc _).alloc _).alloc _ | exact HS.out.drewN _ | exact HS.out.setCell (by simp; omega) _ | exact (HS.out.alloc _).setCell (by simp; omega) _ | exact (HS.out.setCell (by simp; omega) _).alloc _ | exact (HS.out.setCell (by simp; omega) _).drewN _ | exact (HS.out.alloc _).drewN _) (by omega) (by simp) rfl rfl (by simp) (by simp)).mono ?_
      rintro e w5 ⟨v5, rfl, ⟨r5, hr5, rfl⟩, hs5, hg5⟩
      have hb5 : 0 ≤ r5 ∧ r5 ≤ 5 := by simp only [List.mem_cons, List.not_mem_nil, or_false] at hr5; omega
      clear hr5
      replace HGA := Lib.hid (HGA.out.low hg5 (fun g e => by injection e with e; omega))
      have z5 := hg5.size; try simp at z5
      replace HG := Lib.hid (gr_same (a := w) (by repeat (first | exact HG.out | refine gr_alloc ?_ _ | refine gr_drew ?_ | refine gr_drewN ?_ _ | refine gr_setCell ?_ (.inr (by simp; omega)) _)) hg5); clear hg5
      replace HS := Lib.hid hs5; clear hs5
      go_wp2_with fail
      refine (pick_new sb _ [0, 5, 20, 100] _ (by first | exact HS.out | exact HS.out.alloc _ | exact (HS.out.alloc _).alloc _ | exact ((HS.out.alloc _).alloc _).alloc _ | exact HS.out.drewN _ | exact HS.out.setCell (by simp; omega) _ | exact (HS.out.alloc _).setCell (by simp; omega) _ | exact (HS.out.setCell (by simp; omega) _).alloc _ | exact (HS.out.setCell (by simp; omega) _).drewN _ | exact (HS.out.alloc _).drewN _) (by omega) (by simp) rfl rfl (by simp) (by simp)).mono ?_
      rintro e w6 ⟨v6, rfl, ⟨r6, hr6, rfl⟩, hs6, hg6⟩
      have hb6 : 0 ≤ r6 ∧ r6 ≤ 100 := by simp only [List.mem_cons, List.not_mem_nil, or_false] at hr6; omega
      clear hr6
      replace HGA := Lib.hid (HGA.out.low hg6 (fun g e => by injection e with e; omega))
      have z6 := hg6.size; try simp at z6
      replace HG := Lib.hid (gr_same (a := w) (by repeat (first | exact HG.out | refine gr_alloc ?_ _ | refine gr_drew ?_ | refine gr_drewN ?_ _ | refine gr_setCell ?_ (.inr (by simp; omega)) _)) hg6); clear hg6
      replace HS := Lib.hid hs6; clear hs6
      go_wp2_with fail
      refine (pick_new sb _ [1, 5, 10, 30] _ (by first | exact HS.out | exact HS.out.alloc _ | exact (HS.out.alloc _).alloc _ | exact ((HS.out.alloc _).alloc _).alloc _ | exact HS.out.drewN _ | exact HS.out.setCell (by simp; omega) _ | exact (HS.out.alloc _).setCell (by simp; omega) _ | exact (HS.out.setCell (by simp; omega) _).alloc _ | exact (HS.out.setCell (by simp; omega) _).drewN _ | exact (HS.out.alloc _).drewN _) (by omega) (by simp) rfl rfl (by simp) (by simp)).mono ?_
      rintro e w7 ⟨v7, rfl, ⟨r7, hr7, rfl⟩, hs7, hg7⟩
      have hb7 : 1 ≤ r7 ∧ r7 ≤ 30 := by simp only [List.mem_cons, List.not_mem_nil, or_false] at hr7; omega
      clear hr7
      replace HGA := Lib.hid (HGA.out.low hg7 (fun g e => by injection e with e; omega))
      have z7 := hg7.size; try simp at z7
      replace HG := Lib.hid (gr_same (a := w) (by repeat (first | exact HG.out | refine gr_alloc ?_ _ | refine gr_drew ?_ | refine gr_drewN ?_ _ | refine gr_setCell ?_ (.inr (by simp; omega)) _)) hg7); clear hg7
      replace HS := Lib.hid hs7; clear hs7
      go_wp2_with fail
      refine (flip_any sb _ 4 _ (by first | exact HS.out | exact HS.out.alloc _ | exact (HS.out.alloc _).alloc _ | exact ((HS.out.alloc _).alloc _).alloc _ | exact HS.out.drewN _ | exact HS.out.setCell (by simp; omega) _ | exact (HS.out.alloc _).setCell (by simp; omega) _ | exact (HS.out.setCell (by simp; omega) _).alloc _ | exact (HS.out.setCell (by simp; omega) _).drewN _ | exact (HS.out.alloc _).drewN _) (by omega) (by omega) (by omega)).mono ?_
      rintro e w8 ⟨v8, rfl, ⟨f8, rfl⟩, hs8, hg8⟩
      replace HGA := Lib.hid (HGA.out.low hg8 (fun g e => by injection e with e; omega))
      have z8 := hg8.size; try simp at z8
      replace HG := Lib.hid (gr_same (a := w) (by repeat (first | exact HG.out | refine gr_alloc ?_ _ | refine gr_drew ?_ | refine gr_drewN ?_ _ | refine gr_setCell ?_ (.inr (by simp; omega)) _)) hg8); clear hg8
      replace HS := Lib.hid hs8; clear hs8
      go_wp2_with (first
        | (at_builtin
           refine wpl_app _ rfl _ _ Tryz.casT rfl w.heap.size A k c _ rfl (by exact HGA.out.1.1.alloc _) _ _ 1 1 [.string id, .string y3, .int .i64 _, .int .i64 r4, .int .i64 r5, .int .i64 r6, .int .i64 r7, .bool f8] rfl (by exact Reads.one _ _ _ _ rfl) (by simp [Value.oneCell']) (by unfold maxLen; omega) (by omega) (by simp; omega) ?_
           intro A9 c9 w9 h9
           have H9 := Lib.hid h9; clear h9)
        | fail)
      go_roundw
      case rel =>
        refine ⟨k + 1, A9, c9, l ++ [⟨id, y3, at_ + r2, r4, r5, r6, r7, f8⟩], at_ + r2, by omega, by go_num, rfl, rfl, ((HS.out.alloc _).grown H9.out.2.1 (fun g e => by have := (HGA.out.1.1.lt e).1; omega)).mono (by omega), H9.out.gr (gr_alloc HG.out _) (HGA.out.1.1.alloc _) (Nat.le_refl _), ⟨(HGA.out.1.alloc _).app rfl H9.out, fun a ha => ?_⟩, ⟨by omega, by omega⟩, fun a ha => ?_⟩
        · rcases List.mem_append.1 ha with ha | ha
          · exact HGA.out.2 a ha
          · rw [List.mem_singleton.1 ha]; exact ⟨by dsimp only; omega, by dsimp only; omega⟩
        · rcases List.mem_append.1 ha with ha | ha
          · exact HCN.out a ha
          · rw [List.mem_singleton.1 ha]; unfold CaN; dsimp only; omega
      case measure => simp [intOf]; omega
    · obtain rfl : k = nn := by omega
      go_wp2_with fail
      go_ret
      exact ⟨_, rfl, ⟨A, k, c, l, rfl, HGA.out, by omega, HCN.out⟩, HS.out.mono (by omega), HG.out⟩
end Go.Proofs.YtnmodobkennklaaGreatDoor

/- Contracts of the generators Hours and Moment. Conditions: none. -/
import Derived.Test.YtpjheibkacbbcaaGreatDoorGenHou1
import Derived.Test.YtpjheibkacbbcaaGreatDoorHou3
namespace Go.Proofs.YtpjheibkacbbcaaGreatDoor
open Go.RowKit

set_option maxHeartbeats 8000000 in
set_option maxRecDepth 100000 in
theorem hours_any (sb : Nat) (m : Int) (w : World) (hs : Str w sb m) (hm : m ≤ 10000000000) : Calls Tryz.prog 73 #[.pointer (some ⟨sb, 0, none⟩)] w (Drawn sb (m + 150) (IsHrs w.heap.size 2) w) := by
  have hlt := hs.lt
  have HS := Lib.hid hs; clear hs
  have HG := Lib.hid (gr_refl w (some sb))
  go_enter Tryz.func73, Tryz.ntmps73
  go_wp2_with fail
  refine (rightHours_any sb _ _ (by first | exact HS.out | exact HS.out.alloc _ | exact (HS.out.alloc _).alloc _ | exact ((HS.out.alloc _).alloc _).alloc _ | exact HS.out.drewN _ | exact HS.out.setCell (by simp; omega) _ | exact (HS.out.alloc _).setCell (by simp; omega) _ | exact (HS.out.setCell (by simp; omega) _).alloc _ | exact (HS.out.setCell (by simp; omega) _).drewN _ | exact (HS.out.alloc _).drewN _) (by omega)).mono ?_
  rintro e w1 ⟨v1, rfl, ⟨A, c, l, rfl, hga, hlb⟩, hs1, hg1⟩
  have HGA := Lib.hid hga; have HLB := Lib.hid hlb; clear hga hlb
  have z1 := hg1.size
  replace HG := Lib.hid (gr_same HG.out hg1); clear hg1
  replace HS := Lib.hid hs1; clear hs1
  go_wp2_with fail
  refine (flip_any sb _ 10 _ (by first | exact HS.out | exact HS.out.alloc _ | exact (HS.out.alloc _).alloc _ | exact ((HS.out.alloc _).alloc _).alloc _ | exact HS.out.drewN _ | exact HS.out.setCell (by simp; omega) _ | exact (HS.out.alloc _).setCell (by simp; omega) _ | exact (HS.out.setCell (by simp; omega) _).alloc _ | exact (HS.out.setCell (by simp; omega) _).drewN _ | exact (HS.out.alloc _).drewN _) (by omega) (by omega) (by omega)).mono ?_
  rintro e w2 ⟨v2, rfl, ⟨f2, rfl⟩, hs2, hg2⟩
  replace HGA := Lib.hid (HGA.out.low hg2 (fun g e => by injection e with e; omega))
  have z2 := hg2.size; try simp at z2
  replace HG := Lib.hid (gr_same (a := w) (by repeat (first | exact HG.out | refine gr_alloc ?_ _ | refine gr_drew ?_ | refine gr_drewN ?_ _ | refine gr_setCell ?_ (.inr (by simp; omega)) _)) hg2); clear hg2
  replace HS := Lib.hid hs2; clear hs2
  cases f2
  · go_wp2_with fail
    go_ret
    exact ⟨_, rfl, ⟨A, c, l, rfl, HGA.out.hrs⟩, HS.out.mono (by omega), HG.out⟩
  · obtain ⟨g, rfl, hgl, hgs⟩ := HGA.out.1.1.pos (by omega)
    go_wp2_with fail
    refine (next_any sb _ 2 _ (by first | exact HS.out | exact HS.out.alloc _ | exact (HS.out.alloc _).alloc _ | exact ((HS.out.alloc _).alloc _).alloc _ | exact HS.out.drewN _ | exact HS.out.setCell (by simp; omega) _ | exact (HS.out.alloc _).setCell (by simp; omega) _ | exact (HS.out.setCell (by simp; omega) _).alloc _ | exact (HS.out.setCell (by simp; omega) _).drewN _ | exact (HS.out.alloc _).drewN _) (by omega) (by omega) (by omega)).mono ?_
    rintro e w3 ⟨v3, rfl, ⟨r3, hlo3, hhi3, rfl⟩, hs3, hg3⟩
    replace HGA := Lib.hid (HGA.out.low hg3 (fun g e => by injection e with e; omega))
    have z3 := hg3.size; try simp at z3
    replace HG := Lib.hid (gr_same (a := w) (by repeat (first | exact HG.out | refine gr_alloc ?_ _ | refine gr_drew ?_ | refine gr_drewN ?_ _ | refine gr_setCell ?_ (.inr (by simp; omega)) _)) hg3); clear hg3
    replace HS := Lib.hid hs3; clear hs3
    obtain ⟨i, rfl⟩ : ∃ i : Nat, r3 = i := ⟨r3.toNat, by omega⟩
    have hin : i < 2 := by omega
    have hin' : (i : Int) < 2 := by omega
    obtain ⟨x, hx⟩ : ∃ x, l[i]? = some x := ⟨_, List.getElem?_eq_getElem (by rw [HGA.out.1.2]; exact hin)⟩
    obtain ⟨o1, o2⟩ := HLB.out x (mem_of_get hx)
    obtain ⟨b1, b2, b3⟩ := (HGA.out.2.1 x (mem_of_get hx)).1
    have HX := Lib.hid hx; clear hx
    go_wp2_with fail
    refine (next_any sb _ 4 _ (by first | exact HS.out | exact HS.out.alloc _ | exact (HS.out.alloc _).alloc _ | exact ((HS.out.alloc _).alloc _).alloc _ | exact HS.out.drewN _ | exact HS.out.setCell (by simp; omega) _ | exact (HS.out.alloc _).setCell (by simp; omega) _ | exact (HS.out.setCell (by simp; omega) _).alloc _ | exact (HS.out.setCell (by simp; omega) _).drewN _ | exact (HS.out.alloc _).drewN _) (by omega) (by omega) (by omega)).mono ?_
    rintro e w4 ⟨v4, rfl, ⟨r4, hlo4, hhi4, rfl⟩, hs4, hg4⟩
    replace HGA := Lib.hid (HGA.out.low hg4 (fun g e => by injection e with e; omega))
    have z4 := hg4.size; try simp at z4
    replace HG := Lib.hid (gr_same (a := w) (by repeat (first | exact HG.out | refine gr_alloc ?_ _ | refine gr_drew ?_ | refine gr_drewN ?_ _ | refine gr_setCell ?_ (.inr (by simp; omega)) _)) hg4); clear hg4
    replace HS := Lib.hid hs4; clear hs4
    have hgs4 : g < w4.heap.size := by omega
    rcases (by omega : r4 = 0 ∨ r4 = 1 ∨ r4 = 2 ∨ r4 = 3) with rfl | rfl | rfl | rfl
    · go_wp2_with fail
      refine (some_new (n := 3) sb _ 2 _ (by first | exact HS.out | exact HS.out.alloc _ | exact (HS.out.alloc _).alloc _ | exact ((HS.out.alloc _).alloc _).alloc _ | exact HS.out.drewN _ | exact HS.out.setCell (by simp; omega) _ | exact (HS.out.alloc _).setCell (by simp; omega) _ | exact (HS.out.setCell (by simp; omega) _).alloc _ | exact (HS.out.setCell (by simp; omega) _).drewN _ | exact (HS.out.alloc _).drewN _) (by omega) (by simp) (by
        repeat (first | exact StrsOk.nil _ | refine StrsOk.cons (by decide) ?_)) rfl (by omega) (by omega)).mono ?_
      rintro e w5 ⟨v5, rfl, ⟨y5, rfl, hy5⟩, hs5, hg5⟩
      replace HGA := Lib.hid (HGA.out.low hg5 (fun g e => by injection e with e; omega))
      have z5 := hg5.size; try simp at z5
      replace HG := Lib.hid (gr_same (a := w) (by repeat (first | exact HG.out | refine gr_alloc ?_ _ | refine gr_drew ?_ | refine gr_drewN ?_ _ | refine gr_setCell ?_ (.inr (by simp; omega)) _)) hg5); clear hg5
      replace HS := Lib.hid hs5; clear hs5
      have cX := HGA.out.1.recs.at_ HrV.row_len HX.out 0 _ rfl
      have fX := HGA.out.1.1.frozen (i * 4 + 0)
      simp only [Nat.zero_add, Nat.add_zero] at cX fX
      go_wp2_with fail
      go_ret
      exact ⟨_, rfl, ⟨_, c, _, rfl, (HGA.out.set1 (j := 0) HX.out (a' := { x with key := y5 }) (by omega) rfl ⟨Nat.le_trans hy5 (by decide), b2, b3⟩ ⟨rfl, rfl, rfl, rfl, rfl, rfl, rfl, rfl⟩ (by omega)).hrs⟩, (HS.out.setCell (by simp; omega) _).mono (by omega), gr_setCell HG.out (.inr (by simp; omega)) _⟩
    · go_wp2_with fail
      refine (odd_any sb _ (-1440) 1440 _ (by first | exact HS.out | exact HS.out.alloc _ | exact (HS.out.alloc _).alloc _ | exact ((HS.out.alloc _).alloc _).alloc _ | exact HS.out.drewN _ | exact HS.out.setCell (by simp; omega) _ | exact (HS.out.alloc _).setCell (by simp; omega) _ | exact (HS.out.setCell (by simp; omega) _).alloc _ | exact (HS.out.setCell (by simp; omega) _).drewN _ | exact (HS.out.alloc _).drewN _) (by omega) (by omega) (by omega) (by omega)).mono ?_
      rintro e w5 ⟨v5, rfl, ⟨r5, hlo5, hhi5, rfl⟩, hs5, hg5⟩
      replace HGA := Lib.hid (HGA.out.low hg5 (fun g e => by injection e with e; omega))
      have z5 := hg5.size; try simp at z5
      replace HG := Lib.hid (gr_same (a := w) (by repeat (first | exact HG.out | refine gr_alloc ?_ _ | refine gr_drew ?_ | refine gr_drewN ?_ _ | refine gr_setCell ?_ (.inr (by simp; omega)) _)) hg5); clear hg5
      replace HS := Lib.hid hs5; clear hs5
      have cX := HGA.out.1.recs.at_ HrV.row_len HX.out 1 _ rfl
      have fX := HGA.out.1.1.frozen (i * 4 + 1)
      simp only [Nat.zero_add, Nat.add_zero] at cX fX
      go_wp2_with fail
      go_ret
      exact ⟨_, rfl, ⟨_, c, _, rfl, (HGA.out.set1 (j := 1) HX.out (a' := { x with zone := r5 }) (by omega) rfl ⟨b1, b2, b3⟩ ⟨rfl, rfl, rfl, rfl, rfl, rfl, rfl, rfl⟩ (by omega)).hrs⟩, (HS.out.setCell (by simp; omega) _).mono (by omega), gr_setCell HG.out (.inr (by simp; omega)) _⟩
    · have cX := HGA.out.1.recs.at_ HrV.row_len HX.out 2 _ rfl
      have fX := HGA.out.1.1.frozen (i * 4 + 2)
      simp only [Nat.zero_add, Nat.add_zero] at cX fX
      go_wp2_with fail
      refine wp_region_lex (fun w' => w'.cell? ⟨g, i * 4 + 2, none⟩ = some (.slice x.rA x.rn x.rc)) [0, 1, 2, 3, 4, 5, 7, 9, 6, 8, 10, 11, 12, 13, 14, 15, 16] (by kernel_rfl) (by kernel_rfl) ?_
      have hHeld : w4.drew.cell? ⟨g, i * 4 + 2, none⟩ = some (.slice x.rA x.rn x.rc) := cX
      repeat (
        refine lex_take (v := ?_) (by rfl) (by rfl) (by exact fun _ _ _ h => h) (by rfl) ?_ (by assumption) ?_
        rotate_left 1
        · intro w hSw
          (try dsimp only at hSw)
          go_simp
          (try with_reducible rfl)
        (try simp only [Act.put, List.setIfInBounds_toArray, List.set_cons_zero, List.set_cons_succ]))
      refine lex_run (by rfl) (by rfl) (by rfl) (fun K hK => ?_)
      go_simp
      (with_reducible refine (odd_any sb _ 1 127 _ HS.out.drew (by omega) (by omega) (by omega) (by omega)).mono ?_)
      rintro e w5 ⟨v5, rfl, ⟨r5, hlo5, hhi5, rfl⟩, hs5, hg5⟩
      replace hg5 : w4.grownBy w5 (some sb) := gr_same (gr_drew (gr_refl _ _)) hg5
      have HGA5 := Lib.hid (HGA.out.low hg5 (fun g e => by injection e with e; omega))
      have HG5 := Lib.hid (gr_same HG.out hg5)
      have HS5 := Lib.hid hs5
      have z5 := hg5.size
      have hgs5 : g < w5.heap.size := by omega
      clear hs5 hg5
      go_simp
      refine hK _ _ (.inr (by have h := (HGA5.out.1.recs.at_ HrV.row_len HX.out 2 _ rfl); simpa using h)) ?_
      clear hK K hHeld
      have hHeld := (HGA5.out.1.recs.at_ HrV.row_len HX.out 2 _ rfl)
      (try simp only [Nat.zero_add] at hHeld)
      repeat (
        refine lex_take (v := ?_) (by rfl) (by rfl) (by exact fun _ _ _ h => h) (by rfl) ?_ (by assumption) ?_
        rotate_left 1
        · intro w hSw
          (try dsimp only at hSw)
          go_simp
          (try with_reducible rfl)
        (try simp only [Act.put, List.setIfInBounds_toArray, List.set_cons_zero, List.set_cons_succ]))
      refine lex_run (by rfl) (by rfl) (by rfl) (fun K hK => ?_)
      go_simp
      (with_reducible refine (odd_any sb _ 0 1440 _ HS5.out (by omega) (by omega) (by omega) (by omega)).mono ?_)
      rintro e w6 ⟨v6, rfl, ⟨r6, hlo6, hhi6, rfl⟩, hs6, hg6⟩
      have HGA6 := Lib.hid (HGA5.out.low hg6 (fun g e => by injection e with e; omega))
      have HG6 := Lib.hid (gr_same HG5.out hg6)
      have HS6 := Lib.hid hs6
      have z6 := hg6.size
      have hgs6 : g < w6.heap.size := by omega
      clear hs6 hg6
      go_simp
      refine hK _ _ (.inr (by have h := (HGA6.out.1.recs.at_ HrV.row_len HX.out 2 _ rfl); simpa using h)) ?_
      clear hK K hHeld
      have hHeld := (HGA6.out.1.recs.at_ HrV.row_len HX.out 2 _ rfl)
      (try simp only [Nat.zero_add] at hHeld)
      repeat (
        refine lex_take (v := ?_) (by rfl) (by rfl) (by exact fun _ _ _ h => h) (by rfl) ?_ (by assumption) ?_
        rotate_left 1
        · intro w hSw
          (try dsimp only at hSw)
          go_simp
          (try with_reducible rfl)
        (try simp only [Act.put, List.setIfInBounds_toArray, List.set_cons_zero, List.set_cons_succ]))
      refine lex_run (by rfl) (by rfl) (by rfl) (fun K hK => ?_)
      go_simp
      (with_reducible refine (odd_any sb _ 0 1440 _ HS6.out (by omega) (by omega) (by omega) (by omega)).mono ?_)
      rintro e w7 ⟨v7, rfl, ⟨r7, hlo7, hhi7, rfl⟩, hs7, hg7⟩
      have HGA7 := Lib.hid (HGA6.out.low hg7 (fun g e => by injection e with e; omega))
      have HG7 := Lib.hid (gr_same HG6.out hg7)
      have HS7 := Lib.hid hs7
      have z7 := hg7.size
      have hgs7 : g < w7.heap.size := by omega
      clear hs7 hg7
      go_simp
      have HO7 := Lib.hid (HGA7.out.2.1 x (mem_of_get HX.out)).2.1.1
      refine hK _ _ (.inr (by have h := (HGA7.out.1.recs.at_ HrV.row_len HX.out 2 _ rfl); simpa using h)) ?_
      clear hK K hHeld
      have hHeld := (HGA7.out.1.recs.at_ HrV.row_len HX.out 2 _ rfl)
      (try simp only [Nat.zero_add] at hHeld)
      repeat (
        refine lex_take (v := ?_) (by rfl) (by rfl) (by exact fun _ _ _ h => h) (by rfl) ?_ (by assumption) ?_
        rotate_left 1
        · intro w hSw
          (try dsimp only at hSw)
          go_simp
          (try with_reducible rfl)
        (try simp only [Act.put, List.setIfInBounds_toArray, List.set_cons_zero, List.set_cons_succ]))
      refine lex_run (by rfl) (by rfl) (by rfl) (fun K hK => ?_)
      go_simp
      refine hK _ _ (.inr (by go_keep)) ?_
      clear hK K hHeld
      have hHeld : (w7.alloc (.cells #[.int .i64 r5, .int .i64 r6, .int .i64 r7] 159)).cell? ⟨g, i * 4 + 2, none⟩ = some (.slice x.rA x.rn x.rc) := by have h := (HGA7.out.1.alloc (.cells #[.int .i64 r5, .int .i64 r6, .int .i64 r7] 159)).recs.at_ HrV.row_len HX.out 2 _ rfl; simpa using h
      refine lex_run (by rfl) (by rfl) (by rfl) (fun K hK => ?_)
      refine wp_app _ _ _ Tryz.rwsT (by rfl) w.heap.size x.rA x.rn x.rc (x.rows.flatMap r3Row) (by rfl) (by exact HO7.out.alloc _) _ _ 1 1 [.int .i64 r5, .int .i64 r6, .int .i64 r7] (by rfl) (by exact Reads.one _ _ _ _ rfl) (by simp [Value.oneCell']) (by unfold maxLen; omega) (by omega) (by simp; omega) ?_
      intro A1 c1 w8 h8
      have hm8 := (HGA7.out.1.alloc (.cells #[.int .i64 r5, .int .i64 r6, .int .i64 r7] 159)).kept h8.2.1 (fun g' e => Own.ne HO7.out HGA7.out.1.1 (by decide) e)
      have c8 := hm8.recs.at_ HrV.row_len HX.out 2 _ rfl
      have f8 := hm8.1.frozen (i * 4 + 2)
      simp only [Nat.zero_add] at c8 f8
      have H8 := Lib.hid h8
      clear h8 hm8
      refine hK _ _ (.inr c8) ?_
      clear hK K hHeld
      have hHeld := c8
      repeat (
        refine lex_take (v := ?_) (by rfl) (by rfl) (by exact fun _ _ _ h => h) (by rfl) ?_ (by assumption) ?_
        rotate_left 1
        · intro w hSw
          (try dsimp only at hSw)
          go_simp
          (try with_reducible rfl)
        (try simp only [Act.put, List.setIfInBounds_toArray, List.set_cons_zero, List.set_cons_succ]))
      refine lex_run (by rfl) (by rfl) (by rfl) (fun K hK => ?_)
      go_simp
      refine hK _ _ (.inl (by rfl)) ?_
      clear hK K hHeld
      refine lex_end ?_
      all_goals
        go_wp2_with fail
        go_ret
        exact ⟨_, rfl, ⟨_, c, _, rfl, GHrs.rows (HGA7.out.low (gr_alloc (gr_refl _ none) _) (fun g e => by cases e)) HX.out (s := (r5, r6, r7)) rfl (by omega) H8.out (by omega)⟩, ((((HS7.out.alloc _).grown H8.out.2.1 (fun g e => by have := (HO7.out.lt e).1; omega)).setCell (by simp; omega) _).mono (by omega)), gr_setCell (H8.out.gr (gr_alloc HG7.out _) (HO7.out.alloc _) (Nat.le_refl _)) (.inr (by simp; omega)) _⟩
    · have cX := HGA.out.1.recs.at_ HrV.row_len HX.out 3 _ rfl
      have fX := HGA.out.1.1.frozen (i * 4 + 3)
      simp only [Nat.zero_add, Nat.add_zero] at cX fX
      go_wp2_with fail
      refine wp_region_lex (fun w' => w'.cell? ⟨g, i * 4 + 3, none⟩ = some (.slice x.hA x.hn x.hc)) [0, 1, 2, 3, 4, 5, 7, 9, 6, 8, 10, 11, 12, 13, 14, 15, 16] (by kernel_rfl) (by kernel_rfl) ?_
      have hHeld : w4.drew.cell? ⟨g, i * 4 + 3, none⟩ = some (.slice x.hA x.hn x.hc) := cX
      repeat (
        refine lex_take (v := ?_) (by rfl) (by rfl) (by exact fun _ _ _ h => h) (by rfl) ?_ (by assumption) ?_
        rotate_left 1
        · intro w hSw
          (try dsimp only at hSw)
          go_simp
          (try with_reducible rfl)
        (try simp only [Act.put, List.setIfInBounds_toArray, List.set_cons_zero, List.set_cons_succ]))
      refine lex_run (by rfl) (by rfl) (by rfl) (fun K hK => ?_)
      go_simp
      (with_reducible refine (odd_any sb _ 0 4000 _ HS.out.drew (by omega) (by omega) (by omega) (by omega)).mono ?_)
      rintro e w5 ⟨v5, rfl, ⟨r5, hlo5, hhi5, rfl⟩, hs5, hg5⟩
      replace hg5 : w4.grownBy w5 (some sb) := gr_same (gr_drew (gr_refl _ _)) hg5
      have HGA5 := Lib.hid (HGA.out.low hg5 (fun g e => by injection e with e; omega))
      have HG5 := Lib.hid (gr_same HG.out hg5)
      have HS5 := Lib.hid hs5
      have z5 := hg5.size
      have hgs5 : g < w5.heap.size := by omega
      clear hs5 hg5
      go_simp
      refine hK _ _ (.inr (by have h := (HGA5.out.1.recs.at_ HrV.row_len HX.out 3 _ rfl); simpa using h)) ?_
      clear hK K hHeld
      have hHeld := (HGA5.out.1.recs.at_ HrV.row_len HX.out 3 _ rfl)
      (try simp only [Nat.zero_add] at hHeld)
      repeat (
        refine lex_take (v := ?_) (by rfl) (by rfl) (by exact fun _ _ _ h => h) (by rfl) ?_ (by assumption) ?_
        rotate_left 1
        · intro w hSw
          (try dsimp only at hSw)
          go_simp
          (try with_reducible rfl)
        (try simp only [Act.put, List.setIfInBounds_toArray, List.set_cons_zero, List.set_cons_succ]))
      refine lex_run (by rfl) (by rfl) (by rfl) (fun K hK => ?_)
      go_simp
      (with_reducible refine (odd_any sb _ 0 1440 _ HS5.out (by omega) (by omega) (by omega) (by omega)).mono ?_)
      rintro e w6 ⟨v6, rfl, ⟨r6, hlo6, hhi6, rfl⟩, hs6, hg6⟩
      have HGA6 := Lib.hid (HGA5.out.low hg6 (fun g e => by injection e with e; omega))
      have HG6 := Lib.hid (gr_same HG5.out hg6)
      have HS6 := Lib.hid hs6
      have z6 := hg6.size
      have hgs6 : g < w6.heap.size := by omega
      clear hs6 hg6
      go_simp
      refine hK _ _ (.inr (by have h := (HGA6.out.1.recs.at_ HrV.row_len HX.out 3 _ rfl); simpa using h)) ?_
      clear hK K hHeld
      have hHeld := (HGA6.out.1.recs.at_ HrV.row_len HX.out 3 _ rfl)
      (try simp only [Nat.zero_add] at hHeld)
      repeat (
        refine lex_take (v := ?_) (by rfl) (by rfl) (by exact fun _ _ _ h => h) (by rfl) ?_ (by assumption) ?_
        rotate_left 1
        · intro w hSw
          (try dsimp only at hSw)
          go_simp
          (try with_reducible rfl)
        (try simp only [Act.put, List.setIfInBounds_toArray, List.set_cons_zero, List.set_cons_succ]))
      refine lex_run (by rfl) (by rfl) (by rfl) (fun K hK => ?_)
      go_simp
      (with_reducible refine (odd_any sb _ 0 1440 _ HS6.out (by omega) (by omega) (by omega) (by omega)).mono ?_)
      rintro e w7 ⟨v7, rfl, ⟨r7, hlo7, hhi7, rfl⟩, hs7, hg7⟩
      have HGA7 := Lib.hid (HGA6.out.low hg7 (fun g e => by injection e with e; omega))
      have HG7 := Lib.hid (gr_same HG6.out hg7)
      have HS7 := Lib.hid hs7
      have z7 := hg7.size
      have hgs7 : g < w7.heap.size := by omega
      clear hs7 hg7
      go_simp
      have HO7 := Lib.hid (HGA7.out.2.1 x (mem_of_get HX.out)).2.2.1
      refine hK _ _ (.inr (by have h := (HGA7.out.1.recs.at_ HrV.row_len HX.out 3 _ rfl); simpa using h)) ?_
      clear hK K hHeld
      have hHeld := (HGA7.out.1.recs.at_ HrV.row_len HX.out 3 _ rfl)
      (try simp only [Nat.zero_add] at hHeld)
      repeat (
        refine lex_take (v := ?_) (by rfl) (by rfl) (by exact fun _ _ _ h => h) (by rfl) ?_ (by assumption) ?_
        rotate_left 1
        · intro w hSw
          (try dsimp only at hSw)
          go_simp
          (try with_reducible rfl)
        (try simp only [Act.put, List.setIfInBounds_toArray, List.set_cons_zero, List.set_cons_succ]))
      refine lex_run (by rfl) (by rfl) (by rfl) (fun K hK => ?_)
      go_simp
      refine hK _ _ (.inr (by go_keep)) ?_
      clear hK K hHeld
      have hHeld : (w7.alloc (.cells #[.int .i64 r5, .int .i64 r6, .int .i64 r7] 161)).cell? ⟨g, i * 4 + 3, none⟩ = some (.slice x.hA x.hn x.hc) := by have h := (HGA7.out.1.alloc (.cells #[.int .i64 r5, .int .i64 r6, .int .i64 r7] 161)).recs.at_ HrV.row_len HX.out 3 _ rfl; simpa using h
      refine lex_run (by rfl) (by rfl) (by rfl) (fun K hK => ?_)
      refine wp_app _ _ _ Tryz.hosT (by rfl) w.heap.size x.hA x.hn x.hc (x.hol.flatMap r3Row) (by rfl) (by exact HO7.out.alloc _) _ _ 1 1 [.int .i64 r5, .int .i64 r6, .int .i64 r7] (by rfl) (by exact Reads.one _ _ _ _ rfl) (by simp [Value.oneCell']) (by unfold maxLen; omega) (by omega) (by simp; omega) ?_
      intro A1 c1 w8 h8
      have hm8 := (HGA7.out.1.alloc (.cells #[.int .i64 r5, .int .i64 r6, .int .i64 r7] 161)).kept h8.2.1 (fun g' e => Own.ne HO7.out HGA7.out.1.1 (by decide) e)
      have c8 := hm8.recs.at_ HrV.row_len HX.out 3 _ rfl
      have f8 := hm8.1.frozen (i * 4 + 3)
      simp only [Nat.zero_add] at c8 f8
      have H8 := Lib.hid h8
      clear h8 hm8
      refine hK _ _ (.inr c8) ?_
      clear hK K hHeld
      have hHeld := c8
      repeat (
        refine lex_take (v := ?_) (by rfl) (by rfl) (by exact fun _ _ _ h => h) (by rfl) ?_ (by assumption) ?_
        rotate_left 1
        · intro w hSw
          (try dsimp only at hSw)
          go_simp
          (try with_reducible rfl)
        (try simp only [Act.put, List.setIfInBounds_toArray, List.set_cons_zero, List.set_cons_succ]))
      refine lex_run (by rfl) (by rfl) (by rfl) (fun K hK => ?_)
      go_simp
      refine hK _ _ (.inl (by rfl)) ?_
      clear hK K hHeld
      refine lex_end ?_
      all_goals
        go_wp2_with fail
        go_ret
        exact ⟨_, rfl, ⟨_, c, _, rfl, GHrs.hols (HGA7.out.low (gr_alloc (gr_refl _ none) _) (fun g e => by cases e)) HX.out (s := (r5, r6, r7)) rfl (by omega) H8.out (by omega)⟩, ((((HS7.out.alloc _).grown H8.out.2.1 (fun g e => by have := (HO7.out.lt e).1; omega)).setCell (by simp; omega) _).mono (by omega)), gr_setCell (H8.out.gr (gr_alloc HG7.out _) (HO7.out.alloc _) (Nat.le_refl _)) (.inr (by simp; omega)) _⟩

/-- A number that is not too large. -/
def IntBd (v : Value) (_ : World) : Prop := ∃ r : Int, v = .int .i64 r ∧ -10000000000000 ≤ r ∧ r ≤ 10000000000000
set_option maxHeartbeats 4000000 in
theorem moment_any (sb : Nat) (m : Int) (w : World) (hs : Str w sb m) (hm : m ≤ 100000000000) : Calls Tryz.prog 30 #[.pointer (some ⟨sb, 0, none⟩)] w (Drawn sb (m + 4) IntBd w) := by
  have hlt := hs.lt
  have HS := Lib.hid hs; clear hs
  have HG := Lib.hid (gr_refl w (some sb))
  go_enter Tryz.func30, Tryz.ntmps30
  go_wp2_with fail
  refine (pick_new sb _ [0, 0, 1, 2, 3, 5, 6] _ (by first | exact HS.out | exact HS.out.alloc _ | exact (HS.out.alloc _).alloc _ | exact ((HS.out.alloc _).alloc _).alloc _ | exact HS.out.drewN _ | exact HS.out.setCell (by simp; omega) _ | exact (HS.out.alloc _).setCell (by simp; omega) _ | exact (HS.out.setCell (by simp; omega) _).alloc _ | exact (HS.out.setCell (by simp; omega) _).drewN _ | exact (HS.out.alloc _).drewN _) (by omega) (by simp) rfl rfl (by simp) (by simp)).mono ?_
  rintro e w1 ⟨v1, rfl, ⟨r1, hr1, rfl⟩, hs1, hg1⟩
  have hb1 : 0 ≤ r1 ∧ r1 ≤ 6 := by simp at hr1; omega
  obtain ⟨p1, q1⟩ := hb1
  have HG1 := Lib.hid (gr_same (a := w) (by repeat (first | exact HG.out | refine gr_alloc ?_ _ | refine gr_drew ?_ | refine gr_drewN ?_ _ | refine gr_setCell ?_ (.inr (by simp; omega)) _)) hg1); have HS1 := Lib.hid hs1
  have z1 := hg1.size; clear hr1 hs1 hg1
  go_wp2_with fail
  refine (pick_new sb _ [0, 60, 540, 600, 720, 840, 1439] _ HS1.out (by omega) (by simp) rfl rfl (by simp) (by simp)).mono ?_
  rintro e w2 ⟨v2, rfl, ⟨r2, hr2, rfl⟩, hs2, hg2⟩
  have hb2 : 0 ≤ r2 ∧ r2 ≤ 1439 := by simp at hr2; omega
  obtain ⟨p2, q2⟩ := hb2
  have HG2 := Lib.hid (gr_same HG1.out hg2); have HS2 := Lib.hid hs2
  have z2 := hg2.size; clear hr2 hs2 hg2
  go_wp2_with fail
  refine (pick_new sb _ [0, 0, 1, 30000, -1] _ HS2.out (by omega) (by simp) rfl rfl (by simp) (by simp)).mono ?_
  rintro e w3 ⟨v3, rfl, ⟨r3, hr3, rfl⟩, hs3, hg3⟩
  have hb3 : -1 ≤ r3 ∧ r3 ≤ 30000 := by simp at hr3; omega
  obtain ⟨p3, q3⟩ := hb3
  have HG3 := Lib.hid (gr_same HG2.out hg3); have HS3 := Lib.hid hs3
  clear hr3 hs3 hg3
  go_wp2_with fail
  go_ret
  exact ⟨_, rfl, ⟨_, rfl, by omega, by omega⟩, HS3.out.mono (by omega), HG3.out⟩
end Go.Proofs.YtpjheibkacbbcaaGreatDoor

/- Contract of the generator of arrivals. Conditions: none. -/
import Derived.Test.YtdknfhpconfhkaaRightArr
namespace Go.Proofs.Ytdknfhpconfhkaa
open Go.RowKit

set_option maxRecDepth 100000 in
set_option maxHeartbeats 20000000 in
theorem arrivals_any (sb : Nat) (m : Int) (most : Nat) (w : World) (hs : Str w sb m) (hm : m ≤ 10000000000) (hmost : most ≤ 1000) :
    Calls Try.prog 33 #[.pointer (some ⟨sb, 0, none⟩), .int .i64 most] w (Drawn sb (m + 20 * most + 20) (IsArrs w.heap.size (2 * most)) w) := by
  have hlt := hs.lt
  have HS := Lib.hid hs; clear hs
  have HG := Lib.hid (gr_refl w (some sb))
  go_enter Try.func33, Try.ntmps33
  go_wp2_with fail
  refine (rightArrivals_any sb _ most _ (by first | exact HS.out | exact HS.out.alloc _ | exact (HS.out.alloc _).alloc _ | exact ((HS.out.alloc _).alloc _).alloc _ | exact HS.out.drewN _ | exact HS.out.setCell (by simp; omega) _ | exact (HS.out.alloc _).setCell (by simp; omega) _ | exact (HS.out.setCell (by simp; omega) _).alloc _ | exact (HS.out.setCell (by simp; omega) _).drewN _ | exact (HS.out.alloc _).drewN _) (by omega) (by omega)).mono ?_
  rintro e w1 ⟨v1, rfl, ⟨A, n, c, l, rfl, hga, hn⟩, hs1, hg1⟩
  have HGA := Lib.hid hga; clear hga
  have z1 := hg1.size; try simp at z1
  try replace HZ := Lib.hid (HZ.out.grown hg1 (by simp; omega))
  try replace HP := Lib.hid (HP.out.grown hg1 (by simp; omega))
  try replace HY := Lib.hid (Own.kept HY.out hg1 (fun g e e' => by injection e with e; have := (HY.out.lt e').1; omega))
  replace HG := Lib.hid (gr_same (a := w) (by repeat (first | exact HG.out | refine gr_alloc ?_ _ | refine gr_drew ?_ | refine gr_drewN ?_ _ | refine gr_setCell ?_ (.inr (by simp; omega)) _)) hg1); clear hg1
  replace HS := Lib.hid hs1; clear hs1
  by_cases h0 : 0 < n
  · have h0' : decide (0 < n) = true := decide_eq_true h0
    go_wp2_with fail
    refine (flip_any sb _ 12 _ (by first | exact HS.out | exact HS.out.alloc _ | exact (HS.out.alloc _).alloc _ | exact ((HS.out.alloc _).alloc _).alloc _ | exact HS.out.drewN _ | exact HS.out.setCell (by simp; omega) _ | exact (HS.out.alloc _).setCell (by simp; omega) _ | exact (HS.out.setCell (by simp; omega) _).alloc _ | exact (HS.out.setCell (by simp; omega) _).drewN _ | exact (HS.out.alloc _).drewN _) (by omega) (by omega) (by omega)).mono ?_
    rintro e w2 ⟨v2, rfl, ⟨f2, rfl⟩, hs2, hg2⟩
    replace HGA := Lib.hid (HGA.out.kept hg2 (fun g e => by injection e with e; omega))
    have z2 := hg2.size; try simp at z2
    try replace HZ := Lib.hid (HZ.out.grown hg2 (by simp; omega))
    try replace HP := Lib.hid (HP.out.grown hg2 (by simp; omega))
    try replace HY := Lib.hid (Own.kept HY.out hg2 (fun g e e' => by injection e with e; have := (HY.out.lt e').1; omega))
    replace HG := Lib.hid (gr_same (a := w) (by repeat (first | exact HG.out | refine gr_alloc ?_ _ | refine gr_drew ?_ | refine gr_drewN ?_ _ | refine gr_setCell ?_ (.inr (by simp; omega)) _)) hg2); clear hg2
    replace HS := Lib.hid hs2; clear hs2
    cases f2
    · go_wp2_with fail
      go_ret
      exact ⟨_, rfl, ⟨A, n, c, l, rfl, HGA.out, hn⟩, HS.out.mono (by omega), HG.out⟩
    · go_wp2_with fail
      refine (next_any sb _ (n : Int) _ (by first | exact HS.out | exact HS.out.alloc _ | exact (HS.out.alloc _).alloc _ | exact ((HS.out.alloc _).alloc _).alloc _ | exact HS.out.drewN _ | exact HS.out.setCell (by simp; omega) _ | exact (HS.out.alloc _).setCell (by simp; omega) _ | exact (HS.out.setCell (by simp; omega) _).alloc _ | exact (HS.out.setCell (by simp; omega) _).drewN _ | exact (HS.out.alloc _).drewN _) (by omega) (by omega) (by omega)).mono ?_
      rintro e w3 ⟨v3, rfl, ⟨r3, hlo3, hhi3, rfl⟩, hs3, hg3⟩
      replace HGA := Lib.hid (HGA.out.kept hg3 (fun g e => by injection e with e; omega))
      have z3 := hg3.size; try simp at z3
      try replace HZ := Lib.hid (HZ.out.grown hg3 (by simp; omega))
      try replace HP := Lib.hid (HP.out.grown hg3 (by simp; omega))
      try replace HY := Lib.hid (Own.kept HY.out hg3 (fun g e e' => by injection e with e; have := (HY.out.lt e').1; omega))
      replace HG := Lib.hid (gr_same (a := w) (by repeat (first | exact HG.out | refine gr_alloc ?_ _ | refine gr_drew ?_ | refine gr_drewN ?_ _ | refine gr_setCell ?_ (.inr (by simp; omega)) _)) hg3); clear hg3
      replace HS := Lib.hid hs3; clear hs3
      obtain ⟨i, rfl⟩ : ∃ i : Nat, r3 = i := ⟨r3.toNat, by omega⟩
      have hin : i < n := by omega
      obtain ⟨g, rfl, hg0, hgl⟩ := HGA.out.1.pos h0
      go_wp2_with fail
      refine (next_any sb _ 4 _ (by first | exact HS.out | exact HS.out.alloc _ | exact (HS.out.alloc _).alloc _ | exact ((HS.out.alloc _).alloc _).alloc _ | exact HS.out.drewN _ | exact HS.out.setCell (by simp; omega) _ | exact (HS.out.alloc _).setCell (by simp; omega) _ | exact (HS.out.setCell (by simp; omega) _).alloc _ | exact (HS.out.setCell (by simp; omega) _).drewN _ | exact (HS.out.alloc _).drewN _) (by omega) (by omega) (by omega)).mono ?_
      rintro e w4 ⟨v4, rfl, ⟨r4, hlo4, hhi4, rfl⟩, hs4, hg4⟩
      replace HGA := Lib.hid (HGA.out.kept hg4 (fun g e => by injection e with e; omega))
      have z4 := hg4.size; try simp at z4
      try replace HZ := Lib.hid (HZ.out.grown hg4 (by simp; omega))
      try replace HP := Lib.hid (HP.out.grown hg4 (by simp; omega))
      try replace HY := Lib.hid (Own.kept HY.out hg4 (fun g e e' => by injection e with e; have := (HY.out.lt e').1; omega))
      replace HG := Lib.hid (gr_same (a := w) (by repeat (first | exact HG.out | refine gr_alloc ?_ _ | refine gr_drew ?_ | refine gr_drewN ?_ _ | refine gr_setCell ?_ (.inr (by simp; omega)) _)) hg4); clear hg4
      replace HS := Lib.hid hs4; clear hs4
      rcases (by omega : r4 = 0 ∨ r4 = 1 ∨ r4 = 2 ∨ r4 = 3) with rfl | rfl | rfl | rfl
      · go_wp2_with fail
        refine (odd_any sb _ 0 50 _ (by first | exact HS.out | exact HS.out.alloc _ | exact (HS.out.alloc _).alloc _ | exact ((HS.out.alloc _).alloc _).alloc _ | exact HS.out.drewN _ | exact HS.out.setCell (by simp; omega) _ | exact (HS.out.alloc _).setCell (by simp; omega) _ | exact (HS.out.setCell (by simp; omega) _).alloc _ | exact (HS.out.setCell (by simp; omega) _).drewN _ | exact (HS.out.alloc _).drewN _) (by omega) (by omega) (by omega) (by omega)).mono ?_
        rintro e w5 ⟨v5, rfl, ⟨r5, hlo5, hhi5, rfl⟩, hs5, hg5⟩
        replace HGA := Lib.hid (HGA.out.kept hg5 (fun g e => by injection e with e; omega))
        have z5 := hg5.size; try simp at z5
        try replace HZ := Lib.hid (HZ.out.grown hg5 (by simp; omega))
        try replace HP := Lib.hid (HP.out.grown hg5 (by simp; omega))
        try replace HY := Lib.hid (Own.kept HY.out hg5 (fun g e e' => by injection e with e; have := (HY.out.lt e').1; omega))
        replace HG := Lib.hid (gr_same (a := w) (by repeat (first | exact HG.out | refine gr_alloc ?_ _ | refine gr_drew ?_ | refine gr_drewN ?_ _ | refine gr_setCell ?_ (.inr (by simp; omega)) _)) hg5); clear hg5
        replace HS := Lib.hid hs5; clear hs5
        obtain ⟨x, hx⟩ : ∃ x, l[i]? = some x := ⟨_, List.getElem?_eq_getElem (by rw [HGA.out.2.1]; omega)⟩
        have hcx := HGA.out.at_ hx 0 _ rfl
        try simp only [Nat.add_zero] at hcx
        have hfx := HGA.out.1.frozen (i * 7 + 0)
        try simp only [Nat.add_zero] at hfx
        have HX := Lib.hid hx; clear hx
        obtain ⟨s1, s2, s3, s4, s5⟩ := (HGA.out.2.2 x (mem_of_get HX.out)).1
        go_wp2_with fail
        go_ret
        exact ⟨_, rfl, ⟨_, n, c, l.set i { x with at_ := r5 }, rfl, HGA.out.set1 (j := 0) HX.out (by omega) rfl ⟨⟨hlo5, hhi5⟩, s2, s3, s4, s5⟩ (HGA.out.2.2 x (mem_of_get HX.out)).2 (by omega), hn⟩, (HS.out.setCell (by simp; omega) _).mono (by omega), gr_setCell HG.out (.inr (by simp; omega)) _⟩
      · go_wp2_with fail
        refine (pick_new sb _ [7, 8] _ (by first | exact HS.out | exact HS.out.alloc _ | exact (HS.out.alloc _).alloc _ | exact ((HS.out.alloc _).alloc _).alloc _ | exact HS.out.drewN _ | exact HS.out.setCell (by simp; omega) _ | exact (HS.out.alloc _).setCell (by simp; omega) _ | exact (HS.out.setCell (by simp; omega) _).alloc _ | exact (HS.out.setCell (by simp; omega) _).drewN _ | exact (HS.out.alloc _).drewN _) (by omega) (by simp) rfl rfl (by simp) (by simp)).mono ?_
        rintro e w5 ⟨v5, rfl, ⟨r5, hr5, rfl⟩, hs5, hg5⟩
        have hlo5 : -1099511627776 ≤ r5 := by simp at hr5; omega
        have hhi5 : r5 ≤ 1099511627776 := by simp at hr5; omega
        clear hr5
        replace HGA := Lib.hid (HGA.out.kept hg5 (fun g e => by injection e with e; omega))
        have z5 := hg5.size; try simp at z5
        try replace HZ := Lib.hid (HZ.out.grown hg5 (by simp; omega))
        try replace HP := Lib.hid (HP.out.grown hg5 (by simp; omega))
        try replace HY := Lib.hid (Own.kept HY.out hg5 (fun g e e' => by injection e with e; have := (HY.out.lt e').1; omega))
        replace HG := Lib.hid (gr_same (a := w) (by repeat (first | exact HG.out | refine gr_alloc ?_ _ | refine gr_drew ?_ | refine gr_drewN ?_ _ | refine gr_setCell ?_ (.inr (by simp; omega)) _)) hg5); clear hg5
        replace HS := Lib.hid hs5; clear hs5
        obtain ⟨x, hx⟩ : ∃ x, l[i]? = some x := ⟨_, List.getElem?_eq_getElem (by rw [HGA.out.2.1]; omega)⟩
        have hcx := HGA.out.at_ hx 4 _ rfl
        try simp only [Nat.add_zero] at hcx
        have hfx := HGA.out.1.frozen (i * 7 + 4)
        try simp only [Nat.add_zero] at hfx
        have HX := Lib.hid hx; clear hx
        obtain ⟨s1, s2, s3, s4, s5⟩ := (HGA.out.2.2 x (mem_of_get HX.out)).1
        go_wp2_with fail
        go_ret
        exact ⟨_, rfl, ⟨_, n, c, l.set i { x with sr := r5 }, rfl, HGA.out.set1 (j := 4) HX.out (by omega) rfl ⟨s1, s2, s3, s4, ⟨hlo5, hhi5⟩⟩ (HGA.out.2.2 x (mem_of_get HX.out)).2 (by omega), hn⟩, (HS.out.setCell (by simp; omega) _).mono (by omega), gr_setCell HG.out (.inr (by simp; omega)) _⟩
      · go_wp2_with fail
        refine (odd_any sb _ 0 65535 _ (by first | exact HS.out | exact HS.out.alloc _ | exact (HS.out.alloc _).alloc _ | exact ((HS.out.alloc _).alloc _).alloc _ | exact HS.out.drewN _ | exact HS.out.setCell (by simp; omega) _ | exact (HS.out.alloc _).setCell (by simp; omega) _ | exact (HS.out.setCell (by simp; omega) _).alloc _ | exact (HS.out.setCell (by simp; omega) _).drewN _ | exact (HS.out.alloc _).drewN _) (by omega) (by omega) (by omega) (by omega)).mono ?_
        rintro e w5 ⟨v5, rfl, ⟨r5, hlo5, hhi5, rfl⟩, hs5, hg5⟩
        replace HGA := Lib.hid (HGA.out.kept hg5 (fun g e => by injection e with e; omega))
        have z5 := hg5.size; try simp at z5
        try replace HZ := Lib.hid (HZ.out.grown hg5 (by simp; omega))
        try replace HP := Lib.hid (HP.out.grown hg5 (by simp; omega))
        try replace HY := Lib.hid (Own.kept HY.out hg5 (fun g e e' => by injection e with e; have := (HY.out.lt e').1; omega))
        replace HG := Lib.hid (gr_same (a := w) (by repeat (first | exact HG.out | refine gr_alloc ?_ _ | refine gr_drew ?_ | refine gr_drewN ?_ _ | refine gr_setCell ?_ (.inr (by simp; omega)) _)) hg5); clear hg5
        replace HS := Lib.hid hs5; clear hs5
        obtain ⟨x, hx⟩ : ∃ x, l[i]? = some x := ⟨_, List.getElem?_eq_getElem (by rw [HGA.out.2.1]; omega)⟩
        have hcx := HGA.out.at_ hx 2 _ rfl
        try simp only [Nat.add_zero] at hcx
        have hfx := HGA.out.1.frozen (i * 7 + 2)
        try simp only [Nat.add_zero] at hfx
        have HX := Lib.hid hx; clear hx
        obtain ⟨s1, s2, s3, s4, s5⟩ := (HGA.out.2.2 x (mem_of_get HX.out)).1
        go_wp2_with fail
        go_ret
        exact ⟨_, rfl, ⟨_, n, c, l.set i { x with sq := r5 }, rfl, HGA.out.set1 (j := 2) HX.out (by omega) rfl ⟨s1, s2, ⟨hlo5, hhi5⟩, s4, s5⟩ (HGA.out.2.2 x (mem_of_get HX.out)).2 (by omega), hn⟩, (HS.out.setCell (by simp; omega) _).mono (by omega), gr_setCell HG.out (.inr (by simp; omega)) _⟩
      · go_wp2_with fail
        refine (odd_any sb _ 0 4294967295 _ (by first | exact HS.out | exact HS.out.alloc _ | exact (HS.out.alloc _).alloc _ | exact ((HS.out.alloc _).alloc _).alloc _ | exact HS.out.drewN _ | exact HS.out.setCell (by simp; omega) _ | exact (HS.out.alloc _).setCell (by simp; omega) _ | exact (HS.out.setCell (by simp; omega) _).alloc _ | exact (HS.out.setCell (by simp; omega) _).drewN _ | exact (HS.out.alloc _).drewN _) (by omega) (by omega) (by omega) (by omega)).mono ?_
        rintro e w5 ⟨v5, rfl, ⟨r5, hlo5, hhi5, rfl⟩, hs5, hg5⟩
        replace HGA := Lib.hid (HGA.out.kept hg5 (fun g e => by injection e with e; omega))
        have z5 := hg5.size; try simp at z5
        try replace HZ := Lib.hid (HZ.out.grown hg5 (by simp; omega))
        try replace HP := Lib.hid (HP.out.grown hg5 (by simp; omega))
        try replace HY := Lib.hid (Own.kept HY.out hg5 (fun g e e' => by injection e with e; have := (HY.out.lt e').1; omega))
        replace HG := Lib.hid (gr_same (a := w) (by repeat (first | exact HG.out | refine gr_alloc ?_ _ | refine gr_drew ?_ | refine gr_drewN ?_ _ | refine gr_setCell ?_ (.inr (by simp; omega)) _)) hg5); clear hg5
        replace HS := Lib.hid hs5; clear hs5
        obtain ⟨x, hx⟩ : ∃ x, l[i]? = some x := ⟨_, List.getElem?_eq_getElem (by rw [HGA.out.2.1]; omega)⟩
        have hcx := HGA.out.at_ hx 3 _ rfl
        try simp only [Nat.add_zero] at hcx
        have hfx := HGA.out.1.frozen (i * 7 + 3)
        try simp only [Nat.add_zero] at hfx
        have HX := Lib.hid hx; clear hx
        obtain ⟨s1, s2, s3, s4, s5⟩ := (HGA.out.2.2 x (mem_of_get HX.out)).1
        go_wp2_with fail
        go_ret
        exact ⟨_, rfl, ⟨_, n, c, l.set i { x with tm := r5 }, rfl, HGA.out.set1 (j := 3) HX.out (by omega) rfl ⟨s1, s2, s3, ⟨hlo5, hhi5⟩, s5⟩ (HGA.out.2.2 x (mem_of_get HX.out)).2 (by omega), hn⟩, (HS.out.setCell (by simp; omega) _).mono (by omega), gr_setCell HG.out (.inr (by simp; omega)) _⟩
  · have h0' : decide (0 < n) = false := by simpa using h0
    go_wp2_with fail
    go_ret
    exact ⟨_, rfl, ⟨A, n, c, l, rfl, HGA.out, hn⟩, HS.out.mono (by omega), HG.out⟩
end Go.Proofs.Ytdknfhpconfhkaa

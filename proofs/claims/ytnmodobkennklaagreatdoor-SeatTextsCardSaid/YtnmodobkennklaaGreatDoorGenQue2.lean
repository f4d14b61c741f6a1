/- Contract of the generator of callers. Conditions: none. -/
import Derived.Test.YtnmodobkennklaaGreatDoorGenQue1
namespace Go.Proofs.YtnmodobkennklaaGreatDoor
open Go.RowKit

theorem get_set' {α : Type} {l : List α} {i : Nat} {a b : α} (h : l[i]? = some a) : (l.set i b)[i]? = some b := by
  have := (List.getElem?_eq_some_iff.1 h).1
  simp [this]
set_option maxHeartbeats 4000000 in
set_option maxRecDepth 100000 in
theorem callers_any (sb : Nat) (m most : Int) (w : World) (hs : Str w sb m) (hm : m ≤ 10000000000) (h0 : 0 ≤ most) (h1 : most ≤ 20) : Calls Tryz.prog 23 #[.pointer (some ⟨sb, 0, none⟩), .int .i64 most] w (Drawn sb (m + 220) (IsCas w.heap.size most.toNat) w) := by
  have hlt := hs.lt
  have HS := Lib.hid hs; clear hs
  have HG := Lib.hid (gr_refl w (some sb))
  go_enter Tryz.func23, Tryz.ntmps23
  go_wp2_with fail
  refine (rightCallers_any sb _ most _ (by first | exact HS.out | exact HS.out.alloc _ | exact (HS.out.alloc _).alloc _ | exact ((HS.out.alloc _).alloc _).alloc _ | exact HS.out.drewN _ | exact HS.out.setCell (by simp; omega) _ | exact (HS.out.alloc _).setCell (by simp; omega) _ | exact (HS.out.setCell (by simp; omega) _).alloc _ | exact (HS.out.setCell (by simp; omega) _).drewN _ | exact (HS.out.alloc _).drewN _) (by omega) h0 h1).mono ?_
  rintro e w1 ⟨v1, rfl, ⟨A, n, c, l, rfl, hga, hn⟩, hs1, hg1⟩
  have HGA := Lib.hid hga; clear hga
  have z1 := hg1.size
  replace HG := Lib.hid (gr_same HG.out hg1); clear hg1
  replace HS := Lib.hid hs1; clear hs1
  by_cases hp : 0 < n
  · have hp' : decide ((0 : Int) < (n : Int)) = true := decide_eq_true (by omega)
    have hp2 : decide (0 < n) = true := decide_eq_true hp
    go_wp2_with fail
    refine (flip_any sb _ 12 _ (by first | exact HS.out | exact HS.out.alloc _ | exact (HS.out.alloc _).alloc _ | exact ((HS.out.alloc _).alloc _).alloc _ | exact HS.out.drewN _ | exact HS.out.setCell (by simp; omega) _ | exact (HS.out.alloc _).setCell (by simp; omega) _ | exact (HS.out.setCell (by simp; omega) _).alloc _ | exact (HS.out.setCell (by simp; omega) _).drewN _ | exact (HS.out.alloc _).drewN _) (by omega) (by omega) (by omega)).mono ?_
    rintro e w2 ⟨v2, rfl, ⟨f2, rfl⟩, hs2, hg2⟩
    replace HGA := Lib.hid (HGA.out.low hg2 (fun g e => by injection e with e; omega))
    have z2 := hg2.size; try simp at z2
    replace HG := Lib.hid (gr_same (a := w) (by repeat (first | exact HG.out | refine gr_alloc ?_ _ | refine gr_drew ?_ | refine gr_drewN ?_ _ | refine gr_setCell ?_ (.inr (by simp; omega)) _)) hg2); clear hg2
    replace HS := Lib.hid hs2; clear hs2
    cases f2
    · go_wp2_with fail
      go_ret
      exact ⟨_, rfl, ⟨A, n, c, l, rfl, HGA.out, hn⟩, HS.out.mono (by omega), HG.out⟩
    · obtain ⟨g, rfl, hgl, hgs⟩ := HGA.out.1.1.pos hp
      go_wp2_with fail
      refine (next_any sb _ n _ (by first | exact HS.out | exact HS.out.alloc _ | exact (HS.out.alloc _).alloc _ | exact ((HS.out.alloc _).alloc _).alloc _ | exact HS.out.drewN _ | exact HS.out.setCell (by simp; omega) _ | exact (HS.out.alloc _).setCell (by simp; omega) _ | exact (HS.out.setCell (by simp; omega) _).alloc _ | exact (HS.out.setCell (by simp; omega) _).drewN _ | exact (HS.out.alloc _).drewN _) (by omega) (by omega) (by omega)).mono ?_
      rintro e w3 ⟨v3, rfl, ⟨r3, hlo3, hhi3, rfl⟩, hs3, hg3⟩
      replace HGA := Lib.hid (HGA.out.low hg3 (fun g e => by injection e with e; omega))
      have z3 := hg3.size; try simp at z3
      replace HG := Lib.hid (gr_same (a := w) (by repeat (first | exact HG.out | refine gr_alloc ?_ _ | refine gr_drew ?_ | refine gr_drewN ?_ _ | refine gr_setCell ?_ (.inr (by simp; omega)) _)) hg3); clear hg3
      replace HS := Lib.hid hs3; clear hs3
      obtain ⟨i, rfl⟩ : ∃ i : Nat, r3 = i := ⟨r3.toNat, by omega⟩
      have hin : i < n := by omega
      have hin' : (i : Int) < (n : Int) := by omega
      obtain ⟨x, hx⟩ : ∃ x, l[i]? = some x := ⟨_, List.getElem?_eq_getElem (by rw [HGA.out.1.2]; exact hin)⟩
      have hxo := HGA.out.2 x (mem_of_get hx)
      obtain ⟨o1, o2⟩ := hxo
      have HX := Lib.hid hx; clear hx
      go_wp2_with fail
      refine (next_any sb _ 5 _ (by first | exact HS.out | exact HS.out.alloc _ | exact (HS.out.alloc _).alloc _ | exact ((HS.out.alloc _).alloc _).alloc _ | exact HS.out.drewN _ | exact HS.out.setCell (by simp; omega) _ | exact (HS.out.alloc _).setCell (by simp; omega) _ | exact (HS.out.setCell (by simp; omega) _).alloc _ | exact (HS.out.setCell (by simp; omega) _).drewN _ | exact (HS.out.alloc _).drewN _) (by omega) (by omega) (by omega)).mono ?_
      rintro e w4 ⟨v4, rfl, ⟨r4, hlo4, hhi4, rfl⟩, hs4, hg4⟩
      replace HGA := Lib.hid (HGA.out.low hg4 (fun g e => by injection e with e; omega))
      have z4 := hg4.size; try simp at z4
      replace HG := Lib.hid (gr_same (a := w) (by repeat (first | exact HG.out | refine gr_alloc ?_ _ | refine gr_drew ?_ | refine gr_drewN ?_ _ | refine gr_setCell ?_ (.inr (by simp; omega)) _)) hg4); clear hg4
      replace HS := Lib.hid hs4; clear hs4
      rcases (by omega : r4 = 0 ∨ r4 = 1 ∨ r4 = 2 ∨ r4 = 3 ∨ r4 = 4) with rfl | rfl | rfl | rfl | rfl
      · go_wp2_with fail
        refine (some_new (n := 3) sb _ 2 _ (by first | exact HS.out | exact HS.out.alloc _ | exact (HS.out.alloc _).alloc _ | exact ((HS.out.alloc _).alloc _).alloc _ | exact HS.out.drewN _ | exact HS.out.setCell (by simp; omega) _ | exact (HS.out.alloc _).setCell (by simp; omega) _ | exact (HS.out.setCell (by simp; omega) _).alloc _ | exact (HS.out.setCell (by simp; omega) _).drewN _ | exact (HS.out.alloc _).drewN _) (by omega) (by simp) (by
          repeat (first | exact StrsOk.nil _ | refine StrsOk.cons (by decide) ?_)) rfl (by omega) (by omega)).mono ?_
        rintro e w5 ⟨v5, rfl, ⟨y5, rfl, hy5⟩, hs5, hg5⟩
        replace HGA := Lib.hid (HGA.out.low hg5 (fun g e => by injection e with e; omega))
        have z5 := hg5.size; try simp at z5
        replace HG := Lib.hid (gr_same (a := w) (by repeat (first | exact HG.out | refine gr_alloc ?_ _ | refine gr_drew ?_ | refine gr_drewN ?_ _ | refine gr_setCell ?_ (.inr (by simp; omega)) _)) hg5); clear hg5
        replace HS := Lib.hid hs5; clear hs5
        have cX := HGA.out.cas.1.at_ CaV.row_len HX.out 0 _ rfl
        have fX := HGA.out.1.1.frozen (i * 8 + 0)
        simp only [Nat.zero_add, Nat.add_zero] at cX fX
        go_wp2_with fail
        go_ret
        exact ⟨_, rfl, ⟨_, n, c, _, rfl, HGA.out.set1 (j := 0) HX.out (a' := { x with id := y5 }) (by omega) rfl ⟨Nat.le_trans hy5 (by decide), o2⟩ (by omega), by omega⟩, (HS.out.setCell (by simp; omega) _).mono (by omega), gr_setCell HG.out (.inr (by simp; omega)) _⟩
      · go_wp2_with fail
        refine (some_new (n := 2) sb _ 4 _ (by first | exact HS.out | exact HS.out.alloc _ | exact (HS.out.alloc _).alloc _ | exact ((HS.out.alloc _).alloc _).alloc _ | exact HS.out.drewN _ | exact HS.out.setCell (by simp; omega) _ | exact (HS.out.alloc _).setCell (by simp; omega) _ | exact (HS.out.setCell (by simp; omega) _).alloc _ | exact (HS.out.setCell (by simp; omega) _).drewN _ | exact (HS.out.alloc _).drewN _) (by omega) (by simp) (by
          repeat (first | exact StrsOk.nil _ | refine StrsOk.cons (by decide) ?_)) rfl (by omega) (by omega)).mono ?_
        rintro e w5 ⟨v5, rfl, ⟨y5, rfl, hy5⟩, hs5, hg5⟩
        replace HGA := Lib.hid (HGA.out.low hg5 (fun g e => by injection e with e; omega))
        have z5 := hg5.size; try simp at z5
        replace HG := Lib.hid (gr_same (a := w) (by repeat (first | exact HG.out | refine gr_alloc ?_ _ | refine gr_drew ?_ | refine gr_drewN ?_ _ | refine gr_setCell ?_ (.inr (by simp; omega)) _)) hg5); clear hg5
        replace HS := Lib.hid hs5; clear hs5
        go_wp2_with fail
        refine (odd_any sb _ 1 9 _ (by first | exact HS.out | exact HS.out.alloc _ | exact (HS.out.alloc _).alloc _ | exact ((HS.out.alloc _).alloc _).alloc _ | exact HS.out.drewN _ | exact HS.out.setCell (by simp; omega) _ | exact (HS.out.alloc _).setCell (by simp; omega) _ | exact (HS.out.setCell (by simp; omega) _).alloc _ | exact (HS.out.setCell (by simp; omega) _).drewN _ | exact (HS.out.alloc _).drewN _) (by omega) (by omega) (by omega) (by omega)).mono ?_
        rintro e w6 ⟨v6, rfl, ⟨r6, hlo6, hhi6, rfl⟩, hs6, hg6⟩
        replace HGA := Lib.hid (HGA.out.low hg6 (fun g e => by injection e with e; omega))
        have z6 := hg6.size; try simp at z6
        replace HG := Lib.hid (gr_same (a := w) (by repeat (first | exact HG.out | refine gr_alloc ?_ _ | refine gr_drew ?_ | refine gr_drewN ?_ _ | refine gr_setCell ?_ (.inr (by simp; omega)) _)) hg6); clear hg6
        replace HS := Lib.hid hs6; clear hs6
        have cX := HGA.out.cas.1.at_ CaV.row_len HX.out 1 _ rfl
        have fX := HGA.out.1.1.frozen (i * 8 + 1)
        simp only [Nat.zero_add, Nat.add_zero] at cX fX
        have cY := HGA.out.cas.1.at_ CaV.row_len HX.out 3 _ rfl
        have fY := HGA.out.1.1.frozen (i * 8 + 3)
        simp only [Nat.zero_add] at cY fY
        go_wp2_with fail
        go_ret
        exact ⟨_, rfl, ⟨_, n, c, _, rfl, (HGA.out.set1 (j := 1) HX.out (a' := { x with skill := y5 }) (by omega) rfl ⟨o1, Nat.le_trans hy5 (by decide)⟩ (by omega)).set1 (j := 3) (get_set' HX.out) (a' := { x with skill := y5, least := r6 }) (by omega) rfl ⟨o1, Nat.le_trans hy5 (by decide)⟩ (by omega), by omega⟩, ((HS.out.setCell (by simp; omega) _).setCell (by simp; omega) _).mono (by omega), gr_setCell (gr_setCell HG.out (.inr (by simp; omega)) _) (.inr (by simp; omega)) _⟩
      · go_wp2_with fail
        refine (odd_any sb _ 0 50 _ (by first | exact HS.out | exact HS.out.alloc _ | exact (HS.out.alloc _).alloc _ | exact ((HS.out.alloc _).alloc _).alloc _ | exact HS.out.drewN _ | exact HS.out.setCell (by simp; omega) _ | exact (HS.out.alloc _).setCell (by simp; omega) _ | exact (HS.out.setCell (by simp; omega) _).alloc _ | exact (HS.out.setCell (by simp; omega) _).drewN _ | exact (HS.out.alloc _).drewN _) (by omega) (by omega) (by omega) (by omega)).mono ?_
        rintro e w5 ⟨v5, rfl, ⟨r5, hlo5, hhi5, rfl⟩, hs5, hg5⟩
        replace HGA := Lib.hid (HGA.out.low hg5 (fun g e => by injection e with e; omega))
        have z5 := hg5.size; try simp at z5
        replace HG := Lib.hid (gr_same (a := w) (by repeat (first | exact HG.out | refine gr_alloc ?_ _ | refine gr_drew ?_ | refine gr_drewN ?_ _ | refine gr_setCell ?_ (.inr (by simp; omega)) _)) hg5); clear hg5
        replace HS := Lib.hid hs5; clear hs5
        have cX := HGA.out.cas.1.at_ CaV.row_len HX.out 2 _ rfl
        have fX := HGA.out.1.1.frozen (i * 8 + 2)
        simp only [Nat.zero_add, Nat.add_zero] at cX fX
        go_wp2_with fail
        go_ret
        exact ⟨_, rfl, ⟨_, n, c, _, rfl, HGA.out.set1 (j := 2) HX.out (a' := { x with at_ := r5 }) (by omega) rfl ⟨o1, o2⟩ (by omega), by omega⟩, (HS.out.setCell (by simp; omega) _).mono (by omega), gr_setCell HG.out (.inr (by simp; omega)) _⟩
      · go_wp2_with fail
        refine (odd_any sb _ 0 50 _ (by first | exact HS.out | exact HS.out.alloc _ | exact (HS.out.alloc _).alloc _ | exact ((HS.out.alloc _).alloc _).alloc _ | exact HS.out.drewN _ | exact HS.out.setCell (by simp; omega) _ | exact (HS.out.alloc _).setCell (by simp; omega) _ | exact (HS.out.setCell (by simp; omega) _).alloc _ | exact (HS.out.setCell (by simp; omega) _).drewN _ | exact (HS.out.alloc _).drewN _) (by omega) (by omega) (by omega) (by omega)).mono ?_
        rintro e w5 ⟨v5, rfl, ⟨r5, hlo5, hhi5, rfl⟩, hs5, hg5⟩
        replace HGA := Lib.hid (HGA.out.low hg5 (fun g e => by injection e with e; omega))
        have z5 := hg5.size; try simp at z5
        replace HG := Lib.hid (gr_same (a := w) (by repeat (first | exact HG.out | refine gr_alloc ?_ _ | refine gr_drew ?_ | refine gr_drewN ?_ _ | refine gr_setCell ?_ (.inr (by simp; omega)) _)) hg5); clear hg5
        replace HS := Lib.hid hs5; clear hs5
        go_wp2_with fail
        refine (odd_any sb _ 1 50 _ (by first | exact HS.out | exact HS.out.alloc _ | exact (HS.out.alloc _).alloc _ | exact ((HS.out.alloc _).alloc _).alloc _ | exact HS.out.drewN _ | exact HS.out.setCell (by simp; omega) _ | exact (HS.out.alloc _).setCell (by simp; omega) _ | exact (HS.out.setCell (by simp; omega) _).alloc _ | exact (HS.out.setCell (by simp; omega) _).drewN _ | exact (HS.out.alloc _).drewN _) (by omega) (by omega) (by omega) (by omega)).mono ?_
        rintro e w6 ⟨v6, rfl, ⟨r6, hlo6, hhi6, rfl⟩, hs6, hg6⟩
        replace HGA := Lib.hid (HGA.out.low hg6 (fun g e => by injection e with e; omega))
        have z6 := hg6.size; try simp at z6
        replace HG := Lib.hid (gr_same (a := w) (by repeat (first | exact HG.out | refine gr_alloc ?_ _ | refine gr_drew ?_ | refine gr_drewN ?_ _ | refine gr_setCell ?_ (.inr (by simp; omega)) _)) hg6); clear hg6
        replace HS := Lib.hid hs6; clear hs6
        have cX := HGA.out.cas.1.at_ CaV.row_len HX.out 5 _ rfl
        have fX := HGA.out.1.1.frozen (i * 8 + 5)
        simp only [Nat.zero_add, Nat.add_zero] at cX fX
        have cY := HGA.out.cas.1.at_ CaV.row_len HX.out 6 _ rfl
        have fY := HGA.out.1.1.frozen (i * 8 + 6)
        simp only [Nat.zero_add] at cY fY
        go_wp2_with fail
        go_ret
        exact ⟨_, rfl, ⟨_, n, c, _, rfl, (HGA.out.set1 (j := 5) HX.out (a' := { x with pat := r5 }) (by omega) rfl ⟨o1, o2⟩ (by omega)).set1 (j := 6) (get_set' HX.out) (a' := { x with pat := r5, talk := r6 }) (by omega) rfl ⟨o1, o2⟩ (by omega), by omega⟩, ((HS.out.setCell (by simp; omega) _).setCell (by simp; omega) _).mono (by omega), gr_setCell (gr_setCell HG.out (.inr (by simp; omega)) _) (.inr (by simp; omega)) _⟩
      · go_wp2_with fail
        refine (odd_any sb _ 0 9 _ (by first | exact HS.out | exact HS.out.alloc _ | exact (HS.out.alloc _).alloc _ | exact ((HS.out.alloc _).alloc _).alloc _ | exact HS.out.drewN _ | exact HS.out.setCell (by simp; omega) _ | exact (HS.out.alloc _).setCell (by simp; omega) _ | exact (HS.out.setCell (by simp; omega) _).alloc _ | exact (HS.out.setCell (by simp; omega) _).drewN _ | exact (HS.out.alloc _).drewN _) (by omega) (by omega) (by omega) (by omega)).mono ?_
        rintro e w5 ⟨v5, rfl, ⟨r5, hlo5, hhi5, rfl⟩, hs5, hg5⟩
        replace HGA := Lib.hid (HGA.out.low hg5 (fun g e => by injection e with e; omega))
        have z5 := hg5.size; try simp at z5
        replace HG := Lib.hid (gr_same (a := w) (by repeat (first | exact HG.out | refine gr_alloc ?_ _ | refine gr_drew ?_ | refine gr_drewN ?_ _ | refine gr_setCell ?_ (.inr (by simp; omega)) _)) hg5); clear hg5
        replace HS := Lib.hid hs5; clear hs5
        have cX := HGA.out.cas.1.at_ CaV.row_len HX.out 4 _ rfl
        have fX := HGA.out.1.1.frozen (i * 8 + 4)
        simp only [Nat.zero_add, Nat.add_zero] at cX fX
        go_wp2_with fail
        go_ret
        exact ⟨_, rfl, ⟨_, n, c, _, rfl, HGA.out.set1 (j := 4) HX.out (a' := { x with prio := r5 }) (by omega) rfl ⟨o1, o2⟩ (by omega), by omega⟩, (HS.out.setCell (by simp; omega) _).mono (by omega), gr_setCell HG.out (.inr (by simp; omega)) _⟩
  · have hp' : decide ((0 : Int) < (n : Int)) = false := decide_eq_false (by omega)
    have hp2 : decide (0 < n) = false := decide_eq_false hp
    go_wp2_with fail
    go_ret
    exact ⟨_, rfl, ⟨A, n, c, l, rfl, HGA.out, hn⟩, HS.out.mono (by omega), HG.out⟩
end Go.Proofs.YtnmodobkennklaaGreatDoor

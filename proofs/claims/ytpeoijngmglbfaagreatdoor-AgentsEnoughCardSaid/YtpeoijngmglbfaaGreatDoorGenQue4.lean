/- Contract of the generator of agents. Conditions: none. -/
import Derived.Test.YtpeoijngmglbfaaGreatDoorGenQue3
import Derived.Test.YtpeoijngmglbfaaGreatDoorGenQue2
import Derived.Test.YtpeoijngmglbfaaGreatDoorBun1
namespace Go.Proofs.YtpeoijngmglbfaaGreatDoor
open Go.RowKit

theorem some_newD (sb : Nat) (m : Int) (k : Nat) (W : World) (hs : Str W sb m) (hm : m ≤ 1152921504606846976) {g n : Nat} {cs : Array Value} (hg : W.heap.size = g) (hcs : StrsOk k cs.toList) (hn : cs.size = n) (h0 : 1 ≤ n) (h1 : n ≤ 1000) :
    Calls Tryz.prog 21 #[.pointer (some ⟨sb, 0, none⟩), .slice (some ⟨g, 0, none⟩) n n] (W.alloc (.cells cs 9)).drew (Drawn sb (m + 1) (StrBd k) W) := by
  refine Calls.mono (show Calls Tryz.prog 21 #[.pointer (some ⟨sb, 0, none⟩), .slice (some ⟨g, 0, none⟩) n n] (W.alloc (.cells cs 9)).drew (Drawn sb (m + 1) (StrBd k) W.drew) from some_new sb m k W.drew hs.drew hm hg hcs hn h0 h1) ?_
  rintro e w' ⟨v, rfl, hv, hs', hg'⟩
  exact ⟨v, rfl, hv, hs', gr_same (gr_drew (gr_refl _ _)) hg'⟩
set_option maxHeartbeats 8000000 in
set_option maxRecDepth 100000 in
theorem agents_any (sb : Nat) (m : Int) (w : World) (hs : Str w sb m) (hm : m ≤ 10000000000) : Calls Tryz.prog 7 #[.pointer (some ⟨sb, 0, none⟩)] w (Drawn sb (m + 100) (IsAgs w.heap.size 3) w) := by
  have hlt := hs.lt
  have HS := Lib.hid hs; clear hs
  have HG := Lib.hid (gr_refl w (some sb))
  go_enter Tryz.func7, Tryz.ntmps7
  go_wp2_with fail
  refine (rightAgents_any sb _ _ (by first | exact HS.out | exact HS.out.alloc _ | exact (HS.out.alloc _).alloc _ | exact ((HS.out.alloc _).alloc _).alloc _ | exact HS.out.drewN _ | exact HS.out.setCell (by simp; omega) _ | exact (HS.out.alloc _).setCell (by simp; omega) _ | exact (HS.out.setCell (by simp; omega) _).alloc _ | exact (HS.out.setCell (by simp; omega) _).drewN _ | exact (HS.out.alloc _).drewN _) (by omega)).mono ?_
  rintro e w1 ⟨v1, rfl, ⟨A, n, c, l, rfl, hga, hn, hlb⟩, hs1, hg1⟩
  have HGA := Lib.hid hga; have HLB := Lib.hid hlb; clear hga hlb
  have z1 := hg1.size
  replace HG := Lib.hid (gr_same HG.out hg1); clear hg1
  replace HS := Lib.hid hs1; clear hs1
  by_cases hp : 0 < n
  · have hp' : decide ((0 : Int) < (n : Int)) = true := decide_eq_true (by omega)
    have hp2 : decide (0 < n) = true := decide_eq_true hp
    go_wp2_with fail
    refine (flip_any sb _ 12 _ (by first | exact HS.out | exact HS.out.alloc _ | exact (HS.out.alloc _).alloc _ | exact ((HS.out.alloc _).alloc _).alloc _ | exact HS.out.drewN _ | exact HS.out.setCell (by simp; omega) _ | exact (HS.out.alloc _).setCell (by simp; omega) _ | exact (HS.out.setCell (by simp; omega) _).alloc _ | exact (HS.out.setCell (by simp; omega) _).drewN _ | exact (HS.out.alloc _).drewN _) (by omega) (by omega) (by omega)).mono ?_
    rintro e w2 ⟨v2, rfl, ⟨f2, rfl⟩, hs2, hg2⟩
    replace HGA := Lib.hid (HGA.out.low hg2 (fun g e => by injection e with e; omega))
    have z2 := hg2.size; try simp at z2
    replace HG := Lib.hid (gr_same (a := w) (by repeat (first | exact HG.out | refine gr_alloc ?_ _ | refine gr_drew ?_ | refine gr_drewN ?_ _ | refine gr_setCell ?_ (.inr (by simp; omega)) _)) hg2); clear hg2
    replace HS := Lib.hid hs2; clear hs2
    cases f2
    · go_wp2_with fail
      go_ret
      exact ⟨_, rfl, ⟨A, n, c, l, rfl, HGA.out.ags, hn⟩, HS.out.mono (by omega), HG.out⟩
    · obtain ⟨g, rfl, hgl, hgs⟩ := HGA.out.1.1.pos hp
      go_wp2_with fail
      refine (next_any sb _ n _ (by first | exact HS.out | exact HS.out.alloc _ | exact (HS.out.alloc _).alloc _ | exact ((HS.out.alloc _).alloc _).alloc _ | exact HS.out.drewN _ | exact HS.out.setCell (by simp; omega) _ | exact (HS.out.alloc _).setCell (by simp; omega) _ | exact (HS.out.setCell (by simp; omega) _).alloc _ | exact (HS.out.setCell (by simp; omega) _).drewN _ | exact (HS.out.alloc _).drewN _) (by omega) (by omega) (by omega)).mono ?_
      rintro e w3 ⟨v3, rfl, ⟨r3, hlo3, hhi3, rfl⟩, hs3, hg3⟩
      replace HGA := Lib.hid (HGA.out.low hg3 (fun g e => by injection e with e; omega))
      have z3 := hg3.size; try simp at z3
      replace HG := Lib.hid (gr_same (a := w) (by repeat (first | exact HG.out | refine gr_alloc ?_ _ | refine gr_drew ?_ | refine gr_drewN ?_ _ | refine gr_setCell ?_ (.inr (by simp; omega)) _)) hg3); clear hg3
      replace HS := Lib.hid hs3; clear hs3
      obtain ⟨i, rfl⟩ : ∃ i : Nat, r3 = i := ⟨r3.toNat, by omega⟩
      have hin : i < n := by omega
      have hin' : (i : Int) < (n : Int) := by omega
      obtain ⟨x, hx⟩ : ∃ x, l[i]? = some x := ⟨_, List.getElem?_eq_getElem (by rw [HGA.out.1.2]; exact hin)⟩
      obtain ⟨o1, o2, _⟩ := HLB.out x (mem_of_get hx)
      obtain ⟨b1, b2, b3, b4⟩ := (HGA.out.2.1 x (mem_of_get hx)).1
      have HX := Lib.hid hx; have HB2 := Lib.hid b2; clear hx b2
      go_wp2_with fail
      refine (next_any sb _ 5 _ (by first | exact HS.out | exact HS.out.alloc _ | exact (HS.out.alloc _).alloc _ | exact ((HS.out.alloc _).alloc _).alloc _ | exact HS.out.drewN _ | exact HS.out.setCell (by simp; omega) _ | exact (HS.out.alloc _).setCell (by simp; omega) _ | exact (HS.out.setCell (by simp; omega) _).alloc _ | exact (HS.out.setCell (by simp; omega) _).drewN _ | exact (HS.out.alloc _).drewN _) (by omega) (by omega) (by omega)).mono ?_
      rintro e w4 ⟨v4, rfl, ⟨r4, hlo4, hhi4, rfl⟩, hs4, hg4⟩
      replace HGA := Lib.hid (HGA.out.low hg4 (fun g e => by injection e with e; omega))
      have z4 := hg4.size; try simp at z4
      replace HG := Lib.hid (gr_same (a := w) (by repeat (first | exact HG.out | refine gr_alloc ?_ _ | refine gr_drew ?_ | refine gr_drewN ?_ _ | refine gr_setCell ?_ (.inr (by simp; omega)) _)) hg4); clear hg4
      replace HS := Lib.hid hs4; clear hs4
      have hgs4 : g < w4.heap.size := by omega
      rcases (by omega : r4 = 0 ∨ r4 = 1 ∨ r4 = 2 ∨ r4 = 3 ∨ r4 = 4) with rfl | rfl | rfl | rfl | rfl
      · go_wp2_with fail
        refine (some_new (n := 3) sb _ 2 _ (by first | exact HS.out | exact HS.out.alloc _ | exact (HS.out.alloc _).alloc _ | exact ((HS.out.alloc _).alloc _).alloc _ | exact HS.out.drewN _ | exact HS.out.setCell (by simp; omega) _ | exact (HS.out.alloc _).setCell (by simp; omega) _ | exact (HS.out.setCell (by simp; omega) _).alloc _ | exact (HS.out.setCell (by simp; omega) _).drewN _ | exact (HS.out.alloc _).drewN _) (by omega) (by simp) (by
          repeat (first | exact StrsOk.nil _ | refine StrsOk.cons (by decide) ?_)) rfl (by omega) (by omega)).mono ?_
        rintro e w5 ⟨v5, rfl, ⟨y5, rfl, hy5⟩, hs5, hg5⟩
        replace HGA := Lib.hid (HGA.out.low hg5 (fun g e => by injection e with e; omega))
        have z5 := hg5.size; try simp at z5
        replace HG := Lib.hid (gr_same (a := w) (by repeat (first | exact HG.out | refine gr_alloc ?_ _ | refine gr_drew ?_ | refine gr_drewN ?_ _ | refine gr_setCell ?_ (.inr (by simp; omega)) _)) hg5); clear hg5
        replace HS := Lib.hid hs5; clear hs5
        have cX := HGA.out.1.recs.at_ AgV.row_len HX.out 0 _ rfl
        have fX := HGA.out.1.1.frozen (i * 6 + 0)
        simp only [Nat.zero_add, Nat.add_zero] at cX fX
        go_wp2_with fail
        go_ret
        exact ⟨_, rfl, ⟨_, n, c, _, rfl, (HGA.out.set1 (j := 0) HX.out (a' := { x with key := y5 }) (by omega) rfl ⟨Nat.le_trans hy5 (by decide), HB2.out, b3, b4⟩ ⟨rfl, rfl, rfl, rfl, rfl, rfl, rfl, rfl⟩ (by omega)).ags, by omega⟩, (HS.out.setCell (by simp; omega) _).mono (by omega), gr_setCell HG.out (.inr (by simp; omega)) _⟩
      · have cX := HGA.out.1.recs.at_ AgV.row_len HX.out 1 _ rfl
        have fX := HGA.out.1.1.frozen (i * 6 + 1)
        simp only [Nat.zero_add, Nat.add_zero] at cX fX
        go_wp2_with fail
        refine wp_region_lex (fun w' => w'.cell? ⟨g, i * 6 + 1, none⟩ = some (.slice x.sA x.sn x.sc)) [0, 1, 2, 3, 4, 5, 8, 6, 7, 9, 10, 11, 12, 13, 14, 15] (by kernel_rfl) (by kernel_rfl) ?_
        have hHeld : w4.drew.cell? ⟨g, i * 6 + 1, none⟩ = some (.slice x.sA x.sn x.sc) := cX
        repeat (
          refine lex_take (v := ?_) (by rfl) (by rfl) (by exact fun _ _ _ h => h) (by rfl) ?_ (by assumption) ?_
          rotate_left 1
          · intro w hSw
            (try dsimp only at hSw)
            go_simp
            (try with_reducible rfl)
          (try simp only [Act.put, List.setIfInBounds_toArray, List.set_cons_zero, List.set_cons_succ]))
        refine lex_run (by rfl) (by rfl) (by rfl) (fun K hK => ?_)
        go_simp
        refine hK _ _ (.inr (by go_keep)) ?_
        clear hK K hHeld
        have hHeld : (w4.alloc (.cells #[.string ⟨#[104, 101, 108, 112]⟩, .string ⟨#[122, 122]⟩, .string ⟨#[]⟩] 9)).drew.cell? ⟨g, i * 6 + 1, none⟩ = some (.slice x.sA x.sn x.sc) := by go_keep
        refine lex_run (by rfl) (by rfl) (by rfl) (fun K hK => ?_)
        go_simp
        refine (some_newD (n := 3) sb _ 4 _ (by exact HS.out) (by omega) rfl (by
          repeat (first | exact StrsOk.nil _ | refine StrsOk.cons (by decide) ?_)) rfl (by omega) (by omega)).mono ?_
        rintro e w5 ⟨v5, rfl, ⟨y5, rfl, hy5⟩, hs5, hg5⟩
        have HGA5 := Lib.hid (HGA.out.low hg5 (fun g e => by injection e with e; omega))
        have HG5 := Lib.hid (gr_same HG.out hg5)
        have HS5 := Lib.hid hs5
        have z5 := hg5.size
        have hgs5 : g < w5.heap.size := by omega
        clear hs5 hg5
        go_simp
        refine hK _ _ (.inr (by have h := (HGA5.out.1.recs.at_ AgV.row_len HX.out 1 _ rfl); simpa using h)) ?_
        clear hK K hHeld
        have hHeld := (HGA5.out.1.recs.at_ AgV.row_len HX.out 1 _ rfl)
        (try simp only [Nat.zero_add] at hHeld)
        repeat (
          refine lex_take (v := ?_) (by rfl) (by rfl) (by exact fun _ _ _ h => h) (by rfl) ?_ (by assumption) ?_
          rotate_left 1
          · intro w hSw
            (try dsimp only at hSw)
            go_simp
            (try with_reducible rfl)
          (try simp only [Act.put, List.setIfInBounds_toArray, List.set_cons_zero, List.set_cons_succ]))
        refine lex_run (by rfl) (by rfl) (by rfl) (fun K hK => ?_)
        go_simp
        (with_reducible refine (odd_any sb _ 1 9 _ HS5.out (by omega) (by omega) (by omega) (by omega)).mono ?_)
        rintro e w6 ⟨v6, rfl, ⟨r6, hlo6, hhi6, rfl⟩, hs6, hg6⟩
        have HGA6 := Lib.hid (HGA5.out.low hg6 (fun g e => by injection e with e; omega))
        have HG6 := Lib.hid (gr_same HG5.out hg6)
        have HS6 := Lib.hid hs6
        have z6 := hg6.size
        have hgs6 : g < w6.heap.size := by omega
        clear hs6 hg6
        go_simp
        have HO6 := Lib.hid (HGA6.out.2.1 x (mem_of_get HX.out)).2.1.1
        refine hK _ _ (.inr (by have h := (HGA6.out.1.recs.at_ AgV.row_len HX.out 1 _ rfl); simpa using h)) ?_
        clear hK K hHeld
        have hHeld := (HGA6.out.1.recs.at_ AgV.row_len HX.out 1 _ rfl)
        (try simp only [Nat.zero_add] at hHeld)
        repeat (
          refine lex_take (v := ?_) (by rfl) (by rfl) (by exact fun _ _ _ h => h) (by rfl) ?_ (by assumption) ?_
          rotate_left 1
          · intro w hSw
            (try dsimp only at hSw)
            go_simp
            (try with_reducible rfl)
          (try simp only [Act.put, List.setIfInBounds_toArray, List.set_cons_zero, List.set_cons_succ]))
        refine lex_run (by rfl) (by rfl) (by rfl) (fun K hK => ?_)
        go_simp
        refine hK _ _ (.inr (by go_keep)) ?_
        clear hK K hHeld
        have hHeld : (w6.alloc (.cells #[.string y5, .int .i64 r6] 79)).cell? ⟨g, i * 6 + 1, none⟩ = some (.slice x.sA x.sn x.sc) := by have h := (HGA6.out.1.alloc (.cells #[.string y5, .int .i64 r6] 79)).recs.at_ AgV.row_len HX.out 1 _ rfl; simpa using h
        refine lex_run (by rfl) (by rfl) (by rfl) (fun K hK => ?_)
        refine wp_app _ _ _ Tryz.sksT (by rfl) w.heap.size x.sA x.sn x.sc (x.sk.flatMap skRow) (by rfl) (by exact HO6.out.alloc _) _ _ 1 1 [.string y5, .int .i64 r6] (by rfl) (by exact Reads.one _ _ _ _ rfl) (by simp [Value.oneCell']) (by unfold maxLen; omega) (by omega) (by simp; omega) ?_
        intro A1 c1 w8 h8
        have hm8 := (HGA6.out.1.alloc (.cells #[.string y5, .int .i64 r6] 79)).kept h8.2.1 (fun g' e => Own.ne HO6.out HGA6.out.1.1 (by decide) e)
        have c8 := hm8.recs.at_ AgV.row_len HX.out 1 _ rfl
        have f8 := hm8.1.frozen (i * 6 + 1)
        simp only [Nat.zero_add] at c8 f8
        have H8 := Lib.hid h8
        clear h8 hm8
        refine hK _ _ (.inr c8) ?_
        clear hK K hHeld
        have hHeld := c8
        repeat (
          refine lex_take (v := ?_) (by rfl) (by rfl) (by exact fun _ _ _ h => h) (by rfl) ?_ (by assumption) ?_
          rotate_left 1
          · intro w hSw
            (try dsimp only at hSw)
            go_simp
            (try with_reducible rfl)
          (try simp only [Act.put, List.setIfInBounds_toArray, List.set_cons_zero, List.set_cons_succ]))
        refine lex_run (by rfl) (by rfl) (by rfl) (fun K hK => ?_)
        go_simp
        refine hK _ _ (.inl (by rfl)) ?_
        clear hK K hHeld
        refine lex_end ?_
        all_goals
          go_wp2_with fail
          go_ret
          exact ⟨_, rfl, ⟨_, n, c, _, rfl, GAgs.skills (HGA6.out.low (gr_alloc (gr_refl _ none) _) (fun g e => by cases e)) HX.out (s := (y5, r6)) rfl (Nat.le_trans hy5 (by decide)) (by omega) H8.out (by omega), by omega⟩, ((((HS6.out.alloc _).grown H8.out.2.1 (fun g e => by have := (HO6.out.lt e).1; omega)).setCell (by simp; omega) _).mono (by omega)), gr_setCell (H8.out.gr (gr_alloc HG6.out _) (HO6.out.alloc _) (Nat.le_refl _)) (.inr (by simp; omega)) _⟩
      · go_wp2_with fail
        refine (odd_any sb _ 0 50 _ (by first | exact HS.out | exact HS.out.alloc _ | exact (HS.out.alloc _).alloc _ | exact ((HS.out.alloc _).alloc _).alloc _ | exact HS.out.drewN _ | exact HS.out.setCell (by simp; omega) _ | exact (HS.out.alloc _).setCell (by simp; omega) _ | exact (HS.out.setCell (by simp; omega) _).alloc _ | exact (HS.out.setCell (by simp; omega) _).drewN _ | exact (HS.out.alloc _).drewN _) (by omega) (by omega) (by omega) (by omega)).mono ?_
        rintro e w5 ⟨v5, rfl, ⟨r5, hlo5, hhi5, rfl⟩, hs5, hg5⟩
        replace HGA := Lib.hid (HGA.out.low hg5 (fun g e => by injection e with e; omega))
        have z5 := hg5.size; try simp at z5
        replace HG := Lib.hid (gr_same (a := w) (by repeat (first | exact HG.out | refine gr_alloc ?_ _ | refine gr_drew ?_ | refine gr_drewN ?_ _ | refine gr_setCell ?_ (.inr (by simp; omega)) _)) hg5); clear hg5
        replace HS := Lib.hid hs5; clear hs5
        go_wp2_with fail
        refine (odd_any sb _ 0 100 _ (by first | exact HS.out | exact HS.out.alloc _ | exact (HS.out.alloc _).alloc _ | exact ((HS.out.alloc _).alloc _).alloc _ | exact HS.out.drewN _ | exact HS.out.setCell (by simp; omega) _ | exact (HS.out.alloc _).setCell (by simp; omega) _ | exact (HS.out.setCell (by simp; omega) _).alloc _ | exact (HS.out.setCell (by simp; omega) _).drewN _ | exact (HS.out.alloc _).drewN _) (by omega) (by omega) (by omega) (by omega)).mono ?_
        rintro e w6 ⟨v6, rfl, ⟨r6, hlo6, hhi6, rfl⟩, hs6, hg6⟩
        replace HGA := Lib.hid (HGA.out.low hg6 (fun g e => by injection e with e; omega))
        have z6 := hg6.size; try simp at z6
        replace HG := Lib.hid (gr_same (a := w) (by repeat (first | exact HG.out | refine gr_alloc ?_ _ | refine gr_drew ?_ | refine gr_drewN ?_ _ | refine gr_setCell ?_ (.inr (by simp; omega)) _)) hg6); clear hg6
        replace HS := Lib.hid hs6; clear hs6
        have cX := HGA.out.1.recs.at_ AgV.row_len HX.out 2 _ rfl
        have fX := HGA.out.1.1.frozen (i * 6 + 2)
        simp only [Nat.zero_add, Nat.add_zero] at cX fX
        have cY := HGA.out.1.recs.at_ AgV.row_len HX.out 3 _ rfl
        have fY := HGA.out.1.1.frozen (i * 6 + 3)
        simp only [Nat.zero_add] at cY fY
        go_wp2_with fail
        go_ret
        exact ⟨_, rfl, ⟨_, n, c, _, rfl, ((HGA.out.set1 (j := 2) HX.out (a' := { x with fr := r5 }) (by omega) rfl ⟨b1, HB2.out, b3, b4⟩ ⟨rfl, rfl, rfl, rfl, rfl, rfl, rfl, rfl⟩ (by omega)).set1 (j := 3) (get_set' HX.out) (a' := { x with fr := r5, til := r6 }) (by omega) rfl ⟨b1, HB2.out, b3, b4⟩ ⟨rfl, rfl, rfl, rfl, rfl, rfl, rfl, rfl⟩ (by omega)).ags, by omega⟩, ((HS.out.setCell (by simp; omega) _).setCell (by simp; omega) _).mono (by omega), gr_setCell (gr_setCell HG.out (.inr (by simp; omega)) _) (.inr (by simp; omega)) _⟩
      · have cX := HGA.out.1.recs.at_ AgV.row_len HX.out 4 _ rfl
        have fX := HGA.out.1.1.frozen (i * 6 + 4)
        simp only [Nat.zero_add, Nat.add_zero] at cX fX
        go_wp2_with fail
        refine wp_region_lex (fun w' => w'.cell? ⟨g, i * 6 + 4, none⟩ = some (.slice x.pA x.pn x.pc)) [0, 1, 2, 3, 4, 5, 7, 6, 8, 9, 10, 11, 12, 13, 14] (by kernel_rfl) (by kernel_rfl) ?_
        have hHeld : w4.drew.cell? ⟨g, i * 6 + 4, none⟩ = some (.slice x.pA x.pn x.pc) := cX
        repeat (
          refine lex_take (v := ?_) (by rfl) (by rfl) (by exact fun _ _ _ h => h) (by rfl) ?_ (by assumption) ?_
          rotate_left 1
          · intro w hSw
            (try dsimp only at hSw)
            go_simp
            (try with_reducible rfl)
          (try simp only [Act.put, List.setIfInBounds_toArray, List.set_cons_zero, List.set_cons_succ]))
        refine lex_run (by rfl) (by rfl) (by rfl) (fun K hK => ?_)
        go_simp
        (with_reducible refine (odd_any sb _ 0 50 _ HS.out.drew (by omega) (by omega) (by omega) (by omega)).mono ?_)
        rintro e w5 ⟨v5, rfl, ⟨r5, hlo5, hhi5, rfl⟩, hs5, hg5⟩
        replace hg5 : w4.grownBy w5 (some sb) := gr_same (gr_drew (gr_refl _ _)) hg5
        have HGA5 := Lib.hid (HGA.out.low hg5 (fun g e => by injection e with e; omega))
        have HG5 := Lib.hid (gr_same HG.out hg5)
        have HS5 := Lib.hid hs5
        have z5 := hg5.size
        have hgs5 : g < w5.heap.size := by omega
        clear hs5 hg5
        go_simp
        refine hK _ _ (.inr (by have h := (HGA5.out.1.recs.at_ AgV.row_len HX.out 4 _ rfl); simpa using h)) ?_
        clear hK K hHeld
        have hHeld := (HGA5.out.1.recs.at_ AgV.row_len HX.out 4 _ rfl)
        (try simp only [Nat.zero_add] at hHeld)
        repeat (
          refine lex_take (v := ?_) (by rfl) (by rfl) (by exact fun _ _ _ h => h) (by rfl) ?_ (by assumption) ?_
          rotate_left 1
          · intro w hSw
            (try dsimp only at hSw)
            go_simp
            (try with_reducible rfl)
          (try simp only [Act.put, List.setIfInBounds_toArray, List.set_cons_zero, List.set_cons_succ]))
        refine lex_run (by rfl) (by rfl) (by rfl) (fun K hK => ?_)
        go_simp
        (with_reducible refine (odd_any sb _ 0 100 _ HS5.out (by omega) (by omega) (by omega) (by omega)).mono ?_)
        rintro e w6 ⟨v6, rfl, ⟨r6, hlo6, hhi6, rfl⟩, hs6, hg6⟩
        have HGA6 := Lib.hid (HGA5.out.low hg6 (fun g e => by injection e with e; omega))
        have HG6 := Lib.hid (gr_same HG5.out hg6)
        have HS6 := Lib.hid hs6
        have z6 := hg6.size
        have hgs6 : g < w6.heap.size := by omega
        clear hs6 hg6
        go_simp
        have HO6 := Lib.hid (HGA6.out.2.1 x (mem_of_get HX.out)).2.2.1
        refine hK _ _ (.inr (by have h := (HGA6.out.1.recs.at_ AgV.row_len HX.out 4 _ rfl); simpa using h)) ?_
        clear hK K hHeld
        have hHeld := (HGA6.out.1.recs.at_ AgV.row_len HX.out 4 _ rfl)
        (try simp only [Nat.zero_add] at hHeld)
        repeat (
          refine lex_take (v := ?_) (by rfl) (by rfl) (by exact fun _ _ _ h => h) (by rfl) ?_ (by assumption) ?_
          rotate_left 1
          · intro w hSw
            (try dsimp only at hSw)
            go_simp
            (try with_reducible rfl)
          (try simp only [Act.put, List.setIfInBounds_toArray, List.set_cons_zero, List.set_cons_succ]))
        refine lex_run (by rfl) (by rfl) (by rfl) (fun K hK => ?_)
        go_simp
        refine hK _ _ (.inr (by go_keep)) ?_
        clear hK K hHeld
        have hHeld : (w6.alloc (.cells #[.int .i64 r5, .int .i64 r6] 73)).cell? ⟨g, i * 6 + 4, none⟩ = some (.slice x.pA x.pn x.pc) := by have h := (HGA6.out.1.alloc (.cells #[.int .i64 r5, .int .i64 r6] 73)).recs.at_ AgV.row_len HX.out 4 _ rfl; simpa using h
        refine lex_run (by rfl) (by rfl) (by rfl) (fun K hK => ?_)
        refine wp_app _ _ _ Tryz.winsT (by rfl) w.heap.size x.pA x.pn x.pc (x.ps.flatMap pwRow) (by rfl) (by exact HO6.out.alloc _) _ _ 1 1 [.int .i64 r5, .int .i64 r6] (by rfl) (by exact Reads.one _ _ _ _ rfl) (by simp [Value.oneCell']) (by unfold maxLen; omega) (by omega) (by simp; omega) ?_
        intro A1 c1 w8 h8
        have hm8 := (HGA6.out.1.alloc (.cells #[.int .i64 r5, .int .i64 r6] 73)).kept h8.2.1 (fun g' e => Own.ne HO6.out HGA6.out.1.1 (by decide) e)
        have c8 := hm8.recs.at_ AgV.row_len HX.out 4 _ rfl
        have f8 := hm8.1.frozen (i * 6 + 4)
        simp only [Nat.zero_add] at c8 f8
        have H8 := Lib.hid h8
        clear h8 hm8
        refine hK _ _ (.inr c8) ?_
        clear hK K hHeld
        have hHeld := c8
        repeat (
          refine lex_take (v := ?_) (by rfl) (by rfl) (by exact fun _ _ _ h => h) (by rfl) ?_ (by assumption) ?_
          rotate_left 1
          · intro w hSw
            (try dsimp only at hSw)
            go_simp
            (try with_reducible rfl)
          (try simp only [Act.put, List.setIfInBounds_toArray, List.set_cons_zero, List.set_cons_succ]))
        refine lex_run (by rfl) (by rfl) (by rfl) (fun K hK => ?_)
        go_simp
        refine hK _ _ (.inl (by rfl)) ?_
        clear hK K hHeld
        refine lex_end ?_
        all_goals
          go_wp2_with fail
          go_ret
          exact ⟨_, rfl, ⟨_, n, c, _, rfl, GAgs.pauses (HGA6.out.low (gr_alloc (gr_refl _ none) _) (fun g e => by cases e)) HX.out (s := (r5, r6)) rfl (by omega) H8.out (by omega), by omega⟩, ((((HS6.out.alloc _).grown H8.out.2.1 (fun g e => by have := (HO6.out.lt e).1; omega)).setCell (by simp; omega) _).mono (by omega)), gr_setCell (H8.out.gr (gr_alloc HG6.out _) (HO6.out.alloc _) (Nat.le_refl _)) (.inr (by simp; omega)) _⟩
      · go_wp2_with fail
        refine (odd_any sb _ 0 100 _ (by first | exact HS.out | exact HS.out.alloc _ | exact (HS.out.alloc _).alloc _ | exact ((HS.out.alloc _).alloc _).alloc _ | exact HS.out.drewN _ | exact HS.out.setCell (by simp; omega) _ | exact (HS.out.alloc _).setCell (by simp; omega) _ | exact (HS.out.setCell (by simp; omega) _).alloc _ | exact (HS.out.setCell (by simp; omega) _).drewN _ | exact (HS.out.alloc _).drewN _) (by omega) (by omega) (by omega) (by omega)).mono ?_
        rintro e w5 ⟨v5, rfl, ⟨r5, hlo5, hhi5, rfl⟩, hs5, hg5⟩
        replace HGA := Lib.hid (HGA.out.low hg5 (fun g e => by injection e with e; omega))
        have z5 := hg5.size; try simp at z5
        replace HG := Lib.hid (gr_same (a := w) (by repeat (first | exact HG.out | refine gr_alloc ?_ _ | refine gr_drew ?_ | refine gr_drewN ?_ _ | refine gr_setCell ?_ (.inr (by simp; omega)) _)) hg5); clear hg5
        replace HS := Lib.hid hs5; clear hs5
        have cX := HGA.out.1.recs.at_ AgV.row_len HX.out 5 _ rfl
        have fX := HGA.out.1.1.frozen (i * 6 + 5)
        simp only [Nat.zero_add, Nat.add_zero] at cX fX
        go_wp2_with fail
        go_ret
        exact ⟨_, rfl, ⟨_, n, c, _, rfl, (HGA.out.set1 (j := 5) HX.out (a' := { x with wrap := r5 }) (by omega) rfl ⟨b1, HB2.out, b3, b4⟩ ⟨rfl, rfl, rfl, rfl, rfl, rfl, rfl, rfl⟩ (by omega)).ags, by omega⟩, (HS.out.setCell (by simp; omega) _).mono (by omega), gr_setCell HG.out (.inr (by simp; omega)) _⟩
  · have hp' : decide ((0 : Int) < (n : Int)) = false := decide_eq_false (by omega)
    have hp2 : decide (0 < n) = false := decide_eq_false hp
    go_wp2_with fail
    go_ret
    exact ⟨_, rfl, ⟨A, n, c, l, rfl, HGA.out.ags, hn⟩, HS.out.mono (by omega), HG.out⟩
end Go.Proofs.YtpeoijngmglbfaaGreatDoor

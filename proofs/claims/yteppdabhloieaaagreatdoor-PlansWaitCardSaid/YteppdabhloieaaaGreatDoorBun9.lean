/- Contracts of the generators Hours and Moment. Conditions: none. -/
import Derived.Test.YteppdabhloieaaaGreatDoorGenHou1
import Derived.Test.YteppdabhloieaaaGreatDoorHou3
import Derived.Test.YteppdabhloieaaaGreatDoorBun7
import Derived.Test.YteppdabhloieaaaGreatDoorBun4
import Derived.WalkKit
import Derived.Deep.QuietTactic
import Derived.BigQuiet
namespace Go.Proofs.YteppdabhloieaaaGreatDoor
section
open Go.RowKit
set_option maxHeartbeats 8000000 in
set_option maxRecDepth 100000 in
theorem hours_any (sb : Nat) (m : Int) (w : World) (hs : Str w sb m) (hm : m ≤ 10000000000) : Calls Tryz.prog 41 #[.pointer (some ⟨sb, 0, none⟩)] w (Drawn sb (m + 150) (IsHrs w.heap.size 2) w) := by
 have hlt := hs.lt
 have HS := Lib.hid hs; clear hs
 have HG := Lib.hid (gr_refl w (some sb))
 go_enter Tryz.func41, Tryz.ntmps41
 go_wp2_with fail
 refine (rightHours_any sb _ _ (by first | exact HS.out | exact HS.out.alloc _ | exact (HS.out.alloc _).alloc _ | exact ((HS.out.alloc _).alloc _).alloc _ | exact HS.out.drewN _ | exact HS.out.setCell (by simp; omega) _ | exact (HS.out.alloc _).setCell (by simp; omega) _ | exact (HS.out.setCell (by simp; omega) _).alloc _ | exact (HS.out.setCell (by simp; omega) _).drewN _ | exact (HS.out.alloc _).drewN _) (by omega)).mono ?_
 rintro e w1 ⟨v1, rfl, ⟨A, c, l, rfl, hga, hlb⟩, hs1, hg1⟩
 have HGA := Lib.hid hga; have HLB := Lib.hid hlb; clear hga hlb
 have z1 := hg1.size
 replace HG := Lib.hid (gr_same HG.out hg1); clear hg1
 replace HS := Lib.hid hs1; clear hs1
 go_wp2_with fail
 refine (flip_any sb _ 10 _ (by first | exact HS.out | exact HS.out.alloc _ | exact (HS.out.alloc _).alloc _ | exact ((HS.out.alloc _).alloc _).alloc _ | exact HS.out.drewN _ | exact HS.out.setCell (by simp; omega) _ | exact (HS.out.alloc _).setCell (by simp; omega) _ | exact (HS.out.setCell (by simp; omega) _).alloc _ | exact (HS.out.setCell (by simp; omega) _).drewN _ | exact (HS.out.alloc _).drewN _) (by omega) (by omega) (by omega)).mono ?_
 rintro e w2 ⟨v2, rfl, ⟨f2, rfl⟩, hs2, hg2⟩
 replace HGA := Lib.hid (HGA.out.low hg2 (fun g e => by injection e with e; omega))
 have z2 := hg2.size; try simp at z2
 replace HG := Lib.hid (gr_same (a := w) (by repeat (first | exact HG.out | refine gr_alloc ?_ _ | refine gr_drew ?_ | refine gr_drewN ?_ _ | refine gr_setCell ?_ (.inr (by simp; omega)) _)) hg2); clear hg2
 replace HS := Lib.hid hs2; clear hs2
 cases f2
 · go_wp2_with fail
   go_ret
   exact ⟨_, rfl, ⟨A, c, l, rfl, HGA.out.hrs⟩, HS.out.mono (by omega), HG.out⟩
 · obtain ⟨g, rfl, hgl, hgs⟩ := HGA.out.1.1.pos (by omega)
   go_wp2_with fail
   refine (next_any sb _ 2 _ (by first | exact HS.out | exact HS.out.alloc _ | exact (HS.out.alloc _).alloc _ | exact ((HS.out.alloc _).alloc _).alloc _ | exact HS.out.drewN _ | exact HS.out.setCell (by simp; omega) _ | exact (HS.out.alloc _).setCell (by simp; omega) _ | exact (HS.out.setCell (by simp; omega) _).alloc _ | exact (HS.out.setCell (by simp; omega) _).drewN _ | exact (HS.out.alloc _).drewN _) (by omega) (by omega) (by omega)).mono ?_
   rintro e w3 ⟨v3, rfl, ⟨r3, hlo3, hhi3, rfl⟩, hs3, hg3⟩
   replace HGA := Lib.hid (HGA.out.low hg3 (fun g e => by injection e with e; omega))
   have z3 := hg3.size; try simp at z3
   replace HG := Lib.hid (gr_same (a := w) (by repeat (first | exact HG.out | refine gr_alloc ?_ _ | refine gr_drew ?_ | refine gr_drewN ?_ _ | refine gr_setCell ?_ (.inr (by simp; omega)) _)) hg3); clear hg3
   replace HS := Lib.hid hs3; clear hs3
   obtain ⟨i, rfl⟩ : ∃ i : Nat, r3 = i := ⟨r3.toNat, by omega⟩
   have hin : i < 2 := by omega
   have hin' : (i : Int) < 2 := by omega
   obtain ⟨x, hx⟩ : ∃ x, l[i]? = some x := ⟨_, List.getElem?_eq_getElem (by rw [HGA.out.1.2]; exact hin)⟩
   obtain ⟨o1, o2⟩ := HLB.out x (mem_of_get hx)
   obtain ⟨b1, b2, b3⟩ := (HGA.out.2.1 x (mem_of_get hx)).1
   have HX := Lib.hid hx; clear hx
   go_wp2_with fail
   refine (next_any sb _ 4 _ (by first | exact HS.out | exact HS.out.alloc _ | exact (HS.out.alloc _).alloc _ | exact ((HS.out.alloc _).alloc _).alloc _ | exact HS.out.drewN _ | exact HS.out.setCell (by simp; omega) _ | exact (HS.out.alloc _).setCell (by simp; omega) _ | exact (HS.out.setCell (by simp; omega) _).alloc _ | exact (HS.out.setCell (by simp; omega) _).drewN _ | exact (HS.out.alloc _).drewN _) (by omega) (by omega) (by omega)).mono ?_
   rintro e w4 ⟨v4, rfl, ⟨r4, hlo4, hhi4, rfl⟩, hs4, hg4⟩
   replace HGA := Lib.hid (HGA.out.low hg4 (fun g e => by injection e with e; omega))
   have z4 := hg4.size; try simp at z4
   replace HG := Lib.hid (gr_same (a := w) (by repeat (first | exact HG.out | refine gr_alloc ?_ _ | refine gr_drew ?_ | refine gr_drewN ?_ _ | refine gr_setCell ?_ (.inr (by simp; omega)) _)) hg4); clear hg4
   replace HS := Lib.hid hs4; clear hs4
   have hgs4 : g < w4.heap.size := by omega
   rcases (by omega : r4 = 0 ∨ r4 = 1 ∨ r4 = 2 ∨ r4 = 3) with rfl | rfl | rfl | rfl
   · go_wp2_with fail
     refine (some_new (n := 3) sb _ 2 _ (by first | exact HS.out | exact HS.out.alloc _ | exact (HS.out.alloc _).alloc _ | exact ((HS.out.alloc _).alloc _).alloc _ | exact HS.out.drewN _ | exact HS.out.setCell (by simp; omega) _ | exact (HS.out.alloc _).setCell (by simp; omega) _ | exact (HS.out.setCell (by simp; omega) _).alloc _ | exact (HS.out.setCell (by simp; omega) _).drewN _ | exact (HS.out.alloc _).drewN _) (by omega) (by simp) (by
       repeat (first | exact StrsOk.nil _ | refine StrsOk.cons (by decide) ?_)) rfl (by omega) (by omega)).mono ?_
     rintro e w5 ⟨v5, rfl, ⟨y5, rfl, hy5⟩, hs5, hg5⟩
     replace HGA := Lib.hid (HGA.out.low hg5 (fun g e => by injection e with e; omega))
     have z5 := hg5.size; try simp at z5
     replace HG := Lib.hid (gr_same (a := w) (by repeat (first | exact HG.out | refine gr_alloc ?_ _ | refine gr_drew ?_ | refine gr_drewN ?_ _ | refine gr_setCell ?_ (.inr (by simp; omega)) _)) hg5); clear hg5
     replace HS := Lib.hid hs5; clear hs5
     have cX := HGA.out.1.recs.at_ HrV.row_len HX.out 0 _ rfl
     have fX := HGA.out.1.1.frozen (i * 4 + 0)
     simp only [Nat.zero_add, Nat.add_zero] at cX fX
     go_wp2_with fail
     go_ret
     exact ⟨_, rfl, ⟨_, c, _, rfl, (HGA.out.set1 (j := 0) HX.out (a' := { x with key := y5 }) (by omega) rfl ⟨Nat.le_trans hy5 (by decide), b2, b3⟩ ⟨rfl, rfl, rfl, rfl, rfl, rfl, rfl, rfl⟩ (by omega)).hrs⟩, (HS.out.setCell (by simp; omega) _).mono (by omega), gr_setCell HG.out (.inr (by simp; omega)) _⟩
   · go_wp2_with fail
     refine (odd_any sb _ (-1440) 1440 _ (by first | exact HS.out | exact HS.out.alloc _ | exact (HS.out.alloc _).alloc _ | exact ((HS.out.alloc _).alloc _).alloc _ | exact HS.out.drewN _ | exact HS.out.setCell (by simp; omega) _ | exact (HS.out.alloc _).setCell (by simp; omega) _ | exact (HS.out.setCell (by simp; omega) _).alloc _ | exact (HS.out.setCell (by simp; omega) _).drewN _ | exact (HS.out.alloc _).drewN _) (by omega) (by omega) (by omega) (by omega)).mono ?_
     rintro e w5 ⟨v5, rfl, ⟨r5, hlo5, hhi5, rfl⟩, hs5, hg5⟩
     replace HGA := Lib.hid (HGA.out.low hg5 (fun g e => by injection e with e; omega))
     have z5 := hg5.size; try simp at z5
     replace HG := Lib.hid (gr_same (a := w) (by repeat (first | exact HG.out | refine gr_alloc ?_ _ | refine gr_drew ?_ | refine gr_drewN ?_ _ | refine gr_setCell ?_ (.inr (by simp; omega)) _)) hg5); clear hg5
     replace HS := Lib.hid hs5; clear hs5
     have cX := HGA.out.1.recs.at_ HrV.row_len HX.out 1 _ rfl
     have fX := HGA.out.1.1.frozen (i * 4 + 1)
     simp only [Nat.zero_add, Nat.add_zero] at cX fX
     go_wp2_with fail
     go_ret
     exact ⟨_, rfl, ⟨_, c, _, rfl, (HGA.out.set1 (j := 1) HX.out (a' := { x with zone := r5 }) (by omega) rfl ⟨b1, b2, b3⟩ ⟨rfl, rfl, rfl, rfl, rfl, rfl, rfl, rfl⟩ (by omega)).hrs⟩, (HS.out.setCell (by simp; omega) _).mono (by omega), gr_setCell HG.out (.inr (by simp; omega)) _⟩
   · have cX := HGA.out.1.recs.at_ HrV.row_len HX.out 2 _ rfl
     have fX := HGA.out.1.1.frozen (i * 4 + 2)
     simp only [Nat.zero_add, Nat.add_zero] at cX fX
     go_wp2_with fail
     refine wp_region_lex (fun w' => w'.cell? ⟨g, i * 4 + 2, none⟩ = some (.slice x.rA x.rn x.rc)) [0, 1, 2, 3, 4, 5, 7, 9, 6, 8, 10, 11, 12, 13, 14, 15, 16] (by kernel_rfl) (by kernel_rfl) ?_
     have hHeld : w4.drew.cell? ⟨g, i * 4 + 2, none⟩ = some (.slice x.rA x.rn x.rc) := cX
     repeat (
       refine lex_take (v := ?_) (by rfl) (by rfl) (by exact fun _ _ _ h => h) (by rfl) ?_ (by assumption) ?_
       rotate_left 1
       · intro w hSw
         (try dsimp only at hSw)
         go_simp
         (try with_reducible rfl)
       (try simp only [Act.put, l1_, l2_, l3_]))
     refine lex_run (by rfl) (by rfl) (by rfl) (fun K hK => ?_)
     go_simp
     (with_reducible refine (odd_any sb _ 1 127 _ HS.out.drew (by omega) (by omega) (by omega) (by omega)).mono ?_)
     rintro e w5 ⟨v5, rfl, ⟨r5, hlo5, hhi5, rfl⟩, hs5, hg5⟩
     replace hg5 : w4.grownBy w5 (some sb) := gr_same (gr_drew (gr_refl _ _)) hg5
     have HGA5 := Lib.hid (HGA.out.low hg5 (fun g e => by injection e with e; omega))
     have HG5 := Lib.hid (gr_same HG.out hg5)
     have HS5 := Lib.hid hs5
     have z5 := hg5.size
     have hgs5 : g < w5.heap.size := by omega
     clear hs5 hg5
     go_simp
     refine hK _ _ (.inr (by have h := (HGA5.out.1.recs.at_ HrV.row_len HX.out 2 _ rfl); simpa using h)) ?_
     clear hK K hHeld
     have hHeld := (HGA5.out.1.recs.at_ HrV.row_len HX.out 2 _ rfl)
     (try simp only [Nat.zero_add] at hHeld)
     repeat (
       refine lex_take (v := ?_) (by rfl) (by rfl) (by exact fun _ _ _ h => h) (by rfl) ?_ (by assumption) ?_
       rotate_left 1
       · intro w hSw
         (try dsimp only at hSw)
         go_simp
         (try with_reducible rfl)
       (try simp only [Act.put, l1_, l2_, l3_]))
     refine lex_run (by rfl) (by rfl) (by rfl) (fun K hK => ?_)
     go_simp
     (with_reducible refine (odd_any sb _ 0 1440 _ HS5.out (by omega) (by omega) (by omega) (by omega)).mono ?_)
     rintro e w6 ⟨v6, rfl, ⟨r6, hlo6, hhi6, rfl⟩, hs6, hg6⟩
     have HGA6 := Lib.hid (HGA5.out.low hg6 (fun g e => by injection e with e; omega))
     have HG6 := Lib.hid (gr_same HG5.out hg6)
     have HS6 := Lib.hid hs6
     have z6 := hg6.size
     have hgs6 : g < w6.heap.size := by omega
     clear hs6 hg6
     go_simp
     refine hK _ _ (.inr (by have h := (HGA6.out.1.recs.at_ HrV.row_len HX.out 2 _ rfl); simpa using h)) ?_
     clear hK K hHeld
     have hHeld := (HGA6.out.1.recs.at_ HrV.row_len HX.out 2 _ rfl)
     (try simp only [Nat.zero_add] at hHeld)
     repeat (
       refine lex_take (v := ?_) (by rfl) (by rfl) (by exact fun _ _ _ h => h) (by rfl) ?_ (by assumption) ?_
       rotate_left 1
       · intro w hSw
         (try dsimp only at hSw)
         go_simp
         (try with_reducible rfl)
       (try simp only [Act.put, l1_, l2_, l3_]))
     refine lex_run (by rfl) (by rfl) (by rfl) (fun K hK => ?_)
     go_simp
     (with_reducible refine (odd_any sb _ 0 1440 _ HS6.out (by omega) (by omega) (by omega) (by omega)).mono ?_)
     rintro e w7 ⟨v7, rfl, ⟨r7, hlo7, hhi7, rfl⟩, hs7, hg7⟩
     have HGA7 := Lib.hid (HGA6.out.low hg7 (fun g e => by injection e with e; omega))
     have HG7 := Lib.hid (gr_same HG6.out hg7)
     have HS7 := Lib.hid hs7
     have z7 := hg7.size
     have hgs7 : g < w7.heap.size := by omega
     clear hs7 hg7
     go_simp
     have HO7 := Lib.hid (HGA7.out.2.1 x (mem_of_get HX.out)).2.1.1
     refine hK _ _ (.inr (by have h := (HGA7.out.1.recs.at_ HrV.row_len HX.out 2 _ rfl); simpa using h)) ?_
     clear hK K hHeld
     have hHeld := (HGA7.out.1.recs.at_ HrV.row_len HX.out 2 _ rfl)
     (try simp only [Nat.zero_add] at hHeld)
     repeat (
       refine lex_take (v := ?_) (by rfl) (by rfl) (by exact fun _ _ _ h => h) (by rfl) ?_ (by assumption) ?_
       rotate_left 1
       · intro w hSw
         (try dsimp only at hSw)
         go_simp
         (try with_reducible rfl)
       (try simp only [Act.put, l1_, l2_, l3_]))
     refine lex_run (by rfl) (by rfl) (by rfl) (fun K hK => ?_)
     go_simp
     refine hK _ _ (.inr (by go_keep)) ?_
     clear hK K hHeld
     have hHeld : (w7.alloc (.cells #[.int .i64 r5, .int .i64 r6, .int .i64 r7] 148)).cell? ⟨g, i * 4 + 2, none⟩ = some (.slice x.rA x.rn x.rc) := by have h := (HGA7.out.1.alloc (.cells #[.int .i64 r5, .int .i64 r6, .int .i64 r7] 148)).recs.at_ HrV.row_len HX.out 2 _ rfl; simpa using h
     refine lex_run (by rfl) (by rfl) (by rfl) (fun K hK => ?_)
     refine wp_app _ _ _ Tryz.rwsT (by rfl) w.heap.size x.rA x.rn x.rc (x.rows.flatMap r3Row) (by rfl) (by exact HO7.out.alloc _) _ _ 1 1 [.int .i64 r5, .int .i64 r6, .int .i64 r7] (by rfl) (by exact Reads.one _ _ _ _ rfl) (by simp [Value.oneCell']) (by unfold maxLen; omega) (by omega) (by simp; omega) ?_
     intro A1 c1 w8 h8
     have hm8 := (HGA7.out.1.alloc (.cells #[.int .i64 r5, .int .i64 r6, .int .i64 r7] 148)).kept h8.2.1 (fun g' e => Own.ne HO7.out HGA7.out.1.1 (by decide) e)
     have c8 := hm8.recs.at_ HrV.row_len HX.out 2 _ rfl
     have f8 := hm8.1.frozen (i * 4 + 2)
     simp only [Nat.zero_add] at c8 f8
     have H8 := Lib.hid h8
     clear h8 hm8
     refine hK _ _ (.inr c8) ?_
     clear hK K hHeld
     have hHeld := c8
     repeat (
       refine lex_take (v := ?_) (by rfl) (by rfl) (by exact fun _ _ _ h => h) (by rfl) ?_ (by assumption) ?_
       rotate_left 1
       · intro w hSw
         (try dsimp only at hSw)
         go_simp
         (try with_reducible rfl)
       (try simp only [Act.put, l1_, l2_, l3_]))
     refine lex_run (by rfl) (by rfl) (by rfl) (fun K hK => ?_)
     go_simp
     refine hK _ _ (.inl (by rfl)) ?_
     clear hK K hHeld
     refine lex_end ?_
     all_goals
       go_wp2_with fail
       go_ret
       exact ⟨_, rfl, ⟨_, c, _, rfl, GHrs.rows (HGA7.out.low (gr_alloc (gr_refl _ none) _) gn_) HX.out (s := (r5, r6, r7)) rfl (by omega) H8.out (by omega)⟩, ((((HS7.out.alloc _).grown H8.out.2.1 (fun g e => by have := (HO7.out.lt e).1; omega)).setCell (by simp; omega) _).mono (by omega)), gr_setCell (H8.out.gr (gr_alloc HG7.out _) (HO7.out.alloc _) (Nat.le_refl _)) (.inr (by simp; omega)) _⟩
   · have cX := HGA.out.1.recs.at_ HrV.row_len HX.out 3 _ rfl
     have fX := HGA.out.1.1.frozen (i * 4 + 3)
     simp only [Nat.zero_add, Nat.add_zero] at cX fX
     go_wp2_with fail
     refine wp_region_lex (fun w' => w'.cell? ⟨g, i * 4 + 3, none⟩ = some (.slice x.hA x.hn x.hc)) [0, 1, 2, 3, 4, 5, 7, 9, 6, 8, 10, 11, 12, 13, 14, 15, 16] (by kernel_rfl) (by kernel_rfl) ?_
     have hHeld : w4.drew.cell? ⟨g, i * 4 + 3, none⟩ = some (.slice x.hA x.hn x.hc) := cX
     repeat (
       refine lex_take (v := ?_) (by rfl) (by rfl) (by exact fun _ _ _ h => h) (by rfl) ?_ (by assumption) ?_
       rotate_left 1
       · intro w hSw
         (try dsimp only at hSw)
         go_simp
         (try with_reducible rfl)
       (try simp only [Act.put, l1_, l2_, l3_]))
     refine lex_run (by rfl) (by rfl) (by rfl) (fun K hK => ?_)
     go_simp
     (with_reducible refine (odd_any sb _ 0 4000 _ HS.out.drew (by omega) (by omega) (by omega) (by omega)).mono ?_)
     rintro e w5 ⟨v5, rfl, ⟨r5, hlo5, hhi5, rfl⟩, hs5, hg5⟩
     replace hg5 : w4.grownBy w5 (some sb) := gr_same (gr_drew (gr_refl _ _)) hg5
     have HGA5 := Lib.hid (HGA.out.low hg5 (fun g e => by injection e with e; omega))
     have HG5 := Lib.hid (gr_same HG.out hg5)
     have HS5 := Lib.hid hs5
     have z5 := hg5.size
     have hgs5 : g < w5.heap.size := by omega
     clear hs5 hg5
     go_simp
     refine hK _ _ (.inr (by have h := (HGA5.out.1.recs.at_ HrV.row_len HX.out 3 _ rfl); simpa using h)) ?_
     clear hK K hHeld
     have hHeld := (HGA5.out.1.recs.at_ HrV.row_len HX.out 3 _ rfl)
     (try simp only [Nat.zero_add] at hHeld)
     repeat (
       refine lex_take (v := ?_) (by rfl) (by rfl) (by exact fun _ _ _ h => h) (by rfl) ?_ (by assumption) ?_
       rotate_left 1
       · intro w hSw
         (try dsimp only at hSw)
         go_simp
         (try with_reducible rfl)
       (try simp only [Act.put, l1_, l2_, l3_]))
     refine lex_run (by rfl) (by rfl) (by rfl) (fun K hK => ?_)
     go_simp
     (with_reducible refine (odd_any sb _ 0 1440 _ HS5.out (by omega) (by omega) (by omega) (by omega)).mono ?_)
     rintro e w6 ⟨v6, rfl, ⟨r6, hlo6, hhi6, rfl⟩, hs6, hg6⟩
     have HGA6 := Lib.hid (HGA5.out.low hg6 (fun g e => by injection e with e; omega))
     have HG6 := Lib.hid (gr_same HG5.out hg6)
     have HS6 := Lib.hid hs6
     have z6 := hg6.size
     have hgs6 : g < w6.heap.size := by omega
     clear hs6 hg6
     go_simp
     refine hK _ _ (.inr (by have h := (HGA6.out.1.recs.at_ HrV.row_len HX.out 3 _ rfl); simpa using h)) ?_
     clear hK K hHeld
     have hHeld := (HGA6.out.1.recs.at_ HrV.row_len HX.out 3 _ rfl)
     (try simp only [Nat.zero_add] at hHeld)
     repeat (
       refine lex_take (v := ?_) (by rfl) (by rfl) (by exact fun _ _ _ h => h) (by rfl) ?_ (by assumption) ?_
       rotate_left 1
       · intro w hSw
         (try dsimp only at hSw)
         go_simp
         (try with_reducible rfl)
       (try simp only [Act.put, l1_, l2_, l3_]))
     refine lex_run (by rfl) (by rfl) (by rfl) (fun K hK => ?_)
     go_simp
     (with_reducible refine (odd_any sb _ 0 1440 _ HS6.out (by omega) (by omega) (by omega) (by omega)).mono ?_)
     rintro e w7 ⟨v7, rfl, ⟨r7, hlo7, hhi7, rfl⟩, hs7, hg7⟩
     have HGA7 := Lib.hid (HGA6.out.low hg7 (fun g e => by injection e with e; omega))
     have HG7 := Lib.hid (gr_same HG6.out hg7)
     have HS7 := Lib.hid hs7
     have z7 := hg7.size
     have hgs7 : g < w7.heap.size := by omega
     clear hs7 hg7
     go_simp
     have HO7 := Lib.hid (HGA7.out.2.1 x (mem_of_get HX.out)).2.2.1
     refine hK _ _ (.inr (by have h := (HGA7.out.1.recs.at_ HrV.row_len HX.out 3 _ rfl); simpa using h)) ?_
     clear hK K hHeld
     have hHeld := (HGA7.out.1.recs.at_ HrV.row_len HX.out 3 _ rfl)
     (try simp only [Nat.zero_add] at hHeld)
     repeat (
       refine lex_take (v := ?_) (by rfl) (by rfl) (by exact fun _ _ _ h => h) (by rfl) ?_ (by assumption) ?_
       rotate_left 1
       · intro w hSw
         (try dsimp only at hSw)
         go_simp
         (try with_reducible rfl)
       (try simp only [Act.put, l1_, l2_, l3_]))
     refine lex_run (by rfl) (by rfl) (by rfl) (fun K hK => ?_)
     go_simp
     refine hK _ _ (.inr (by go_keep)) ?_
     clear hK K hHeld
     have hHeld : (w7.alloc (.cells #[.int .i64 r5, .int .i64 r6, .int .i64 r7] 150)).cell? ⟨g, i * 4 + 3, none⟩ = some (.slice x.hA x.hn x.hc) := by have h := (HGA7.out.1.alloc (.cells #[.int .i64 r5, .int .i64 r6, .int .i64 r7] 150)).recs.at_ HrV.row_len HX.out 3 _ rfl; simpa using h
     refine lex_run (by rfl) (by rfl) (by rfl) (fun K hK => ?_)
     refine wp_app _ _ _ Tryz.hosT (by rfl) w.heap.size x.hA x.hn x.hc (x.hol.flatMap r3Row) (by rfl) (by exact HO7.out.alloc _) _ _ 1 1 [.int .i64 r5, .int .i64 r6, .int .i64 r7] (by rfl) (by exact Reads.one _ _ _ _ rfl) (by simp [Value.oneCell']) (by unfold maxLen; omega) (by omega) (by simp; omega) ?_
     intro A1 c1 w8 h8
     have hm8 := (HGA7.out.1.alloc (.cells #[.int .i64 r5, .int .i64 r6, .int .i64 r7] 150)).kept h8.2.1 (fun g' e => Own.ne HO7.out HGA7.out.1.1 (by decide) e)
     have c8 := hm8.recs.at_ HrV.row_len HX.out 3 _ rfl
     have f8 := hm8.1.frozen (i * 4 + 3)
     simp only [Nat.zero_add] at c8 f8
     have H8 := Lib.hid h8
     clear h8 hm8
     refine hK _ _ (.inr c8) ?_
     clear hK K hHeld
     have hHeld := c8
     repeat (
       refine lex_take (v := ?_) (by rfl) (by rfl) (by exact fun _ _ _ h => h) (by rfl) ?_ (by assumption) ?_
       rotate_left 1
       · intro w hSw
         (try dsimp only at hSw)
         go_simp
         (try with_reducible rfl)
       (try simp only [Act.put, l1_, l2_, l3_]))
     refine lex_run (by rfl) (by rfl) (by rfl) (fun K hK => ?_)
     go_simp
     refine hK _ _ (.inl (by rfl)) ?_
     clear hK K hHeld
     refine lex_end ?_
     all_goals
       go_wp2_with fail
       go_ret
       exact ⟨_, rfl, ⟨_, c, _, rfl, GHrs.hols (HGA7.out.low (gr_alloc (gr_refl _ none) _) gn_) HX.out (s := (r5, r6, r7)) rfl (by omega) H8.out (by omega)⟩, ((((HS7.out.alloc _).grown H8.out.2.1 (fun g e => by have := (HO7.out.lt e).1; omega)).setCell (by simp; omega) _).mono (by omega)), gr_setCell (H8.out.gr (gr_alloc HG7.out _) (HO7.out.alloc _) (Nat.le_refl _)) (.inr (by simp; omega)) _⟩
def IntBd (v : Value) (_ : World) : Prop := ∃ r : Int, v = .int .i64 r ∧ -10000000000000 ≤ r ∧ r ≤ 10000000000000
set_option maxHeartbeats 4000000 in
theorem moment_any (sb : Nat) (m : Int) (w : World) (hs : Str w sb m) (hm : m ≤ 100000000000) : Calls Tryz.prog 8 #[.pointer (some ⟨sb, 0, none⟩)] w (Drawn sb (m + 4) IntBd w) := by
 have hlt := hs.lt
 have HS := Lib.hid hs; clear hs
 have HG := Lib.hid (gr_refl w (some sb))
 go_enter Tryz.func8, Tryz.ntmps8
 go_wp2_with fail
 refine (pick_new sb _ [0, 0, 1, 2, 3, 5, 6] _ (by first | exact HS.out | exact HS.out.alloc _ | exact (HS.out.alloc _).alloc _ | exact ((HS.out.alloc _).alloc _).alloc _ | exact HS.out.drewN _ | exact HS.out.setCell (by simp; omega) _ | exact (HS.out.alloc _).setCell (by simp; omega) _ | exact (HS.out.setCell (by simp; omega) _).alloc _ | exact (HS.out.setCell (by simp; omega) _).drewN _ | exact (HS.out.alloc _).drewN _) (by omega) (by simp) rfl rfl (by simp) (by simp)).mono ?_
 rintro e w1 ⟨v1, rfl, ⟨r1, hr1, rfl⟩, hs1, hg1⟩
 have hb1 : 0 ≤ r1 ∧ r1 ≤ 6 := by simp at hr1; omega
 obtain ⟨p1, q1⟩ := hb1
 have HG1 := Lib.hid (gr_same (a := w) (by repeat (first | exact HG.out | refine gr_alloc ?_ _ | refine gr_drew ?_ | refine gr_drewN ?_ _ | refine gr_setCell ?_ (.inr (by simp; omega)) _)) hg1); have HS1 := Lib.hid hs1
 have z1 := hg1.size; clear hr1 hs1 hg1
 go_wp2_with fail
 refine (pick_new sb _ [0, 60, 540, 600, 720, 840, 1439] _ HS1.out (by omega) (by simp) rfl rfl (by simp) (by simp)).mono ?_
 rintro e w2 ⟨v2, rfl, ⟨r2, hr2, rfl⟩, hs2, hg2⟩
 have hb2 : 0 ≤ r2 ∧ r2 ≤ 1439 := by simp at hr2; omega
 obtain ⟨p2, q2⟩ := hb2
 have HG2 := Lib.hid (gr_same HG1.out hg2); have HS2 := Lib.hid hs2
 have z2 := hg2.size; clear hr2 hs2 hg2
 go_wp2_with fail
 refine (pick_new sb _ [0, 0, 1, 30000, -1] _ HS2.out (by omega) (by simp) rfl rfl (by simp) (by simp)).mono ?_
 rintro e w3 ⟨v3, rfl, ⟨r3, hr3, rfl⟩, hs3, hg3⟩
 have hb3 : -1 ≤ r3 ∧ r3 ≤ 30000 := by simp at hr3; omega
 obtain ⟨p3, q3⟩ := hb3
 have HG3 := Lib.hid (gr_same HG2.out hg3); have HS3 := Lib.hid hs3
 clear hr3 hs3 hg3
 go_wp2_with fail
 go_ret
 exact ⟨_, rfl, ⟨_, rfl, by omega, by omega⟩, HS3.out.mono (by omega), HG3.out⟩
end
end Go.Proofs.YteppdabhloieaaaGreatDoor
namespace Go.Proofs.YteppdabhloieaaaGreatDoor
section
theorem find_idx {α : Type} {p : α → Bool} : ∀ {l : List α}, l.find? p = l[l.findIdx p]?
 | [] => rfl
 | a :: l => by
   rw [List.find?_cons, List.findIdx_cons]
   cases p a
   · simpa using find_idx (p := p) (l := l)
   · rfl
theorem idx_find {α : Type} {p : α → Bool} {l : List α} (h : l.any p = true) : ∃ (i : Nat) (z : α), idxP p l = i ∧ l[i]? = some z ∧ p z = true ∧ l.find? p = some z := by
 obtain ⟨x, hx, hp⟩ := List.any_eq_true.1 h
 have hlt : l.findIdx p < l.length := List.findIdx_lt_length_of_exists ⟨x, hx, hp⟩
 have hg := List.getElem?_eq_getElem hlt
 refine ⟨l.findIdx p, l[l.findIdx p], ?_, hg, List.findIdx_getElem (w := hlt), by rw [find_idx, hg]⟩
 unfold idxP; rw [if_pos h]
def cntB (hs : List HrV) (k : ByteArray) (t : Int) : Bool := decide (nb k = []) || (hs.find? (fun h : HrV => nb h.key == nb k)).elim false (fun h => openAt h.zone h.rows h.hol t)
theorem hrs_one_of {l : List HrV} (h : hrsE l = 0) {a : HrV} (ha : a ∈ l) : hrsE [a] = 0 := by
 unfold hrsE at h
 split at h
 · omega
 · obtain ⟨i, hi⟩ := List.mem_iff_getElem?.1 ha
   have h1 := fstE_alh h (List.getElem?_eq_some_iff.1 hi).1
   cases hk : keyOk (nb a.key)
   · rw [hrAt_5 hi hk] at h1; omega
   · rw [hrAt_last hi hk] at h1
     split at h1
     · omega
     · show fstE (hrAt [a]) 1 = 0
       show (if fstE (hrAt [a]) 0 = 0 then hrAt [a] 0 else fstE (hrAt [a]) 0) = 0
       rw [show fstE (hrAt [a]) 0 = 0 from rfl, if_pos rfl, hrAt_z (z := a) rfl hk (by omega)]
       exact h1
structure RuRight (hs : List HrV) (r : RuV) : Prop where
 pat : ∃ x, patX (nb r.pat) = some x
 strip : 0 ≤ r.strip ∧ r.strip ≤ 30
 pre : r.pre.size ≤ 30
 hrs : hrsOk hs r.hrs = true
theorem ru_right {hs : List HrV} {prev : List RuV} {r : RuV} (h : ruE hs prev r = 0) : RuRight hs r := by
 unfold ruE at h
 by_cases c1 : patF (nb r.pat) = 0
 · rw [if_pos c1] at h
   by_cases c2 : inB r.strip 0 30 = true
   · rw [if_pos c2] at h
     by_cases c3 : preOk (nb r.pre) = true
     · rw [if_pos c3] at h
       by_cases c4 : inB r.to_ 1 6 = true
       · rw [if_pos c4] at h
         have h5 : ruE2 hs prev r = 0 := by
           unfold ruE1 at h
           by_cases c5 : inB r.to_ 3 5 = true
           · rw [if_pos c5] at h
             by_cases c6 : keyOk (nb r.nam) = true
             · rw [if_pos c6] at h; exact h
             · rw [if_neg c6] at h; omega
           · rw [if_neg c5] at h
             by_cases c6 : nb r.nam = []
             · rw [if_pos c6] at h; exact h
             · rw [if_neg c6] at h; omega
         refine ⟨?_, ?_, ?_, ?_⟩
         · cases hp : patX (nb r.pat) with
           | none => have := patF_none hp; omega
           | some x => exact ⟨x, rfl⟩
         · unfold inB at c2; simpa using c2
         · unfold preOk at c3
           simp only [Bool.and_eq_true, decide_eq_true_eq] at c3
           rw [← nb_len]; exact c3.1
         · unfold ruE2 at h5
           by_cases c7 : hrsOk hs r.hrs = true
           · exact c7
           · rw [if_neg c7] at h5; omega
       · rw [if_neg c4] at h; omega
     · rw [if_neg c3] at h; omega
   · rw [if_neg c2] at h; omega
 · rw [if_neg c1] at h; exact absurd h c1
def fitB (hs : List HrV) (d : List Nat) (t : Int) (r : RuV) : Bool := (patX (nb r.pat)).elim false (fun x => matchL x d) && cntB hs r.hrs t
def befR (r b : RuV) : Bool := (patX (nb r.pat)).elim false fun x => (patX (nb b.pat)).elim false fun y => decide (befL x y < 0)
def decT (hs : List HrV) (d : List Nat) (t : Int) (rules : List RuV) : Nat → Option Nat
 | 0 => none
 | k + 1 => (rules[k]?).elim (decT hs d t rules k) fun r => if fitB hs d t r && (decT hs d t rules k).elim true (fun b => (rules[b]?).elim false (befR r)) then some k else decT hs d t rules k
section
variable {hs : List HrV} {d : List Nat} {t : Int} {rules : List RuV}
theorem decT_lt : ∀ {k b : Nat}, decT hs d t rules k = some b → b < k
 | 0, b, h => by cases h
 | k + 1, b, h => by
   unfold decT at h
   cases hr : rules[k]? with
   | none => rw [hr] at h; have := decT_lt (k := k) h; omega
   | some r =>
     rw [hr] at h
     have h' : (if (fitB hs d t r && (decT hs d t rules k).elim true (fun b => (rules[b]?).elim false (befR r))) = true then some k else decT hs d t rules k) = some b := h
     by_cases c : (fitB hs d t r && (decT hs d t rules k).elim true (fun b => (rules[b]?).elim false (befR r))) = true
     · rw [if_pos c] at h'; injection h' with h'; omega
     · rw [if_neg c] at h'; have := decT_lt (k := k) h'; omega
theorem decT_no {k : Nat} {r : RuV} (h : rules[k]? = some r) (hf : fitB hs d t r = false) : decT hs d t rules (k + 1) = decT hs d t rules k := by
 show (rules[k]?).elim _ _ = _
 rw [h]; simp [Option.elim, hf]
theorem decT_first {k : Nat} {r : RuV} (h : rules[k]? = some r) (hf : fitB hs d t r = true) (hd : decT hs d t rules k = none) : decT hs d t rules (k + 1) = some k := by
 show (rules[k]?).elim _ _ = _
 rw [h]; simp [Option.elim, hf, hd]
theorem decT_more {k b : Nat} {r o : RuV} (h : rules[k]? = some r) (hf : fitB hs d t r = true) (hd : decT hs d t rules k = some b) (hb : rules[b]? = some o) : decT hs d t rules (k + 1) = if befR r o then some k else some b := by
 show (rules[k]?).elim _ _ = _
 rw [h]; simp [Option.elim, hf, hd, hb]
end
def bestI (o : Option Nat) : Int := o.elim (-1) (fun b => (b : Int))
def decD (hs : List HrV) (d : List Nat) (t : Int) : List CxV → Option (CxV × Nat)
 | [] => none
 | c :: L => (decT hs d t c.rules c.rules.length).elim (decD hs d t L) fun b => some (c, b)
theorem decD_drop {hs : List HrV} {d : List Nat} {t : Int} {L : List CxV} {k : Nat} {c : CxV} (h : L[k]? = some c) : decD hs d t (L.drop k) = (decT hs d t c.rules c.rules.length).elim (decD hs d t (L.drop (k + 1))) fun b => some (c, b) := by
 obtain ⟨hl, rfl⟩ := List.getElem?_eq_some_iff.1 h
 rw [List.drop_eq_getElem_cons hl]; rfl
structure PlRight (p : PlV) : Prop where
 hours : ∀ a ∈ p.hours, hrsE [a] = 0
 cn : p.cn ≤ 50
 mis : misB p.ctxs = false
 cx : ∀ (i : Nat) (c : CxV), p.ctxs[i]? = some c → CxRight p.hours c
 cxs : fstE (cxAt p.hours p.ctxs) p.cn = 0
theorem pl_right {p : PlV} {LB : Bool} (hl : p.ctxs.length = p.cn) (h : plE p LB = 0) : PlRight p := by
 obtain ⟨h1, h2, h3, h4, _⟩ := plE_right h
 exact ⟨fun a ha => hrs_one_of h1 ha, h2, h4, fun i c hc => (cx_right hc (fstE_alh h3 (by rw [← hl]; exact (List.getElem?_eq_some_iff.1 hc).1))).1, h3⟩
theorem cx_rules {hs : List HrV} {c : CxV} (hl : c.rules.length = c.rn) (h : CxRight hs c) : ∀ r ∈ c.rules, RuRight hs r := fun r hr => by
 obtain ⟨i, hi⟩ := List.mem_iff_getElem?.1 hr
 have h1 := h.rules i (by rw [← hl]; exact (List.getElem?_eq_some_iff.1 hi).1)
 unfold ruAt at h1
 rw [hi] at h1
 exact ru_right h1
end
end Go.Proofs.YteppdabhloieaaaGreatDoor
namespace Go.Proofs.YteppdabhloieaaaGreatDoor
section
def shS (s : ByteArray) : List Nat × Nat := (patX (nb s)).getD ([], 0)
theorem shS_some {s : ByteArray} {x : List Nat × Nat} (h : patX (nb s) = some x) : shS s = x := by unfold shS; rw [h]; rfl
def ruS (r : RuV) : List Nat × Nat := shS r.pat
theorem ruS_some {r : RuV} {x : List Nat × Nat} (h : patX (nb r.pat) = some x) : ruS r = x := shS_some h
def waitB (hs : List HrV) (d : List Nat) (t : Int) (r : RuV) : Bool := cntB hs r.hrs t && longB (ruS r) d
def waC (hs : List HrV) (d : List Nat) (t : Int) (c : CxV) : Bool := c.rules.any (waitB hs d t)
def noC (hs : List HrV) (d : List Nat) (t : Int) (c : CxV) : Bool := (decT hs d t c.rules c.rules.length).isSome
theorem decD_some {hs : List HrV} {d : List Nat} {t : Int} : ∀ L : List CxV, (decD hs d t L).isSome = L.any (noC hs d t)
 | [] => rfl
 | c :: L => by
   unfold decD
   rw [List.any_cons]
   unfold noC
   cases decT hs d t c.rules c.rules.length with
   | none => exact decD_some L
   | some b => rfl
theorem any_take_succ {α : Type} {p : α → Bool} {l : List α} {k : Nat} {a : α} (h : l[k]? = some a) : (l.take (k + 1)).any p = ((l.take k).any p || p a) := by
 obtain ⟨hl, rfl⟩ := List.getElem?_eq_some_iff.1 h
 rw [List.take_succ_eq_append_getElem hl, List.any_append]; simp
theorem any_take_all {α : Type} {p : α → Bool} {l : List α} {k : Nat} (h : l.length ≤ k) : (l.take k).any p = l.any p := by rw [List.take_of_length_le h]
structure HidV where
 key : ByteArray
 ix : Nat
 to_ : Int
 nam : ByteArray
def HidV.row (h : HidV) : List Value := [.string h.key, .int .i64 h.ix, .int .i64 h.to_, .string h.nam, .string ⟨#[]⟩]
theorem HidV.row_len (h : HidV) : h.row.length = 5 := rfl
def befB (r o : RuV) (i k : Nat) : Bool := decide (nb o.hrs = []) && (decide (befL (ruS o) (ruS r) < 0) || (decide (befL (ruS o) (ruS r) = 0) && decide (k < i)))
def oTo (rules : List RuV) (r : RuV) (i : Nat) : Nat → List RuV
 | 0 => []
 | k + 1 => oTo rules r i k ++ (rules[k]?).elim [] fun o => if befB r o i k then [o] else []
noncomputable def hidB (E rules : List RuV) (r : RuV) (i : Nat) : Bool := covB (ruS r) ((E ++ oTo rules r i rules.length).map ruS)
noncomputable def hdC (E : List RuV) (key : ByteArray) (rules : List RuV) : Nat → List HidV
 | 0 => []
 | i + 1 => hdC E key rules i ++ (rules[i]?).elim [] fun r => if hidB E rules r i then [⟨key, i, r.to_, r.nam⟩] else []
def eaC (rules : List RuV) : Nat → List RuV
 | 0 => []
 | i + 1 => eaC rules i ++ (rules[i]?).elim [] fun r => if nb r.hrs = [] then [r] else []
def eaL (L : List CxV) : Nat → List RuV
 | 0 => []
 | k + 1 => eaL L k ++ (L[k]?).elim [] fun c => eaC c.rules c.rules.length
noncomputable def hdL (L : List CxV) : Nat → List HidV
 | 0 => []
 | k + 1 => hdL L k ++ (L[k]?).elim [] fun c => hdC (eaL L k) c.key c.rules c.rules.length
def manyR (L : List CxV) : Nat → Nat
 | 0 => 0
 | k + 1 => manyR L k + (L[k]?).elim 0 fun c => c.rules.length
section
variable {rules E : List RuV} {r o : RuV} {i k : Nat} {key : ByteArray} {L : List CxV} {c : CxV}
theorem oTo_succ (h : rules[k]? = some o) : oTo rules r i (k + 1) = oTo rules r i k ++ if befB r o i k then [o] else [] := by show _ ++ (rules[k]?).elim _ _ = _; rw [h]; rfl
theorem hdC_succ (h : rules[i]? = some r) : hdC E key rules (i + 1) = hdC E key rules i ++ if hidB E rules r i then [⟨key, i, r.to_, r.nam⟩] else [] := by show _ ++ (rules[i]?).elim _ _ = _; rw [h]; rfl
theorem eaC_succ (h : rules[i]? = some r) : eaC rules (i + 1) = eaC rules i ++ if nb r.hrs = [] then [r] else [] := by show _ ++ (rules[i]?).elim _ _ = _; rw [h]; rfl
theorem eaL_succ (h : L[k]? = some c) : eaL L (k + 1) = eaL L k ++ eaC c.rules c.rules.length := by show _ ++ (L[k]?).elim _ _ = _; rw [h]; rfl
theorem hdL_succ (h : L[k]? = some c) : hdL L (k + 1) = hdL L k ++ hdC (eaL L k) c.key c.rules c.rules.length := by show _ ++ (L[k]?).elim _ _ = _; rw [h]; rfl
theorem manyR_succ (h : L[k]? = some c) : manyR L (k + 1) = manyR L k + c.rules.length := by show _ + (L[k]?).elim _ _ = _; rw [h]; rfl
theorem oTo_len (rules : List RuV) (r : RuV) (i k : Nat) : (oTo rules r i k).length ≤ k := by
 induction k with
 | zero => simp [oTo]
 | succ k ih =>
   unfold oTo
   rw [List.length_append]
   have : ((rules[k]?).elim [] fun o => if befB r o i k then [o] else []).length ≤ 1 := by
     cases rules[k]? with
     | none => simp
     | some o => show (if befB r o i k then [o] else []).length ≤ 1; split <;> simp
   omega
theorem eaC_len (rules : List RuV) (k : Nat) : (eaC rules k).length ≤ k := by
 induction k with
 | zero => simp [eaC]
 | succ k ih =>
   unfold eaC
   rw [List.length_append]
   have : ((rules[k]?).elim [] fun r => if nb r.hrs = [] then [r] else []).length ≤ 1 := by
     cases rules[k]? with
     | none => simp
     | some o => show (if nb o.hrs = [] then [o] else []).length ≤ 1; split <;> simp
   omega
theorem hdC_len (E : List RuV) (key : ByteArray) (rules : List RuV) (k : Nat) : (hdC E key rules k).length ≤ k := by
 induction k with
 | zero => simp [hdC]
 | succ k ih =>
   unfold hdC
   rw [List.length_append]
   have : ((rules[k]?).elim [] fun r => if hidB E rules r k then [(⟨key, k, r.to_, r.nam⟩ : HidV)] else []).length ≤ 1 := by
     cases rules[k]? with
     | none => simp
     | some o => show (if hidB E rules o k then [(⟨key, k, o.to_, o.nam⟩ : HidV)] else []).length ≤ 1; split <;> simp
   omega
theorem eaL_len (L : List CxV) (k : Nat) : (eaL L k).length ≤ manyR L k := by
 induction k with
 | zero => simp [eaL]
 | succ k ih =>
   unfold eaL manyR
   cases L[k]? with
   | none => simpa using ih
   | some c =>
     show (eaL L k ++ eaC c.rules c.rules.length).length ≤ manyR L k + c.rules.length
     rw [List.length_append]
     have := eaC_len c.rules c.rules.length
     omega
theorem hdL_len (L : List CxV) (k : Nat) : (hdL L k).length ≤ manyR L k := by
 induction k with
 | zero => simp [hdL]
 | succ k ih =>
   unfold hdL manyR
   cases L[k]? with
   | none => simpa using ih
   | some c =>
     show (hdL L k ++ hdC (eaL L k) c.key c.rules c.rules.length).length ≤ manyR L k + c.rules.length
     rw [List.length_append]
     have := hdC_len (eaL L k) c.key c.rules c.rules.length
     omega
theorem manyR_mono (L : List CxV) {i k : Nat} (h : i ≤ k) : manyR L i ≤ manyR L k := by
 induction k with
 | zero => obtain rfl : i = 0 := by omega
           exact Nat.le_refl _
 | succ k ih =>
   rcases Nat.lt_or_ge i (k + 1) with h1 | h1
   · have := ih (by omega)
     have h2 : manyR L k ≤ manyR L (k + 1) := by show _ ≤ _ + _; omega
     omega
   · obtain rfl : i = k + 1 := by omega
     exact Nat.le_refl _
end
def hiE (e : Int) (L : List CxV) : Int := if e = 0 then (if 12 < manyR L L.length then 2 else 0) else e
noncomputable def hiL (e : Int) (L : List CxV) : List HidV := if hiE e L = 0 then hdL L L.length else []
end
end Go.Proofs.YteppdabhloieaaaGreatDoor
namespace Go.Proofs.YteppdabhloieaaaGreatDoor
section
open Go.RowKit
set_option maxHeartbeats 4000000 in
theorem equalHi_same (lo lo' : Nat) (A A' : Option Addr) (n c n' c' : Nat) (l : List HidV) (w : World) (h1 : Recs HidV.row 5 w lo A n c l) (h2 : Recs HidV.row 5 w lo' A' n' c' l) (hn2 : n ≤ 1000000000000) :
   Calls Tryz.prog 19 #[.slice A n c, .slice A' n' c'] w fun e w' => e = .returned (.bool true) ∧ ∃ k, w' = w.drewN k := by
 obtain rfl : n = n' := by rw [← h1.len, ← h2.len]
 have H1 := Lib.hid h1; have H2 := Lib.hid h2; clear h1 h2
 go_enter Tryz.func19, Tryz.ntmps19
 go_wp2_with fail
 go_loopw [5, 13] (fun _ t wr => ∃ i : Nat, i ≤ n ∧ t = .int .i64 i ∧ ∃ k, wr = w.drewN k) (fun _ t _ => n - (intOf t).toNat)
 case atStart => exact ⟨0, Nat.zero_le _, rfl, 0, rfl⟩
 case round =>
   obtain ⟨i, hi, rfl, k, rfl⟩ := hrel
   by_cases hlt : i < n
   · obtain ⟨g, o, z, rfl, _, _, hz, hc⟩ := H1.out.get HidV.row_len hlt
     obtain ⟨g', o', z', rfl, _, _, hz', hc2⟩ := H2.out.get HidV.row_len hlt
     rw [hz] at hz'
     injection hz' with hz'
     subst hz'
     have c0 := hc 0 _ rfl
     have d0 := hc2 0 _ rfl
     have c1 := hc 1 _ rfl
     have d1 := hc2 1 _ rfl
     have c2 := hc 2 _ rfl
     have d2 := hc2 2 _ rfl
     have c3 := hc 3 _ rfl
     have d3 := hc2 3 _ rfl
     have c4 := hc 4 _ rfl
     have d4 := hc2 4 _ rfl
     simp only [Nat.add_zero] at c0 d0
     clear hz hc hc2
     have hi0 : (0 : Int) ≤ (i : Int) := by omega
     have hi1 : (i : Int) < (n : Int) := by omega
     go_wp2_with fail
     go_quiet (fail)
     go_wp2_with fail
     go_roundw
     case rel => exact ⟨i + 1, by omega, by go_num, _, rfl⟩
     case measure => simp [intOf]; omega
   · obtain rfl : i = n := by omega
     go_wp2_with fail
     go_ret
     exact ⟨rfl, _, rfl⟩
end
end Go.Proofs.YteppdabhloieaaaGreatDoor

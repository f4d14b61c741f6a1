/- Contract of slices.SortStableFunc at few places, in the room's order. Conditions: at most 19 places. -/
import Derived.Test.YtnmodobkennklaaGreatDoorRo1
namespace Go.Proofs.YtnmodobkennklaaGreatDoor
open Go.RowKit

def irow (i : Nat) : List Value := [.int .i64 i]
theorem irow_len (i : Nat) : (irow i).length = 1 := rfl
set_option maxHeartbeats 8000000 in
set_option maxRecDepth 100000 in
theorem lineIns_any (lt : Nat → Nat → Bool) (lo : Nat) (A : Option Addr) (n c : Nat) (l : List Nat) (K1 K2 : Value) (w : World) (h : OwnR irow 1 w lo 3 A n c l) (hn : n ≤ 1000)
    (hcmp : ∀ (w1 : World) (x y : Nat), w.grownBy w1 (blkOf A) → x ∈ l → y ∈ l → ∃ z : Int, decide (z < 0) = lt x y ∧ Calls Tryz.prog 190 #[.int .i64 (x : Nat), .int .i64 (y : Nat), K1, K2] w1 (RetV (.int .i64 z) w1)) :
    Calls Tryz.prog 265 #[.slice A n c, .int .i64 0, .int .i64 n, .func (.func 190) #[] #[K1, K2]] w (fun e w' => e = .returned (.tuple #[]) ∧ OwnR irow 1 w' lo 3 A n c (srt lt l) ∧ w.grownBy w' (blkOf A)) := by
  have H := Lib.hid h; have HCMP := Lib.hid hcmp; clear h hcmp
  go_enter Tryz.func265, Tryz.ntmps265
  go_wp2_with fail
  go_loopw [8, 9] (fun t _ wr => ∃ (i : Nat) (l' : List Nat), t = .int .i64 i ∧ 1 ≤ i ∧ (i ≤ n ∨ i = 1) ∧ OwnR irow 1 wr lo 3 A n c l' ∧ w.grownBy wr (blkOf A) ∧ srtTo lt l i = l') (fun t _ _ => n + 1 - (intOf t).toNat)
  case atStart => exact ⟨1, l, rfl, Nat.le_refl _, .inr rfl, H.out, gr_refl _ _, rfl⟩
  case round =>
    obtain ⟨i, l1, rfl, hi, hi2, hown, hg, hsr⟩ := hrel
    have HO := Lib.hid hown; have HG := Lib.hid hg; have HSR := Lib.hid hsr; clear hown hg hsr
    have HLM := Lib.hid (show ∀ x ∈ l1, x ∈ l from fun x hx => srtTo_mem (lt := lt) (i := i) (by rw [HSR.out]; exact hx))
    by_cases hlt : i < n
    · obtain ⟨g, rfl, _, _⟩ := H.out.1.pos (by omega)
      have hl0 : (i : Int) < (n : Int) := by omega
      go_wp2_with fail
      go_loopw [9] (fun t wr => ∃ (j : Nat) (l' : List Nat), t = .int .i64 j ∧ j ≤ i ∧ OwnR irow 1 wr lo 3 (some ⟨g, 0, none⟩) n c l' ∧ w.grownBy wr (some g) ∧ sink lt l' j = sink lt l1 i ∧ ∀ x ∈ l', x ∈ l) (fun t _ => (intOf t).toNat)
      case atStart => exact ⟨i, l1, rfl, Nat.le_refl _, HO.out, HG.out, rfl, HLM.out⟩
      case round =>
        clear HO HG
        obtain ⟨j, l2, rfl, hj, hown, hg, hsk, hmem⟩ := hrel
        have HO := Lib.hid hown; have HG := Lib.hid hg; have HSK := Lib.hid hsk; have HM := Lib.hid hmem; clear hown hg hsk hmem
        have hHeld : wr.grownBy wr.drew none := gr_drew (gr_refl _ _)
        by_cases h0 : 0 < j
        · obtain ⟨q, rfl⟩ : ∃ q, j = q + 1 := ⟨j - 1, by omega⟩
          obtain ⟨x, hx⟩ : ∃ b, l2[q + 1]? = some b := ⟨_, List.getElem?_eq_getElem (by rw [HO.out.2]; omega)⟩
          obtain ⟨y, hy⟩ : ∃ b, l2[q]? = some b := ⟨_, List.getElem?_eq_getElem (by rw [HO.out.2]; omega)⟩
          have HX := Lib.hid hx; have HY := Lib.hid hy; clear hx hy
          have hi0 : decide ((0 : Int) < ((q + 1 : Nat) : Int)) = true := decide_eq_true (by omega)
          have hi1 : decide ((0 : Int) < (q : Int) + 1) = true := decide_eq_true (by omega)
          have q1 : IntKind.i64.wrap (q : Int) = (q : Int) := IntWalk.i64_in _ (by omega)
          have q2 : (0 : Int) ≤ (q : Int) + 1 := by omega
          have q3 : (q : Int) + 1 < (n : Int) := by omega
          have q4 : ((q : Int) + 1).toNat = q + 1 := by omega
          have q5 : (0 : Int) ≤ (q : Int) := by omega
          have q6 : (q : Int) < (n : Int) := by omega
          go_wp2_with fail
          refine H_begin (fun w' => wr.grownBy w' none) (by kernel_rfl) ?_
          refine H_take (k := 0) (v := ?_) (by rfl) (by kernel_rfl) (by kernel_rfl) (by kernel_rfl) (by exact fun _ _ _ h => h) (by rfl) ?_ (by assumption) ?_
          rotate_left 1
          · intro w hSw
            (try dsimp only at hSw)
            go_simp
            (try with_reducible rfl)
          (try simp only [Act.put, List.setIfInBounds_toArray, List.set_cons_zero, List.set_cons_succ])
          refine H_take (k := 1) (v := ?_) (by rfl) (by kernel_rfl) (by kernel_rfl) (by kernel_rfl) (by exact fun _ _ _ h => h) (by rfl) ?_ (by assumption) ?_
          rotate_left 1
          · intro w hSw
            (try dsimp only at hSw)
            go_simp
            (try with_reducible rfl)
          (try simp only [Act.put, List.setIfInBounds_toArray, List.set_cons_zero, List.set_cons_succ])
          refine H_take (k := 2) (v := ?_) (by rfl) (by kernel_rfl) (by kernel_rfl) (by kernel_rfl) (by exact fun _ _ _ h => h) (by rfl) ?_ (by assumption) ?_
          rotate_left 1
          · intro w hSw
            (try dsimp only at hSw)
            go_simp
            (try with_reducible rfl)
          (try simp only [Act.put, List.setIfInBounds_toArray, List.set_cons_zero, List.set_cons_succ])
          refine H_take (k := 3) (v := ?_) (by rfl) (by kernel_rfl) (by kernel_rfl) (by kernel_rfl) (by exact fun _ _ _ h => h) (by rfl) ?_ (by assumption) ?_
          rotate_left 1
          · intro w hSw
            (try dsimp only at hSw)
            go_simp
            (try with_reducible rfl)
          (try simp only [Act.put, List.setIfInBounds_toArray, List.set_cons_zero, List.set_cons_succ])
          refine H_take (k := 4) (v := ?_) (by rfl) (by kernel_rfl) (by kernel_rfl) (by kernel_rfl) (by exact fun _ _ _ h => h) (by rfl) ?_ (by assumption) ?_
          rotate_left 1
          · intro w hSw
            (try dsimp only at hSw)
            go_simp
            (try with_reducible rfl)
          (try simp only [Act.put, List.setIfInBounds_toArray, List.set_cons_zero, List.set_cons_succ])
          refine H_take (k := 5) (v := ?_) (by rfl) (by kernel_rfl) (by kernel_rfl) (by kernel_rfl) (by exact fun _ _ _ h => h) (by rfl) ?_ (by assumption) ?_
          rotate_left 1
          · intro w hSw
            (try dsimp only at hSw)
            go_simp
            (try with_reducible rfl)
          (try simp only [Act.put, List.setIfInBounds_toArray, List.set_cons_zero, List.set_cons_succ])
          refine H_take (k := 6) (v := ?_) (by rfl) (by kernel_rfl) (by kernel_rfl) (by kernel_rfl) (by exact fun _ _ _ h => h) (by rfl) ?_ (by assumption) ?_
          rotate_left 1
          · intro w hSw
            (try dsimp only at hSw)
            go_simp
            (try with_reducible rfl)
          (try simp only [Act.put, List.setIfInBounds_toArray, List.set_cons_zero, List.set_cons_succ])
          refine H_take (k := 7) (v := ?_) (by rfl) (by kernel_rfl) (by kernel_rfl) (by kernel_rfl) (by exact fun _ _ _ h => h) (by rfl) ?_ (by assumption) ?_
          rotate_left 1
          · intro w hSw
            (try dsimp only at hSw)
            go_simp
            (try with_reducible rfl)
          (try simp only [Act.put, List.setIfInBounds_toArray, List.set_cons_zero, List.set_cons_succ])
          refine H_take (k := 8) (v := ?_) (by rfl) (by kernel_rfl) (by kernel_rfl) (by kernel_rfl) (by exact fun _ _ _ h => h) (by rfl) ?_ (by assumption) ?_
          rotate_left 1
          · intro w' hSw
            have kc := (HO.out.recs.grown hSw (fun g e => by cases e)).at_ irow_len HX.out 0 _ rfl
            simp only [Nat.mul_one, Nat.add_zero, Nat.zero_add] at kc
            go_simp
            (try with_reducible rfl)
          (try simp only [Act.put, List.setIfInBounds_toArray, List.set_cons_zero, List.set_cons_succ])
          refine H_take (k := 9) (v := ?_) (by rfl) (by kernel_rfl) (by kernel_rfl) (by kernel_rfl) (by exact fun _ _ _ h => h) (by rfl) ?_ (by assumption) ?_
          rotate_left 1
          · intro w hSw
            (try dsimp only at hSw)
            go_simp
            (try with_reducible rfl)
          (try simp only [Act.put, List.setIfInBounds_toArray, List.set_cons_zero, List.set_cons_succ])
          refine H_take (k := 10) (v := ?_) (by rfl) (by kernel_rfl) (by kernel_rfl) (by kernel_rfl) (by exact fun _ _ _ h => h) (by rfl) ?_ (by assumption) ?_
          rotate_left 1
          · intro w hSw
            (try dsimp only at hSw)
            go_simp
            (try with_reducible rfl)
          (try simp only [Act.put, List.setIfInBounds_toArray, List.set_cons_zero, List.set_cons_succ])
          refine H_take (k := 11) (v := ?_) (by rfl) (by kernel_rfl) (by kernel_rfl) (by kernel_rfl) (by exact fun _ _ _ h => h) (by rfl) ?_ (by assumption) ?_
          rotate_left 1
          · intro w hSw
            (try dsimp only at hSw)
            go_simp
            (try with_reducible rfl)
          (try simp only [Act.put, List.setIfInBounds_toArray, List.set_cons_zero, List.set_cons_succ])
          refine H_take (k := 12) (v := ?_) (by rfl) (by kernel_rfl) (by kernel_rfl) (by kernel_rfl) (by exact fun _ _ _ h => h) (by rfl) ?_ (by assumption) ?_
          rotate_left 1
          · intro w hSw
            (try dsimp only at hSw)
            go_simp
            (try with_reducible rfl)
          (try simp only [Act.put, List.setIfInBounds_toArray, List.set_cons_zero, List.set_cons_succ])
          refine H_take (k := 13) (v := ?_) (by rfl) (by kernel_rfl) (by kernel_rfl) (by kernel_rfl) (by exact fun _ _ _ h => h) (by rfl) ?_ (by assumption) ?_
          rotate_left 1
          · intro w' hSw
            have kc := (HO.out.recs.grown hSw (fun g e => by cases e)).at_ irow_len HY.out 0 _ rfl
            simp only [Nat.mul_one, Nat.add_zero, Nat.zero_add] at kc
            go_simp
            (try with_reducible rfl)
          (try simp only [Act.put, List.setIfInBounds_toArray, List.set_cons_zero, List.set_cons_succ])
          refine H_run (k := 14) (by rfl) (by kernel_rfl) (by rfl) (fun K hK => ?_)
          go_simp
          obtain ⟨Z, hZ, hcall⟩ := HCMP.out _ x y (gr_drew HG.out) (HM.out _ (mem_of_get HX.out)) (HM.out _ (mem_of_get HY.out))
          refine hcall.mono ?_
          rintro e w6 ⟨rfl, hg6⟩
          clear hcall
          go_simp
          have hgz : wr.grownBy w6 none := gr_none (gr_drew (gr_refl wr none)) hg6
          refine hK _ _ hgz ?_
          clear hK K hHeld hg6
          have hHeld := hgz
          obtain ⟨ZB, hZB⟩ : ∃ ZB, decide (Z < 0) = ZB := ⟨_, rfl⟩
          have HZB := Lib.hid (show lt x y = ZB from hZ.symm.trans hZB)
          clear hZ
          refine H_take (k := 15) (v := ?_) (by rfl) (by kernel_rfl) (by kernel_rfl) (by kernel_rfl) (by exact fun _ _ _ h => h) (by rfl) ?_ (by assumption) ?_
          rotate_left 1
          · intro w hSw
            (try dsimp only at hSw)
            go_simp
            (try with_reducible rfl)
          (try simp only [Act.put, List.setIfInBounds_toArray, List.set_cons_zero, List.set_cons_succ])
          refine H_take (k := 16) (v := ?_) (by rfl) (by kernel_rfl) (by kernel_rfl) (by kernel_rfl) (by exact fun _ _ _ h => h) (by rfl) ?_ (by assumption) ?_
          rotate_left 1
          · intro w hSw
            (try dsimp only at hSw)
            go_simp
            (try with_reducible rfl)
          (try simp only [Act.put, List.setIfInBounds_toArray, List.set_cons_zero, List.set_cons_succ])
          refine H_done (by kernel_rfl) ?_
          clear hi0 hi1 hHeld
          have HO6 := Lib.hid (HO.out.kept hgz (fun g e => by cases e))
          have HG6 := Lib.hid (gr_none HG.out hgz)
          clear hgz hZB
          cases ZB
          · clear q1 q2 q3 q4 q5 q6
            go_wp2_with fail
            go_roundw
            case rel => exact ⟨i + 1, l2, by go_num, by omega, .inl (by omega), HO6.out, HG6.out, by show sink lt (srtTo lt l i) i = l2; rw [HSR.out, ← HSK.out]; exact sink_no HX.out HY.out HZB.out⟩
            case measure => simp [intOf]; omega
          · go_wp2_with fail
            refine wp_region_B (fun w' => w6.grownBy w' none) 15 (by kernel_rfl) ?_
            have hHeld : w6.grownBy w6.drew none := gr_drew (gr_refl _ _)
            refine B_take (k := 0) false (v := ?_) (by rfl) (by kernel_rfl) (by exact fun _ _ _ h => h) (by rfl) ?_ (by first | exact .inr hHeld | exact .inl (by rfl)) ?_
            rotate_left 1
            · intro w hSw
              clear hSw
              go_simp
              (try with_reducible rfl)
            (try simp only [Act.put, List.setIfInBounds_toArray, List.set_cons_zero, List.set_cons_succ])
            refine B_take (k := 1) false (v := ?_) (by rfl) (by kernel_rfl) (by exact fun _ _ _ h => h) (by rfl) ?_ (by first | exact .inr hHeld | exact .inl (by rfl)) ?_
            rotate_left 1
            · intro w hSw
              clear hSw
              go_simp
              (try with_reducible rfl)
            (try simp only [Act.put, List.setIfInBounds_toArray, List.set_cons_zero, List.set_cons_succ])
            refine B_take (k := 2) false (v := ?_) (by rfl) (by kernel_rfl) (by exact fun _ _ _ h => h) (by rfl) ?_ (by first | exact .inr hHeld | exact .inl (by rfl)) ?_
            rotate_left 1
            · intro w hSw
              clear hSw
              go_simp
              (try with_reducible rfl)
            (try simp only [Act.put, List.setIfInBounds_toArray, List.set_cons_zero, List.set_cons_succ])
            refine B_take (k := 3) false (v := ?_) (by rfl) (by kernel_rfl) (by exact fun _ _ _ h => h) (by rfl) ?_ (by first | exact .inr hHeld | exact .inl (by rfl)) ?_
            rotate_left 1
            · intro w hSw
              clear hSw
              go_simp
              (try with_reducible rfl)
            (try simp only [Act.put, List.setIfInBounds_toArray, List.set_cons_zero, List.set_cons_succ])
            refine B_take (k := 4) false (v := ?_) (by rfl) (by kernel_rfl) (by exact fun _ _ _ h => h) (by rfl) ?_ (by first | exact .inr hHeld | exact .inl (by rfl)) ?_
            rotate_left 1
            · intro w hSw
              clear hSw
              go_simp
              (try with_reducible rfl)
            (try simp only [Act.put, List.setIfInBounds_toArray, List.set_cons_zero, List.set_cons_succ])
            refine B_take (k := 5) false (v := ?_) (by rfl) (by kernel_rfl) (by exact fun _ _ _ h => h) (by rfl) ?_ (by first | exact .inr hHeld | exact .inl (by rfl)) ?_
            rotate_left 1
            · intro w hSw
              clear hSw
              go_simp
              (try with_reducible rfl)
            (try simp only [Act.put, List.setIfInBounds_toArray, List.set_cons_zero, List.set_cons_succ])
            refine B_take (k := 6) false (v := ?_) (by rfl) (by kernel_rfl) (by exact fun _ _ _ h => h) (by rfl) ?_ (by first | exact .inr hHeld | exact .inl (by rfl)) ?_
            rotate_left 1
            · intro w hSw
              clear hSw
              go_simp
              (try with_reducible rfl)
            (try simp only [Act.put, List.setIfInBounds_toArray, List.set_cons_zero, List.set_cons_succ])
            refine B_take (k := 7) false (v := ?_) (by rfl) (by kernel_rfl) (by exact fun _ _ _ h => h) (by rfl) ?_ (by first | exact .inr hHeld | exact .inl (by rfl)) ?_
            rotate_left 1
            · intro w hSw
              clear hSw
              go_simp
              (try with_reducible rfl)
            (try simp only [Act.put, List.setIfInBounds_toArray, List.set_cons_zero, List.set_cons_succ])
            refine B_take (k := 8) false (v := ?_) (by rfl) (by kernel_rfl) (by exact fun _ _ _ h => h) (by rfl) ?_ (by first | exact .inr hHeld | exact .inl (by rfl)) ?_
            rotate_left 1
            · intro w hSw
              clear hSw
              go_simp
              (try with_reducible rfl)
            (try simp only [Act.put, List.setIfInBounds_toArray, List.set_cons_zero, List.set_cons_succ])
            refine B_take (k := 9) true (v := ?_) (by rfl) (by kernel_rfl) (by exact fun _ _ _ h => h) (by rfl) ?_ (.inr hHeld) ?_
            rotate_left 1
            · intro w' hSw
              have kc := (HO6.out.recs.grown hSw (fun g e => by cases e)).at_ irow_len HY.out 0 _ rfl
              simp only [Nat.mul_one, Nat.add_zero, Nat.zero_add] at kc
              go_simp
              (try with_reducible rfl)
            (try simp only [Act.put, List.setIfInBounds_toArray, List.set_cons_zero, List.set_cons_succ])
            refine B_take (k := 10) false (v := ?_) (by rfl) (by kernel_rfl) (by exact fun _ _ _ h => h) (by rfl) ?_ (by first | exact .inr hHeld | exact .inl (by rfl)) ?_
            rotate_left 1
            · intro w hSw
              clear hSw
              go_simp
              (try with_reducible rfl)
            (try simp only [Act.put, List.setIfInBounds_toArray, List.set_cons_zero, List.set_cons_succ])
            refine B_take (k := 11) false (v := ?_) (by rfl) (by kernel_rfl) (by exact fun _ _ _ h => h) (by rfl) ?_ (by first | exact .inr hHeld | exact .inl (by rfl)) ?_
            rotate_left 1
            · intro w hSw
              clear hSw
              go_simp
              (try with_reducible rfl)
            (try simp only [Act.put, List.setIfInBounds_toArray, List.set_cons_zero, List.set_cons_succ])
            refine B_take (k := 12) false (v := ?_) (by rfl) (by kernel_rfl) (by exact fun _ _ _ h => h) (by rfl) ?_ (by first | exact .inr hHeld | exact .inl (by rfl)) ?_
            rotate_left 1
            · intro w hSw
              clear hSw
              go_simp
              (try with_reducible rfl)
            (try simp only [Act.put, List.setIfInBounds_toArray, List.set_cons_zero, List.set_cons_succ])
            refine B_take (k := 13) true (v := ?_) (by rfl) (by kernel_rfl) (by exact fun _ _ _ h => h) (by rfl) ?_ (.inr hHeld) ?_
            rotate_left 1
            · intro w' hSw
              have kc := (HO6.out.recs.grown hSw (fun g e => by cases e)).at_ irow_len HX.out 0 _ rfl
              simp only [Nat.mul_one, Nat.add_zero, Nat.zero_add] at kc
              go_simp
              (try with_reducible rfl)
            (try simp only [Act.put, List.setIfInBounds_toArray, List.set_cons_zero, List.set_cons_succ])
            refine B_take (k := 14) false (v := ?_) (by rfl) (by kernel_rfl) (by exact fun _ _ _ h => h) (by rfl) ?_ (by first | exact .inr hHeld | exact .inl (by rfl)) ?_
            rotate_left 1
            · intro w hSw
              clear hSw
              go_simp
              (try with_reducible rfl)
            (try simp only [Act.put, List.setIfInBounds_toArray, List.set_cons_zero, List.set_cons_succ])
            refine B_run (k := 15) (by rfl) (by kernel_rfl) (by rfl) (fun K hK => ?_)
            refine wp_store_one (row := irow) (by kernel_rfl) irow_len _ _ rfl (q + 1) rfl y (.int .i64 (y : Nat)) rfl rfl rfl (HO6.out.kept (gr_drew (gr_refl _ none)) (fun g e => by cases e)) (by omega) rfl ?_
            intro w7 hown7 hg7
            refine hK _ _ (.inl (by rfl)) ?_
            clear hK K hHeld
            (try simp only [Act.put, List.setIfInBounds_toArray, List.set_cons_zero, List.set_cons_succ])
            refine B_take (k := 16) false (v := ?_) (by rfl) (by kernel_rfl) (by exact fun _ _ _ h => h) (by rfl) ?_ (by first | exact .inr hHeld | exact .inl (by rfl)) ?_
            rotate_left 1
            · intro w hSw
              clear hSw
              go_simp
              (try with_reducible rfl)
            (try simp only [Act.put, List.setIfInBounds_toArray, List.set_cons_zero, List.set_cons_succ])
            refine B_run (k := 17) (by rfl) (by kernel_rfl) (by rfl) (fun K hK => ?_)
            refine wp_store_one (row := irow) (by kernel_rfl) irow_len _ _ rfl q rfl x (.int .i64 (x : Nat)) rfl rfl rfl hown7 (by omega) rfl ?_
            intro w8 hown8 hg8
            refine hK _ _ (.inl (by rfl)) ?_
            clear hK K
            (try simp only [Act.put, List.setIfInBounds_toArray, List.set_cons_zero, List.set_cons_succ])
            refine B_done (by kernel_rfl) ?_
            have HO8 := Lib.hid hown8
            have HG8 := Lib.hid (gr_same HG6.out (gr_same (gr_same (gr_drew (gr_refl w6 _)) hg7) hg8))
            clear hown7 hg7 hown8 hg8 q1 q2 q3 q4 q5 q6
            go_simp
            go_wp2_with fail
            go_roundw
            case rel => exact ⟨q, _, by go_num, by omega, HO8.out, HG8.out, by rw [← HSK.out]; exact (sink_yes HX.out HY.out HZB.out).symm, fun z hz => HM.out z (swap_mem (mem_of_get HX.out) (mem_of_get HY.out) hz)⟩
            case measure => simp [intOf]
        · obtain rfl : j = 0 := by omega
          have hi0 : decide ((0 : Int) < ((0 : Nat) : Int)) = false := by decide
          go_wp2_with fail
          refine H_begin (fun w' => wr.grownBy w' none) (by kernel_rfl) ?_
          refine H_take (k := 0) (v := ?_) (by rfl) (by kernel_rfl) (by kernel_rfl) (by kernel_rfl) (by exact fun _ _ _ h => h) (by rfl) ?_ (by assumption) ?_
          rotate_left 1
          · intro w hSw
            (try dsimp only at hSw)
            go_simp
            (try with_reducible rfl)
          (try simp only [Act.put, List.setIfInBounds_toArray, List.set_cons_zero, List.set_cons_succ])
          refine H_take (k := 1) (v := ?_) (by rfl) (by kernel_rfl) (by kernel_rfl) (by kernel_rfl) (by exact fun _ _ _ h => h) (by rfl) ?_ (by assumption) ?_
          rotate_left 1
          · intro w hSw
            (try dsimp only at hSw)
            go_simp
            (try with_reducible rfl)
          (try simp only [Act.put, List.setIfInBounds_toArray, List.set_cons_zero, List.set_cons_succ])
          refine H_take (k := 2) (v := ?_) (by rfl) (by kernel_rfl) (by kernel_rfl) (by kernel_rfl) (by exact fun _ _ _ h => h) (by rfl) ?_ (by assumption) ?_
          rotate_left 1
          · intro w hSw
            (try dsimp only at hSw)
            go_simp
            (try with_reducible rfl)
          (try simp only [Act.put, List.setIfInBounds_toArray, List.set_cons_zero, List.set_cons_succ])
          refine H_take (k := 3) (v := ?_) (by rfl) (by kernel_rfl) (by kernel_rfl) (by kernel_rfl) (by exact fun _ _ _ h => h) (by rfl) ?_ (by assumption) ?_
          rotate_left 1
          · intro w hSw
            (try dsimp only at hSw)
            go_simp
            (try with_reducible rfl)
          (try simp only [Act.put, List.setIfInBounds_toArray, List.set_cons_zero, List.set_cons_succ])
          refine H_skip (k := 4) (by rfl) (by kernel_rfl) (by kernel_rfl) (by kernel_rfl) (by exact fun _ _ _ h => h) (by rfl) (by assumption) ?_
          (try simp only [Act.put, List.setIfInBounds_toArray, List.set_cons_zero, List.set_cons_succ])
          refine H_skip (k := 5) (by rfl) (by kernel_rfl) (by kernel_rfl) (by kernel_rfl) (by exact fun _ _ _ h => h) (by rfl) (by assumption) ?_
          (try simp only [Act.put, List.setIfInBounds_toArray, List.set_cons_zero, List.set_cons_succ])
          refine H_skip (k := 6) (by rfl) (by kernel_rfl) (by kernel_rfl) (by kernel_rfl) (by exact fun _ _ _ h => h) (by rfl) (by assumption) ?_
          (try simp only [Act.put, List.setIfInBounds_toArray, List.set_cons_zero, List.set_cons_succ])
          refine H_skip (k := 7) (by rfl) (by kernel_rfl) (by kernel_rfl) (by kernel_rfl) (by exact fun _ _ _ h => h) (by rfl) (by assumption) ?_
          (try simp only [Act.put, List.setIfInBounds_toArray, List.set_cons_zero, List.set_cons_succ])
          refine H_skip (k := 8) (by rfl) (by kernel_rfl) (by kernel_rfl) (by kernel_rfl) (by exact fun _ _ _ h => h) (by rfl) (by assumption) ?_
          (try simp only [Act.put, List.setIfInBounds_toArray, List.set_cons_zero, List.set_cons_succ])
          refine H_skip (k := 9) (by rfl) (by kernel_rfl) (by kernel_rfl) (by kernel_rfl) (by exact fun _ _ _ h => h) (by rfl) (by assumption) ?_
          (try simp only [Act.put, List.setIfInBounds_toArray, List.set_cons_zero, List.set_cons_succ])
          refine H_skip (k := 10) (by rfl) (by kernel_rfl) (by kernel_rfl) (by kernel_rfl) (by exact fun _ _ _ h => h) (by rfl) (by assumption) ?_
          (try simp only [Act.put, List.setIfInBounds_toArray, List.set_cons_zero, List.set_cons_succ])
          refine H_skip (k := 11) (by rfl) (by kernel_rfl) (by kernel_rfl) (by kernel_rfl) (by exact fun _ _ _ h => h) (by rfl) (by assumption) ?_
          (try simp only [Act.put, List.setIfInBounds_toArray, List.set_cons_zero, List.set_cons_succ])
          refine H_skip (k := 12) (by rfl) (by kernel_rfl) (by kernel_rfl) (by kernel_rfl) (by exact fun _ _ _ h => h) (by rfl) (by assumption) ?_
          (try simp only [Act.put, List.setIfInBounds_toArray, List.set_cons_zero, List.set_cons_succ])
          refine H_skip (k := 13) (by rfl) (by kernel_rfl) (by kernel_rfl) (by kernel_rfl) (by exact fun _ _ _ h => h) (by rfl) (by assumption) ?_
          (try simp only [Act.put, List.setIfInBounds_toArray, List.set_cons_zero, List.set_cons_succ])
          refine H_skip (k := 14) (by rfl) (by kernel_rfl) (by kernel_rfl) (by kernel_rfl) (by exact fun _ _ _ h => h) (by rfl) (by assumption) ?_
          (try simp only [Act.put, List.setIfInBounds_toArray, List.set_cons_zero, List.set_cons_succ])
          refine H_skip (k := 15) (by rfl) (by kernel_rfl) (by kernel_rfl) (by kernel_rfl) (by exact fun _ _ _ h => h) (by rfl) (by assumption) ?_
          (try simp only [Act.put, List.setIfInBounds_toArray, List.set_cons_zero, List.set_cons_succ])
          refine H_take (k := 16) (v := ?_) (by rfl) (by kernel_rfl) (by kernel_rfl) (by kernel_rfl) (by exact fun _ _ _ h => h) (by rfl) ?_ (by assumption) ?_
          rotate_left 1
          · intro w hSw
            (try dsimp only at hSw)
            go_simp
            (try with_reducible rfl)
          (try simp only [Act.put, List.setIfInBounds_toArray, List.set_cons_zero, List.set_cons_succ])
          refine H_done (by kernel_rfl) ?_
          clear hi0 hHeld
          have HO6 := Lib.hid (HO.out.kept (gr_drew (gr_refl _ none)) (fun g e => by cases e))
          have HG6 := Lib.hid (gr_drew HG.out)
          go_wp2_with fail
          go_roundw
          case rel => exact ⟨i + 1, l2, by go_num, by omega, .inl (by omega), HO6.out, HG6.out, by show sink lt (srtTo lt l i) i = l2; rw [HSR.out, ← HSK.out]; rfl⟩
          case measure => simp [intOf]; omega
    · have hl0 : ¬ (i : Int) < (n : Int) := by omega
      go_wp2_with fail
      go_end0
      refine ⟨rfl, ?_, HG.out⟩
      have e : srt lt l = l1 := by
        unfold srt
        rw [H.out.2]
        by_cases hn0 : n = 0
        · subst hn0
          obtain rfl : i = 1 := by omega
          exact HSR.out
        · obtain rfl : i = n := by omega
          exact HSR.out
      rw [e]
      exact HO.out
set_option maxHeartbeats 2000000 in
theorem lineStb_any (lt : Nat → Nat → Bool) (lo : Nat) (A : Option Addr) (n c : Nat) (l : List Nat) (K1 K2 : Value) (w : World) (h : OwnR irow 1 w lo 3 A n c l) (hn : n ≤ 19)
    (hcmp : ∀ (w1 : World) (x y : Nat), w.grownBy w1 (blkOf A) → x ∈ l → y ∈ l → ∃ z : Int, decide (z < 0) = lt x y ∧ Calls Tryz.prog 190 #[.int .i64 (x : Nat), .int .i64 (y : Nat), K1, K2] w1 (RetV (.int .i64 z) w1)) :
    Calls Tryz.prog 239 #[.slice A n c, .int .i64 n, .func (.func 190) #[] #[K1, K2]] w (fun e w' => e = .returned (.tuple #[]) ∧ OwnR irow 1 w' lo 3 A n c (srt lt l) ∧ w.grownBy w' (blkOf A)) := by
  have H := Lib.hid h; have HCMP := Lib.hid hcmp; clear h hcmp
  have d1 : decide ((20 : Int) ≤ (n : Int)) = false := decide_eq_false (by omega)
  have d2 : decide ((20 : Int) < (n : Int)) = false := decide_eq_false (by omega)
  go_enter Tryz.func239, Tryz.ntmps239
  go_wp2_with fail
  go_loopw [7, 8] (fun x y wr => x = .int .i64 0 ∧ y = .int .i64 20 ∧ w = wr) (fun _ _ _ => 0)
  case atStart => exact ⟨rfl, rfl, rfl⟩
  case round =>
    obtain ⟨rfl, rfl, rfl⟩ := hrel
    go_wp2_with fail
    refine (lineIns_any lt lo A n c l K1 K2 _ H.out (by omega) HCMP.out).mono ?_
    rintro e w2 ⟨rfl, hown, hg⟩
    have HO := Lib.hid hown; have HG := Lib.hid hg; clear hown hg
    go_wp2_with fail
    go_loopw [6, 7, 8] (fun x _ _ wr => x = .int .i64 20 ∧ w2 = wr) (fun _ _ _ _ => 0)
    case atStart => exact ⟨rfl, rfl⟩
    case round =>
      obtain ⟨rfl, rfl⟩ := hrel
      go_wp2_with fail
      go_end0
      exact ⟨rfl, HO.out, HG.out⟩
set_option maxHeartbeats 1000000 in
theorem lineSort_any (lt : Nat → Nat → Bool) (lo : Nat) (A : Option Addr) (n c : Nat) (l : List Nat) (K1 K2 : Value) (w : World) (h : OwnR irow 1 w lo 3 A n c l) (hn : n ≤ 19)
    (hcmp : ∀ (w1 : World) (x y : Nat), w.grownBy w1 (blkOf A) → x ∈ l → y ∈ l → ∃ z : Int, decide (z < 0) = lt x y ∧ Calls Tryz.prog 190 #[.int .i64 (x : Nat), .int .i64 (y : Nat), K1, K2] w1 (RetV (.int .i64 z) w1)) :
    Calls Tryz.prog 189 #[.slice A n c, .func (.func 190) #[] #[K1, K2]] w (fun e w' => e = .returned (.tuple #[]) ∧ OwnR irow 1 w' lo 3 A n c (srt lt l) ∧ w.grownBy w' (blkOf A)) := by
  have H := Lib.hid h; have HCMP := Lib.hid hcmp; clear h hcmp
  go_enter Tryz.func189, Tryz.ntmps189
  go_wp2_with fail
  refine (lineStb_any lt lo A n c l K1 K2 _ H.out hn HCMP.out).mono ?_
  rintro e w2 ⟨rfl, hown, hg⟩
  have HO := Lib.hid hown; have HG := Lib.hid hg; clear hown hg
  go_wp2_with fail
  go_end0
  exact ⟨rfl, HO.out, HG.out⟩
end Go.Proofs.YtnmodobkennklaaGreatDoor

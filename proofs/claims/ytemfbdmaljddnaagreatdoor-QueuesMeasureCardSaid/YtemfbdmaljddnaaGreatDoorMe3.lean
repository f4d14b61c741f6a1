/- Contracts of bits.Len at small numbers and of slices.SortFunc at few windows (by their beginnings, as Busy sorts them). Conditions: at most twelve windows. -/
import Derived.Test.YtemfbdmaljddnaaGreatDoorQue1
import Derived.Test.YtemfbdmaljddnaaGreatDoorBun3
import Derived.Test.YtemfbdmaljddnaaGreatDoorRo1
import Derived.Test.YtemfbdmaljddnaaGreatDoorBun2
namespace Go.Proofs.YtemfbdmaljddnaaGreatDoor
open Go.RowKit

theorem pwRow_one (x : Int × Int) : ∀ u ∈ pwRow x, u.oneCell' = true := by
  intro u hu
  simp only [pwRow, List.mem_cons, List.not_mem_nil, or_false] at hu
  rcases hu with rfl | rfl <;> rfl
set_option maxHeartbeats 8000000 in
set_option maxRecDepth 100000 in
theorem bitsLen64_any (n : Nat) (hn : n ≤ 12) (w : World) : Calls Tryz.prog 125 #[.int .u64 n] w (fun e w' => ∃ z : Int, e = .returned (.int .i64 z) ∧ w' = w) := by
  have hc : n = 0 ∨ n = 1 ∨ n = 2 ∨ n = 3 ∨ n = 4 ∨ n = 5 ∨ n = 6 ∨ n = 7 ∨ n = 8 ∨ n = 9 ∨ n = 10 ∨ n = 11 ∨ n = 12 := by omega
  clear hn
  rcases hc with rfl | rfl | rfl | rfl | rfl | rfl | rfl | rfl | rfl | rfl | rfl | rfl | rfl
  all_goals
    go_enter Tryz.func125, Tryz.ntmps125
    go_wp2_with fail
    go_ret
    exact ⟨_, rfl, rfl⟩
set_option maxHeartbeats 8000000 in
set_option maxRecDepth 100000 in
theorem bitsLen_any (n : Nat) (hn : n ≤ 12) (w : World) : Calls Tryz.prog 92 #[.int .u64 n] w (fun e w' => ∃ z : Int, e = .returned (.int .i64 z) ∧ w' = w) := by
  have hc : n = 0 ∨ n = 1 ∨ n = 2 ∨ n = 3 ∨ n = 4 ∨ n = 5 ∨ n = 6 ∨ n = 7 ∨ n = 8 ∨ n = 9 ∨ n = 10 ∨ n = 11 ∨ n = 12 := by omega
  clear hn
  rcases hc with rfl | rfl | rfl | rfl | rfl | rfl | rfl | rfl | rfl | rfl | rfl | rfl | rfl
  all_goals
    go_enter Tryz.func92, Tryz.ntmps92
    go_wp2_with (first | (go_at_call 125; refine (bitsLen64_any _ (by decide) _).mono ?_; rintro e w1 ⟨z, rfl, rfl⟩) | fail)
    go_ret
    exact ⟨_, rfl, rfl⟩
set_option maxHeartbeats 8000000 in
set_option maxRecDepth 100000 in
theorem pwIns_any (lt : (Int × Int) → (Int × Int) → Bool) (lo : Nat) (A : Option Addr) (n c : Nat) (l : List (Int × Int)) (w : World) (h : OwnR pwRow 2 w lo 34 A n c l) (hn : n ≤ 1000)
    (hcmp : ∀ (w1 : World) (x y : (Int × Int)), w.grownBy w1 (blkOf A) → x ∈ l → y ∈ l → ∃ z : Int, decide (z < 0) = lt x y ∧ Calls Tryz.prog 59 #[.agg #[.int .i64 x.1, .int .i64 x.2], .agg #[.int .i64 y.1, .int .i64 y.2]] w1 (RetV (.int .i64 z) w1)) :
    Calls Tryz.prog 116 #[.slice A n c, .int .i64 0, .int .i64 n, .func (.func 59) #[] #[]] w (fun e w' => e = .returned (.tuple #[]) ∧ OwnR pwRow 2 w' lo 34 A n c (srt lt l) ∧ w.grownBy w' (blkOf A)) := by
  have H := Lib.hid h; have HCMP := Lib.hid hcmp; clear h hcmp
  go_enter Tryz.func116, Tryz.ntmps116
  go_wp2_with fail
  go_loopw [8, 9] (fun t _ wr => ∃ (i : Nat) (l' : List (Int × Int)), t = .int .i64 i ∧ 1 ≤ i ∧ (i ≤ n ∨ i = 1) ∧ OwnR pwRow 2 wr lo 34 A n c l' ∧ w.grownBy wr (blkOf A) ∧ srtTo lt l i = l') (fun t _ _ => n + 1 - (intOf t).toNat)
  case atStart => exact ⟨1, l, rfl, Nat.le_refl _, .inr rfl, H.out, gr_refl _ _, rfl⟩
  case round =>
    obtain ⟨i, l1, rfl, hi, hi2, hown, hg, hsr⟩ := hrel
    have HO := Lib.hid hown; have HG := Lib.hid hg; have HSR := Lib.hid hsr; clear hown hg hsr
    have HLM := Lib.hid (show ∀ x ∈ l1, x ∈ l from fun x hx => srtTo_mem (lt := lt) (i := i) (by rw [HSR.out]; exact hx))
    by_cases hlt : i < n
    · obtain ⟨g, rfl, _, _⟩ := H.out.1.pos (by omega)
      have hl0 : (i : Int) < (n : Int) := by omega
      go_wp2_with fail
      go_loopw [9] (fun t wr => ∃ (j : Nat) (l' : List (Int × Int)), t = .int .i64 j ∧ j ≤ i ∧ OwnR pwRow 2 wr lo 34 (some ⟨g, 0, none⟩) n c l' ∧ w.grownBy wr (some g) ∧ sink lt l' j = sink lt l1 i ∧ ∀ x ∈ l', x ∈ l) (fun t _ => (intOf t).toNat)
      case atStart => exact ⟨i, l1, rfl, Nat.le_refl _, HO.out, HG.out, rfl, HLM.out⟩
      case round =>
        clear HO HG
        obtain ⟨j, l2, rfl, hj, hown, hg, hsk, hmem⟩ := hrel
        have HO := Lib.hid hown; have HG := Lib.hid hg; have HSK := Lib.hid hsk; have HM := Lib.hid hmem; clear hown hg hsk hmem
        have hHeld : wr.grownBy wr.drew none := gr_drew (gr_refl _ _)
        by_cases h0 : 0 < j
        · obtain ⟨q, rfl⟩ : ∃ q, j = q + 1 := ⟨j - 1, by omega⟩
          obtain ⟨x, hx⟩ : ∃ b, l2[q + 1]? = some b := ⟨_, List.getElem?_eq_getElem (by rw [HO.out.2]; omega)⟩
          obtain ⟨y, hy⟩ : ∃ b, l2[q]? = some b := ⟨_, List.getElem?_eq_getElem (by rw [HO.out.2]; omega)⟩
          have HX := Lib.hid hx; have HY := Lib.hid hy; clear hx hy
          have hi0 : decide ((0 : Int) < ((q + 1 : Nat) : Int)) = true := decide_eq_true (by omega)
          have hi1 : decide ((0 : Int) < (q : Int) + 1) = true := decide_eq_true (by omega)
          have q1 : IntKind.i64.wrap (q : Int) = (q : Int) := IntWalk.i64_in _ (by omega)
          have q2 : (0 : Int) ≤ (q : Int) + 1 := by omega
          have q3 : (q : Int) + 1 < (n : Int) := by omega
          have q4 : ((q : Int) + 1).toNat = q + 1 := by omega
          have q5 : (0 : Int) ≤ (q : Int) := by omega
          have q6 : (q : Int) < (n : Int) := by omega
          go_wp2_with fail
          refine H_begin (fun w' => wr.grownBy w' none) (by kernel_rfl) ?_
          refine H_take (k := 0) (v := ?_) (by rfl) (by kernel_rfl) (by kernel_rfl) (by kernel_rfl) (by exact fun _ _ _ h => h) (by rfl) ?_ (by assumption) ?_
          rotate_left 1
          · intro w hSw
            (try dsimp only at hSw)
            go_simp
            (try with_reducible rfl)
          (try simp only [Act.put, List.setIfInBounds_toArray, List.set_cons_zero, List.set_cons_succ])
          refine H_take (k := 1) (v := ?_) (by rfl) (by kernel_rfl) (by kernel_rfl) (by kernel_rfl) (by exact fun _ _ _ h => h) (by rfl) ?_ (by assumption) ?_
          rotate_left 1
          · intro w hSw
            (try dsimp only at hSw)
            go_simp
            (try with_reducible rfl)
          (try simp only [Act.put, List.setIfInBounds_toArray, List.set_cons_zero, List.set_cons_succ])
          refine H_take (k := 2) (v := ?_) (by rfl) (by kernel_rfl) (by kernel_rfl) (by kernel_rfl) (by exact fun _ _ _ h => h) (by rfl) ?_ (by assumption) ?_
          rotate_left 1
          · intro w hSw
            (try dsimp only at hSw)
            go_simp
            (try with_reducible rfl)
          (try simp only [Act.put, List.setIfInBounds_toArray, List.set_cons_zero, List.set_cons_succ])
          refine H_take (k := 3) (v := ?_) (by rfl) (by kernel_rfl) (by kernel_rfl) (by kernel_rfl) (by exact fun _ _ _ h => h) (by rfl) ?_ (by assumption) ?_
          rotate_left 1
          · intro w hSw
            (try dsimp only at hSw)
            go_simp
            (try with_reducible rfl)
          (try simp only [Act.put, List.setIfInBounds_toArray, List.set_cons_zero, List.set_cons_succ])
          refine H_take (k := 4) (v := ?_) (by rfl) (by kernel_rfl) (by kernel_rfl) (by kernel_rfl) (by exact fun _ _ _ h => h) (by rfl) ?_ (by assumption) ?_
          rotate_left 1
          · intro w hSw
            (try dsimp only at hSw)
            go_simp
            (try with_reducible rfl)
          (try simp only [Act.put, List.setIfInBounds_toArray, List.set_cons_zero, List.set_cons_succ])
          refine H_take (k := 5) (v := ?_) (by rfl) (by kernel_rfl) (by kernel_rfl) (by kernel_rfl) (by exact fun _ _ _ h => h) (by rfl) ?_ (by assumption) ?_
          rotate_left 1
          · intro w hSw
            (try dsimp only at hSw)
            go_simp
            (try with_reducible rfl)
          (try simp only [Act.put, List.setIfInBounds_toArray, List.set_cons_zero, List.set_cons_succ])
          refine H_take (k := 6) (v := ?_) (by rfl) (by kernel_rfl) (by kernel_rfl) (by kernel_rfl) (by exact fun _ _ _ h => h) (by rfl) ?_ (by assumption) ?_
          rotate_left 1
          · intro w hSw
            (try dsimp only at hSw)
            go_simp
            (try with_reducible rfl)
          (try simp only [Act.put, List.setIfInBounds_toArray, List.set_cons_zero, List.set_cons_succ])
          refine H_take (k := 7) (v := ?_) (by rfl) (by kernel_rfl) (by kernel_rfl) (by kernel_rfl) (by exact fun _ _ _ h => h) (by rfl) ?_ (by assumption) ?_
          rotate_left 1
          · intro w hSw
            (try dsimp only at hSw)
            go_simp
            (try with_reducible rfl)
          (try simp only [Act.put, List.setIfInBounds_toArray, List.set_cons_zero, List.set_cons_succ])
          refine H_take (k := 8) (v := .agg #[.int .i64 x.1, .int .i64 x.2]) (by rfl) (by kernel_rfl) (by kernel_rfl) (by kernel_rfl) (by exact fun _ _ _ h => h) (by rfl) (fun w' hSw => exec_ldr Tryz.winT _ rfl _ rfl [.int .i64 x.1, .int .i64 x.2] (fun j u hu => by rw [add_mk]; exact (by simpa using ((HO.out.recs.grown hSw (fun g e => by cases e)).at_ pwRow_len HX.out) j u hu)) rfl) (by assumption) ?_
          (try simp only [Act.put, List.setIfInBounds_toArray, List.set_cons_zero, List.set_cons_succ])
          refine H_take (k := 9) (v := ?_) (by rfl) (by kernel_rfl) (by kernel_rfl) (by kernel_rfl) (by exact fun _ _ _ h => h) (by rfl) ?_ (by assumption) ?_
          rotate_left 1
          · intro w hSw
            (try dsimp only at hSw)
            go_simp
            (try with_reducible rfl)
          (try simp only [Act.put, List.setIfInBounds_toArray, List.set_cons_zero, List.set_cons_succ])
          refine H_take (k := 10) (v := ?_) (by rfl) (by kernel_rfl) (by kernel_rfl) (by kernel_rfl) (by exact fun _ _ _ h => h) (by rfl) ?_ (by assumption) ?_
          rotate_left 1
          · intro w hSw
            (try dsimp only at hSw)
            go_simp
            (try with_reducible rfl)
          (try simp only [Act.put, List.setIfInBounds_toArray, List.set_cons_zero, List.set_cons_succ])
          refine H_take (k := 11) (v := ?_) (by rfl) (by kernel_rfl) (by kernel_rfl) (by kernel_rfl) (by exact fun _ _ _ h => h) (by rfl) ?_ (by assumption) ?_
          rotate_left 1
          · intro w hSw
            (try dsimp only at hSw)
            go_simp
            (try with_reducible rfl)
          (try simp only [Act.put, List.setIfInBounds_toArray, List.set_cons_zero, List.set_cons_succ])
          refine H_take (k := 12) (v := ?_) (by rfl) (by kernel_rfl) (by kernel_rfl) (by kernel_rfl) (by exact fun _ _ _ h => h) (by rfl) ?_ (by assumption) ?_
          rotate_left 1
          · intro w hSw
            (try dsimp only at hSw)
            go_simp
            (try with_reducible rfl)
          (try simp only [Act.put, List.setIfInBounds_toArray, List.set_cons_zero, List.set_cons_succ])
          refine H_take (k := 13) (v := .agg #[.int .i64 y.1, .int .i64 y.2]) (by rfl) (by kernel_rfl) (by kernel_rfl) (by kernel_rfl) (by exact fun _ _ _ h => h) (by rfl) (fun w' hSw => exec_ldr Tryz.winT _ rfl _ rfl [.int .i64 y.1, .int .i64 y.2] (fun j u hu => by rw [add_mk]; exact (by simpa using ((HO.out.recs.grown hSw (fun g e => by cases e)).at_ pwRow_len HY.out) j u hu)) rfl) (by assumption) ?_
          (try simp only [Act.put, List.setIfInBounds_toArray, List.set_cons_zero, List.set_cons_succ])
          refine H_run (k := 14) (by rfl) (by kernel_rfl) (by rfl) (fun K hK => ?_)
          go_simp
          obtain ⟨Z, hZ, hcall⟩ := HCMP.out _ x y (gr_drew HG.out) (HM.out _ (mem_of_get HX.out)) (HM.out _ (mem_of_get HY.out))
          refine hcall.mono ?_
          rintro e w6 ⟨rfl, hg6⟩
          clear hcall
          go_simp
          have hgz : wr.grownBy w6 none := gr_none (gr_drew (gr_refl wr none)) hg6
          refine hK _ _ hgz ?_
          clear hK K hHeld hg6
          have hHeld := hgz
          obtain ⟨ZB, hZB⟩ : ∃ ZB, decide (Z < 0) = ZB := ⟨_, rfl⟩
          have HZB := Lib.hid (show lt x y = ZB from hZ.symm.trans hZB)
          clear hZ
          refine H_take (k := 15) (v := ?_) (by rfl) (by kernel_rfl) (by kernel_rfl) (by kernel_rfl) (by exact fun _ _ _ h => h) (by rfl) ?_ (by assumption) ?_
          rotate_left 1
          · intro w hSw
            (try dsimp only at hSw)
            go_simp
            (try with_reducible rfl)
          (try simp only [Act.put, List.setIfInBounds_toArray, List.set_cons_zero, List.set_cons_succ])
          refine H_take (k := 16) (v := ?_) (by rfl) (by kernel_rfl) (by kernel_rfl) (by kernel_rfl) (by exact fun _ _ _ h => h) (by rfl) ?_ (by assumption) ?_
          rotate_left 1
          · intro w hSw
            (try dsimp only at hSw)
            go_simp
            (try with_reducible rfl)
          (try simp only [Act.put, List.setIfInBounds_toArray, List.set_cons_zero, List.set_cons_succ])
          refine H_done (by kernel_rfl) ?_
          clear hi0 hi1 hHeld
          have HO6 := Lib.hid (HO.out.kept hgz (fun g e => by cases e))
          have HG6 := Lib.hid (gr_none HG.out hgz)
          clear hgz hZB
          cases ZB
          · clear q1 q2 q3 q4 q5 q6
            go_wp2_with fail
            go_roundw
            case rel => exact ⟨i + 1, l2, by go_num, by omega, .inl (by omega), HO6.out, HG6.out, by show sink lt (srtTo lt l i) i = l2; rw [HSR.out, ← HSK.out]; exact sink_no HX.out HY.out HZB.out⟩
            case measure => simp [intOf]; omega
          · go_wp2_with fail
            refine wp_region_B (fun w' => w6.grownBy w' none) 15 (by kernel_rfl) ?_
            have hHeld : w6.grownBy w6.drew none := gr_drew (gr_refl _ _)
            refine B_take (k := 0) false (v := ?_) (by rfl) (by kernel_rfl) (by exact fun _ _ _ h => h) (by rfl) ?_ (by first | exact .inr hHeld | exact .inl (by rfl)) ?_
            rotate_left 1
            · intro w hSw
              clear hSw
              go_simp
              (try with_reducible rfl)
            (try simp only [Act.put, List.setIfInBounds_toArray, List.set_cons_zero, List.set_cons_succ])
            refine B_take (k := 1) false (v := ?_) (by rfl) (by kernel_rfl) (by exact fun _ _ _ h => h) (by rfl) ?_ (by first | exact .inr hHeld | exact .inl (by rfl)) ?_
            rotate_left 1
            · intro w hSw
              clear hSw
              go_simp
              (try with_reducible rfl)
            (try simp only [Act.put, List.setIfInBounds_toArray, List.set_cons_zero, List.set_cons_succ])
            refine B_take (k := 2) false (v := ?_) (by rfl) (by kernel_rfl) (by exact fun _ _ _ h => h) (by rfl) ?_ (by first | exact .inr hHeld | exact .inl (by rfl)) ?_
            rotate_left 1
            · intro w hSw
              clear hSw
              go_simp
              (try with_reducible rfl)
            (try simp only [Act.put, List.setIfInBounds_toArray, List.set_cons_zero, List.set_cons_succ])
            refine B_take (k := 3) false (v := ?_) (by rfl) (by kernel_rfl) (by exact fun _ _ _ h => h) (by rfl) ?_ (by first | exact .inr hHeld | exact .inl (by rfl)) ?_
            rotate_left 1
            · intro w hSw
              clear hSw
              go_simp
              (try with_reducible rfl)
            (try simp only [Act.put, List.setIfInBounds_toArray, List.set_cons_zero, List.set_cons_succ])
            refine B_take (k := 4) false (v := ?_) (by rfl) (by kernel_rfl) (by exact fun _ _ _ h => h) (by rfl) ?_ (by first | exact .inr hHeld | exact .inl (by rfl)) ?_
            rotate_left 1
            · intro w hSw
              clear hSw
              go_simp
              (try with_reducible rfl)
            (try simp only [Act.put, List.setIfInBounds_toArray, List.set_cons_zero, List.set_cons_succ])
            refine B_take (k := 5) false (v := ?_) (by rfl) (by kernel_rfl) (by exact fun _ _ _ h => h) (by rfl) ?_ (by first | exact .inr hHeld | exact .inl (by rfl)) ?_
            rotate_left 1
            · intro w hSw
              clear hSw
              go_simp
              (try with_reducible rfl)
            (try simp only [Act.put, List.setIfInBounds_toArray, List.set_cons_zero, List.set_cons_succ])
            refine B_take (k := 6) false (v := ?_) (by rfl) (by kernel_rfl) (by exact fun _ _ _ h => h) (by rfl) ?_ (by first | exact .inr hHeld | exact .inl (by rfl)) ?_
            rotate_left 1
            · intro w hSw
              clear hSw
              go_simp
              (try with_reducible rfl)
            (try simp only [Act.put, List.setIfInBounds_toArray, List.set_cons_zero, List.set_cons_succ])
            refine B_take (k := 7) false (v := ?_) (by rfl) (by kernel_rfl) (by exact fun _ _ _ h => h) (by rfl) ?_ (by first | exact .inr hHeld | exact .inl (by rfl)) ?_
            rotate_left 1
            · intro w hSw
              clear hSw
              go_simp
              (try with_reducible rfl)
            (try simp only [Act.put, List.setIfInBounds_toArray, List.set_cons_zero, List.set_cons_succ])
            refine B_take (k := 8) false (v := ?_) (by rfl) (by kernel_rfl) (by exact fun _ _ _ h => h) (by rfl) ?_ (by first | exact .inr hHeld | exact .inl (by rfl)) ?_
            rotate_left 1
            · intro w hSw
              clear hSw
              go_simp
              (try with_reducible rfl)
            (try simp only [Act.put, List.setIfInBounds_toArray, List.set_cons_zero, List.set_cons_succ])
            refine B_take (k := 9) true (v := .agg #[.int .i64 y.1, .int .i64 y.2]) (by rfl) (by kernel_rfl) (by exact fun _ _ _ h => h) (by rfl) (fun w' hSw => exec_ldr Tryz.winT _ rfl _ rfl [.int .i64 y.1, .int .i64 y.2] (fun j u hu => by rw [add_mk]; exact (by simpa using ((HO6.out.recs.grown hSw (fun g e => by cases e)).at_ pwRow_len HY.out) j u hu)) rfl) (.inr hHeld) ?_
            (try simp only [Act.put, List.setIfInBounds_toArray, List.set_cons_zero, List.set_cons_succ])
            refine B_take (k := 10) false (v := ?_) (by rfl) (by kernel_rfl) (by exact fun _ _ _ h => h) (by rfl) ?_ (by first | exact .inr hHeld | exact .inl (by rfl)) ?_
            rotate_left 1
            · intro w hSw
              clear hSw
              go_simp
              (try with_reducible rfl)
            (try simp only [Act.put, List.setIfInBounds_toArray, List.set_cons_zero, List.set_cons_succ])
            refine B_take (k := 11) false (v := ?_) (by rfl) (by kernel_rfl) (by exact fun _ _ _ h => h) (by rfl) ?_ (by first | exact .inr hHeld | exact .inl (by rfl)) ?_
            rotate_left 1
            · intro w hSw
              clear hSw
              go_simp
              (try with_reducible rfl)
            (try simp only [Act.put, List.setIfInBounds_toArray, List.set_cons_zero, List.set_cons_succ])
            refine B_take (k := 12) false (v := ?_) (by rfl) (by kernel_rfl) (by exact fun _ _ _ h => h) (by rfl) ?_ (by first | exact .inr hHeld | exact .inl (by rfl)) ?_
            rotate_left 1
            · intro w hSw
              clear hSw
              go_simp
              (try with_reducible rfl)
            (try simp only [Act.put, List.setIfInBounds_toArray, List.set_cons_zero, List.set_cons_succ])
            refine B_take (k := 13) true (v := .agg #[.int .i64 x.1, .int .i64 x.2]) (by rfl) (by kernel_rfl) (by exact fun _ _ _ h => h) (by rfl) (fun w' hSw => exec_ldr Tryz.winT _ rfl _ rfl [.int .i64 x.1, .int .i64 x.2] (fun j u hu => by rw [add_mk]; exact (by simpa using ((HO6.out.recs.grown hSw (fun g e => by cases e)).at_ pwRow_len HX.out) j u hu)) rfl) (.inr hHeld) ?_
            (try simp only [Act.put, List.setIfInBounds_toArray, List.set_cons_zero, List.set_cons_succ])
            refine B_take (k := 14) false (v := ?_) (by rfl) (by kernel_rfl) (by exact fun _ _ _ h => h) (by rfl) ?_ (by first | exact .inr hHeld | exact .inl (by rfl)) ?_
            rotate_left 1
            · intro w hSw
              clear hSw
              go_simp
              (try with_reducible rfl)
            (try simp only [Act.put, List.setIfInBounds_toArray, List.set_cons_zero, List.set_cons_succ])
            refine B_run (k := 15) (by rfl) (by kernel_rfl) (by rfl) (fun K hK => ?_)
            refine wp_store_rec (row := pwRow) Tryz.winT pwRow_len (by decide) _ _ rfl (q + 1) _ rfl rfl y rfl (HO6.out.kept (gr_drew (gr_refl _ none)) (fun g e => by cases e)) (by omega) (pwRow_one _) ?_
            intro w7 hown7 hg7
            refine hK _ _ (.inl (by rfl)) ?_
            clear hK K hHeld
            (try simp only [Act.put, List.setIfInBounds_toArray, List.set_cons_zero, List.set_cons_succ])
            refine B_take (k := 16) false (v := ?_) (by rfl) (by kernel_rfl) (by exact fun _ _ _ h => h) (by rfl) ?_ (by first | exact .inr hHeld | exact .inl (by rfl)) ?_
            rotate_left 1
            · intro w hSw
              clear hSw
              go_simp
              (try with_reducible rfl)
            (try simp only [Act.put, List.setIfInBounds_toArray, List.set_cons_zero, List.set_cons_succ])
            refine B_run (k := 17) (by rfl) (by kernel_rfl) (by rfl) (fun K hK => ?_)
            refine wp_store_rec (row := pwRow) Tryz.winT pwRow_len (by decide) _ _ rfl q _ rfl rfl x rfl hown7 (by omega) (pwRow_one _) ?_
            intro w8 hown8 hg8
            refine hK _ _ (.inl (by rfl)) ?_
            clear hK K
            (try simp only [Act.put, List.setIfInBounds_toArray, List.set_cons_zero, List.set_cons_succ])
            refine B_done (by kernel_rfl) ?_
            have HO8 := Lib.hid hown8
            have HG8 := Lib.hid (gr_same HG6.out (gr_same (gr_same (gr_drew (gr_refl w6 _)) hg7) hg8))
            clear hown7 hg7 hown8 hg8 q1 q2 q3 q4 q5 q6
            go_simp
            go_wp2_with fail
            go_roundw
            case rel => exact ⟨q, _, by go_num, by omega, HO8.out, HG8.out, by rw [← HSK.out]; exact (sink_yes HX.out HY.out HZB.out).symm, fun z hz => HM.out z (swap_mem (mem_of_get HX.out) (mem_of_get HY.out) hz)⟩
            case measure => simp [intOf]
        · obtain rfl : j = 0 := by omega
          have hi0 : decide ((0 : Int) < ((0 : Nat) : Int)) = false := by decide
          go_wp2_with fail
          refine H_begin (fun w' => wr.grownBy w' none) (by kernel_rfl) ?_
          refine H_take (k := 0) (v := ?_) (by rfl) (by kernel_rfl) (by kernel_rfl) (by kernel_rfl) (by exact fun _ _ _ h => h) (by rfl) ?_ (by assumption) ?_
          rotate_left 1
          · intro w hSw
            (try dsimp only at hSw)
            go_simp
            (try with_reducible rfl)
          (try simp only [Act.put, List.setIfInBounds_toArray, List.set_cons_zero, List.set_cons_succ])
          refine H_take (k := 1) (v := ?_) (by rfl) (by kernel_rfl) (by kernel_rfl) (by kernel_rfl) (by exact fun _ _ _ h => h) (by rfl) ?_ (by assumption) ?_
          rotate_left 1
          · intro w hSw
            (try dsimp only at hSw)
            go_simp
            (try with_reducible rfl)
          (try simp only [Act.put, List.setIfInBounds_toArray, List.set_cons_zero, List.set_cons_succ])
          refine H_take (k := 2) (v := ?_) (by rfl) (by kernel_rfl) (by kernel_rfl) (by kernel_rfl) (by exact fun _ _ _ h => h) (by rfl) ?_ (by assumption) ?_
          rotate_left 1
          · intro w hSw
            (try dsimp only at hSw)
            go_simp
            (try with_reducible rfl)
          (try simp only [Act.put, List.setIfInBounds_toArray, List.set_cons_zero, List.set_cons_succ])
          refine H_take (k := 3) (v := ?_) (by rfl) (by kernel_rfl) (by kernel_rfl) (by kernel_rfl) (by exact fun _ _ _ h => h) (by rfl) ?_ (by assumption) ?_
          rotate_left 1
          · intro w hSw
            (try dsimp only at hSw)
            go_simp
            (try with_reducible rfl)
          (try simp only [Act.put, List.setIfInBounds_toArray, List.set_cons_zero, List.set_cons_succ])
          refine H_skip (k := 4) (by rfl) (by kernel_rfl) (by kernel_rfl) (by kernel_rfl) (by exact fun _ _ _ h => h) (by rfl) (by assumption) ?_
          (try simp only [Act.put, List.setIfInBounds_toArray, List.set_cons_zero, List.set_cons_succ])
          refine H_skip (k := 5) (by rfl) (by kernel_rfl) (by kernel_rfl) (by kernel_rfl) (by exact fun _ _ _ h => h) (by rfl) (by assumption) ?_
          (try simp only [Act.put, List.setIfInBounds_toArray, List.set_cons_zero, List.set_cons_succ])
          refine H_skip (k := 6) (by rfl) (by kernel_rfl) (by kernel_rfl) (by kernel_rfl) (by exact fun _ _ _ h => h) (by rfl) (by assumption) ?_
          (try simp only [Act.put, List.setIfInBounds_toArray, List.set_cons_zero, List.set_cons_succ])
          refine H_skip (k := 7) (by rfl) (by kernel_rfl) (by kernel_rfl) (by kernel_rfl) (by exact fun _ _ _ h => h) (by rfl) (by assumption) ?_
          (try simp only [Act.put, List.setIfInBounds_toArray, List.set_cons_zero, List.set_cons_succ])
          refine H_skip (k := 8) (by rfl) (by kernel_rfl) (by kernel_rfl) (by kernel_rfl) (by exact fun _ _ _ h => h) (by rfl) (by assumption) ?_
          (try simp only [Act.put, List.setIfInBounds_toArray, List.set_cons_zero, List.set_cons_succ])
          refine H_skip (k := 9) (by rfl) (by kernel_rfl) (by kernel_rfl) (by kernel_rfl) (by exact fun _ _ _ h => h) (by rfl) (by assumption) ?_
          (try simp only [Act.put, List.setIfInBounds_toArray, List.set_cons_zero, List.set_cons_succ])
          refine H_skip (k := 10) (by rfl) (by kernel_rfl) (by kernel_rfl) (by kernel_rfl) (by exact fun _ _ _ h => h) (by rfl) (by assumption) ?_
          (try simp only [Act.put, List.setIfInBounds_toArray, List.set_cons_zero, List.set_cons_succ])
          refine H_skip (k := 11) (by rfl) (by kernel_rfl) (by kernel_rfl) (by kernel_rfl) (by exact fun _ _ _ h => h) (by rfl) (by assumption) ?_
          (try simp only [Act.put, List.setIfInBounds_toArray, List.set_cons_zero, List.set_cons_succ])
          refine H_skip (k := 12) (by rfl) (by kernel_rfl) (by kernel_rfl) (by kernel_rfl) (by exact fun _ _ _ h => h) (by rfl) (by assumption) ?_
          (try simp only [Act.put, List.setIfInBounds_toArray, List.set_cons_zero, List.set_cons_succ])
          refine H_skip (k := 13) (by rfl) (by kernel_rfl) (by kernel_rfl) (by kernel_rfl) (by exact fun _ _ _ h => h) (by rfl) (by assumption) ?_
          (try simp only [Act.put, List.setIfInBounds_toArray, List.set_cons_zero, List.set_cons_succ])
          refine H_skip (k := 14) (by rfl) (by kernel_rfl) (by kernel_rfl) (by kernel_rfl) (by exact fun _ _ _ h => h) (by rfl) (by assumption) ?_
          (try simp only [Act.put, List.setIfInBounds_toArray, List.set_cons_zero, List.set_cons_succ])
          refine H_skip (k := 15) (by rfl) (by kernel_rfl) (by kernel_rfl) (by kernel_rfl) (by exact fun _ _ _ h => h) (by rfl) (by assumption) ?_
          (try simp only [Act.put, List.setIfInBounds_toArray, List.set_cons_zero, List.set_cons_succ])
          refine H_take (k := 16) (v := ?_) (by rfl) (by kernel_rfl) (by kernel_rfl) (by kernel_rfl) (by exact fun _ _ _ h => h) (by rfl) ?_ (by assumption) ?_
          rotate_left 1
          · intro w hSw
            (try dsimp only at hSw)
            go_simp
            (try with_reducible rfl)
          (try simp only [Act.put, List.setIfInBounds_toArray, List.set_cons_zero, List.set_cons_succ])
          refine H_done (by kernel_rfl) ?_
          clear hi0 hHeld
          have HO6 := Lib.hid (HO.out.kept (gr_drew (gr_refl _ none)) (fun g e => by cases e))
          have HG6 := Lib.hid (gr_drew HG.out)
          go_wp2_with fail
          go_roundw
          case rel => exact ⟨i + 1, l2, by go_num, by omega, .inl (by omega), HO6.out, HG6.out, by show sink lt (srtTo lt l i) i = l2; rw [HSR.out, ← HSK.out]; rfl⟩
          case measure => simp [intOf]; omega
    · have hl0 : ¬ (i : Int) < (n : Int) := by omega
      go_wp2_with fail
      go_end0
      refine ⟨rfl, ?_, HG.out⟩
      have e : srt lt l = l1 := by
        unfold srt
        rw [H.out.2]
        by_cases hn0 : n = 0
        · subst hn0
          obtain rfl : i = 1 := by omega
          exact HSR.out
        · obtain rfl : i = n := by omega
          exact HSR.out
      rw [e]
      exact HO.out
set_option maxHeartbeats 4000000 in
theorem pwPdq_any (lt : (Int × Int) → (Int × Int) → Bool) (lo : Nat) (A : Option Addr) (n c : Nat) (l : List (Int × Int)) (z : Int) (w : World) (h : OwnR pwRow 2 w lo 34 A n c l) (hn : n ≤ 12)
    (hcmp : ∀ (w1 : World) (x y : (Int × Int)), w.grownBy w1 (blkOf A) → x ∈ l → y ∈ l → ∃ z : Int, decide (z < 0) = lt x y ∧ Calls Tryz.prog 59 #[.agg #[.int .i64 x.1, .int .i64 x.2], .agg #[.int .i64 y.1, .int .i64 y.2]] w1 (RetV (.int .i64 z) w1)) :
    Calls Tryz.prog 91 #[.slice A n c, .int .i64 0, .int .i64 n, .int .i64 z, .func (.func 59) #[] #[]] w (fun e w' => e = .returned (.tuple #[]) ∧ OwnR pwRow 2 w' lo 34 A n c (srt lt l) ∧ w.grownBy w' (blkOf A)) := by
  have H := Lib.hid h; have HCMP := Lib.hid hcmp; clear h hcmp
  have d1 : decide ((n : Int) ≤ (12 : Int)) = true := decide_eq_true (by omega)
  have q1 : IntKind.i64.wrap ((n : Int) - 0) = (n : Int) := by rw [Int.sub_zero]; exact IntWalk.i64_in _ (by omega)
  go_enter Tryz.func91, Tryz.ntmps91
  go_wp2_with fail
  go_loopw [1, 2, 3, 10, 11, 12, 13, 14, 15, 16, 17, 18, 19, 20] (fun v1 v2 _ _ _ _ _ _ _ _ _ _ _ _ wr => v1 = .int .i64 0 ∧ v2 = .int .i64 n ∧ w = wr) (fun _ _ _ _ _ _ _ _ _ _ _ _ _ _ _ => 0)
  case atStart => exact ⟨rfl, rfl, rfl⟩
  case round =>
    obtain ⟨rfl, rfl, rfl⟩ := hrel
    go_wp2_with fail
    refine (pwIns_any lt lo A n c l  _ H.out (by omega) HCMP.out).mono ?_
    rintro e w2 ⟨rfl, hown, hg⟩
    have HO := Lib.hid hown; have HG := Lib.hid hg; clear hown hg
    go_wp2_with fail
    (try simp only [Exit.inBlock, Exit.then])
    refine bodyPost_ret (results_none rfl _ _ _) rfl ?_
    exact ⟨rfl, HO.out, HG.out⟩
set_option maxHeartbeats 2000000 in
theorem pwSort_any (lt : (Int × Int) → (Int × Int) → Bool) (lo : Nat) (A : Option Addr) (n c : Nat) (l : List (Int × Int)) (w : World) (h : OwnR pwRow 2 w lo 34 A n c l) (hn : n ≤ 12)
    (hcmp : ∀ (w1 : World) (x y : (Int × Int)), w.grownBy w1 (blkOf A) → x ∈ l → y ∈ l → ∃ z : Int, decide (z < 0) = lt x y ∧ Calls Tryz.prog 59 #[.agg #[.int .i64 x.1, .int .i64 x.2], .agg #[.int .i64 y.1, .int .i64 y.2]] w1 (RetV (.int .i64 z) w1)) :
    Calls Tryz.prog 58 #[.slice A n c, .func (.func 59) #[] #[]] w (fun e w' => e = .returned (.tuple #[]) ∧ OwnR pwRow 2 w' lo 34 A n c (srt lt l) ∧ w.grownBy w' (blkOf A)) := by
  have H := Lib.hid h; have HCMP := Lib.hid hcmp; clear h hcmp
  have q1 : IntKind.u64.wrap (n : Int) = (n : Int) := by rw [IntKind.wrap_u64]; omega
  go_enter Tryz.func58, Tryz.ntmps58
  go_wp2_with fail
  refine (bitsLen_any n hn _).mono ?_
  rintro e w1 ⟨z, rfl, rfl⟩
  go_wp2_with fail
  refine (pwPdq_any lt lo A n c l z  _ H.out hn HCMP.out).mono ?_
  rintro e w2 ⟨rfl, hown, hg⟩
  have HO := Lib.hid hown; have HG := Lib.hid hg; clear hown hg
  go_wp2_with fail
  go_end0
  exact ⟨rfl, HO.out, HG.out⟩
set_option maxHeartbeats 2000000 in
theorem busyCmp_any (x y : Int × Int) (w : World) (hx : 0 ≤ x.1 ∧ x.1 ≤ 1000000000000000) (hy : 0 ≤ y.1 ∧ y.1 ≤ 1000000000000000) : ∃ z : Int, decide (z < 0) = ltW x y ∧ Calls Tryz.prog 59 #[.agg #[.int .i64 x.1, .int .i64 x.2], .agg #[.int .i64 y.1, .int .i64 y.2]] w (RetV (.int .i64 z) w) := by
  refine ⟨x.1 - y.1, ?_, ?_⟩
  · unfold ltW
    by_cases h : x.1 < y.1
    · rw [decide_eq_true h, decide_eq_true (by omega)]
    · rw [decide_eq_false h, decide_eq_false (by omega)]
  · have q1 : IntKind.i64.wrap (x.1 - y.1) = x.1 - y.1 := IntWalk.i64_in _ (by omega)
    clear hx hy
    go_enter Tryz.func59, Tryz.ntmps59
    go_wp2_with fail
    go_ret
    exact ⟨rfl, gr_alloc (gr_alloc (gr_refl _ _) _) _⟩
end Go.Proofs.YtemfbdmaljddnaaGreatDoor

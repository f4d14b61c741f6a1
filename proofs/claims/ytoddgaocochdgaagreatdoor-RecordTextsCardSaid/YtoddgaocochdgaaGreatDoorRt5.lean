/- Contract of the document's closure that reads a line of records. Conditions: a line of bounded length; bytealg.MaxLen holds some number; the table of powers of ten. -/
import Derived.Test.YtoddgaocochdgaaGreatDoorRt4
namespace Go.Proofs.YtoddgaocochdgaaGreatDoor
open Go.RowKit

set_option maxHeartbeats 16000000 in
set_option maxRecDepth 100000 in
theorem dRcLine_any (t : List UInt8) (base : World) (ob k : Nat) (line : ByteArray) (w : World) (h : StR t base ob k w) (hl : line.data.toList = lineN t k) (hs : line.size ≤ 1000000) (hk : k < 1000000) :
    Calls Tryz.prog 122 #[.string line, .pointer (some ⟨ob, 0, none⟩)] w (fun e w' => e = .returned (.bool (rOk t k)) ∧ base.grownBy w' none ∧ (rOk t k = true → StR t base ob (k + 1) w')) := by
  have hln := lnB_eq hl
  obtain ⟨B, c, hob, hown⟩ := h.out
  have H := Lib.hid h; have HOB := Lib.hid hob; have HO := Lib.hid hown
  have HOKB := Lib.hid (show rOk t k = rcB line by unfold rOk; rw [← hln])
  have HRV := Lib.hid (show rOut t (k + 1) = rOut t k ++ [rcV line] by
    show rOut t k ++ [rcV (lnB t k)] = _
    rw [← hln])
  clear hl hln h hob hown
  go_enter Tryz.func122, Tryz.ntmps122
  go_wp2_with fail
  refine (dWords_any line _ hs H.out.mx).mono ?_
  rintro e w1 ⟨hg1, B0, rfl, hrec⟩
  replace H := Lib.hid (H.out.kept hg1)
  replace HOB := Lib.hid (HOB.out.grown hg1 (by simp))
  replace HO := Lib.hid (HO.out.kept hg1 (fun g e => by cases e))
  (try replace HRX := Lib.hid (HRX.out.grown hg1 (fun g e => by cases e)))
  obtain ⟨L, hL⟩ : ∃ L, pieces line = L := ⟨_, rfl⟩
  obtain ⟨lo, hlo⟩ : ∃ b, w.heap.size = b := ⟨_, rfl⟩
  obtain ⟨OK, hOK⟩ : ∃ b, okW line = b := ⟨_, rfl⟩
  rw [hL, hlo] at hrec
  rw [hL, hOK]
  have HL := Lib.hid hL; have HOK := Lib.hid hOK
  clear hg1 hL hlo hOK
  cases OK
  · clear hrec
    have HF := Lib.hid (show rOk t k = false by rw [HOKB.out]; unfold rcB; rw [HOK.out]; rfl)
    go_wp2_with fail
    go_ret
    exact ⟨by rw [HF.out]; try rfl, H.out.g, fun e => by rw [HF.out] at e; cases e⟩
  · by_cases h5 : L.length = 8
    · obtain ⟨x0, x1, x2, x3, x4, x5, x6, x7, rfl⟩ := eight h5
      change Recs srow 1 w1 lo (some B0) 8 8 [x0, x1, x2, x3, x4, x5, x6, x7] at hrec
      obtain ⟨bg, bo, _, hB, _, hbg, _⟩ := hrec.get srow_len (show 0 < 8 by omega)
      injection hB with hB
      subst hB
      have HRX := Lib.hid hrec
      have p0 : pcAt line 0 = x0 := by unfold pcAt; rw [HL.out]; rfl
      have p1 : pcAt line 1 = x1 := by unfold pcAt; rw [HL.out]; rfl
      have p2 : pcAt line 2 = x2 := by unfold pcAt; rw [HL.out]; rfl
      have p3 : pcAt line 3 = x3 := by unfold pcAt; rw [HL.out]; rfl
      have p4 : pcAt line 4 = x4 := by unfold pcAt; rw [HL.out]; rfl
      have p5 : pcAt line 5 = x5 := by unfold pcAt; rw [HL.out]; rfl
      have p6 : pcAt line 6 = x6 := by unfold pcAt; rw [HL.out]; rfl
      have p7 : pcAt line 7 = x7 := by unfold pcAt; rw [HL.out]; rfl
      have hs3 : x3.size ≤ 1000000 := by rw [← p3]; have := pc_size (s := line) 3; omega
      have hs4 : x4.size ≤ 1000000 := by rw [← p4]; have := pc_size (s := line) 4; omega
      have hs5 : x5.size ≤ 1000000 := by rw [← p5]; have := pc_size (s := line) 5; omega
      have hx6 : x6 ≠ ⟨#[]⟩ := by
        intro e
        have h := List.all_eq_true.1 (show (pieces line).all (fun x => !x.toList.isEmpty) = true from HOK.out) x6 (by rw [HL.out]; simp)
        rw [e, ByteArray.toList_eq] at h
        exact absurd h (by decide)
      obtain ⟨j0, j1, j2⟩ := wd_cases W4r x6
      obtain ⟨NB3, hNB3⟩ : ∃ b, numB x3.data.toList 15 = b := ⟨_, rfl⟩
      obtain ⟨NB4, hNB4⟩ : ∃ b, numB x4.data.toList 15 = b := ⟨_, rfl⟩
      obtain ⟨NB5, hNB5⟩ : ∃ b, numB x5.data.toList 15 = b := ⟨_, rfl⟩
      obtain ⟨HW, hHW⟩ : ∃ H, wdN W4r x6 = H := ⟨_, rfl⟩
      obtain ⟨J, hJ⟩ : ∃ J, Lib.idxOfS W5r x6 = J := ⟨_, rfl⟩
      have hjj : Lib.idxOfS W5r x6 = if wdN W4r x6 = 0 then -1 else wdN W4r x6 := j2 hx6
      rw [hHW, hJ] at hjj
      rw [hHW] at j0
      have HJ0 := Lib.hid j0
      have HB0 := Lib.hid (show rcB line = ((NB3 && (NB4 && (NB5 && true))) && decide (HW ≠ 0)) by unfold rcB rcN numsB; rw [HOK.out, HL.out, p3, p4, p5, p6, hHW]; simp only [List.all_cons, List.all_nil, hNB3, hNB4, hNB5]; rfl)
      have HVV := Lib.hid (show rcV line = ⟨x0, x1, x2, numN x3.data.toList, numN x4.data.toList, numN x5.data.toList, HW, undS x7⟩ by unfold rcV; rw [p0, p1, p2, p3, p4, p5, p6, p7, hHW])
      have HN3 := Lib.hid hNB3; have HN4 := Lib.hid hNB4; have HN5 := Lib.hid hNB5; have HJ := Lib.hid hJ; have HJJ := Lib.hid hjj
      clear hrec hbg p0 p1 p2 p3 p4 p5 p6 p7 h5 hx6 j0 j1 j2 hNB3 hNB4 hNB5 hHW hJ hjj
      have c3 := HRX.out.at_ srow_len (i := 3) (a := x3) rfl 0 _ rfl
      simp only [Nat.mul_one, Nat.add_zero, Nat.zero_add, Nat.one_mul] at c3
      go_wp2_with fail
      refine (dNumber_any x3 15 _ hs3 (by omega) H.out.pw).mono ?_
      rintro e w2 ⟨X3, rfl, b3a, b3b, hx3, hg2⟩
      rw [HN3.out] at hx3 ⊢
      replace H := Lib.hid (H.out.kept hg2)
      replace HOB := Lib.hid (HOB.out.grown hg2 (by simp))
      replace HO := Lib.hid (HO.out.kept hg2 (fun g e => by cases e))
      (try replace HRX := Lib.hid (HRX.out.grown hg2 (fun g e => by cases e)))
      have HX3 := Lib.hid hx3
      clear hg2 c3 hx3
      have c4 := HRX.out.at_ srow_len (i := 4) (a := x4) rfl 0 _ rfl
      simp only [Nat.mul_one, Nat.add_zero, Nat.zero_add, Nat.one_mul] at c4
      go_wp2_with fail
      refine (dNumber_any x4 15 _ hs4 (by omega) H.out.pw).mono ?_
      rintro e w3 ⟨X4, rfl, b4a, b4b, hx4, hg3⟩
      rw [HN4.out] at hx4 ⊢
      replace H := Lib.hid (H.out.kept hg3)
      replace HOB := Lib.hid (HOB.out.grown hg3 (by simp))
      replace HO := Lib.hid (HO.out.kept hg3 (fun g e => by cases e))
      (try replace HRX := Lib.hid (HRX.out.grown hg3 (fun g e => by cases e)))
      have HX4 := Lib.hid hx4
      clear hg3 c4 hx4
      have c5 := HRX.out.at_ srow_len (i := 5) (a := x5) rfl 0 _ rfl
      simp only [Nat.mul_one, Nat.add_zero, Nat.zero_add, Nat.one_mul] at c5
      go_wp2_with fail
      refine (dNumber_any x5 15 _ hs5 (by omega) H.out.pw).mono ?_
      rintro e w4 ⟨X5, rfl, b5a, b5b, hx5, hg4⟩
      rw [HN5.out] at hx5 ⊢
      replace H := Lib.hid (H.out.kept hg4)
      replace HOB := Lib.hid (HOB.out.grown hg4 (by simp))
      replace HO := Lib.hid (HO.out.kept hg4 (fun g e => by cases e))
      (try replace HRX := Lib.hid (HRX.out.grown hg4 (fun g e => by cases e)))
      have HX5 := Lib.hid hx5
      clear hg4 c5 hx5
      go_upto_region 7 with (fail)
      refine H_begin (fun w' => w4.grownBy w' none) (by kernel_rfl) ?_
      have hHeld : w4.grownBy w4.drew none := gr_drew (gr_refl _ _)
      refine H_take (k := 1) (v := ?_) (by rfl) (by kernel_rfl) (by kernel_rfl) (by kernel_rfl) (by exact fun _ _ _ h => h) (by rfl) ?_ (by assumption) ?_
      rotate_left 1
      · intro w hSw
        (try dsimp only at hSw)
        go_simp
        (try with_reducible rfl)
      (try simp only [Act.put, List.setIfInBounds_toArray, List.set_cons_zero, List.set_cons_succ])
      refine H_take (k := 2) (v := ?_) (by rfl) (by kernel_rfl) (by kernel_rfl) (by kernel_rfl) (by exact fun _ _ _ h => h) (by rfl) ?_ (by assumption) ?_
      rotate_left 1
      · intro w hSw
        (try dsimp only at hSw)
        go_simp
        (try with_reducible rfl)
      (try simp only [Act.put, List.setIfInBounds_toArray, List.set_cons_zero, List.set_cons_succ])
      refine H_take (k := 3) (v := ?_) (by rfl) (by kernel_rfl) (by kernel_rfl) (by kernel_rfl) (by exact fun _ _ _ h => h) (by rfl) ?_ (by assumption) ?_
      rotate_left 1
      · intro w' hSw
        have kc := (HRX.out.grown hSw (fun g e => by cases e)).at_ srow_len (i := 6) (a := x6) rfl 0 _ rfl
        simp only [Nat.mul_one, Nat.add_zero, Nat.zero_add, Nat.one_mul] at kc
        go_simp
        (try with_reducible rfl)
      (try simp only [Act.put, List.setIfInBounds_toArray, List.set_cons_zero, List.set_cons_succ])
      refine H_run (k := 0) (by rfl) (by kernel_rfl) (by rfl) (fun K hK => ?_)
      go_simp
      refine (dWordsR_any _).mono ?_
      rintro e w5 ⟨rfl, hr5, hg5⟩
      have hgz : w4.grownBy w5 none := gr_none hHeld hg5
      refine hK _ _ hgz ?_
      clear hK K hHeld
      have hHeld := hgz
      have HW3 := Lib.hid hr5
      clear hr5 hg5
      (try simp only [Act.put, List.setIfInBounds_toArray, List.set_cons_zero, List.set_cons_succ])
      refine H_run (k := 4) (by rfl) (by kernel_rfl) (by rfl) (fun K hK => ?_)
      go_simp
      refine (index_any _ 5 W5r x6 _ _ HW3.out (by omega)).mono ?_
      rintro e w6 ⟨rfl, rfl⟩
      rw [HJ.out]
      refine hK _ _ hgz ?_
      clear hK K
      (try simp only [Act.put, List.setIfInBounds_toArray, List.set_cons_zero, List.set_cons_succ])
      refine H_take (k := 5) (v := ?_) (by rfl) (by kernel_rfl) (by kernel_rfl) (by kernel_rfl) (by exact fun _ _ _ h => h) (by rfl) ?_ (by assumption) ?_
      rotate_left 1
      · intro w hSw
        (try dsimp only at hSw)
        go_simp
        (try with_reducible rfl)
      (try simp only [Act.put, List.setIfInBounds_toArray, List.set_cons_zero, List.set_cons_succ])
      refine H_done (by kernel_rfl) ?_
      replace H := Lib.hid (H.out.kept hgz)
      replace HOB := Lib.hid (HOB.out.grown hgz (by simp))
      replace HO := Lib.hid (HO.out.kept hgz (fun g e => by cases e))
      (try replace HRX := Lib.hid (HRX.out.grown hgz (fun g e => by cases e)))
      clear hHeld hgz HW3
      obtain ⟨w6, rfl⟩ : ∃ w6 : World, w6 = w5 := ⟨_, rfl⟩
      have zob := HOB.out.lt
      have zb := H.out.hob
      have hb1 : base.heap.size ≤ ob + 1 := by omega
      have hob2 : ob + 1 ≤ w6.heap.size := by omega
      go_upto_region 8 with (fail)
      refine wp_region_B (fun w' => w6.grownBy w' none) 20 (by kernel_rfl) ?_
      have hHeld : w6.grownBy w6.drew none := gr_drew (gr_refl _ _)
      generalize w6.drew = wd at hHeld ⊢
      refine B_take (k := 1) false (v := ?_) (by rfl) (by kernel_rfl) (by exact fun _ _ _ h => h) (by rfl) ?_ (by first | exact .inr hHeld | exact .inl (by rfl)) ?_
      rotate_left 1
      · intro w hSw
        clear hSw
        go_simp
        (try with_reducible rfl)
      (try simp only [Act.put, List.setIfInBounds_toArray, List.set_cons_zero, List.set_cons_succ])
      refine B_take (k := 2) false (v := ?_) (by rfl) (by kernel_rfl) (by exact fun _ _ _ h => h) (by rfl) ?_ (by first | exact .inr hHeld | exact .inl (by rfl)) ?_
      rotate_left 1
      · intro w hSw
        clear hSw
        go_simp
        (try with_reducible rfl)
      (try simp only [Act.put, List.setIfInBounds_toArray, List.set_cons_zero, List.set_cons_succ])
      refine B_take (k := 4) false (v := ?_) (by rfl) (by kernel_rfl) (by exact fun _ _ _ h => h) (by rfl) ?_ (by first | exact .inr hHeld | exact .inl (by rfl)) ?_
      rotate_left 1
      · intro w hSw
        clear hSw
        go_simp
        (try with_reducible rfl)
      (try simp only [Act.put, List.setIfInBounds_toArray, List.set_cons_zero, List.set_cons_succ])
      refine B_take (k := 5) false (v := ?_) (by rfl) (by kernel_rfl) (by exact fun _ _ _ h => h) (by rfl) ?_ (by first | exact .inr hHeld | exact .inl (by rfl)) ?_
      rotate_left 1
      · intro w hSw
        clear hSw
        go_simp
        (try with_reducible rfl)
      (try simp only [Act.put, List.setIfInBounds_toArray, List.set_cons_zero, List.set_cons_succ])
      refine B_take (k := 7) false (v := ?_) (by rfl) (by kernel_rfl) (by exact fun _ _ _ h => h) (by rfl) ?_ (by first | exact .inr hHeld | exact .inl (by rfl)) ?_
      rotate_left 1
      · intro w hSw
        clear hSw
        go_simp
        (try with_reducible rfl)
      (try simp only [Act.put, List.setIfInBounds_toArray, List.set_cons_zero, List.set_cons_succ])
      refine B_take (k := 8) false (v := ?_) (by rfl) (by kernel_rfl) (by exact fun _ _ _ h => h) (by rfl) ?_ (by first | exact .inr hHeld | exact .inl (by rfl)) ?_
      rotate_left 1
      · intro w hSw
        clear hSw
        go_simp
        (try with_reducible rfl)
      (try simp only [Act.put, List.setIfInBounds_toArray, List.set_cons_zero, List.set_cons_succ])
      refine B_take (k := 10) false (v := ?_) (by rfl) (by kernel_rfl) (by exact fun _ _ _ h => h) (by rfl) ?_ (by first | exact .inr hHeld | exact .inl (by rfl)) ?_
      rotate_left 1
      · intro w hSw
        clear hSw
        go_simp
        (try with_reducible rfl)
      (try simp only [Act.put, List.setIfInBounds_toArray, List.set_cons_zero, List.set_cons_succ])
      refine B_take (k := 11) false (v := ?_) (by rfl) (by kernel_rfl) (by exact fun _ _ _ h => h) (by rfl) ?_ (by first | exact .inr hHeld | exact .inl (by rfl)) ?_
      rotate_left 1
      · intro w hSw
        clear hSw
        go_simp
        (try with_reducible rfl)
      (try simp only [Act.put, List.setIfInBounds_toArray, List.set_cons_zero, List.set_cons_succ])
      refine B_take (k := 12) false (v := ?_) (by rfl) (by kernel_rfl) (by exact fun _ _ _ h => h) (by rfl) ?_ (by first | exact .inr hHeld | exact .inl (by rfl)) ?_
      rotate_left 1
      · intro w hSw
        clear hSw
        go_simp
        (try with_reducible rfl)
      (try simp only [Act.put, List.setIfInBounds_toArray, List.set_cons_zero, List.set_cons_succ])
      refine B_take (k := 13) false (v := ?_) (by rfl) (by kernel_rfl) (by exact fun _ _ _ h => h) (by rfl) ?_ (by first | exact .inr hHeld | exact .inl (by rfl)) ?_
      rotate_left 1
      · intro w hSw
        clear hSw
        go_simp
        (try with_reducible rfl)
      (try simp only [Act.put, List.setIfInBounds_toArray, List.set_cons_zero, List.set_cons_succ])
      refine B_take (k := 14) false (v := ?_) (by rfl) (by kernel_rfl) (by exact fun _ _ _ h => h) (by rfl) ?_ (by first | exact .inr hHeld | exact .inl (by rfl)) ?_
      rotate_left 1
      · intro w hSw
        clear hSw
        go_simp
        (try with_reducible rfl)
      (try simp only [Act.put, List.setIfInBounds_toArray, List.set_cons_zero, List.set_cons_succ])
      refine B_take (k := 15) false (v := ?_) (by rfl) (by kernel_rfl) (by exact fun _ _ _ h => h) (by rfl) ?_ (by first | exact .inr hHeld | exact .inl (by rfl)) ?_
      rotate_left 1
      · intro w hSw
        clear hSw
        go_simp
        (try with_reducible rfl)
      (try simp only [Act.put, List.setIfInBounds_toArray, List.set_cons_zero, List.set_cons_succ])
      refine B_take (k := 0) true (v := ?_) (by rfl) (by kernel_rfl) (by exact fun _ _ _ h => h) (by rfl) ?_ (.inr hHeld) ?_
      rotate_left 1
      · intro w' hSw
        have kc := (HOB.out.grown hSw (by simp)).cell 0
        go_simp
        (try with_reducible rfl)
      (try simp only [Act.put, List.setIfInBounds_toArray, List.set_cons_zero, List.set_cons_succ])
      refine B_take (k := 3) true (v := ?_) (by rfl) (by kernel_rfl) (by exact fun _ _ _ h => h) (by rfl) ?_ (.inr hHeld) ?_
      rotate_left 1
      · intro w' hSw
        have kc := (HRX.out.grown hSw (fun g e => by cases e)).at_ srow_len (i := 0) (a := x0) rfl 0 _ rfl
        simp only [Nat.mul_one, Nat.add_zero, Nat.zero_add, Nat.one_mul] at kc
        go_simp
        (try with_reducible rfl)
      (try simp only [Act.put, List.setIfInBounds_toArray, List.set_cons_zero, List.set_cons_succ])
      refine B_take (k := 6) true (v := ?_) (by rfl) (by kernel_rfl) (by exact fun _ _ _ h => h) (by rfl) ?_ (.inr hHeld) ?_
      rotate_left 1
      · intro w' hSw
        have kc := (HRX.out.grown hSw (fun g e => by cases e)).at_ srow_len (i := 1) (a := x1) rfl 0 _ rfl
        simp only [Nat.mul_one, Nat.add_zero, Nat.zero_add, Nat.one_mul] at kc
        go_simp
        (try with_reducible rfl)
      (try simp only [Act.put, List.setIfInBounds_toArray, List.set_cons_zero, List.set_cons_succ])
      refine B_take (k := 9) true (v := ?_) (by rfl) (by kernel_rfl) (by exact fun _ _ _ h => h) (by rfl) ?_ (.inr hHeld) ?_
      rotate_left 1
      · intro w' hSw
        have kc := (HRX.out.grown hSw (fun g e => by cases e)).at_ srow_len (i := 2) (a := x2) rfl 0 _ rfl
        simp only [Nat.mul_one, Nat.add_zero, Nat.zero_add, Nat.one_mul] at kc
        go_simp
        (try with_reducible rfl)
      (try simp only [Act.put, List.setIfInBounds_toArray, List.set_cons_zero, List.set_cons_succ])
      refine B_take (k := 16) true (v := ?_) (by rfl) (by kernel_rfl) (by exact fun _ _ _ h => h) (by rfl) ?_ (.inr hHeld) ?_
      rotate_left 1
      · intro w' hSw
        have kc := (HRX.out.grown hSw (fun g e => by cases e)).at_ srow_len (i := 7) (a := x7) rfl 0 _ rfl
        simp only [Nat.mul_one, Nat.add_zero, Nat.zero_add, Nat.one_mul] at kc
        go_simp
        (try with_reducible rfl)
      (try simp only [Act.put, List.setIfInBounds_toArray, List.set_cons_zero, List.set_cons_succ])
      refine B_run (k := 17) (by rfl) (by kernel_rfl) (by rfl) (fun K hK => ?_)
      go_simp
      refine (undash_any x7 _).mono ?_
      rintro e we ⟨rfl, rfl⟩
      refine hK _ _ (.inr hHeld) ?_
      clear hK K
      (try simp only [Act.put, List.setIfInBounds_toArray, List.set_cons_zero, List.set_cons_succ])
      refine B_take (k := 18) false (v := ?_) (by rfl) (by kernel_rfl) (by exact fun _ _ _ h => h) (by rfl) ?_ (by first | exact .inr hHeld | exact .inl (by rfl)) ?_
      rotate_left 1
      · intro w hSw
        clear hSw
        go_simp
        (try with_reducible rfl)
      (try simp only [Act.put, List.setIfInBounds_toArray, List.set_cons_zero, List.set_cons_succ])
      refine B_run (k := 19) (by rfl) (by kernel_rfl) (by rfl) (fun K hK => ?_)
      go_simp
      obtain ⟨UD, hUD⟩ : ∃ u, undS x7 = u := ⟨_, rfl⟩
      rw [hUD] at HVV ⊢
      obtain ⟨wa, hwa⟩ : ∃ v, wd.alloc (.cells #[.string x0, .string x1, .string x2, .int .i64 X3, .int .i64 X4, .int .i64 X5, .int .i64 J, .string UD] 76) = v := ⟨_, rfl⟩
      have hga : wd.grownBy wa none := by rw [← hwa]; exact gr_alloc (gr_refl _ _) _
      have hgA : w6.grownBy wa none := gr_none hHeld hga
      have HRD := Lib.hid (show Reads wa wd.heap.size 8 (some ⟨wd.heap.size, 0, none⟩) 1 1 [.string x0, .string x1, .string x2, .int .i64 X3, .int .i64 X4, .int .i64 X5, .int .i64 J, .string UD] by rw [← hwa]; exact Reads.one _ _ _ _ rfl)
      (try rw [hwa])
      refine hK _ _ (.inr hgA) ?_
      clear hK K hHeld hUD hwa
      have hHeld := hgA
      (try simp only [Act.put, List.setIfInBounds_toArray, List.set_cons_zero, List.set_cons_succ])
      have HOA := Lib.hid (HO.out.kept hgA (fun g e => by cases e))
      have HOBA := Lib.hid (HOB.out.grown hgA (by simp))
      have hsz := hgA.size
      refine B_run (k := 20) (by rfl) (by kernel_rfl) (by rfl) (fun K hK => ?_)
      refine wp_app _ _ _ Tryz.rcsT2 (by rfl) (ob + 1) B k c _ (by rfl) (by exact HOA.out.1) _ _ 1 1 [.string x0, .string x1, .string x2, .int .i64 X3, .int .i64 X4, .int .i64 X5, .int .i64 J, .string UD] (by rfl) (by exact HRD.out) (by simp [Value.oneCell']) (by unfold maxLen; omega) (by omega) (by omega) ?_
      intro A9 c9 w9 h9
      have HB9 := Lib.hid (HOBA.out.grown h9.2.1 (by intro e; have := (HOA.out.1.lt e.symm).1; omega))
      have f9 := HB9.out.frozen 0
      have o9 := HB9.out.cell 0
      have H9 := Lib.hid h9
      refine hK _ _ (.inl (by rfl)) ?_
      clear hK K hHeld h9
      (try simp only [Act.put, List.setIfInBounds_toArray, List.set_cons_zero, List.set_cons_succ])
      refine B_run (k := 21) (by rfl) (by kernel_rfl) (by rfl) (fun K hK => ?_)
      go_simp
      refine hK _ _ (.inl (by rfl)) ?_
      clear hK K
      (try simp only [Act.put, List.setIfInBounds_toArray, List.set_cons_zero, List.set_cons_succ])
      refine B_done (by kernel_rfl) ?_
      have hg9 := H9.out.2.1
      have hgb : base.grownBy w9 none := gr_trans (gr_none H.out.g hgA) hg9 (fun g e => .inr (by have := (HOA.out.1.lt e).1; omega))
      have hgs : w9.grownBy (w9.setCell ⟨ob, 0, none⟩ (.slice A9 (k + 1) c9)) (some ob) := gr_setCell (gr_refl _ _) (.inl rfl) _
      have HGF := Lib.hid (show base.grownBy (w9.setCell ⟨ob, 0, none⟩ (.slice A9 (k + 1) c9)) none from gr_trans hgb hgs (fun g e => .inr (by injection e with e; omega)))
      have HST := Lib.hid (show (⟨x0, x1, x2, X3, X4, X5, J, UD⟩ : RcV) = rcV line → StR t base ob (k + 1) (w9.setCell ⟨ob, 0, none⟩ (.slice A9 (k + 1) c9)) from fun eq => by
        refine ⟨HGF.out, ?_, ?_, H.out.hob, H.out.hm, H.out.hp, A9, c9, HB9.out.set_ 0 _, ?_⟩
        · exact ((H.out.mx.grown hgA).low hg9 (fun g e => by have := (HOA.out.1.lt e).1; have := H.out.hm; omega)).low hgs (fun g e => by injection e with e; have := H.out.hm; omega)
        · exact ((H.out.pw.grown hgA).low hg9 (fun g e => by have := (HOA.out.1.lt e).1; have := H.out.hp; omega)).low hgs (fun g e => by injection e with e; have := H.out.hp; omega)
        · rw [HRV.out, ← eq]
          exact (HOA.out.app rfl (by exact H9.out)).kept hgs (fun g e2 e3 => by injection e2 with e2; have := (H9.out.1.lt e3).1; omega))
      clear hg9 hgb hgs hgA hga o9 f9
      by_cases h0 : HW = 0
      · have hj : J = -1 := by rw [HJJ.out, if_pos h0]
        subst hj
        have HF := Lib.hid (show rOk t k = false by rw [HOKB.out, HB0.out, h0]; exact Bool.and_false _)
        clear h0
        cases NB3 <;> cases NB4 <;> cases NB5
        all_goals
          go_wp2_with fail
          go_ret
          exact ⟨by rw [HF.out]; try rfl, HGF.out, fun e => by rw [HF.out] at e; cases e⟩
      · have hj : J = HW := by rw [HJJ.out, if_neg h0]
        have hpos : 0 < J := by have := HJ0.out; omega
        have d0 : decide (0 < J) = true := decide_eq_true hpos
        cases NB3
        · have HF := Lib.hid (show rOk t k = false by rw [HOKB.out, HB0.out]; rfl)
          clear h0 hj
          go_wp2_with fail
          go_ret
          exact ⟨by rw [HF.out]; try rfl, HGF.out, fun e => by rw [HF.out] at e; cases e⟩
        · cases NB4
          · have HF := Lib.hid (show rOk t k = false by rw [HOKB.out, HB0.out]; rfl)
            clear h0 hj
            go_wp2_with fail
            go_ret
            exact ⟨by rw [HF.out]; try rfl, HGF.out, fun e => by rw [HF.out] at e; cases e⟩
          · cases NB5
            · have HF := Lib.hid (show rOk t k = false by rw [HOKB.out, HB0.out]; rfl)
              clear h0 hj
              go_wp2_with fail
              go_ret
              exact ⟨by rw [HF.out]; try rfl, HGF.out, fun e => by rw [HF.out] at e; cases e⟩
            · have HF := Lib.hid (show rOk t k = true by rw [HOKB.out, HB0.out, decide_eq_true h0]; rfl)
              have HEQ := Lib.hid (show (⟨x0, x1, x2, X3, X4, X5, J, UD⟩ : RcV) = rcV line by rw [HVV.out, hj, HX3.out rfl, HX4.out rfl, HX5.out rfl])
              clear h0 hj
              go_wp2_with fail
              go_ret
              exact ⟨by rw [HF.out]; try rfl, HGF.out, fun _ => HST.out HEQ.out⟩
    · obtain ⟨n, hn⟩ : ∃ n, L.length = n := ⟨_, rfl⟩
      rw [hn] at h5 ⊢
      have d5 : ((n : Int) != 8) = true := by rw [bne_iff_ne]; omega
      have hF0 : rcB line = false := by unfold rcB; rw [HL.out, hn, decide_eq_false h5]; cases okW line <;> rfl
      have HF0 := Lib.hid hF0
      clear h5 hrec hn hF0
      have HF := Lib.hid (show rOk t k = false by rw [HOKB.out]; exact HF0.out)
      go_wp2_with fail
      go_ret
      exact ⟨by rw [HF.out]; try rfl, H.out.g, fun e => by rw [HF.out] at e; cases e⟩
end Go.Proofs.YtoddgaocochdgaaGreatDoor

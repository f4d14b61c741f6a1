/- Contract of the document's closure that reads a line of acts. Conditions: a line of bounded length; bytealg.MaxLen holds some number; the table of powers of ten. -/
import Derived.Test.YtgogiljplnninaaGreatDoorAtB
namespace Go.Proofs.YtgogiljplnninaaGreatDoor
open Go.RowKit

set_option maxHeartbeats 16000000 in
set_option maxRecDepth 100000 in
theorem dAcLine_any (t : List UInt8) (base : World) (ob k : Nat) (line : ByteArray) (w : World) (h : StA t base ob k w) (hl : line.data.toList = lineN t k) (hs : line.size ≤ 1000000) (hk : k < 1000000) :
    Calls Tryz.prog 92 #[.string line, .pointer (some ⟨ob, 0, none⟩)] w (fun e w' => e = .returned (.bool (aOk t k)) ∧ base.grownBy w' none ∧ (aOk t k = true → StA t base ob (k + 1) w')) := by
  have hln := lnB_eq hl
  obtain ⟨B, c, hob, hown⟩ := h.out
  have H := Lib.hid h; have HOB := Lib.hid hob; have HO := Lib.hid hown
  have HOKB := Lib.hid (show aOk t k = acB line by unfold aOk; rw [← hln])
  have HRV := Lib.hid (show aOut t (k + 1) = aOut t k ++ [acV line] by
    show aOut t k ++ [acV (lnB t k)] = _
    rw [← hln])
  clear hl hln h hob hown
  go_enter Tryz.func92, Tryz.ntmps92
  go_wp2_with fail
  refine (dWords_any line _ hs H.out.mx).mono ?_
  rintro e w1 ⟨hg1, B0, rfl, hrec⟩
  replace H := Lib.hid (H.out.kept hg1)
  replace HOB := Lib.hid (HOB.out.grown hg1 (by simp))
  replace HO := Lib.hid (HO.out.kept hg1 (fun g e => by cases e))
  (try replace HRX := Lib.hid (HRX.out.grown hg1 (fun g e => by cases e)))
  obtain ⟨m, hm⟩ : ∃ m, (pieces line).length = m := ⟨_, rfl⟩
  obtain ⟨lo, hlo⟩ : ∃ b, w.heap.size = b := ⟨_, rfl⟩
  obtain ⟨OK, hOK⟩ : ∃ b, okW line = b := ⟨_, rfl⟩
  rw [hm, hlo] at hrec
  rw [hm, hOK]
  have HMM := Lib.hid hm; have HOK := Lib.hid hOK
  clear hg1 hm hlo hOK
  cases OK
  · clear hrec
    have HF := Lib.hid (show aOk t k = false by rw [HOKB.out]; unfold acB; rw [HOK.out]; rfl)
    go_wp2_with fail
    go_ret
    exact ⟨by rw [HF.out]; try rfl, H.out.g, fun e => by rw [HF.out] at e; cases e⟩
  · by_cases h4 : 4 ≤ m
    · have d4 : decide ((m : Int) < 4) = false := decide_eq_false (by omega)
      obtain ⟨bg, bo, _, hB, _, hbg, _⟩ := hrec.get srow_len (show 0 < m by omega)
      injection hB with hB
      subst hB
      have HRX := Lib.hid hrec
      obtain ⟨x0, hx0⟩ : ∃ x, pcAt line 0 = x := ⟨_, rfl⟩
      obtain ⟨x1, hx1⟩ : ∃ x, pcAt line 1 = x := ⟨_, rfl⟩
      obtain ⟨x2, hx2⟩ : ∃ x, pcAt line 2 = x := ⟨_, rfl⟩
      obtain ⟨x3, hx3⟩ : ∃ x, pcAt line 3 = x := ⟨_, rfl⟩
      have HX0 := Lib.hid (show (pieces line)[0]? = some x0 by rw [← hx0]; exact pc_get (by have := HMM.out; omega))
      have HX1 := Lib.hid (show (pieces line)[1]? = some x1 by rw [← hx1]; exact pc_get (by have := HMM.out; omega))
      have HX2 := Lib.hid (show (pieces line)[2]? = some x2 by rw [← hx2]; exact pc_get (by have := HMM.out; omega))
      have HX3 := Lib.hid (show (pieces line)[3]? = some x3 by rw [← hx3]; exact pc_get (by have := HMM.out; omega))
      have hs0 : x0.size ≤ 1000000 := by rw [← hx0]; have := pc_size (s := line) 0; omega
      have hne3 : x3 ≠ ⟨#[]⟩ := by
        intro e
        have h := List.all_eq_true.1 (show (pieces line).all (fun x => !x.toList.isEmpty) = true from HOK.out) x3 (List.mem_of_getElem? HX3.out)
        rw [e, ByteArray.toList_eq] at h
        exact absurd h (by decide)
      obtain ⟨NB0, hNB0⟩ : ∃ b, numB x0.data.toList 15 = b := ⟨_, rfl⟩
      obtain ⟨KD, hKD⟩ : ∃ k, wdN W5a x3 = k := ⟨_, rfl⟩
      obtain ⟨J, hJ⟩ : ∃ J, Lib.idxOfS W6a x3 = J := ⟨_, rfl⟩
      have hk0 : 0 ≤ KD := by rw [← hKD]; exact (wd_cases W5a x3).1
      have HJK := Lib.hid (show J = if KD = 0 then -1 else KD by rw [← hJ, ← hKD]; exact (wd_cases W5a x3).2.2 hne3)
      have HAB := Lib.hid (show acB line = (NB0 && (if KD = 1 then decide (m = 6) && numB (pcAt line 4).data.toList 15 else decide (0 < KD) && decide (m = 4))) by
        unfold acB; rw [HOK.out, HMM.out, decide_eq_true h4, hx0, hNB0, hx3, hKD]; rfl)
      have HAV := Lib.hid (show acV line = ⟨numN x0.data.toList, x1, x2, KD, if KD = 1 then numN (pcAt line 4).data.toList else 0, if KD = 1 then undS (pcAt line 5) else ⟨#[]⟩⟩ by unfold acV; rw [hx0, hx1, hx2, hx3, hKD])
      have HNB := Lib.hid hNB0; have HJ := Lib.hid hJ
      have m0 : (0 : Int) < (m : Int) := by omega
      have m1 : (1 : Int) < (m : Int) := by omega
      have m2 : (2 : Int) < (m : Int) := by omega
      have m3 : (3 : Int) < (m : Int) := by omega
      clear hrec hbg hx0 hx1 hx2 hx3 hNB0 hKD hJ hne3
      have c0 := (HRX.out).at_ srow_len (i := 0) (a := x0) HX0.out 0 _ rfl
      simp only [Nat.mul_one, Nat.add_zero, Nat.zero_add, Nat.one_mul] at c0
      go_wp2_with fail
      refine (dNumber_any x0 15 _ hs0 (by omega) H.out.pw).mono ?_
      rintro e w4 ⟨X0, rfl, b0a, b0b, hxv, hg4⟩
      rw [HNB.out] at hxv ⊢
      have HX0V := Lib.hid hxv
      replace H := Lib.hid (H.out.kept hg4)
      replace HOB := Lib.hid (HOB.out.grown hg4 (by simp))
      replace HO := Lib.hid (HO.out.kept hg4 (fun g e => by cases e))
      (try replace HRX := Lib.hid (HRX.out.grown hg4 (fun g e => by cases e)))
      have HBS := Lib.hid (show ∀ g, blkOf B = some g → g < w4.heap.size from fun g e => (HO.out.1.lt e).2)
      have HOL := Lib.hid HOB.out.lt
      clear hg4 c0 d4 hxv
      go_upto_region 5 with (fail)
      refine H_begin (fun w' => w4.grownBy w' none) (by kernel_rfl) ?_
      have hHeld : w4.grownBy w4.drew none := gr_drew (gr_refl _ _)
      generalize w4.drew = wd at hHeld ⊢
      refine H_take (k := 0) (v := ?_) (by rfl) (by kernel_rfl) (by kernel_rfl) (by kernel_rfl) (by exact fun _ _ _ h => h) (by rfl) ?_ (by assumption) ?_
      rotate_left 1
      · intro w hSw
        (try dsimp only at hSw)
        go_simp
        (try with_reducible rfl)
      (try simp only [Act.put, List.setIfInBounds_toArray, List.set_cons_zero, List.set_cons_succ])
      refine H_take (k := 1) (v := ?_) (by rfl) (by kernel_rfl) (by kernel_rfl) (by kernel_rfl) (by exact fun _ _ _ h => h) (by rfl) ?_ (by assumption) ?_
      rotate_left 1
      · intro w hSw
        (try dsimp only at hSw)
        go_simp
        (try with_reducible rfl)
      (try simp only [Act.put, List.setIfInBounds_toArray, List.set_cons_zero, List.set_cons_succ])
      refine H_take (k := 2) (v := ?_) (by rfl) (by kernel_rfl) (by kernel_rfl) (by kernel_rfl) (by exact fun _ _ _ h => h) (by rfl) ?_ (by assumption) ?_
      rotate_left 1
      · intro w hSw
        (try dsimp only at hSw)
        go_simp
        (try with_reducible rfl)
      (try simp only [Act.put, List.setIfInBounds_toArray, List.set_cons_zero, List.set_cons_succ])
      refine H_take (k := 3) (v := ?_) (by rfl) (by kernel_rfl) (by kernel_rfl) (by kernel_rfl) (by exact fun _ _ _ h => h) (by rfl) ?_ (by assumption) ?_
      rotate_left 1
      · intro w' hSw
        have kc := (HRX.out.grown hSw (fun g e => by cases e)).at_ srow_len (i := 1) (a := x1) HX1.out 0 _ rfl
        simp only [Nat.mul_one, Nat.add_zero, Nat.zero_add, Nat.one_mul] at kc
        go_simp
        (try with_reducible rfl)
      (try simp only [Act.put, List.setIfInBounds_toArray, List.set_cons_zero, List.set_cons_succ])
      refine H_take (k := 4) (v := ?_) (by rfl) (by kernel_rfl) (by kernel_rfl) (by kernel_rfl) (by exact fun _ _ _ h => h) (by rfl) ?_ (by assumption) ?_
      rotate_left 1
      · intro w hSw
        (try dsimp only at hSw)
        go_simp
        (try with_reducible rfl)
      (try simp only [Act.put, List.setIfInBounds_toArray, List.set_cons_zero, List.set_cons_succ])
      refine H_take (k := 5) (v := ?_) (by rfl) (by kernel_rfl) (by kernel_rfl) (by kernel_rfl) (by exact fun _ _ _ h => h) (by rfl) ?_ (by assumption) ?_
      rotate_left 1
      · intro w hSw
        (try dsimp only at hSw)
        go_simp
        (try with_reducible rfl)
      (try simp only [Act.put, List.setIfInBounds_toArray, List.set_cons_zero, List.set_cons_succ])
      refine H_take (k := 6) (v := ?_) (by rfl) (by kernel_rfl) (by kernel_rfl) (by kernel_rfl) (by exact fun _ _ _ h => h) (by rfl) ?_ (by assumption) ?_
      rotate_left 1
      · intro w' hSw
        have kc := (HRX.out.grown hSw (fun g e => by cases e)).at_ srow_len (i := 2) (a := x2) HX2.out 0 _ rfl
        simp only [Nat.mul_one, Nat.add_zero, Nat.zero_add, Nat.one_mul] at kc
        go_simp
        (try with_reducible rfl)
      (try simp only [Act.put, List.setIfInBounds_toArray, List.set_cons_zero, List.set_cons_succ])
      refine H_take (k := 8) (v := ?_) (by rfl) (by kernel_rfl) (by kernel_rfl) (by kernel_rfl) (by exact fun _ _ _ h => h) (by rfl) ?_ (by assumption) ?_
      rotate_left 1
      · intro w hSw
        (try dsimp only at hSw)
        go_simp
        (try with_reducible rfl)
      (try simp only [Act.put, List.setIfInBounds_toArray, List.set_cons_zero, List.set_cons_succ])
      refine H_take (k := 9) (v := ?_) (by rfl) (by kernel_rfl) (by kernel_rfl) (by kernel_rfl) (by exact fun _ _ _ h => h) (by rfl) ?_ (by assumption) ?_
      rotate_left 1
      · intro w hSw
        (try dsimp only at hSw)
        go_simp
        (try with_reducible rfl)
      (try simp only [Act.put, List.setIfInBounds_toArray, List.set_cons_zero, List.set_cons_succ])
      refine H_take (k := 10) (v := ?_) (by rfl) (by kernel_rfl) (by kernel_rfl) (by kernel_rfl) (by exact fun _ _ _ h => h) (by rfl) ?_ (by assumption) ?_
      rotate_left 1
      · intro w' hSw
        have kc := (HRX.out.grown hSw (fun g e => by cases e)).at_ srow_len (i := 3) (a := x3) HX3.out 0 _ rfl
        simp only [Nat.mul_one, Nat.add_zero, Nat.zero_add, Nat.one_mul] at kc
        go_simp
        (try with_reducible rfl)
      (try simp only [Act.put, List.setIfInBounds_toArray, List.set_cons_zero, List.set_cons_succ])
      refine H_runTwo (k1 := 7) (k2 := 13) (by rfl) (by rfl) (by kernel_rfl) (by rfl) (by rfl) (fun K hK => ?_) (fun K hK => ?_)
      · go_simp
        refine (dWordsA_any _).mono ?_
        rintro e w5 ⟨rfl, hr5, hg5⟩
        have hgz := gr_none hHeld hg5
        refine hK _ _ hgz ?_
        clear hK K hHeld
        have hHeld := hgz
        have HW3 := Lib.hid hr5
        clear hr5 hgz
        (try simp only [Act.put, List.setIfInBounds_toArray, List.set_cons_zero, List.set_cons_succ])
        clear hg5
        refine H_runTwo (k1 := 11) (k2 := 13) (by rfl) (by rfl) (by kernel_rfl) (by rfl) (by rfl) (fun K hK => ?_) (fun K hK => ?_)
        · go_simp
          refine same_calls (index_any _ 6 W6a x3 _ _ HW3.out (by omega)) ?_
          rw [HJ.out]
          refine hK _ _ hHeld ?_
          clear hK K
          (try simp only [Act.put, List.setIfInBounds_toArray, List.set_cons_zero, List.set_cons_succ])
          refine H_take (k := 12) (v := ?_) (by rfl) (by kernel_rfl) (by kernel_rfl) (by kernel_rfl) (by exact fun _ _ _ h => h) (by rfl) ?_ (by assumption) ?_
          rotate_left 1
          · intro w hSw
            (try dsimp only at hSw)
            go_simp
            (try with_reducible rfl)
          (try simp only [Act.put, List.setIfInBounds_toArray, List.set_cons_zero, List.set_cons_succ])
          refine H_run (k := 13) (by rfl) (by kernel_rfl) (by rfl) (fun K hK => ?_)
          go_simp
          obtain ⟨wa, hwa⟩ : ∃ v, w5.alloc (.cells #[.int .i64 0, .string ⟨#[]⟩, .string ⟨#[]⟩, .int .i64 0, .int .i64 0, .string ⟨#[]⟩] 56) = v := ⟨_, rfl⟩
          obtain ⟨sb, hsb⟩ : ∃ b, w5.heap.size = b := ⟨_, rfl⟩
          have YZ := Lib.hid (show Blk wa sb 56 #[.int .i64 0, .string ⟨#[]⟩, .string ⟨#[]⟩, .int .i64 0, .int .i64 0, .string ⟨#[]⟩] by rw [← hwa, ← hsb]; exact Blk.new _ _ _)
          have hga : w5.grownBy wa none := by rw [← hwa]; exact gr_alloc (gr_refl _ _) _
          have hlsb : w4.heap.size ≤ sb := by rw [← hsb]; exact hHeld.size
          have hgz := gr_none hHeld hga
          (try rw [hwa])
          (try rw [hsb])
          refine hK _ _ hgz ?_
          clear hK K hHeld hwa hsb
          have hHeld := hgz
          clear hgz
          (try simp only [Act.put, List.setIfInBounds_toArray, List.set_cons_zero, List.set_cons_succ])
          clear hga
          refine H_run (k := 14) (by rfl) (by kernel_rfl) (by rfl) (fun K hK => ?_)
          refine wp_store_all Tryz.acT _ _ (by rfl) sb (by rfl) 56 _ #[.int .i64 X0, .string x1, .string x2, .int .i64 J, .int .i64 0, .string ⟨#[]⟩] (by rfl) YZ.out rfl rfl (by simp [Value.oneCell']) ?_
          intro wg hwg
          have hgg : w4.grownBy wg none := gr_trans hHeld hwg.2.1 (fun g e => .inr (by injection e with e; omega))
          refine hK _ _ hgg ?_
          have HSB := Lib.hid hwg.1
          clear hK K hwg YZ hHeld
          (try simp only [Act.put, List.setIfInBounds_toArray, List.set_cons_zero, List.set_cons_succ])
          refine H_done (by kernel_rfl) ?_
          have HGW := Lib.hid hgg
          clear hgg HW3
          have s3 := HSB.out.cell 3
          by_cases hk1 : KD = 1
          · have HK1 := Lib.hid hk1
            have hj1 : J = 1 := by rw [HJK.out, hk1]; rfl
            have HJ1 := Lib.hid hj1
            have d1 : (J == 1) = true := by rw [beq_iff_eq]; exact hj1
            clear hk1 hj1
            by_cases h6 : m = 6
            · have m4 : (4 : Int) < (m : Int) := by omega
              have m5 : (5 : Int) < (m : Int) := by omega
              obtain ⟨x4, hx4⟩ : ∃ x, pcAt line 4 = x := ⟨_, rfl⟩
              obtain ⟨x5, hx5⟩ : ∃ x, pcAt line 5 = x := ⟨_, rfl⟩
              have HX4 := Lib.hid (show (pieces line)[4]? = some x4 by rw [← hx4]; exact pc_get (by rw [HMM.out]; omega))
              have HX5 := Lib.hid (show (pieces line)[5]? = some x5 by rw [← hx5]; exact pc_get (by rw [HMM.out]; omega))
              have hs4 : x4.size ≤ 1000000 := by rw [← hx4]; have := pc_size (s := line) 4; omega
              rw [hx4] at HAB HAV
              rw [hx5] at HAV
              obtain ⟨NB4, hNB4⟩ : ∃ b, numB x4.data.toList 15 = b := ⟨_, rfl⟩
              rw [hNB4] at HAB
              have HN4 := Lib.hid hNB4
              have e6 : ((m : Int) == 6) = true := by rw [beq_iff_eq]; omega
              have HM6 := Lib.hid h6
              clear hx4 hx5 hNB4 h6
              have c4 := (HRX.out.grown HGW.out (fun g e => by cases e)).at_ srow_len (i := 4) (a := x4) HX4.out 0 _ rfl
              simp only [Nat.mul_one, Nat.add_zero, Nat.zero_add, Nat.one_mul] at c4
              go_wp2_with fail
              refine (dNumber_any x4 15 _ hs4 (by omega) (H.out.pw.grown HGW.out)).mono ?_
              rintro e w6 ⟨X4, rfl, b4a, b4b, hx4, hg6⟩
              rw [HN4.out] at hx4 ⊢
              have HX4V := Lib.hid hx4
              replace HSB := Lib.hid (HSB.out.grown hg6 (by simp))
              replace HGW := Lib.hid (gr_none HGW.out hg6)
              clear hg6 hx4 c4 s3
              have f4 := HSB.out.frozen 4
              have o4 := HSB.out.cell 4
              obtain ⟨w7, hw7⟩ : ∃ v, w6.setCell ⟨sb, 4, none⟩ (.int .i64 X4) = v := ⟨_, rfl⟩
              have HS7 := Lib.hid (show Blk w7 sb 56 #[.int .i64 X0, .string x1, .string x2, .int .i64 J, .int .i64 X4, .string ⟨#[]⟩] by rw [← hw7]; exact HSB.out.set_ 4 _)
              have HGW7 := Lib.hid (show w4.grownBy w7 none by rw [← hw7]; exact gr_setCell HGW.out (.inr hlsb) _)
              have HW7 := Lib.hid hw7
              clear hw7
              go_upto_region 12 with (fail)
              (try rw [HW7.out])
              clear HW7 f4 o4 HSB HGW
              have HSB := HS7
              have HGW := HGW7
              clear HS7 HGW7
              have c5 := (HRX.out.grown HGW.out (fun g e => by cases e)).at_ srow_len (i := 5) (a := x5) HX5.out 0 _ rfl
              simp only [Nat.mul_one, Nat.add_zero, Nat.zero_add, Nat.one_mul] at c5
              go_wp2_with fail
              refine same_calls (undash_any x5 _) ?_
              obtain ⟨u5, hu5⟩ : ∃ u, undS x5 = u := ⟨_, rfl⟩
              rw [hu5] at HAV ⊢
              have f5 := HSB.out.frozen 5
              have o5 := HSB.out.cell 5
              obtain ⟨WM, hw8⟩ : ∃ v, w7.setCell ⟨sb, 5, none⟩ (.string u5) = v := ⟨_, rfl⟩
              have HS8 := Lib.hid (show Blk WM sb 56 #[.int .i64 X0, .string x1, .string x2, .int .i64 J, .int .i64 X4, .string u5] by rw [← hw8]; exact HSB.out.set_ 5 _)
              have HGW8 := Lib.hid (show w4.grownBy WM none by rw [← hw8]; exact gr_setCell HGW.out (.inr hlsb) _)
              have HW8 := Lib.hid hw8
              clear hw8 hu5 c5
              go_upto_region 13 with (fail)
              (try rw [HW8.out])
              clear HW8 f5 o5 HSB HGW
              have HSB := HS8
              have HGW := HGW8
              clear HS8 HGW8
              replace H := Lib.hid (H.out.kept HGW.out)
              replace HOB := Lib.hid (HOB.out.grown HGW.out (by simp))
              replace HO := Lib.hid (HO.out.kept HGW.out (fun g e => by cases e))
              have zob := HOB.out.lt
              have zb := H.out.hob
              have zsb := HSB.out.lt
              have hbs := HBS.out
              have o0 := HOB.out.cell 0
              have hb1 : base.heap.size ≤ ob + 1 := by omega
              have hobs : ob ≠ sb := by have := HOL.out; omega
              go_upto_region 14 with (first
                | (refine wpl_load_all Tryz.acT rfl _ rfl _ rfl _ _ HSB.out rfl ?_)
                | (at_builtin; refine wpl_app _ rfl _ _ Tryz.acsT2 rfl (ob + 1) B k c _ rfl (by exact HO.out.1.alloc _) _ _ 1 1 [.int .i64 X0, .string x1, .string x2, .int .i64 J, .int .i64 X4, .string u5] rfl (by exact Reads.one _ _ _ _ rfl) (by simp [Value.oneCell']) (by unfold maxLen; omega) (by omega) (by simp; omega) ?_; intro A9 c9 w9 h9; have HB9 := Lib.hid ((HOB.out.alloc _).grown h9.2.1 (by intro e; have := (HO.out.1.lt e.symm).1; omega)); have HS9 := Lib.hid ((HSB.out.alloc (.cells #[.int .i64 X0, .string x1, .string x2, .int .i64 J, .int .i64 X4, .string u5] 56)).grown h9.2.1 (by intro e; have := hbs sb e.symm; omega)); have f9 := HB9.out.frozen 0; have o9 := HB9.out.cell 0; have H9 := Lib.hid h9; clear h9 o0)
                | fail)
              have hgA := gr_alloc (gr_refl WM none) (.cells #[.int .i64 X0, .string x1, .string x2, .int .i64 J, .int .i64 X4, .string u5] 56)
              have hg9 := H9.out.2.1
              have hgb : base.grownBy w9 none := gr_trans (gr_none H.out.g hgA) hg9 (fun g e => .inr (by have := (HO.out.1.lt e).1; omega))
              have hgs : w9.grownBy (w9.setCell ⟨ob, 0, none⟩ (.slice A9 (k + 1) c9)) (some ob) := gr_setCell (gr_refl _ _) (.inl rfl) _
              have HGF := Lib.hid (show base.grownBy (w9.setCell ⟨ob, 0, none⟩ (.slice A9 (k + 1) c9)) none from gr_trans hgb hgs (fun g e => .inr (by injection e with e; omega)))
              have s9 := (HS9.out.grown hgs (by intro e; injection e with e; exact hobs e.symm)).cell 3
              have HST := Lib.hid (show (⟨X0, x1, x2, J, X4, u5⟩ : ActV) = acV line → StA t base ob (k + 1) (w9.setCell ⟨ob, 0, none⟩ (.slice A9 (k + 1) c9)) from fun eq => by
                refine ⟨HGF.out, ?_, ?_, H.out.hob, H.out.hm, H.out.hp, A9, c9, HB9.out.set_ 0 _, ?_⟩
                · exact ((H.out.mx.grown hgA).low hg9 (fun g e => by have := (HO.out.1.lt e).1; have := H.out.hm; omega)).low hgs (fun g e => by injection e with e; have := H.out.hm; omega)
                · exact ((H.out.pw.grown hgA).low hg9 (fun g e => by have := (HO.out.1.lt e).1; have := H.out.hp; omega)).low hgs (fun g e => by injection e with e; have := H.out.hp; omega)
                · rw [HRV.out, ← eq]
                  exact ((HO.out.alloc _).app rfl H9.out).kept hgs (fun g e2 e3 => by injection e2 with e2; have := (H9.out.1.lt e3).1; omega))
              clear hg9 hgb hgs hgA o9 f9 zob zb zsb hbs hb1 hobs
              have hj2 : decide ((0 : Int) < J) = true := decide_eq_true (by have := HJ1.out; omega)
              cases NB0
              · have HF := Lib.hid (show aOk t k = false by rw [HOKB.out, HAB.out]; rfl)
                go_wp2_with fail
                go_ret
                exact ⟨by rw [HF.out]; try rfl, HGF.out, fun e => by rw [HF.out] at e; cases e⟩
              · cases NB4
                · have HF := Lib.hid (show aOk t k = false by rw [HOKB.out, HAB.out]; rw [if_pos HK1.out, decide_eq_true HM6.out]; rfl)
                  go_wp2_with fail
                  go_ret
                  exact ⟨by rw [HF.out]; try rfl, HGF.out, fun e => by rw [HF.out] at e; cases e⟩
                · have HF := Lib.hid (show aOk t k = true by rw [HOKB.out, HAB.out]; rw [if_pos HK1.out, decide_eq_true HM6.out]; rfl)
                  have HEQ := Lib.hid (show (⟨X0, x1, x2, J, X4, u5⟩ : ActV) = acV line from by rw [HAV.out, HX0V.out rfl, HX4V.out rfl, if_pos HK1.out, if_pos HK1.out, HK1.out, HJ1.out])
                  go_wp2_with fail
                  go_ret
                  exact ⟨by rw [HF.out]; try rfl, HGF.out, fun _ => HST.out HEQ.out⟩
            · have e6 : ((m : Int) == 6) = false := by rw [beq_eq_false_iff_ne]; omega
              have HF := Lib.hid (show aOk t k = false by rw [HOKB.out]; rw [HAB.out, if_pos HK1.out, decide_eq_false h6]; exact Bool.and_false _)
              go_wp2_with fail
              go_ret
              exact ⟨by rw [HF.out]; try rfl, gr_none H.out.g HGW.out, fun e => by rw [HF.out] at e; cases e⟩
          · have HK1 := Lib.hid hk1
            have d1 : (J == 1) = false := by rw [beq_eq_false_iff_ne]; intro e; have q := HJK.out; rw [e] at q; split at q <;> omega
            clear hk1
            obtain ⟨WM, hWM⟩ : ∃ v : World, v = wg := ⟨_, rfl⟩
            rw [← hWM] at HSB HGW s3 ⊢
            have HWM := Lib.hid hWM
            clear hWM
            replace H := Lib.hid (H.out.kept HGW.out)
            replace HOB := Lib.hid (HOB.out.grown HGW.out (by simp))
            replace HO := Lib.hid (HO.out.kept HGW.out (fun g e => by cases e))
            have zob := HOB.out.lt
            have zb := H.out.hob
            have zsb := HSB.out.lt
            have hbs := HBS.out
            have o0 := HOB.out.cell 0
            have hb1 : base.heap.size ≤ ob + 1 := by omega
            have hobs : ob ≠ sb := by have := HOL.out; omega
            go_upto_region 14 with (first
              | (refine wpl_load_all Tryz.acT rfl _ rfl _ rfl _ _ HSB.out rfl ?_)
              | (at_builtin; refine wpl_app _ rfl _ _ Tryz.acsT2 rfl (ob + 1) B k c _ rfl (by exact HO.out.1.alloc _) _ _ 1 1 [.int .i64 X0, .string x1, .string x2, .int .i64 J, .int .i64 0, .string ⟨#[]⟩] rfl (by exact Reads.one _ _ _ _ rfl) (by simp [Value.oneCell']) (by unfold maxLen; omega) (by omega) (by simp; omega) ?_; intro A9 c9 w9 h9; have HB9 := Lib.hid ((HOB.out.alloc _).grown h9.2.1 (by intro e; have := (HO.out.1.lt e.symm).1; omega)); have HS9 := Lib.hid ((HSB.out.alloc (.cells #[.int .i64 X0, .string x1, .string x2, .int .i64 J, .int .i64 0, .string ⟨#[]⟩] 56)).grown h9.2.1 (by intro e; have := hbs sb e.symm; omega)); have f9 := HB9.out.frozen 0; have o9 := HB9.out.cell 0; have H9 := Lib.hid h9; clear h9 o0)
              | fail)
            have hgA := gr_alloc (gr_refl WM none) (.cells #[.int .i64 X0, .string x1, .string x2, .int .i64 J, .int .i64 0, .string ⟨#[]⟩] 56)
            have hg9 := H9.out.2.1
            have hgb : base.grownBy w9 none := gr_trans (gr_none H.out.g hgA) hg9 (fun g e => .inr (by have := (HO.out.1.lt e).1; omega))
            have hgs : w9.grownBy (w9.setCell ⟨ob, 0, none⟩ (.slice A9 (k + 1) c9)) (some ob) := gr_setCell (gr_refl _ _) (.inl rfl) _
            have HGF := Lib.hid (show base.grownBy (w9.setCell ⟨ob, 0, none⟩ (.slice A9 (k + 1) c9)) none from gr_trans hgb hgs (fun g e => .inr (by injection e with e; omega)))
            have s9 := (HS9.out.grown hgs (by intro e; injection e with e; exact hobs e.symm)).cell 3
            have HST := Lib.hid (show (⟨X0, x1, x2, J, 0, ⟨#[]⟩⟩ : ActV) = acV line → StA t base ob (k + 1) (w9.setCell ⟨ob, 0, none⟩ (.slice A9 (k + 1) c9)) from fun eq => by
              refine ⟨HGF.out, ?_, ?_, H.out.hob, H.out.hm, H.out.hp, A9, c9, HB9.out.set_ 0 _, ?_⟩
              · exact ((H.out.mx.grown hgA).low hg9 (fun g e => by have := (HO.out.1.lt e).1; have := H.out.hm; omega)).low hgs (fun g e => by injection e with e; have := H.out.hm; omega)
              · exact ((H.out.pw.grown hgA).low hg9 (fun g e => by have := (HO.out.1.lt e).1; have := H.out.hp; omega)).low hgs (fun g e => by injection e with e; have := H.out.hp; omega)
              · rw [HRV.out, ← eq]
                exact ((HO.out.alloc _).app rfl H9.out).kept hgs (fun g e2 e3 => by injection e2 with e2; have := (H9.out.1.lt e3).1; omega))
            clear hg9 hgb hgs hgA o9 f9 zob zb zsb hbs hb1 hobs
            by_cases hm4 : m = 4
            · have e4 : ((m : Int) == 4) = true := by rw [beq_iff_eq]; omega
              by_cases hk : 0 < KD
              · have hj2 : decide ((0 : Int) < J) = true := decide_eq_true (by rw [HJK.out, if_neg (by omega)]; exact hk)
                have HK := Lib.hid hk; have HM4 := Lib.hid hm4
                have hJ := Lib.hid (show J = KD by rw [HJK.out, if_neg (by omega)])
                clear hk hm4
                cases NB0
                · have HF := Lib.hid (show aOk t k = false by rw [HOKB.out, HAB.out]; rfl)
                  go_wp2_with fail
                  go_ret
                  exact ⟨by rw [HF.out]; try rfl, HGF.out, fun e => by rw [HF.out] at e; cases e⟩
                · have HF := Lib.hid (show aOk t k = true by rw [HOKB.out, HAB.out]; rw [if_neg HK1.out, decide_eq_true HM4.out, decide_eq_true HK.out]; rfl)
                  have HEQ := Lib.hid (show (⟨X0, x1, x2, J, 0, ⟨#[]⟩⟩ : ActV) = acV line from by rw [HAV.out, HX0V.out rfl, if_neg HK1.out, if_neg HK1.out, hJ.out])
                  go_wp2_with fail
                  go_ret
                  exact ⟨by rw [HF.out]; try rfl, HGF.out, fun _ => HST.out HEQ.out⟩
              · have hj2 : decide ((0 : Int) < J) = false := decide_eq_false (by rw [HJK.out]; split <;> omega)
                have HK := Lib.hid hk; have HM4 := Lib.hid hm4
                clear hk hm4
                cases NB0
                · have HF := Lib.hid (show aOk t k = false by rw [HOKB.out, HAB.out]; rfl)
                  go_wp2_with fail
                  go_ret
                  exact ⟨by rw [HF.out]; try rfl, HGF.out, fun e => by rw [HF.out] at e; cases e⟩
                · have HF := Lib.hid (show aOk t k = false by rw [HOKB.out, HAB.out]; rw [if_neg HK1.out, decide_eq_false HK.out]; rfl)
                  go_wp2_with fail
                  go_ret
                  exact ⟨by rw [HF.out]; try rfl, HGF.out, fun e => by rw [HF.out] at e; cases e⟩
            · have e4 : ((m : Int) == 4) = false := by rw [beq_eq_false_iff_ne]; omega
              have HM4 := Lib.hid hm4
              clear hm4
              cases NB0
              · have HF := Lib.hid (show aOk t k = false by rw [HOKB.out, HAB.out]; rfl)
                go_wp2_with fail
                go_ret
                exact ⟨by rw [HF.out]; try rfl, HGF.out, fun e => by rw [HF.out] at e; cases e⟩
              · have HF := Lib.hid (show aOk t k = false by rw [HOKB.out, HAB.out]; rw [if_neg HK1.out, decide_eq_false HM4.out]; simp)
                go_wp2_with fail
                go_ret
                exact ⟨by rw [HF.out]; try rfl, HGF.out, fun e => by rw [HF.out] at e; cases e⟩
        · go_simp
          obtain ⟨wa, hwa⟩ : ∃ v, w5.alloc (.cells #[.int .i64 0, .string ⟨#[]⟩, .string ⟨#[]⟩, .int .i64 0, .int .i64 0, .string ⟨#[]⟩] 56) = v := ⟨_, rfl⟩
          obtain ⟨sb, hsb⟩ : ∃ b, w5.heap.size = b := ⟨_, rfl⟩
          have YZ := Lib.hid (show Blk wa sb 56 #[.int .i64 0, .string ⟨#[]⟩, .string ⟨#[]⟩, .int .i64 0, .int .i64 0, .string ⟨#[]⟩] by rw [← hwa, ← hsb]; exact Blk.new _ _ _)
          have hga : w5.grownBy wa none := by rw [← hwa]; exact gr_alloc (gr_refl _ _) _
          have hlsb : w4.heap.size ≤ sb := by rw [← hsb]; exact hHeld.size
          have hgz := gr_none hHeld hga
          (try rw [hwa])
          (try rw [hsb])
          refine hK _ _ hgz ?_
          clear hK K hHeld hwa hsb
          have hHeld := hgz
          clear hgz
          (try simp only [Act.put, List.setIfInBounds_toArray, List.set_cons_zero, List.set_cons_succ])
          replace HW3 := Lib.hid (HW3.out.grown hga (fun g e => by cases e))
          clear hga
          refine H_run (k := 11) (by rfl) (by kernel_rfl) (by rfl) (fun K hK => ?_)
          go_simp
          refine same_calls (index_any _ 6 W6a x3 _ _ HW3.out (by omega)) ?_
          rw [HJ.out]
          refine hK _ _ hHeld ?_
          clear hK K
          (try simp only [Act.put, List.setIfInBounds_toArray, List.set_cons_zero, List.set_cons_succ])
          refine H_take (k := 12) (v := ?_) (by rfl) (by kernel_rfl) (by kernel_rfl) (by kernel_rfl) (by exact fun _ _ _ h => h) (by rfl) ?_ (by assumption) ?_
          rotate_left 1
          · intro w hSw
            (try dsimp only at hSw)
            go_simp
            (try with_reducible rfl)
          (try simp only [Act.put, List.setIfInBounds_toArray, List.set_cons_zero, List.set_cons_succ])
          refine H_run (k := 14) (by rfl) (by kernel_rfl) (by rfl) (fun K hK => ?_)
          refine wp_store_all Tryz.acT _ _ (by rfl) sb (by rfl) 56 _ #[.int .i64 X0, .string x1, .string x2, .int .i64 J, .int .i64 0, .string ⟨#[]⟩] (by rfl) YZ.out rfl rfl (by simp [Value.oneCell']) ?_
          intro wg hwg
          have hgg : w4.grownBy wg none := gr_trans hHeld hwg.2.1 (fun g e => .inr (by injection e with e; omega))
          refine hK _ _ hgg ?_
          have HSB := Lib.hid hwg.1
          clear hK K hwg YZ hHeld
          (try simp only [Act.put, List.setIfInBounds_toArray, List.set_cons_zero, List.set_cons_succ])
          refine H_done (by kernel_rfl) ?_
          have HGW := Lib.hid hgg
          clear hgg HW3
          have s3 := HSB.out.cell 3
          by_cases hk1 : KD = 1
          · have HK1 := Lib.hid hk1
            have hj1 : J = 1 := by rw [HJK.out, hk1]; rfl
            have HJ1 := Lib.hid hj1
            have d1 : (J == 1) = true := by rw [beq_iff_eq]; exact hj1
            clear hk1 hj1
            by_cases h6 : m = 6
            · have m4 : (4 : Int) < (m : Int) := by omega
              have m5 : (5 : Int) < (m : Int) := by omega
              obtain ⟨x4, hx4⟩ : ∃ x, pcAt line 4 = x := ⟨_, rfl⟩
              obtain ⟨x5, hx5⟩ : ∃ x, pcAt line 5 = x := ⟨_, rfl⟩
              have HX4 := Lib.hid (show (pieces line)[4]? = some x4 by rw [← hx4]; exact pc_get (by rw [HMM.out]; omega))
              have HX5 := Lib.hid (show (pieces line)[5]? = some x5 by rw [← hx5]; exact pc_get (by rw [HMM.out]; omega))
              have hs4 : x4.size ≤ 1000000 := by rw [← hx4]; have := pc_size (s := line) 4; omega
              rw [hx4] at HAB HAV
              rw [hx5] at HAV
              obtain ⟨NB4, hNB4⟩ : ∃ b, numB x4.data.toList 15 = b := ⟨_, rfl⟩
              rw [hNB4] at HAB
              have HN4 := Lib.hid hNB4
              have e6 : ((m : Int) == 6) = true := by rw [beq_iff_eq]; omega
              have HM6 := Lib.hid h6
              clear hx4 hx5 hNB4 h6
              have c4 := (HRX.out.grown HGW.out (fun g e => by cases e)).at_ srow_len (i := 4) (a := x4) HX4.out 0 _ rfl
              simp only [Nat.mul_one, Nat.add_zero, Nat.zero_add, Nat.one_mul] at c4
              go_wp2_with fail
              refine (dNumber_any x4 15 _ hs4 (by omega) (H.out.pw.grown HGW.out)).mono ?_
              rintro e w6 ⟨X4, rfl, b4a, b4b, hx4, hg6⟩
              rw [HN4.out] at hx4 ⊢
              have HX4V := Lib.hid hx4
              replace HSB := Lib.hid (HSB.out.grown hg6 (by simp))
              replace HGW := Lib.hid (gr_none HGW.out hg6)
              clear hg6 hx4 c4 s3
              have f4 := HSB.out.frozen 4
              have o4 := HSB.out.cell 4
              obtain ⟨w7, hw7⟩ : ∃ v, w6.setCell ⟨sb, 4, none⟩ (.int .i64 X4) = v := ⟨_, rfl⟩
              have HS7 := Lib.hid (show Blk w7 sb 56 #[.int .i64 X0, .string x1, .string x2, .int .i64 J, .int .i64 X4, .string ⟨#[]⟩] by rw [← hw7]; exact HSB.out.set_ 4 _)
              have HGW7 := Lib.hid (show w4.grownBy w7 none by rw [← hw7]; exact gr_setCell HGW.out (.inr hlsb) _)
              have HW7 := Lib.hid hw7
              clear hw7
              go_upto_region 12 with (fail)
              (try rw [HW7.out])
              clear HW7 f4 o4 HSB HGW
              have HSB := HS7
              have HGW := HGW7
              clear HS7 HGW7
              have c5 := (HRX.out.grown HGW.out (fun g e => by cases e)).at_ srow_len (i := 5) (a := x5) HX5.out 0 _ rfl
              simp only [Nat.mul_one, Nat.add_zero, Nat.zero_add, Nat.one_mul] at c5
              go_wp2_with fail
              refine same_calls (undash_any x5 _) ?_
              obtain ⟨u5, hu5⟩ : ∃ u, undS x5 = u := ⟨_, rfl⟩
              rw [hu5] at HAV ⊢
              have f5 := HSB.out.frozen 5
              have o5 := HSB.out.cell 5
              obtain ⟨WM, hw8⟩ : ∃ v, w7.setCell ⟨sb, 5, none⟩ (.string u5) = v := ⟨_, rfl⟩
              have HS8 := Lib.hid (show Blk WM sb 56 #[.int .i64 X0, .string x1, .string x2, .int .i64 J, .int .i64 X4, .string u5] by rw [← hw8]; exact HSB.out.set_ 5 _)
              have HGW8 := Lib.hid (show w4.grownBy WM none by rw [← hw8]; exact gr_setCell HGW.out (.inr hlsb) _)
              have HW8 := Lib.hid hw8
              clear hw8 hu5 c5
              go_upto_region 13 with (fail)
              (try rw [HW8.out])
              clear HW8 f5 o5 HSB HGW
              have HSB := HS8
              have HGW := HGW8
              clear HS8 HGW8
              replace H := Lib.hid (H.out.kept HGW.out)
              replace HOB := Lib.hid (HOB.out.grown HGW.out (by simp))
              replace HO := Lib.hid (HO.out.kept HGW.out (fun g e => by cases e))
              have zob := HOB.out.lt
              have zb := H.out.hob
              have zsb := HSB.out.lt
              have hbs := HBS.out
              have o0 := HOB.out.cell 0
              have hb1 : base.heap.size ≤ ob + 1 := by omega
              have hobs : ob ≠ sb := by have := HOL.out; omega
              go_upto_region 14 with (first
                | (refine wpl_load_all Tryz.acT rfl _ rfl _ rfl _ _ HSB.out rfl ?_)
                | (at_builtin; refine wpl_app _ rfl _ _ Tryz.acsT2 rfl (ob + 1) B k c _ rfl (by exact HO.out.1.alloc _) _ _ 1 1 [.int .i64 X0, .string x1, .string x2, .int .i64 J, .int .i64 X4, .string u5] rfl (by exact Reads.one _ _ _ _ rfl) (by simp [Value.oneCell']) (by unfold maxLen; omega) (by omega) (by simp; omega) ?_; intro A9 c9 w9 h9; have HB9 := Lib.hid ((HOB.out.alloc _).grown h9.2.1 (by intro e; have := (HO.out.1.lt e.symm).1; omega)); have HS9 := Lib.hid ((HSB.out.alloc (.cells #[.int .i64 X0, .string x1, .string x2, .int .i64 J, .int .i64 X4, .string u5] 56)).grown h9.2.1 (by intro e; have := hbs sb e.symm; omega)); have f9 := HB9.out.frozen 0; have o9 := HB9.out.cell 0; have H9 := Lib.hid h9; clear h9 o0)
                | fail)
              have hgA := gr_alloc (gr_refl WM none) (.cells #[.int .i64 X0, .string x1, .string x2, .int .i64 J, .int .i64 X4, .string u5] 56)
              have hg9 := H9.out.2.1
              have hgb : base.grownBy w9 none := gr_trans (gr_none H.out.g hgA) hg9 (fun g e => .inr (by have := (HO.out.1.lt e).1; omega))
              have hgs : w9.grownBy (w9.setCell ⟨ob, 0, none⟩ (.slice A9 (k + 1) c9)) (some ob) := gr_setCell (gr_refl _ _) (.inl rfl) _
              have HGF := Lib.hid (show base.grownBy (w9.setCell ⟨ob, 0, none⟩ (.slice A9 (k + 1) c9)) none from gr_trans hgb hgs (fun g e => .inr (by injection e with e; omega)))
              have s9 := (HS9.out.grown hgs (by intro e; injection e with e; exact hobs e.symm)).cell 3
              have HST := Lib.hid (show (⟨X0, x1, x2, J, X4, u5⟩ : ActV) = acV line → StA t base ob (k + 1) (w9.setCell ⟨ob, 0, none⟩ (.slice A9 (k + 1) c9)) from fun eq => by
                refine ⟨HGF.out, ?_, ?_, H.out.hob, H.out.hm, H.out.hp, A9, c9, HB9.out.set_ 0 _, ?_⟩
                · exact ((H.out.mx.grown hgA).low hg9 (fun g e => by have := (HO.out.1.lt e).1; have := H.out.hm; omega)).low hgs (fun g e => by injection e with e; have := H.out.hm; omega)
                · exact ((H.out.pw.grown hgA).low hg9 (fun g e => by have := (HO.out.1.lt e).1; have := H.out.hp; omega)).low hgs (fun g e => by injection e with e; have := H.out.hp; omega)
                · rw [HRV.out, ← eq]
                  exact ((HO.out.alloc _).app rfl H9.out).kept hgs (fun g e2 e3 => by injection e2 with e2; have := (H9.out.1.lt e3).1; omega))
              clear hg9 hgb hgs hgA o9 f9 zob zb zsb hbs hb1 hobs
              have hj2 : decide ((0 : Int) < J) = true := decide_eq_true (by have := HJ1.out; omega)
              cases NB0
              · have HF := Lib.hid (show aOk t k = false by rw [HOKB.out, HAB.out]; rfl)
                go_wp2_with fail
                go_ret
                exact ⟨by rw [HF.out]; try rfl, HGF.out, fun e => by rw [HF.out] at e; cases e⟩
              · cases NB4
                · have HF := Lib.hid (show aOk t k = false by rw [HOKB.out, HAB.out]; rw [if_pos HK1.out, decide_eq_true HM6.out]; rfl)
                  go_wp2_with fail
                  go_ret
                  exact ⟨by rw [HF.out]; try rfl, HGF.out, fun e => by rw [HF.out] at e; cases e⟩
                · have HF := Lib.hid (show aOk t k = true by rw [HOKB.out, HAB.out]; rw [if_pos HK1.out, decide_eq_true HM6.out]; rfl)
                  have HEQ := Lib.hid (show (⟨X0, x1, x2, J, X4, u5⟩ : ActV) = acV line from by rw [HAV.out, HX0V.out rfl, HX4V.out rfl, if_pos HK1.out, if_pos HK1.out, HK1.out, HJ1.out])
                  go_wp2_with fail
                  go_ret
                  exact ⟨by rw [HF.out]; try rfl, HGF.out, fun _ => HST.out HEQ.out⟩
            · have e6 : ((m : Int) == 6) = false := by rw [beq_eq_false_iff_ne]; omega
              have HF := Lib.hid (show aOk t k = false by rw [HOKB.out]; rw [HAB.out, if_pos HK1.out, decide_eq_false h6]; exact Bool.and_false _)
              go_wp2_with fail
              go_ret
              exact ⟨by rw [HF.out]; try rfl, gr_none H.out.g HGW.out, fun e => by rw [HF.out] at e; cases e⟩
          · have HK1 := Lib.hid hk1
            have d1 : (J == 1) = false := by rw [beq_eq_false_iff_ne]; intro e; have q := HJK.out; rw [e] at q; split at q <;> omega
            clear hk1
            obtain ⟨WM, hWM⟩ : ∃ v : World, v = wg := ⟨_, rfl⟩
            rw [← hWM] at HSB HGW s3 ⊢
            have HWM := Lib.hid hWM
            clear hWM
            replace H := Lib.hid (H.out.kept HGW.out)
            replace HOB := Lib.hid (HOB.out.grown HGW.out (by simp))
            replace HO := Lib.hid (HO.out.kept HGW.out (fun g e => by cases e))
            have zob := HOB.out.lt
            have zb := H.out.hob
            have zsb := HSB.out.lt
            have hbs := HBS.out
            have o0 := HOB.out.cell 0
            have hb1 : base.heap.size ≤ ob + 1 := by omega
            have hobs : ob ≠ sb := by have := HOL.out; omega
            go_upto_region 14 with (first
              | (refine wpl_load_all Tryz.acT rfl _ rfl _ rfl _ _ HSB.out rfl ?_)
              | (at_builtin; refine wpl_app _ rfl _ _ Tryz.acsT2 rfl (ob + 1) B k c _ rfl (by exact HO.out.1.alloc _) _ _ 1 1 [.int .i64 X0, .string x1, .string x2, .int .i64 J, .int .i64 0, .string ⟨#[]⟩] rfl (by exact Reads.one _ _ _ _ rfl) (by simp [Value.oneCell']) (by unfold maxLen; omega) (by omega) (by simp; omega) ?_; intro A9 c9 w9 h9; have HB9 := Lib.hid ((HOB.out.alloc _).grown h9.2.1 (by intro e; have := (HO.out.1.lt e.symm).1; omega)); have HS9 := Lib.hid ((HSB.out.alloc (.cells #[.int .i64 X0, .string x1, .string x2, .int .i64 J, .int .i64 0, .string ⟨#[]⟩] 56)).grown h9.2.1 (by intro e; have := hbs sb e.symm; omega)); have f9 := HB9.out.frozen 0; have o9 := HB9.out.cell 0; have H9 := Lib.hid h9; clear h9 o0)
              | fail)
            have hgA := gr_alloc (gr_refl WM none) (.cells #[.int .i64 X0, .string x1, .string x2, .int .i64 J, .int .i64 0, .string ⟨#[]⟩] 56)
            have hg9 := H9.out.2.1
            have hgb : base.grownBy w9 none := gr_trans (gr_none H.out.g hgA) hg9 (fun g e => .inr (by have := (HO.out.1.lt e).1; omega))
            have hgs : w9.grownBy (w9.setCell ⟨ob, 0, none⟩ (.slice A9 (k + 1) c9)) (some ob) := gr_setCell (gr_refl _ _) (.inl rfl) _
            have HGF := Lib.hid (show base.grownBy (w9.setCell ⟨ob, 0, none⟩ (.slice A9 (k + 1) c9)) none from gr_trans hgb hgs (fun g e => .inr (by injection e with e; omega)))
            have s9 := (HS9.out.grown hgs (by intro e; injection e with e; exact hobs e.symm)).cell 3
            have HST := Lib.hid (show (⟨X0, x1, x2, J, 0, ⟨#[]⟩⟩ : ActV) = acV line → StA t base ob (k + 1) (w9.setCell ⟨ob, 0, none⟩ (.slice A9 (k + 1) c9)) from fun eq => by
              refine ⟨HGF.out, ?_, ?_, H.out.hob, H.out.hm, H.out.hp, A9, c9, HB9.out.set_ 0 _, ?_⟩
              · exact ((H.out.mx.grown hgA).low hg9 (fun g e => by have := (HO.out.1.lt e).1; have := H.out.hm; omega)).low hgs (fun g e => by injection e with e; have := H.out.hm; omega)
              · exact ((H.out.pw.grown hgA).low hg9 (fun g e => by have := (HO.out.1.lt e).1; have := H.out.hp; omega)).low hgs (fun g e => by injection e with e; have := H.out.hp; omega)
              · rw [HRV.out, ← eq]
                exact ((HO.out.alloc _).app rfl H9.out).kept hgs (fun g e2 e3 => by injection e2 with e2; have := (H9.out.1.lt e3).1; omega))
            clear hg9 hgb hgs hgA o9 f9 zob zb zsb hbs hb1 hobs
            by_cases hm4 : m = 4
            · have e4 : ((m : Int) == 4) = true := by rw [beq_iff_eq]; omega
              by_cases hk : 0 < KD
              · have hj2 : decide ((0 : Int) < J) = true := decide_eq_true (by rw [HJK.out, if_neg (by omega)]; exact hk)
                have HK := Lib.hid hk; have HM4 := Lib.hid hm4
                have hJ := Lib.hid (show J = KD by rw [HJK.out, if_neg (by omega)])
                clear hk hm4
                cases NB0
                · have HF := Lib.hid (show aOk t k = false by rw [HOKB.out, HAB.out]; rfl)
                  go_wp2_with fail
                  go_ret
                  exact ⟨by rw [HF.out]; try rfl, HGF.out, fun e => by rw [HF.out] at e; cases e⟩
                · have HF := Lib.hid (show aOk t k = true by rw [HOKB.out, HAB.out]; rw [if_neg HK1.out, decide_eq_true HM4.out, decide_eq_true HK.out]; rfl)
                  have HEQ := Lib.hid (show (⟨X0, x1, x2, J, 0, ⟨#[]⟩⟩ : ActV) = acV line from by rw [HAV.out, HX0V.out rfl, if_neg HK1.out, if_neg HK1.out, hJ.out])
                  go_wp2_with fail
                  go_ret
                  exact ⟨by rw [HF.out]; try rfl, HGF.out, fun _ => HST.out HEQ.out⟩
              · have hj2 : decide ((0 : Int) < J) = false := decide_eq_false (by rw [HJK.out]; split <;> omega)
                have HK := Lib.hid hk; have HM4 := Lib.hid hm4
                clear hk hm4
                cases NB0
                · have HF := Lib.hid (show aOk t k = false by rw [HOKB.out, HAB.out]; rfl)
                  go_wp2_with fail
                  go_ret
                  exact ⟨by rw [HF.out]; try rfl, HGF.out, fun e => by rw [HF.out] at e; cases e⟩
                · have HF := Lib.hid (show aOk t k = false by rw [HOKB.out, HAB.out]; rw [if_neg HK1.out, decide_eq_false HK.out]; rfl)
                  go_wp2_with fail
                  go_ret
                  exact ⟨by rw [HF.out]; try rfl, HGF.out, fun e => by rw [HF.out] at e; cases e⟩
            · have e4 : ((m : Int) == 4) = false := by rw [beq_eq_false_iff_ne]; omega
              have HM4 := Lib.hid hm4
              clear hm4
              cases NB0
              · have HF := Lib.hid (show aOk t k = false by rw [HOKB.out, HAB.out]; rfl)
                go_wp2_with fail
                go_ret
                exact ⟨by rw [HF.out]; try rfl, HGF.out, fun e => by rw [HF.out] at e; cases e⟩
              · have HF := Lib.hid (show aOk t k = false by rw [HOKB.out, HAB.out]; rw [if_neg HK1.out, decide_eq_false HM4.out]; simp)
                go_wp2_with fail
                go_ret
                exact ⟨by rw [HF.out]; try rfl, HGF.out, fun e => by rw [HF.out] at e; cases e⟩
      · go_simp
        obtain ⟨wa, hwa⟩ : ∃ v, wd.alloc (.cells #[.int .i64 0, .string ⟨#[]⟩, .string ⟨#[]⟩, .int .i64 0, .int .i64 0, .string ⟨#[]⟩] 56) = v := ⟨_, rfl⟩
        obtain ⟨sb, hsb⟩ : ∃ b, wd.heap.size = b := ⟨_, rfl⟩
        have YZ := Lib.hid (show Blk wa sb 56 #[.int .i64 0, .string ⟨#[]⟩, .string ⟨#[]⟩, .int .i64 0, .int .i64 0, .string ⟨#[]⟩] by rw [← hwa, ← hsb]; exact Blk.new _ _ _)
        have hga : wd.grownBy wa none := by rw [← hwa]; exact gr_alloc (gr_refl _ _) _
        have hlsb : w4.heap.size ≤ sb := by rw [← hsb]; exact hHeld.size
        have hgz := gr_none hHeld hga
        (try rw [hwa])
        (try rw [hsb])
        refine hK _ _ hgz ?_
        clear hK K hHeld hwa hsb
        have hHeld := hgz
        clear hgz
        (try simp only [Act.put, List.setIfInBounds_toArray, List.set_cons_zero, List.set_cons_succ])
        clear hga
        refine H_run (k := 7) (by rfl) (by kernel_rfl) (by rfl) (fun K hK => ?_)
        go_simp
        refine (dWordsA_any _).mono ?_
        rintro e w5 ⟨rfl, hr5, hg5⟩
        have hgz := gr_none hHeld hg5
        refine hK _ _ hgz ?_
        clear hK K hHeld
        have hHeld := hgz
        have HW3 := Lib.hid hr5
        clear hr5 hgz
        (try simp only [Act.put, List.setIfInBounds_toArray, List.set_cons_zero, List.set_cons_succ])
        replace YZ := Lib.hid (YZ.out.grown hg5 (by simp))
        clear hg5
        refine H_run (k := 11) (by rfl) (by kernel_rfl) (by rfl) (fun K hK => ?_)
        go_simp
        refine same_calls (index_any _ 6 W6a x3 _ _ HW3.out (by omega)) ?_
        rw [HJ.out]
        refine hK _ _ hHeld ?_
        clear hK K
        (try simp only [Act.put, List.setIfInBounds_toArray, List.set_cons_zero, List.set_cons_succ])
        refine H_take (k := 12) (v := ?_) (by rfl) (by kernel_rfl) (by kernel_rfl) (by kernel_rfl) (by exact fun _ _ _ h => h) (by rfl) ?_ (by assumption) ?_
        rotate_left 1
        · intro w hSw
          (try dsimp only at hSw)
          go_simp
          (try with_reducible rfl)
        (try simp only [Act.put, List.setIfInBounds_toArray, List.set_cons_zero, List.set_cons_succ])
        refine H_run (k := 14) (by rfl) (by kernel_rfl) (by rfl) (fun K hK => ?_)
        refine wp_store_all Tryz.acT _ _ (by rfl) sb (by rfl) 56 _ #[.int .i64 X0, .string x1, .string x2, .int .i64 J, .int .i64 0, .string ⟨#[]⟩] (by rfl) YZ.out rfl rfl (by simp [Value.oneCell']) ?_
        intro wg hwg
        have hgg : w4.grownBy wg none := gr_trans hHeld hwg.2.1 (fun g e => .inr (by injection e with e; omega))
        refine hK _ _ hgg ?_
        have HSB := Lib.hid hwg.1
        clear hK K hwg YZ hHeld
        (try simp only [Act.put, List.setIfInBounds_toArray, List.set_cons_zero, List.set_cons_succ])
        refine H_done (by kernel_rfl) ?_
        have HGW := Lib.hid hgg
        clear hgg HW3
        have s3 := HSB.out.cell 3
        by_cases hk1 : KD = 1
        · have HK1 := Lib.hid hk1
          have hj1 : J = 1 := by rw [HJK.out, hk1]; rfl
          have HJ1 := Lib.hid hj1
          have d1 : (J == 1) = true := by rw [beq_iff_eq]; exact hj1
          clear hk1 hj1
          by_cases h6 : m = 6
          · have m4 : (4 : Int) < (m : Int) := by omega
            have m5 : (5 : Int) < (m : Int) := by omega
            obtain ⟨x4, hx4⟩ : ∃ x, pcAt line 4 = x := ⟨_, rfl⟩
            obtain ⟨x5, hx5⟩ : ∃ x, pcAt line 5 = x := ⟨_, rfl⟩
            have HX4 := Lib.hid (show (pieces line)[4]? = some x4 by rw [← hx4]; exact pc_get (by rw [HMM.out]; omega))
            have HX5 := Lib.hid (show (pieces line)[5]? = some x5 by rw [← hx5]; exact pc_get (by rw [HMM.out]; omega))
            have hs4 : x4.size ≤ 1000000 := by rw [← hx4]; have := pc_size (s := line) 4; omega
            rw [hx4] at HAB HAV
            rw [hx5] at HAV
            obtain ⟨NB4, hNB4⟩ : ∃ b, numB x4.data.toList 15 = b := ⟨_, rfl⟩
            rw [hNB4] at HAB
            have HN4 := Lib.hid hNB4
            have e6 : ((m : Int) == 6) = true := by rw [beq_iff_eq]; omega
            have HM6 := Lib.hid h6
            clear hx4 hx5 hNB4 h6
            have c4 := (HRX.out.grown HGW.out (fun g e => by cases e)).at_ srow_len (i := 4) (a := x4) HX4.out 0 _ rfl
            simp only [Nat.mul_one, Nat.add_zero, Nat.zero_add, Nat.one_mul] at c4
            go_wp2_with fail
            refine (dNumber_any x4 15 _ hs4 (by omega) (H.out.pw.grown HGW.out)).mono ?_
            rintro e w6 ⟨X4, rfl, b4a, b4b, hx4, hg6⟩
            rw [HN4.out] at hx4 ⊢
            have HX4V := Lib.hid hx4
            replace HSB := Lib.hid (HSB.out.grown hg6 (by simp))
            replace HGW := Lib.hid (gr_none HGW.out hg6)
            clear hg6 hx4 c4 s3
            have f4 := HSB.out.frozen 4
            have o4 := HSB.out.cell 4
            obtain ⟨w7, hw7⟩ : ∃ v, w6.setCell ⟨sb, 4, none⟩ (.int .i64 X4) = v := ⟨_, rfl⟩
            have HS7 := Lib.hid (show Blk w7 sb 56 #[.int .i64 X0, .string x1, .string x2, .int .i64 J, .int .i64 X4, .string ⟨#[]⟩] by rw [← hw7]; exact HSB.out.set_ 4 _)
            have HGW7 := Lib.hid (show w4.grownBy w7 none by rw [← hw7]; exact gr_setCell HGW.out (.inr hlsb) _)
            have HW7 := Lib.hid hw7
            clear hw7
            go_upto_region 12 with (fail)
            (try rw [HW7.out])
            clear HW7 f4 o4 HSB HGW
            have HSB := HS7
            have HGW := HGW7
            clear HS7 HGW7
            have c5 := (HRX.out.grown HGW.out (fun g e => by cases e)).at_ srow_len (i := 5) (a := x5) HX5.out 0 _ rfl
            simp only [Nat.mul_one, Nat.add_zero, Nat.zero_add, Nat.one_mul] at c5
            go_wp2_with fail
            refine same_calls (undash_any x5 _) ?_
            obtain ⟨u5, hu5⟩ : ∃ u, undS x5 = u := ⟨_, rfl⟩
            rw [hu5] at HAV ⊢
            have f5 := HSB.out.frozen 5
            have o5 := HSB.out.cell 5
            obtain ⟨WM, hw8⟩ : ∃ v, w7.setCell ⟨sb, 5, none⟩ (.string u5) = v := ⟨_, rfl⟩
            have HS8 := Lib.hid (show Blk WM sb 56 #[.int .i64 X0, .string x1, .string x2, .int .i64 J, .int .i64 X4, .string u5] by rw [← hw8]; exact HSB.out.set_ 5 _)
            have HGW8 := Lib.hid (show w4.grownBy WM none by rw [← hw8]; exact gr_setCell HGW.out (.inr hlsb) _)
            have HW8 := Lib.hid hw8
            clear hw8 hu5 c5
            go_upto_region 13 with (fail)
            (try rw [HW8.out])
            clear HW8 f5 o5 HSB HGW
            have HSB := HS8
            have HGW := HGW8
            clear HS8 HGW8
            replace H := Lib.hid (H.out.kept HGW.out)
            replace HOB := Lib.hid (HOB.out.grown HGW.out (by simp))
            replace HO := Lib.hid (HO.out.kept HGW.out (fun g e => by cases e))
            have zob := HOB.out.lt
            have zb := H.out.hob
            have zsb := HSB.out.lt
            have hbs := HBS.out
            have o0 := HOB.out.cell 0
            have hb1 : base.heap.size ≤ ob + 1 := by omega
            have hobs : ob ≠ sb := by have := HOL.out; omega
            go_upto_region 14 with (first
              | (refine wpl_load_all Tryz.acT rfl _ rfl _ rfl _ _ HSB.out rfl ?_)
              | (at_builtin; refine wpl_app _ rfl _ _ Tryz.acsT2 rfl (ob + 1) B k c _ rfl (by exact HO.out.1.alloc _) _ _ 1 1 [.int .i64 X0, .string x1, .string x2, .int .i64 J, .int .i64 X4, .string u5] rfl (by exact Reads.one _ _ _ _ rfl) (by simp [Value.oneCell']) (by unfold maxLen; omega) (by omega) (by simp; omega) ?_; intro A9 c9 w9 h9; have HB9 := Lib.hid ((HOB.out.alloc _).grown h9.2.1 (by intro e; have := (HO.out.1.lt e.symm).1; omega)); have HS9 := Lib.hid ((HSB.out.alloc (.cells #[.int .i64 X0, .string x1, .string x2, .int .i64 J, .int .i64 X4, .string u5] 56)).grown h9.2.1 (by intro e; have := hbs sb e.symm; omega)); have f9 := HB9.out.frozen 0; have o9 := HB9.out.cell 0; have H9 := Lib.hid h9; clear h9 o0)
              | fail)
            have hgA := gr_alloc (gr_refl WM none) (.cells #[.int .i64 X0, .string x1, .string x2, .int .i64 J, .int .i64 X4, .string u5] 56)
            have hg9 := H9.out.2.1
            have hgb : base.grownBy w9 none := gr_trans (gr_none H.out.g hgA) hg9 (fun g e => .inr (by have := (HO.out.1.lt e).1; omega))
            have hgs : w9.grownBy (w9.setCell ⟨ob, 0, none⟩ (.slice A9 (k + 1) c9)) (some ob) := gr_setCell (gr_refl _ _) (.inl rfl) _
            have HGF := Lib.hid (show base.grownBy (w9.setCell ⟨ob, 0, none⟩ (.slice A9 (k + 1) c9)) none from gr_trans hgb hgs (fun g e => .inr (by injection e with e; omega)))
            have s9 := (HS9.out.grown hgs (by intro e; injection e with e; exact hobs e.symm)).cell 3
            have HST := Lib.hid (show (⟨X0, x1, x2, J, X4, u5⟩ : ActV) = acV line → StA t base ob (k + 1) (w9.setCell ⟨ob, 0, none⟩ (.slice A9 (k + 1) c9)) from fun eq => by
              refine ⟨HGF.out, ?_, ?_, H.out.hob, H.out.hm, H.out.hp, A9, c9, HB9.out.set_ 0 _, ?_⟩
              · exact ((H.out.mx.grown hgA).low hg9 (fun g e => by have := (HO.out.1.lt e).1; have := H.out.hm; omega)).low hgs (fun g e => by injection e with e; have := H.out.hm; omega)
              · exact ((H.out.pw.grown hgA).low hg9 (fun g e => by have := (HO.out.1.lt e).1; have := H.out.hp; omega)).low hgs (fun g e => by injection e with e; have := H.out.hp; omega)
              · rw [HRV.out, ← eq]
                exact ((HO.out.alloc _).app rfl H9.out).kept hgs (fun g e2 e3 => by injection e2 with e2; have := (H9.out.1.lt e3).1; omega))
            clear hg9 hgb hgs hgA o9 f9 zob zb zsb hbs hb1 hobs
            have hj2 : decide ((0 : Int) < J) = true := decide_eq_true (by have := HJ1.out; omega)
            cases NB0
            · have HF := Lib.hid (show aOk t k = false by rw [HOKB.out, HAB.out]; rfl)
              go_wp2_with fail
              go_ret
              exact ⟨by rw [HF.out]; try rfl, HGF.out, fun e => by rw [HF.out] at e; cases e⟩
            · cases NB4
              · have HF := Lib.hid (show aOk t k = false by rw [HOKB.out, HAB.out]; rw [if_pos HK1.out, decide_eq_true HM6.out]; rfl)
                go_wp2_with fail
                go_ret
                exact ⟨by rw [HF.out]; try rfl, HGF.out, fun e => by rw [HF.out] at e; cases e⟩
              · have HF := Lib.hid (show aOk t k = true by rw [HOKB.out, HAB.out]; rw [if_pos HK1.out, decide_eq_true HM6.out]; rfl)
                have HEQ := Lib.hid (show (⟨X0, x1, x2, J, X4, u5⟩ : ActV) = acV line from by rw [HAV.out, HX0V.out rfl, HX4V.out rfl, if_pos HK1.out, if_pos HK1.out, HK1.out, HJ1.out])
                go_wp2_with fail
                go_ret
                exact ⟨by rw [HF.out]; try rfl, HGF.out, fun _ => HST.out HEQ.out⟩
          · have e6 : ((m : Int) == 6) = false := by rw [beq_eq_false_iff_ne]; omega
            have HF := Lib.hid (show aOk t k = false by rw [HOKB.out]; rw [HAB.out, if_pos HK1.out, decide_eq_false h6]; exact Bool.and_false _)
            go_wp2_with fail
            go_ret
            exact ⟨by rw [HF.out]; try rfl, gr_none H.out.g HGW.out, fun e => by rw [HF.out] at e; cases e⟩
        · have HK1 := Lib.hid hk1
          have d1 : (J == 1) = false := by rw [beq_eq_false_iff_ne]; intro e; have q := HJK.out; rw [e] at q; split at q <;> omega
          clear hk1
          obtain ⟨WM, hWM⟩ : ∃ v : World, v = wg := ⟨_, rfl⟩
          rw [← hWM] at HSB HGW s3 ⊢
          have HWM := Lib.hid hWM
          clear hWM
          replace H := Lib.hid (H.out.kept HGW.out)
          replace HOB := Lib.hid (HOB.out.grown HGW.out (by simp))
          replace HO := Lib.hid (HO.out.kept HGW.out (fun g e => by cases e))
          have zob := HOB.out.lt
          have zb := H.out.hob
          have zsb := HSB.out.lt
          have hbs := HBS.out
          have o0 := HOB.out.cell 0
          have hb1 : base.heap.size ≤ ob + 1 := by omega
          have hobs : ob ≠ sb := by have := HOL.out; omega
          go_upto_region 14 with (first
            | (refine wpl_load_all Tryz.acT rfl _ rfl _ rfl _ _ HSB.out rfl ?_)
            | (at_builtin; refine wpl_app _ rfl _ _ Tryz.acsT2 rfl (ob + 1) B k c _ rfl (by exact HO.out.1.alloc _) _ _ 1 1 [.int .i64 X0, .string x1, .string x2, .int .i64 J, .int .i64 0, .string ⟨#[]⟩] rfl (by exact Reads.one _ _ _ _ rfl) (by simp [Value.oneCell']) (by unfold maxLen; omega) (by omega) (by simp; omega) ?_; intro A9 c9 w9 h9; have HB9 := Lib.hid ((HOB.out.alloc _).grown h9.2.1 (by intro e; have := (HO.out.1.lt e.symm).1; omega)); have HS9 := Lib.hid ((HSB.out.alloc (.cells #[.int .i64 X0, .string x1, .string x2, .int .i64 J, .int .i64 0, .string ⟨#[]⟩] 56)).grown h9.2.1 (by intro e; have := hbs sb e.symm; omega)); have f9 := HB9.out.frozen 0; have o9 := HB9.out.cell 0; have H9 := Lib.hid h9; clear h9 o0)
            | fail)
          have hgA := gr_alloc (gr_refl WM none) (.cells #[.int .i64 X0, .string x1, .string x2, .int .i64 J, .int .i64 0, .string ⟨#[]⟩] 56)
          have hg9 := H9.out.2.1
          have hgb : base.grownBy w9 none := gr_trans (gr_none H.out.g hgA) hg9 (fun g e => .inr (by have := (HO.out.1.lt e).1; omega))
          have hgs : w9.grownBy (w9.setCell ⟨ob, 0, none⟩ (.slice A9 (k + 1) c9)) (some ob) := gr_setCell (gr_refl _ _) (.inl rfl) _
          have HGF := Lib.hid (show base.grownBy (w9.setCell ⟨ob, 0, none⟩ (.slice A9 (k + 1) c9)) none from gr_trans hgb hgs (fun g e => .inr (by injection e with e; omega)))
          have s9 := (HS9.out.grown hgs (by intro e; injection e with e; exact hobs e.symm)).cell 3
          have HST := Lib.hid (show (⟨X0, x1, x2, J, 0, ⟨#[]⟩⟩ : ActV) = acV line → StA t base ob (k + 1) (w9.setCell ⟨ob, 0, none⟩ (.slice A9 (k + 1) c9)) from fun eq => by
            refine ⟨HGF.out, ?_, ?_, H.out.hob, H.out.hm, H.out.hp, A9, c9, HB9.out.set_ 0 _, ?_⟩
            · exact ((H.out.mx.grown hgA).low hg9 (fun g e => by have := (HO.out.1.lt e).1; have := H.out.hm; omega)).low hgs (fun g e => by injection e with e; have := H.out.hm; omega)
            · exact ((H.out.pw.grown hgA).low hg9 (fun g e => by have := (HO.out.1.lt e).1; have := H.out.hp; omega)).low hgs (fun g e => by injection e with e; have := H.out.hp; omega)
            · rw [HRV.out, ← eq]
              exact ((HO.out.alloc _).app rfl H9.out).kept hgs (fun g e2 e3 => by injection e2 with e2; have := (H9.out.1.lt e3).1; omega))
          clear hg9 hgb hgs hgA o9 f9 zob zb zsb hbs hb1 hobs
          by_cases hm4 : m = 4
          · have e4 : ((m : Int) == 4) = true := by rw [beq_iff_eq]; omega
            by_cases hk : 0 < KD
            · have hj2 : decide ((0 : Int) < J) = true := decide_eq_true (by rw [HJK.out, if_neg (by omega)]; exact hk)
              have HK := Lib.hid hk; have HM4 := Lib.hid hm4
              have hJ := Lib.hid (show J = KD by rw [HJK.out, if_neg (by omega)])
              clear hk hm4
              cases NB0
              · have HF := Lib.hid (show aOk t k = false by rw [HOKB.out, HAB.out]; rfl)
                go_wp2_with fail
                go_ret
                exact ⟨by rw [HF.out]; try rfl, HGF.out, fun e => by rw [HF.out] at e; cases e⟩
              · have HF := Lib.hid (show aOk t k = true by rw [HOKB.out, HAB.out]; rw [if_neg HK1.out, decide_eq_true HM4.out, decide_eq_true HK.out]; rfl)
                have HEQ := Lib.hid (show (⟨X0, x1, x2, J, 0, ⟨#[]⟩⟩ : ActV) = acV line from by rw [HAV.out, HX0V.out rfl, if_neg HK1.out, if_neg HK1.out, hJ.out])
                go_wp2_with fail
                go_ret
                exact ⟨by rw [HF.out]; try rfl, HGF.out, fun _ => HST.out HEQ.out⟩
            · have hj2 : decide ((0 : Int) < J) = false := decide_eq_false (by rw [HJK.out]; split <;> omega)
              have HK := Lib.hid hk; have HM4 := Lib.hid hm4
              clear hk hm4
              cases NB0
              · have HF := Lib.hid (show aOk t k = false by rw [HOKB.out, HAB.out]; rfl)
                go_wp2_with fail
                go_ret
                exact ⟨by rw [HF.out]; try rfl, HGF.out, fun e => by rw [HF.out] at e; cases e⟩
              · have HF := Lib.hid (show aOk t k = false by rw [HOKB.out, HAB.out]; rw [if_neg HK1.out, decide_eq_false HK.out]; rfl)
                go_wp2_with fail
                go_ret
                exact ⟨by rw [HF.out]; try rfl, HGF.out, fun e => by rw [HF.out] at e; cases e⟩
          · have e4 : ((m : Int) == 4) = false := by rw [beq_eq_false_iff_ne]; omega
            have HM4 := Lib.hid hm4
            clear hm4
            cases NB0
            · have HF := Lib.hid (show aOk t k = false by rw [HOKB.out, HAB.out]; rfl)
              go_wp2_with fail
              go_ret
              exact ⟨by rw [HF.out]; try rfl, HGF.out, fun e => by rw [HF.out] at e; cases e⟩
            · have HF := Lib.hid (show aOk t k = false by rw [HOKB.out, HAB.out]; rw [if_neg HK1.out, decide_eq_false HM4.out]; simp)
              go_wp2_with fail
              go_ret
              exact ⟨by rw [HF.out]; try rfl, HGF.out, fun e => by rw [HF.out] at e; cases e⟩
    · have d4 : decide ((m : Int) < 4) = true := decide_eq_true (by omega)
      have HF := Lib.hid (show aOk t k = false by rw [HOKB.out]; unfold acB; rw [HMM.out, decide_eq_false h4]; cases okW line <;> rfl)
      go_wp2_with fail
      go_ret
      exact ⟨by rw [HF.out]; try rfl, H.out.g, fun e => by rw [HF.out] at e; cases e⟩
end Go.Proofs.YtgogiljplnninaaGreatDoor

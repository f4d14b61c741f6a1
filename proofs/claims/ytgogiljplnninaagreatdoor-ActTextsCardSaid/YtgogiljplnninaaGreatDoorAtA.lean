/- Contracts of readAct and of the program's closure that reads a line of acts. Conditions: a line of bounded length; bytealg.MaxLen holds some number. -/
import Derived.Test.YtgogiljplnninaaGreatDoorBun3
import Derived.Test.YtgogiljplnninaaGreatDoorBun4
namespace Go.Proofs.YtgogiljplnninaaGreatDoor
open Go.RowKit

/-! The line of an act. -/
def acB (s : ByteArray) : Bool := okW s && (decide (4 ≤ (pieces s).length) && (numB (pcAt s 0).data.toList 15 && (if wdN W5a (pcAt s 3) = 1 then decide ((pieces s).length = 6) && numB (pcAt s 4).data.toList 15 else decide (0 < wdN W5a (pcAt s 3)) && decide ((pieces s).length = 4))))
def acV (s : ByteArray) : ActV := ⟨numN (pcAt s 0).data.toList, pcAt s 1, pcAt s 2, wdN W5a (pcAt s 3), if wdN W5a (pcAt s 3) = 1 then numN (pcAt s 4).data.toList else 0, if wdN W5a (pcAt s 3) = 1 then undS (pcAt s 5) else ⟨#[]⟩⟩
def ReadA (s : ByteArray) (w : World) (e : Ending) (w' : World) : Prop := ∃ R : ActV, e = .returned (.tuple #[.agg #[.int .i64 R.at_, .string R.bx, .string R.id, .int .i64 R.kd, .int .i64 R.lg, .string R.frm], .bool (acB s)]) ∧ (acB s = true → R = acV s) ∧ w.grownBy w' none
/-- A row of records stays where another block is written. -/
theorem recs_far {α : Type} {row : α → List Value} {k : Nat} {w w' : World} {lo g o n c b : Nat} {l : List α} (h : Recs row k w lo (some ⟨g, o, none⟩) n c l) (hg : w.grownBy w' (some b)) (hne : g ≠ b) : Recs row k w' lo (some ⟨g, o, none⟩) n c l := by
  obtain ⟨⟨h1, h2, h3⟩, h4⟩ := h
  refine ⟨⟨h1, h2, fun h0 => ?_⟩, h4⟩
  obtain ⟨g', o', e, q1, q2, q3⟩ := h3 h0
  injection e with e
  injection e with e1 e2
  subst e1; subst e2
  refine ⟨_, _, rfl, q1, Nat.lt_of_lt_of_le q2 hg.size, fun j u hu => ?_⟩
  exact hg.cell (q3 j u hu) (by simpa using hne)
set_option maxHeartbeats 8000000 in
set_option maxRecDepth 100000 in
theorem readAct_any (s : ByteArray) (w : World) (hs : s.size ≤ 1000000) (hm : MxT w) :
    Calls Tryz.prog 90 #[.string s] w (ReadA s w) := by
  obtain ⟨w0, hw0⟩ : ∃ v, w.alloc (.cells #[.int .i64 0, .string ⟨#[]⟩, .string ⟨#[]⟩, .int .i64 0, .int .i64 0, .string ⟨#[]⟩] 56) = v := ⟨_, rfl⟩
  obtain ⟨rb, hrb⟩ : ∃ b, w.heap.size = b := ⟨_, rfl⟩
  have HR0 := Lib.hid (show Blk w0 rb 56 #[.int .i64 0, .string ⟨#[]⟩, .string ⟨#[]⟩, .int .i64 0, .int .i64 0, .string ⟨#[]⟩] by rw [← hw0, ← hrb]; exact Blk.new _ _ _)
  have HG := Lib.hid (show w.grownBy w0 none by rw [← hw0]; exact gr_alloc (gr_refl _ _) _)
  have HRB := Lib.hid (show w.heap.size ≤ rb by rw [hrb]; exact Nat.le_refl _)
  have HW0 := Lib.hid hw0; have HZ0 := Lib.hid hrb
  have HM := Lib.hid hm
  clear hw0 hrb hm
  go_enter Tryz.func90, Tryz.ntmps90
  go_upto_region 1 with (fail)
  rw [HW0.out]
  (try rw [HZ0.out])
  clear HW0 HZ0
  go_wp2_with fail
  refine (pWords_any s _ hs (HM.out.grown HG.out)).mono ?_
  rintro e w1 ⟨hg1, hcase⟩
  replace HG := Lib.hid (gr_none HG.out hg1)
  replace HR0 := Lib.hid (HR0.out.grown hg1 (by simp))
  (try replace HRX := Lib.hid (HRX.out.grown hg1 (fun g e => by cases e)))
  obtain ⟨lo, hlo⟩ : ∃ b, w0.heap.size = b := ⟨_, rfl⟩
  rw [hlo] at hcase
  clear hg1 hlo
  obtain ⟨m, hm⟩ : ∃ m, (pieces s).length = m := ⟨_, rfl⟩
  have HMM := Lib.hid hm
  rw [hm] at hcase
  rcases hcase with ⟨hok, B, rfl, hrec⟩ | ⟨hno, rfl⟩
  · have HOK := Lib.hid hok
    clear hok
    by_cases h4 : 4 ≤ m
    · have d4 : decide ((m : Int) < 4) = false := decide_eq_false (by omega)
      obtain ⟨bg, bo, _, hB, _, hbg, _⟩ := hrec.get srow_len (show 0 < m by omega)
      injection hB with hB
      subst hB
      have HRX := Lib.hid hrec
      have hbg2 := Lib.hid hbg
      obtain ⟨x0, hx0⟩ : ∃ x, pcAt s 0 = x := ⟨_, rfl⟩
      obtain ⟨x1, hx1⟩ : ∃ x, pcAt s 1 = x := ⟨_, rfl⟩
      obtain ⟨x2, hx2⟩ : ∃ x, pcAt s 2 = x := ⟨_, rfl⟩
      obtain ⟨x3, hx3⟩ : ∃ x, pcAt s 3 = x := ⟨_, rfl⟩
      have HX0 := Lib.hid (show (pieces s)[0]? = some x0 by rw [← hx0]; exact pc_get (by omega))
      have HX1 := Lib.hid (show (pieces s)[1]? = some x1 by rw [← hx1]; exact pc_get (by omega))
      have HX2 := Lib.hid (show (pieces s)[2]? = some x2 by rw [← hx2]; exact pc_get (by omega))
      have HX3 := Lib.hid (show (pieces s)[3]? = some x3 by rw [← hx3]; exact pc_get (by omega))
      have hs0 : x0.size ≤ 1000000 := by rw [← hx0]; have := pc_size (s := s) 0; omega
      obtain ⟨NB0, hNB0⟩ : ∃ b, numB x0.data.toList 15 = b := ⟨_, rfl⟩
      obtain ⟨KD, hKD⟩ : ∃ k, wdN W5a x3 = k := ⟨_, rfl⟩
      obtain ⟨J, hJ⟩ : ∃ J, Lib.idxOfS W5a x3 = J := ⟨_, rfl⟩
      have hk5 : KD ≤ 5 := by rw [← hKD]; exact (wd_cases W5a x3).2.1
      have hk0 : 0 ≤ KD := by rw [← hKD]; exact (wd_cases W5a x3).1
      have hJK : J + 1 = KD := by rw [← hJ, ← hKD]; rfl
      have qj : IntKind.i64.wrap (J + 1) = KD := by rw [IntWalk.i64_in _ (by omega)]; exact hJK
      have HAB := Lib.hid (show acB s = (NB0 && (if KD = 1 then decide (m = 6) && numB (pcAt s 4).data.toList 15 else decide (0 < KD) && decide (m = 4))) by
        unfold acB; rw [HOK.out, hm, decide_eq_true h4, hx0, hNB0, hx3, hKD]; rfl)
      have HAV := Lib.hid (show acV s = ⟨numN x0.data.toList, x1, x2, KD, if KD = 1 then numN (pcAt s 4).data.toList else 0, if KD = 1 then undS (pcAt s 5) else ⟨#[]⟩⟩ by unfold acV; rw [hx0, hx1, hx2, hx3, hKD])
      obtain ⟨NV0, hNV0⟩ : ∃ v, numV x0.data.toList 15 = v := ⟨_, rfl⟩
      have HNV := Lib.hid (show NB0 = true → NV0 = numN x0.data.toList from fun h => by rw [← hNV0]; unfold numV; rw [hNB0, h, if_pos rfl])
      have HNB := Lib.hid hNB0; have HNW := Lib.hid hNV0; have HJ := Lib.hid hJ
      have m0 : (0 : Int) < (m : Int) := by omega
      have m1 : (1 : Int) < (m : Int) := by omega
      have m2 : (2 : Int) < (m : Int) := by omega
      have m3 : (3 : Int) < (m : Int) := by omega
      clear hrec hbg hx0 hx1 hx2 hx3 hNB0 hKD hJ hJK hNV0 hm
      have c0 := HRX.out.at_ srow_len (i := 0) (a := x0) HX0.out 0 _ rfl
      simp only [Nat.mul_one, Nat.add_zero, Nat.zero_add, Nat.one_mul] at c0
      go_wp2_with fail
      refine (pNumber_any x0 15 _ hs0 (by omega)).mono ?_
      rintro e w2 ⟨rfl, hg2⟩
      rw [HNB.out, HNW.out]
      replace HG := Lib.hid (gr_none HG.out hg2)
      replace HR0 := Lib.hid (HR0.out.grown hg2 (by simp))
      (try replace HRX := Lib.hid (HRX.out.grown hg2 (fun g e => by cases e)))
      have z2 := hg2.size
      clear hg2 c0 d4
      go_upto_region 5 with (fail)
      refine H_begin (fun w' => w2.grownBy w' none) (by kernel_rfl) ?_
      have hHeld : w2.grownBy w2.drew none := gr_drew (gr_refl _ _)
      refine H_take (k := 1) (v := ?_) (by rfl) (by kernel_rfl) (by kernel_rfl) (by kernel_rfl) (by exact fun _ _ _ h => h) (by rfl) ?_ (by assumption) ?_
      rotate_left 1
      · intro w hSw
        (try dsimp only at hSw)
        go_simp
        (try with_reducible rfl)
      (try simp only [Act.put, List.setIfInBounds_toArray, List.set_cons_zero, List.set_cons_succ])
      refine H_take (k := 2) (v := ?_) (by rfl) (by kernel_rfl) (by kernel_rfl) (by kernel_rfl) (by exact fun _ _ _ h => h) (by rfl) ?_ (by assumption) ?_
      rotate_left 1
      · intro w hSw
        (try dsimp only at hSw)
        go_simp
        (try with_reducible rfl)
      (try simp only [Act.put, List.setIfInBounds_toArray, List.set_cons_zero, List.set_cons_succ])
      refine H_take (k := 3) (v := ?_) (by rfl) (by kernel_rfl) (by kernel_rfl) (by kernel_rfl) (by exact fun _ _ _ h => h) (by rfl) ?_ (by assumption) ?_
      rotate_left 1
      · intro w' hSw
        have kc := (HRX.out.grown hSw (fun g e => by cases e)).at_ srow_len (i := 3) (a := x3) HX3.out 0 _ rfl
        simp only [Nat.mul_one, Nat.add_zero, Nat.zero_add, Nat.one_mul] at kc
        go_simp
        (try with_reducible rfl)
      (try simp only [Act.put, List.setIfInBounds_toArray, List.set_cons_zero, List.set_cons_succ])
      refine H_run (k := 0) (by rfl) (by kernel_rfl) (by rfl) (fun K hK => ?_)
      go_simp
      refine (pWordsA_any _).mono ?_
      rintro e w3 ⟨rfl, hr3, hg3⟩
      have hgz : w2.grownBy w3 none := gr_none hHeld hg3
      refine hK _ _ hgz ?_
      clear hK K hHeld
      have hHeld := hgz
      have HW3 := Lib.hid hr3
      clear hr3 hg3
      (try simp only [Act.put, List.setIfInBounds_toArray, List.set_cons_zero, List.set_cons_succ])
      refine H_run (k := 4) (by rfl) (by kernel_rfl) (by rfl) (fun K hK => ?_)
      go_simp
      refine (index_any _ 5 W5a x3 _ _ HW3.out (by omega)).mono ?_
      rintro e w4 ⟨rfl, rfl⟩
      rw [HJ.out]
      refine hK _ _ hgz ?_
      clear hK K
      (try simp only [Act.put, List.setIfInBounds_toArray, List.set_cons_zero, List.set_cons_succ])
      refine H_take (k := 5) (v := ?_) (by rfl) (by kernel_rfl) (by kernel_rfl) (by kernel_rfl) (by exact fun _ _ _ h => h) (by rfl) ?_ (by assumption) ?_
      rotate_left 1
      · intro w hSw
        (try dsimp only at hSw)
        go_simp
        (try with_reducible rfl)
      (try simp only [Act.put, List.setIfInBounds_toArray, List.set_cons_zero, List.set_cons_succ])
      refine H_take (k := 6) (v := ?_) (by rfl) (by kernel_rfl) (by kernel_rfl) (by kernel_rfl) (by exact fun _ _ _ h => h) (by rfl) ?_ (by assumption) ?_
      rotate_left 1
      · intro w hSw
        (try dsimp only at hSw)
        go_simp
        (try with_reducible rfl)
      (try simp only [Act.put, List.setIfInBounds_toArray, List.set_cons_zero, List.set_cons_succ])
      refine H_done (by kernel_rfl) ?_
      replace HG := Lib.hid (gr_none HG.out hgz)
      replace HR0 := Lib.hid (HR0.out.grown hgz (by simp))
      (try replace HRX := Lib.hid (HRX.out.grown hgz (fun g e => by cases e)))
      have z3 := hgz.size
      clear hHeld hgz HW3 qj
      go_upto_region 6 with (fail)
      obtain ⟨w5, rfl⟩ : ∃ w5 : World, w5 = w3 := ⟨_, rfl⟩
      refine H_begin (fun w' => w5.grownBy w' none) (by kernel_rfl) ?_
      have hHeld : w5.grownBy w5.drew none := gr_drew (gr_refl _ _)
      generalize w5.drew = wd at hHeld ⊢
      refine H_take (k := 0) (v := ?_) (by rfl) (by kernel_rfl) (by kernel_rfl) (by kernel_rfl) (by exact fun _ _ _ h => h) (by rfl) ?_ (by assumption) ?_
      rotate_left 1
      · intro w hSw
        (try dsimp only at hSw)
        go_simp
        (try with_reducible rfl)
      (try simp only [Act.put, List.setIfInBounds_toArray, List.set_cons_zero, List.set_cons_succ])
      refine H_take (k := 1) (v := ?_) (by rfl) (by kernel_rfl) (by kernel_rfl) (by kernel_rfl) (by exact fun _ _ _ h => h) (by rfl) ?_ (by assumption) ?_
      rotate_left 1
      · intro w hSw
        (try dsimp only at hSw)
        go_simp
        (try with_reducible rfl)
      (try simp only [Act.put, List.setIfInBounds_toArray, List.set_cons_zero, List.set_cons_succ])
      refine H_take (k := 2) (v := ?_) (by rfl) (by kernel_rfl) (by kernel_rfl) (by kernel_rfl) (by exact fun _ _ _ h => h) (by rfl) ?_ (by assumption) ?_
      rotate_left 1
      · intro w hSw
        (try dsimp only at hSw)
        go_simp
        (try with_reducible rfl)
      (try simp only [Act.put, List.setIfInBounds_toArray, List.set_cons_zero, List.set_cons_succ])
      refine H_take (k := 3) (v := ?_) (by rfl) (by kernel_rfl) (by kernel_rfl) (by kernel_rfl) (by exact fun _ _ _ h => h) (by rfl) ?_ (by assumption) ?_
      rotate_left 1
      · intro w' hSw
        have kc := (HRX.out.grown hSw (fun g e => by cases e)).at_ srow_len (i := 1) (a := x1) HX1.out 0 _ rfl
        simp only [Nat.mul_one, Nat.add_zero, Nat.zero_add, Nat.one_mul] at kc
        go_simp
        (try with_reducible rfl)
      (try simp only [Act.put, List.setIfInBounds_toArray, List.set_cons_zero, List.set_cons_succ])
      refine H_take (k := 4) (v := ?_) (by rfl) (by kernel_rfl) (by kernel_rfl) (by kernel_rfl) (by exact fun _ _ _ h => h) (by rfl) ?_ (by assumption) ?_
      rotate_left 1
      · intro w hSw
        (try dsimp only at hSw)
        go_simp
        (try with_reducible rfl)
      (try simp only [Act.put, List.setIfInBounds_toArray, List.set_cons_zero, List.set_cons_succ])
      refine H_take (k := 5) (v := ?_) (by rfl) (by kernel_rfl) (by kernel_rfl) (by kernel_rfl) (by exact fun _ _ _ h => h) (by rfl) ?_ (by assumption) ?_
      rotate_left 1
      · intro w hSw
        (try dsimp only at hSw)
        go_simp
        (try with_reducible rfl)
      (try simp only [Act.put, List.setIfInBounds_toArray, List.set_cons_zero, List.set_cons_succ])
      refine H_take (k := 6) (v := ?_) (by rfl) (by kernel_rfl) (by kernel_rfl) (by kernel_rfl) (by exact fun _ _ _ h => h) (by rfl) ?_ (by assumption) ?_
      rotate_left 1
      · intro w' hSw
        have kc := (HRX.out.grown hSw (fun g e => by cases e)).at_ srow_len (i := 2) (a := x2) HX2.out 0 _ rfl
        simp only [Nat.mul_one, Nat.add_zero, Nat.zero_add, Nat.one_mul] at kc
        go_simp
        (try with_reducible rfl)
      (try simp only [Act.put, List.setIfInBounds_toArray, List.set_cons_zero, List.set_cons_succ])
      refine H_take (k := 7) (v := ?_) (by rfl) (by kernel_rfl) (by kernel_rfl) (by kernel_rfl) (by exact fun _ _ _ h => h) (by rfl) ?_ (by assumption) ?_
      rotate_left 1
      · intro w hSw
        (try dsimp only at hSw)
        go_simp
        (try with_reducible rfl)
      (try simp only [Act.put, List.setIfInBounds_toArray, List.set_cons_zero, List.set_cons_succ])
      refine H_take (k := 8) (v := ?_) (by rfl) (by kernel_rfl) (by kernel_rfl) (by kernel_rfl) (by exact fun _ _ _ h => h) (by rfl) ?_ (by assumption) ?_
      rotate_left 1
      · intro w hSw
        (try dsimp only at hSw)
        go_simp
        (try with_reducible rfl)
      (try simp only [Act.put, List.setIfInBounds_toArray, List.set_cons_zero, List.set_cons_succ])
      obtain ⟨wa, hwa⟩ : ∃ v, wd.alloc (.cells #[.int .i64 0, .string ⟨#[]⟩, .string ⟨#[]⟩, .int .i64 0, .int .i64 0, .string ⟨#[]⟩] 56) = v := ⟨_, rfl⟩
      obtain ⟨sb, hsb⟩ : ∃ b, wd.heap.size = b := ⟨_, rfl⟩
      have YZ := Lib.hid (show Blk wa sb 56 #[.int .i64 0, .string ⟨#[]⟩, .string ⟨#[]⟩, .int .i64 0, .int .i64 0, .string ⟨#[]⟩] by rw [← hwa, ← hsb]; exact Blk.new _ _ _)
      have hga : w5.grownBy wa none := by rw [← hwa]; exact gr_alloc hHeld _
      have hlsb : w5.heap.size ≤ sb := by rw [← hsb]; exact hHeld.size
      refine H_run (k := 9) (by rfl) (by kernel_rfl) (by rfl) (fun K hK => ?_)
      go_simp
      (try rw [hwa])
      (try rw [hsb])
      refine hK _ _ hga ?_
      clear hK K hHeld hwa hsb
      (try simp only [Act.put, List.setIfInBounds_toArray, List.set_cons_zero, List.set_cons_succ])
      refine H_run (k := 10) (by rfl) (by kernel_rfl) (by rfl) (fun K hK => ?_)
      refine wp_store_all Tryz.acT _ _ (by rfl) sb (by rfl) 56 _ #[.int .i64 NV0, .string x1, .string x2, .int .i64 KD, .int .i64 0, .string ⟨#[]⟩] (by rfl) YZ.out rfl rfl (by simp [Value.oneCell']) ?_
      intro wg hwg
      have hgg : w5.grownBy wg none := gr_trans hga hwg.2.1 (fun g e => .inr (by injection e with e; omega))
      refine hK _ _ hgg ?_
      have HSB := Lib.hid hwg.1
      clear hK K hwg YZ hga
      (try simp only [Act.put, List.setIfInBounds_toArray, List.set_cons_zero, List.set_cons_succ])
      refine H_done (by kernel_rfl) ?_
      have hrlt := HR0.out.lt
      have hne : rb ≠ sb := by omega
      have hbs : bg ≠ sb := by have := hbg2.out; omega
      replace HG := Lib.hid (gr_none HG.out hgg)
      replace HR0 := Lib.hid (HR0.out.grown hgg (by simp))
      (try replace HRX := Lib.hid (HRX.out.grown hgg (fun g e => by cases e)))
      clear hgg m0 m1 m2 m3
      cases NB0
      · have HF := Lib.hid (show acB s = false by rw [HAB.out]; rfl)
        go_wp2_with (first
          | (refine wpl_load_all Tryz.acT rfl _ rfl _ rfl _ _ HSB.out rfl ?_)
          | (refine wpl_store_all Tryz.acT rfl _ _ rfl _ rfl _ _ _ rfl HR0.out rfl rfl (by simp [Value.oneCell']) ?_; intro wz hst; have HST := Lib.hid hst; clear hst)
          | fail)
        refine ret_cell_tmp Tryz.acT rfl rb 56 #[.int .i64 NV0, .string x1, .string x2, .int .i64 KD, .int .i64 0, .string ⟨#[]⟩] _ rfl rfl HST.out.1 rfl rfl ?_
        exact ⟨⟨NV0, x1, x2, KD, 0, ⟨#[]⟩⟩, by rw [HF.out]; try rfl, fun h => (by rw [HF.out] at h; cases h), gr_trans HG.out HST.out.2.1 (fun g e => .inr (by injection e with e; rw [← e]; exact HRB.out))⟩
      · by_cases hk1 : KD = 1
        · have e1 : (KD != 1) = false := by simpa using hk1
          have HAB2 := Lib.hid (show acB s = (decide (m = 6) && numB (pcAt s 4).data.toList 15) by rw [HAB.out, if_pos hk1]; rfl)
          have HAV2 := Lib.hid (show acV s = ⟨numN x0.data.toList, x1, x2, KD, numN (pcAt s 4).data.toList, undS (pcAt s 5)⟩ by rw [HAV.out, if_pos hk1, if_pos hk1])
          clear hk1
          by_cases h6 : m = 6
          · subst h6
            obtain ⟨x4, hx4⟩ : ∃ x, pcAt s 4 = x := ⟨_, rfl⟩
            obtain ⟨x5, hx5⟩ : ∃ x, pcAt s 5 = x := ⟨_, rfl⟩
            have HX4 := Lib.hid (show (pieces s)[4]? = some x4 by rw [← hx4]; exact pc_get (by rw [HMM.out]; omega))
            have HX5 := Lib.hid (show (pieces s)[5]? = some x5 by rw [← hx5]; exact pc_get (by rw [HMM.out]; omega))
            have hs4 : x4.size ≤ 1000000 := by rw [← hx4]; have := pc_size (s := s) 4; omega
            rw [hx4] at HAB2 HAV2
            rw [hx5] at HAV2
            obtain ⟨NB4, hNB4⟩ : ∃ b, numB x4.data.toList 15 = b := ⟨_, rfl⟩
            obtain ⟨NV4, hNV4⟩ : ∃ v, numV x4.data.toList 15 = v := ⟨_, rfl⟩
            have HN4 := Lib.hid (show NB4 = true → NV4 = numN x4.data.toList from fun h => by rw [← hNV4]; unfold numV; rw [hNB4, h, if_pos rfl])
            have HB4 := Lib.hid hNB4; have HW4 := Lib.hid hNV4
            have HFF := Lib.hid (show acB s = NB4 by rw [HAB2.out, hNB4]; rfl)
            clear hx4 hx5 hNB4 hNV4
            have c4 := HRX.out.at_ srow_len (i := 4) (a := x4) HX4.out 0 _ rfl
            simp only [Nat.mul_one, Nat.add_zero, Nat.zero_add, Nat.one_mul] at c4
            have k4 := HSB.out.cell 4
            have f4 := HSB.out.frozen 4
            go_wp2_with fail
            refine (pNumber_any x4 15 _ hs4 (by omega)).mono ?_
            rintro e w6 ⟨rfl, hg6⟩
            rw [HB4.out, HW4.out]
            replace HG := Lib.hid (gr_none HG.out hg6)
            replace HR0 := Lib.hid (HR0.out.grown hg6 (by simp))
            (try replace HRX := Lib.hid (HRX.out.grown hg6 (fun g e => by cases e)))
            replace HSB := Lib.hid (HSB.out.grown hg6 (by simp))
            clear hg6 c4 k4 f4
            have k4 := HSB.out.cell 4
            have f4 := HSB.out.frozen 4
            have hg7 : w6.grownBy (w6.setCell ⟨sb, 4, none⟩ (.int .i64 NV4)) (some sb) := gr_setCell (gr_refl _ _) (.inl rfl) _
            obtain ⟨w7, hw7⟩ : ∃ v, w6.setCell ⟨sb, 4, none⟩ (.int .i64 NV4) = v := ⟨_, rfl⟩
            have HS7 := Lib.hid (show Blk w7 sb 56 #[.int .i64 NV0, .string x1, .string x2, .int .i64 KD, .int .i64 NV4, .string ⟨#[]⟩] by rw [← hw7]; exact HSB.out.set_ 4 _)
            rw [hw7] at hg7
            have HW7 := Lib.hid hw7
            have hlw : w.heap.size ≤ sb := by have := HRB.out; omega
            replace HG := Lib.hid (gr_trans HG.out hg7 (fun g e => .inr (by injection e with e; omega)))
            replace HR0 := Lib.hid (HR0.out.grown hg7 (by simp; omega))
            replace HRX := Lib.hid (recs_far HRX.out hg7 hbs)
            go_upto_region 12 with (fail)
            (try rw [HW7.out])
            clear HW7 hw7 k4 f4
            obtain ⟨kc5, hc5⟩ : ∃ u, u = x5 := ⟨_, rfl⟩
            clear hc5 kc5
            have c5 := HRX.out.at_ srow_len (i := 5) (a := x5) HX5.out 0 _ rfl
            simp only [Nat.mul_one, Nat.add_zero, Nat.zero_add, Nat.one_mul] at c5
            have k5 := HS7.out.cell 5
            have f5 := HS7.out.frozen 5
            obtain ⟨w8, hw8⟩ : ∃ v, w7.setCell ⟨sb, 5, none⟩ (.string x5) = v := ⟨_, rfl⟩
            have hg8 : w7.grownBy w8 (some sb) := by rw [← hw8]; exact gr_setCell (gr_refl _ _) (.inl rfl) _
            have HS8 := Lib.hid (show Blk w8 sb 56 #[.int .i64 NV0, .string x1, .string x2, .int .i64 KD, .int .i64 NV4, .string x5] by rw [← hw8]; exact HS7.out.set_ 5 _)
            have HW8 := Lib.hid hw8
            have HG8 := Lib.hid (gr_trans HG.out hg8 (fun g e => .inr (by injection e with e; omega)))
            have HR8 := Lib.hid (HR0.out.grown hg8 (by simp; omega))
            clear hw8 hg8
            go_upto_region 13 with (fail)
            (try rw [HW8.out])
            clear HW8 c5 k5 f5 HG HR0 HS7 HRX
            have HR0 := HR8; have HG := HG8
            clear HR8 HG8
            have k5 := HS8.out.cell 5
            have f5 := HS8.out.frozen 5
            by_cases h45 : x5.toList = [45]
            · have e1 : undS x5 = ⟨#[]⟩ := if_pos h45
              rw [e1] at HAV2
              have HS9 := Lib.hid (HS8.out.set_ 5 (.string ⟨#[]⟩))
              have hg9 : w8.grownBy (w8.setCell ⟨sb, 5, none⟩ (.string ⟨#[]⟩)) (some sb) := gr_setCell (gr_refl _ _) (.inl rfl) _
              replace HR0 := Lib.hid (HR0.out.grown hg9 (by simp; omega))
              have HGS := Lib.hid (gr_trans HG.out hg9 (fun g e => .inr (by injection e with e; omega)))
              clear hg9 e1
              cases NB4
              · have HF := Lib.hid (show acB s = false by exact HFF.out)
                go_wp2_with (first
                  | (refine wpl_load_all Tryz.acT rfl _ rfl _ rfl _ _ HS9.out rfl ?_)
                  | (refine wpl_store_all Tryz.acT rfl _ _ rfl _ rfl _ _ _ rfl HR0.out rfl rfl (by simp [Value.oneCell']) ?_; intro wz hst; have HST := Lib.hid hst; clear hst)
                  | fail)
                refine ret_cell_tmp Tryz.acT rfl rb 56 #[.int .i64 NV0, .string x1, .string x2, .int .i64 KD, .int .i64 NV4, .string ⟨#[]⟩] _ rfl rfl HST.out.1 rfl rfl ?_
                exact ⟨⟨NV0, x1, x2, KD, NV4, ⟨#[]⟩⟩, by rw [HF.out]; try rfl, fun h => (by rw [HF.out] at h; cases h), gr_trans HGS.out HST.out.2.1 (fun g e => .inr (by injection e with e; rw [← e]; exact HRB.out))⟩
              · have HF := Lib.hid (show acB s = true by exact HFF.out)
                go_wp2_with (first
                  | (refine wpl_load_all Tryz.acT rfl _ rfl _ rfl _ _ HS9.out rfl ?_)
                  | (refine wpl_store_all Tryz.acT rfl _ _ rfl _ rfl _ _ _ rfl HR0.out rfl rfl (by simp [Value.oneCell']) ?_; intro wz hst; have HST := Lib.hid hst; clear hst)
                  | fail)
                refine ret_cell_tmp Tryz.acT rfl rb 56 #[.int .i64 NV0, .string x1, .string x2, .int .i64 KD, .int .i64 NV4, .string ⟨#[]⟩] _ rfl rfl HST.out.1 rfl rfl ?_
                exact ⟨⟨NV0, x1, x2, KD, NV4, ⟨#[]⟩⟩, by rw [HF.out]; try rfl, fun _ => by rw [HAV2.out, HNV.out (by first | rfl | trivial), HN4.out (by first | rfl | trivial)], gr_trans HGS.out HST.out.2.1 (fun g e => .inr (by injection e with e; rw [← e]; exact HRB.out))⟩
            · have e1 : undS x5 = x5 := if_neg h45
              rw [e1] at HAV2
              have e2 : (x5.toList == [45]) = false := by rw [beq_eq_false_iff_ne]; exact h45
              clear h45 e1
              cases NB4
              · have HF := Lib.hid (show acB s = false by exact HFF.out)
                go_wp2_with (first
                  | (refine wpl_load_all Tryz.acT rfl _ rfl _ rfl _ _ HS8.out rfl ?_)
                  | (refine wpl_store_all Tryz.acT rfl _ _ rfl _ rfl _ _ _ rfl HR0.out rfl rfl (by simp [Value.oneCell']) ?_; intro wz hst; have HST := Lib.hid hst; clear hst)
                  | fail)
                refine ret_cell_tmp Tryz.acT rfl rb 56 #[.int .i64 NV0, .string x1, .string x2, .int .i64 KD, .int .i64 NV4, .string x5] _ rfl rfl HST.out.1 rfl rfl ?_
                exact ⟨⟨NV0, x1, x2, KD, NV4, x5⟩, by rw [HF.out]; try rfl, fun h => (by rw [HF.out] at h; cases h), gr_trans HG.out HST.out.2.1 (fun g e => .inr (by injection e with e; rw [← e]; exact HRB.out))⟩
              · have HF := Lib.hid (show acB s = true by exact HFF.out)
                go_wp2_with (first
                  | (refine wpl_load_all Tryz.acT rfl _ rfl _ rfl _ _ HS8.out rfl ?_)
                  | (refine wpl_store_all Tryz.acT rfl _ _ rfl _ rfl _ _ _ rfl HR0.out rfl rfl (by simp [Value.oneCell']) ?_; intro wz hst; have HST := Lib.hid hst; clear hst)
                  | fail)
                refine ret_cell_tmp Tryz.acT rfl rb 56 #[.int .i64 NV0, .string x1, .string x2, .int .i64 KD, .int .i64 NV4, .string x5] _ rfl rfl HST.out.1 rfl rfl ?_
                exact ⟨⟨NV0, x1, x2, KD, NV4, x5⟩, by rw [HF.out]; try rfl, fun _ => by rw [HAV2.out, HNV.out (by first | rfl | trivial), HN4.out (by first | rfl | trivial)], gr_trans HG.out HST.out.2.1 (fun g e => .inr (by injection e with e; rw [← e]; exact HRB.out))⟩
          · have e6 : ((m : Int) != 6) = true := by rw [bne_iff_ne]; omega
            have HF := Lib.hid (show acB s = false by rw [HAB2.out, decide_eq_false h6]; rfl)
            go_wp2_with (first
              | (refine wpl_load_all Tryz.acT rfl _ rfl _ rfl _ _ HSB.out rfl ?_)
              | (refine wpl_store_all Tryz.acT rfl _ _ rfl _ rfl _ _ _ rfl HR0.out rfl rfl (by simp [Value.oneCell']) ?_; intro wz hst; have HST := Lib.hid hst; clear hst)
              | fail)
            refine ret_cell_tmp Tryz.acT rfl rb 56 #[.int .i64 NV0, .string x1, .string x2, .int .i64 KD, .int .i64 0, .string ⟨#[]⟩] _ rfl rfl HST.out.1 rfl rfl ?_
            exact ⟨⟨NV0, x1, x2, KD, 0, ⟨#[]⟩⟩, by rw [HF.out]; try rfl, fun h => (by rw [HF.out] at h; cases h), gr_trans HG.out HST.out.2.1 (fun g e => .inr (by injection e with e; rw [← e]; exact HRB.out))⟩
        · have e1 : (KD != 1) = true := by simpa using hk1
          have HAB2 := Lib.hid (show acB s = (decide (0 < KD) && decide (m = 4)) by rw [HAB.out, if_neg hk1]; rfl)
          have HAV2 := Lib.hid (show acV s = ⟨numN x0.data.toList, x1, x2, KD, 0, ⟨#[]⟩⟩ by rw [HAV.out, if_neg hk1, if_neg hk1])
          by_cases hk : 0 < KD
          · have e2 : decide (0 < KD) = true := decide_eq_true hk
            by_cases h44 : m = 4
            · subst h44
              have HF := Lib.hid (show acB s = true by rw [HAB2.out, e2]; rfl)
              go_wp2_with (first
                | (refine wpl_load_all Tryz.acT rfl _ rfl _ rfl _ _ HSB.out rfl ?_)
                | (refine wpl_store_all Tryz.acT rfl _ _ rfl _ rfl _ _ _ rfl HR0.out rfl rfl (by simp [Value.oneCell']) ?_; intro wz hst; have HST := Lib.hid hst; clear hst)
                | fail)
              refine ret_cell_tmp Tryz.acT rfl rb 56 #[.int .i64 NV0, .string x1, .string x2, .int .i64 KD, .int .i64 0, .string ⟨#[]⟩] _ rfl rfl HST.out.1 rfl rfl ?_
              exact ⟨⟨NV0, x1, x2, KD, 0, ⟨#[]⟩⟩, by rw [HF.out]; try rfl, fun _ => by rw [HAV2.out, HNV.out (by first | rfl | trivial)], gr_trans HG.out HST.out.2.1 (fun g e => .inr (by injection e with e; rw [← e]; exact HRB.out))⟩
            · have e4 : ((m : Int) == 4) = false := by rw [beq_eq_false_iff_ne]; omega
              have HF := Lib.hid (show acB s = false by rw [HAB2.out, decide_eq_false h44, Bool.and_false])
              go_wp2_with (first
                | (refine wpl_load_all Tryz.acT rfl _ rfl _ rfl _ _ HSB.out rfl ?_)
                | (refine wpl_store_all Tryz.acT rfl _ _ rfl _ rfl _ _ _ rfl HR0.out rfl rfl (by simp [Value.oneCell']) ?_; intro wz hst; have HST := Lib.hid hst; clear hst)
                | fail)
              refine ret_cell_tmp Tryz.acT rfl rb 56 #[.int .i64 NV0, .string x1, .string x2, .int .i64 KD, .int .i64 0, .string ⟨#[]⟩] _ rfl rfl HST.out.1 rfl rfl ?_
              exact ⟨⟨NV0, x1, x2, KD, 0, ⟨#[]⟩⟩, by rw [HF.out]; try rfl, fun h => (by rw [HF.out] at h; cases h), gr_trans HG.out HST.out.2.1 (fun g e => .inr (by injection e with e; rw [← e]; exact HRB.out))⟩
          · have e2 : decide (0 < KD) = false := decide_eq_false hk
            have HF := Lib.hid (show acB s = false by rw [HAB2.out, e2]; rfl)
            go_wp2_with (first
              | (refine wpl_load_all Tryz.acT rfl _ rfl _ rfl _ _ HSB.out rfl ?_)
              | (refine wpl_store_all Tryz.acT rfl _ _ rfl _ rfl _ _ _ rfl HR0.out rfl rfl (by simp [Value.oneCell']) ?_; intro wz hst; have HST := Lib.hid hst; clear hst)
              | fail)
            refine ret_cell_tmp Tryz.acT rfl rb 56 #[.int .i64 NV0, .string x1, .string x2, .int .i64 KD, .int .i64 0, .string ⟨#[]⟩] _ rfl rfl HST.out.1 rfl rfl ?_
            exact ⟨⟨NV0, x1, x2, KD, 0, ⟨#[]⟩⟩, by rw [HF.out]; try rfl, fun h => (by rw [HF.out] at h; cases h), gr_trans HG.out HST.out.2.1 (fun g e => .inr (by injection e with e; rw [← e]; exact HRB.out))⟩
    · have d4 : decide ((m : Int) < 4) = true := decide_eq_true (by omega)
      have HF := Lib.hid (show acB s = false by unfold acB; rw [HMM.out, decide_eq_false h4]; cases okW s <;> rfl)
      go_wp2_with (first
        | (refine wpl_store_all Tryz.acT rfl _ _ rfl _ rfl _ _ _ rfl HR0.out rfl rfl (by simp [Value.oneCell']) ?_; intro wz hst; have HST := Lib.hid hst; clear hst)
        | fail)
      refine ret_cell_tmp Tryz.acT rfl rb 56 #[.int .i64 0, .string ⟨#[]⟩, .string ⟨#[]⟩, .int .i64 0, .int .i64 0, .string ⟨#[]⟩] _ rfl rfl HST.out.1 rfl rfl ?_
      exact ⟨⟨0, ⟨#[]⟩, ⟨#[]⟩, 0, 0, ⟨#[]⟩⟩, by rw [HF.out]; try rfl, fun h => (by rw [HF.out] at h; cases h), gr_trans HG.out HST.out.2.1 (fun g e => .inr (by injection e with e; rw [← e]; exact HRB.out))⟩
  · have HF := Lib.hid (show acB s = false by unfold acB; rw [hno]; rfl)
    go_wp2_with (first
      | (refine wpl_store_all Tryz.acT rfl _ _ rfl _ rfl _ _ _ rfl HR0.out rfl rfl (by simp [Value.oneCell']) ?_; intro wz hst; have HST := Lib.hid hst; clear hst)
      | fail)
    refine ret_cell_tmp Tryz.acT rfl rb 56 #[.int .i64 0, .string ⟨#[]⟩, .string ⟨#[]⟩, .int .i64 0, .int .i64 0, .string ⟨#[]⟩] _ rfl rfl HST.out.1 rfl rfl ?_
    exact ⟨⟨0, ⟨#[]⟩, ⟨#[]⟩, 0, 0, ⟨#[]⟩⟩, by rw [HF.out]; try rfl, fun h => (by rw [HF.out] at h; cases h), gr_trans HG.out HST.out.2.1 (fun g e => .inr (by injection e with e; rw [← e]; exact HRB.out))⟩
end Go.Proofs.YtgogiljplnninaaGreatDoor

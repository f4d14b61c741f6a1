/- Contracts of readRecord and of the program's closure that reads a line of records. Conditions: a line of bounded length; bytealg.MaxLen holds some number; the table of powers of ten. -/
import Derived.Test.YtoddgaocochdgaaGreatDoorBun5
import Derived.Test.YtoddgaocochdgaaGreatDoorBun3

namespace Go.Proofs.YtoddgaocochdgaaGreatDoor
open Go.RowKit

/-! The line of a record. -/
def rcN (s : ByteArray) : Bool := numsB 15 [pcAt s 3, pcAt s 4, pcAt s 5]
def rcB (s : ByteArray) : Bool := okW s && (decide ((pieces s).length = 8) && (rcN s && decide (wdN W4r (pcAt s 6) ≠ 0)))
def rcV (s : ByteArray) : RcV := ⟨pcAt s 0, pcAt s 1, pcAt s 2, numN (pcAt s 3).data.toList, numN (pcAt s 4).data.toList, numN (pcAt s 5).data.toList, wdN W4r (pcAt s 6), undS (pcAt s 7)⟩
def zRc : RcV := ⟨⟨#[]⟩, ⟨#[]⟩, ⟨#[]⟩, 0, 0, 0, 0, ⟨#[]⟩⟩
def rcR (s : ByteArray) : RcV := if rcB s then rcV s else zRc
theorem eight {L : List ByteArray} (h : L.length = 8) : ∃ a b c d e f g i, L = [a, b, c, d, e, f, g, i] := by
  match L, h with
  | [a, b, c, d, e, f, g, i], _ => exact ⟨a, b, c, d, e, f, g, i, rfl⟩
set_option maxHeartbeats 8000000 in
set_option maxRecDepth 100000 in
theorem readRecord_any (s : ByteArray) (w : World) (hs : s.size ≤ 1000000) (hm : MxT w) :
    Calls Tryz.prog 121 #[.string s] w (RetV (.tuple #[.agg #[.string (rcR s).id, .string (rcR s).frm, .string (rcR s).too, .int .i64 (rcR s).at_, .int .i64 (rcR s).ring, .int .i64 (rcR s).talk, .int .i64 (rcR s).how, .string (rcR s).car], .bool (rcB s)]) w) := by
  obtain ⟨w0, hw0⟩ : ∃ v, w.alloc (.cells #[.string ⟨#[]⟩, .string ⟨#[]⟩, .string ⟨#[]⟩, .int .i64 0, .int .i64 0, .int .i64 0, .int .i64 0, .string ⟨#[]⟩] 76) = v := ⟨_, rfl⟩
  obtain ⟨rb, hrb⟩ : ∃ b, w.heap.size = b := ⟨_, rfl⟩
  have HR0 := Lib.hid (show Blk w0 rb 76 #[.string ⟨#[]⟩, .string ⟨#[]⟩, .string ⟨#[]⟩, .int .i64 0, .int .i64 0, .int .i64 0, .int .i64 0, .string ⟨#[]⟩] by rw [← hw0, ← hrb]; exact Blk.new _ _ _)
  have HG := Lib.hid (show w.grownBy w0 none by rw [← hw0]; exact gr_alloc (gr_refl _ _) _)
  have HRB := Lib.hid (show w.heap.size ≤ rb by rw [hrb]; exact Nat.le_refl _)
  have HW0 := Lib.hid hw0; have HZ0 := Lib.hid hrb
  have HM := Lib.hid hm
  clear hw0 hrb hm
  go_enter Tryz.func121, Tryz.ntmps121
  go_upto_region 1 with (fail)
  rw [HW0.out]
  (try rw [HZ0.out])
  clear HW0 HZ0
  go_wp2_with fail
  refine (pWords_any s _ hs (HM.out.grown HG.out)).mono ?_
  rintro e w1 ⟨hg1, hcase⟩
  replace HG := Lib.hid (gr_none HG.out hg1)
  replace HR0 := Lib.hid (HR0.out.grown hg1 (by simp))
  (try replace HRX := Lib.hid (HRX.out.grown hg1 (fun g e => by cases e)))
  (try replace HNO := Lib.hid (HNO.out.grown hg1 (fun g e => by cases e)))
  obtain ⟨L, hL⟩ : ∃ L, pieces s = L := ⟨_, rfl⟩
  obtain ⟨lo, hlo⟩ : ∃ b, w0.heap.size = b := ⟨_, rfl⟩
  rw [hL, hlo] at hcase
  have HL := Lib.hid hL
  clear hg1 hL hlo
  rcases hcase with ⟨hok, B, rfl, hrec⟩ | ⟨hno, rfl⟩
  · have HOK := Lib.hid hok
    clear hok
    by_cases h5 : L.length = 8
    · obtain ⟨x0, x1, x2, x3, x4, x5, x6, x7, rfl⟩ := eight h5
      change Recs srow 1 w1 lo (some B) 8 8 [x0, x1, x2, x3, x4, x5, x6, x7] at hrec
      obtain ⟨bg, bo, _, hB, _, hbg, _⟩ := hrec.get srow_len (show 0 < 8 by omega)
      injection hB with hB
      subst hB
      have HRX := Lib.hid hrec
      have p0 : pcAt s 0 = x0 := by unfold pcAt; rw [HL.out]; rfl
      have p1 : pcAt s 1 = x1 := by unfold pcAt; rw [HL.out]; rfl
      have p2 : pcAt s 2 = x2 := by unfold pcAt; rw [HL.out]; rfl
      have p3 : pcAt s 3 = x3 := by unfold pcAt; rw [HL.out]; rfl
      have p4 : pcAt s 4 = x4 := by unfold pcAt; rw [HL.out]; rfl
      have p5 : pcAt s 5 = x5 := by unfold pcAt; rw [HL.out]; rfl
      have p6 : pcAt s 6 = x6 := by unfold pcAt; rw [HL.out]; rfl
      have p7 : pcAt s 7 = x7 := by unfold pcAt; rw [HL.out]; rfl
      have hsz : ∀ x ∈ [x3, x4, x5], x.size ≤ 1000000 := fun x hx => by
        have : x ∈ pieces s := by rw [HL.out]; simp at hx ⊢; rcases hx with rfl | rfl | rfl <;> simp
        have := pieces_size this
        omega
      have HB0 := Lib.hid (show rcB s = (rcN s && decide (wdN W4r x6 ≠ 0)) by unfold rcB; rw [HOK.out, HL.out, p6]; rfl)
      have HN0 := Lib.hid (show rcN s = numsB 15 [x3, x4, x5] by unfold rcN; rw [p3, p4, p5])
      have HVV := Lib.hid (show rcV s = ⟨x0, x1, x2, numN x3.data.toList, numN x4.data.toList, numN x5.data.toList, wdN W4r x6, undS x7⟩ by unfold rcV; rw [p0, p1, p2, p3, p4, p5, p6, p7])
      have hdr := (Recs.drop1 (k := 3) hrec (by omega)).take srow_len (i := 3) (by omega)
      have HDR := Lib.hid (show Recs srow 1 w1 lo (some ⟨bg, bo + 3, none⟩) 3 5 [x3, x4, x5] from hdr)
      clear hrec hbg p0 p1 p2 p3 p4 p5 p6 p7 hdr h5
      go_wp2_with fail
      refine (pNumbers_any 15 lo (some ⟨bg, bo + 3, none⟩) 3 5 [x3, x4, x5] _ HDR.out hsz (by omega) (by omega)).mono ?_
      rintro e w2 ⟨hg2, hcase⟩
      replace HG := Lib.hid (gr_none HG.out hg2)
      replace HR0 := Lib.hid (HR0.out.grown hg2 (by simp))
      (try replace HRX := Lib.hid (HRX.out.grown hg2 (fun g e => by cases e)))
      (try replace HNO := Lib.hid (HNO.out.grown hg2 (fun g e => by cases e)))
      clear hg2 HDR hsz
      obtain ⟨lo2, hlo2⟩ : ∃ b, w1.heap.size = b := ⟨_, rfl⟩
      rw [hlo2] at hcase
      clear hlo2
      obtain ⟨NS, cB, NB, hNB, he, hno⟩ : ∃ (NS : Option Addr) (cB : Nat) (NB : Bool), numsB 15 [x3, x4, x5] = NB ∧ e = .returned (.tuple #[.slice NS (if NB then 3 else 0) cB, .bool NB]) ∧ (NB = true → OwnR nrow 1 w2 lo2 3 NS 3 cB [numN x3.data.toList, numN x4.data.toList, numN x5.data.toList]) := by
        rcases hcase with ⟨h1, NS, cB, h2, h3⟩ | ⟨h1, h2⟩
        · exact ⟨NS, cB, true, h1, h2, fun _ => h3⟩
        · exact ⟨none, 0, false, h1, h2, fun h => by cases h⟩
      subst he
      have HNB := Lib.hid hNB; have HNO0 := Lib.hid hno
      obtain ⟨J, hJ⟩ : ∃ J, Lib.idxOfS W4r x6 = J := ⟨_, rfl⟩
      obtain ⟨H, hH⟩ : ∃ H, wdN W4r x6 = H := ⟨_, rfl⟩
      have hjb : wdN W4r x6 ≤ 4 := (wd_cases W4r x6).2.1
      have hjb0 := (wd_cases W4r x6).1
      have hJH : J + 1 = H := by rw [← hJ, ← hH]; rfl
      rw [hH] at hjb hjb0
      have HJ := Lib.hid hJ; have HH := Lib.hid hH
      have qj : IntKind.i64.wrap (J + 1) = H := by rw [IntWalk.i64_in _ (by omega)]; exact hJH
      clear hcase hNB hno hJ hH hJH
      go_upto_region 5 with (fail)
      refine H_begin (fun w' => w2.grownBy w' none) (by kernel_rfl) ?_
      have hHeld : w2.grownBy w2.drew none := gr_drew (gr_refl _ _)
      refine H_take (k := 1) (v := ?_) (by rfl) (by kernel_rfl) (by kernel_rfl) (by kernel_rfl) (by exact fun _ _ _ h => h) (by rfl) ?_ (by assumption) ?_
      rotate_left 1
      · intro w hSw
        (try dsimp only at hSw)
        go_simp
        (try with_reducible rfl)
      (try simp only [Act.put, List.setIfInBounds_toArray, List.set_cons_zero, List.set_cons_succ])
      refine H_take (k := 2) (v := ?_) (by rfl) (by kernel_rfl) (by kernel_rfl) (by kernel_rfl) (by exact fun _ _ _ h => h) (by rfl) ?_ (by assumption) ?_
      rotate_left 1
      · intro w hSw
        (try dsimp only at hSw)
        go_simp
        (try with_reducible rfl)
      (try simp only [Act.put, List.setIfInBounds_toArray, List.set_cons_zero, List.set_cons_succ])
      refine H_take (k := 3) (v := ?_) (by rfl) (by kernel_rfl) (by kernel_rfl) (by kernel_rfl) (by exact fun _ _ _ h => h) (by rfl) ?_ (by assumption) ?_
      rotate_left 1
      · intro w' hSw
        have kc := (HRX.out.grown hSw (fun g e => by cases e)).at_ srow_len (i := 6) (a := x6) rfl 0 _ rfl
        simp only [Nat.mul_one, Nat.add_zero, Nat.zero_add, Nat.one_mul] at kc
        go_simp
        (try with_reducible rfl)
      (try simp only [Act.put, List.setIfInBounds_toArray, List.set_cons_zero, List.set_cons_succ])
      refine H_run (k := 0) (by rfl) (by kernel_rfl) (by rfl) (fun K hK => ?_)
      go_simp
      refine (pWordsR_any _).mono ?_
      rintro e w3 ⟨rfl, hr3, hg3⟩
      have hgz : w2.grownBy w3 none := gr_none hHeld hg3
      refine hK _ _ hgz ?_
      clear hK K hHeld
      have hHeld := hgz
      have HW3 := Lib.hid hr3
      clear hr3 hg3
      (try simp only [Act.put, List.setIfInBounds_toArray, List.set_cons_zero, List.set_cons_succ])
      refine H_run (k := 4) (by rfl) (by kernel_rfl) (by rfl) (fun K hK => ?_)
      go_simp
      refine (index_any _ 4 W4r x6 _ _ HW3.out (by omega)).mono ?_
      rintro e w4 ⟨rfl, rfl⟩
      rw [HJ.out]
      refine hK _ _ hgz ?_
      clear hK K
      (try simp only [Act.put, List.setIfInBounds_toArray, List.set_cons_zero, List.set_cons_succ])
      refine H_take (k := 5) (v := ?_) (by rfl) (by kernel_rfl) (by kernel_rfl) (by kernel_rfl) (by exact fun _ _ _ h => h) (by rfl) ?_ (by assumption) ?_
      rotate_left 1
      · intro w hSw
        (try dsimp only at hSw)
        go_simp
        (try with_reducible rfl)
      (try simp only [Act.put, List.setIfInBounds_toArray, List.set_cons_zero, List.set_cons_succ])
      refine H_take (k := 6) (v := ?_) (by rfl) (by kernel_rfl) (by kernel_rfl) (by kernel_rfl) (by exact fun _ _ _ h => h) (by rfl) ?_ (by assumption) ?_
      rotate_left 1
      · intro w hSw
        (try dsimp only at hSw)
        go_simp
        (try with_reducible rfl)
      (try simp only [Act.put, List.setIfInBounds_toArray, List.set_cons_zero, List.set_cons_succ])
      refine H_done (by kernel_rfl) ?_
      replace HG := Lib.hid (gr_none HG.out hgz)
      replace HR0 := Lib.hid (HR0.out.grown hgz (by simp))
      (try replace HRX := Lib.hid (HRX.out.grown hgz (fun g e => by cases e)))
      (try replace HNO := Lib.hid (HNO.out.grown hgz (fun g e => by cases e)))
      have HNO1 := Lib.hid (fun h => (HNO0.out h).kept hgz (fun g e => by cases e))
      clear hHeld hgz HW3 qj HNO0
      cases NB
      · have HV := Lib.hid (show (Value.tuple #[.agg #[.string (rcR s).id, .string (rcR s).frm, .string (rcR s).too, .int .i64 (rcR s).at_, .int .i64 (rcR s).ring, .int .i64 (rcR s).talk, .int .i64 (rcR s).how, .string (rcR s).car], .bool (rcB s)]) = .tuple #[.agg #[.string ⟨#[]⟩, .string ⟨#[]⟩, .string ⟨#[]⟩, .int .i64 0, .int .i64 0, .int .i64 0, .int .i64 0, .string ⟨#[]⟩], .bool false] by
          have h : rcB s = false := by rw [HB0.out, HN0.out, HNB.out]; rfl
          unfold rcR; rw [h]; rfl)
        clear HNO1
        go_wp2_with (first
          | (refine wpl_store_all Tryz.rcT rfl _ _ rfl _ rfl _ _ _ rfl HR0.out rfl rfl (by simp [Value.oneCell']) ?_; intro wz hst; have HST := Lib.hid hst; clear hst)
          | fail)
        refine ret_cell_tmp Tryz.rcT rfl rb 76 #[.string ⟨#[]⟩, .string ⟨#[]⟩, .string ⟨#[]⟩, .int .i64 0, .int .i64 0, .int .i64 0, .int .i64 0, .string ⟨#[]⟩] _ rfl rfl HST.out.1 rfl rfl ?_
        exact ⟨by rw [HV.out]; try rfl, gr_trans HG.out HST.out.2.1 (fun g e => .inr (by injection e with e; rw [← e]; exact HRB.out))⟩
      · have HNO := Lib.hid (HNO1.out rfl).recs
        clear HNO1
        by_cases h0 : H = 0
        · have d0 : (H == 0) = true := by simpa using h0
          have HV := Lib.hid (show (Value.tuple #[.agg #[.string (rcR s).id, .string (rcR s).frm, .string (rcR s).too, .int .i64 (rcR s).at_, .int .i64 (rcR s).ring, .int .i64 (rcR s).talk, .int .i64 (rcR s).how, .string (rcR s).car], .bool (rcB s)]) = .tuple #[.agg #[.string ⟨#[]⟩, .string ⟨#[]⟩, .string ⟨#[]⟩, .int .i64 0, .int .i64 0, .int .i64 0, .int .i64 0, .string ⟨#[]⟩], .bool false] by
            have h : rcB s = false := by rw [HB0.out, HH.out, h0]; exact Bool.and_false _
            unfold rcR; rw [h]; rfl)
          clear h0
          go_wp2_with (first
            | (refine wpl_store_all Tryz.rcT rfl _ _ rfl _ rfl _ _ _ rfl HR0.out rfl rfl (by simp [Value.oneCell']) ?_; intro wz hst; have HST := Lib.hid hst; clear hst)
            | fail)
          refine ret_cell_tmp Tryz.rcT rfl rb 76 #[.string ⟨#[]⟩, .string ⟨#[]⟩, .string ⟨#[]⟩, .int .i64 0, .int .i64 0, .int .i64 0, .int .i64 0, .string ⟨#[]⟩] _ rfl rfl HST.out.1 rfl rfl ?_
          exact ⟨by rw [HV.out]; try rfl, gr_trans HG.out HST.out.2.1 (fun g e => .inr (by injection e with e; rw [← e]; exact HRB.out))⟩
        · have d0 : (H == 0) = false := by simpa using h0
          have hB1 : rcB s = true := by rw [HB0.out, HN0.out, HNB.out, HH.out, decide_eq_true h0]; rfl
          have HV := Lib.hid (show (Value.tuple #[.agg #[.string (rcR s).id, .string (rcR s).frm, .string (rcR s).too, .int .i64 (rcR s).at_, .int .i64 (rcR s).ring, .int .i64 (rcR s).talk, .int .i64 (rcR s).how, .string (rcR s).car], .bool (rcB s)]) = .tuple #[.agg #[.string x0, .string x1, .string x2, .int .i64 (numN x3.data.toList), .int .i64 (numN x4.data.toList), .int .i64 (numN x5.data.toList), .int .i64 H, .string (undS x7)], .bool true] by
            have e1 : rcR s = ⟨x0, x1, x2, numN x3.data.toList, numN x4.data.toList, numN x5.data.toList, H, undS x7⟩ := by unfold rcR; rw [hB1, HVV.out, HH.out]; rfl
            rw [e1, hB1])
          obtain ⟨N3, hN3⟩ : ∃ N, numN x3.data.toList = N := ⟨_, rfl⟩
          obtain ⟨N4, hN4⟩ : ∃ N, numN x4.data.toList = N := ⟨_, rfl⟩
          obtain ⟨N5, hN5⟩ : ∃ N, numN x5.data.toList = N := ⟨_, rfl⟩
          rw [hN3, hN4, hN5] at HV HNO
          obtain ⟨ng, no, _, rfl, _, _, _, _⟩ := HNO.out.get nrow_len (show 0 < 3 by omega)
          clear h0 hB1 hN3 hN4 hN5 HVV HB0 HN0
          go_upto_region 8 with (fail)
          obtain ⟨w5, rfl⟩ : ∃ w5 : World, w5 = w3 := ⟨_, rfl⟩
          refine H_begin (fun w' => w5.grownBy w' none) (by kernel_rfl) ?_
          have hHeld : w5.grownBy w5.drew none := gr_drew (gr_refl _ _)
          refine H_take (k := 0) (v := ?_) (by rfl) (by kernel_rfl) (by kernel_rfl) (by kernel_rfl) (by exact fun _ _ _ h => h) (by rfl) ?_ (by assumption) ?_
          rotate_left 1
          · intro w hSw
            (try dsimp only at hSw)
            go_simp
            (try with_reducible rfl)
          (try simp only [Act.put, List.setIfInBounds_toArray, List.set_cons_zero, List.set_cons_succ])
          refine H_take (k := 1) (v := ?_) (by rfl) (by kernel_rfl) (by kernel_rfl) (by kernel_rfl) (by exact fun _ _ _ h => h) (by rfl) ?_ (by assumption) ?_
          rotate_left 1
          · intro w hSw
            (try dsimp only at hSw)
            go_simp
            (try with_reducible rfl)
          (try simp only [Act.put, List.setIfInBounds_toArray, List.set_cons_zero, List.set_cons_succ])
          refine H_take (k := 2) (v := ?_) (by rfl) (by kernel_rfl) (by kernel_rfl) (by kernel_rfl) (by exact fun _ _ _ h => h) (by rfl) ?_ (by assumption) ?_
          rotate_left 1
          · intro w' hSw
            have kc := (HRX.out.grown hSw (fun g e => by cases e)).at_ srow_len (i := 0) (a := x0) rfl 0 _ rfl
            simp only [Nat.mul_one, Nat.add_zero, Nat.zero_add, Nat.one_mul] at kc
            go_simp
            (try with_reducible rfl)
          (try simp only [Act.put, List.setIfInBounds_toArray, List.set_cons_zero, List.set_cons_succ])
          refine H_take (k := 3) (v := ?_) (by rfl) (by kernel_rfl) (by kernel_rfl) (by kernel_rfl) (by exact fun _ _ _ h => h) (by rfl) ?_ (by assumption) ?_
          rotate_left 1
          · intro w hSw
            (try dsimp only at hSw)
            go_simp
            (try with_reducible rfl)
          (try simp only [Act.put, List.setIfInBounds_toArray, List.set_cons_zero, List.set_cons_succ])
          refine H_take (k := 4) (v := ?_) (by rfl) (by kernel_rfl) (by kernel_rfl) (by kernel_rfl) (by exact fun _ _ _ h => h) (by rfl) ?_ (by assumption) ?_
          rotate_left 1
          · intro w hSw
            (try dsimp only at hSw)
            go_simp
            (try with_reducible rfl)
          (try simp only [Act.put, List.setIfInBounds_toArray, List.set_cons_zero, List.set_cons_succ])
          refine H_take (k := 5) (v := ?_) (by rfl) (by kernel_rfl) (by kernel_rfl) (by kernel_rfl) (by exact fun _ _ _ h => h) (by rfl) ?_ (by assumption) ?_
          rotate_left 1
          · intro w' hSw
            have kc := (HRX.out.grown hSw (fun g e => by cases e)).at_ srow_len (i := 1) (a := x1) rfl 0 _ rfl
            simp only [Nat.mul_one, Nat.add_zero, Nat.zero_add, Nat.one_mul] at kc
            go_simp
            (try with_reducible rfl)
          (try simp only [Act.put, List.setIfInBounds_toArray, List.set_cons_zero, List.set_cons_succ])
          refine H_take (k := 6) (v := ?_) (by rfl) (by kernel_rfl) (by kernel_rfl) (by kernel_rfl) (by exact fun _ _ _ h => h) (by rfl) ?_ (by assumption) ?_
          rotate_left 1
          · intro w hSw
            (try dsimp only at hSw)
            go_simp
            (try with_reducible rfl)
          (try simp only [Act.put, List.setIfInBounds_toArray, List.set_cons_zero, List.set_cons_succ])
          refine H_take (k := 7) (v := ?_) (by rfl) (by kernel_rfl) (by kernel_rfl) (by kernel_rfl) (by exact fun _ _ _ h => h) (by rfl) ?_ (by assumption) ?_
          rotate_left 1
          · intro w hSw
            (try dsimp only at hSw)
            go_simp
            (try with_reducible rfl)
          (try simp only [Act.put, List.setIfInBounds_toArray, List.set_cons_zero, List.set_cons_succ])
          refine H_take (k := 8) (v := ?_) (by rfl) (by kernel_rfl) (by kernel_rfl) (by kernel_rfl) (by exact fun _ _ _ h => h) (by rfl) ?_ (by assumption) ?_
          rotate_left 1
          · intro w' hSw
            have kc := (HRX.out.grown hSw (fun g e => by cases e)).at_ srow_len (i := 2) (a := x2) rfl 0 _ rfl
            simp only [Nat.mul_one, Nat.add_zero, Nat.zero_add, Nat.one_mul] at kc
            go_simp
            (try with_reducible rfl)
          (try simp only [Act.put, List.setIfInBounds_toArray, List.set_cons_zero, List.set_cons_succ])
          refine H_take (k := 9) (v := ?_) (by rfl) (by kernel_rfl) (by kernel_rfl) (by kernel_rfl) (by exact fun _ _ _ h => h) (by rfl) ?_ (by assumption) ?_
          rotate_left 1
          · intro w hSw
            (try dsimp only at hSw)
            go_simp
            (try with_reducible rfl)
          (try simp only [Act.put, List.setIfInBounds_toArray, List.set_cons_zero, List.set_cons_succ])
          refine H_take (k := 10) (v := ?_) (by rfl) (by kernel_rfl) (by kernel_rfl) (by kernel_rfl) (by exact fun _ _ _ h => h) (by rfl) ?_ (by assumption) ?_
          rotate_left 1
          · intro w hSw
            (try dsimp only at hSw)
            go_simp
            (try with_reducible rfl)
          (try simp only [Act.put, List.setIfInBounds_toArray, List.set_cons_zero, List.set_cons_succ])
          refine H_take (k := 11) (v := ?_) (by rfl) (by kernel_rfl) (by kernel_rfl) (by kernel_rfl) (by exact fun _ _ _ h => h) (by rfl) ?_ (by assumption) ?_
          rotate_left 1
          · intro w' hSw
            have kc := (HNO.out.grown hSw (fun g e => by cases e)).at_ nrow_len (i := 0) (a := N3) rfl 0 _ rfl
            simp only [Nat.mul_one, Nat.add_zero, Nat.zero_add, Nat.one_mul] at kc
            go_simp
            (try with_reducible rfl)
          (try simp only [Act.put, List.setIfInBounds_toArray, List.set_cons_zero, List.set_cons_succ])
          refine H_take (k := 12) (v := ?_) (by rfl) (by kernel_rfl) (by kernel_rfl) (by kernel_rfl) (by exact fun _ _ _ h => h) (by rfl) ?_ (by assumption) ?_
          rotate_left 1
          · intro w hSw
            (try dsimp only at hSw)
            go_simp
            (try with_reducible rfl)
          (try simp only [Act.put, List.setIfInBounds_toArray, List.set_cons_zero, List.set_cons_succ])
          refine H_take (k := 13) (v := ?_) (by rfl) (by kernel_rfl) (by kernel_rfl) (by kernel_rfl) (by exact fun _ _ _ h => h) (by rfl) ?_ (by assumption) ?_
          rotate_left 1
          · intro w hSw
            (try dsimp only at hSw)
            go_simp
            (try with_reducible rfl)
          (try simp only [Act.put, List.setIfInBounds_toArray, List.set_cons_zero, List.set_cons_succ])
          refine H_take (k := 14) (v := ?_) (by rfl) (by kernel_rfl) (by kernel_rfl) (by kernel_rfl) (by exact fun _ _ _ h => h) (by rfl) ?_ (by assumption) ?_
          rotate_left 1
          · intro w' hSw
            have kc := (HNO.out.grown hSw (fun g e => by cases e)).at_ nrow_len (i := 1) (a := N4) rfl 0 _ rfl
            simp only [Nat.mul_one, Nat.add_zero, Nat.zero_add, Nat.one_mul] at kc
            go_simp
            (try with_reducible rfl)
          (try simp only [Act.put, List.setIfInBounds_toArray, List.set_cons_zero, List.set_cons_succ])
          refine H_take (k := 15) (v := ?_) (by rfl) (by kernel_rfl) (by kernel_rfl) (by kernel_rfl) (by exact fun _ _ _ h => h) (by rfl) ?_ (by assumption) ?_
          rotate_left 1
          · intro w hSw
            (try dsimp only at hSw)
            go_simp
            (try with_reducible rfl)
          (try simp only [Act.put, List.setIfInBounds_toArray, List.set_cons_zero, List.set_cons_succ])
          refine H_take (k := 16) (v := ?_) (by rfl) (by kernel_rfl) (by kernel_rfl) (by kernel_rfl) (by exact fun _ _ _ h => h) (by rfl) ?_ (by assumption) ?_
          rotate_left 1
          · intro w hSw
            (try dsimp only at hSw)
            go_simp
            (try with_reducible rfl)
          (try simp only [Act.put, List.setIfInBounds_toArray, List.set_cons_zero, List.set_cons_succ])
          refine H_take (k := 17) (v := ?_) (by rfl) (by kernel_rfl) (by kernel_rfl) (by kernel_rfl) (by exact fun _ _ _ h => h) (by rfl) ?_ (by assumption) ?_
          rotate_left 1
          · intro w' hSw
            have kc := (HNO.out.grown hSw (fun g e => by cases e)).at_ nrow_len (i := 2) (a := N5) rfl 0 _ rfl
            simp only [Nat.mul_one, Nat.add_zero, Nat.zero_add, Nat.one_mul] at kc
            go_simp
            (try with_reducible rfl)
          (try simp only [Act.put, List.setIfInBounds_toArray, List.set_cons_zero, List.set_cons_succ])
          refine H_take (k := 18) (v := ?_) (by rfl) (by kernel_rfl) (by kernel_rfl) (by kernel_rfl) (by exact fun _ _ _ h => h) (by rfl) ?_ (by assumption) ?_
          rotate_left 1
          · intro w hSw
            (try dsimp only at hSw)
            go_simp
            (try with_reducible rfl)
          (try simp only [Act.put, List.setIfInBounds_toArray, List.set_cons_zero, List.set_cons_succ])
          refine H_take (k := 19) (v := ?_) (by rfl) (by kernel_rfl) (by kernel_rfl) (by kernel_rfl) (by exact fun _ _ _ h => h) (by rfl) ?_ (by assumption) ?_
          rotate_left 1
          · intro w hSw
            (try dsimp only at hSw)
            go_simp
            (try with_reducible rfl)
          (try simp only [Act.put, List.setIfInBounds_toArray, List.set_cons_zero, List.set_cons_succ])
          refine H_take (k := 20) (v := ?_) (by rfl) (by kernel_rfl) (by kernel_rfl) (by kernel_rfl) (by exact fun _ _ _ h => h) (by rfl) ?_ (by assumption) ?_
          rotate_left 1
          · intro w hSw
            (try dsimp only at hSw)
            go_simp
            (try with_reducible rfl)
          (try simp only [Act.put, List.setIfInBounds_toArray, List.set_cons_zero, List.set_cons_succ])
          refine H_take (k := 21) (v := ?_) (by rfl) (by kernel_rfl) (by kernel_rfl) (by kernel_rfl) (by exact fun _ _ _ h => h) (by rfl) ?_ (by assumption) ?_
          rotate_left 1
          · intro w' hSw
            have kc := (HRX.out.grown hSw (fun g e => by cases e)).at_ srow_len (i := 7) (a := x7) rfl 0 _ rfl
            simp only [Nat.mul_one, Nat.add_zero, Nat.zero_add, Nat.one_mul] at kc
            go_simp
            (try with_reducible rfl)
          (try simp only [Act.put, List.setIfInBounds_toArray, List.set_cons_zero, List.set_cons_succ])
          refine H_take (k := 22) (v := ?_) (by rfl) (by kernel_rfl) (by kernel_rfl) (by kernel_rfl) (by exact fun _ _ _ h => h) (by rfl) ?_ (by assumption) ?_
          rotate_left 1
          · intro w hSw
            (try dsimp only at hSw)
            go_simp
            (try with_reducible rfl)
          (try simp only [Act.put, List.setIfInBounds_toArray, List.set_cons_zero, List.set_cons_succ])
          obtain ⟨wa, hwa⟩ : ∃ v, w5.drew.alloc (.cells #[.string ⟨#[]⟩, .string ⟨#[]⟩, .string ⟨#[]⟩, .int .i64 0, .int .i64 0, .int .i64 0, .int .i64 0, .string ⟨#[]⟩] 76) = v := ⟨_, rfl⟩
          obtain ⟨sb, hsb⟩ : ∃ b, w5.drew.heap.size = b := ⟨_, rfl⟩
          have YZ := Lib.hid (show Blk wa sb 76 #[.string ⟨#[]⟩, .string ⟨#[]⟩, .string ⟨#[]⟩, .int .i64 0, .int .i64 0, .int .i64 0, .int .i64 0, .string ⟨#[]⟩] by rw [← hwa, ← hsb]; exact Blk.new _ _ _)
          have hga : w5.grownBy wa none := by rw [← hwa]; exact gr_alloc hHeld _
          have hlsb : w5.heap.size ≤ sb := by rw [← hsb]; exact Nat.le_refl _
          refine H_run (k := 23) (by rfl) (by kernel_rfl) (by rfl) (fun K hK => ?_)
          go_simp
          (try rw [hwa])
          (try rw [hsb])
          refine hK _ _ hga ?_
          clear hK K hHeld hwa hsb
          (try simp only [Act.put, List.setIfInBounds_toArray, List.set_cons_zero, List.set_cons_succ])
          refine H_run (k := 24) (by rfl) (by kernel_rfl) (by rfl) (fun K hK => ?_)
          refine wp_store_all Tryz.rcT _ _ (by rfl) sb (by rfl) 76 _ #[.string x0, .string x1, .string x2, .int .i64 N3, .int .i64 N4, .int .i64 N5, .int .i64 H, .string x7] (by rfl) YZ.out rfl rfl (by simp [Value.oneCell']) ?_
          intro wg hwg
          have hgg : w5.grownBy wg none := gr_trans hga hwg.2.1 (fun g e => .inr (by injection e with e; omega))
          refine hK _ _ hgg ?_
          have HSB := Lib.hid hwg.1
          clear hK K hwg YZ hga
          (try simp only [Act.put, List.setIfInBounds_toArray, List.set_cons_zero, List.set_cons_succ])
          refine H_done (by kernel_rfl) ?_
          have hrlt := HR0.out.lt
          have hne : rb ≠ sb := by omega
          replace HG := Lib.hid (gr_none HG.out hgg)
          replace HR0 := Lib.hid (HR0.out.grown hgg (by simp))
          (try replace HRX := Lib.hid (HRX.out.grown hgg (fun g e => by cases e)))
          (try replace HNO := Lib.hid (HNO.out.grown hgg (fun g e => by cases e)))
          clear hgg
          have c1 := HSB.out.cell 7
          have f1 := HSB.out.frozen 7
          by_cases h45 : x7.toList = [45]
          · have e1 : undS x7 = ⟨#[]⟩ := if_pos h45
            rw [e1] at HV
            have HS2 := Lib.hid (HSB.out.set_ 7 (.string ⟨#[]⟩))
            have hg9 : wg.grownBy (wg.setCell ⟨sb, 7, none⟩ (.string ⟨#[]⟩)) (some sb) := gr_setCell (gr_refl _ _) (.inl rfl) _
            replace HR0 := Lib.hid (HR0.out.grown hg9 (by simp; omega))
            have HGS := Lib.hid (show w.grownBy (wg.setCell ⟨sb, 7, none⟩ (.string ⟨#[]⟩)) none from gr_trans HG.out hg9 (fun g e => .inr (by injection e with e; have := HRB.out; omega)))
            clear hg9 e1
            go_wp2_with (first
              | (refine wpl_load_all Tryz.rcT rfl _ rfl _ rfl _ _ HS2.out rfl ?_)
              | (refine wpl_store_all Tryz.rcT rfl _ _ rfl _ rfl _ _ _ rfl HR0.out rfl rfl (by simp [Value.oneCell']) ?_; intro wz hst; have HST := Lib.hid hst; clear hst)
              | fail)
            refine ret_cell_tmp Tryz.rcT rfl rb 76 #[.string x0, .string x1, .string x2, .int .i64 N3, .int .i64 N4, .int .i64 N5, .int .i64 H, .string ⟨#[]⟩] _ rfl rfl HST.out.1 rfl rfl ?_
            exact ⟨by rw [HV.out]; try rfl, gr_trans HGS.out HST.out.2.1 (fun g e => .inr (by injection e with e; rw [← e]; exact HRB.out))⟩
          · have e1 : undS x7 = x7 := if_neg h45
            rw [e1] at HV
            have e2 : (x7.toList == [45]) = false := by rw [beq_eq_false_iff_ne]; exact h45
            clear h45 e1
            go_wp2_with (first
              | (refine wpl_load_all Tryz.rcT rfl _ rfl _ rfl _ _ HSB.out rfl ?_)
              | (refine wpl_store_all Tryz.rcT rfl _ _ rfl _ rfl _ _ _ rfl HR0.out rfl rfl (by simp [Value.oneCell']) ?_; intro wz hst; have HST := Lib.hid hst; clear hst)
              | fail)
            refine ret_cell_tmp Tryz.rcT rfl rb 76 #[.string x0, .string x1, .string x2, .int .i64 N3, .int .i64 N4, .int .i64 N5, .int .i64 H, .string x7] _ rfl rfl HST.out.1 rfl rfl ?_
            exact ⟨by rw [HV.out]; try rfl, gr_trans HG.out HST.out.2.1 (fun g e => .inr (by injection e with e; rw [← e]; exact HRB.out))⟩
    · have hl1 := hrec.len
      obtain ⟨n, hn⟩ : ∃ n, L.length = n := ⟨_, rfl⟩
      rw [hn] at h5 ⊢
      have d5 : ((n : Int) != 8) = true := by rw [bne_iff_ne]; omega
      have HV := Lib.hid (show (Value.tuple #[.agg #[.string (rcR s).id, .string (rcR s).frm, .string (rcR s).too, .int .i64 (rcR s).at_, .int .i64 (rcR s).ring, .int .i64 (rcR s).talk, .int .i64 (rcR s).how, .string (rcR s).car], .bool (rcB s)]) = .tuple #[.agg #[.string ⟨#[]⟩, .string ⟨#[]⟩, .string ⟨#[]⟩, .int .i64 0, .int .i64 0, .int .i64 0, .int .i64 0, .string ⟨#[]⟩], .bool false] by
        have h : rcB s = false := by unfold rcB; rw [HL.out, hn, decide_eq_false h5]; cases okW s <;> rfl
        unfold rcR; rw [h]; rfl)
      clear h5 hl1 hrec hn
      go_wp2_with (first
        | (refine wpl_store_all Tryz.rcT rfl _ _ rfl _ rfl _ _ _ rfl HR0.out rfl rfl (by simp [Value.oneCell']) ?_; intro wz hst; have HST := Lib.hid hst; clear hst)
        | fail)
      refine ret_cell_tmp Tryz.rcT rfl rb 76 #[.string ⟨#[]⟩, .string ⟨#[]⟩, .string ⟨#[]⟩, .int .i64 0, .int .i64 0, .int .i64 0, .int .i64 0, .string ⟨#[]⟩] _ rfl rfl HST.out.1 rfl rfl ?_
      exact ⟨by rw [HV.out]; try rfl, gr_trans HG.out HST.out.2.1 (fun g e => .inr (by injection e with e; rw [← e]; exact HRB.out))⟩
  · have HV := Lib.hid (show (Value.tuple #[.agg #[.string (rcR s).id, .string (rcR s).frm, .string (rcR s).too, .int .i64 (rcR s).at_, .int .i64 (rcR s).ring, .int .i64 (rcR s).talk, .int .i64 (rcR s).how, .string (rcR s).car], .bool (rcB s)]) = .tuple #[.agg #[.string ⟨#[]⟩, .string ⟨#[]⟩, .string ⟨#[]⟩, .int .i64 0, .int .i64 0, .int .i64 0, .int .i64 0, .string ⟨#[]⟩], .bool false] by
      have h : rcB s = false := by unfold rcB; rw [hno]; rfl
      unfold rcR; rw [h]; rfl)
    clear hno
    go_wp2_with (first
      | (refine wpl_store_all Tryz.rcT rfl _ _ rfl _ rfl _ _ _ rfl HR0.out rfl rfl (by simp [Value.oneCell']) ?_; intro wz hst; have HST := Lib.hid hst; clear hst)
      | fail)
    refine ret_cell_tmp Tryz.rcT rfl rb 76 #[.string ⟨#[]⟩, .string ⟨#[]⟩, .string ⟨#[]⟩, .int .i64 0, .int .i64 0, .int .i64 0, .int .i64 0, .string ⟨#[]⟩] _ rfl rfl HST.out.1 rfl rfl ?_
    exact ⟨by rw [HV.out]; try rfl, gr_trans HG.out HST.out.2.1 (fun g e => .inr (by injection e with e; rw [← e]; exact HRB.out))⟩
def rOk (t : List UInt8) (k : Nat) : Bool := rcB (lnB t k)
def rOut (t : List UInt8) : Nat → List RcV
  | 0 => []
  | k + 1 => rOut t k ++ [rcV (lnB t k)]
/-- Behind k lines that were taken: what was read lies in a slice of its own behind the captured variable. -/
structure StR (t : List UInt8) (base : World) (ob k : Nat) (w : World) : Prop where
  g : base.grownBy w none
  mx : MxT w
  pw : PwT w
  hob : base.heap.size ≤ ob
  hm : 0 < base.heap.size
  hp : 2 < base.heap.size
  out : ∃ B c, Blk w ob 51 #[.slice B k c] ∧ OwnR RcV.row 8 w (ob + 1) 76 B k c (rOut t k)
theorem StR.kept {t : List UInt8} {base w w' : World} {ob k : Nat} (h : StR t base ob k w) (hg : w.grownBy w' none) : StR t base ob k w' := by
  obtain ⟨B, c, h1, h2⟩ := h.out
  exact ⟨gr_none h.g hg, h.mx.grown hg, h.pw.grown hg, h.hob, h.hm, h.hp, B, c, h1.grown hg (by simp), h2.kept hg (fun g e => by cases e)⟩
theorem Tryz.rcsT2 : ElemT Tryz.prog 51 76 8 96 (.agg #[.string ⟨#[]⟩, .string ⟨#[]⟩, .string ⟨#[]⟩, .int .i64 0, .int .i64 0, .int .i64 0, .int .i64 0, .string ⟨#[]⟩]) := elemT_of Tryz.underlying51 (by kernel_rfl) rfl (by decide)
set_option maxHeartbeats 4000000 in
theorem pRcLine_any (t : List UInt8) (base : World) (ob k : Nat) (line : ByteArray) (w : World) (h : StR t base ob k w) (hl : line.data.toList = lineN t k) (hs : line.size ≤ 1000000) (hk : k < 1000000) :
    Calls Tryz.prog 120 #[.string line, .pointer (some ⟨ob, 0, none⟩)] w (fun e w' => e = .returned (.bool (rOk t k)) ∧ base.grownBy w' none ∧ (rOk t k = true → StR t base ob (k + 1) w')) := by
  have hln := lnB_eq hl
  obtain ⟨B, c, hob, hown⟩ := h.out
  have H := Lib.hid h; have HOB := Lib.hid hob; have HO := Lib.hid hown
  have HOKB := Lib.hid (show rOk t k = rcB line by unfold rOk; rw [← hln])
  have HRV := Lib.hid (show rcB line = true → rOut t (k + 1) = rOut t k ++ [rcR line] from fun e => by
    show rOut t k ++ [rcV (lnB t k)] = _
    rw [← hln]; unfold rcR; rw [e]; rfl)
  clear hl hln h hob hown
  go_enter Tryz.func120, Tryz.ntmps120
  go_wp2_with fail
  refine (readRecord_any line _ hs H.out.mx).mono ?_
  rintro e w1 ⟨rfl, hg1⟩
  obtain ⟨RB, hRB⟩ : ∃ b, rcB line = b := ⟨_, rfl⟩
  have HRB := Lib.hid hRB
  rw [hRB]
  obtain ⟨w2, hw2⟩ : ∃ v, w1.alloc (.cells #[.string (rcR line).id, .string (rcR line).frm, .string (rcR line).too, .int .i64 (rcR line).at_, .int .i64 (rcR line).ring, .int .i64 (rcR line).talk, .int .i64 (rcR line).how, .string (rcR line).car] 76) = v := ⟨_, rfl⟩
  obtain ⟨sb, hsb⟩ : ∃ b, w1.heap.size = b := ⟨_, rfl⟩
  have HSB := Lib.hid (show Blk w2 sb 76 #[.string (rcR line).id, .string (rcR line).frm, .string (rcR line).too, .int .i64 (rcR line).at_, .int .i64 (rcR line).ring, .int .i64 (rcR line).talk, .int .i64 (rcR line).how, .string (rcR line).car] by rw [← hw2, ← hsb]; exact Blk.new _ _ _)
  have hg2 : w.grownBy w2 none := by rw [← hw2]; exact gr_alloc hg1 _
  have HW2 := Lib.hid hw2; have HZ2 := Lib.hid hsb
  replace H := Lib.hid (H.out.kept hg2)
  replace HOB := Lib.hid (HOB.out.grown hg2 (by simp))
  replace HO := Lib.hid (HO.out.kept hg2 (fun g e => by cases e))
  have zob := HOB.out.lt
  have zb := H.out.hob
  have hb1 : base.heap.size ≤ ob + 1 := by omega
  have hob2 : ob + 1 ≤ w2.heap.size := by omega
  clear hw2 hsb hg1 hg2 hRB
  go_upto_region 2 with (fail)
  rw [HW2.out]
  (try rw [HZ2.out])
  clear HW2 HZ2
  have o0 := HOB.out.cell 0
  obtain ⟨RC, hRC⟩ : ∃ x, rcR line = x := ⟨_, rfl⟩
  rw [hRC] at HSB HRV
  clear hRC
  go_wp2_with (first
    | (refine wpl_load_all Tryz.rcT rfl _ rfl _ rfl _ _ HSB.out rfl ?_)
    | (at_builtin; refine wpl_app _ rfl _ _ Tryz.rcsT2 rfl (ob + 1) B k c _ rfl (by exact HO.out.1.alloc _) _ _ 1 1 [.string RC.id, .string RC.frm, .string RC.too, .int .i64 RC.at_, .int .i64 RC.ring, .int .i64 RC.talk, .int .i64 RC.how, .string RC.car] rfl (by exact Reads.one _ _ _ _ rfl) (by simp [Value.oneCell']) (by unfold maxLen; omega) (by omega) (by simp; omega) ?_; intro A9 c9 w9 h9; have HB9 := Lib.hid ((HOB.out.alloc _).grown h9.2.1 (by intro e; have := (HO.out.1.lt e.symm).1; omega)); have f9 := HB9.out.frozen 0; have o9 := HB9.out.cell 0; have H9 := Lib.hid h9; clear h9 o0)
    | fail)
  go_ret
  have hgA := gr_alloc (gr_refl w2 none) (.cells #[.string RC.id, .string RC.frm, .string RC.too, .int .i64 RC.at_, .int .i64 RC.ring, .int .i64 RC.talk, .int .i64 RC.how, .string RC.car] 76)
  have hg9 := H9.out.2.1
  have hgb : base.grownBy w9 none := gr_trans (gr_none H.out.g hgA) hg9 (fun g e => .inr (by have := (HO.out.1.lt e).1; omega))
  have hgs : w9.grownBy (w9.setCell ⟨ob, 0, none⟩ (.slice A9 (k + 1) c9)) (some ob) := gr_setCell (gr_refl _ _) (.inl rfl) _
  have hgf : base.grownBy (w9.setCell ⟨ob, 0, none⟩ (.slice A9 (k + 1) c9)) none := gr_trans hgb hgs (fun g e => .inr (by injection e with e; omega))
  refine ⟨by rw [HOKB.out, HRB.out]; try rfl, hgf, fun e => ?_⟩
  have e2 : rcB line = true := by rw [← HOKB.out]; exact e
  refine ⟨hgf, ?_, ?_, H.out.hob, H.out.hm, H.out.hp, A9, c9, HB9.out.set_ 0 _, ?_⟩
  · exact ((H.out.mx.grown hgA).low hg9 (fun g e => by have := (HO.out.1.lt e).1; have := H.out.hm; omega)).low hgs (fun g e => by injection e with e; have := H.out.hm; omega)
  · exact ((H.out.pw.grown hgA).low hg9 (fun g e => by have := (HO.out.1.lt e).1; have := H.out.hp; omega)).low hgs (fun g e => by injection e with e; have := H.out.hp; omega)
  · rw [HRV.out e2]
    exact ((HO.out.alloc _).app rfl H9.out).kept hgs (fun g e2 e3 => by injection e2 with e2; have := (H9.out.1.lt e3).1; omega)
end Go.Proofs.YtoddgaocochdgaaGreatDoor

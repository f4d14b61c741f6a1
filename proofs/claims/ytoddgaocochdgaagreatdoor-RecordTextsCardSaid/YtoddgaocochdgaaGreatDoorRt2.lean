/- Contract of RecordLines. Conditions: records whose numbers can be written; the table of powers of ten. -/
import Derived.Test.YtoddgaocochdgaaGreatDoorBun5
import Derived.Test.YtoddgaocochdgaaGreatDoorBun3
namespace Go.Proofs.YtoddgaocochdgaaGreatDoor
open Go.RowKit

set_option maxHeartbeats 16000000 in
set_option maxRecDepth 100000 in
theorem recordLines_any (lo : Nat) (A : Option Addr) (n c0 : Nat) (l : List RcV) (w : World) (hS : Rcs w lo A n c0 l) (hn : n ≤ 3000) (hw : ∀ z ∈ l, RcRg z) (hp : PwT w) :
    Calls Tryz.prog 37 #[.slice A n c0] w (RetV (.string ⟨(rcTo l n).toArray⟩) w) := by
  have HRC := Lib.hid hS; have HRG := Lib.hid hw; have HPW := Lib.hid hp
  have HLEN := Lib.hid (fun k => rcTo_len (l := l) (M := 1000) (fun z hz => ⟨hw z hz, (hS.2 z hz).1, (hS.2 z hz).2.1, (hS.2 z hz).2.2.1, (hS.2 z hz).2.2.2.1⟩) k)
  obtain ⟨nl, hnl⟩ : ∃ x, (⟨#[10]⟩ : ByteArray) = x := ⟨_, rfl⟩
  have HNL1 := Lib.hid (show nl.size = 1 by rw [← hnl]; rfl)
  have HNL := Lib.hid (show nl.data.toList = [10] by rw [← hnl])
  clear hS hw hp
  go_enter Tryz.func37, Tryz.ntmps37
  go_wp2_with fail
  go_loopw [3, 5, 8] (fun v _ t wr => ∃ (k : Nat) (s : ByteArray), k ≤ n ∧ t = .int .i64 k ∧ v = .string s ∧ s.data.toList = rcTo l k ∧ w.grownBy wr none) (fun _ _ t _ => n - (intOf t).toNat)
  case atStart => exact ⟨0, ⟨#[]⟩, Nat.zero_le _, rfl, rfl, rfl, gr_refl _ _⟩
  case round =>
    obtain ⟨k, s, hk, rfl, rfl, hsd, hg⟩ := hrel
    have HG := Lib.hid hg; have HSD := Lib.hid hsd
    have HSS := Lib.hid (show s.size = (rcTo l k).length by rw [← hsd]; rfl)
    have hsl := HLEN.out k
    clear hg hsd
    by_cases hlt : k < n
    · obtain ⟨sg, so, z, rfl, _, _, hz2, hzc⟩ := (HRC.out.1.grown HG.out (fun g e => by cases e)).get RcV.row_len hlt
      have hz := HRC.out.2 z (mem_of_get hz2)
      have hwz := HRG.out z (mem_of_get hz2)
      obtain ⟨⟨a1, a2⟩, ⟨a3, a4⟩, ⟨a5, a6⟩, a7, a8⟩ := hwz
      obtain ⟨j, hj, hj4, hw4, hw5, hw8⟩ := hw_at a1 a2
      have hll := (rcLine_len (M := 1000) (show RcRg z from ⟨⟨a1, a2⟩, ⟨a3, a4⟩, ⟨a5, a6⟩, a7, a8⟩) hz.1 hz.2.1 hz.2.2.1 hz.2.2.2.1).2
      have HZC := Lib.hid hzc
      have HTO := Lib.hid (rcTo_succ hz2)
      have HWJ := Lib.hid hw5
      have HHJ := Lib.hid (show z.how = ((j : Nat) : Int) + 1 from hj)
      obtain ⟨J, hJ⟩ : ∃ J, jnS (rcWords z) = J := ⟨_, rfl⟩
      have hln : rcLine z = J.data.toList ++ [10] := by unfold rcLine; rw [hJ]
      have HLN := Lib.hid hln
      have hjw : jnS [z.id, z.frm, z.too, itS z.at_, itS z.ring, itS z.talk, hwS z.how, dashS z.car] = J := hJ
      have q1 := itS_size (n := z.at_) (by omega) (by omega)
      have q2 := itS_size (n := z.ring) (by omega) (by omega)
      have q3 := itS_size (n := z.talk) (by omega) (by omega)
      rw [hJ] at hll
      obtain ⟨IA, hIA⟩ : ∃ I, itS z.at_ = I := ⟨_, rfl⟩
      obtain ⟨IR, hIR⟩ : ∃ I, itS z.ring = I := ⟨_, rfl⟩
      obtain ⟨IT, hIT⟩ : ∃ I, itS z.talk = I := ⟨_, rfl⟩
      obtain ⟨DC, hDC⟩ : ∃ I, dashS z.car = I := ⟨_, rfl⟩
      obtain ⟨WD, hWD⟩ : ∃ I, hwS z.how = I := ⟨_, rfl⟩
      rw [hIA, hIR, hIT, hDC, hWD] at hjw
      rw [hIA] at q1
      rw [hIR] at q2
      rw [hIT] at q3
      rw [hWD] at HWJ
      have HIA := Lib.hid hIA; have HIR := Lib.hid hIR; have HIT := Lib.hid hIT; have HDC := Lib.hid hDC; have HJW := Lib.hid hjw
      have hlt2 : (k : Int) < (n : Int) := by omega
      clear hz2 hzc hw4 hw5 hw8 hj hJ hln hjw hIA hIR hIT hDC hWD a1 a2 hz
      obtain ⟨NJ, hNJ⟩ : ∃ N, jnS [IA, IR, IT] = N := ⟨_, rfl⟩
      have hNJ1 : NJ.size ≤ 70 := by
        rw [← hNJ, jn_len]
        simp only [List.map_cons, List.map_nil, List.sum_cons, List.sum_nil]
        omega
      have HNJ := Lib.hid (show jnS ([z.at_, z.ring, z.talk].map itS) = NJ by rw [← hNJ, ← HIA.out, ← HIR.out, ← HIT.out]; rfl)
      have HJ6 := Lib.hid (show jnS [z.id, z.frm, z.too, NJ, WD, DC] = J by rw [← hNJ, jn_mid]; exact HJW.out)
      have HBD := Lib.hid (show ∀ x ∈ [z.at_, z.ring, z.talk], -1000000000000000 ≤ x ∧ x ≤ 1000000000000000 from fun x hx => by
        simp only [List.mem_cons, List.not_mem_nil, or_false] at hx
        rcases hx with rfl | rfl | rfl
        · exact ⟨a3, a4⟩
        · exact ⟨a5, a6⟩
        · exact ⟨a7, a8⟩)
      clear hNJ a3 a4 a5 a6 a7 a8 q1 q2 q3
      obtain ⟨w1, hw1⟩ : ∃ w1, wr.alloc (.cells #[.string z.id, .string z.frm, .string z.too, .int .i64 z.at_, .int .i64 z.ring, .int .i64 z.talk, .int .i64 z.how, .string z.car] 76) = w1 := ⟨_, rfl⟩
      obtain ⟨zb, hzb⟩ : ∃ zb, wr.heap.size = zb := ⟨_, rfl⟩
      have HB := Lib.hid (show Blk w1 zb 76 #[.string z.id, .string z.frm, .string z.too, .int .i64 z.at_, .int .i64 z.ring, .int .i64 z.talk, .int .i64 z.how, .string z.car] by rw [← hw1, ← hzb]; exact Blk.new _ _ _)
      have hga : wr.grownBy w1 none := by rw [← hw1]; exact gr_alloc (gr_refl _ _) _
      have HW1 := Lib.hid hw1; have HZB := Lib.hid hzb
      clear hw1 hzb
      replace HG := Lib.hid (gr_none HG.out hga)
      clear hga
      go_upto_region 5 with (first
        | (refine wpl_load_at Tryz.rcT rfl _ rfl _ rfl [.string z.id, .string z.frm, .string z.too, .int .i64 z.at_, .int .i64 z.ring, .int .i64 z.talk, .int .i64 z.how, .string z.car] rfl (fun j u hu => by rw [add_mk]; exact HZC.out j u hu) ?_)
        | fail)
      rw [HW1.out]
      (try rw [HZB.out])
      clear HZC HW1 HZB
      refine H_begin (fun w' => w1.grownBy w' none) (by kernel_rfl) ?_
      have hHeld : w1.grownBy w1.drew none := gr_drew (gr_refl _ _)
      generalize w1.drew = wd at hHeld ⊢
      have hHJ : z.how = ((j + 1 : Nat) : Int) := by have := HHJ.out; omega
      refine H_take (k := 0) (v := ?_) (by rfl) (by kernel_rfl) (by kernel_rfl) (by kernel_rfl) (by exact fun _ _ _ h => h) (by rfl) ?_ (by assumption) ?_
      rotate_left 1
      · intro w hSw
        (try dsimp only at hSw)
        go_simp
        (try with_reducible rfl)
      (try simp only [Act.put, List.setIfInBounds_toArray, List.set_cons_zero, List.set_cons_succ])
      refine H_take (k := 1) (v := ?_) (by rfl) (by kernel_rfl) (by kernel_rfl) (by kernel_rfl) (by exact fun _ _ _ h => h) (by rfl) ?_ (by assumption) ?_
      rotate_left 1
      · intro w hSw
        (try dsimp only at hSw)
        go_simp
        (try with_reducible rfl)
      (try simp only [Act.put, List.setIfInBounds_toArray, List.set_cons_zero, List.set_cons_succ])
      refine H_take (k := 2) (v := ?_) (by rfl) (by kernel_rfl) (by kernel_rfl) (by kernel_rfl) (by exact fun _ _ _ h => h) (by rfl) ?_ (by assumption) ?_
      rotate_left 1
      · intro w' hSw
        have kc := (HB.out.grown hSw (by simp)).cell 0
        go_simp
        (try with_reducible rfl)
      (try simp only [Act.put, List.setIfInBounds_toArray, List.set_cons_zero, List.set_cons_succ])
      refine H_take (k := 3) (v := ?_) (by rfl) (by kernel_rfl) (by kernel_rfl) (by kernel_rfl) (by exact fun _ _ _ h => h) (by rfl) ?_ (by assumption) ?_
      rotate_left 1
      · intro w hSw
        (try dsimp only at hSw)
        go_simp
        (try with_reducible rfl)
      (try simp only [Act.put, List.setIfInBounds_toArray, List.set_cons_zero, List.set_cons_succ])
      refine H_take (k := 4) (v := ?_) (by rfl) (by kernel_rfl) (by kernel_rfl) (by kernel_rfl) (by exact fun _ _ _ h => h) (by rfl) ?_ (by assumption) ?_
      rotate_left 1
      · intro w' hSw
        have kc := (HB.out.grown hSw (by simp)).cell 1
        go_simp
        (try with_reducible rfl)
      (try simp only [Act.put, List.setIfInBounds_toArray, List.set_cons_zero, List.set_cons_succ])
      refine H_take (k := 5) (v := ?_) (by rfl) (by kernel_rfl) (by kernel_rfl) (by kernel_rfl) (by exact fun _ _ _ h => h) (by rfl) ?_ (by assumption) ?_
      rotate_left 1
      · intro w hSw
        (try dsimp only at hSw)
        go_simp
        (try with_reducible rfl)
      (try simp only [Act.put, List.setIfInBounds_toArray, List.set_cons_zero, List.set_cons_succ])
      refine H_take (k := 6) (v := ?_) (by rfl) (by kernel_rfl) (by kernel_rfl) (by kernel_rfl) (by exact fun _ _ _ h => h) (by rfl) ?_ (by assumption) ?_
      rotate_left 1
      · intro w' hSw
        have kc := (HB.out.grown hSw (by simp)).cell 2
        go_simp
        (try with_reducible rfl)
      (try simp only [Act.put, List.setIfInBounds_toArray, List.set_cons_zero, List.set_cons_succ])
      refine H_take (k := 7) (v := ?_) (by rfl) (by kernel_rfl) (by kernel_rfl) (by kernel_rfl) (by exact fun _ _ _ h => h) (by rfl) ?_ (by assumption) ?_
      rotate_left 1
      · intro w hSw
        (try dsimp only at hSw)
        go_simp
        (try with_reducible rfl)
      (try simp only [Act.put, List.setIfInBounds_toArray, List.set_cons_zero, List.set_cons_succ])
      refine H_take (k := 8) (v := ?_) (by rfl) (by kernel_rfl) (by kernel_rfl) (by kernel_rfl) (by exact fun _ _ _ h => h) (by rfl) ?_ (by assumption) ?_
      rotate_left 1
      · intro w' hSw
        have kc := (HB.out.grown hSw (by simp)).cell 3
        go_simp
        (try with_reducible rfl)
      (try simp only [Act.put, List.setIfInBounds_toArray, List.set_cons_zero, List.set_cons_succ])
      refine H_take (k := 9) (v := ?_) (by rfl) (by kernel_rfl) (by kernel_rfl) (by kernel_rfl) (by exact fun _ _ _ h => h) (by rfl) ?_ (by assumption) ?_
      rotate_left 1
      · intro w hSw
        (try dsimp only at hSw)
        go_simp
        (try with_reducible rfl)
      (try simp only [Act.put, List.setIfInBounds_toArray, List.set_cons_zero, List.set_cons_succ])
      refine H_take (k := 10) (v := ?_) (by rfl) (by kernel_rfl) (by kernel_rfl) (by kernel_rfl) (by exact fun _ _ _ h => h) (by rfl) ?_ (by assumption) ?_
      rotate_left 1
      · intro w' hSw
        have kc := (HB.out.grown hSw (by simp)).cell 4
        go_simp
        (try with_reducible rfl)
      (try simp only [Act.put, List.setIfInBounds_toArray, List.set_cons_zero, List.set_cons_succ])
      refine H_take (k := 11) (v := ?_) (by rfl) (by kernel_rfl) (by kernel_rfl) (by kernel_rfl) (by exact fun _ _ _ h => h) (by rfl) ?_ (by assumption) ?_
      rotate_left 1
      · intro w hSw
        (try dsimp only at hSw)
        go_simp
        (try with_reducible rfl)
      (try simp only [Act.put, List.setIfInBounds_toArray, List.set_cons_zero, List.set_cons_succ])
      refine H_take (k := 12) (v := ?_) (by rfl) (by kernel_rfl) (by kernel_rfl) (by kernel_rfl) (by exact fun _ _ _ h => h) (by rfl) ?_ (by assumption) ?_
      rotate_left 1
      · intro w' hSw
        have kc := (HB.out.grown hSw (by simp)).cell 5
        go_simp
        (try with_reducible rfl)
      (try simp only [Act.put, List.setIfInBounds_toArray, List.set_cons_zero, List.set_cons_succ])
      refine H_take (k := 16) (v := ?_) (by rfl) (by kernel_rfl) (by kernel_rfl) (by kernel_rfl) (by exact fun _ _ _ h => h) (by rfl) ?_ (by assumption) ?_
      rotate_left 1
      · intro w hSw
        (try dsimp only at hSw)
        go_simp
        (try with_reducible rfl)
      (try simp only [Act.put, List.setIfInBounds_toArray, List.set_cons_zero, List.set_cons_succ])
      refine H_take (k := 17) (v := ?_) (by rfl) (by kernel_rfl) (by kernel_rfl) (by kernel_rfl) (by exact fun _ _ _ h => h) (by rfl) ?_ (by assumption) ?_
      rotate_left 1
      · intro w' hSw
        have kc := (HB.out.grown hSw (by simp)).cell 6
        go_simp
        (try with_reducible rfl)
      (try simp only [Act.put, List.setIfInBounds_toArray, List.set_cons_zero, List.set_cons_succ])
      refine H_take (k := 20) (v := ?_) (by rfl) (by kernel_rfl) (by kernel_rfl) (by kernel_rfl) (by exact fun _ _ _ h => h) (by rfl) ?_ (by assumption) ?_
      rotate_left 1
      · intro w hSw
        (try dsimp only at hSw)
        go_simp
        (try with_reducible rfl)
      (try simp only [Act.put, List.setIfInBounds_toArray, List.set_cons_zero, List.set_cons_succ])
      refine H_take (k := 21) (v := ?_) (by rfl) (by kernel_rfl) (by kernel_rfl) (by kernel_rfl) (by exact fun _ _ _ h => h) (by rfl) ?_ (by assumption) ?_
      rotate_left 1
      · intro w' hSw
        have kc := (HB.out.grown hSw (by simp)).cell 7
        go_simp
        (try with_reducible rfl)
      (try simp only [Act.put, List.setIfInBounds_toArray, List.set_cons_zero, List.set_cons_succ])
      obtain ⟨b7, hb7⟩ : ∃ b, wd.heap.size = b := ⟨_, rfl⟩
      obtain ⟨wi, hwi⟩ : ∃ v, wd.alloc (.cells #[.int .i64 z.at_, .int .i64 z.ring, .int .i64 z.talk] 3) = v := ⟨_, rfl⟩
      have hga : wd.grownBy wi none := by rw [← hwi]; exact gr_alloc (gr_refl _ _) _
      have HRI := Lib.hid (show Recs nrow 1 wi b7 (some ⟨b7, 0, none⟩) 3 3 [z.at_, z.ring, z.talk] from ⟨by rw [nrow_map, ← hwi, ← hb7]; exact Reads.blk (Blk.new _ _ _) 1 3 rfl, rfl⟩)
      have hgz := gr_none hHeld hga
      refine H_run (k := 13) (by rfl) (by kernel_rfl) (by rfl) (fun K hK => ?_)
      go_simp

      (try rw [hwi])
      (try rw [hb7])
      refine hK _ _ hgz ?_
      clear hK K

      clear hHeld hwi hb7 hga
      have hHeld := hgz
      clear hgz
      (try simp only [Act.put, List.setIfInBounds_toArray, List.set_cons_zero, List.set_cons_succ])
      refine H_run (k := 14) (by rfl) (by kernel_rfl) (by rfl) (fun K hK => ?_)
      go_simp

      refine (numbers_any b7 (some ⟨b7, 0, none⟩) 3 3 [z.at_, z.ring, z.talk] _ HRI.out (by omega) (by omega) HBD.out (HPW.out.grown (gr_none HG.out hHeld)) (by rw [HNJ.out]; omega)).mono ?_
      rintro e wx ⟨rfl, hgx⟩
      rw [HNJ.out]
      have hgz := gr_none hHeld hgx
      refine hK _ _ hgz ?_
      clear hK K

      clear hHeld hgx HRI
      have hHeld := hgz
      clear hgz
      (try simp only [Act.put, List.setIfInBounds_toArray, List.set_cons_zero, List.set_cons_succ])
      refine H_run (k := 15) (by rfl) (by kernel_rfl) (by rfl) (fun K hK => ?_)
      go_simp
      refine (dWordsR_any _).mono ?_
      rintro e w3 ⟨rfl, hr3, hg3⟩
      have hgz := gr_none hHeld hg3
      refine hK _ _ hgz ?_
      clear hK K
      clear hHeld hg3
      have hHeld := hgz
      have HW3 := Lib.hid hr3
      clear hr3 hgz
      (try simp only [Act.put, List.setIfInBounds_toArray, List.set_cons_zero, List.set_cons_succ])

      have p1 : (0 : Int) ≤ ((j + 1 : Nat) : Int) := by omega
      have p2 : ((j + 1 : Nat) : Int) < 5 := by omega
      have p3 : (0 : Int) ≤ (j : Int) + 1 := by omega
      have p4 : (j : Int) + 1 < 5 := by omega
      have p5 : ((j : Int) + 1).toNat = j + 1 := by omega
      refine H_take (k := 18) (v := ?_) (by rfl) (by kernel_rfl) (by kernel_rfl) (by kernel_rfl) (by exact fun _ _ _ h => h) (by rfl) ?_ (by assumption) ?_
      rotate_left 1
      · intro w hSw
        (try dsimp only at hSw)
        go_simp
        (try with_reducible rfl)
      (try simp only [Act.put, List.setIfInBounds_toArray, List.set_cons_zero, List.set_cons_succ])
      have kw := HW3.out.at_ srow_len HWJ.out 0 _ rfl
      simp only [Nat.mul_one, Nat.add_zero, Nat.zero_add] at kw
      refine H_runTwo (k1 := 19) (k2 := 22) (by rfl) (by rfl) (by kernel_rfl) (by rfl) (by rfl) (fun K hK => ?_) (fun K hK => ?_)
      · go_simp
        refine hK _ _ hHeld ?_
        clear hK K
        clear kw
        (try simp only [Act.put, List.setIfInBounds_toArray, List.set_cons_zero, List.set_cons_succ])
        refine H_run (k := 22) (by rfl) (by kernel_rfl) (by rfl) (fun K hK => ?_)
        go_simp
        refine (dash_any z.car _).mono ?_
        rintro e wx ⟨rfl, rfl⟩
        rw [HDC.out]
        refine hK _ _ hHeld ?_
        clear hK K
        (try simp only [Act.put, List.setIfInBounds_toArray, List.set_cons_zero, List.set_cons_succ])
        obtain ⟨w8, rfl⟩ : ∃ w8 : World, w8 = w3 := ⟨_, rfl⟩
        obtain ⟨b8, hb8⟩ : ∃ b, w8.heap.size = b := ⟨_, rfl⟩
        obtain ⟨wa, hwa⟩ : ∃ v, w8.alloc (.cells #[.string z.id, .string z.frm, .string z.too, .string NJ, .string WD, .string DC] 9) = v := ⟨_, rfl⟩
        have hga : w8.grownBy wa none := by rw [← hwa]; exact gr_alloc (gr_refl _ _) _
        have HRX := Lib.hid (show Recs srow 1 wa b8 (some ⟨b8, 0, none⟩) 6 6 [z.id, z.frm, z.too, NJ, WD, DC] from ⟨by rw [flat_srow, ← hwa, ← hb8]; exact Reads.blk (Blk.new _ _ _) 1 6 rfl, rfl⟩)
        have hgz := gr_none hHeld hga
        refine H_run (k := 23) (by rfl) (by kernel_rfl) (by rfl) (fun K hK => ?_)
        go_simp
        (try rw [hwa])
        (try rw [hb8])
        refine hK _ _ hgz ?_
        clear hK K
        clear hHeld hwa hb8 hga
        have hHeld := hgz
        clear hgz
        (try simp only [Act.put, List.setIfInBounds_toArray, List.set_cons_zero, List.set_cons_succ])
        refine H_run (k := 24) (by rfl) (by kernel_rfl) (by rfl) (fun K hK => ?_)
        go_simp
        refine (joinC_any b8 [z.id, z.frm, z.too, NJ, WD, DC] 6 6 b8 _ HRX.out (by omega) (by omega) (by rw [HJ6.out]; omega)).mono ?_
        rintro e w9 ⟨rfl, hg9⟩
        rw [HJ6.out]
        have hgz := gr_none hHeld hg9
        refine hK _ _ hgz ?_
        clear hK K
        clear hHeld hg9 HRX
        have hHeld := hgz
        (try simp only [Act.put, List.setIfInBounds_toArray, List.set_cons_zero, List.set_cons_succ])
        have a1 : ¬ 9223372036854775807 < J.size + nl.size := by have := HNL1.out; omega
        obtain ⟨JN, hJN⟩ : ∃ x, J ++ nl = x := ⟨_, rfl⟩
        have HJN1 := Lib.hid (show JN.size = J.size + 1 by rw [← hJN, appS2, HNL1.out])
        have HJN := Lib.hid (show JN.data.toList = rcLine z by rw [← hJN, data_app, HNL.out, HLN.out])
        refine H_take (k := 25) (v := ?_) (by rfl) (by kernel_rfl) (by kernel_rfl) (by kernel_rfl) (by exact fun _ _ _ h => h) (by rfl) ?_ (by assumption) ?_
        rotate_left 1
        · intro w hSw
          (try dsimp only at hSw)
          go_simp
          (try with_reducible rfl)
        (try simp only [Act.put, List.setIfInBounds_toArray, List.set_cons_zero, List.set_cons_succ])
        have a2 : ¬ 9223372036854775807 < s.size + JN.size := by have := HSS.out; have := HJN1.out; omega
        obtain ⟨S2, hS2⟩ : ∃ x, s ++ JN = x := ⟨_, rfl⟩
        have HS2 := Lib.hid (show S2.data.toList = rcTo l (k + 1) by rw [← hS2, data_app, HSD.out, HJN.out, HTO.out])
        refine H_take (k := 26) (v := ?_) (by rfl) (by kernel_rfl) (by kernel_rfl) (by kernel_rfl) (by exact fun _ _ _ h => h) (by rfl) ?_ (by assumption) ?_
        rotate_left 1
        · intro w hSw
          (try dsimp only at hSw)
          go_simp
          (try with_reducible rfl)
        (try simp only [Act.put, List.setIfInBounds_toArray, List.set_cons_zero, List.set_cons_succ])
        refine H_take (k := 27) (v := ?_) (by rfl) (by kernel_rfl) (by kernel_rfl) (by kernel_rfl) (by exact fun _ _ _ h => h) (by rfl) ?_ (by assumption) ?_
        rotate_left 1
        · intro w hSw
          (try dsimp only at hSw)
          go_simp
          (try with_reducible rfl)
        (try simp only [Act.put, List.setIfInBounds_toArray, List.set_cons_zero, List.set_cons_succ])
        refine H_done (by kernel_rfl) ?_
        replace HG := Lib.hid (gr_none HG.out hgz)
        clear hHeld hgz hJN hS2 a1 a2
        go_wp2_with fail
        go_roundw
        case rel => exact ⟨k + 1, S2, by omega, by go_num, rfl, HS2.out, HG.out⟩
        case measure => simp [intOf]; omega
      · clear kw
        go_simp
        refine (dash_any z.car _).mono ?_
        rintro e wx ⟨rfl, rfl⟩
        rw [HDC.out]
        refine hK _ _ hHeld ?_
        clear hK K
        (try simp only [Act.put, List.setIfInBounds_toArray, List.set_cons_zero, List.set_cons_succ])
        have kw := HW3.out.at_ srow_len HWJ.out 0 _ rfl
        simp only [Nat.mul_one, Nat.add_zero, Nat.zero_add] at kw
        refine H_run (k := 19) (by rfl) (by kernel_rfl) (by rfl) (fun K hK => ?_)
        go_simp
        refine hK _ _ hHeld ?_
        clear hK K
        clear kw
        (try simp only [Act.put, List.setIfInBounds_toArray, List.set_cons_zero, List.set_cons_succ])
        obtain ⟨w8, rfl⟩ : ∃ w8 : World, w8 = w3 := ⟨_, rfl⟩
        obtain ⟨b8, hb8⟩ : ∃ b, w8.heap.size = b := ⟨_, rfl⟩
        obtain ⟨wa, hwa⟩ : ∃ v, w8.alloc (.cells #[.string z.id, .string z.frm, .string z.too, .string NJ, .string WD, .string DC] 9) = v := ⟨_, rfl⟩
        have hga : w8.grownBy wa none := by rw [← hwa]; exact gr_alloc (gr_refl _ _) _
        have HRX := Lib.hid (show Recs srow 1 wa b8 (some ⟨b8, 0, none⟩) 6 6 [z.id, z.frm, z.too, NJ, WD, DC] from ⟨by rw [flat_srow, ← hwa, ← hb8]; exact Reads.blk (Blk.new _ _ _) 1 6 rfl, rfl⟩)
        have hgz := gr_none hHeld hga
        refine H_run (k := 23) (by rfl) (by kernel_rfl) (by rfl) (fun K hK => ?_)
        go_simp
        (try rw [hwa])
        (try rw [hb8])
        refine hK _ _ hgz ?_
        clear hK K
        clear hHeld hwa hb8 hga
        have hHeld := hgz
        clear hgz
        (try simp only [Act.put, List.setIfInBounds_toArray, List.set_cons_zero, List.set_cons_succ])
        refine H_run (k := 24) (by rfl) (by kernel_rfl) (by rfl) (fun K hK => ?_)
        go_simp
        refine (joinC_any b8 [z.id, z.frm, z.too, NJ, WD, DC] 6 6 b8 _ HRX.out (by omega) (by omega) (by rw [HJ6.out]; omega)).mono ?_
        rintro e w9 ⟨rfl, hg9⟩
        rw [HJ6.out]
        have hgz := gr_none hHeld hg9
        refine hK _ _ hgz ?_
        clear hK K
        clear hHeld hg9 HRX
        have hHeld := hgz
        (try simp only [Act.put, List.setIfInBounds_toArray, List.set_cons_zero, List.set_cons_succ])
        have a1 : ¬ 9223372036854775807 < J.size + nl.size := by have := HNL1.out; omega
        obtain ⟨JN, hJN⟩ : ∃ x, J ++ nl = x := ⟨_, rfl⟩
        have HJN1 := Lib.hid (show JN.size = J.size + 1 by rw [← hJN, appS2, HNL1.out])
        have HJN := Lib.hid (show JN.data.toList = rcLine z by rw [← hJN, data_app, HNL.out, HLN.out])
        refine H_take (k := 25) (v := ?_) (by rfl) (by kernel_rfl) (by kernel_rfl) (by kernel_rfl) (by exact fun _ _ _ h => h) (by rfl) ?_ (by assumption) ?_
        rotate_left 1
        · intro w hSw
          (try dsimp only at hSw)
          go_simp
          (try with_reducible rfl)
        (try simp only [Act.put, List.setIfInBounds_toArray, List.set_cons_zero, List.set_cons_succ])
        have a2 : ¬ 9223372036854775807 < s.size + JN.size := by have := HSS.out; have := HJN1.out; omega
        obtain ⟨S2, hS2⟩ : ∃ x, s ++ JN = x := ⟨_, rfl⟩
        have HS2 := Lib.hid (show S2.data.toList = rcTo l (k + 1) by rw [← hS2, data_app, HSD.out, HJN.out, HTO.out])
        refine H_take (k := 26) (v := ?_) (by rfl) (by kernel_rfl) (by kernel_rfl) (by kernel_rfl) (by exact fun _ _ _ h => h) (by rfl) ?_ (by assumption) ?_
        rotate_left 1
        · intro w hSw
          (try dsimp only at hSw)
          go_simp
          (try with_reducible rfl)
        (try simp only [Act.put, List.setIfInBounds_toArray, List.set_cons_zero, List.set_cons_succ])
        refine H_take (k := 27) (v := ?_) (by rfl) (by kernel_rfl) (by kernel_rfl) (by kernel_rfl) (by exact fun _ _ _ h => h) (by rfl) ?_ (by assumption) ?_
        rotate_left 1
        · intro w hSw
          (try dsimp only at hSw)
          go_simp
          (try with_reducible rfl)
        (try simp only [Act.put, List.setIfInBounds_toArray, List.set_cons_zero, List.set_cons_succ])
        refine H_done (by kernel_rfl) ?_
        replace HG := Lib.hid (gr_none HG.out hgz)
        clear hHeld hgz hJN hS2 a1 a2
        go_wp2_with fail
        go_roundw
        case rel => exact ⟨k + 1, S2, by omega, by go_num, rfl, HS2.out, HG.out⟩
        case measure => simp [intOf]; omega
    · obtain rfl : k = n := by omega
      have HST := Lib.hid (show (⟨(rcTo l k).toArray⟩ : ByteArray) = s by rw [← HSD.out])
      go_wp2_with fail
      go_ret
      exact ⟨by rw [HST.out]; try rfl, HG.out⟩
end Go.Proofs.YtoddgaocochdgaaGreatDoor

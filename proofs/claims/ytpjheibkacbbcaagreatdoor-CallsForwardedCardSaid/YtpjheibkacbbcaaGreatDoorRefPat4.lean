/- Contract of shapeOf. Conditions: none. -/
import Derived.Test.YtpjheibkacbbcaaGreatDoorBun3
import Derived.Deep.CutBlock
namespace Go.Proofs.YtpjheibkacbbcaaGreatDoor
open Go.RowKit

set_option maxRecDepth 100000 in
set_option maxHeartbeats 8000000 in
theorem shapeOf_any (s : ByteArray) (w : World) (hs : s.size ≤ 60) : Calls Tryz.prog 220 #[.string s] w (RetP (IsShp w.heap.size (nb s)) w) := by
  obtain ⟨l, hl⟩ : ∃ l, nb s = l := ⟨_, rfl⟩
  have HLS := Lib.hid hl
  have HLL := Lib.hid (show l.length = s.size by rw [← hl, nb_len])
  rw [hl]
  obtain ⟨dg, hdg⟩ : ∃ dg, (⟨#[48, 49, 50, 51, 52, 53, 54, 55, 56, 57]⟩ : ByteArray) = dg := ⟨_, rfl⟩
  have HDG := Lib.hid (show nb dg = dgs by rw [← hdg]; exact nb_dgs)
  have dgz : dg.size = 10 := by rw [← nb_len, HDG.out]; rfl
  have dg10 : 10 ≤ dg.size := by omega
  have j0 : (1 : Int) ≤ (dg.size : Int) := by omega
  have j1 : (2 : Int) ≤ (dg.size : Int) := by omega
  clear hl dgz
  go_enter Tryz.func220, Tryz.ntmps220
  go_wp2_with fail
  go_loopw [0, 5, 6, 7] (fun v _ _ _ wr => ShpLoop w l v wr) (fun v _ _ _ _ => strSz v)
  case atStart =>
    refine ⟨s, l.length + 1, [], none, 0, 0, rfl, by have := HLL.out; omega, by omega, ?_, ?_, Own.nil _ _ _ _, gr_alloc (gr_alloc (gr_refl _ _) _) _, rfl, by rw [HLS.out]⟩
    · exact (Blk.new w _ _).alloc _
    · have h := Blk.new (w.alloc (.cells #[.slice none 0 0, .int .u8 0] 298)) 298 #[.slice none 0 0, .int .u8 0]
      simpa using h
  case round =>
    obtain ⟨t, f, S, A, n, c, rfl, hf, hn, hz, ho, hown, hg, hlen, hsh⟩ := hrel
    obtain ⟨f, rfl⟩ : ∃ f', f = f' + 1 := ⟨f - 1, by omega⟩
    have HZ := Lib.hid hz; have HO := Lib.hid ho; have HW := Lib.hid hown; have HG := Lib.hid hg; have HN := Lib.hid hlen; have HS := Lib.hid hsh
    have cO := ho.cell; have fO := ho.frozen
    have cZ := hz.cell; have fZ := hz.frozen
    have zr := hg.size
    have z1 := ho.lt
    clear hz ho hown hg hlen hsh
    by_cases h0 : nb t = []
    · have e1 : t.toList = [] := str_eq (by simpa using h0)
      have HSH := Lib.hid (show shpL l = if 1 ≤ many (S, 0) ∧ many (S, 0) ≤ 30 then some (S, 0) else none from shpL_of (by rw [← HS.out, h0]; exact shpF_end))
      have HMN := Lib.hid (show many (S, 0) = n by unfold many; rw [if_pos rfl]; exact HN.out)
      obtain ⟨B, hB⟩ : ∃ B, inB (n : Int) 1 30 = B := ⟨_, rfl⟩
      have HB := Lib.hid hB
      clear h0 hB
      go_wp2_with fail
      go_region_law (first
        | (go_simp
           go_at_call 105
           refine (in_any _ _ _ _).mono ?_
           rintro e w' ⟨rfl, rfl⟩
           rw [HB.out])
        | fail)
      all_goals
        go_wp2_with fail
        refine ret_cell_tmp Tryz.shpT rfl _ _ _ _ rfl rfl ((HZ.out.drew.set_ 0 _).set_ 1 _) rfl rfl ?_
        refine ⟨_, rfl, ?_, gr_setCell (p := ⟨w.heap.size, 1, none⟩) (gr_setCell (p := ⟨w.heap.size, 0, none⟩) (gr_drew HG.out) (.inr (by simp)) _) (.inr (by simp)) _⟩
        have hne := Own.blk_ne HW.out HZ.out (by decide)
        cases B
        · exact .inr ⟨by rw [HSH.out, HMN.out, if_neg (fun h => by have hb := HB.out; unfold inB at hb; rw [decide_eq_true (by omega), decide_eq_true (by omega)] at hb; cases hb)], A, n, c, 0, rfl⟩
        · have hb := HB.out
          unfold inB at hb
          simp only [Bool.and_eq_true, decide_eq_true_eq] at hb
          refine .inl ⟨(S, 0), A, n, c, by rw [HSH.out, HMN.out, if_pos (by omega)], rfl, ?_, by have := HN.out; dsimp only; omega⟩
          exact Own.far (Own.far (HW.out.drew) (p := ⟨w.heap.size, 0, none⟩) hne _) (p := ⟨w.heap.size, 1, none⟩) hne _
    · have t0 : 0 < t.size := by
        rcases Nat.eq_zero_or_pos t.size with h | h
        · exact absurd (List.eq_nil_of_length_eq_zero (by rw [nb_len]; exact h)) h0
        · exact h
      have e1 : (t.toList == []) = false := str_ne (by simpa using h0)
      have e1' : t.toList.isEmpty = false := by
        rw [List.isEmpty_eq_false_iff]
        intro h
        rw [h] at e1
        simp at e1
      have t60 : t.size ≤ 60 := by omega
      obtain ⟨b, hc⟩ : ∃ b, t[0].toNat = b := ⟨_, rfl⟩
      have b256 : b < 256 := by rw [← hc]; exact UInt8.toNat_lt _
      have hhd : (nb t).headD 0 = b := by rw [← nb_head t0]; exact hc
      have k1 : (1 : Int) ≤ (t.size : Int) := by omega
      obtain ⟨z, hz⟩ : ∃ z, idxL sgn b = z := ⟨_, rfl⟩
      have HIZ := Lib.hid hz
      by_cases htl : nb t = [46] ∨ nb t = [33]
      · have hb2 : b = 46 ∨ b = 33 := by rcases htl with h | h <;> (rw [h] at hhd; simp at hhd; omega)
        have z0 : z < 0 := by rw [← hz]; exact (sg_idx ⟨b, b256⟩).2 (by dsimp only; rcases hb2 with rfl | rfl <;> decide)
        have HSH := Lib.hid (show shpL l = if 1 ≤ many (S, b) ∧ many (S, b) ≤ 30 then some (S, b) else none from shpL_of (by
          rw [← HS.out]
          rcases htl with h | h
          · rw [h] at hhd ⊢; simp at hhd; subst hhd; exact shpF_tail (.inl rfl)
          · rw [h] at hhd ⊢; simp at hhd; subst hhd; exact shpF_tail (.inr rfl)))
        have HMN := Lib.hid (show many (S, b) = n + 1 by unfold many; rw [if_neg (by dsimp only; omega)]; rw [HN.out])
        obtain ⟨p1, p1'⟩ := beq_no (show ¬ b = 88 by omega)
        obtain ⟨p2, p2'⟩ := beq_no (show ¬ b = 90 by omega)
        obtain ⟨p3, p3'⟩ := beq_no (show ¬ b = 78 by omega)
        obtain ⟨p4, p4'⟩ := beq_no (show ¬ b = 91 by omega)
        have HO2 := Lib.hid (HO.out.set_ 1 (.int .u8 b))
        have HZ2 := Lib.hid (HZ.out.far (p := ⟨w.heap.size + 1, 1, none⟩) (by simp) (.int .u8 b))
        have HW2 := Lib.hid (Own.far HW.out (p := ⟨w.heap.size + 1, 1, none⟩) (Own.blk_ne HW.out HO.out (by decide)) (.int .u8 b))
        have HG2 := Lib.hid (gr_setCell (p := ⟨w.heap.size + 1, 1, none⟩) HG.out (.inr (by simp)) (.int .u8 b))
        clear hhd hz
        rcases htl with h | h
        · have e2 : t.toList = [46] := str_eq (by simpa using h)
          clear h h0 e1 e1'
          go_wp2_with (first
            | (go_at_call 180; refine (indexByteN _ b _ b256).mono ?_; rintro e w' ⟨rfl, rfl⟩; rw [nb_signs, HIZ.out])
            | fail)
          generalize wr.setCell ⟨w.heap.size + 1, 1, none⟩ (.int .u8 (b : Int)) = wb at HO2 HZ2 HW2 HG2 ⊢
          clear cO fO cZ fZ
          have cO := HO2.out.cell; have fO := HO2.out.frozen
          have cZ := HZ2.out.cell; have fZ := HZ2.out.frozen
          obtain ⟨B, hB⟩ : ∃ B, decide ((n : Int) < 30) = B := ⟨_, rfl⟩
          have HB := Lib.hid hB
          go_region
          all_goals
            go_wp2_with fail
            refine ret_cell_tmp Tryz.shpT rfl _ _ _ _ rfl rfl ((HZ2.out.drew.set_ 0 _).set_ 1 _) rfl rfl ?_
            refine ⟨_, rfl, ?_, gr_setCell (p := ⟨w.heap.size, 1, none⟩) (gr_setCell (p := ⟨w.heap.size, 0, none⟩) (gr_drew HG2.out) (.inr (by simp)) _) (.inr (by simp)) _⟩
            have hne := Own.blk_ne HW2.out HZ2.out (by decide)
            cases B
            · have hb := of_decide_eq_false HB.out
              exact .inr ⟨by rw [HSH.out, HMN.out, if_neg (by omega)], A, n, c, b, rfl⟩
            · have hb := of_decide_eq_true HB.out
              refine .inl ⟨(S, b), A, n, c, by rw [HSH.out, HMN.out, if_pos (by omega)], rfl, ?_, by have := HN.out; dsimp only; omega⟩
              exact Own.far (Own.far (HW2.out.drew) (p := ⟨w.heap.size, 0, none⟩) hne _) (p := ⟨w.heap.size, 1, none⟩) hne _
        · have e2 : t.toList = [33] := str_eq (by simpa using h)
          clear h h0 e1 e1'
          go_wp2_with (first
            | (go_at_call 180; refine (indexByteN _ b _ b256).mono ?_; rintro e w' ⟨rfl, rfl⟩; rw [nb_signs, HIZ.out])
            | fail)
          generalize wr.setCell ⟨w.heap.size + 1, 1, none⟩ (.int .u8 (b : Int)) = wb at HO2 HZ2 HW2 HG2 ⊢
          clear cO fO cZ fZ
          have cO := HO2.out.cell; have fO := HO2.out.frozen
          have cZ := HZ2.out.cell; have fZ := HZ2.out.frozen
          obtain ⟨B, hB⟩ : ∃ B, decide ((n : Int) < 30) = B := ⟨_, rfl⟩
          have HB := Lib.hid hB
          go_region
          all_goals
            go_wp2_with fail
            refine ret_cell_tmp Tryz.shpT rfl _ _ _ _ rfl rfl ((HZ2.out.drew.set_ 0 _).set_ 1 _) rfl rfl ?_
            refine ⟨_, rfl, ?_, gr_setCell (p := ⟨w.heap.size, 1, none⟩) (gr_setCell (p := ⟨w.heap.size, 0, none⟩) (gr_drew HG2.out) (.inr (by simp)) _) (.inr (by simp)) _⟩
            have hne := Own.blk_ne HW2.out HZ2.out (by decide)
            cases B
            · have hb := of_decide_eq_false HB.out
              exact .inr ⟨by rw [HSH.out, HMN.out, if_neg (by omega)], A, n, c, b, rfl⟩
            · have hb := of_decide_eq_true HB.out
              refine .inl ⟨(S, b), A, n, c, by rw [HSH.out, HMN.out, if_pos (by omega)], rfl, ?_, by have := HN.out; dsimp only; omega⟩
              exact Own.far (Own.far (HW2.out.drew) (p := ⟨w.heap.size, 0, none⟩) hne _) (p := ⟨w.heap.size, 1, none⟩) hne _
      · have e2 : (t.toList == [46]) = false := str_ne (fun h => htl (.inl (by simpa using h)))
        have e3 : (t.toList == [33]) = false := str_ne (fun h => htl (.inr (by simpa using h)))
        cases hel : elemL (nb t) with
        | none =>
          have HSH := Lib.hid (show shpL l = none from shpL_none (by rw [← HS.out]; exact shpF_none h0 htl hel))
          have HH := Lib.hid hhd
          have nsg : ¬ b ∈ sgn := fun h => by
            have h1 := elR_sg _ b hhd h
            rw [elR_none hel] at h1
            injection h1 with h1 h2
            cases h2
          have n88 : ¬ b = 88 := fun h => by
            have h1 := elR_x _ (hhd.trans h)
            rw [elR_none hel] at h1
            injection h1 with h1 h2
            cases h2
          have n90 : ¬ b = 90 := fun h => by
            have h1 := elR_z _ (hhd.trans h)
            rw [elR_none hel] at h1
            injection h1 with h1 h2
            cases h2
          have n78 : ¬ b = 78 := fun h => by
            have h1 := elR_n _ (hhd.trans h)
            rw [elR_none hel] at h1
            injection h1 with h1 h2
            cases h2
          obtain ⟨p1, p1'⟩ := beq_no n88
          obtain ⟨p2, p2'⟩ := beq_no n90
          obtain ⟨p3, p3'⟩ := beq_no n78
          have z0 : z < 0 := by rw [← hz]; exact (sg_idx ⟨b, b256⟩).2 nsg
          by_cases h91 : b = 91
          · subst h91
            have hB := elem_Bno hhd h0 hel
            clear hz hhd hel htl h0 n88 n90 n78 nsg
            rcases hB with hB | ⟨k, hB, hk, hfn⟩
            · have HI := Lib.hid hB; clear hB
              go_wp2_with (first
                | (go_at_call 180; have _g := HIZ; refine (indexByteN _ 91 _ b256).mono ?_; rintro e w' ⟨rfl, rfl⟩; rw [nb_signs, HIZ.out]; clear HIZ)
                | (go_at_call 180; refine (indexByteN t 93 _ (by omega)).mono ?_; rintro e w' ⟨rfl, rfl⟩; rw [HI.out])
                | fail)
              refine ret_cell_tmp Tryz.shpT rfl _ _ _ _ rfl rfl ((HZ.out.set_ 0 _).set_ 1 _) rfl rfl ?_
              exact ⟨_, rfl, .inr ⟨HSH.out, A, n, c, 0, rfl⟩, gr_setCell (p := ⟨w.heap.size, 1, none⟩) (gr_setCell (p := ⟨w.heap.size, 0, none⟩) HG.out (.inr (by simp)) _) (.inr (by simp)) _⟩
            · rw [nb_len] at hk
              obtain ⟨u, hu⟩ : ∃ u, t.extract 0 (k + 1) = u := ⟨_, rfl⟩
              have usz : u.size ≤ 1000 := by rw [← hu, ← nb_len, nb_extract, List.drop_zero, List.length_take, nb_len]; omega
              have HUF := Lib.hid (show strN (fndS (nb u)) = ⟨#[]⟩ by rw [← hu, nb_extract, List.drop_zero, hfn]; rfl)
              have HI := Lib.hid hB; clear hB hfn
              have l1 : (k : Int) + 1 ≤ (t.size : Int) := by omega
              go_wp2_with (first
                | (go_at_call 180; have _g := HIZ; refine (indexByteN _ 91 _ b256).mono ?_; rintro e w' ⟨rfl, rfl⟩; rw [nb_signs, HIZ.out]; clear HIZ)
                | (go_at_call 180; refine (indexByteN t 93 _ (by omega)).mono ?_; rintro e w' ⟨rfl, rfl⟩; rw [HI.out])
                | (go_at_call 275; refine (setOf_any u _ usz).mono ?_; rintro e w3 ⟨rfl, hg3⟩; rw [HUF.out]; have HG3 := Lib.hid (gr_none HG.out hg3); have HZ3 := Lib.hid (HZ.out.grown hg3 (by simp)); have HO3 := Lib.hid (HO.out.grown hg3 (by simp)); have cO3 := HO3.out.cell; have fZ3 := HZ3.out.frozen; have cZ3 := HZ3.out.cell; clear hg3)
                | fail)
              refine ret_cell_tmp Tryz.shpT rfl _ _ _ _ rfl rfl ((HZ3.out.set_ 0 _).set_ 1 _) rfl rfl ?_
              exact ⟨_, rfl, .inr ⟨HSH.out, A, n, c, 0, rfl⟩, gr_setCell (p := ⟨w.heap.size, 1, none⟩) (gr_setCell (p := ⟨w.heap.size, 0, none⟩) HG3.out (.inr (by simp)) _) (.inr (by simp)) _⟩
          · obtain ⟨p4, p4'⟩ := beq_no h91
            clear hz hhd hel htl h0 n88 n90 n78 nsg
            go_wp2_with (first
              | (go_at_call 180; refine (indexByteN _ b _ b256).mono ?_; rintro e w' ⟨rfl, rfl⟩; rw [nb_signs, HIZ.out])
              | fail)
            refine ret_cell_tmp Tryz.shpT rfl _ _ _ _ rfl rfl ((HZ.out.set_ 0 _).set_ 1 _) rfl rfl ?_
            exact ⟨_, rfl, .inr ⟨HSH.out, A, n, c, 0, rfl⟩, gr_setCell (p := ⟨w.heap.size, 1, none⟩) (gr_setCell (p := ⟨w.heap.size, 0, none⟩) HG.out (.inr (by simp)) _) (.inr (by simp)) _⟩
        | some x =>
          obtain ⟨M, k⟩ := x
          obtain ⟨k1', k2, kM⟩ := elemL_bd hel h0
          rw [nb_len] at k2
          have HSH := Lib.hid (show shpF f ((nb t).drop k) (S ++ [M]) = shpF (l.length + 1) l [] by rw [← HS.out]; exact (shpF_some h0 htl hel).symm)
          have HNE := Lib.hid (elem_ne hel)
          obtain ⟨u, hu⟩ : ∃ u, t.extract k t.size = u := ⟨_, rfl⟩
          have HU := Lib.hid (show nb u = (nb t).drop k by rw [← hu, nb_extract, ← nb_len, List.take_length])
          have usz : u.size = t.size - k := by rw [← nb_len, HU.out, List.length_drop, nb_len]
          have us1 : u.size + k ≤ t.size := by omega
          clear usz
          have hcs := elem_head hhd hel
          obtain ⟨wb, hwb⟩ : ∃ wb : World, wb = wr := ⟨_, rfl⟩
          subst hwb
          go_upto_block 2 with (fail)
          go_cut [6, 7] (fun v6 v7 wx => v6 = .string (strN (setStr M)) ∧ v7 = .int .i64 k ∧ wb.grownBy wx none)
          case first =>
            rcases hcs with hc1 | hc1 | hc1 | hc1 | hc1
            · obtain ⟨h1, h2⟩ := elem_sg hhd hc1 hel
              have z0 : 0 ≤ z := by rw [← hz]; exact (sg_idx ⟨b, b256⟩).1 hc1
              have d1 : decide (0 ≤ z) = true := decide_eq_true z0
              have hx := ext_one (s := t) (i := 0) t0
              rw [show (nb t).getD 0 0 = b by rw [← hhd]; cases nb t <;> rfl, Nat.zero_add] at hx
              have HX := Lib.hid (show strN (setStr M) = strN [b] by rw [h1])
              subst h2
              clear hz hhd hel htl h0 h1
              go_wp2_with (first
                | (go_at_call 180; refine (indexByteN _ _ _ b256).mono ?_; rintro e w' ⟨rfl, rfl⟩; rw [nb_signs, HIZ.out])
                | fail)
              go_meet
              exact ⟨by rw [HX.out], rfl, gr_refl _ _⟩
            · subst hc1
              obtain ⟨h1, h2⟩ := elem_X hhd hel
              subst h2
              have HX := Lib.hid (show strN (setStr M) = dg by rw [h1, ← HDG.out, strN_nb])
              have z0 : z < 0 := by rw [← hz]; exact (sg_idx ⟨88, b256⟩).2 (by dsimp only; decide)
              have d1 : decide (0 ≤ z) = false := decide_eq_false (by omega)
              clear hz hhd hel htl h0
              go_wp2_with (first
                | (go_at_call 180; refine (indexByteN _ _ _ b256).mono ?_; rintro e w' ⟨rfl, rfl⟩; rw [nb_signs, HIZ.out])
                | fail)
              go_meet
              exact ⟨by rw [HX.out, hdg], rfl, gr_refl _ _⟩
            · subst hc1
              obtain ⟨h1, h2⟩ := elem_Z hhd hel
              subst h2
              have HX := Lib.hid (show strN (setStr M) = dg.extract 1 dg.size by rw [h1]; exact (nb_eq (by rw [nb_extract, ← nb_len, List.take_length, HDG.out])).symm)
              have z0 : z < 0 := by rw [← hz]; exact (sg_idx ⟨90, b256⟩).2 (by dsimp only; decide)
              have d1 : decide (0 ≤ z) = false := decide_eq_false (by omega)
              clear hz hhd hel htl h0
              go_wp2_with (first
                | (go_at_call 180; refine (indexByteN _ _ _ b256).mono ?_; rintro e w' ⟨rfl, rfl⟩; rw [nb_signs, HIZ.out])
                | fail)
              go_meet
              exact ⟨by rw [HX.out], rfl, gr_refl _ _⟩
            · subst hc1
              obtain ⟨h1, h2⟩ := elem_N hhd hel
              subst h2
              have HX := Lib.hid (show strN (setStr M) = dg.extract 2 dg.size by rw [h1]; exact (nb_eq (by rw [nb_extract, ← nb_len, List.take_length, HDG.out])).symm)
              have z0 : z < 0 := by rw [← hz]; exact (sg_idx ⟨78, b256⟩).2 (by dsimp only; decide)
              have d1 : decide (0 ≤ z) = false := decide_eq_false (by omega)
              clear hz hhd hel htl h0
              go_wp2_with (first
                | (go_at_call 180; refine (indexByteN _ _ _ b256).mono ?_; rintro e w' ⟨rfl, rfl⟩; rw [nb_signs, HIZ.out])
                | fail)
              go_meet
              exact ⟨by rw [HX.out], rfl, gr_refl _ _⟩
            · subst hc1
              obtain ⟨h1, h2, h3⟩ := elem_B hhd h0 hel
              obtain ⟨q, hq⟩ : ∃ q, q + 1 = k := ⟨k - 1, by omega⟩
              subst hq
              have HI := Lib.hid (show idxL (nb t) 93 = (q : Int) by rw [h1]; rfl)
              obtain ⟨v, hv⟩ : ∃ v, t.extract 0 (q + 1) = v := ⟨_, rfl⟩
              have vsz : v.size ≤ 1000 := by rw [← hv, ← nb_len, nb_extract, List.drop_zero, List.length_take, nb_len]; omega
              have HVF := Lib.hid (show fndS (nb v) = setStr M by rw [← hv, nb_extract, List.drop_zero]; exact h3)
              have l1 : (q : Int) + 1 ≤ (t.size : Int) := by omega
              clear h1 h3
              have z0 : z < 0 := by rw [← hz]; exact (sg_idx ⟨91, b256⟩).2 (by dsimp only; decide)
              have d1 : decide (0 ≤ z) = false := decide_eq_false (by omega)
              clear hz hhd hel htl h0
              go_wp2_with (first
                | (go_at_call 180; have _g := HIZ; refine (indexByteN _ 91 _ b256).mono ?_; rintro e w' ⟨rfl, rfl⟩; rw [nb_signs, HIZ.out]; clear HIZ)
                | (go_at_call 180; refine (indexByteN t 93 _ (by omega)).mono ?_; rintro e w' ⟨rfl, rfl⟩; rw [HI.out])
                | (go_at_call 275; refine (setOf_any v _ vsz).mono ?_; rintro e w3 ⟨rfl, hg3⟩; rw [HVF.out]; have HG3 := Lib.hid hg3; clear hg3)
                | fail)
              go_meet
              exact ⟨rfl, by go_num, HG3.out⟩
          case rest =>
            obtain ⟨rfl, rfl, hgc⟩ := hcut
            have HZ3 := Lib.hid (HZ.out.grown hgc (by simp))
            have HO3 := Lib.hid (HO.out.grown hgc (by simp))
            have HW3 := Lib.hid (Own.kept HW.out hgc (fun g e => by cases e))
            have HG3 := Lib.hid (gr_none HG.out hgc)
            have z3 := hgc.size
            have y3 : w.heap.size + 1 < wc.heap.size := by omega
            clear cO fO cZ fZ hgc
            have cO3 := HO3.out.cell; have fO3 := HO3.out.frozen
            have ul := setStr_len M
            obtain ⟨us, hus⟩ : ∃ us, strN (setStr M) = us := ⟨_, rfl⟩
            have HUS := Lib.hid hus
            have e4 : (us.toList == []) = false := str_ne (by rw [← hus, nb_strN (setStr_bd M)]; simpa using HNE.out)
            have e4' : us.toList.isEmpty = false := by
              rw [List.isEmpty_eq_false_iff]
              intro h
              rw [h] at e4
              simp at e4
            rw [hus]
            have l1 : (0 : Int) ≤ (k : Int) := by omega
            have l2 : (k : Int) ≤ (t.size : Int) := by omega
            have HNB := Lib.hid (Own.blk_ne HW3.out HO3.out (by decide))
            have HNZ := Lib.hid (Own.blk_ne HW3.out HZ3.out (by decide))
            clear hz hhd hel htl h0 hcs hus
            go_wp2_with (first
              | (at_builtin
                 refine wpl_app _ rfl _ _ Tryz.strT rfl w.heap.size A n c _ rfl (by exact HW3.out.alloc _) _ _ 1 1 [.string us] rfl (by exact Reads.one _ _ _ _ rfl) (by simp [Value.oneCell']) (by unfold maxLen; omega) (by omega) (by simp; omega) ?_
                 intro A4 c4 w4 h4
                 have HO4 := Lib.hid ((HO3.out.alloc _).grown h4.2.1 (Ne.symm HNB.out))
                 have HZ4 := Lib.hid ((HZ3.out.alloc _).grown h4.2.1 (Ne.symm HNZ.out))
                 have HG4 := Lib.hid (h4.gr (gr_alloc HG3.out _) (HW3.out.alloc _) (Nat.le_refl _))
                 have H4 := Lib.hid h4
                 have c4' := HO4.out.cell
                 have f4 := HO4.out.frozen
                 clear h4)
              | fail)
            go_roundw
            case rel =>
              refine ⟨u, f, S ++ [M], A4, n + 1, c4, rfl, by omega, by omega, ?_, ?_, ?_, ?_, ?_, ?_⟩
              · exact HZ4.out.far (p := ⟨w.heap.size + 1, 0, none⟩) (by simp) _
              · exact HO4.out.set_ 0 _
              · have h := Own.far H4.out.1 (p := ⟨w.heap.size + 1, 0, none⟩) (Own.blk_ne H4.out.1 HO4.out (by decide)) (.slice A4 (n + 1) c4)
                rw [List.map_append, List.map_singleton]
                unfold sv
                rw [HUS.out]
                exact h
              · exact gr_setCell (p := ⟨w.heap.size + 1, 0, none⟩) HG4.out (.inr (by simp)) _
              · rw [List.length_append, HN.out]; rfl
              · rw [HU.out]; exact HSH.out
            case measure => simp only [strSz]; omega
end Go.Proofs.YtpjheibkacbbcaaGreatDoor

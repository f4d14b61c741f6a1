/- Contracts of the generators of patterns. Conditions: none. -/
import Derived.Test.YtfakdalpaopjaaaGreatDoorBun1
import Derived.Test.YtfakdalpaopjaaaGreatDoorShelfRep
import Derived.Test.YtfakdalpaopjaaaGreatDoorBun10
import Derived.Test.YtfakdalpaopjaaaGreatDoorPlan1
namespace Go.Proofs.YtfakdalpaopjaaaGreatDoor
section
open Go.RowKit

set_option maxRecDepth 100000 in
set_option maxHeartbeats 4000000 in
theorem rightPattern_any (sb : Nat) (m : Int) (w : World) (hs : Str w sb m) (hm : m ≤ 1000000000000) :
    Calls Tryz.prog 70 #[.pointer (some ⟨sb, 0, none⟩)] w (Drawn sb (m + 6) (StrBd 40) w) := by
  have HS := Lib.hid hs; clear hs
  go_enter Tryz.func70, Tryz.ntmps70
  go_wp2_with fail
  refine (range_any sb m 1 4 _ HS.out (by omega) (by omega) (by omega) (by omega)).mono ?_
  rintro e w1 ⟨v1, rfl, ⟨r, r0, r1, rfl⟩, hs1, hg1⟩
  obtain ⟨N, rfl⟩ : ∃ N : Nat, r = N := ⟨r.toNat, by omega⟩
  have HS1 := Lib.hid hs1; have HG1 := Lib.hid hg1; clear hs1 hg1
  go_wp2_with fail
  go_loopw [3, 6] (fun s t wr => ∃ (i : Nat) (x : ByteArray), i ≤ N ∧ t = .int .i64 i ∧ s = .string x ∧ x.size ≤ 6 * i ∧ Str wr sb (m + 1 + i) ∧ w.grownBy wr (some sb)) (fun _ t _ => N - (intOf t).toNat)
  case atStart => exact ⟨0, ⟨#[]⟩, Nat.zero_le _, rfl, rfl, by decide, HS1.out.mono (by omega), HG1.out⟩
  case round =>
    obtain ⟨i, x, hi, rfl, rfl, hx, hs2, hg2⟩ := hrel
    have HS2 := Lib.hid hs2; have HG2 := Lib.hid hg2; clear hs2 hg2
    by_cases hlt : i < N
    · have d1 : decide ((i : Int) < (N : Int)) = true := decide_eq_true (by omega)
      have d1' : decide (i < N) = true := decide_eq_true hlt
      go_wp2_with fail
      refine (some_new (n := 14) sb _ 6 _ HS2.out (by omega) rfl (by
        repeat (first | exact StrsOk.nil _ | refine StrsOk.cons (by decide) ?_)) rfl (by omega) (by omega)).mono ?_
      rintro e w3 ⟨v3, rfl, ⟨y, rfl, hy⟩, hs3, hg3⟩
      have HS3 := Lib.hid hs3; have HG3 := Lib.hid (gr_same HG2.out hg3); clear hs3 hg3
      go_wp2_with fail
      go_roundw
      case rel => exact ⟨i + 1, x ++ y, by omega, by go_num, rfl, by rw [app_size]; omega, HS3.out.mono (by omega), HG3.out⟩
      case measure => simp [intOf]; omega
    · obtain rfl : i = N := by omega
      have d1 : decide ((i : Int) < (i : Int)) = false := decide_eq_false (by omega)
      go_wp2_with fail
      refine (some_new (n := 5) sb _ 1 _ HS2.out (by omega) rfl (by
        repeat (first | exact StrsOk.nil _ | refine StrsOk.cons (by decide) ?_)) rfl (by omega) (by omega)).mono ?_
      rintro e w3 ⟨v3, rfl, ⟨y, rfl, hy⟩, hs3, hg3⟩
      have HS3 := Lib.hid hs3; have HG3 := Lib.hid (gr_same HG2.out hg3); clear hs3 hg3
      go_wp2_with fail
      go_ret
      exact ⟨_, rfl, ⟨_, rfl, by rw [app_size]; omega⟩, HS3.out.mono (by omega), HG3.out⟩
end
end Go.Proofs.YtfakdalpaopjaaaGreatDoor
/- Contracts of the generator RightRule, of slices.Clone at rules and strings, of the closure that looks for a rule. Conditions: none. -/
namespace Go.Proofs.YtfakdalpaopjaaaGreatDoor
section
open Go.RowKit

set_option maxHeartbeats 8000000 in
set_option maxRecDepth 100000 in
theorem rightRule_any (sb : Nat) (m : Int) (w : World) (hs : Str w sb m) (hm : m ≤ 100000000000) : Calls Tryz.prog 33 #[.pointer (some ⟨sb, 0, none⟩)] w (Drawn sb (m + 20) IsRu w) := by
  have hlt := hs.lt
  have HR := Lib.hid (Blk.new w 92 #[.string ⟨#[]⟩, .int .i64 0, .string ⟨#[]⟩, .int .i64 0, .string ⟨#[]⟩, .string ⟨#[]⟩])
  have HG := Lib.hid (gr_alloc (gr_refl w (some sb)) (.cells #[.string ⟨#[]⟩, .int .i64 0, .string ⟨#[]⟩, .int .i64 0, .string ⟨#[]⟩, .string ⟨#[]⟩] 92))
  have HS := Lib.hid (hs.alloc (.cells #[.string ⟨#[]⟩, .int .i64 0, .string ⟨#[]⟩, .int .i64 0, .string ⟨#[]⟩, .string ⟨#[]⟩] 92)); clear hs
  go_enter Tryz.func33, Tryz.ntmps33
  go_wp2_with fail
  refine (rightPattern_any sb _ _ HS.out (by omega)).mono ?_
  rintro e w1 ⟨v1, rfl, ⟨s1, rfl, b1⟩, hs1, hg1⟩
  replace HR := Lib.hid (HR.out.grown hg1 (by simp; omega))
  have z1 := hg1.size; (try simp at z1)
  replace HG := Lib.hid (gr_same (a := w) HG.out hg1); replace HS := Lib.hid hs1; clear hs1 hg1
  go_wp2_with fail
  refine (pick_new sb _ [0, 0, 1, 2] _ HS.out (by omega) (by simp) rfl rfl (by simp) (by simp)).mono ?_
  rintro e w2 ⟨v2, rfl, ⟨r2, hr2, rfl⟩, hs2, hg2⟩
  replace HR := Lib.hid (HR.out.grown hg2 (by simp; omega))
  have z2 := hg2.size; (try simp at z2)
  replace HG := Lib.hid (gr_same (a := w) HG.out hg2); replace HS := Lib.hid hs2; clear hs2 hg2
  go_wp2_with fail
  refine (some_new (n := 4) sb _ 2 _ HS.out (by omega) (by simp) (by
    repeat (first | exact StrsOk.nil _ | refine StrsOk.cons (by decide) ?_)) rfl (by omega) (by omega)).mono ?_
  rintro e w3 ⟨v3, rfl, ⟨s3, rfl, b3⟩, hs3, hg3⟩
  replace HR := Lib.hid (HR.out.grown hg3 (by simp; omega))
  have z3 := hg3.size; (try simp at z3)
  replace HG := Lib.hid (gr_same (a := w) HG.out hg3); replace HS := Lib.hid hs3; clear hs3 hg3
  go_wp2_with fail
  refine (range_any sb _ 1 6 _ HS.out (by omega) (by omega) (by omega) (by omega)).mono ?_
  rintro e w4 ⟨v4, rfl, ⟨r4, hlo4, hhi4, rfl⟩, hs4, hg4⟩
  replace HR := Lib.hid (HR.out.grown hg4 (by simp; omega))
  have z4 := hg4.size; (try simp at z4)
  replace HG := Lib.hid (gr_same (a := w) HG.out hg4); replace HS := Lib.hid hs4; clear hs4 hg4
  go_wp2_with fail
  refine (some_new (n := 4) sb _ 2 _ HS.out (by omega) (by simp) (by
    repeat (first | exact StrsOk.nil _ | refine StrsOk.cons (by decide) ?_)) rfl (by omega) (by omega)).mono ?_
  rintro e w5 ⟨v5, rfl, ⟨s5, rfl, b5⟩, hs5, hg5⟩
  replace HR := Lib.hid (HR.out.grown hg5 (by simp; omega))
  have z5 := hg5.size; (try simp at z5)
  replace HG := Lib.hid (gr_same (a := w) HG.out hg5); replace HS := Lib.hid hs5; clear hs5 hg5
  obtain ⟨wx, hwx⟩ : ∃ wx, w5.alloc (.cells #[.string s1, .int .i64 r2, .string s3, .int .i64 r4, .string ⟨#[]⟩, .string s5] 92) = wx := ⟨_, rfl⟩
  obtain ⟨xb, hxb⟩ : ∃ xb, w5.heap.size = xb := ⟨_, rfl⟩
  have HX := Lib.hid (show Blk wx xb 92 #[.string s1, .int .i64 r2, .string s3, .int .i64 r4, .string ⟨#[]⟩, .string s5] by rw [← hwx, ← hxb]; exact Blk.new _ _ _)
  have hgx : w5.grownBy wx none := by rw [← hwx]; exact gr_alloc (gr_refl _ _) _
  have HWX := Lib.hid hwx; have HXB := Lib.hid hxb
  have hxl : w.heap.size < xb := by omega
  clear hwx hxb
  go_upto_region 2 with (fail)
  rw [HWX.out, HXB.out]
  replace HR := Lib.hid (HR.out.grown hgx (by simp))
  replace HG := Lib.hid (gr_none HG.out hgx)
  replace HS := Lib.hid (HS.out.grown hgx (fun g e => by cases e))
  clear hgx HWX HXB
  have k3 := HX.out.cell 3
  by_cases c1 : 3 ≤ r4 ∧ r4 ≤ 5
  · obtain ⟨c1, c2⟩ := c1
    have d1 : decide (3 ≤ r4) = true := decide_eq_true c1
    have d2 : decide (r4 ≤ 5) = true := decide_eq_true c2
    go_wp2_with fail
    refine (some_new (n := 2) sb _ 4 _ HS.out (by omega) (by simp) (by
      repeat (first | exact StrsOk.nil _ | refine StrsOk.cons (by decide) ?_)) rfl (by omega) (by omega)).mono ?_
    rintro e w6 ⟨v6, rfl, ⟨s6, rfl, b6⟩, hs6, hg6⟩
    replace HX := Lib.hid (HX.out.grown hg6 (by simp; omega))
    replace HR := Lib.hid (HR.out.grown hg6 (by simp; omega))
    have z6 := hg6.size; (try simp at z6)
    replace HG := Lib.hid (gr_same (a := w) HG.out hg6); replace HS := Lib.hid hs6; clear hs6 hg6
    obtain ⟨w7, hw7⟩ : ∃ w7, w6.setCell ⟨xb, 4, none⟩ (.string s6) = w7 := ⟨_, rfl⟩
    have HX7 := Lib.hid (show Blk w7 xb 92 #[.string s1, .int .i64 r2, .string s3, .int .i64 r4, .string s6, .string s5] by rw [← hw7]; exact HX.out.set_ 4 (.string s6))
    have HR7 := Lib.hid (show Blk w7 w.heap.size 92 #[.string ⟨#[]⟩, .int .i64 0, .string ⟨#[]⟩, .int .i64 0, .string ⟨#[]⟩, .string ⟨#[]⟩] by rw [← hw7]; exact HR.out.far (by simp; omega) _)
    have HS7 := Lib.hid (show Str w7 sb _ by rw [← hw7]; exact HS.out.setCell (by simp; omega) _)
    have HG7 := Lib.hid (show w.grownBy w7 (some sb) by rw [← hw7]; exact gr_setCell HG.out (.inr (by simp; omega)) _)
    have k4 := HX.out.cell 4
    have f4 := HX.out.frozen 4
    have HW7 := Lib.hid hw7
    clear hw7 k3 d1 d2
    go_upto_region 4 with (fail)
    rw [HW7.out]
    clear k4 f4 HX HR HS HG
    have HX := HX7; have HR := HR7; have HS := HS7; have HG := HG7
    clear HX7 HR7 HS7 HG7 HW7
    go_wp2_with (first
      | (refine wpl_load_all Tryz.ruT rfl _ rfl _ rfl _ _ HX.out rfl ?_)
      | (refine wpl_store_all Tryz.ruT rfl _ _ rfl _ rfl _ _ _ rfl HR.out rfl rfl (by simp [Value.oneCell']) ?_
         intro w9 h9
         have H9 := Lib.hid h9; clear h9)
      | fail)
    refine ret_cell (p := 2) (ty := 92) Tryz.ruT (by kernel_rfl) w.heap.size 92 #[.string s1, .int .i64 r2, .string s3, .int .i64 r4, .string s6, .string s5] (by rfl) H9.out.1 rfl rfl ?_
    exact ⟨_, rfl, ⟨⟨s1, r2, s3, r4, s6, s5⟩, rfl, ⟨by dsimp only; omega, by dsimp only; omega, by dsimp only; omega, by dsimp only; omega⟩⟩, (HS.out.grown H9.out.2.1 (fun g e => by injection e with e; omega)).mono (by omega), gr_trans HG.out H9.out.2.1 (fun g e => .inr (by injection e with e; omega))⟩
  · have dd : (decide (3 ≤ r4) && decide (r4 ≤ 5)) = false := by
      rw [Bool.eq_false_iff]; intro h; simp only [Bool.and_eq_true, decide_eq_true_eq] at h; exact c1 h
    by_cases c3 : 3 ≤ r4
    · have d1 : decide (3 ≤ r4) = true := decide_eq_true c3
      have d2 : decide (r4 ≤ 5) = false := decide_eq_false (by omega)
      go_upto_region 4 with (fail)
      clear k3 d1 d2 dd
      go_wp2_with (first
        | (refine wpl_load_all Tryz.ruT rfl _ rfl _ rfl _ _ HX.out rfl ?_)
        | (refine wpl_store_all Tryz.ruT rfl _ _ rfl _ rfl _ _ _ rfl HR.out rfl rfl (by simp [Value.oneCell']) ?_
           intro w9 h9
           have H9 := Lib.hid h9; clear h9)
        | fail)
      refine ret_cell (p := 2) (ty := 92) Tryz.ruT (by kernel_rfl) w.heap.size 92 #[.string s1, .int .i64 r2, .string s3, .int .i64 r4, .string ⟨#[]⟩, .string s5] (by rfl) H9.out.1 rfl rfl ?_
      exact ⟨_, rfl, ⟨⟨s1, r2, s3, r4, ⟨#[]⟩, s5⟩, rfl, ⟨by dsimp only; omega, by dsimp only; omega, by dsimp only; decide, by dsimp only; omega⟩⟩, (HS.out.grown H9.out.2.1 (fun g e => by injection e with e; omega)).mono (by omega), gr_trans HG.out H9.out.2.1 (fun g e => .inr (by injection e with e; omega))⟩
    · have d1 : decide (3 ≤ r4) = false := decide_eq_false c3
      go_upto_region 4 with (fail)
      clear k3 d1 dd
      go_wp2_with (first
        | (refine wpl_load_all Tryz.ruT rfl _ rfl _ rfl _ _ HX.out rfl ?_)
        | (refine wpl_store_all Tryz.ruT rfl _ _ rfl _ rfl _ _ _ rfl HR.out rfl rfl (by simp [Value.oneCell']) ?_
           intro w9 h9
           have H9 := Lib.hid h9; clear h9)
        | fail)
      refine ret_cell (p := 2) (ty := 92) Tryz.ruT (by kernel_rfl) w.heap.size 92 #[.string s1, .int .i64 r2, .string s3, .int .i64 r4, .string ⟨#[]⟩, .string s5] (by rfl) H9.out.1 rfl rfl ?_
      exact ⟨_, rfl, ⟨⟨s1, r2, s3, r4, ⟨#[]⟩, s5⟩, rfl, ⟨by dsimp only; omega, by dsimp only; omega, by dsimp only; decide, by dsimp only; omega⟩⟩, (HS.out.grown H9.out.2.1 (fun g e => by injection e with e; omega)).mono (by omega), gr_trans HG.out H9.out.2.1 (fun g e => .inr (by injection e with e; omega))⟩
set_option maxHeartbeats 2000000 in
theorem ruG_any (z r : RuV) (kb : Nat) (w : World) (hk : Blk w kb 92 #[.string r.pat, .int .i64 r.strip, .string r.pre, .int .i64 r.to_, .string r.nam, .string r.hrs]) :
    Calls Tryz.prog 35 #[.agg #[.string z.pat, .int .i64 z.strip, .string z.pre, .int .i64 z.to_, .string z.nam, .string z.hrs], .pointer (some ⟨kb, 0, none⟩)] w (RetV (.bool (sameR r z)) w) := by
  have kk := (hk.alloc (.cells #[.string z.pat, .int .i64 z.strip, .string z.pre, .int .i64 z.to_, .string z.nam, .string z.hrs] 92)).cell 0
  have k5 := (hk.alloc (.cells #[.string z.pat, .int .i64 z.strip, .string z.pre, .int .i64 z.to_, .string z.nam, .string z.hrs] 92)).cell 5
  have hlt1 := hk.lt
  obtain ⟨E1, hE1⟩ : ∃ E, (z.pat.toList == r.pat.toList) = E := ⟨_, rfl⟩
  obtain ⟨E2, hE2⟩ : ∃ E, (z.hrs.toList == r.hrs.toList) = E := ⟨_, rfl⟩
  have HV := Lib.hid (show sameR r z = (E1 && E2) by unfold sameR; rw [← eqS_nb, ← eqS_nb, hE1, hE2])
  clear hk
  cases E1 <;> cases E2
  all_goals
    go_enter Tryz.func35, Tryz.ntmps35
    go_wp2_with fail
    go_ret
    exact ⟨by rw [HV.out]; try rfl, gr_alloc (gr_refl _ _) _⟩
set_option maxHeartbeats 4000000 in
theorem ruGIdx_any (lo : Nat) (A : Option Addr) (n c : Nat) (l : List RuV) (r : RuV) (kb : Nat) (w : World) (h : Recs RuV.row 6 w lo A n c l) (hn : n ≤ 1000000000000) (h_k : Blk w kb 92 #[.string r.pat, .int .i64 r.strip, .string r.pre, .int .i64 r.to_, .string r.nam, .string r.hrs]) :
    Calls Tryz.prog 71 #[.slice A n c, .func (.func 35) #[] #[.pointer (some ⟨kb, 0, none⟩)]] w (RetV (.int .i64 (idxP (sameR r) l)) w) := by
  have H := Lib.hid h; have Hk := Lib.hid h_k; clear h h_k
  go_enter Tryz.func71, Tryz.ntmps71
  go_wp2_with fail
  go_loopw [5, 8] (fun _ t' wr => ∃ i : Nat, i ≤ n ∧ t' = .int .i64 i ∧ w.grownBy wr none ∧ (l.take i).all (fun x => !((sameR r) x)) = true) (fun _ t' _ => n - (intOf t').toNat)
  case atStart => exact ⟨0, Nat.zero_le _, rfl, gr_refl _ _, by simp⟩
  case round =>
    obtain ⟨i, hi, rfl, hg, ha⟩ := hrel
    have HA := Lib.hid ha; have HG := Lib.hid hg; clear ha hg
    by_cases hlt : i < n
    · obtain ⟨g, o, b, rfl, _, hgl, hz, hc⟩ := (H.out.grown HG.out (fun g e => by cases e)).get RuV.row_len hlt
      have HZ := Lib.hid hz; have HC := Lib.hid hc; clear hz hc
      obtain ⟨B, hB⟩ : ∃ B, (sameR r) b = B := ⟨_, rfl⟩
      have HE := Lib.hid hB; clear hB
      cases B
      all_goals
        go_wp2_with (first
          | (refine wpl_load_at Tryz.ruT rfl _ rfl _ rfl [.string b.pat, .int .i64 b.strip, .string b.pre, .int .i64 b.to_, .string b.nam, .string b.hrs] rfl (fun j u hu => by rw [add_mk]; exact HC.out j u hu) ?_)
          | (go_at_call 35; refine (ruG_any b r kb _ (Hk.out.grown HG.out (by simp))).mono ?_; rintro e w2 ⟨rfl, hg2⟩; have he := HE.out; (try dsimp only at he); rw [he]; clear he; have HG2 := Lib.hid (gr_none HG.out hg2); clear hg2)
          | fail)
      · go_roundw
        case rel => exact ⟨i + 1, by omega, by go_num, HG2.out, allP_succ (p := (sameR r)) HA.out HZ.out HE.out⟩
        case measure => simp [intOf]; omega
      · go_ret
        exact ⟨by rw [idxP_some (p := (sameR r)) HA.out HZ.out HE.out]; rfl, HG2.out⟩
    · obtain rfl : i = n := by omega
      go_wp2_with fail
      go_ret
      have h := HA.out
      rw [List.take_of_length_le (by rw [H.out.len]; exact Nat.le_refl _)] at h
      exact ⟨by rw [idxP_none (p := (sameR r)) h]; rfl, HG.out⟩
set_option maxHeartbeats 4000000 in
theorem ruGHas_any (lo : Nat) (A : Option Addr) (n c : Nat) (l : List RuV) (r : RuV) (kb : Nat) (w : World) (h : Recs RuV.row 6 w lo A n c l) (hn : n ≤ 1000000000000) (h_k : Blk w kb 92 #[.string r.pat, .int .i64 r.strip, .string r.pre, .int .i64 r.to_, .string r.nam, .string r.hrs]) :
    Calls Tryz.prog 34 #[.slice A n c, .func (.func 35) #[] #[.pointer (some ⟨kb, 0, none⟩)]] w (RetV (.bool (l.any (sameR r))) w) := by
  have H := Lib.hid h; have Hk := Lib.hid h_k; clear h h_k
  have HI := Lib.hid (idxP_any (p := (sameR r)) (l := l))
  obtain ⟨I, hI⟩ : ∃ I, idxP (sameR r) l = I := ⟨_, rfl⟩
  rw [hI] at HI
  have HI2 := Lib.hid hI; clear hI
  go_enter Tryz.func34, Tryz.ntmps34
  go_wp2_with (first
    | (go_at_call 71; refine (ruGIdx_any lo _ _ _ l r kb _ H.out hn Hk.out).mono ?_; rintro e w2 ⟨rfl, hg2⟩; rw [HI2.out]; have HG2 := Lib.hid hg2; clear hg2)
    | fail)
  go_ret
  exact ⟨by rw [← HI.out]; rfl, HG2.out⟩
end
end Go.Proofs.YtfakdalpaopjaaaGreatDoor

/- Contracts of the closures that look for a codec, of CheckCodecs and CodecsFault. Conditions: none. -/
import Derived.Test.YtoddgaocochdgaaGreatDoorBun3
import Derived.Test.YtoddgaocochdgaaGreatDoorBun1
namespace Go.Proofs.YtoddgaocochdgaaGreatDoor
open Go.RowKit

theorem Tryz.cdT : StructT Tryz.prog 43 3 := ⟨_, Tryz.underlying43, rfl, by kernel_rfl⟩
set_option maxHeartbeats 1000000 in
theorem withinC_any (n lo hi : Int) (w : World) : Calls Tryz.prog 63 #[.int .i64 n, .int .i64 lo, .int .i64 hi] w (Same (.bool (inB n lo hi)) w) := by
  have hfin : inB n lo hi = (decide (lo ≤ n) && decide (n ≤ hi)) := rfl
  have H := Lib.hid hfin; clear hfin
  by_cases h1 : lo ≤ n <;> by_cases h2 : n ≤ hi
  all_goals
    go_enter Tryz.func63, Tryz.ntmps63
    go_wp2
    go_ret
    exact ⟨by rw [H.out]; simp [h1, h2], rfl⟩
set_option maxHeartbeats 1000000 in
theorem cdTyP_any (x z : CdV) (kb : Nat) (w : World) (hk : Blk w kb 43 #[.int .i64 z.ty, .int .i64 z.rt, .string z.nm]) :
    Calls Tryz.prog 64 #[.agg #[.int .i64 x.ty, .int .i64 x.rt, .string x.nm], .pointer (some ⟨kb, 0, none⟩)] w (RetV (.bool (sameT z x)) w) := by
  have k0 := (hk.alloc (.cells #[.int .i64 x.ty, .int .i64 x.rt, .string x.nm] 43)).cell 0
  have hlt1 := hk.lt
  have HV := Lib.hid (show sameT z x = (x.ty == z.ty) from rfl)
  clear hk
  go_enter Tryz.func64, Tryz.ntmps64
  go_wp2_with fail
  go_ret
  exact ⟨by rw [HV.out]; try rfl, gr_alloc (gr_refl _ _) _⟩
set_option maxHeartbeats 4000000 in
theorem cdTyPIdx_any (lo : Nat) (A : Option Addr) (n c : Nat) (l : List CdV) (z : CdV) (kb : Nat) (w : World) (h : Recs CdV.row 3 w lo A n c l) (hn : n ≤ 1000000000000) (h_k : Blk w kb 43 #[.int .i64 z.ty, .int .i64 z.rt, .string z.nm]) :
    Calls Tryz.prog 154 #[.slice A n c, .func (.func 64) #[] #[.pointer (some ⟨kb, 0, none⟩)]] w (RetV (.int .i64 (idxP (sameT z) l)) w) := by
  have H := Lib.hid h; have Hk := Lib.hid h_k; clear h h_k
  go_enter Tryz.func154, Tryz.ntmps154
  go_wp2_with fail
  go_loopw [5, 8] (fun _ t' wr => ∃ i : Nat, i ≤ n ∧ t' = .int .i64 i ∧ w.grownBy wr none ∧ (l.take i).all (fun x => !((sameT z) x)) = true) (fun _ t' _ => n - (intOf t').toNat)
  case atStart => exact ⟨0, Nat.zero_le _, rfl, gr_refl _ _, by simp⟩
  case round =>
    obtain ⟨i, hi, rfl, hg, ha⟩ := hrel
    have HA := Lib.hid ha; have HG := Lib.hid hg; clear ha hg
    by_cases hlt : i < n
    · obtain ⟨g, o, b, rfl, _, hgl, hz, hc⟩ := (H.out.grown HG.out (fun g e => by cases e)).get CdV.row_len hlt
      have HZ := Lib.hid hz; have HC := Lib.hid hc; clear hz hc
      obtain ⟨B, hB⟩ : ∃ B, (sameT z) b = B := ⟨_, rfl⟩
      have HE := Lib.hid hB; clear hB
      cases B
      all_goals
        go_wp2_with (first
          | (refine wpl_load_at Tryz.cdT rfl _ rfl _ rfl [.int .i64 b.ty, .int .i64 b.rt, .string b.nm] rfl (fun j u hu => by rw [add_mk]; exact HC.out j u hu) ?_)
          | (go_at_call 64; refine (cdTyP_any b z kb _ (Hk.out.grown HG.out (by simp))).mono ?_; rintro e w2 ⟨rfl, hg2⟩; have he := HE.out; (try dsimp only at he); rw [he]; clear he; have HG2 := Lib.hid (gr_none HG.out hg2); clear hg2)
          | fail)
      · go_roundw
        case rel => exact ⟨i + 1, by omega, by go_num, HG2.out, allP_succ (p := (sameT z)) HA.out HZ.out HE.out⟩
        case measure => simp [intOf]; omega
      · go_ret
        exact ⟨by rw [idxP_some (p := (sameT z)) HA.out HZ.out HE.out]; rfl, HG2.out⟩
    · obtain rfl : i = n := by omega
      go_wp2_with fail
      go_ret
      have h := HA.out
      rw [List.take_of_length_le (by rw [H.out.len]; exact Nat.le_refl _)] at h
      exact ⟨by rw [idxP_none (p := (sameT z)) h]; rfl, HG.out⟩
set_option maxHeartbeats 4000000 in
theorem cdTyPHas_any (lo : Nat) (A : Option Addr) (n c : Nat) (l : List CdV) (z : CdV) (kb : Nat) (w : World) (h : Recs CdV.row 3 w lo A n c l) (hn : n ≤ 1000000000000) (h_k : Blk w kb 43 #[.int .i64 z.ty, .int .i64 z.rt, .string z.nm]) :
    Calls Tryz.prog 55 #[.slice A n c, .func (.func 64) #[] #[.pointer (some ⟨kb, 0, none⟩)]] w (RetV (.bool (l.any (sameT z))) w) := by
  have H := Lib.hid h; have Hk := Lib.hid h_k; clear h h_k
  have HI := Lib.hid (idxP_any (p := (sameT z)) (l := l))
  obtain ⟨I, hI⟩ : ∃ I, idxP (sameT z) l = I := ⟨_, rfl⟩
  rw [hI] at HI
  have HI2 := Lib.hid hI; clear hI
  go_enter Tryz.func55, Tryz.ntmps55
  go_wp2_with (first
    | (go_at_call 154; refine (cdTyPIdx_any lo _ _ _ l z kb _ H.out hn Hk.out).mono ?_; rintro e w2 ⟨rfl, hg2⟩; rw [HI2.out]; have HG2 := Lib.hid hg2; clear hg2)
    | fail)
  go_ret
  exact ⟨by rw [← HI.out]; rfl, HG2.out⟩
set_option maxHeartbeats 1000000 in
theorem cdTyD_any (x z : CdV) (kb : Nat) (w : World) (hk : Blk w kb 43 #[.int .i64 z.ty, .int .i64 z.rt, .string z.nm]) :
    Calls Tryz.prog 60 #[.agg #[.int .i64 x.ty, .int .i64 x.rt, .string x.nm], .pointer (some ⟨kb, 0, none⟩)] w (RetV (.bool (sameT z x)) w) := by
  have k0 := (hk.alloc (.cells #[.int .i64 x.ty, .int .i64 x.rt, .string x.nm] 43)).cell 0
  have hlt1 := hk.lt
  have HV := Lib.hid (show sameT z x = (x.ty == z.ty) from rfl)
  clear hk
  go_enter Tryz.func60, Tryz.ntmps60
  go_wp2_with fail
  go_ret
  exact ⟨by rw [HV.out]; try rfl, gr_alloc (gr_refl _ _) _⟩
set_option maxHeartbeats 4000000 in
theorem cdTyDIdx_any (lo : Nat) (A : Option Addr) (n c : Nat) (l : List CdV) (z : CdV) (kb : Nat) (w : World) (h : Recs CdV.row 3 w lo A n c l) (hn : n ≤ 1000000000000) (h_k : Blk w kb 43 #[.int .i64 z.ty, .int .i64 z.rt, .string z.nm]) :
    Calls Tryz.prog 154 #[.slice A n c, .func (.func 60) #[] #[.pointer (some ⟨kb, 0, none⟩)]] w (RetV (.int .i64 (idxP (sameT z) l)) w) := by
  have H := Lib.hid h; have Hk := Lib.hid h_k; clear h h_k
  go_enter Tryz.func154, Tryz.ntmps154
  go_wp2_with fail
  go_loopw [5, 8] (fun _ t' wr => ∃ i : Nat, i ≤ n ∧ t' = .int .i64 i ∧ w.grownBy wr none ∧ (l.take i).all (fun x => !((sameT z) x)) = true) (fun _ t' _ => n - (intOf t').toNat)
  case atStart => exact ⟨0, Nat.zero_le _, rfl, gr_refl _ _, by simp⟩
  case round =>
    obtain ⟨i, hi, rfl, hg, ha⟩ := hrel
    have HA := Lib.hid ha; have HG := Lib.hid hg; clear ha hg
    by_cases hlt : i < n
    · obtain ⟨g, o, b, rfl, _, hgl, hz, hc⟩ := (H.out.grown HG.out (fun g e => by cases e)).get CdV.row_len hlt
      have HZ := Lib.hid hz; have HC := Lib.hid hc; clear hz hc
      obtain ⟨B, hB⟩ : ∃ B, (sameT z) b = B := ⟨_, rfl⟩
      have HE := Lib.hid hB; clear hB
      cases B
      all_goals
        go_wp2_with (first
          | (refine wpl_load_at Tryz.cdT rfl _ rfl _ rfl [.int .i64 b.ty, .int .i64 b.rt, .string b.nm] rfl (fun j u hu => by rw [add_mk]; exact HC.out j u hu) ?_)
          | (go_at_call 60; refine (cdTyD_any b z kb _ (Hk.out.grown HG.out (by simp))).mono ?_; rintro e w2 ⟨rfl, hg2⟩; have he := HE.out; (try dsimp only at he); rw [he]; clear he; have HG2 := Lib.hid (gr_none HG.out hg2); clear hg2)
          | fail)
      · go_roundw
        case rel => exact ⟨i + 1, by omega, by go_num, HG2.out, allP_succ (p := (sameT z)) HA.out HZ.out HE.out⟩
        case measure => simp [intOf]; omega
      · go_ret
        exact ⟨by rw [idxP_some (p := (sameT z)) HA.out HZ.out HE.out]; rfl, HG2.out⟩
    · obtain rfl : i = n := by omega
      go_wp2_with fail
      go_ret
      have h := HA.out
      rw [List.take_of_length_le (by rw [H.out.len]; exact Nat.le_refl _)] at h
      exact ⟨by rw [idxP_none (p := (sameT z)) h]; rfl, HG.out⟩
set_option maxHeartbeats 4000000 in
theorem cdTyDHas_any (lo : Nat) (A : Option Addr) (n c : Nat) (l : List CdV) (z : CdV) (kb : Nat) (w : World) (h : Recs CdV.row 3 w lo A n c l) (hn : n ≤ 1000000000000) (h_k : Blk w kb 43 #[.int .i64 z.ty, .int .i64 z.rt, .string z.nm]) :
    Calls Tryz.prog 55 #[.slice A n c, .func (.func 60) #[] #[.pointer (some ⟨kb, 0, none⟩)]] w (RetV (.bool (l.any (sameT z))) w) := by
  have H := Lib.hid h; have Hk := Lib.hid h_k; clear h h_k
  have HI := Lib.hid (idxP_any (p := (sameT z)) (l := l))
  obtain ⟨I, hI⟩ : ∃ I, idxP (sameT z) l = I := ⟨_, rfl⟩
  rw [hI] at HI
  have HI2 := Lib.hid hI; clear hI
  go_enter Tryz.func55, Tryz.ntmps55
  go_wp2_with (first
    | (go_at_call 154; refine (cdTyDIdx_any lo _ _ _ l z kb _ H.out hn Hk.out).mono ?_; rintro e w2 ⟨rfl, hg2⟩; rw [HI2.out]; have HG2 := Lib.hid hg2; clear hg2)
    | fail)
  go_ret
  exact ⟨by rw [← HI.out]; rfl, HG2.out⟩
set_option maxHeartbeats 1000000 in
theorem sameC_any (z x : CdV) (w : World) : Calls Tryz.prog 57 #[.agg #[.int .i64 z.ty, .int .i64 z.rt, .string z.nm], .agg #[.int .i64 x.ty, .int .i64 x.rt, .string x.nm]] w (RetV (.bool (sameF z x)) w) := by
  obtain ⟨E1, hE1⟩ : ∃ E, (z.nm.toList == x.nm.toList) = E := ⟨_, rfl⟩
  obtain ⟨E2, hE2⟩ : ∃ E, (z.rt == x.rt) = E := ⟨_, rfl⟩
  have HV := Lib.hid (show sameF z x = (E1 && E2) by unfold sameF; rw [← eqS_nb, hE1, hE2])
  cases E1 <;> cases E2
  all_goals
    go_enter Tryz.func57, Tryz.ntmps57
    go_wp2_with fail
    go_ret
    exact ⟨by rw [HV.out]; try rfl, gr_alloc (gr_alloc (gr_refl _ _) _) _⟩
set_option maxHeartbeats 1000000 in
theorem cdFmP_any (x z : CdV) (kb : Nat) (w : World) (hk : Blk w kb 43 #[.int .i64 z.ty, .int .i64 z.rt, .string z.nm]) :
    Calls Tryz.prog 66 #[.agg #[.int .i64 x.ty, .int .i64 x.rt, .string x.nm], .pointer (some ⟨kb, 0, none⟩)] w (RetV (.bool (sameF z x)) w) := by
  have HB := Lib.hid (hk.alloc (.cells #[.int .i64 x.ty, .int .i64 x.rt, .string x.nm] 43))
  have hlt1 := hk.lt
  clear hk
  go_enter Tryz.func66, Tryz.ntmps66
  go_wp2_with (first
    | (refine wpl_load_all Tryz.cdT rfl _ rfl _ rfl _ _ HB.out rfl ?_)
    | (refine wpl_load_all Tryz.cdT rfl _ rfl _ rfl _ _ (Blk.new w 43 #[.int .i64 x.ty, .int .i64 x.rt, .string x.nm]) rfl ?_)
    | (go_at_call 57; refine (sameC_any z x _).mono ?_; rintro e w2 ⟨rfl, hg2⟩; have HG2 := Lib.hid hg2; clear hg2)
    | fail)
  go_ret
  exact ⟨rfl, gr_none (gr_alloc (gr_refl _ _) _) HG2.out⟩
set_option maxHeartbeats 4000000 in
theorem cdFmPIdx_any (lo : Nat) (A : Option Addr) (n c : Nat) (l : List CdV) (z : CdV) (kb : Nat) (w : World) (h : Recs CdV.row 3 w lo A n c l) (hn : n ≤ 1000000000000) (h_k : Blk w kb 43 #[.int .i64 z.ty, .int .i64 z.rt, .string z.nm]) :
    Calls Tryz.prog 154 #[.slice A n c, .func (.func 66) #[] #[.pointer (some ⟨kb, 0, none⟩)]] w (RetV (.int .i64 (idxP (sameF z) l)) w) := by
  have H := Lib.hid h; have Hk := Lib.hid h_k; clear h h_k
  go_enter Tryz.func154, Tryz.ntmps154
  go_wp2_with fail
  go_loopw [5, 8] (fun _ t' wr => ∃ i : Nat, i ≤ n ∧ t' = .int .i64 i ∧ w.grownBy wr none ∧ (l.take i).all (fun x => !((sameF z) x)) = true) (fun _ t' _ => n - (intOf t').toNat)
  case atStart => exact ⟨0, Nat.zero_le _, rfl, gr_refl _ _, by simp⟩
  case round =>
    obtain ⟨i, hi, rfl, hg, ha⟩ := hrel
    have HA := Lib.hid ha; have HG := Lib.hid hg; clear ha hg
    by_cases hlt : i < n
    · obtain ⟨g, o, b, rfl, _, hgl, hz, hc⟩ := (H.out.grown HG.out (fun g e => by cases e)).get CdV.row_len hlt
      have HZ := Lib.hid hz; have HC := Lib.hid hc; clear hz hc
      obtain ⟨B, hB⟩ : ∃ B, (sameF z) b = B := ⟨_, rfl⟩
      have HE := Lib.hid hB; clear hB
      cases B
      all_goals
        go_wp2_with (first
          | (refine wpl_load_at Tryz.cdT rfl _ rfl _ rfl [.int .i64 b.ty, .int .i64 b.rt, .string b.nm] rfl (fun j u hu => by rw [add_mk]; exact HC.out j u hu) ?_)
          | (go_at_call 66; refine (cdFmP_any b z kb _ (Hk.out.grown HG.out (by simp))).mono ?_; rintro e w2 ⟨rfl, hg2⟩; have he := HE.out; (try dsimp only at he); rw [he]; clear he; have HG2 := Lib.hid (gr_none HG.out hg2); clear hg2)
          | fail)
      · go_roundw
        case rel => exact ⟨i + 1, by omega, by go_num, HG2.out, allP_succ (p := (sameF z)) HA.out HZ.out HE.out⟩
        case measure => simp [intOf]; omega
      · go_ret
        exact ⟨by rw [idxP_some (p := (sameF z)) HA.out HZ.out HE.out]; rfl, HG2.out⟩
    · obtain rfl : i = n := by omega
      go_wp2_with fail
      go_ret
      have h := HA.out
      rw [List.take_of_length_le (by rw [H.out.len]; exact Nat.le_refl _)] at h
      exact ⟨by rw [idxP_none (p := (sameF z)) h]; rfl, HG.out⟩
set_option maxHeartbeats 4000000 in
theorem cdFmPHas_any (lo : Nat) (A : Option Addr) (n c : Nat) (l : List CdV) (z : CdV) (kb : Nat) (w : World) (h : Recs CdV.row 3 w lo A n c l) (hn : n ≤ 1000000000000) (h_k : Blk w kb 43 #[.int .i64 z.ty, .int .i64 z.rt, .string z.nm]) :
    Calls Tryz.prog 55 #[.slice A n c, .func (.func 66) #[] #[.pointer (some ⟨kb, 0, none⟩)]] w (RetV (.bool (l.any (sameF z))) w) := by
  have H := Lib.hid h; have Hk := Lib.hid h_k; clear h h_k
  have HI := Lib.hid (idxP_any (p := (sameF z)) (l := l))
  obtain ⟨I, hI⟩ : ∃ I, idxP (sameF z) l = I := ⟨_, rfl⟩
  rw [hI] at HI
  have HI2 := Lib.hid hI; clear hI
  go_enter Tryz.func55, Tryz.ntmps55
  go_wp2_with (first
    | (go_at_call 154; refine (cdFmPIdx_any lo _ _ _ l z kb _ H.out hn Hk.out).mono ?_; rintro e w2 ⟨rfl, hg2⟩; rw [HI2.out]; have HG2 := Lib.hid hg2; clear hg2)
    | fail)
  go_ret
  exact ⟨by rw [← HI.out]; rfl, HG2.out⟩
set_option maxHeartbeats 1000000 in
theorem cdFmA_any (x z : CdV) (kb : Nat) (w : World) (hk : Blk w kb 43 #[.int .i64 z.ty, .int .i64 z.rt, .string z.nm]) :
    Calls Tryz.prog 56 #[.agg #[.int .i64 x.ty, .int .i64 x.rt, .string x.nm], .pointer (some ⟨kb, 0, none⟩)] w (RetV (.bool (sameF z x)) w) := by
  have HB := Lib.hid (hk.alloc (.cells #[.int .i64 x.ty, .int .i64 x.rt, .string x.nm] 43))
  have hlt1 := hk.lt
  clear hk
  go_enter Tryz.func56, Tryz.ntmps56
  go_wp2_with (first
    | (refine wpl_load_all Tryz.cdT rfl _ rfl _ rfl _ _ HB.out rfl ?_)
    | (refine wpl_load_all Tryz.cdT rfl _ rfl _ rfl _ _ (Blk.new w 43 #[.int .i64 x.ty, .int .i64 x.rt, .string x.nm]) rfl ?_)
    | (go_at_call 57; refine (sameC_any z x _).mono ?_; rintro e w2 ⟨rfl, hg2⟩; have HG2 := Lib.hid hg2; clear hg2)
    | fail)
  go_ret
  exact ⟨rfl, gr_none (gr_alloc (gr_refl _ _) _) HG2.out⟩
set_option maxHeartbeats 4000000 in
theorem cdFmAIdx_any (lo : Nat) (A : Option Addr) (n c : Nat) (l : List CdV) (z : CdV) (kb : Nat) (w : World) (h : Recs CdV.row 3 w lo A n c l) (hn : n ≤ 1000000000000) (h_k : Blk w kb 43 #[.int .i64 z.ty, .int .i64 z.rt, .string z.nm]) :
    Calls Tryz.prog 154 #[.slice A n c, .func (.func 56) #[] #[.pointer (some ⟨kb, 0, none⟩)]] w (RetV (.int .i64 (idxP (sameF z) l)) w) := by
  have H := Lib.hid h; have Hk := Lib.hid h_k; clear h h_k
  go_enter Tryz.func154, Tryz.ntmps154
  go_wp2_with fail
  go_loopw [5, 8] (fun _ t' wr => ∃ i : Nat, i ≤ n ∧ t' = .int .i64 i ∧ w.grownBy wr none ∧ (l.take i).all (fun x => !((sameF z) x)) = true) (fun _ t' _ => n - (intOf t').toNat)
  case atStart => exact ⟨0, Nat.zero_le _, rfl, gr_refl _ _, by simp⟩
  case round =>
    obtain ⟨i, hi, rfl, hg, ha⟩ := hrel
    have HA := Lib.hid ha; have HG := Lib.hid hg; clear ha hg
    by_cases hlt : i < n
    · obtain ⟨g, o, b, rfl, _, hgl, hz, hc⟩ := (H.out.grown HG.out (fun g e => by cases e)).get CdV.row_len hlt
      have HZ := Lib.hid hz; have HC := Lib.hid hc; clear hz hc
      obtain ⟨B, hB⟩ : ∃ B, (sameF z) b = B := ⟨_, rfl⟩
      have HE := Lib.hid hB; clear hB
      cases B
      all_goals
        go_wp2_with (first
          | (refine wpl_load_at Tryz.cdT rfl _ rfl _ rfl [.int .i64 b.ty, .int .i64 b.rt, .string b.nm] rfl (fun j u hu => by rw [add_mk]; exact HC.out j u hu) ?_)
          | (go_at_call 56; refine (cdFmA_any b z kb _ (Hk.out.grown HG.out (by simp))).mono ?_; rintro e w2 ⟨rfl, hg2⟩; have he := HE.out; (try dsimp only at he); rw [he]; clear he; have HG2 := Lib.hid (gr_none HG.out hg2); clear hg2)
          | fail)
      · go_roundw
        case rel => exact ⟨i + 1, by omega, by go_num, HG2.out, allP_succ (p := (sameF z)) HA.out HZ.out HE.out⟩
        case measure => simp [intOf]; omega
      · go_ret
        exact ⟨by rw [idxP_some (p := (sameF z)) HA.out HZ.out HE.out]; rfl, HG2.out⟩
    · obtain rfl : i = n := by omega
      go_wp2_with fail
      go_ret
      have h := HA.out
      rw [List.take_of_length_le (by rw [H.out.len]; exact Nat.le_refl _)] at h
      exact ⟨by rw [idxP_none (p := (sameF z)) h]; rfl, HG.out⟩
set_option maxHeartbeats 4000000 in
theorem cdFmAHas_any (lo : Nat) (A : Option Addr) (n c : Nat) (l : List CdV) (z : CdV) (kb : Nat) (w : World) (h : Recs CdV.row 3 w lo A n c l) (hn : n ≤ 1000000000000) (h_k : Blk w kb 43 #[.int .i64 z.ty, .int .i64 z.rt, .string z.nm]) :
    Calls Tryz.prog 55 #[.slice A n c, .func (.func 56) #[] #[.pointer (some ⟨kb, 0, none⟩)]] w (RetV (.bool (l.any (sameF z))) w) := by
  have H := Lib.hid h; have Hk := Lib.hid h_k; clear h h_k
  have HI := Lib.hid (idxP_any (p := (sameF z)) (l := l))
  obtain ⟨I, hI⟩ : ∃ I, idxP (sameF z) l = I := ⟨_, rfl⟩
  rw [hI] at HI
  have HI2 := Lib.hid hI; clear hI
  go_enter Tryz.func55, Tryz.ntmps55
  go_wp2_with (first
    | (go_at_call 154; refine (cdFmAIdx_any lo _ _ _ l z kb _ H.out hn Hk.out).mono ?_; rintro e w2 ⟨rfl, hg2⟩; rw [HI2.out]; have HG2 := Lib.hid hg2; clear hg2)
    | fail)
  go_ret
  exact ⟨by rw [← HI.out]; rfl, HG2.out⟩
set_option maxHeartbeats 1000000 in
theorem cdFmD_any (x z : CdV) (kb : Nat) (w : World) (hk : Blk w kb 43 #[.int .i64 z.ty, .int .i64 z.rt, .string z.nm]) :
    Calls Tryz.prog 62 #[.agg #[.int .i64 x.ty, .int .i64 x.rt, .string x.nm], .pointer (some ⟨kb, 0, none⟩)] w (RetV (.bool (sameF z x)) w) := by
  have k1 := (hk.alloc (.cells #[.int .i64 x.ty, .int .i64 x.rt, .string x.nm] 43)).cell 1
  have k2 := (hk.alloc (.cells #[.int .i64 x.ty, .int .i64 x.rt, .string x.nm] 43)).cell 2
  have hlt1 := hk.lt
  clear hk
  obtain ⟨E1, hE1⟩ : ∃ E, (x.nm.toList == z.nm.toList) = E := ⟨_, rfl⟩
  obtain ⟨E2, hE2⟩ : ∃ E, (x.rt == z.rt) = E := ⟨_, rfl⟩
  have HV := Lib.hid (show sameF z x = (E1 && E2) by rw [← sameF_flip]; rw [← eqS_nb, hE1, hE2])
  cases E1 <;> cases E2
  all_goals
    go_enter Tryz.func62, Tryz.ntmps62
    go_wp2_with fail
    go_ret
    exact ⟨by rw [HV.out]; try rfl, gr_alloc (gr_refl _ _) _⟩
set_option maxHeartbeats 4000000 in
theorem cdFmDIdx_any (lo : Nat) (A : Option Addr) (n c : Nat) (l : List CdV) (z : CdV) (kb : Nat) (w : World) (h : Recs CdV.row 3 w lo A n c l) (hn : n ≤ 1000000000000) (h_k : Blk w kb 43 #[.int .i64 z.ty, .int .i64 z.rt, .string z.nm]) :
    Calls Tryz.prog 154 #[.slice A n c, .func (.func 62) #[] #[.pointer (some ⟨kb, 0, none⟩)]] w (RetV (.int .i64 (idxP (sameF z) l)) w) := by
  have H := Lib.hid h; have Hk := Lib.hid h_k; clear h h_k
  go_enter Tryz.func154, Tryz.ntmps154
  go_wp2_with fail
  go_loopw [5, 8] (fun _ t' wr => ∃ i : Nat, i ≤ n ∧ t' = .int .i64 i ∧ w.grownBy wr none ∧ (l.take i).all (fun x => !((sameF z) x)) = true) (fun _ t' _ => n - (intOf t').toNat)
  case atStart => exact ⟨0, Nat.zero_le _, rfl, gr_refl _ _, by simp⟩
  case round =>
    obtain ⟨i, hi, rfl, hg, ha⟩ := hrel
    have HA := Lib.hid ha; have HG := Lib.hid hg; clear ha hg
    by_cases hlt : i < n
    · obtain ⟨g, o, b, rfl, _, hgl, hz, hc⟩ := (H.out.grown HG.out (fun g e => by cases e)).get CdV.row_len hlt
      have HZ := Lib.hid hz; have HC := Lib.hid hc; clear hz hc
      obtain ⟨B, hB⟩ : ∃ B, (sameF z) b = B := ⟨_, rfl⟩
      have HE := Lib.hid hB; clear hB
      cases B
      all_goals
        go_wp2_with (first
          | (refine wpl_load_at Tryz.cdT rfl _ rfl _ rfl [.int .i64 b.ty, .int .i64 b.rt, .string b.nm] rfl (fun j u hu => by rw [add_mk]; exact HC.out j u hu) ?_)
          | (go_at_call 62; refine (cdFmD_any b z kb _ (Hk.out.grown HG.out (by simp))).mono ?_; rintro e w2 ⟨rfl, hg2⟩; have he := HE.out; (try dsimp only at he); rw [he]; clear he; have HG2 := Lib.hid (gr_none HG.out hg2); clear hg2)
          | fail)
      · go_roundw
        case rel => exact ⟨i + 1, by omega, by go_num, HG2.out, allP_succ (p := (sameF z)) HA.out HZ.out HE.out⟩
        case measure => simp [intOf]; omega
      · go_ret
        exact ⟨by rw [idxP_some (p := (sameF z)) HA.out HZ.out HE.out]; rfl, HG2.out⟩
    · obtain rfl : i = n := by omega
      go_wp2_with fail
      go_ret
      have h := HA.out
      rw [List.take_of_length_le (by rw [H.out.len]; exact Nat.le_refl _)] at h
      exact ⟨by rw [idxP_none (p := (sameF z)) h]; rfl, HG.out⟩
set_option maxHeartbeats 4000000 in
theorem cdFmDHas_any (lo : Nat) (A : Option Addr) (n c : Nat) (l : List CdV) (z : CdV) (kb : Nat) (w : World) (h : Recs CdV.row 3 w lo A n c l) (hn : n ≤ 1000000000000) (h_k : Blk w kb 43 #[.int .i64 z.ty, .int .i64 z.rt, .string z.nm]) :
    Calls Tryz.prog 55 #[.slice A n c, .func (.func 62) #[] #[.pointer (some ⟨kb, 0, none⟩)]] w (RetV (.bool (l.any (sameF z))) w) := by
  have H := Lib.hid h; have Hk := Lib.hid h_k; clear h h_k
  have HI := Lib.hid (idxP_any (p := (sameF z)) (l := l))
  obtain ⟨I, hI⟩ : ∃ I, idxP (sameF z) l = I := ⟨_, rfl⟩
  rw [hI] at HI
  have HI2 := Lib.hid hI; clear hI
  go_enter Tryz.func55, Tryz.ntmps55
  go_wp2_with (first
    | (go_at_call 154; refine (cdFmDIdx_any lo _ _ _ l z kb _ H.out hn Hk.out).mono ?_; rintro e w2 ⟨rfl, hg2⟩; rw [HI2.out]; have HG2 := Lib.hid hg2; clear hg2)
    | fail)
  go_ret
  exact ⟨by rw [← HI.out]; rfl, HG2.out⟩
set_option maxHeartbeats 1000000 in
theorem cdFmO_any (x z : CdV) (kb : Nat) (w : World) (hk : Blk w kb 43 #[.int .i64 z.ty, .int .i64 z.rt, .string z.nm]) :
    Calls Tryz.prog 70 #[.agg #[.int .i64 x.ty, .int .i64 x.rt, .string x.nm], .pointer (some ⟨kb, 0, none⟩)] w (RetV (.bool (sameF z x)) w) := by
  have k1 := (hk.alloc (.cells #[.int .i64 x.ty, .int .i64 x.rt, .string x.nm] 43)).cell 1
  have k2 := (hk.alloc (.cells #[.int .i64 x.ty, .int .i64 x.rt, .string x.nm] 43)).cell 2
  have hlt1 := hk.lt
  clear hk
  obtain ⟨E1, hE1⟩ : ∃ E, (x.nm.toList == z.nm.toList) = E := ⟨_, rfl⟩
  obtain ⟨E2, hE2⟩ : ∃ E, (x.rt == z.rt) = E := ⟨_, rfl⟩
  have HV := Lib.hid (show sameF z x = (E1 && E2) by rw [← sameF_flip]; rw [← eqS_nb, hE1, hE2])
  cases E1 <;> cases E2
  all_goals
    go_enter Tryz.func70, Tryz.ntmps70
    go_wp2_with fail
    go_ret
    exact ⟨by rw [HV.out]; try rfl, gr_alloc (gr_refl _ _) _⟩
set_option maxHeartbeats 4000000 in
theorem cdFmOIdx_any (lo : Nat) (A : Option Addr) (n c : Nat) (l : List CdV) (z : CdV) (kb : Nat) (w : World) (h : Recs CdV.row 3 w lo A n c l) (hn : n ≤ 1000000000000) (h_k : Blk w kb 43 #[.int .i64 z.ty, .int .i64 z.rt, .string z.nm]) :
    Calls Tryz.prog 154 #[.slice A n c, .func (.func 70) #[] #[.pointer (some ⟨kb, 0, none⟩)]] w (RetV (.int .i64 (idxP (sameF z) l)) w) := by
  have H := Lib.hid h; have Hk := Lib.hid h_k; clear h h_k
  go_enter Tryz.func154, Tryz.ntmps154
  go_wp2_with fail
  go_loopw [5, 8] (fun _ t' wr => ∃ i : Nat, i ≤ n ∧ t' = .int .i64 i ∧ w.grownBy wr none ∧ (l.take i).all (fun x => !((sameF z) x)) = true) (fun _ t' _ => n - (intOf t').toNat)
  case atStart => exact ⟨0, Nat.zero_le _, rfl, gr_refl _ _, by simp⟩
  case round =>
    obtain ⟨i, hi, rfl, hg, ha⟩ := hrel
    have HA := Lib.hid ha; have HG := Lib.hid hg; clear ha hg
    by_cases hlt : i < n
    · obtain ⟨g, o, b, rfl, _, hgl, hz, hc⟩ := (H.out.grown HG.out (fun g e => by cases e)).get CdV.row_len hlt
      have HZ := Lib.hid hz; have HC := Lib.hid hc; clear hz hc
      obtain ⟨B, hB⟩ : ∃ B, (sameF z) b = B := ⟨_, rfl⟩
      have HE := Lib.hid hB; clear hB
      cases B
      all_goals
        go_wp2_with (first
          | (refine wpl_load_at Tryz.cdT rfl _ rfl _ rfl [.int .i64 b.ty, .int .i64 b.rt, .string b.nm] rfl (fun j u hu => by rw [add_mk]; exact HC.out j u hu) ?_)
          | (go_at_call 70; refine (cdFmO_any b z kb _ (Hk.out.grown HG.out (by simp))).mono ?_; rintro e w2 ⟨rfl, hg2⟩; have he := HE.out; (try dsimp only at he); rw [he]; clear he; have HG2 := Lib.hid (gr_none HG.out hg2); clear hg2)
          | fail)
      · go_roundw
        case rel => exact ⟨i + 1, by omega, by go_num, HG2.out, allP_succ (p := (sameF z)) HA.out HZ.out HE.out⟩
        case measure => simp [intOf]; omega
      · go_ret
        exact ⟨by rw [idxP_some (p := (sameF z)) HA.out HZ.out HE.out]; rfl, HG2.out⟩
    · obtain rfl : i = n := by omega
      go_wp2_with fail
      go_ret
      have h := HA.out
      rw [List.take_of_length_le (by rw [H.out.len]; exact Nat.le_refl _)] at h
      exact ⟨by rw [idxP_none (p := (sameF z)) h]; rfl, HG.out⟩
set_option maxHeartbeats 4000000 in
theorem cdFmOHas_any (lo : Nat) (A : Option Addr) (n c : Nat) (l : List CdV) (z : CdV) (kb : Nat) (w : World) (h : Recs CdV.row 3 w lo A n c l) (hn : n ≤ 1000000000000) (h_k : Blk w kb 43 #[.int .i64 z.ty, .int .i64 z.rt, .string z.nm]) :
    Calls Tryz.prog 55 #[.slice A n c, .func (.func 70) #[] #[.pointer (some ⟨kb, 0, none⟩)]] w (RetV (.bool (l.any (sameF z))) w) := by
  have H := Lib.hid h; have Hk := Lib.hid h_k; clear h h_k
  have HI := Lib.hid (idxP_any (p := (sameF z)) (l := l))
  obtain ⟨I, hI⟩ : ∃ I, idxP (sameF z) l = I := ⟨_, rfl⟩
  rw [hI] at HI
  have HI2 := Lib.hid hI; clear hI
  go_enter Tryz.func55, Tryz.ntmps55
  go_wp2_with (first
    | (go_at_call 154; refine (cdFmOIdx_any lo _ _ _ l z kb _ H.out hn Hk.out).mono ?_; rintro e w2 ⟨rfl, hg2⟩; rw [HI2.out]; have HG2 := Lib.hid hg2; clear hg2)
    | fail)
  go_ret
  exact ⟨by rw [← HI.out]; rfl, HG2.out⟩
set_option maxHeartbeats 4000000 in
theorem checkCodecs_any (lo : Nat) (A : Option Addr) (n c : Nat) (l : List CdV) (w : World) (h : Cds w lo A n c l) (hn : n ≤ 1000000000000) :
    Calls Tryz.prog 13 #[.slice A n c] w (RetV (.int .i64 (cdE l)) w) := by
  have H := Lib.hid h; clear h
  by_cases hb : n > 20
  · have HF := Lib.hid (show cdE l = 2 by unfold cdE; rw [if_pos (by rw [H.out.1.len]; exact hb)])
    have hb' : decide ((20 : Int) < (n : Int)) = true := decide_eq_true (by omega)
    go_enter Tryz.func13, Tryz.ntmps13
    go_wp2_with fail
    go_ret
    exact ⟨by rw [HF.out]; rfl, gr_refl _ _⟩
  · have hb' : decide ((20 : Int) < (n : Int)) = false := decide_eq_false (by omega)
    have HF := Lib.hid (show cdE l = fstE (cdAt l) n by unfold cdE; rw [if_neg (by rw [H.out.1.len]; exact hb), H.out.1.len])
    go_enter Tryz.func13, Tryz.ntmps13
    go_wp2_with fail
    go_loopw [3, 4, 10] (fun _ _ t wr => ∃ k : Nat, k ≤ n ∧ t = .int .i64 k ∧ w.grownBy wr none ∧ fstE (cdAt l) k = 0) (fun _ _ t _ => n - (intOf t).toNat)
    case atStart => exact ⟨0, Nat.zero_le _, rfl, gr_refl _ _, rfl⟩
    case round =>
      obtain ⟨k, hk, rfl, hg, ha⟩ := hrel
      have HA := Lib.hid ha; have HG := Lib.hid hg; clear ha hg
      by_cases hlt : k < n
      · obtain ⟨g, o, ⟨ty, rt, nm⟩, rfl, _, hgl, hz, hc⟩ := (H.out.1.grown HG.out (fun g e => by cases e)).get CdV.row_len hlt
        have hnm : nm.size ≤ 1000000 := H.out.2 _ (mem_of_get hz)
        have zr := HG.out.size
        have HZ := Lib.hid hz; have HC := Lib.hid hc; clear hz hc
        have sl1 : (0 : Int) ≤ (k : Int) := by omega
        have sl2 : (k : Int) ≤ (c : Int) := by have := H.out.1.cap; omega
        have HB := Lib.hid (Blk.new wr 43 #[.int .i64 (⟨ty, rt, nm⟩ : CdV).ty, .int .i64 (⟨ty, rt, nm⟩ : CdV).rt, .string (⟨ty, rt, nm⟩ : CdV).nm])
        have HW := Lib.hid ((H.out.1.grown (gr_alloc HG.out (.cells #[.int .i64 ty, .int .i64 rt, .string nm] 43)) (fun g e => by cases e)).take CdV.row_len (i := k) (by omega))
        replace HG := Lib.hid (gr_alloc HG.out (.cells #[.int .i64 ty, .int .i64 rt, .string nm] 43))
        go_wp2_with (first
          | (refine wpl_load_at Tryz.cdT rfl _ rfl _ rfl [.int .i64 ty, .int .i64 rt, .string nm] rfl (fun j u hu => by rw [add_mk]; exact HC.out j u hu) ?_)
          | fail)
        refine (withinC_any ty 0 127 _).mono ?_
        rintro e w2 ⟨rfl, rfl⟩
        cases hB1 : inB ty 0 127
        · have e := cdAt_t HZ.out (z := ⟨ty, rt, nm⟩) hB1
          have HFIN := Lib.hid (show cdE l = 1 by rw [HF.out, fstE_stop HA.out (by rw [e]; decide) hlt, e])
          clear e
          go_wp2_with fail
          go_ret
          exact ⟨by rw [HFIN.out]; rfl, HG.out⟩
        · go_wp2_with fail
          refine (cdTyPHas_any lo _ k c (l.take k) ⟨ty, rt, nm⟩ wr.heap.size _ HW.out (by omega) HB.out).mono ?_
          rintro e w3 ⟨rfl, hg3⟩
          have hsB := HB.out.grown hg3 (by simp)
          have k1 := hsB.cell 1
          have k2 := hsB.cell 2
          replace HG := Lib.hid (gr_none HG.out hg3)
          replace HW := Lib.hid (HW.out.grown hg3 (fun g e => by cases e))
          replace HB := Lib.hid hsB
          clear hg3 hsB
          cases hB2 : (l.take k).any (sameT ⟨ty, rt, nm⟩)
          · go_wp2_with fail
            refine (isKey_any nm _ (by omega)).mono ?_
            rintro e w4 ⟨rfl, hg4⟩
            have hsB := HB.out.grown hg4 (by simp)
            clear k1 k2
            have k1 := hsB.cell 1
            replace HG := Lib.hid (gr_none HG.out hg4)
            replace HW := Lib.hid (HW.out.grown hg4 (fun g e => by cases e))
            replace HB := Lib.hid hsB
            clear hg4 hsB
            cases hB3 : keyOk (nb nm)
            · have e := cdAt_n HZ.out (z := ⟨ty, rt, nm⟩) hB1 hB2 hB3
              have HFIN := Lib.hid (show cdE l = 5 by rw [HF.out, fstE_stop HA.out (by rw [e]; decide) hlt, e])
              clear e
              go_wp2_with fail
              go_ret
              exact ⟨by rw [HFIN.out]; rfl, HG.out⟩
            · go_wp2_with fail
              refine (withinC_any rt 1000 96000 _).mono ?_
              rintro e w5 ⟨rfl, rfl⟩
              cases hB4 : inB rt 1000 96000
              · have e := cdAt_r HZ.out (z := ⟨ty, rt, nm⟩) hB1 hB2 hB3 hB4
                have HFIN := Lib.hid (show cdE l = 1 by rw [HF.out, fstE_stop HA.out (by rw [e]; decide) hlt, e])
                clear e
                go_wp2_with fail
                go_ret
                exact ⟨by rw [HFIN.out]; rfl, HG.out⟩
              · go_wp2_with fail
                refine (cdFmPHas_any lo _ k c (l.take k) ⟨ty, rt, nm⟩ wr.heap.size _ HW.out (by omega) HB.out).mono ?_
                rintro e w6 ⟨rfl, hg6⟩
                replace HG := Lib.hid (gr_none HG.out hg6)
                clear hg6
                cases hB5 : (l.take k).any (sameF ⟨ty, rt, nm⟩)
                · have HE := Lib.hid (cdAt_z HZ.out (z := ⟨ty, rt, nm⟩) hB1 hB2 hB3 hB4 hB5)
                  go_wp2_with fail
                  go_roundw
                  case rel => exact ⟨k + 1, by omega, by go_num, HG.out, fstE_zero HA.out HE.out⟩
                  case measure => simp [intOf]; omega
                · have e := cdAt_fw HZ.out (z := ⟨ty, rt, nm⟩) hB1 hB2 hB3 hB4 hB5
                  have HFIN := Lib.hid (show cdE l = 6 by rw [HF.out, fstE_stop HA.out (by rw [e]; decide) hlt, e])
                  clear e
                  go_wp2_with fail
                  go_ret
                  exact ⟨by rw [HFIN.out]; rfl, HG.out⟩
          · have e := cdAt_tw HZ.out (z := ⟨ty, rt, nm⟩) hB1 hB2
            have HFIN := Lib.hid (show cdE l = 6 by rw [HF.out, fstE_stop HA.out (by rw [e]; decide) hlt, e])
            clear e
            go_wp2_with fail
            go_ret
            exact ⟨by rw [HFIN.out]; rfl, HG.out⟩
      · obtain rfl : k = n := by omega
        have HFIN := Lib.hid (show cdE l = 0 by rw [HF.out, HA.out])
        go_wp2_with fail
        go_ret
        exact ⟨by rw [HFIN.out]; rfl, HG.out⟩
set_option maxHeartbeats 4000000 in
theorem codecsFault_any (lo : Nat) (A : Option Addr) (n c : Nat) (l : List CdV) (w : World) (h : Cds w lo A n c l) (hn : n ≤ 1000000000000) :
    Calls Tryz.prog 11 #[.slice A n c] w (RetV (.int .i64 (cdE l)) w) := by
  have H := Lib.hid h; clear h
  by_cases hb : n > 20
  · have HF := Lib.hid (show cdE l = 2 by unfold cdE; rw [if_pos (by rw [H.out.1.len]; exact hb)])
    have hb' : decide ((20 : Int) < (n : Int)) = true := decide_eq_true (by omega)
    go_enter Tryz.func11, Tryz.ntmps11
    go_wp2_with fail
    go_ret
    exact ⟨by rw [HF.out]; rfl, gr_refl _ _⟩
  · have hb' : decide ((20 : Int) < (n : Int)) = false := decide_eq_false (by omega)
    have HF := Lib.hid (show cdE l = fstE (cdAt l) n by unfold cdE; rw [if_neg (by rw [H.out.1.len]; exact hb), H.out.1.len])
    go_enter Tryz.func11, Tryz.ntmps11
    go_wp2_with fail
    go_loopw [3, 4, 10] (fun _ _ t wr => ∃ k : Nat, k ≤ n ∧ t = .int .i64 k ∧ w.grownBy wr none ∧ fstE (cdAt l) k = 0) (fun _ _ t _ => n - (intOf t).toNat)
    case atStart => exact ⟨0, Nat.zero_le _, rfl, gr_refl _ _, rfl⟩
    case round =>
      obtain ⟨k, hk, rfl, hg, ha⟩ := hrel
      have HA := Lib.hid ha; have HG := Lib.hid hg; clear ha hg
      by_cases hlt : k < n
      · obtain ⟨g, o, ⟨ty, rt, nm⟩, rfl, _, hgl, hz, hc⟩ := (H.out.1.grown HG.out (fun g e => by cases e)).get CdV.row_len hlt
        have hnm : nm.size ≤ 1000000 := H.out.2 _ (mem_of_get hz)
        have zr := HG.out.size
        have HZ := Lib.hid hz; have HC := Lib.hid hc; clear hz hc
        have sl1 : (0 : Int) ≤ (k : Int) := by omega
        have sl2 : (k : Int) ≤ (c : Int) := by have := H.out.1.cap; omega
        have HB := Lib.hid (Blk.new wr 43 #[.int .i64 (⟨ty, rt, nm⟩ : CdV).ty, .int .i64 (⟨ty, rt, nm⟩ : CdV).rt, .string (⟨ty, rt, nm⟩ : CdV).nm])
        have HW := Lib.hid ((H.out.1.grown (gr_alloc HG.out (.cells #[.int .i64 ty, .int .i64 rt, .string nm] 43)) (fun g e => by cases e)).take CdV.row_len (i := k) (by omega))
        replace HG := Lib.hid (gr_alloc HG.out (.cells #[.int .i64 ty, .int .i64 rt, .string nm] 43))
        go_wp2_with (first
          | (refine wpl_load_at Tryz.cdT rfl _ rfl _ rfl [.int .i64 ty, .int .i64 rt, .string nm] rfl (fun j u hu => by rw [add_mk]; exact HC.out j u hu) ?_)
          | fail)
        refine (in_any ty 0 127 _).mono ?_
        rintro e w2 ⟨rfl, rfl⟩
        cases hB1 : inB ty 0 127
        · have e := cdAt_t HZ.out (z := ⟨ty, rt, nm⟩) hB1
          have HFIN := Lib.hid (show cdE l = 1 by rw [HF.out, fstE_stop HA.out (by rw [e]; decide) hlt, e])
          clear e
          go_wp2_with fail
          go_ret
          exact ⟨by rw [HFIN.out]; rfl, HG.out⟩
        · go_wp2_with fail
          refine (cdTyDHas_any lo _ k c (l.take k) ⟨ty, rt, nm⟩ wr.heap.size _ HW.out (by omega) HB.out).mono ?_
          rintro e w3 ⟨rfl, hg3⟩
          have hsB := HB.out.grown hg3 (by simp)
          have k1 := hsB.cell 1
          have k2 := hsB.cell 2
          replace HG := Lib.hid (gr_none HG.out hg3)
          replace HW := Lib.hid (HW.out.grown hg3 (fun g e => by cases e))
          replace HB := Lib.hid hsB
          clear hg3 hsB
          cases hB2 : (l.take k).any (sameT ⟨ty, rt, nm⟩)
          · go_wp2_with fail
            refine (keyRef_any nm _ (by omega)).mono ?_
            rintro e w4 ⟨rfl, rfl⟩
            skip
            skip
            skip
            skip
            skip
            skip
            skip
            cases hB3 : keyOk (nb nm)
            · have e := cdAt_n HZ.out (z := ⟨ty, rt, nm⟩) hB1 hB2 hB3
              have HFIN := Lib.hid (show cdE l = 5 by rw [HF.out, fstE_stop HA.out (by rw [e]; decide) hlt, e])
              clear e
              go_wp2_with fail
              go_ret
              exact ⟨by rw [HFIN.out]; rfl, HG.out⟩
            · go_wp2_with fail
              refine (in_any rt 1000 96000 _).mono ?_
              rintro e w5 ⟨rfl, rfl⟩
              cases hB4 : inB rt 1000 96000
              · have e := cdAt_r HZ.out (z := ⟨ty, rt, nm⟩) hB1 hB2 hB3 hB4
                have HFIN := Lib.hid (show cdE l = 1 by rw [HF.out, fstE_stop HA.out (by rw [e]; decide) hlt, e])
                clear e
                go_wp2_with fail
                go_ret
                exact ⟨by rw [HFIN.out]; rfl, HG.out⟩
              · go_wp2_with fail
                refine (cdFmDHas_any lo _ k c (l.take k) ⟨ty, rt, nm⟩ wr.heap.size _ HW.out (by omega) HB.out).mono ?_
                rintro e w6 ⟨rfl, hg6⟩
                replace HG := Lib.hid (gr_none HG.out hg6)
                clear hg6
                cases hB5 : (l.take k).any (sameF ⟨ty, rt, nm⟩)
                · have HE := Lib.hid (cdAt_z HZ.out (z := ⟨ty, rt, nm⟩) hB1 hB2 hB3 hB4 hB5)
                  go_wp2_with fail
                  go_roundw
                  case rel => exact ⟨k + 1, by omega, by go_num, HG.out, fstE_zero HA.out HE.out⟩
                  case measure => simp [intOf]; omega
                · have e := cdAt_fw HZ.out (z := ⟨ty, rt, nm⟩) hB1 hB2 hB3 hB4 hB5
                  have HFIN := Lib.hid (show cdE l = 6 by rw [HF.out, fstE_stop HA.out (by rw [e]; decide) hlt, e])
                  clear e
                  go_wp2_with fail
                  go_ret
                  exact ⟨by rw [HFIN.out]; rfl, HG.out⟩
          · have e := cdAt_tw HZ.out (z := ⟨ty, rt, nm⟩) hB1 hB2
            have HFIN := Lib.hid (show cdE l = 6 by rw [HF.out, fstE_stop HA.out (by rw [e]; decide) hlt, e])
            clear e
            go_wp2_with fail
            go_ret
            exact ⟨by rw [HFIN.out]; rfl, HG.out⟩
      · obtain rfl : k = n := by omega
        have HFIN := Lib.hid (show cdE l = 0 by rw [HF.out, HA.out])
        go_wp2_with fail
        go_ret
        exact ⟨by rw [HFIN.out]; rfl, HG.out⟩
end Go.Proofs.YtoddgaocochdgaaGreatDoor

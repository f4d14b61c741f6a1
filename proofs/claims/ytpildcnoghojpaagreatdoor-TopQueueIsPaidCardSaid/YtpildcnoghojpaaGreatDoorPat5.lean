/- Contract of read. Conditions: none. -/
import Derived.Test.YtpildcnoghojpaaGreatDoorPat4
namespace Go.Proofs.YtpildcnoghojpaaGreatDoor
open Go.RowKit

def RdLoop (w : World) (l : List Nat) (v : Value) (wr : World) : Prop := ∃ (t : ByteArray) (f : Nat) (S : List Nat) (A : Option Addr) (n c : Nat), v = .string t ∧ t.size + 1 ≤ f ∧ n + t.size ≤ 60 ∧ RdRel w wr l t f S A n c
set_option maxRecDepth 100000 in
set_option maxHeartbeats 8000000 in
theorem read_any (s : ByteArray) (w : World) (hs : s.size ≤ 60) : Calls Tryz.prog 51 #[.string s] w (RetP (IsRead w.heap.size (nb s)) w) := by
  have d0 : decide ((60 : Int) < (s.size : Int)) = false := decide_eq_false (by omega)
  obtain ⟨l, hl⟩ : ∃ l, nb s = l := ⟨_, rfl⟩
  have HLS := Lib.hid hl
  have hll : l.length = s.size := by rw [← hl, nb_len]
  have HLL := Lib.hid hll
  rw [hl]
  clear hl hll
  go_enter Tryz.func51, Tryz.ntmps51
  go_wp2_with fail
  go_loopw [5, 6, 7] (fun v _ _ wr => RdLoop w l v wr) (fun v _ _ _ => strSz v)
  case atStart =>
    refine ⟨s, l.length + 1, [], none, 0, 0, rfl, by have := HLL.out; omega, by omega, ?_, ?_, Own.nil _ _ _ _, gr_alloc (gr_alloc (gr_refl _ _) _) _, rfl, by rw [HLS.out]⟩
    · exact (Blk.new w _ _).alloc _
    · have h := Blk.new (w.alloc (.cells #[.slice none 0 0, .int .u8 0] 145)) 145 #[.slice none 0 0, .int .u8 0]
      simpa using h
  case round =>
    obtain ⟨t, f, S, A, n, c, rfl, hf, hn, hz, ho, hown, hg, hlen, hsh⟩ := hrel
    obtain ⟨f, rfl⟩ : ∃ f', f = f' + 1 := ⟨f - 1, by omega⟩
    have HZ := Lib.hid hz; have HO := Lib.hid ho; have HW := Lib.hid hown; have HG := Lib.hid hg; have HN := Lib.hid hlen; have HS := Lib.hid hsh
    have cO := ho.cell; have fO := ho.frozen
    have zr := hg.size
    have z1 := ho.lt
    clear hz ho hown hg hlen hsh
    by_cases h0 : nb t = []
    · have e1 : t.toList = [] := str_eq (by simpa using h0)
      have HSH := Lib.hid (show shpL l = if 1 ≤ many (S, 0) ∧ many (S, 0) ≤ 30 then some (S, 0) else none from shpL_of (by rw [← HS.out, h0]; exact shpF_end))
      have HMN := Lib.hid (show many (S, 0) = n by unfold many; rw [if_pos rfl]; exact HN.out)
      clear h0
      by_cases hm : 1 ≤ n ∧ n ≤ 30
      · have d1 : decide ((n : Int) < 1) = false := decide_eq_false (by omega)
        have d1' : decide ((n : Int) ≤ 0) = false := decide_eq_false (by omega)
        have d2 : decide ((30 : Int) < (n : Int)) = false := decide_eq_false (by omega)
        go_wp2_with (first
          | (refine wpl_load_all Tryz.patT rfl _ rfl _ rfl _ _ HO.out rfl ?_)
          | (refine wpl_store_all Tryz.patT rfl _ _ rfl _ rfl _ _ _ rfl HZ.out rfl rfl (by simp [Value.oneCell']) ?_
             intro wz hst
             have HST := Lib.hid hst; clear hst)
          | fail)
        have hst := HST.out
        refine ret_cell_tmp Tryz.patT rfl _ _ _ _ rfl rfl hst.1 rfl rfl ?_
        refine ⟨_, rfl, .inl ⟨(S, 0), A, n, c, by rw [HSH.out, HMN.out, if_pos hm], rfl, ?_, by have := HN.out; dsimp only; omega⟩, gr_trans HG.out hst.2.1 (fun g e => .inr (by injection e with e; omega))⟩
        exact Own.kept HW.out hst.2.1 (fun g e => by injection e with e; subst e; exact Own.blk_ne HW.out HZ.out (by decide))
      · rcases (by omega : n < 1 ∨ 30 < n) with hx | hx
        · have d1 : decide ((n : Int) < 1) = true := decide_eq_true (by omega)
          have d1' : decide ((n : Int) ≤ 0) = true := decide_eq_true (by omega)
          go_wp2_with (first
            | (refine wpl_store_all Tryz.patT rfl _ _ rfl _ rfl _ _ _ rfl HZ.out rfl rfl (by simp [Value.oneCell']) ?_
               intro wz hst
               have HST := Lib.hid hst; clear hst)
            | fail)
          have hst := HST.out
          refine ret_cell_tmp Tryz.patT rfl _ _ _ _ rfl rfl hst.1 rfl rfl ?_
          exact ⟨_, rfl, .inr ⟨by rw [HSH.out, HMN.out, if_neg hm], rfl⟩, gr_trans HG.out hst.2.1 (fun g e => .inr (by injection e with e; omega))⟩
        · have d1 : decide ((n : Int) < 1) = false := decide_eq_false (by omega)
          have d1' : decide ((n : Int) ≤ 0) = false := decide_eq_false (by omega)
          have d2 : decide ((30 : Int) < (n : Int)) = true := decide_eq_true (by omega)
          go_wp2_with (first
            | (refine wpl_store_all Tryz.patT rfl _ _ rfl _ rfl _ _ _ rfl HZ.out rfl rfl (by simp [Value.oneCell']) ?_
               intro wz hst
               have HST := Lib.hid hst; clear hst)
            | fail)
          have hst := HST.out
          refine ret_cell_tmp Tryz.patT rfl _ _ _ _ rfl rfl hst.1 rfl rfl ?_
          exact ⟨_, rfl, .inr ⟨by rw [HSH.out, HMN.out, if_neg hm], rfl⟩, gr_trans HG.out hst.2.1 (fun g e => .inr (by injection e with e; omega))⟩
    · have t0 : 0 < t.size := by
        rcases Nat.eq_zero_or_pos t.size with h | h
        · exact absurd (List.eq_nil_of_length_eq_zero (by rw [nb_len]; exact h)) h0
        · exact h
      have e1 : (t.toList == []) = false := str_ne (by simpa using h0)
      have e1' : t.toList.isEmpty = false := by
        rw [List.isEmpty_eq_false_iff]
        intro h
        rw [h] at e1
        simp at e1
      by_cases h46 : nb t = [46]
      · have e2 : t.toList = [46] := str_eq (by simpa using h46)
        have hc : t[0].toNat = 46 := by rw [nb_head t0, h46]; rfl
        have HSH := Lib.hid (show shpL l = if 1 ≤ many (S, 46) ∧ many (S, 46) ≤ 30 then some (S, 46) else none from shpL_of (by rw [← HS.out, h46]; exact shpF_tail (.inl rfl)))
        have HMN := Lib.hid (show many (S, 46) = n + 1 by unfold many; rw [if_neg (by simp)]; rw [HN.out])
        clear h46 h0 e1 e1'
        have HO2 := Lib.hid (HO.out.set_ 1 (.int .u8 46))
        have HZ2 := Lib.hid (HZ.out.far (p := ⟨w.heap.size + 1, 1, none⟩) (by simp) (.int .u8 46))
        have HW2 := Lib.hid (Own.far HW.out (p := ⟨w.heap.size + 1, 1, none⟩) (Own.blk_ne HW.out HO.out (by decide)) (.int .u8 46))
        have HG2 := Lib.hid (gr_setCell (p := ⟨w.heap.size + 1, 1, none⟩) HG.out (.inr (by simp)) (.int .u8 46))
        by_cases hm : 1 ≤ n + 1 ∧ n + 1 ≤ 30
        · have d2 : decide ((30 : Int) < (n : Int) + 1) = false := decide_eq_false (by omega)
          go_wp2_with (first
            | (refine wpl_load_all Tryz.patT rfl _ rfl _ rfl _ _ HO2.out rfl ?_)
            | (refine wpl_store_all Tryz.patT rfl _ _ rfl _ rfl _ _ _ rfl HZ2.out rfl rfl (by simp [Value.oneCell']) ?_
               intro wz hst
               have HST := Lib.hid hst; clear hst)
            | fail)
          have hst := HST.out
          refine ret_cell_tmp Tryz.patT rfl _ _ _ _ rfl rfl hst.1 rfl rfl ?_
          refine ⟨_, rfl, .inl ⟨(S, 46), A, n, c, by rw [HSH.out, HMN.out, if_pos hm], rfl, ?_, by have := HN.out; dsimp only; omega⟩, gr_trans HG2.out hst.2.1 (fun g e => .inr (by injection e with e; omega))⟩
          exact Own.kept HW2.out hst.2.1 (fun g e => by injection e with e; subst e; exact Own.blk_ne HW2.out HZ2.out (by decide))
        · have d2 : decide ((30 : Int) < (n : Int) + 1) = true := decide_eq_true (by omega)
          go_wp2_with (first
            | (refine wpl_store_all Tryz.patT rfl _ _ rfl _ rfl _ _ _ rfl HZ2.out rfl rfl (by simp [Value.oneCell']) ?_
               intro wz hst
               have HST := Lib.hid hst; clear hst)
            | fail)
          have hst := HST.out
          refine ret_cell_tmp Tryz.patT rfl _ _ _ _ rfl rfl hst.1 rfl rfl ?_
          exact ⟨_, rfl, .inr ⟨by rw [HSH.out, HMN.out, if_neg hm], rfl⟩, gr_trans HG2.out hst.2.1 (fun g e => .inr (by injection e with e; omega))⟩
      · have e2 : (t.toList == [46]) = false := str_ne (by simpa using h46)
        by_cases h33 : nb t = [33]
        · have e3 : t.toList = [33] := str_eq (by simpa using h33)
          have hc : t[0].toNat = 33 := by rw [nb_head t0, h33]; rfl
          have HSH := Lib.hid (show shpL l = if 1 ≤ many (S, 33) ∧ many (S, 33) ≤ 30 then some (S, 33) else none from shpL_of (by rw [← HS.out, h33]; exact shpF_tail (.inr rfl)))
          have HMN := Lib.hid (show many (S, 33) = n + 1 by unfold many; rw [if_neg (by simp)]; rw [HN.out])
          clear h33 h0 e1 e1' e2
          have HO2 := Lib.hid (HO.out.set_ 1 (.int .u8 33))
          have HZ2 := Lib.hid (HZ.out.far (p := ⟨w.heap.size + 1, 1, none⟩) (by simp) (.int .u8 33))
          have HW2 := Lib.hid (Own.far HW.out (p := ⟨w.heap.size + 1, 1, none⟩) (Own.blk_ne HW.out HO.out (by decide)) (.int .u8 33))
          have HG2 := Lib.hid (gr_setCell (p := ⟨w.heap.size + 1, 1, none⟩) HG.out (.inr (by simp)) (.int .u8 33))
          by_cases hm : 1 ≤ n + 1 ∧ n + 1 ≤ 30
          · have d2 : decide ((30 : Int) < (n : Int) + 1) = false := decide_eq_false (by omega)
            go_wp2_with (first
              | (refine wpl_load_all Tryz.patT rfl _ rfl _ rfl _ _ HO2.out rfl ?_)
              | (refine wpl_store_all Tryz.patT rfl _ _ rfl _ rfl _ _ _ rfl HZ2.out rfl rfl (by simp [Value.oneCell']) ?_
                 intro wz hst
                 have HST := Lib.hid hst; clear hst)
              | fail)
            have hst := HST.out
            refine ret_cell_tmp Tryz.patT rfl _ _ _ _ rfl rfl hst.1 rfl rfl ?_
            refine ⟨_, rfl, .inl ⟨(S, 33), A, n, c, by rw [HSH.out, HMN.out, if_pos hm], rfl, ?_, by have := HN.out; dsimp only; omega⟩, gr_trans HG2.out hst.2.1 (fun g e => .inr (by injection e with e; omega))⟩
            exact Own.kept HW2.out hst.2.1 (fun g e => by injection e with e; subst e; exact Own.blk_ne HW2.out HZ2.out (by decide))
          · have d2 : decide ((30 : Int) < (n : Int) + 1) = true := decide_eq_true (by omega)
            go_wp2_with (first
              | (refine wpl_store_all Tryz.patT rfl _ _ rfl _ rfl _ _ _ rfl HZ2.out rfl rfl (by simp [Value.oneCell']) ?_
                 intro wz hst
                 have HST := Lib.hid hst; clear hst)
              | fail)
            have hst := HST.out
            refine ret_cell_tmp Tryz.patT rfl _ _ _ _ rfl rfl hst.1 rfl rfl ?_
            exact ⟨_, rfl, .inr ⟨by rw [HSH.out, HMN.out, if_neg hm], rfl⟩, gr_trans HG2.out hst.2.1 (fun g e => .inr (by injection e with e; omega))⟩
        · have e3 : (t.toList == [33]) = false := str_ne (by simpa using h33)
          have t60 : t.size ≤ 60 := by omega
          cases hel : elemL (nb t) with
          | none =>
            have HEL := Lib.hid (elR_none hel)
            have HSH := Lib.hid (show shpL l = none from shpL_none (by rw [← HS.out]; exact shpF_none h0 (by simp [h46, h33]) hel))
            clear hel h0 h46 h33
            go_wp2_with (first
              | (go_at_call 78
                 refine (element_any t _ t0 t60).mono ?_
                 rintro e w3 ⟨rfl, hg3⟩
                 rw [HEL.out]
                 have HZ3 := Lib.hid (HZ.out.grown hg3 (by simp))
                 have HG3 := Lib.hid (gr_none HG.out hg3)
                 clear hg3)
              | (refine wpl_store_all Tryz.patT rfl _ _ rfl _ rfl _ _ _ rfl HZ3.out rfl rfl (by simp [Value.oneCell']) ?_
                 intro wz hst
                 have HST := Lib.hid hst; clear hst)
              | fail)
            have hst := HST.out
            refine ret_cell_tmp Tryz.patT rfl _ _ _ _ rfl rfl hst.1 rfl rfl ?_
            exact ⟨_, rfl, .inr ⟨HSH.out, rfl⟩, gr_trans HG3.out hst.2.1 (fun g e => .inr (by injection e with e; omega))⟩
          | some x =>
            obtain ⟨M, k⟩ := x
            obtain ⟨k1, k2, kM⟩ := elemL_bd hel h0
            rw [nb_len] at k2
            have HEL := Lib.hid (elR_some hel)
            have HSH := Lib.hid (show shpF f ((nb t).drop k) (S ++ [M]) = shpF (l.length + 1) l [] by rw [← HS.out]; exact (shpF_some h0 (by simp [h46, h33]) hel).symm)
            have b1 : ((k : Int) == 0) = false := by rw [beq_eq_false_iff_ne]; omega
            have b1' : (k == 0) = false := by rw [beq_eq_false_iff_ne]; omega
            obtain ⟨u, hu⟩ : ∃ u, t.extract k t.size = u := ⟨_, rfl⟩
            have HU := Lib.hid (show nb u = (nb t).drop k by rw [← hu, nb_extract, ← nb_len, List.take_length])
            have usz : u.size = t.size - k := by rw [← nb_len, HU.out, List.length_drop, nb_len]
            have us1 : u.size + k ≤ t.size := by omega
            clear hel h0 h46 h33 usz
            go_wp2_with (first
              | (go_at_call 78
                 refine (element_any t _ t0 t60).mono ?_
                 rintro e w3 ⟨rfl, hg3⟩
                 rw [HEL.out]
                 have HZ3 := Lib.hid (HZ.out.grown hg3 (by simp))
                 have HO3 := Lib.hid (HO.out.grown hg3 (by simp))
                 have HW3 := Lib.hid (Own.kept HW.out hg3 (fun g e => by cases e))
                 have HG3 := Lib.hid (gr_none HG.out hg3)
                 have z3 := hg3.size
                 have cO3 := HO3.out.cell; have fO3 := HO3.out.frozen
                 clear hg3)
              | fail)
            have j0 : (0 : Int) ≤ (k : Int) := by omega
            have j1 : (k : Int) ≤ (t.size : Int) := by omega
            have y3 : w.heap.size + 1 < w3.heap.size := by omega
            have HNB := Lib.hid (Own.blk_ne HW3.out HO3.out (by decide))
            have HNZ := Lib.hid (Own.blk_ne HW3.out HZ3.out (by decide))
            go_region_law (first
              | (refine step_app _ (by rfl) _ _ Tryz.maskT (by rfl) w.heap.size A n c _ (by rfl) (by exact (HW3.out.drew).alloc _) _ _ 1 1 [.int .u16 M] (by rfl) (by exact Reads.one _ _ _ _ rfl) (by simp [Value.oneCell']) (by unfold maxLen; omega) (by omega) (by simp; omega) ?_
                 intro A4 c4 w4 h4
                 have HO4 := Lib.hid ((HO3.out.drew.alloc _).grown h4.2.1 (Ne.symm HNB.out))
                 have HZ4 := Lib.hid ((HZ3.out.drew.alloc _).grown h4.2.1 (Ne.symm HNZ.out))
                 have HG4 := Lib.hid (h4.gr (gr_alloc (gr_drew HG3.out) _) ((HW3.out.drew).alloc _) (Nat.le_refl _))
                 have H4 := Lib.hid h4
                 have c4' := HO4.out.cell
                 have f4 := HO4.out.frozen
                 clear h4)
              | fail)
            all_goals
              go_wp2_with fail
              go_simp
              go_roundw
              case rel =>
                refine ⟨u, f, S ++ [M], A4, n + 1, c4, rfl, by omega, by omega, ?_, ?_, ?_, ?_, ?_, ?_⟩
                · exact HZ4.out.far (p := ⟨w.heap.size + 1, 0, none⟩) (by simp) _
                · exact HO4.out.set_ 0 _
                · have h := Own.far H4.out.1 (p := ⟨w.heap.size + 1, 0, none⟩) (Own.blk_ne H4.out.1 HO4.out (by decide)) (.slice A4 (n + 1) c4)
                  rw [List.map_append]
                  exact h
                · exact gr_setCell (p := ⟨w.heap.size + 1, 0, none⟩) HG4.out (.inr (by simp)) _
                · rw [List.length_append, HN.out]; rfl
                · rw [HU.out]; exact HSH.out
              case measure => simp only [strSz]; omega
end Go.Proofs.YtpildcnoghojpaaGreatDoor

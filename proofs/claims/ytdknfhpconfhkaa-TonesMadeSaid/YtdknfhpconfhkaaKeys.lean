/- Contract of Keys. Conditions: none. -/
import Derived.Test.YtdknfhpconfhkaaStrong
import Derived.Test.YtdknfhpconfhkaaTone3
import Derived.Test.YtdknfhpconfhkaaConv
import Derived.Deep.DeepCutAuto
namespace Go.Proofs.Ytdknfhpconfhkaa
open Go.RowKit

def blkL (l : List Int) (i : Nat) : List Int := (l.drop (205 * i)).take 205
noncomputable def keyAt (l : List Int) (i : Nat) : Int :=
  if (strongR (strOf rowsL (blkL l i))).2 && (strongR (strOf colsL (blkL l i))).2 then 4 * (strongR (strOf rowsL (blkL l i))).1 + (strongR (strOf colsL (blkL l i))).1 else -1
noncomputable def keysOf (l : List Int) : List Int := tab (l.length / 205) (keyAt l)
theorem strongR_bd {S : List Int} (h : S.length = 4) : 0 ≤ (strongR S).1 ∧ (strongR S).1 ≤ 3 := by
  unfold strongR
  split
  · have := bestTo_bd S S.length
    dsimp only
    omega
  · dsimp only; omega
theorem keyAt_bd (l : List Int) (i : Nat) : -1 ≤ keyAt l i ∧ keyAt l i ≤ 15 := by
  unfold keyAt
  have h1 := strongR_bd (S := strOf rowsL (blkL l i)) (by simp [strOf, rowsL])
  have h2 := strongR_bd (S := strOf colsL (blkL l i)) (by simp [strOf, colsL])
  split <;> omega
theorem pst_same {ks : List Int} {j : Nat} {la ma : Int} {out : List Int} (h : pst ks j = (la, ma, out)) (hk : ks.getD j 0 = la) : pst ks (j + 1) = (la, ma + 1, if ma + 1 = 2 ∧ 0 ≤ la then out ++ [la] else out) := by
  rw [pst, h, hk]; dsimp only; rw [if_pos rfl]
theorem pst_new {ks : List Int} {j : Nat} {la ma kk : Int} {out : List Int} (h : pst ks j = (la, ma, out)) (hk : ks.getD j 0 = kk) (hne : ¬ kk = la) : pst ks (j + 1) = (kk, 1, out) := by
  rw [pst, h, hk]; dsimp only; rw [if_neg hne]
def keyB (k : Int) : Int := keysL.getD k.toNat 0
theorem pst_bd (ks : List Int) (h : ∀ k ∈ ks, -1 ≤ k ∧ k ≤ 15) (i : Nat) (hi : i ≤ ks.length) : (-1 ≤ (pst ks i).1 ∧ (pst ks i).1 ≤ 15) ∧ (0 ≤ (pst ks i).2.1 ∧ (pst ks i).2.1 ≤ i) ∧ (pst ks i).2.2.length ≤ i ∧ ∀ k ∈ (pst ks i).2.2, 0 ≤ k ∧ k ≤ 15 := by
  induction i with
  | zero => simp [pst]
  | succ i ih =>
    obtain ⟨h1, h2, h3, h4⟩ := ih (by omega)
    have hx : ks[i]? = some ks[i] := List.getElem?_eq_getElem (by omega)
    have hk := h _ (mem_of_get hx)
    have hd : ks.getD i 0 = ks[i] := by rw [List.getD_eq_getElem?_getD, hx]; rfl
    rw [pst, hd]
    split
    · refine ⟨h1, ⟨by dsimp only; omega, by dsimp only; omega⟩, ?_, ?_⟩
      · dsimp only; split
        · simp; omega
        · omega
      · dsimp only
        split
        · rename_i h5
          intro k hk2
          rcases List.mem_append.1 hk2 with h6 | h6
          · exact h4 k h6
          · rw [List.mem_singleton.1 h6]; omega
        · exact h4
    · exact ⟨hk, ⟨by dsimp only; omega, by dsimp only; omega⟩, by dsimp only; omega, h4⟩

set_option maxRecDepth 100000 in
set_option maxHeartbeats 8000000 in
theorem keys_ok (A : Option Addr) (n c : Nat) (l : List Int) (w : World) (h : Ints .i64 w 0 A n c l) (hn : n ≤ 1000000) (hf : smpFault l = 0) :
    Calls Try.prog 56 #[.slice A n c] w (RetP (fun v _ => v = .tuple #[.string (strI ((pst (keysOf l) (l.length / 205)).2.2.map keyB)), .int .i64 0]) w) := by
  have H := Lib.hid h; clear h
  have hfb : (smpFault l != 0) = false := by simpa using hf
  have HOK := Lib.hid (smp_ok hf).2; clear hf
  have HNL := Lib.hid H.out.len
  obtain ⟨ks, hks⟩ : ∃ ks, keysOf l = ks := ⟨_, rfl⟩
  have HKS := Lib.hid hks
  have hkl : ks.length = n / 205 := by rw [← hks]; unfold keysOf; rw [tab_len, HNL.out]
  have HPB := Lib.hid (pst_bd ks (fun k hk => by
    rw [← hks] at hk
    unfold keysOf tab at hk
    obtain ⟨i, _, rfl⟩ := List.mem_map.1 hk
    exact keyAt_bd l i))
  have HKL := Lib.hid hkl
  rw [hks]
  clear hks hkl
  go_enter Try.func56, Try.ntmps56
  go_wp2_with (first
    | (go_at_call 29; refine (checkSamples_any 0 _ _ _ l _ H.out (by omega)).mono ?_; rintro e w' ⟨rfl, rfl⟩)
    | fail)
  go_loopw [5, 6, 7, 8, 9, 10, 11, 12, 13, 14] (fun v s6 s7 s8 _ _ _ _ _ _ wr => ∃ (j a : Nat) (A' : Option Addr) (m c' : Nat) (la ma : Int) (out : List Int), j ≤ n / 205 ∧ s8 = .int .i64 a ∧ v = .slice A' m c' ∧ s6 = .int .i64 la ∧ s7 = .int .i64 ma ∧ (a = 205 * j ∧ pst ks j = (la, ma, out) ∧ w.grownBy wr none ∧ OwnB wr w.heap.size A' m c' (out.map keyB) ∧ out.length = m)) (fun _ _ _ s8 _ _ _ _ _ _ _ => n - (intOf s8).toNat)
  case atStart => exact ⟨0, 0, none, 0, 0, -1, 0, [], Nat.zero_le _, rfl, rfl, rfl, rfl, rfl, rfl, gr_refl _ _, Own.nil _ _ _ _, rfl⟩
  case round =>
    obtain ⟨j, a, A', m, c', la, ma, out, hj, rfl, rfl, rfl, rfl, ha, hst, hg, ho, hol⟩ := hrel
    have hpb := HPB.out j (by rw [HKL.out]; exact hj)
    rw [hst] at hpb
    obtain ⟨⟨la0, la1⟩, ⟨ma0, ma1⟩, ol, _⟩ := hpb
    dsimp only at la0 la1 ma0 ma1 ol
    have zr := hg.size
    have hja : 205 * j ≤ n := by omega
    have HA := Lib.hid ha; have HST := Lib.hid hst; have HG := Lib.hid hg; have HO := Lib.hid ho; have HOL := Lib.hid hol
    have haj : a ≤ n := by omega
    have hmj : m ≤ 1000000 := by omega
    clear ha hst hg ho hol
    by_cases hlt : a + 205 ≤ n
    · have hjl : j < n / 205 := by have := HA.out; omega
      have hcap : n ≤ c := H.out.cap
      obtain ⟨g, o, z0, rfl, _, _, _, _⟩ := H.out.get (show 0 < n by omega)
      have hne : ¬ c = a := by omega
      have d1 : decide ((a : Int) + 205 ≤ (n : Int)) = true := decide_eq_true (by omega)
      have HBK := Lib.hid (show Ints .i64 w 0 (some ⟨g, o + a, none⟩) 205 (c - a) (blkL l j) by
        have h := H.out.sub a 205 hlt
        unfold blkL
        rw [← HA.out]
        exact h)
      have HBL := Lib.hid (show ∀ z ∈ blkL l j, -32768 ≤ z ∧ z ≤ 32767 from fun z hz => HOK.out z (List.mem_of_mem_drop (List.mem_of_mem_take hz)))
      obtain ⟨r, br, hrb⟩ : ∃ r br, strongR (strOf rowsL (blkL l j)) = (r, br) := ⟨_, _, rfl⟩
      obtain ⟨cc, bc, hcb⟩ : ∃ cc bc, strongR (strOf colsL (blkL l j)) = (cc, bc) := ⟨_, _, rfl⟩
      have hr0 := strongR_bd (S := strOf rowsL (blkL l j)) (by simp [strOf, rowsL])
      have hc0 := strongR_bd (S := strOf colsL (blkL l j)) (by simp [strOf, colsL])
      rw [hrb] at hr0
      rw [hcb] at hc0
      dsimp only at hr0 hc0
      obtain ⟨r0, r1⟩ := hr0
      obtain ⟨c0, c1⟩ := hc0
      have HKA := Lib.hid (show ks.getD j 0 = if br && bc then 4 * r + cc else -1 by
        rw [← HKS.out, List.getD_eq_getElem?_getD]
        unfold keysOf
        rw [tab_get _ (by rw [HNL.out]; exact hjl)]
        show keyAt l j = _
        unfold keyAt
        rw [hrb, hcb])
      have HRB := Lib.hid hrb; have HCB := Lib.hid hcb
      clear hrb hcb
      go_wp2_with fail
      refine (rows_any _).mono ?_
      rintro e w2 ⟨v2, rfl, ⟨A2, n2, c2, rfl, rfl, hx2⟩, hg2⟩
      have HG2 := Lib.hid (gr_none HG.out hg2)
      have HO2 := Lib.hid (Own.kept HO.out hg2 (fun g e => by cases e))
      have HX2 := Lib.hid (hx2.lower (Nat.zero_le _))
      clear hx2 hg2
      go_wp2_with fail
      refine (mstrongest_any _ 4 _ rowsL _ 205 _ (blkL l j) _ HX2.out (HBK.out.grown HG2.out (fun g e => by cases e)) (by omega) (by omega) (by omega) HBL.out).mono ?_
      rintro e w3 ⟨v3, rfl, hv3, hg3⟩
      unfold IsStrong at hv3
      rw [HRB.out] at hv3
      subst hv3
      replace HG2 := Lib.hid (gr_none HG2.out hg3)
      replace HO2 := Lib.hid (Own.kept HO2.out hg3 (fun g e => by cases e))
      clear hg3 HX2
      go_wp2_with fail
      refine (columns_any _).mono ?_
      rintro e w4 ⟨v4, rfl, ⟨A4, n4, c4, rfl, rfl, hx4⟩, hg4⟩
      replace HG2 := Lib.hid (gr_none HG2.out hg4)
      replace HO2 := Lib.hid (Own.kept HO2.out hg4 (fun g e => by cases e))
      have HX4 := Lib.hid (hx4.lower (Nat.zero_le _))
      clear hx4 hg4
      go_wp2_with fail
      refine (mstrongest_any _ 4 _ colsL _ 205 _ (blkL l j) _ HX4.out (HBK.out.grown HG2.out (fun g e => by cases e)) (by omega) (by omega) (by omega) HBL.out).mono ?_
      rintro e w5 ⟨v5, rfl, hv5, hg5⟩
      unfold IsStrong at hv5
      rw [HCB.out] at hv5
      subst hv5
      replace HG2 := Lib.hid (gr_none HG2.out hg5)
      replace HO2 := Lib.hid (Own.kept HO2.out hg5 (fun g e => by cases e))
      clear hg5 HX4
      obtain ⟨kk, hkk⟩ : ∃ kk, ks.getD j 0 = kk := ⟨_, rfl⟩
      have HKK := Lib.hid hkk
      have hkk2 : kk = if br && bc then 4 * r + cc else -1 := by rw [← hkk]; exact HKA.out
      have HK2 := Lib.hid hkk2
      have kk0 : -1 ≤ kk := by rw [hkk2]; split <;> omega
      have kk1 : kk ≤ 15 := by rw [hkk2]; split <;> omega
      clear hkk hkk2
      go_upto_region 13 with (fail)
      go_cut [47] (fun v wx => v = .bool (br && bc) ∧ wx = w5)
      case first =>
        cases br
        all_goals
          go_wp2_with fail
          go_meet
          exact ⟨by simp, rfl⟩
      case rest =>
        obtain ⟨rfl, rfl⟩ := hcut
        obtain ⟨wa, rfl⟩ : ∃ wa : World, wa = wc := ⟨_, rfl⟩
        go_upto_if 47 with (fail)
        go_cut [14] (fun v wx => v = .int .i64 kk ∧ wx = wa)
        case first =>
          cases hbb : (br && bc)
          · go_wp2_with fail
            go_meet
            exact ⟨by rw [HK2.out, hbb]; rfl, rfl⟩
          · go_wp2_with fail
            go_meet
            exact ⟨by rw [HK2.out, hbb]; rfl, rfl⟩
        case rest =>
          obtain ⟨rfl, rfl⟩ := hcut
          obtain ⟨wb, rfl⟩ : ∃ wb : World, wb = wc := ⟨_, rfl⟩
          have zb := HG2.out.size
          by_cases hkl : kk = la
          · have hb1 : (kk != la) = false := by rw [bne_eq_false_iff_eq]; exact hkl
            have HPS := Lib.hid (pst_same HST.out (HKK.out.trans hkl))
            subst hkl
            by_cases hm1 : ma = 1
            · by_cases hk0 : 0 ≤ kk
              · obtain rfl : ma = 1 := hm1
                replace HPS := Lib.hid (show pst ks (j + 1) = (kk, 2, out ++ [kk]) by rw [HPS.out, if_pos ⟨by omega, hk0⟩]; rfl)
                have hmm : m + 1 ≤ 1000000 := by have := HA.out; have := HOL.out; omega
                rcases (by omega : kk = 0 ∨ kk = 1 ∨ kk = 2 ∨ kk = 3 ∨ kk = 4 ∨ kk = 5 ∨ kk = 6 ∨ kk = 7 ∨ kk = 8 ∨ kk = 9 ∨ kk = 10 ∨ kk = 11 ∨ kk = 12 ∨ kk = 13 ∨ kk = 14 ∨ kk = 15) with rfl | rfl | rfl | rfl | rfl | rfl | rfl | rfl | rfl | rfl | rfl | rfl | rfl | rfl | rfl | rfl
                · go_wp2_with (first
                    | (at_builtin
                       refine wpl_app _ rfl _ _ Try.byteT rfl w.heap.size A' m c' _ rfl (by exact HO2.out.alloc _) _ _ 1 1 [.int .u8 (keyB 0)] rfl (by exact Reads.one _ _ _ _ rfl) (by simp [Value.oneCell']) (by unfold maxLen; omega) (by omega) (by simp; omega) ?_
                       intro A10 c10 w10 h10
                       have H10 := Lib.hid h10; clear h10)
                    | fail)
                  go_roundw
                  case rel =>
                    refine ⟨j + 1, a + 205, A10, m + 1, c10, 0, 2, out ++ [0], by omega, by go_num, rfl, rfl, rfl, by have := HA.out; omega, HPS.out, H10.out.gr (gr_alloc HG2.out _) (Own.alloc HO2.out _) (Nat.le_refl _), ?_, by simp [HOL.out]⟩
                    unfold OwnB
                    rw [List.map_append, List.map_append]
                    exact H10.out.1
                  case measure => simp [intOf]; omega
                · go_wp2_with (first
                    | (at_builtin
                       refine wpl_app _ rfl _ _ Try.byteT rfl w.heap.size A' m c' _ rfl (by exact HO2.out.alloc _) _ _ 1 1 [.int .u8 (keyB 1)] rfl (by exact Reads.one _ _ _ _ rfl) (by simp [Value.oneCell']) (by unfold maxLen; omega) (by omega) (by simp; omega) ?_
                       intro A10 c10 w10 h10
                       have H10 := Lib.hid h10; clear h10)
                    | fail)
                  go_roundw
                  case rel =>
                    refine ⟨j + 1, a + 205, A10, m + 1, c10, 1, 2, out ++ [1], by omega, by go_num, rfl, rfl, rfl, by have := HA.out; omega, HPS.out, H10.out.gr (gr_alloc HG2.out _) (Own.alloc HO2.out _) (Nat.le_refl _), ?_, by simp [HOL.out]⟩
                    unfold OwnB
                    rw [List.map_append, List.map_append]
                    exact H10.out.1
                  case measure => simp [intOf]; omega
                · go_wp2_with (first
                    | (at_builtin
                       refine wpl_app _ rfl _ _ Try.byteT rfl w.heap.size A' m c' _ rfl (by exact HO2.out.alloc _) _ _ 1 1 [.int .u8 (keyB 2)] rfl (by exact Reads.one _ _ _ _ rfl) (by simp [Value.oneCell']) (by unfold maxLen; omega) (by omega) (by simp; omega) ?_
                       intro A10 c10 w10 h10
                       have H10 := Lib.hid h10; clear h10)
                    | fail)
                  go_roundw
                  case rel =>
                    refine ⟨j + 1, a + 205, A10, m + 1, c10, 2, 2, out ++ [2], by omega, by go_num, rfl, rfl, rfl, by have := HA.out; omega, HPS.out, H10.out.gr (gr_alloc HG2.out _) (Own.alloc HO2.out _) (Nat.le_refl _), ?_, by simp [HOL.out]⟩
                    unfold OwnB
                    rw [List.map_append, List.map_append]
                    exact H10.out.1
                  case measure => simp [intOf]; omega
                · go_wp2_with (first
                    | (at_builtin
                       refine wpl_app _ rfl _ _ Try.byteT rfl w.heap.size A' m c' _ rfl (by exact HO2.out.alloc _) _ _ 1 1 [.int .u8 (keyB 3)] rfl (by exact Reads.one _ _ _ _ rfl) (by simp [Value.oneCell']) (by unfold maxLen; omega) (by omega) (by simp; omega) ?_
                       intro A10 c10 w10 h10
                       have H10 := Lib.hid h10; clear h10)
                    | fail)
                  go_roundw
                  case rel =>
                    refine ⟨j + 1, a + 205, A10, m + 1, c10, 3, 2, out ++ [3], by omega, by go_num, rfl, rfl, rfl, by have := HA.out; omega, HPS.out, H10.out.gr (gr_alloc HG2.out _) (Own.alloc HO2.out _) (Nat.le_refl _), ?_, by simp [HOL.out]⟩
                    unfold OwnB
                    rw [List.map_append, List.map_append]
                    exact H10.out.1
                  case measure => simp [intOf]; omega
                · go_wp2_with (first
                    | (at_builtin
                       refine wpl_app _ rfl _ _ Try.byteT rfl w.heap.size A' m c' _ rfl (by exact HO2.out.alloc _) _ _ 1 1 [.int .u8 (keyB 4)] rfl (by exact Reads.one _ _ _ _ rfl) (by simp [Value.oneCell']) (by unfold maxLen; omega) (by omega) (by simp; omega) ?_
                       intro A10 c10 w10 h10
                       have H10 := Lib.hid h10; clear h10)
                    | fail)
                  go_roundw
                  case rel =>
                    refine ⟨j + 1, a + 205, A10, m + 1, c10, 4, 2, out ++ [4], by omega, by go_num, rfl, rfl, rfl, by have := HA.out; omega, HPS.out, H10.out.gr (gr_alloc HG2.out _) (Own.alloc HO2.out _) (Nat.le_refl _), ?_, by simp [HOL.out]⟩
                    unfold OwnB
                    rw [List.map_append, List.map_append]
                    exact H10.out.1
                  case measure => simp [intOf]; omega
                · go_wp2_with (first
                    | (at_builtin
                       refine wpl_app _ rfl _ _ Try.byteT rfl w.heap.size A' m c' _ rfl (by exact HO2.out.alloc _) _ _ 1 1 [.int .u8 (keyB 5)] rfl (by exact Reads.one _ _ _ _ rfl) (by simp [Value.oneCell']) (by unfold maxLen; omega) (by omega) (by simp; omega) ?_
                       intro A10 c10 w10 h10
                       have H10 := Lib.hid h10; clear h10)
                    | fail)
                  go_roundw
                  case rel =>
                    refine ⟨j + 1, a + 205, A10, m + 1, c10, 5, 2, out ++ [5], by omega, by go_num, rfl, rfl, rfl, by have := HA.out; omega, HPS.out, H10.out.gr (gr_alloc HG2.out _) (Own.alloc HO2.out _) (Nat.le_refl _), ?_, by simp [HOL.out]⟩
                    unfold OwnB
                    rw [List.map_append, List.map_append]
                    exact H10.out.1
                  case measure => simp [intOf]; omega
                · go_wp2_with (first
                    | (at_builtin
                       refine wpl_app _ rfl _ _ Try.byteT rfl w.heap.size A' m c' _ rfl (by exact HO2.out.alloc _) _ _ 1 1 [.int .u8 (keyB 6)] rfl (by exact Reads.one _ _ _ _ rfl) (by simp [Value.oneCell']) (by unfold maxLen; omega) (by omega) (by simp; omega) ?_
                       intro A10 c10 w10 h10
                       have H10 := Lib.hid h10; clear h10)
                    | fail)
                  go_roundw
                  case rel =>
                    refine ⟨j + 1, a + 205, A10, m + 1, c10, 6, 2, out ++ [6], by omega, by go_num, rfl, rfl, rfl, by have := HA.out; omega, HPS.out, H10.out.gr (gr_alloc HG2.out _) (Own.alloc HO2.out _) (Nat.le_refl _), ?_, by simp [HOL.out]⟩
                    unfold OwnB
                    rw [List.map_append, List.map_append]
                    exact H10.out.1
                  case measure => simp [intOf]; omega
                · go_wp2_with (first
                    | (at_builtin
                       refine wpl_app _ rfl _ _ Try.byteT rfl w.heap.size A' m c' _ rfl (by exact HO2.out.alloc _) _ _ 1 1 [.int .u8 (keyB 7)] rfl (by exact Reads.one _ _ _ _ rfl) (by simp [Value.oneCell']) (by unfold maxLen; omega) (by omega) (by simp; omega) ?_
                       intro A10 c10 w10 h10
                       have H10 := Lib.hid h10; clear h10)
                    | fail)
                  go_roundw
                  case rel =>
                    refine ⟨j + 1, a + 205, A10, m + 1, c10, 7, 2, out ++ [7], by omega, by go_num, rfl, rfl, rfl, by have := HA.out; omega, HPS.out, H10.out.gr (gr_alloc HG2.out _) (Own.alloc HO2.out _) (Nat.le_refl _), ?_, by simp [HOL.out]⟩
                    unfold OwnB
                    rw [List.map_append, List.map_append]
                    exact H10.out.1
                  case measure => simp [intOf]; omega
                · go_wp2_with (first
                    | (at_builtin
                       refine wpl_app _ rfl _ _ Try.byteT rfl w.heap.size A' m c' _ rfl (by exact HO2.out.alloc _) _ _ 1 1 [.int .u8 (keyB 8)] rfl (by exact Reads.one _ _ _ _ rfl) (by simp [Value.oneCell']) (by unfold maxLen; omega) (by omega) (by simp; omega) ?_
                       intro A10 c10 w10 h10
                       have H10 := Lib.hid h10; clear h10)
                    | fail)
                  go_roundw
                  case rel =>
                    refine ⟨j + 1, a + 205, A10, m + 1, c10, 8, 2, out ++ [8], by omega, by go_num, rfl, rfl, rfl, by have := HA.out; omega, HPS.out, H10.out.gr (gr_alloc HG2.out _) (Own.alloc HO2.out _) (Nat.le_refl _), ?_, by simp [HOL.out]⟩
                    unfold OwnB
                    rw [List.map_append, List.map_append]
                    exact H10.out.1
                  case measure => simp [intOf]; omega
                · go_wp2_with (first
                    | (at_builtin
                       refine wpl_app _ rfl _ _ Try.byteT rfl w.heap.size A' m c' _ rfl (by exact HO2.out.alloc _) _ _ 1 1 [.int .u8 (keyB 9)] rfl (by exact Reads.one _ _ _ _ rfl) (by simp [Value.oneCell']) (by unfold maxLen; omega) (by omega) (by simp; omega) ?_
                       intro A10 c10 w10 h10
                       have H10 := Lib.hid h10; clear h10)
                    | fail)
                  go_roundw
                  case rel =>
                    refine ⟨j + 1, a + 205, A10, m + 1, c10, 9, 2, out ++ [9], by omega, by go_num, rfl, rfl, rfl, by have := HA.out; omega, HPS.out, H10.out.gr (gr_alloc HG2.out _) (Own.alloc HO2.out _) (Nat.le_refl _), ?_, by simp [HOL.out]⟩
                    unfold OwnB
                    rw [List.map_append, List.map_append]
                    exact H10.out.1
                  case measure => simp [intOf]; omega
                · go_wp2_with (first
                    | (at_builtin
                       refine wpl_app _ rfl _ _ Try.byteT rfl w.heap.size A' m c' _ rfl (by exact HO2.out.alloc _) _ _ 1 1 [.int .u8 (keyB 10)] rfl (by exact Reads.one _ _ _ _ rfl) (by simp [Value.oneCell']) (by unfold maxLen; omega) (by omega) (by simp; omega) ?_
                       intro A10 c10 w10 h10
                       have H10 := Lib.hid h10; clear h10)
                    | fail)
                  go_roundw
                  case rel =>
                    refine ⟨j + 1, a + 205, A10, m + 1, c10, 10, 2, out ++ [10], by omega, by go_num, rfl, rfl, rfl, by have := HA.out; omega, HPS.out, H10.out.gr (gr_alloc HG2.out _) (Own.alloc HO2.out _) (Nat.le_refl _), ?_, by simp [HOL.out]⟩
                    unfold OwnB
                    rw [List.map_append, List.map_append]
                    exact H10.out.1
                  case measure => simp [intOf]; omega
                · go_wp2_with (first
                    | (at_builtin
                       refine wpl_app _ rfl _ _ Try.byteT rfl w.heap.size A' m c' _ rfl (by exact HO2.out.alloc _) _ _ 1 1 [.int .u8 (keyB 11)] rfl (by exact Reads.one _ _ _ _ rfl) (by simp [Value.oneCell']) (by unfold maxLen; omega) (by omega) (by simp; omega) ?_
                       intro A10 c10 w10 h10
                       have H10 := Lib.hid h10; clear h10)
                    | fail)
                  go_roundw
                  case rel =>
                    refine ⟨j + 1, a + 205, A10, m + 1, c10, 11, 2, out ++ [11], by omega, by go_num, rfl, rfl, rfl, by have := HA.out; omega, HPS.out, H10.out.gr (gr_alloc HG2.out _) (Own.alloc HO2.out _) (Nat.le_refl _), ?_, by simp [HOL.out]⟩
                    unfold OwnB
                    rw [List.map_append, List.map_append]
                    exact H10.out.1
                  case measure => simp [intOf]; omega
                · go_wp2_with (first
                    | (at_builtin
                       refine wpl_app _ rfl _ _ Try.byteT rfl w.heap.size A' m c' _ rfl (by exact HO2.out.alloc _) _ _ 1 1 [.int .u8 (keyB 12)] rfl (by exact Reads.one _ _ _ _ rfl) (by simp [Value.oneCell']) (by unfold maxLen; omega) (by omega) (by simp; omega) ?_
                       intro A10 c10 w10 h10
                       have H10 := Lib.hid h10; clear h10)
                    | fail)
                  go_roundw
                  case rel =>
                    refine ⟨j + 1, a + 205, A10, m + 1, c10, 12, 2, out ++ [12], by omega, by go_num, rfl, rfl, rfl, by have := HA.out; omega, HPS.out, H10.out.gr (gr_alloc HG2.out _) (Own.alloc HO2.out _) (Nat.le_refl _), ?_, by simp [HOL.out]⟩
                    unfold OwnB
                    rw [List.map_append, List.map_append]
                    exact H10.out.1
                  case measure => simp [intOf]; omega
                · go_wp2_with (first
                    | (at_builtin
                       refine wpl_app _ rfl _ _ Try.byteT rfl w.heap.size A' m c' _ rfl (by exact HO2.out.alloc _) _ _ 1 1 [.int .u8 (keyB 13)] rfl (by exact Reads.one _ _ _ _ rfl) (by simp [Value.oneCell']) (by unfold maxLen; omega) (by omega) (by simp; omega) ?_
                       intro A10 c10 w10 h10
                       have H10 := Lib.hid h10; clear h10)
                    | fail)
                  go_roundw
                  case rel =>
                    refine ⟨j + 1, a + 205, A10, m + 1, c10, 13, 2, out ++ [13], by omega, by go_num, rfl, rfl, rfl, by have := HA.out; omega, HPS.out, H10.out.gr (gr_alloc HG2.out _) (Own.alloc HO2.out _) (Nat.le_refl _), ?_, by simp [HOL.out]⟩
                    unfold OwnB
                    rw [List.map_append, List.map_append]
                    exact H10.out.1
                  case measure => simp [intOf]; omega
                · go_wp2_with (first
                    | (at_builtin
                       refine wpl_app _ rfl _ _ Try.byteT rfl w.heap.size A' m c' _ rfl (by exact HO2.out.alloc _) _ _ 1 1 [.int .u8 (keyB 14)] rfl (by exact Reads.one _ _ _ _ rfl) (by simp [Value.oneCell']) (by unfold maxLen; omega) (by omega) (by simp; omega) ?_
                       intro A10 c10 w10 h10
                       have H10 := Lib.hid h10; clear h10)
                    | fail)
                  go_roundw
                  case rel =>
                    refine ⟨j + 1, a + 205, A10, m + 1, c10, 14, 2, out ++ [14], by omega, by go_num, rfl, rfl, rfl, by have := HA.out; omega, HPS.out, H10.out.gr (gr_alloc HG2.out _) (Own.alloc HO2.out _) (Nat.le_refl _), ?_, by simp [HOL.out]⟩
                    unfold OwnB
                    rw [List.map_append, List.map_append]
                    exact H10.out.1
                  case measure => simp [intOf]; omega
                · go_wp2_with (first
                    | (at_builtin
                       refine wpl_app _ rfl _ _ Try.byteT rfl w.heap.size A' m c' _ rfl (by exact HO2.out.alloc _) _ _ 1 1 [.int .u8 (keyB 15)] rfl (by exact Reads.one _ _ _ _ rfl) (by simp [Value.oneCell']) (by unfold maxLen; omega) (by omega) (by simp; omega) ?_
                       intro A10 c10 w10 h10
                       have H10 := Lib.hid h10; clear h10)
                    | fail)
                  go_roundw
                  case rel =>
                    refine ⟨j + 1, a + 205, A10, m + 1, c10, 15, 2, out ++ [15], by omega, by go_num, rfl, rfl, rfl, by have := HA.out; omega, HPS.out, H10.out.gr (gr_alloc HG2.out _) (Own.alloc HO2.out _) (Nat.le_refl _), ?_, by simp [HOL.out]⟩
                    unfold OwnB
                    rw [List.map_append, List.map_append]
                    exact H10.out.1
                  case measure => simp [intOf]; omega
              · have hk1 : decide (0 ≤ kk) = false := decide_eq_false hk0
                obtain rfl : ma = 1 := hm1
                replace HPS := Lib.hid (show pst ks (j + 1) = (kk, 2, out) by rw [HPS.out, if_neg (fun h => hk0 h.2)]; rfl)
                go_wp2_with fail
                go_roundw
                case rel => exact ⟨j + 1, a + 205, A', m, c', kk, 2, out, by omega, by go_num, rfl, rfl, rfl, by have := HA.out; omega, HPS.out, HG2.out, HO2.out, HOL.out⟩
                case measure => simp [intOf]; omega
            · have hm2 : ((ma + 1) == 2) = false := by rw [beq_eq_false_iff_ne]; omega
              have hm3 : (ma == 1) = false := by rw [beq_eq_false_iff_ne]; exact hm1
              replace HPS := Lib.hid (show pst ks (j + 1) = (kk, ma + 1, out) by rw [HPS.out, if_neg (fun h => hm1 (by omega))])
              go_wp2_with fail
              go_roundw
              case rel => exact ⟨j + 1, a + 205, A', m, c', kk, ma + 1, out, by omega, by go_num, rfl, rfl, rfl, by have := HA.out; omega, HPS.out, HG2.out, HO2.out, HOL.out⟩
              case measure => simp [intOf]; omega
          · have hb1 : (kk != la) = true := by rw [bne_iff_ne]; exact hkl
            have HPS := Lib.hid (pst_new HST.out HKK.out hkl)
            clear hkl
            go_wp2_with fail
            go_roundw
            case rel => exact ⟨j + 1, a + 205, A', m, c', kk, 1, out, by omega, by go_num, rfl, rfl, rfl, by have := HA.out; omega, HPS.out, HG2.out, HO2.out, HOL.out⟩
            case measure => simp [intOf]; omega
    · have hjn : j = n / 205 := by have := HA.out; omega
      have d1 : decide ((a : Int) + 205 ≤ (n : Int)) = false := decide_eq_false (by omega)
      have HJN := Lib.hid hjn; clear hjn
      have hcv := run_str (P := Try.prog) (src := 26) (dst := 9) (e := 5) Try.underlying26 Try.underlying5 Try.underlying9 (Own.reads HO.out : Ints .u8 wr w.heap.size A' m c' (out.map keyB))
      go_wp2_with fail
      go_ret2
      refine ⟨_, rfl, ?_, HG.out⟩
      rw [HNL.out, ← HJN.out, HST.out]
      rfl

set_option maxHeartbeats 4000000 in
theorem keys_no (A : Option Addr) (n c : Nat) (l : List Int) (w : World) (h : Ints .i64 w 0 A n c l) (hn : n ≤ 1000000) (hf : smpFault l ≠ 0) :
    Calls Try.prog 56 #[.slice A n c] w (Same (.tuple #[.string ⟨#[]⟩, .int .i64 (smpFault l)]) w) := by
  have H := Lib.hid h; clear h
  have hfb : (smpFault l != 0) = true := by simpa using hf
  clear hf
  go_enter Try.func56, Try.ntmps56
  go_wp2_with (first
    | (go_at_call 29; refine (checkSamples_any 0 _ _ _ l _ H.out (by omega)).mono ?_; rintro e w' ⟨rfl, rfl⟩)
    | fail)
  go_ret2
  exact ⟨rfl, rfl⟩
end Go.Proofs.Ytdknfhpconfhkaa

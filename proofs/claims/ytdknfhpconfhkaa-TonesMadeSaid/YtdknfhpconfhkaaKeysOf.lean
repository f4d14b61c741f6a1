/- Contract of KeysOf. Conditions: none. -/
import Derived.Test.YtdknfhpconfhkaaKeys
import Derived.Deep.RegionHeld3
import Derived.Test.YtdknfhpconfhkaaMix3
import Derived.Test.YtdknfhpconfhkaaLoss3
namespace Go.Proofs.Ytdknfhpconfhkaa
open Go.RowKit

def hearB (k : Int) : Int := if k < 0 then 32 else keyB k
theorem keyAt_q (l : List Int) (i : Nat) : keyAt l i = if strongQ (strOf rowsL (blkL l i)) < 0 ∨ strongQ (strOf colsL (blkL l i)) < 0 then -1 else 4 * strongQ (strOf rowsL (blkL l i)) + strongQ (strOf colsL (blkL l i)) := by
  have h1 := strongR_bd (S := strOf rowsL (blkL l i)) (by simp [strOf, rowsL])
  have h2 := strongR_bd (S := strOf colsL (blkL l i)) (by simp [strOf, colsL])
  unfold keyAt strongQ
  generalize strongR (strOf rowsL (blkL l i)) = R at *
  generalize strongR (strOf colsL (blkL l i)) = C at *
  obtain ⟨r, br⟩ := R
  obtain ⟨c, bc⟩ := C
  dsimp only at *
  cases br <;> cases bc <;> simp <;> omega
theorem blk_drop (l : List Int) (j i : Nat) : blkL (l.drop (205 * j)) i = blkL l (j + i) := by
  unfold blkL
  rw [List.drop_drop, show 205 * j + 205 * i = 205 * (j + i) by omega]
theorem hearB_inj {a b : Int} (a0 : -1 ≤ a) (a1 : a ≤ 15) (b0 : -1 ≤ b) (b1 : b ≤ 15) (h : hearB a = hearB b) : a = b := by
  have hd : ∀ x y : Fin 17, hearB ((x.val : Int) - 1) = hearB ((y.val : Int) - 1) → x = y := by decide +kernel
  have := hd ⟨(a + 1).toNat, by omega⟩ ⟨(b + 1).toNat, by omega⟩ (by
    rw [show (((⟨(a + 1).toNat, by omega⟩ : Fin 17).val : Int) - 1) = a by simp; omega, show (((⟨(b + 1).toNat, by omega⟩ : Fin 17).val : Int) - 1) = b by simp; omega]
    exact h)
  have := congrArg Fin.val this
  simp at this
  omega
theorem hearB_bd {a : Int} (a0 : -1 ≤ a) (a1 : a ≤ 15) : 0 ≤ hearB a ∧ hearB a < 128 ∧ (hearB a = 32 ↔ a < 0) := by
  have hd : ∀ x : Fin 17, 0 ≤ hearB ((x.val : Int) - 1) ∧ hearB ((x.val : Int) - 1) < 128 ∧ (hearB ((x.val : Int) - 1) = 32 ↔ ((x.val : Int) - 1) < 0) := by decide +kernel
  have := hd ⟨(a + 1).toNat, by omega⟩
  rw [show (((⟨(a + 1).toNat, by omega⟩ : Fin 17).val : Int) - 1) = a by simp; omega] at this
  exact this
theorem hearB_key {a : Int} (a0 : 0 ≤ a) : hearB a = keyB a := by unfold hearB; rw [if_neg (by omega)]

theorem enc_one {z : Int} (h0 : 0 ≤ z) (h1 : z < 128) : Utf8.encode z = strI [z] := by
  have hd : ∀ x : Fin 128, Utf8.encode (x.val : Int) = strI [(x.val : Int)] := by decide +kernel
  have := hd ⟨z.toNat, by omega⟩
  rwa [show (((⟨z.toNat, by omega⟩ : Fin 128).val : Nat) : Int) = z by simp; omega] at this
theorem strI_size (a : List Int) : (strI a).size = a.length := by simp [strI, ByteArray.size]
theorem enc_size {z : Int} (h0 : 0 ≤ z) (h1 : z < 128) : (Utf8.encode z).size = 1 := by rw [enc_one h0 h1, strI_size]; rfl
theorem strI_enc (a : List Int) (z : Int) (h0 : 0 ≤ z) (h1 : z < 128) : strI a ++ Utf8.encode z = strI (a ++ [z]) := by
  rw [enc_one h0 h1]
  apply ByteArray.ext
  simp [strI, ByteArray.data_append]

set_option maxRecDepth 100000 in
set_option maxHeartbeats 8000000 in
theorem keysOf_ok (A : Option Addr) (n c : Nat) (l : List Int) (w : World) (h : Ints .i64 w 0 A n c l) (hn : n ≤ 1000000) (hf : smpFault l = 0) :
    Calls Try.prog 57 #[.slice A n c] w (RetV (.string (strI ((pst (keysOf l) (l.length / 205)).2.2.map keyB))) w) := by
  have H := Lib.hid h; clear h
  have HOK := Lib.hid (smp_ok hf).2; clear hf
  have HNL := Lib.hid H.out.len
  obtain ⟨ks, hks⟩ : ∃ ks, keysOf l = ks := ⟨_, rfl⟩
  have HKS := Lib.hid hks
  have hkl : ks.length = n / 205 := by rw [← hks]; unfold keysOf; rw [tab_len, HNL.out]
  have HKL := Lib.hid hkl
  rw [hks]
  clear hks hkl
  go_enter Try.func57, Try.ntmps57
  go_wp2_with fail
  go_loopw [0, 3, 4, 5] (fun s0 v _ _ wr => ∃ (j : Nat) (A1 : Option Addr) (n1 c1 : Nat) (A' : Option Addr) (c' : Nat), j ≤ n / 205 ∧ s0 = .slice A1 n1 c1 ∧ v = .slice A' j c' ∧ (n1 = n - 205 * j ∧ w.grownBy wr none ∧ Ints .i64 w 0 A1 n1 c1 (l.drop (205 * j)) ∧ OwnB wr w.heap.size A' j c' ((ks.take j).map hearB))) (fun s0 _ _ _ _ => lenV s0)
  case atStart => exact ⟨0, A, n, c, none, 0, Nat.zero_le _, rfl, rfl, by omega, gr_refl _ _, by simpa using H.out, Own.nil _ _ _ _⟩
  case round =>
    obtain ⟨j, A1, n1, c1, A', c', hj, rfl, rfl, hn1, hg, hx, ho⟩ := hrel
    have zr := hg.size
    have HG := Lib.hid hg; have HXW := Lib.hid hx; have HX := Lib.hid (hx.grown hg (fun g e => by cases e)); have HO := Lib.hid ho; have HN1 := Lib.hid hn1
    have hnb : n1 ≤ 1000000 := by omega
    clear hg hx ho hn1
    by_cases hlt : 205 ≤ n1
    · have hcap : n1 ≤ c1 := HX.out.cap
      obtain ⟨g, o, z0, rfl, _, _, _, _⟩ := HX.out.get (show 0 < n1 by omega)
      have d1 : decide ((205 : Int) ≤ (n1 : Int)) = true := decide_eq_true (by omega)
      have q1 : (205 : Int) ≤ (c1 : Int) := by omega
      have q2 : 205 ≤ c1 := by omega
      have hjl : j < n / 205 := by have := HN1.out; omega
      have HBK := Lib.hid (show Ints .i64 wr 0 (some ⟨g, o, none⟩) 205 c1 (blkL l j) by
        have h := HX.out.front 205 hlt
        exact h)
      have HBL := Lib.hid (show ∀ z ∈ blkL l j, -32768 ≤ z ∧ z ≤ 32767 from fun z hz => HOK.out z (List.mem_of_mem_drop (List.mem_of_mem_take hz)))
      go_wp2_with fail
      go_region_held3 (fun w' => wr.grownBy w' none)
        ((repeat (first | (with_reducible exact HG5.out) | (with_reducible exact HG4.out) | (with_reducible exact HG3.out) | (with_reducible exact HG2.out) | (with_reducible refine gr_drew ?_) | (with_reducible exact gr_refl _ _))))
        (first
          | (go_at_call 89
             have hS' : wr.grownBy _ none := (by rename_i hS _ _; exact hS)
             refine (rowNumbers_any _).mono ?_
             rintro e w2 ⟨v2, rfl, ⟨A2, n2, c2, rfl, rfl, hx2⟩, hg2⟩
             have HG2 := Lib.hid (gr_none hS' hg2)
             have HX2 := Lib.hid (hx2.lower (Nat.zero_le _))
             clear hS' hx2 hg2)
          | (go_at_call 90
             have hS' : wr.grownBy _ none := (by rename_i hS _ _; exact hS)
             refine (columnNumbers_any _).mono ?_
             rintro e w4 ⟨v4, rfl, ⟨A4, n4, c4, rfl, rfl, hx4⟩, hg4⟩
             have HG4 := Lib.hid (gr_none hS' hg4)
             have HX4 := Lib.hid (hx4.lower (Nat.zero_le _))
             clear hS' hx4 hg4)
          | (go_at_call 92
             refine (qstrongest_any _ 4 _ colsL _ 205 _ (blkL l j) _ HX4.out (HBK.out.grown HG4.out (fun g e => by cases e)) (by omega) (by omega) (by omega) HBL.out).mono ?_
             rintro e w5 ⟨rfl, hg5⟩
             have HG5 := Lib.hid (gr_none HG4.out hg5)
             clear hg5)
          | (go_at_call 92
             refine (qstrongest_any _ 4 _ rowsL _ 205 _ (blkL l j) _ HX2.out (HBK.out.grown HG2.out (fun g e => by cases e)) (by omega) (by omega) (by omega) HBL.out).mono ?_
             rintro e w3 ⟨rfl, hg3⟩
             have HG3 := Lib.hid (gr_none HG2.out hg3)
             clear hg3)
          | fail)
      obtain ⟨r, hr⟩ : ∃ r, strongQ (strOf rowsL (blkL l j)) = r := ⟨_, rfl⟩
      obtain ⟨cc, hcc⟩ : ∃ cc, strongQ (strOf colsL (blkL l j)) = cc := ⟨_, rfl⟩
      rw [hr, hcc]
      obtain ⟨kk, hkk⟩ : ∃ kk, keyAt l j = kk := ⟨_, rfl⟩
      have HK := Lib.hid (show kk = if r < 0 ∨ cc < 0 then -1 else 4 * r + cc by rw [← hkk, keyAt_q, hr, hcc])
      have HKS2 := Lib.hid (show ks[j]? = some kk by rw [← HKS.out, ← hkk]; unfold keysOf; exact tab_get _ (by rw [HNL.out]; exact hjl))
      have hkb := keyAt_bd l j
      rw [hkk] at hkb
      obtain ⟨kb0, kb1⟩ := hkb
      clear hr hcc hkk
      have HO5 := Lib.hid (Own.kept HO.out HG5.out (fun g e => by cases e))
      have HX5 := Lib.hid (HX.out.grown HG5.out (fun g e => by cases e))
      have z5 := HG5.out.size
      have hjm : j + 1 ≤ 1000000 := by omega
      by_cases hr0 : r < 0
      · have HK1 := Lib.hid (show kk = -1 by rw [HK.out, if_pos (.inl hr0)])
        go_wp2_with (first
          | (at_builtin
             refine wpl_app _ rfl _ _ Try.byteT rfl w.heap.size A' j c' _ rfl (by exact HO5.out.alloc _) _ _ 1 1 [.int .u8 32] rfl (by exact Reads.one _ _ _ _ rfl) (by simp [Value.oneCell']) (by unfold maxLen; omega) (by omega) (by simp; omega) ?_
             intro A10 c10 w10 h10
             have H10 := Lib.hid h10; clear h10)
          | fail)
        go_roundw
        case rel =>
          refine ⟨j + 1, _, n1 - 205, c1 - 205, A10, c10, by omega, rfl, rfl, by have := HN1.out; omega, H10.out.gr (gr_alloc (gr_none HG.out HG5.out) _) (Own.alloc HO5.out _) (Nat.le_refl _), ?_, ?_⟩
          · have h := HXW.out.cutTo 205 hlt
            rw [List.drop_drop] at h
            rw [show 205 * (j + 1) = 205 * j + 205 by omega]
            exact h
          · unfold OwnB
            rw [take_snoc' HKS2.out, List.map_append, List.map_append]
            have e : hearB kk = 32 := HK1.out ▸ rfl
            rw [List.map_singleton, e]
            exact H10.out.1
        case measure => simp [lenV]; omega
      · have hr1 : decide (r < 0) = false := decide_eq_false hr0
        by_cases hc0 : cc < 0
        · have HK1 := Lib.hid (show kk = -1 by rw [HK.out, if_pos (.inr hc0)])
          go_wp2_with (first
            | (at_builtin
               refine wpl_app _ rfl _ _ Try.byteT rfl w.heap.size A' j c' _ rfl (by exact HO5.out.alloc _) _ _ 1 1 [.int .u8 32] rfl (by exact Reads.one _ _ _ _ rfl) (by simp [Value.oneCell']) (by unfold maxLen; omega) (by omega) (by simp; omega) ?_
               intro A10 c10 w10 h10
               have H10 := Lib.hid h10; clear h10)
            | fail)
          go_roundw
          case rel =>
            refine ⟨j + 1, _, n1 - 205, c1 - 205, A10, c10, by omega, rfl, rfl, by have := HN1.out; omega, H10.out.gr (gr_alloc (gr_none HG.out HG5.out) _) (Own.alloc HO5.out _) (Nat.le_refl _), ?_, ?_⟩
            · have h := HXW.out.cutTo 205 hlt
              rw [List.drop_drop] at h
              rw [show 205 * (j + 1) = 205 * j + 205 by omega]
              exact h
            · unfold OwnB
              rw [take_snoc' HKS2.out, List.map_append, List.map_append]
              have e : hearB kk = 32 := HK1.out ▸ rfl
              rw [List.map_singleton, e]
              exact H10.out.1
          case measure => simp [lenV]; omega
        · have hc1 : decide (cc < 0) = false := decide_eq_false hc0
          have hq : 4 * r + cc = kk := by have h := HK.out; rw [if_neg (by omega)] at h; exact h.symm
          have hk0 : 0 ≤ kk := by omega
          have hrb : r ≤ 3 := by omega
          rcases (by omega : kk = 0 ∨ kk = 1 ∨ kk = 2 ∨ kk = 3 ∨ kk = 4 ∨ kk = 5 ∨ kk = 6 ∨ kk = 7 ∨ kk = 8 ∨ kk = 9 ∨ kk = 10 ∨ kk = 11 ∨ kk = 12 ∨ kk = 13 ∨ kk = 14 ∨ kk = 15) with rfl | rfl | rfl | rfl | rfl | rfl | rfl | rfl | rfl | rfl | rfl | rfl | rfl | rfl | rfl | rfl
          · go_wp2_with (first
              | (at_builtin
                 refine wpl_app _ rfl _ _ Try.byteT rfl w.heap.size A' j c' _ rfl (by exact HO5.out.alloc _) _ _ 1 1 [.int .u8 (keyB 0)] rfl (by exact Reads.one _ _ _ _ rfl) (by simp [Value.oneCell']) (by unfold maxLen; omega) (by omega) (by simp; omega) ?_
                 intro A10 c10 w10 h10
                 have H10 := Lib.hid h10; clear h10)
              | fail)
            go_roundw
            case rel =>
              refine ⟨j + 1, _, n1 - 205, c1 - 205, A10, c10, by omega, rfl, rfl, by have := HN1.out; omega, H10.out.gr (gr_alloc (gr_none HG.out HG5.out) _) (Own.alloc HO5.out _) (Nat.le_refl _), ?_, ?_⟩
              · have h := HXW.out.cutTo 205 hlt
                rw [List.drop_drop] at h
                rw [show 205 * (j + 1) = 205 * j + 205 by omega]
                exact h
              · unfold OwnB
                rw [take_snoc' HKS2.out, List.map_append, List.map_append]
                have e : hearB 0 = keyB 0 := rfl
                rw [List.map_singleton, e]
                exact H10.out.1
            case measure => simp [lenV]; omega
          · go_wp2_with (first
              | (at_builtin
                 refine wpl_app _ rfl _ _ Try.byteT rfl w.heap.size A' j c' _ rfl (by exact HO5.out.alloc _) _ _ 1 1 [.int .u8 (keyB 1)] rfl (by exact Reads.one _ _ _ _ rfl) (by simp [Value.oneCell']) (by unfold maxLen; omega) (by omega) (by simp; omega) ?_
                 intro A10 c10 w10 h10
                 have H10 := Lib.hid h10; clear h10)
              | fail)
            go_roundw
            case rel =>
              refine ⟨j + 1, _, n1 - 205, c1 - 205, A10, c10, by omega, rfl, rfl, by have := HN1.out; omega, H10.out.gr (gr_alloc (gr_none HG.out HG5.out) _) (Own.alloc HO5.out _) (Nat.le_refl _), ?_, ?_⟩
              · have h := HXW.out.cutTo 205 hlt
                rw [List.drop_drop] at h
                rw [show 205 * (j + 1) = 205 * j + 205 by omega]
                exact h
              · unfold OwnB
                rw [take_snoc' HKS2.out, List.map_append, List.map_append]
                have e : hearB 1 = keyB 1 := rfl
                rw [List.map_singleton, e]
                exact H10.out.1
            case measure => simp [lenV]; omega
          · go_wp2_with (first
              | (at_builtin
                 refine wpl_app _ rfl _ _ Try.byteT rfl w.heap.size A' j c' _ rfl (by exact HO5.out.alloc _) _ _ 1 1 [.int .u8 (keyB 2)] rfl (by exact Reads.one _ _ _ _ rfl) (by simp [Value.oneCell']) (by unfold maxLen; omega) (by omega) (by simp; omega) ?_
                 intro A10 c10 w10 h10
                 have H10 := Lib.hid h10; clear h10)
              | fail)
            go_roundw
            case rel =>
              refine ⟨j + 1, _, n1 - 205, c1 - 205, A10, c10, by omega, rfl, rfl, by have := HN1.out; omega, H10.out.gr (gr_alloc (gr_none HG.out HG5.out) _) (Own.alloc HO5.out _) (Nat.le_refl _), ?_, ?_⟩
              · have h := HXW.out.cutTo 205 hlt
                rw [List.drop_drop] at h
                rw [show 205 * (j + 1) = 205 * j + 205 by omega]
                exact h
              · unfold OwnB
                rw [take_snoc' HKS2.out, List.map_append, List.map_append]
                have e : hearB 2 = keyB 2 := rfl
                rw [List.map_singleton, e]
                exact H10.out.1
            case measure => simp [lenV]; omega
          · go_wp2_with (first
              | (at_builtin
                 refine wpl_app _ rfl _ _ Try.byteT rfl w.heap.size A' j c' _ rfl (by exact HO5.out.alloc _) _ _ 1 1 [.int .u8 (keyB 3)] rfl (by exact Reads.one _ _ _ _ rfl) (by simp [Value.oneCell']) (by unfold maxLen; omega) (by omega) (by simp; omega) ?_
                 intro A10 c10 w10 h10
                 have H10 := Lib.hid h10; clear h10)
              | fail)
            go_roundw
            case rel =>
              refine ⟨j + 1, _, n1 - 205, c1 - 205, A10, c10, by omega, rfl, rfl, by have := HN1.out; omega, H10.out.gr (gr_alloc (gr_none HG.out HG5.out) _) (Own.alloc HO5.out _) (Nat.le_refl _), ?_, ?_⟩
              · have h := HXW.out.cutTo 205 hlt
                rw [List.drop_drop] at h
                rw [show 205 * (j + 1) = 205 * j + 205 by omega]
                exact h
              · unfold OwnB
                rw [take_snoc' HKS2.out, List.map_append, List.map_append]
                have e : hearB 3 = keyB 3 := rfl
                rw [List.map_singleton, e]
                exact H10.out.1
            case measure => simp [lenV]; omega
          · go_wp2_with (first
              | (at_builtin
                 refine wpl_app _ rfl _ _ Try.byteT rfl w.heap.size A' j c' _ rfl (by exact HO5.out.alloc _) _ _ 1 1 [.int .u8 (keyB 4)] rfl (by exact Reads.one _ _ _ _ rfl) (by simp [Value.oneCell']) (by unfold maxLen; omega) (by omega) (by simp; omega) ?_
                 intro A10 c10 w10 h10
                 have H10 := Lib.hid h10; clear h10)
              | fail)
            go_roundw
            case rel =>
              refine ⟨j + 1, _, n1 - 205, c1 - 205, A10, c10, by omega, rfl, rfl, by have := HN1.out; omega, H10.out.gr (gr_alloc (gr_none HG.out HG5.out) _) (Own.alloc HO5.out _) (Nat.le_refl _), ?_, ?_⟩
              · have h := HXW.out.cutTo 205 hlt
                rw [List.drop_drop] at h
                rw [show 205 * (j + 1) = 205 * j + 205 by omega]
                exact h
              · unfold OwnB
                rw [take_snoc' HKS2.out, List.map_append, List.map_append]
                have e : hearB 4 = keyB 4 := rfl
                rw [List.map_singleton, e]
                exact H10.out.1
            case measure => simp [lenV]; omega
          · go_wp2_with (first
              | (at_builtin
                 refine wpl_app _ rfl _ _ Try.byteT rfl w.heap.size A' j c' _ rfl (by exact HO5.out.alloc _) _ _ 1 1 [.int .u8 (keyB 5)] rfl (by exact Reads.one _ _ _ _ rfl) (by simp [Value.oneCell']) (by unfold maxLen; omega) (by omega) (by simp; omega) ?_
                 intro A10 c10 w10 h10
                 have H10 := Lib.hid h10; clear h10)
              | fail)
            go_roundw
            case rel =>
              refine ⟨j + 1, _, n1 - 205, c1 - 205, A10, c10, by omega, rfl, rfl, by have := HN1.out; omega, H10.out.gr (gr_alloc (gr_none HG.out HG5.out) _) (Own.alloc HO5.out _) (Nat.le_refl _), ?_, ?_⟩
              · have h := HXW.out.cutTo 205 hlt
                rw [List.drop_drop] at h
                rw [show 205 * (j + 1) = 205 * j + 205 by omega]
                exact h
              · unfold OwnB
                rw [take_snoc' HKS2.out, List.map_append, List.map_append]
                have e : hearB 5 = keyB 5 := rfl
                rw [List.map_singleton, e]
                exact H10.out.1
            case measure => simp [lenV]; omega
          · go_wp2_with (first
              | (at_builtin
                 refine wpl_app _ rfl _ _ Try.byteT rfl w.heap.size A' j c' _ rfl (by exact HO5.out.alloc _) _ _ 1 1 [.int .u8 (keyB 6)] rfl (by exact Reads.one _ _ _ _ rfl) (by simp [Value.oneCell']) (by unfold maxLen; omega) (by omega) (by simp; omega) ?_
                 intro A10 c10 w10 h10
                 have H10 := Lib.hid h10; clear h10)
              | fail)
            go_roundw
            case rel =>
              refine ⟨j + 1, _, n1 - 205, c1 - 205, A10, c10, by omega, rfl, rfl, by have := HN1.out; omega, H10.out.gr (gr_alloc (gr_none HG.out HG5.out) _) (Own.alloc HO5.out _) (Nat.le_refl _), ?_, ?_⟩
              · have h := HXW.out.cutTo 205 hlt
                rw [List.drop_drop] at h
                rw [show 205 * (j + 1) = 205 * j + 205 by omega]
                exact h
              · unfold OwnB
                rw [take_snoc' HKS2.out, List.map_append, List.map_append]
                have e : hearB 6 = keyB 6 := rfl
                rw [List.map_singleton, e]
                exact H10.out.1
            case measure => simp [lenV]; omega
          · go_wp2_with (first
              | (at_builtin
                 refine wpl_app _ rfl _ _ Try.byteT rfl w.heap.size A' j c' _ rfl (by exact HO5.out.alloc _) _ _ 1 1 [.int .u8 (keyB 7)] rfl (by exact Reads.one _ _ _ _ rfl) (by simp [Value.oneCell']) (by unfold maxLen; omega) (by omega) (by simp; omega) ?_
                 intro A10 c10 w10 h10
                 have H10 := Lib.hid h10; clear h10)
              | fail)
            go_roundw
            case rel =>
              refine ⟨j + 1, _, n1 - 205, c1 - 205, A10, c10, by omega, rfl, rfl, by have := HN1.out; omega, H10.out.gr (gr_alloc (gr_none HG.out HG5.out) _) (Own.alloc HO5.out _) (Nat.le_refl _), ?_, ?_⟩
              · have h := HXW.out.cutTo 205 hlt
                rw [List.drop_drop] at h
                rw [show 205 * (j + 1) = 205 * j + 205 by omega]
                exact h
              · unfold OwnB
                rw [take_snoc' HKS2.out, List.map_append, List.map_append]
                have e : hearB 7 = keyB 7 := rfl
                rw [List.map_singleton, e]
                exact H10.out.1
            case measure => simp [lenV]; omega
          · go_wp2_with (first
              | (at_builtin
                 refine wpl_app _ rfl _ _ Try.byteT rfl w.heap.size A' j c' _ rfl (by exact HO5.out.alloc _) _ _ 1 1 [.int .u8 (keyB 8)] rfl (by exact Reads.one _ _ _ _ rfl) (by simp [Value.oneCell']) (by unfold maxLen; omega) (by omega) (by simp; omega) ?_
                 intro A10 c10 w10 h10
                 have H10 := Lib.hid h10; clear h10)
              | fail)
            go_roundw
            case rel =>
              refine ⟨j + 1, _, n1 - 205, c1 - 205, A10, c10, by omega, rfl, rfl, by have := HN1.out; omega, H10.out.gr (gr_alloc (gr_none HG.out HG5.out) _) (Own.alloc HO5.out _) (Nat.le_refl _), ?_, ?_⟩
              · have h := HXW.out.cutTo 205 hlt
                rw [List.drop_drop] at h
                rw [show 205 * (j + 1) = 205 * j + 205 by omega]
                exact h
              · unfold OwnB
                rw [take_snoc' HKS2.out, List.map_append, List.map_append]
                have e : hearB 8 = keyB 8 := rfl
                rw [List.map_singleton, e]
                exact H10.out.1
            case measure => simp [lenV]; omega
          · go_wp2_with (first
              | (at_builtin
                 refine wpl_app _ rfl _ _ Try.byteT rfl w.heap.size A' j c' _ rfl (by exact HO5.out.alloc _) _ _ 1 1 [.int .u8 (keyB 9)] rfl (by exact Reads.one _ _ _ _ rfl) (by simp [Value.oneCell']) (by unfold maxLen; omega) (by omega) (by simp; omega) ?_
                 intro A10 c10 w10 h10
                 have H10 := Lib.hid h10; clear h10)
              | fail)
            go_roundw
            case rel =>
              refine ⟨j + 1, _, n1 - 205, c1 - 205, A10, c10, by omega, rfl, rfl, by have := HN1.out; omega, H10.out.gr (gr_alloc (gr_none HG.out HG5.out) _) (Own.alloc HO5.out _) (Nat.le_refl _), ?_, ?_⟩
              · have h := HXW.out.cutTo 205 hlt
                rw [List.drop_drop] at h
                rw [show 205 * (j + 1) = 205 * j + 205 by omega]
                exact h
              · unfold OwnB
                rw [take_snoc' HKS2.out, List.map_append, List.map_append]
                have e : hearB 9 = keyB 9 := rfl
                rw [List.map_singleton, e]
                exact H10.out.1
            case measure => simp [lenV]; omega
          · go_wp2_with (first
              | (at_builtin
                 refine wpl_app _ rfl _ _ Try.byteT rfl w.heap.size A' j c' _ rfl (by exact HO5.out.alloc _) _ _ 1 1 [.int .u8 (keyB 10)] rfl (by exact Reads.one _ _ _ _ rfl) (by simp [Value.oneCell']) (by unfold maxLen; omega) (by omega) (by simp; omega) ?_
                 intro A10 c10 w10 h10
                 have H10 := Lib.hid h10; clear h10)
              | fail)
            go_roundw
            case rel =>
              refine ⟨j + 1, _, n1 - 205, c1 - 205, A10, c10, by omega, rfl, rfl, by have := HN1.out; omega, H10.out.gr (gr_alloc (gr_none HG.out HG5.out) _) (Own.alloc HO5.out _) (Nat.le_refl _), ?_, ?_⟩
              · have h := HXW.out.cutTo 205 hlt
                rw [List.drop_drop] at h
                rw [show 205 * (j + 1) = 205 * j + 205 by omega]
                exact h
              · unfold OwnB
                rw [take_snoc' HKS2.out, List.map_append, List.map_append]
                have e : hearB 10 = keyB 10 := rfl
                rw [List.map_singleton, e]
                exact H10.out.1
            case measure => simp [lenV]; omega
          · go_wp2_with (first
              | (at_builtin
                 refine wpl_app _ rfl _ _ Try.byteT rfl w.heap.size A' j c' _ rfl (by exact HO5.out.alloc _) _ _ 1 1 [.int .u8 (keyB 11)] rfl (by exact Reads.one _ _ _ _ rfl) (by simp [Value.oneCell']) (by unfold maxLen; omega) (by omega) (by simp; omega) ?_
                 intro A10 c10 w10 h10
                 have H10 := Lib.hid h10; clear h10)
              | fail)
            go_roundw
            case rel =>
              refine ⟨j + 1, _, n1 - 205, c1 - 205, A10, c10, by omega, rfl, rfl, by have := HN1.out; omega, H10.out.gr (gr_alloc (gr_none HG.out HG5.out) _) (Own.alloc HO5.out _) (Nat.le_refl _), ?_, ?_⟩
              · have h := HXW.out.cutTo 205 hlt
                rw [List.drop_drop] at h
                rw [show 205 * (j + 1) = 205 * j + 205 by omega]
                exact h
              · unfold OwnB
                rw [take_snoc' HKS2.out, List.map_append, List.map_append]
                have e : hearB 11 = keyB 11 := rfl
                rw [List.map_singleton, e]
                exact H10.out.1
            case measure => simp [lenV]; omega
          · go_wp2_with (first
              | (at_builtin
                 refine wpl_app _ rfl _ _ Try.byteT rfl w.heap.size A' j c' _ rfl (by exact HO5.out.alloc _) _ _ 1 1 [.int .u8 (keyB 12)] rfl (by exact Reads.one _ _ _ _ rfl) (by simp [Value.oneCell']) (by unfold maxLen; omega) (by omega) (by simp; omega) ?_
                 intro A10 c10 w10 h10
                 have H10 := Lib.hid h10; clear h10)
              | fail)
            go_roundw
            case rel =>
              refine ⟨j + 1, _, n1 - 205, c1 - 205, A10, c10, by omega, rfl, rfl, by have := HN1.out; omega, H10.out.gr (gr_alloc (gr_none HG.out HG5.out) _) (Own.alloc HO5.out _) (Nat.le_refl _), ?_, ?_⟩
              · have h := HXW.out.cutTo 205 hlt
                rw [List.drop_drop] at h
                rw [show 205 * (j + 1) = 205 * j + 205 by omega]
                exact h
              · unfold OwnB
                rw [take_snoc' HKS2.out, List.map_append, List.map_append]
                have e : hearB 12 = keyB 12 := rfl
                rw [List.map_singleton, e]
                exact H10.out.1
            case measure => simp [lenV]; omega
          · go_wp2_with (first
              | (at_builtin
                 refine wpl_app _ rfl _ _ Try.byteT rfl w.heap.size A' j c' _ rfl (by exact HO5.out.alloc _) _ _ 1 1 [.int .u8 (keyB 13)] rfl (by exact Reads.one _ _ _ _ rfl) (by simp [Value.oneCell']) (by unfold maxLen; omega) (by omega) (by simp; omega) ?_
                 intro A10 c10 w10 h10
                 have H10 := Lib.hid h10; clear h10)
              | fail)
            go_roundw
            case rel =>
              refine ⟨j + 1, _, n1 - 205, c1 - 205, A10, c10, by omega, rfl, rfl, by have := HN1.out; omega, H10.out.gr (gr_alloc (gr_none HG.out HG5.out) _) (Own.alloc HO5.out _) (Nat.le_refl _), ?_, ?_⟩
              · have h := HXW.out.cutTo 205 hlt
                rw [List.drop_drop] at h
                rw [show 205 * (j + 1) = 205 * j + 205 by omega]
                exact h
              · unfold OwnB
                rw [take_snoc' HKS2.out, List.map_append, List.map_append]
                have e : hearB 13 = keyB 13 := rfl
                rw [List.map_singleton, e]
                exact H10.out.1
            case measure => simp [lenV]; omega
          · go_wp2_with (first
              | (at_builtin
                 refine wpl_app _ rfl _ _ Try.byteT rfl w.heap.size A' j c' _ rfl (by exact HO5.out.alloc _) _ _ 1 1 [.int .u8 (keyB 14)] rfl (by exact Reads.one _ _ _ _ rfl) (by simp [Value.oneCell']) (by unfold maxLen; omega) (by omega) (by simp; omega) ?_
                 intro A10 c10 w10 h10
                 have H10 := Lib.hid h10; clear h10)
              | fail)
            go_roundw
            case rel =>
              refine ⟨j + 1, _, n1 - 205, c1 - 205, A10, c10, by omega, rfl, rfl, by have := HN1.out; omega, H10.out.gr (gr_alloc (gr_none HG.out HG5.out) _) (Own.alloc HO5.out _) (Nat.le_refl _), ?_, ?_⟩
              · have h := HXW.out.cutTo 205 hlt
                rw [List.drop_drop] at h
                rw [show 205 * (j + 1) = 205 * j + 205 by omega]
                exact h
              · unfold OwnB
                rw [take_snoc' HKS2.out, List.map_append, List.map_append]
                have e : hearB 14 = keyB 14 := rfl
                rw [List.map_singleton, e]
                exact H10.out.1
            case measure => simp [lenV]; omega
          · go_wp2_with (first
              | (at_builtin
                 refine wpl_app _ rfl _ _ Try.byteT rfl w.heap.size A' j c' _ rfl (by exact HO5.out.alloc _) _ _ 1 1 [.int .u8 (keyB 15)] rfl (by exact Reads.one _ _ _ _ rfl) (by simp [Value.oneCell']) (by unfold maxLen; omega) (by omega) (by simp; omega) ?_
                 intro A10 c10 w10 h10
                 have H10 := Lib.hid h10; clear h10)
              | fail)
            go_roundw
            case rel =>
              refine ⟨j + 1, _, n1 - 205, c1 - 205, A10, c10, by omega, rfl, rfl, by have := HN1.out; omega, H10.out.gr (gr_alloc (gr_none HG.out HG5.out) _) (Own.alloc HO5.out _) (Nat.le_refl _), ?_, ?_⟩
              · have h := HXW.out.cutTo 205 hlt
                rw [List.drop_drop] at h
                rw [show 205 * (j + 1) = 205 * j + 205 by omega]
                exact h
              · unfold OwnB
                rw [take_snoc' HKS2.out, List.map_append, List.map_append]
                have e : hearB 15 = keyB 15 := rfl
                rw [List.map_singleton, e]
                exact H10.out.1
            case measure => simp [lenV]; omega
    · have d1 : decide ((205 : Int) ≤ (n1 : Int)) = false := decide_eq_false (by omega)
      obtain rfl : j = n / 205 := by have := HN1.out; omega
      have HB := Lib.hid (show Ints .u8 wr w.heap.size A' (n / 205) c' (ks.map hearB) by
        have h := Own.reads HO.out
        rw [List.take_of_length_le (by rw [HKL.out]; exact Nat.le_refl _)] at h
        exact h)
      have HKB := Lib.hid (show ∀ i, i < n / 205 → -1 ≤ ks.getD i 0 ∧ ks.getD i 0 ≤ 15 by
        intro i hi
        have h : ks[i]? = some (keyAt l i) := by rw [← HKS.out]; unfold keysOf; exact tab_get _ (by rw [HNL.out]; exact hi)
        rw [List.getD_eq_getElem?_getD, h]
        exact keyAt_bd l i)
      have hNb : n / 205 ≤ 1000000 := by omega
      clear HO HX HXW hlt hnb HOK hj
      obtain ⟨N, HNE⟩ : ∃ N, RowKit.Hid (n / 205 = N) := ⟨_, Lib.hid rfl⟩
      obtain ⟨wo, rfl⟩ : ∃ wo : World, wo = wr := ⟨_, rfl⟩
      rw [HNE.out] at hNb HB HKB HKL ⊢
      go_wp2_with fail
      go_loopw [6, 7, 8] (fun s6 s7 _ w2 => ∃ i : Nat, i ≤ N ∧ s7 = .int .i64 (i : Int) ∧ s6 = .string (strI ((pst ks i).2.2.map keyB)) ∧ ((i < N → Bd ks i) ∧ wo.grownBy w2 none)) (fun _ s7 _ _ => N - (intOf s7).toNat)
      case atStart => exact ⟨0, Nat.zero_le _, rfl, rfl, fun _ => .inr rfl, gr_refl _ _⟩
      case round =>
        obtain ⟨i, hi, rfl, rfl, hbd, hg2⟩ := hrel
        have HBD := Lib.hid hbd; have HG2 := Lib.hid hg2
        have HB2 := Lib.hid (HB.out.grown hg2 (fun g e => by cases e))
        clear hbd hg2
        by_cases hil : i < N
        · have di : decide ((i : Int) < (N : Int)) = true := decide_eq_true (by omega)
          obtain ⟨x, hx⟩ : ∃ x, ks.getD i 0 = x := ⟨_, rfl⟩
          have hxb := HKB.out i hil
          rw [hx] at hxb
          obtain ⟨x0, x1⟩ := hxb
          have HXE := Lib.hid hx; clear hx
          obtain ⟨z, hz⟩ : ∃ z, hearB x = z := ⟨_, rfl⟩
          have hzb := hearB_bd x0 x1
          rw [hz] at hzb
          obtain ⟨z0, z1, z2⟩ := hzb
          have HZE := Lib.hid hz; have HZ2 := Lib.hid z2; clear hz z2
          have HGT := Lib.hid (show ∀ t, t < N → (ks.map hearB)[t]? = some (hearB (ks.getD t 0)) by
            intro t ht
            have h : t < ks.length := by rw [HKL.out]; exact ht
            rw [List.getElem?_map, List.getElem?_eq_getElem h, List.getD_eq_getElem?_getD, List.getElem?_eq_getElem h]
            rfl)
          obtain ⟨g, o, z', rfl, _, _, hz', hc1⟩ := HB2.out.get hil
          obtain rfl : z = z' := by have h := HGT.out i hil; rw [hz', HXE.out, HZE.out] at h; injection h with h; exact h.symm
          clear hz' hc1
          obtain ⟨out, hout⟩ : ∃ out, (pst ks i).2.2 = out := ⟨_, rfl⟩
          rw [hout]
          have HOL := Lib.hid (show out.length ≤ i by
            rw [← hout]
            refine (pst_bd ks (fun k hk => ?_) i (by rw [HKL.out]; exact hi)).2.2.1
            obtain ⟨q, hq, e⟩ := List.getElem_of_mem hk
            have h := HKB.out q (by rw [← HKL.out]; exact hq)
            rw [List.getD_eq_getElem?_getD, List.getElem?_eq_getElem hq, e] at h
            exact h)
          have HOUT := Lib.hid hout; clear hout
          go_wp2_with fail
          go_loopw [8] (fun s8 w3 => ∃ t : Nat, i + t ≤ N ∧ s8 = .int .i64 ((i : Int) + (t : Int)) ∧ ((∀ s, s < t → ks.getD (i + s) 0 = x) ∧ wo.grownBy w3 none)) (fun s8 _ => N - (intOf s8).toNat)
          case atStart => exact ⟨0, by omega, by simp, fun s hs => by omega, HG2.out⟩
          case round =>
            obtain ⟨t, ht, rfl, hrun, hg3⟩ := hrel
            have HRUN := Lib.hid hrun; have HG3 := Lib.hid hg3
            have HB3 := Lib.hid (HB.out.grown hg3 (fun g e => by cases e))
            clear hrun hg3
            obtain ⟨_, _, zi, ei, _, _, hzi, hci⟩ := HB3.out.get hil
            injection ei with ei
            injection ei with ei1 ei2 _
            subst ei1; subst ei2
            obtain rfl : z = zi := by have h := HGT.out i hil; rw [hzi, HXE.out, HZE.out] at h; injection h with h; exact h.symm
            clear hzi
            have j0 : (0 : Int) ≤ (i : Int) := by omega
            have j1 : (i : Int) < (N : Int) := by omega
            have s1 : (0 : Int) ≤ (i : Int) + (t : Int) := by omega
            have s4 : ((i : Int) + (t : Int)).toNat = i + t := by omega
            by_cases hkt : i + t < N
            · have dk : decide ((i : Int) + (t : Int) < (N : Int)) = true := decide_eq_true (by omega)
              have s2 : (i : Int) + (t : Int) < (N : Int) := by omega
              obtain ⟨_, _, zk, ek, _, _, hzk, hck⟩ := HB3.out.get hkt
              injection ek with ek
              injection ek with ek1 ek2 _
              subst ek1; subst ek2
              obtain ⟨y, hy⟩ : ∃ y, ks.getD (i + t) 0 = y := ⟨_, rfl⟩
              have hyb := HKB.out (i + t) hkt
              rw [hy] at hyb
              obtain ⟨y0, y1⟩ := hyb
              have hyz : hearB y = zk := by have h := HGT.out (i + t) hkt; rw [hzk, hy] at h; injection h with h; exact h.symm
              have HYE := Lib.hid hy; have HYZ := Lib.hid hyz; clear hy hyz hzk
              by_cases hxy : y = x
              · obtain rfl : z = zk := by rw [← HYZ.out, hxy, HZE.out]
                have HXY := Lib.hid hxy; clear hxy
                have hzz : (z == z) = true := beq_self_eq_true _
                go_wp2_with fail
                go_quiet (fail)
                go_wp2_with fail
                go_roundw
                case rel =>
                  refine ⟨t + 1, by omega, by go_num, fun s hs => ?_, gr_drewN HG3.out _⟩
                  by_cases he : s = t
                  · rw [he, HYE.out, HXY.out]
                  · exact HRUN.out s (by omega)
                case measure => simp [intOf]; omega
              · have hzz : (zk == z) = false := beq_eq_false_iff_ne.2 (fun e => hxy (hearB_inj y0 y1 x0 x1 (by rw [HYZ.out, HZE.out, e])))
                have ht1 : 1 ≤ t := by
                  rcases Nat.eq_zero_or_pos t with h0 | h0
                  · exfalso; apply hxy; rw [← HYE.out, ← HXE.out, h0]; rfl
                  · exact h0
                have HPR := Lib.hid (pst_run (HBD.out hil) HOUT.out t ht1 HRUN.out)
                have HBN := Lib.hid (show i + t < N → Bd ks (i + t) from fun _ => pst_next HPR.out (by rw [HYE.out]; exact hxy))
                clear hxy
                rcases (by omega : (2 ≤ t ∧ 0 ≤ x) ∨ (2 ≤ t ∧ x < 0) ∨ t < 2) with ⟨h2, hx0⟩ | ⟨h2, hx0⟩ | h2
                · have dt : decide ((1 : Int) < (i : Int) + (t : Int) - (i : Int)) = true := decide_eq_true (by omega)
                  have dt2 : decide ((1 : Int) < (t : Int)) = true := decide_eq_true (by omega)
                  have dt3 : decide (1 < t) = true := decide_eq_true (by omega)
                  have hz33 : (z == 32) = false := beq_eq_false_iff_ne.2 (fun e => by have := HZ2.out.1 e; omega)
                  have hszz : ¬ 9223372036854775807 < (strI (List.map keyB out)).size + (Utf8.encode z).size := by
                    rw [enc_size z0 z1, strI_size, List.length_map]; have := HOL.out; omega
                  have hz32 : (z != 32) = true := by rw [bne_iff_ne]; intro e; have := HZ2.out.1 e; omega
                  have HFS := Lib.hid (show strI (List.map keyB out) ++ Utf8.encode z = strI (List.map keyB (pst ks (i + t)).2.2) by
                    rw [HPR.out, strI_enc _ _ z0 z1]
                    dsimp only
                    rw [if_pos ⟨h2, hx0⟩, List.map_append, List.map_singleton, ← hearB_key hx0, HZE.out])
                  go_wp2_with fail
                  go_quiet (fail)
                  go_wp2_with fail
                  exact ⟨⟨i + t, ht, by go_num, by rw [HFS.out], HBN.out, gr_drewN HG3.out _⟩, by simp [intOf]; omega⟩
                · have dt : decide ((1 : Int) < (i : Int) + (t : Int) - (i : Int)) = true := decide_eq_true (by omega)
                  have dt2 : decide ((1 : Int) < (t : Int)) = true := decide_eq_true (by omega)
                  have dt3 : decide (1 < t) = true := decide_eq_true (by omega)
                  obtain rfl : z = 32 := HZ2.out.2 hx0
                  have HFS := Lib.hid (show (pst ks (i + t)).2.2 = out by
                    rw [HPR.out]
                    dsimp only
                    rw [if_neg (by omega)])
                  go_wp2_with fail
                  go_quiet (fail)
                  go_wp2_with fail
                  exact ⟨⟨i + t, ht, by go_num, by rw [HFS.out], HBN.out, gr_drewN HG3.out _⟩, by simp [intOf]; omega⟩
                · have dt : decide ((1 : Int) < (i : Int) + (t : Int) - (i : Int)) = false := decide_eq_false (by omega)
                  have dt2 : decide ((1 : Int) < (t : Int)) = false := decide_eq_false (by omega)
                  have dt3 : decide (1 < t) = false := decide_eq_false (by omega)
                  have HFS := Lib.hid (show (pst ks (i + t)).2.2 = out by
                    rw [HPR.out]
                    dsimp only
                    rw [if_neg (by omega)])
                  go_wp2_with fail
                  go_quiet (fail)
                  go_wp2_with fail
                  exact ⟨⟨i + t, ht, by go_num, by rw [HFS.out], HBN.out, gr_drewN HG3.out _⟩, by simp [intOf]; omega⟩
            · have dk : decide ((i : Int) + (t : Int) < (N : Int)) = false := decide_eq_false (by omega)
              have ht1 : 1 ≤ t := by omega
              have HPR := Lib.hid (pst_run (HBD.out hil) HOUT.out t ht1 HRUN.out)
              have HBN := Lib.hid (show i + t < N → Bd ks (i + t) from fun h => absurd h hkt)
              rcases (by omega : (2 ≤ t ∧ 0 ≤ x) ∨ (2 ≤ t ∧ x < 0) ∨ t < 2) with ⟨h2, hx0⟩ | ⟨h2, hx0⟩ | h2
              · have dt : decide ((1 : Int) < (i : Int) + (t : Int) - (i : Int)) = true := decide_eq_true (by omega)
                have dt2 : decide ((1 : Int) < (t : Int)) = true := decide_eq_true (by omega)
                have dt3 : decide (1 < t) = true := decide_eq_true (by omega)
                have hz33 : (z == 32) = false := beq_eq_false_iff_ne.2 (fun e => by have := HZ2.out.1 e; omega)
                have hszz : ¬ 9223372036854775807 < (strI (List.map keyB out)).size + (Utf8.encode z).size := by
                  rw [enc_size z0 z1, strI_size, List.length_map]; have := HOL.out; omega
                have hz32 : (z != 32) = true := by rw [bne_iff_ne]; intro e; have := HZ2.out.1 e; omega
                have HFS := Lib.hid (show strI (List.map keyB out) ++ Utf8.encode z = strI (List.map keyB (pst ks (i + t)).2.2) by
                  rw [HPR.out, strI_enc _ _ z0 z1]
                  dsimp only
                  rw [if_pos ⟨h2, hx0⟩, List.map_append, List.map_singleton, ← hearB_key hx0, HZE.out])
                go_wp2_with fail
                go_quiet (fail)
                go_wp2_with fail
                exact ⟨⟨i + t, ht, by go_num, by rw [HFS.out], HBN.out, gr_drewN HG3.out _⟩, by simp [intOf]; omega⟩
              · have dt : decide ((1 : Int) < (i : Int) + (t : Int) - (i : Int)) = true := decide_eq_true (by omega)
                have dt2 : decide ((1 : Int) < (t : Int)) = true := decide_eq_true (by omega)
                have dt3 : decide (1 < t) = true := decide_eq_true (by omega)
                obtain rfl : z = 32 := HZ2.out.2 hx0
                have HFS := Lib.hid (show (pst ks (i + t)).2.2 = out by
                  rw [HPR.out]
                  dsimp only
                  rw [if_neg (by omega)])
                go_wp2_with fail
                go_quiet (fail)
                go_wp2_with fail
                exact ⟨⟨i + t, ht, by go_num, by rw [HFS.out], HBN.out, gr_drewN HG3.out _⟩, by simp [intOf]; omega⟩
              · have dt : decide ((1 : Int) < (i : Int) + (t : Int) - (i : Int)) = false := decide_eq_false (by omega)
                have dt2 : decide ((1 : Int) < (t : Int)) = false := decide_eq_false (by omega)
                have dt3 : decide (1 < t) = false := decide_eq_false (by omega)
                have HFS := Lib.hid (show (pst ks (i + t)).2.2 = out by
                  rw [HPR.out]
                  dsimp only
                  rw [if_neg (by omega)])
                go_wp2_with fail
                go_quiet (fail)
                go_wp2_with fail
                exact ⟨⟨i + t, ht, by go_num, by rw [HFS.out], HBN.out, gr_drewN HG3.out _⟩, by simp [intOf]; omega⟩
        · obtain rfl : i = N := by omega
          have di : decide ((i : Int) < (i : Int)) = false := decide_eq_false (by omega)
          go_wp2_with fail
          go_ret
          exact ⟨by rw [HNL.out, HNE.out]; rfl, gr_none HG.out HG2.out⟩
end Go.Proofs.Ytdknfhpconfhkaa

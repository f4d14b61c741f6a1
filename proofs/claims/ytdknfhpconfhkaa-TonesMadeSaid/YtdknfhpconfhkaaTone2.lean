/- Contracts of Tone, ToneOf. Conditions: none. -/
import Derived.Test.YtdknfhpconfhkaaHum
import Derived.Test.YtdknfhpconfhkaaStr
import Derived.Lib.SlBytesConst
namespace Go.Proofs.Ytdknfhpconfhkaa
open Go.RowKit

def rowsL : List Int := [27980, 26956, 25701, 24219]
def colsL : List Int := [19073, 16325, 13085, 9315]
def keysL : List Int := [49, 50, 51, 65, 52, 53, 54, 66, 55, 56, 57, 67, 42, 48, 35, 68]
set_option maxHeartbeats 1000000 in
theorem rows_any (w : World) : Calls Try.prog 85 #[] w (RetP (fun v w' => ∃ A n c, v = .slice A n c ∧ n = 4 ∧ Ints .i64 w' w.heap.size A n c rowsL) w) := by
  go_enter Try.func85, Try.ntmps85
  go_wp2_with fail
  go_ret
  exact ⟨_, rfl, ⟨_, _, _, rfl, rfl, Reads.blk (cs := rowsL.map (Value.int .i64)) (Blk.new w 3 _) 1 4 rfl⟩, gr_alloc (gr_refl _ _) _⟩
set_option maxHeartbeats 1000000 in
theorem columns_any (w : World) : Calls Try.prog 86 #[] w (RetP (fun v w' => ∃ A n c, v = .slice A n c ∧ n = 4 ∧ Ints .i64 w' w.heap.size A n c colsL) w) := by
  go_enter Try.func86, Try.ntmps86
  go_wp2_with fail
  go_ret
  exact ⟨_, rfl, ⟨_, _, _, rfl, rfl, Reads.blk (cs := colsL.map (Value.int .i64)) (Blk.new w 3 _) 1 4 rfl⟩, gr_alloc (gr_refl _ _) _⟩
set_option maxHeartbeats 1000000 in
theorem rowNumbers_any (w : World) : Calls Try.prog 89 #[] w (RetP (fun v w' => ∃ A n c, v = .slice A n c ∧ n = 4 ∧ Ints .i64 w' w.heap.size A n c rowsL) w) := by
  go_enter Try.func89, Try.ntmps89
  go_wp2_with fail
  go_ret
  exact ⟨_, rfl, ⟨_, _, _, rfl, rfl, Reads.blk (cs := rowsL.map (Value.int .i64)) (Blk.new w 3 _) 1 4 rfl⟩, gr_alloc (gr_refl _ _) _⟩
set_option maxHeartbeats 1000000 in
theorem columnNumbers_any (w : World) : Calls Try.prog 90 #[] w (RetP (fun v w' => ∃ A n c, v = .slice A n c ∧ n = 4 ∧ Ints .i64 w' w.heap.size A n c colsL) w) := by
  go_enter Try.func90, Try.ntmps90
  go_wp2_with fail
  go_ret
  exact ⟨_, rfl, ⟨_, _, _, rfl, rfl, Reads.blk (cs := colsL.map (Value.int .i64)) (Blk.new w 3 _) 1 4 rfl⟩, gr_alloc (gr_refl _ _) _⟩

def keyIx (k : Int) : Int := idxOf (fun x => x == k) keysL
theorem keyIx_bd (k : Int) : -1 ≤ keyIx k ∧ keyIx k ≤ 15 := by
  unfold keyIx idxOf
  split
  · rename_i i h
    have := (List.findIdx?_eq_some_iff_getElem.1 h).1
    simp [keysL] at this
    omega
  · omega
theorem keyIx_byte : ∀ k : Fin 256, Lib.indexByte [49, 50, 51, 65, 52, 53, 54, 66, 55, 56, 57, 67, 42, 48, 35, 68] (k.val.toUInt8) = keyIx (k.val : Int) := by decide +kernel
def toneF (k j : Nat) : Int := wrap64 (humF (rowsL.getD (k / 4) 0) j + humF (colsL.getD (k % 4) 0) j)
def toneStep (f g : Nat → Int) (k j : Nat) : Int := if j < k then wrap64 (f j + g j) else f j

set_option maxHeartbeats 2000000 in
theorem indexB_any (lo : Nat) (A : Option Addr) (n c : Nat) (l : List Int) (v : Int) (w : World) (h : Ints .u8 w lo A n c l) (hn : n ≤ 1000000000000) :
    Calls Try.prog 83 #[.slice A n c, .int .u8 v] w (Same (.int .i64 (idxOf (fun x => x == v) l)) w) := by
  have H := Lib.hid h; clear h
  go_enter Try.func83, Try.ntmps83
  go_wp2_with fail
  go_loop [5, 8] (fun _ t => ∃ i : Nat, i ≤ n ∧ t = .int .i64 i ∧ (l.take i).all (fun x => !(x == v)) = true) (fun _ t => n - (intOf t).toNat)
  case atStart => exact ⟨0, Nat.zero_le _, rfl, by simp⟩
  case round =>
    obtain ⟨i, hi, rfl, ha⟩ := hrel
    have HA := Lib.hid ha; clear ha
    by_cases hlt : i < n
    · obtain ⟨g, o, z, rfl, _, _, hz, hc⟩ := H.out.get hlt
      have HZ := Lib.hid hz; clear hz
      have j0 : (0 : Int) ≤ (i : Int) := by omega
      have j1 : (i : Int) < (n : Int) := by omega
      by_cases hp : v = z
      · have hb : (v == z) = true := by simpa using hp
        have HP := Lib.hid hp; clear hp
        go_wp2_with fail
        go_ret
        exact ⟨by rw [idxOf_some (p := fun x => x == v) HA.out HZ.out (by simp [HP.out])]; rfl, rfl⟩
      · have hb : (v == z) = false := by simpa using hp
        have HP := Lib.hid hp; clear hp
        go_wp2_with fail
        go_round
        case rel => exact ⟨i + 1, by omega, by go_num, all_take_succ HA.out HZ.out (by simpa using fun e => HP.out (Eq.symm e))⟩
        case measure => simp [intOf]; omega
    · obtain rfl : i = n := by omega
      go_wp2_with fail
      go_ret
      have h := HA.out
      rw [List.take_of_length_le (by rw [H.out.len]; exact Nat.le_refl _)] at h
      exact ⟨by rw [idxOf_none (p := fun x => x == v) h]; rfl, rfl⟩

theorem Reads.fr (w : World) (t : TypeId) (fr : Nat × Nat) (cs : List Value) (size n : Nat) (h : cs.length = n * size) : Reads (w.alloc (.cells cs.toArray t fr)) w.heap.size size (some ⟨w.heap.size, 0, none⟩) n n cs :=
  ⟨h, Nat.le_refl _, fun _ => ⟨_, 0, rfl, Nat.le_refl _, by simp, fun j u hu => by
    rw [Nat.zero_add, cell_of_row _ w.heap.size j cs.toArray t fr (heap_alloc_new w _)]; simpa using hu⟩⟩
theorem rows_at {i : Nat} {r : Int} (h : rowsL[i]? = some r) : 0 ≤ r ∧ r ≤ 100000 := by
  have := mem_of_get h
  simp [rowsL] at this
  omega
theorem cols_at {i : Nat} {r : Int} (h : colsL[i]? = some r) : 0 ≤ r ∧ r ≤ 100000 := by
  have := mem_of_get h
  simp [colsL] at this
  omega
theorem tone_next {f g : Nat → Int} {q : Nat} {v : Int} {m : Nat} (hv : wrap64 (f q + g q) = v) (j : Nat) (_ : j < m) : (if j = q then v else toneStep f g q j) = toneStep f g (q + 1) j := by
  unfold toneStep
  by_cases hjq : j = q
  · subst hjq; rw [if_pos rfl, if_pos (by omega), hv]
  · rw [if_neg hjq]
    by_cases hj2 : j < q
    · rw [if_pos hj2, if_pos (by omega)]
    · rw [if_neg hj2, if_neg (by omega)]

set_option maxRecDepth 100000 in
set_option maxHeartbeats 8000000 in
theorem tone_ok (k : Int) (N q : Nat) (w : World) (hN : N ≤ 20000) (hk : keyIx k = q) :
    Calls Try.prog 54 #[.int .u8 k, .int .i64 N] w (RetP (IsOutErr .i64 w.heap.size (tab N (toneF q)) 0) w) := by
  have hq16 : q ≤ 15 := by have := keyIx_bd k; omega
  have HK := Lib.hid (show idxOf (fun x => x == k) keysL = (q : Int) from hk); clear hk
  have hw : inB (N : Int) 0 20000 = true := by simp [inB]; omega
  have kc := fun (w : World) (C : Array Value) (n c : Nat) => Lib.run_convert_bytes_const (P := Try.prog) w 26 5 C n c Try.underlying26 Try.underlying5
  go_enter Try.func54, Try.ntmps54
  go_wp2_with fail
  clear kc
  refine (indexB_any w.heap.size _ _ _ keysL k _ (Reads.fr w 5 (16, 17) (keysL.map (Value.int .u8)) 1 16 rfl) (by omega)).mono ?_
  rintro e w1 ⟨rfl, rfl⟩
  rw [HK.out]
  obtain ⟨r, hr⟩ : ∃ r, rowsL[q / 4]? = some r := ⟨_, List.getElem?_eq_getElem (by simp [rowsL]; omega)⟩
  obtain ⟨c, hc⟩ : ∃ c, colsL[q % 4]? = some c := ⟨_, List.getElem?_eq_getElem (by simp [colsL]; omega)⟩
  obtain ⟨r0, r1⟩ := rows_at hr
  obtain ⟨c0, c1⟩ := cols_at hc
  have HR := Lib.hid hr; have HC := Lib.hid hc; clear hr hc
  have HG := Lib.hid (gr_alloc (gr_refl w none) (.cells (keysL.map (Value.int .u8)).toArray 5 (16, 17)))
  go_wp2_with (first
    | (go_at_call 67; refine (within_any _ _ _ _).mono ?_; rintro e w' ⟨rfl, rfl⟩)
    | fail)
  refine (rows_any _).mono ?_
  rintro e w2 ⟨v2, rfl, ⟨A2, n2, c2, rfl, rfl, hx2⟩, hg2⟩
  obtain ⟨g2, o2, r', rfl, _, _, hr', hcr⟩ := hx2.get (show q / 4 < 4 by omega)
  obtain rfl : r = r' := by rw [HR.out] at hr'; injection hr'
  replace HG := Lib.hid (gr_none HG.out hg2)
  have HG20 := HG
  clear hx2 hg2 hr'
  have j0 : (0 : Int) ≤ (q : Int) := by omega
  go_wp2_with fail
  refine (hum_any r N _ r0 r1 hN).mono ?_
  rintro e w3 ⟨v3, rfl, ⟨A3, n3, c3, rfl, ho3⟩, hg3⟩
  obtain rfl : n3 = N := by have := Own.len ho3; simp [tab_len] at this; omega
  replace HG := Lib.hid (gr_none HG.out hg3)
  have HG3 := Lib.hid hg3
  have HO3 := Lib.hid ho3
  clear ho3 hg3
  have hq0 : decide ((q : Int) < 0) = false := decide_eq_false (by omega)
  have z23 : w2.heap.size ≤ w3.heap.size := HG3.out.size
  go_wp2_with fail
  refine (columns_any _).mono ?_
  rintro e w4 ⟨v4, rfl, ⟨A4, n4, c4, rfl, rfl, hx4⟩, hg4⟩
  obtain ⟨g4, o4, c', rfl, _, _, hc', hcc⟩ := hx4.get (show q % 4 < 4 by omega)
  obtain rfl : c = c' := by rw [HC.out] at hc'; injection hc'
  replace HG := Lib.hid (gr_none HG.out hg4)
  replace HG3 := Lib.hid (gr_none HG3.out hg4)
  replace HO3 := Lib.hid (Own.kept HO3.out hg4 (fun g e => by cases e))
  have z34 := hg4.size
  clear hx4 hg4 hc'
  go_wp2_with fail
  refine (hum_any c n3 _ c0 c1 hN).mono ?_
  rintro e w5 ⟨v5, rfl, ⟨A5, n5, c5, rfl, ho5⟩, hg5⟩
  obtain rfl : n5 = n3 := by have := Own.len ho5; simp [tab_len] at this; omega
  have HLT3 := Lib.hid (show ∀ g, blkOf A3 = some g → g < w4.heap.size from fun g e => (Own.lt HO3.out e).2)
  replace HG := Lib.hid (gr_none HG.out hg5)
  replace HG3 := Lib.hid (gr_none HG3.out hg5)
  have HT := Lib.hid (show TabOwn w2 A3 n5 c3 (humF r) w5 from ⟨HG3.out, Own.kept HO3.out hg5 (fun g e => by cases e)⟩)
  have HX5 := Lib.hid (show Ints .i64 w5 w4.heap.size A5 n5 c5 (tab n5 (humF c)) from Own.reads ho5)
  have z45 := hg5.size
  clear ho5 hg5 HO3
  go_wp2_with fail
  go_loopw [8, 9, 34] (fun _ _ t wr => ∃ i : Nat, i ≤ n5 ∧ t = .int .i64 i ∧ TabOwn w2 A3 n5 c3 (toneStep (humF r) (humF c) i) wr ∧ w5.grownBy wr (blkOf A3)) (fun _ _ t _ => n5 - (intOf t).toNat)
  case atStart => exact ⟨0, Nat.zero_le _, rfl, HT.out.congr (fun j _ => by simp [toneStep]), gr_refl _ _⟩
  case round =>
    obtain ⟨i, hi, rfl, hT, hg⟩ := hrel
    have HT2 := Lib.hid hT; have HG6 := Lib.hid hg; clear hT hg
    by_cases hlt : i < n5
    · obtain ⟨g5, o5, y, rfl, _, _, hy, hcy⟩ := (HX5.out.grown HG6.out HLT3.out).get hlt
      obtain ⟨b, rfl, hb1, _, hcb, hfb⟩ := HT2.out.get hlt
      rw [show toneStep (humF r) (humF c) i i = humF r i from by simp [toneStep]] at hcb
      obtain ⟨x, hx⟩ : ∃ x, humF r i = x := ⟨_, rfl⟩
      rw [hx] at hcb
      have HV := Lib.hid (show wrap64 (humF r i + humF c i) = wrap64 (x + y) by
        rw [tab_get _ hlt] at hy
        injection hy with hy
        rw [hx, hy])
      clear hx hy
      have j1 : (0 : Int) ≤ (i : Int) := by omega
      have j2 : (i : Int) < (n5 : Int) := by omega
      go_wp2_with fail
      go_roundw
      case rel => exact ⟨i + 1, by omega, by go_num, (HT2.out.set hb1 i _).congr (tone_next HV.out), gr_setCell (p := ⟨b, i, none⟩) HG6.out (.inl rfl) _⟩
      case measure => simp [intOf]; omega
    · obtain rfl : i = n5 := by omega
      go_wp2_with fail
      go_ret2
      refine ⟨_, rfl, ⟨_, _, _, rfl, ?_⟩, gr_trans HG.out HG6.out (fun g e => .inr (by have := (Own.lt HT2.out.2 e).1; have := HG20.out.size; omega))⟩
      rw [← tab_congr (f := toneStep (humF r) (humF c) i) (fun j hj => by unfold toneStep toneF; rw [if_pos hj, List.getD_eq_getElem?_getD, HR.out, List.getD_eq_getElem?_getD, HC.out]; rfl)]
      exact Ints.lower (Own.reads HT2.out.2) HG20.out.size

def toneFault (k many : Int) : Int := if keyIx k < 0 then 4 else if inB many 0 20000 then 0 else 1
set_option maxRecDepth 100000 in
set_option maxHeartbeats 8000000 in
theorem tone_no (k many : Int) (w : World) (hf : toneFault k many ≠ 0) :
    Calls Try.prog 54 #[.int .u8 k, .int .i64 many] w (RetP (IsOutErr .i64 w.heap.size [] (toneFault k many)) w) := by
  have HK := Lib.hid (show idxOf (fun x => x == k) keysL = keyIx k from rfl)
  have kc := fun (w : World) (C : Array Value) (n c : Nat) => Lib.run_convert_bytes_const (P := Try.prog) w 26 5 C n c Try.underlying26 Try.underlying5
  by_cases h0 : keyIx k < 0
  · have HF := Lib.hid (show toneFault k many = 4 by unfold toneFault; rw [if_pos h0])
    clear hf
    go_enter Try.func54, Try.ntmps54
    go_wp2_with fail
    clear kc
    refine (indexB_any w.heap.size _ _ _ keysL k _ (Reads.fr w 5 (16, 17) (keysL.map (Value.int .u8)) 1 16 rfl) (by omega)).mono ?_
    rintro e w1 ⟨rfl, rfl⟩
    rw [HK.out]
    go_wp2_with fail
    go_ret2
    rw [HF.out]
    exact ⟨_, rfl, ⟨none, 0, 0, rfl, Ints.none_⟩, gr_alloc (gr_refl _ _) _⟩
  · have hd : decide (keyIx k < 0) = false := by simpa using h0
    have hb : inB many 0 20000 = false := by
      cases h : inB many 0 20000
      · rfl
      · exfalso; apply hf; unfold toneFault; rw [if_neg h0, h]; rfl
    have HF := Lib.hid (show toneFault k many = 1 by unfold toneFault; rw [if_neg h0, hb]; rfl)
    clear hf
    go_enter Try.func54, Try.ntmps54
    go_wp2_with fail
    clear kc
    refine (indexB_any w.heap.size _ _ _ keysL k _ (Reads.fr w 5 (16, 17) (keysL.map (Value.int .u8)) 1 16 rfl) (by omega)).mono ?_
    rintro e w1 ⟨rfl, rfl⟩
    rw [HK.out]
    go_wp2_with (first
      | (go_at_call 67; refine (within_any _ _ _ _).mono ?_; rintro e w' ⟨rfl, rfl⟩)
      | fail)
    go_ret2
    rw [HF.out]
    exact ⟨_, rfl, ⟨none, 0, 0, rfl, Ints.none_⟩, gr_alloc (gr_refl _ _) _⟩
end Go.Proofs.Ytdknfhpconfhkaa

/- Contract of ToneOf. Conditions: none. -/
import Derived.Test.YtdknfhpconfhkaaTone2
namespace Go.Proofs.Ytdknfhpconfhkaa
open Go.RowKit

theorem indexByte_key (k : Int) (w : World) (h0 : 0 ≤ k) (h1 : k < 256) :
    Calls Try.prog 87 #[.string ⟨#[49, 50, 51, 65, 52, 53, 54, 66, 55, 56, 57, 67, 42, 48, 35, 68]⟩, .int .u8 k] w (Same (.int .i64 (keyIx k)) w) := by
  refine (indexByte_any _ k w).mono ?_
  rintro e w' ⟨rfl, rfl⟩
  obtain ⟨j, rfl⟩ := Int.eq_ofNat_of_zero_le h0
  refine ⟨?_, rfl⟩
  rw [Int.toNat_natCast]
  have := keyIx_byte ⟨j, by omega⟩
  exact congrArg (fun z => Ending.returned (.int .i64 z)) this

def IsToneOk (lo : Nat) (l : List Int) (v : Value) (w : World) : Prop := ∃ (A : Option Addr) (n c : Nat), v = .tuple #[.slice A n c, .bool true] ∧ OwnI w lo A n c l

set_option maxRecDepth 100000 in
set_option maxHeartbeats 8000000 in
theorem toneOf_ok (k : Int) (N q : Nat) (w : World) (hN : N ≤ 20000) (k0 : 0 ≤ k) (k1 : k < 256) (hk : keyIx k = q) :
    Calls Try.prog 55 #[.int .u8 k, .int .i64 N] w (RetP (IsToneOk w.heap.size (tab N (toneF q))) w) := by
  have hq16 : q ≤ 15 := by have := keyIx_bd k; omega
  have HK := Lib.hid hk; clear hk
  obtain ⟨r, hr⟩ : ∃ r, rowsL[q / 4]? = some r := ⟨_, List.getElem?_eq_getElem (by simp [rowsL]; omega)⟩
  obtain ⟨c, hc⟩ : ∃ c, colsL[q % 4]? = some c := ⟨_, List.getElem?_eq_getElem (by simp [colsL]; omega)⟩
  obtain ⟨r0, r1⟩ := rows_at hr
  obtain ⟨c0, c1⟩ := cols_at hc
  have HR := Lib.hid hr; have HC := Lib.hid hc; clear hr hc
  have hq0 : decide ((q : Int) < 0) = false := decide_eq_false (by omega)
  go_enter Try.func55, Try.ntmps55
  go_wp2_with fail
  refine (indexByte_key k _ k0 k1).mono ?_
  rintro e w1 ⟨rfl, rfl⟩
  rw [HK.out]
  go_wp2_with fail
  refine (rowNumbers_any _).mono ?_
  rintro e w2 ⟨v2, rfl, ⟨A2, n2, c2, rfl, rfl, hx2⟩, hg2⟩
  obtain ⟨g2, o2, r', rfl, _, _, hr', hcr⟩ := hx2.get (show q / 4 < 4 by omega)
  obtain rfl : r = r' := by rw [HR.out] at hr'; injection hr'
  have HG := Lib.hid hg2
  have HG20 := HG
  clear hx2 hg2 hr'
  have j0 : (0 : Int) ≤ (q : Int) := by omega
  go_wp2_with fail
  refine (qhum_any r N _ r0 r1 hN).mono ?_
  rintro e w3 ⟨v3, rfl, ⟨A3, n3, c3, rfl, ho3⟩, hg3⟩
  obtain rfl : n3 = N := by have := Own.len ho3; simp [tab_len] at this; omega
  replace HG := Lib.hid (gr_none HG.out hg3)
  have HG3 := Lib.hid hg3
  have HO3 := Lib.hid ho3
  clear ho3 hg3
  have z23 : w2.heap.size ≤ w3.heap.size := HG3.out.size
  go_wp2_with fail
  refine (columnNumbers_any _).mono ?_
  rintro e w4 ⟨v4, rfl, ⟨A4, n4, c4, rfl, rfl, hx4⟩, hg4⟩
  obtain ⟨g4, o4, c', rfl, _, _, hc', hcc⟩ := hx4.get (show q % 4 < 4 by omega)
  obtain rfl : c = c' := by rw [HC.out] at hc'; injection hc'
  replace HG := Lib.hid (gr_none HG.out hg4)
  replace HG3 := Lib.hid (gr_none HG3.out hg4)
  replace HO3 := Lib.hid (Own.kept HO3.out hg4 (fun g e => by cases e))
  have z34 := hg4.size
  clear hx4 hg4 hc'
  go_wp2_with fail
  refine (qhum_any c n3 _ c0 c1 hN).mono ?_
  rintro e w5 ⟨v5, rfl, ⟨A5, n5, c5, rfl, ho5⟩, hg5⟩
  obtain rfl : n5 = n3 := by have := Own.len ho5; simp [tab_len] at this; omega
  have HLT3 := Lib.hid (show ∀ g, blkOf A3 = some g → g < w4.heap.size from fun g e => (Own.lt HO3.out e).2)
  replace HG := Lib.hid (gr_none HG.out hg5)
  replace HG3 := Lib.hid (gr_none HG3.out hg5)
  have HT := Lib.hid (show TabOwn w2 A3 n5 c3 (humF r) w5 from ⟨HG3.out, Own.kept HO3.out hg5 (fun g e => by cases e)⟩)
  have HX5 := Lib.hid (show Ints .i64 w5 w4.heap.size A5 n5 c5 (tab n5 (humF c)) from Own.reads ho5)
  have z45 := hg5.size
  clear ho5 hg5 HO3
  go_wp2_with fail
  go_loopw [9, 30] (fun _ t wr => ∃ i : Nat, i ≤ n5 ∧ t = .int .i64 i ∧ TabOwn w2 A3 n5 c3 (toneStep (humF r) (humF c) i) wr ∧ w5.grownBy wr (blkOf A3)) (fun _ t _ => n5 - (intOf t).toNat)
  case atStart => exact ⟨0, Nat.zero_le _, rfl, HT.out.congr (fun j _ => by simp [toneStep]), gr_refl _ _⟩
  case round =>
    obtain ⟨i, hi, rfl, hT, hg⟩ := hrel
    have HT2 := Lib.hid hT; have HG6 := Lib.hid hg; clear hT hg
    by_cases hlt : i < n5
    · obtain ⟨g5, o5, y, rfl, _, _, hy, hcy⟩ := (HX5.out.grown HG6.out HLT3.out).get hlt
      obtain ⟨b, rfl, hb1, _, hcb, hfb⟩ := HT2.out.get hlt
      rw [show toneStep (humF r) (humF c) i i = humF r i from by simp [toneStep]] at hcb
      obtain ⟨x, hx⟩ : ∃ x, humF r i = x := ⟨_, rfl⟩
      rw [hx] at hcb
      have HV := Lib.hid (show wrap64 (humF r i + humF c i) = wrap64 (x + y) by
        rw [tab_get _ hlt] at hy
        injection hy with hy
        rw [hx, hy])
      clear hx hy
      have j1 : (0 : Int) ≤ (i : Int) := by omega
      have j2 : (i : Int) < (n5 : Int) := by omega
      go_wp2_with fail
      go_region
      go_wp2_with fail
      go_roundw
      case rel => exact ⟨i + 1, by omega, by go_num, ((HT2.out.set hb1 i _).congr (tone_next HV.out)).drew, gr_drew (gr_setCell (p := ⟨b, i, none⟩) HG6.out (.inl rfl) _)⟩
      case measure => simp [intOf]; omega
    · obtain rfl : i = n5 := by omega
      go_wp2_with fail
      go_ret2
      refine ⟨_, rfl, ⟨_, _, _, rfl, ?_⟩, gr_trans HG.out HG6.out (fun g e => .inr (by have := (Own.lt HT2.out.2 e).1; have := HG20.out.size; omega))⟩
      rw [← tab_congr (f := toneStep (humF r) (humF c) i) (fun j hj => by unfold toneStep toneF; rw [if_pos hj, List.getD_eq_getElem?_getD, HR.out, List.getD_eq_getElem?_getD, HC.out]; rfl)]
      exact Own.lower HT2.out.2 HG20.out.size
set_option maxRecDepth 100000 in
set_option maxHeartbeats 8000000 in
theorem toneOf_no (k many : Int) (w : World) (k0 : 0 ≤ k) (k1 : k < 256) (hk : keyIx k < 0) :
    Calls Try.prog 55 #[.int .u8 k, .int .i64 many] w (Same (.tuple #[.slice none 0 0, .bool false]) w) := by
  go_enter Try.func55, Try.ntmps55
  go_wp2_with fail
  refine (indexByte_key k _ k0 k1).mono ?_
  rintro e w1 ⟨rfl, rfl⟩
  go_wp2_with fail
  go_ret2
  exact ⟨rfl, rfl⟩
end Go.Proofs.Ytdknfhpconfhkaa

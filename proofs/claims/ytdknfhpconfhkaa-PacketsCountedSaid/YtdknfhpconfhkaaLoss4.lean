/- Numbers, Losses and LossesOf, whatever is wrong. Conditions: none. -/
import Derived.Test.YtdknfhpconfhkaaLoss3
namespace Go.Proofs.Ytdknfhpconfhkaa
open Go.RowKit Go.Maps

set_option maxRecDepth 100000 in
set_option maxHeartbeats 4000000 in
theorem lossesOf_nil (lo : Nat) (A : Option Addr) (c : Nat) (l : List ArrV) (w : World) (h : Arrs w lo A 0 c l) (hf : arrFault l = 0) :
    Calls Try.prog 51 #[.slice A 0 c] w (RetP (fun v _ => v = .agg (lossCells l)) w) := by
  have H := Lib.hid h; clear h
  have HF := Lib.hid hf; clear hf
  have hl : l = [] := List.eq_nil_of_length_eq_zero H.out.1.len
  go_enter Try.func51, Try.ntmps51
  go_wp2_with fail
  refine (numbersOf_any lo _ _ _ l _ (H.out.grown (gr_alloc (gr_refl _ none) _) (fun g e => by cases e)) HF.out).mono ?_
  rintro e w1 ⟨v2, rfl, ⟨A2, m, c2, rfl, hx2⟩, hg1⟩
  have HR := Lib.hid ((Blk.new w 76 _).grown hg1 (by simp))
  have HG := Lib.hid (gr_none (gr_alloc (gr_refl w none) _) hg1)
  obtain rfl : m = 0 := by have h1 := hx2.len; rw [hl] at h1; exact h1.symm
  clear hg1 hx2
  have HL := Lib.hid hl; clear hl
  go_wp2_with (first
    | (refine wpl_store_all Try.lossT rfl _ _ rfl _ rfl _ _ _ rfl HR.out rfl rfl (by simp [Value.oneCell']) ?_
       intro wz hst
       have HST := Lib.hid hst; clear hst)
    | fail)
  have hst := HST.out
  refine ret_cell Try.lossT rfl _ _ _ rfl hst.1 rfl rfl ?_
  refine ⟨_, rfl, ?_, gr_trans HG.out hst.2.1 (fun g e => .inr (by injection e with e; omega))⟩
  rw [HL.out]
  rfl
theorem lossesOf_any (A : Option Addr) (n c : Nat) (l : List ArrV) (w : World) (h : Arrs w 0 A n c l) (hf : arrFault l = 0) :
    Calls Try.prog 51 #[.slice A n c] w (RetP (fun v _ => v = .agg (lossCells l)) w) := by
  rcases Nat.eq_zero_or_pos n with h0 | h0
  · subst h0; exact lossesOf_nil 0 A c l w h hf
  · exact lossesOf_ok 0 A n c l w h hf h0
def zeroLoss : Array Value := #[.int .i64 0, .int .i64 0, .int .i64 0, .int .i64 0, .int .i64 0]
theorem losses_good (A : Option Addr) (n c : Nat) (l : List ArrV) (w : World) (h : Arrs w 0 A n c l) (hf : arrFault l = 0) :
    Calls Try.prog 48 #[.slice A n c] w (RetP (fun v _ => v = .tuple #[.agg (lossCells l), .int .i64 0]) w) := by
  rcases Nat.eq_zero_or_pos n with h0 | h0
  · subst h0
    have hl : l = [] := List.eq_nil_of_length_eq_zero h.1.len
    refine (losses_none 0 A 0 c l w h (by omega) (.inr rfl)).mono ?_
    rintro e w' ⟨v, he, hv, hg⟩
    refine ⟨v, he, ?_, hg⟩
    rw [hf] at hv
    rw [hv, hl]
    rfl
  · exact losses_ok 0 A n c l w h hf h0
theorem lossCells_form (l : List ArrV) : ∃ a b c d e : Int, lossCells l = #[.int .i64 a, .int .i64 b, .int .i64 c, .int .i64 d, .int .i64 e] := by
  unfold lossCells
  split
  · exact ⟨_, _, _, _, _, rfl⟩
  · exact ⟨_, _, _, _, _, rfl⟩
set_option maxHeartbeats 4000000 in
theorem numbersE_any (A : Option Addr) (n c : Nat) (l : List ArrV) (w : World) (h : Arrs w 0 A n c l) (hn : n ≤ 1000000) :
    Calls Try.prog 47 #[.slice A n c] w (RetP (IsOutErr .i64 w.heap.size (if arrFault l = 0 then nums l else []) (arrFault l)) w) := by
  have H := Lib.hid h; clear h
  by_cases h0 : arrFault l = 0
  · have hfb : (arrFault l != 0) = false := by simpa using h0
    rw [if_pos h0, h0]
    have HF := Lib.hid h0; clear h0
    go_enter Try.func47, Try.ntmps47
    go_wp2_with fail
    refine (checkArrivals_any 0 _ _ _ l _ H.out (by omega)).mono ?_
    rintro e w1 ⟨rfl, hg1⟩
    go_wp2_with fail
    refine (numbers_any 0 _ _ _ l _ (H.out.grown hg1 (fun g e => by cases e)) HF.out).mono ?_
    rintro e w2 ⟨v2, rfl, ⟨A2, m, c2, rfl, hx2⟩, hg2⟩
    go_wp2_with fail
    go_ret2
    exact ⟨_, rfl, ⟨_, _, _, rfl, hx2.lower hg1.size⟩, gr_none hg1 hg2⟩
  · have hfb : (arrFault l != 0) = true := by simpa using h0
    rw [if_neg h0]
    clear h0
    go_enter Try.func47, Try.ntmps47
    go_wp2_with fail
    refine (checkArrivals_any 0 _ _ _ l _ H.out (by omega)).mono ?_
    rintro e w1 ⟨rfl, hg1⟩
    go_wp2_with fail
    go_ret2
    exact ⟨_, rfl, ⟨none, 0, 0, rfl, Ints.none_⟩, hg1⟩
end Go.Proofs.Ytdknfhpconfhkaa

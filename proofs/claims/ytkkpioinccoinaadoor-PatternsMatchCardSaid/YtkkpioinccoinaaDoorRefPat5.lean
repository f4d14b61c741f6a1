/- Contracts of PatternFault, setAt and MatchesOf. Conditions: none. -/
import Derived.Test.YtkkpioinccoinaaDoorRefPat4
import Derived.Test.YtkkpioinccoinaaDoorPat8
namespace Go.Proofs.YtkkpioinccoinaaDoor
open Go.RowKit

/-- Sets of signs, as strings. -/
def Strs (w : World) (lo : Nat) (A : Option Addr) (n c : Nat) (S : List Nat) : Prop := Reads w lo 1 A n c (S.map sv)
theorem Strs.len {w : World} {lo : Nat} {A : Option Addr} {n c : Nat} {S : List Nat} (h : Strs w lo A n c S) : S.length = n := by have := h.1; simpa using this
theorem Strs.grown {w w' : World} {lo : Nat} {A : Option Addr} {n c : Nat} {S : List Nat} (h : Strs w lo A n c S) {row : Option Nat} (hg : w.grownBy w' row) (hr : ∀ g, row = some g → g < lo) : Strs w' lo A n c S := Reads.grown h hg hr
theorem Strs.get {w : World} {lo : Nat} {A : Option Addr} {n c i : Nat} {S : List Nat} (h : Strs w lo A n c S) (hi : i < n) : ∃ g o, A = some ⟨g, o, none⟩ ∧ lo ≤ g ∧ g < w.heap.size ∧ w.cell? ⟨g, o + i, none⟩ = some (.string (strN (setStr (S.getD i 0)))) := by
  obtain ⟨g, o, u, e, h1, h2, h3, h4⟩ := Reads.at_ h hi
  have hl : i < S.length := by rw [h.len]; exact hi
  refine ⟨g, o, e, h1, h2, ?_⟩
  rw [List.getElem?_map, List.getElem?_eq_getElem hl] at h3
  rw [h4, ← h3, List.getD_eq_getElem?_getD, List.getElem?_eq_getElem hl]
  rfl
theorem shape_ok (s : ByteArray) (x : List Nat × Nat) (w : World) (h : patX (nb s) = some x) : Calls Tryd.prog 60 #[.string s] w
    (RetP (fun v w' => ∃ (A : Option Addr) (n c : Nat), v = .tuple #[.agg #[.slice A n c, .int .u8 x.2], .bool true] ∧ Strs w' w.heap.size A n c x.1 ∧ n ≤ 30) w) := by
  have hs : s.size ≤ 60 := by
    unfold patX at h
    split at h
    · rw [nb_len] at *; assumption
    · cases h
  have hx : shpL (nb s) = some x := by unfold patX at h; rwa [if_pos (by rw [nb_len]; exact hs)] at h
  refine (shapeOf_any s w hs).mono ?_
  rintro e w' ⟨v, rfl, hv, hg⟩
  refine ⟨v, rfl, ?_, hg⟩
  rcases hv with ⟨x', A, n, c, h1, rfl, h3, h4⟩ | ⟨h1, _⟩
  · rw [hx] at h1
    injection h1 with h1
    subst h1
    exact ⟨A, n, c, rfl, Own.reads h3, by have := Own.len h3; simp at this; omega⟩
  · rw [hx] at h1; cases h1
set_option maxHeartbeats 2000000 in
theorem patternFault_any (s : ByteArray) (w : World) : Calls Tryd.prog 10 #[.string s] w (RetV (.int .i64 (patF (nb s))) w) := by
  by_cases hs : s.size ≤ 60
  · have d0 : decide ((60 : Int) < (s.size : Int)) = false := decide_eq_false (by omega)
    have HF := Lib.hid (show patF (nb s) = if shpL (nb s) = none then 9 else 0 by unfold patF; rw [if_neg (by rw [nb_len]; omega)])
    go_enter Tryd.func10, Tryd.ntmps10
    go_wp2_with fail
    refine (shapeOf_any s _ hs).mono ?_
    rintro e w1 ⟨v1, rfl, hv1, hg1⟩
    have HG := Lib.hid hg1; clear hg1
    rcases hv1 with ⟨x, A, n, c, h1, rfl, h3, h4⟩ | ⟨h1, A, n, c, t, rfl⟩
    · have HV := Lib.hid (show patF (nb s) = 0 by rw [HF.out, h1]; rfl)
      clear h1 h3
      go_wp2_with fail
      go_ret
      exact ⟨by rw [HV.out]; rfl, gr_alloc HG.out _⟩
    · have HV := Lib.hid (show patF (nb s) = 9 by rw [HF.out, h1]; rfl)
      clear h1
      go_wp2_with fail
      go_ret
      exact ⟨by rw [HV.out]; rfl, gr_alloc HG.out _⟩
  · have d0 : decide ((60 : Int) < (s.size : Int)) = true := decide_eq_true (by omega)
    have HV := Lib.hid (show patF (nb s) = 2 by unfold patF; rw [if_pos (by rw [nb_len]; omega)])
    go_enter Tryd.func10, Tryd.ntmps10
    go_wp2_with fail
    go_ret
    exact ⟨by rw [HV.out]; rfl, gr_refl _ _⟩
set_option maxHeartbeats 2000000 in
theorem setAt_any (A : Option Addr) (n c i : Nat) (x : List Nat × Nat) (w : World) (h : Strs w 0 A n c x.1) (hi : i ≤ 1000) (hn : n ≤ 30) :
    Calls Tryd.prog 62 #[.agg #[.slice A n c, .int .u8 x.2], .int .i64 i] w (RetV (.string (strN (setAtL x i))) w) := by
  have hl := h.len
  by_cases hlt : i < n
  · obtain ⟨g, o, rfl, _, hgl, hc⟩ := h.get hlt
    have HV := Lib.hid (show setAtL x i = setStr (x.1.getD i 0) by unfold setAtL; rw [if_pos (by omega)])
    have HV2 := Lib.hid (show strN (setAtL x i) = strN (setStr (x.1.getD i 0)) by rw [HV.out])
    generalize strN (setStr (x.1.getD i 0)) = sq at hc HV2
    clear h hl HV
    go_enter Tryd.func62, Tryd.ntmps62
    go_wp2_with fail
    go_ret
    exact ⟨by rw [HV2.out]; rfl, gr_alloc (gr_refl _ _) _⟩
  · have HV := Lib.hid (show strN (setAtL x i) = ⟨#[35, 42, 48, 49, 50, 51, 52, 53, 54, 55, 56, 57]⟩ by unfold setAtL; rw [if_neg (by omega), ← nb_signs, strN_nb])
    have q1 : decide (i < n) = false := decide_eq_false hlt
    have q2 : decide ((i : Int) < (n : Int)) = false := decide_eq_false (by omega)
    clear h hl
    go_enter Tryd.func62, Tryd.ntmps62
    go_wp2_with fail
    go_ret
    exact ⟨by rw [HV.out]; rfl, gr_alloc (gr_refl _ _) _⟩
end Go.Proofs.YtkkpioinccoinaaDoor

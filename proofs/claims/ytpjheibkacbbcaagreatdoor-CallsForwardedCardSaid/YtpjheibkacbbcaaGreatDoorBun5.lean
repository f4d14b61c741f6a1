/- Contracts of PatternFault, setAt and MatchesOf. Conditions: none. -/
import Derived.Test.YtpjheibkacbbcaaGreatDoorRefPat4
import Derived.Test.YtpjheibkacbbcaaGreatDoorBun4
import Derived.Lib.SlBytesConst
namespace Go.Proofs.YtpjheibkacbbcaaGreatDoor
section
open Go.RowKit

/-- Sets of signs, as strings. -/
def Strs (w : World) (lo : Nat) (A : Option Addr) (n c : Nat) (S : List Nat) : Prop := Reads w lo 1 A n c (S.map sv)
theorem Strs.len {w : World} {lo : Nat} {A : Option Addr} {n c : Nat} {S : List Nat} (h : Strs w lo A n c S) : S.length = n := by have := h.1; simpa using this
theorem Strs.grown {w w' : World} {lo : Nat} {A : Option Addr} {n c : Nat} {S : List Nat} (h : Strs w lo A n c S) {row : Option Nat} (hg : w.grownBy w' row) (hr : ∀ g, row = some g → g < lo) : Strs w' lo A n c S := Reads.grown h hg hr
theorem Strs.get {w : World} {lo : Nat} {A : Option Addr} {n c i : Nat} {S : List Nat} (h : Strs w lo A n c S) (hi : i < n) : ∃ g o, A = some ⟨g, o, none⟩ ∧ lo ≤ g ∧ g < w.heap.size ∧ w.cell? ⟨g, o + i, none⟩ = some (.string (strN (setStr (S.getD i 0)))) := by
  obtain ⟨g, o, u, e, h1, h2, h3, h4⟩ := Reads.at_ h hi
  have hl : i < S.length := by rw [h.len]; exact hi
  refine ⟨g, o, e, h1, h2, ?_⟩
  rw [List.getElem?_map, List.getElem?_eq_getElem hl] at h3
  rw [h4, ← h3, List.getD_eq_getElem?_getD, List.getElem?_eq_getElem hl]
  rfl
set_option maxHeartbeats 2000000 in
theorem patternFault_any (s : ByteArray) (w : World) : Calls Tryz.prog 160 #[.string s] w (RetV (.int .i64 (patF (nb s))) w) := by
  by_cases hs : s.size ≤ 60
  · have d0 : decide ((60 : Int) < (s.size : Int)) = false := decide_eq_false (by omega)
    have HF := Lib.hid (show patF (nb s) = if shpL (nb s) = none then 9 else 0 by unfold patF; rw [if_neg (by rw [nb_len]; omega)])
    go_enter Tryz.func160, Tryz.ntmps160
    go_wp2_with fail
    refine (shapeOf_any s _ hs).mono ?_
    rintro e w1 ⟨v1, rfl, hv1, hg1⟩
    have HG := Lib.hid hg1; clear hg1
    rcases hv1 with ⟨x, A, n, c, h1, rfl, h3, h4⟩ | ⟨h1, A, n, c, t, rfl⟩
    · have HV := Lib.hid (show patF (nb s) = 0 by rw [HF.out, h1]; rfl)
      clear h1 h3
      go_wp2_with fail
      go_ret
      exact ⟨by rw [HV.out]; rfl, gr_alloc HG.out _⟩
    · have HV := Lib.hid (show patF (nb s) = 9 by rw [HF.out, h1]; rfl)
      clear h1
      go_wp2_with fail
      go_ret
      exact ⟨by rw [HV.out]; rfl, gr_alloc HG.out _⟩
  · have d0 : decide ((60 : Int) < (s.size : Int)) = true := decide_eq_true (by omega)
    have HV := Lib.hid (show patF (nb s) = 2 by unfold patF; rw [if_pos (by rw [nb_len]; omega)])
    go_enter Tryz.func160, Tryz.ntmps160
    go_wp2_with fail
    go_ret
    exact ⟨by rw [HV.out]; rfl, gr_refl _ _⟩
end
end Go.Proofs.YtpjheibkacbbcaaGreatDoor
/- Contract of MatchesOf. Conditions: none. -/
namespace Go.Proofs.YtpjheibkacbbcaaGreatDoor
section
open Go.RowKit

theorem idx_mem {l : List Nat} {c : Nat} : (0 ≤ idxL l c ↔ c ∈ l) ∧ (idxL l c < 0 ↔ ¬ c ∈ l) := by
  unfold idxL
  by_cases h : c ∈ l
  · rw [if_pos h]; constructor <;> constructor <;> intro h1 <;> first | exact h | omega | exact absurd h h1 | fail
  · rw [if_neg h]; constructor <;> constructor <;> intro h1 <;> first | exact h | omega | exact absurd h1 h | fail
end
end Go.Proofs.YtpjheibkacbbcaaGreatDoor

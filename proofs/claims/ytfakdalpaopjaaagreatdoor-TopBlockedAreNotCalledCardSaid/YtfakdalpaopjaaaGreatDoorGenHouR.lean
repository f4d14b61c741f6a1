/- Contract of the generator RightHours: its hours are right. Conditions: none. -/
import Derived.Test.YtfakdalpaopjaaaGreatDoorBun5
import Derived.Test.YtfakdalpaopjaaaGreatDoorHou1
import Derived.Test.YtfakdalpaopjaaaGreatDoorBun1
import Derived.Deep.CutBlock
namespace Go.Proofs.YtfakdalpaopjaaaGreatDoor
open Go.RowKit

theorem fstE_nil {f : Nat → Int} : ∀ n : Nat, (∀ i, i < n → f i = 0) → fstE f n = 0
  | 0, _ => rfl
  | n + 1, h => fstE_zero (fstE_nil n (fun i hi => h i (by omega))) (h n (by omega))
/-- Rows that are right; holidays that are right, each before day d. -/
def RwR (l : List (Int × Int × Int)) : Prop := ∀ r ∈ l, rwB r = true
def HoR (l : List (Int × Int × Int)) (d : Int) : Prop := (∀ i, hoAt l i = 0) ∧ ∀ z ∈ l, z.1 < d
theorem RwR.app {l : List (Int × Int × Int)} {r : Int × Int × Int} (h : RwR l) (hr : rwB r = true) : RwR (l ++ [r]) := fun x hx => (List.mem_append.1 hx).elim (h x) (fun e => by rw [List.mem_singleton.1 e]; exact hr)
theorem HoR.nil (d : Int) : HoR [] d := ⟨fun i => rfl, fun z hz => by cases hz⟩
theorem HoR.mono {l : List (Int × Int × Int)} {d d' : Int} (h : HoR l d) (hd : d ≤ d') : HoR l d' := ⟨h.1, fun z hz => by have := h.2 z hz; omega⟩
theorem HoR.app {l : List (Int × Int × Int)} {r : Int × Int × Int} {d d' : Int} (h : HoR l d) (hr : hoB r = true) (h1 : r.1 = d) (h2 : d < d') : HoR (l ++ [r]) d' := by
  refine ⟨fun i => ?_, fun z hz => ?_⟩
  · rcases Nat.lt_trichotomy i l.length with hi | hi | hi
    · have e1 : (l ++ [r])[i]? = l[i]? := List.getElem?_append_left hi
      have e2 : (l ++ [r])[i - 1]? = l[i - 1]? := List.getElem?_append_left (by omega)
      have h0 := h.1 i
      unfold hoAt at h0 ⊢
      rw [e1, e2]; exact h0
    · subst hi
      have e1 : (l ++ [r])[l.length]? = some r := by rw [List.getElem?_append_right (Nat.le_refl _), Nat.sub_self]; rfl
      by_cases h0 : 0 < l.length
      · have hl : l.length - 1 < l.length := by omega
        have e2 : (l ++ [r])[l.length - 1]? = some l[l.length - 1] := by rw [List.getElem?_append_left hl]; exact List.getElem?_eq_getElem hl
        refine hoAt_e e1 hr e2 ?_
        have := h.2 l[l.length - 1] (List.getElem_mem hl)
        omega
      · exact hoAt_z e1 hr h0
    · have e1 : (l ++ [r])[i]? = none := List.getElem?_eq_none (by rw [List.length_append, List.length_singleton]; omega)
      unfold hoAt; rw [e1]; rfl
  · rcases List.mem_append.1 hz with hz | hz
    · have := h.2 z hz; omega
    · rw [List.mem_singleton.1 hz]; omega
/-- Hours that are right. -/
def HrR (a : HrV) : Prop := keyOk (nb a.key) = true ∧ inB a.zone (-1440) 1440 = true ∧ RwR a.rows ∧ HoR a.hol 4
theorem HrR.e {a : HrV} (h : HrR a) (h1 : a.rn ≤ 2) (h2 : a.hn ≤ 3) : hrsE [a] = 0 := by
  have hrw : fstE (rwAt a.rows) a.rn = 0 := fstE_nil _ fun i _ => by
    cases hr : a.rows[i]? with
    | none => unfold rwAt; rw [hr]; rfl
    | some z => exact rwAt_0 hr (h.2.2.1 z (List.mem_of_getElem? hr))
  have hho : fstE (hoAt a.hol) a.hn = 0 := fstE_nil _ fun i _ => h.2.2.2.1 i
  have he : hrE a = 0 := by
    unfold hrE htE
    rw [if_neg (by omega), if_pos hrw, if_neg (by omega)]
    exact hho
  unfold hrsE
  rw [if_neg (by simp)]
  refine fstE_nil _ fun i hi => ?_
  obtain rfl : i = 0 := by simpa using hi
  unfold hrAt
  show (if keyOk (nb a.key) then (if decide (0 < 0) && _ then 7 else (if inB a.zone (-1440) 1440 then hrE a else 1)) else 5) = 0
  rw [h.1, h.2.1, he]
  rfl
theorem zone_ok : ∀ r ∈ ([0, 0, 60, -90, 1440] : List Int), inB r (-1440) 1440 = true := by decide
theorem row_ok {y1 r6 y2 y3 : Int} (h1 : y1 ∈ ([127, 31, 1, 64, 32, 5] : List Int)) (h2 : r6 ∈ ([0, 60, 540, 720] : List Int)) (h3 : y2 ∈ ([1, 60, 300, 720] : List Int)) (h : IntKind.i64.wrap (r6 + y2) = y3) : rwB (y1, r6, y3) = true := by
  have q1 : inB y1 1 127 = true := (by decide : ∀ r ∈ ([127, 31, 1, 64, 32, 5] : List Int), inB r 1 127 = true) y1 h1
  have q2 := (by decide : ∀ r ∈ ([0, 60, 540, 720] : List Int), 0 ≤ r ∧ r ≤ 720) r6 h2
  have q3 := (by decide : ∀ r ∈ ([1, 60, 300, 720] : List Int), 1 ≤ r ∧ r ≤ 720) y2 h3
  have q4 : y3 = r6 + y2 := by rw [← h]; exact IntWalk.i64_in _ (by omega)
  unfold rwB timB
  rw [q1, decide_eq_true (show 0 ≤ r6 by omega), decide_eq_true (show r6 < y3 by omega), decide_eq_true (show y3 ≤ 1440 by omega)]
  rfl
/-- The days, and one behind them. -/
def dyB (j : Nat) : Int := if j = 0 then 0 else if j = 1 then 2 else if j = 2 then 3 else 4
theorem dyB_lt {j : Nat} (h : j < 3) : dyB j < dyB (j + 1) := by
  rcases (by omega : j = 0 ∨ j = 1 ∨ j = 2) with rfl | rfl | rfl <;> decide
theorem dyB_in (j : Nat) : inB (dyB j) 0 4000 = true := by
  unfold dyB
  split
  · decide
  · split
    · decide
    · split <;> decide
theorem ho_zero (j : Nat) : hoB (dyB j, 0, 0) = true := by
  unfold hoB
  rw [dyB_in]; rfl
theorem ho_some {j : Nat} {r7 r8 : Int} (h1 : r7 ∈ ([0, 540] : List Int)) (h2 : r8 ∈ ([600, 1440] : List Int)) : hoB (dyB j, r7, r8) = true := by
  have q1 := (by decide : ∀ r ∈ ([0, 540] : List Int), 0 ≤ r ∧ r ≤ 540) r7 h1
  have q2 := (by decide : ∀ r ∈ ([600, 1440] : List Int), 600 ≤ r ∧ r ≤ 1440) r8 h2
  unfold hoB timB
  rw [dyB_in, decide_eq_true (show 0 ≤ r7 by omega), decide_eq_true (show r7 < r8 by omega), decide_eq_true (show r8 ≤ 1440 by omega)]
  simp
theorem days3r (k : Nat) (hk : k < 3) {w : World} {g : Nat} (h : Blk w g 3 #[.int .i64 0, .int .i64 2, .int .i64 3]) : ∃ d : Int, d = dyB k ∧ w.cell? ⟨g, k, none⟩ = some (.int .i64 d) := by
  rcases (by omega : k = 0 ∨ k = 1 ∨ k = 2) with rfl | rfl | rfl
  · exact ⟨_, rfl, h.cell 0⟩
  · exact ⟨_, rfl, h.cell 1⟩
  · exact ⟨_, rfl, h.cell 2⟩
def spRR (sb : Nat) : List (Nat × (Value → World → Prop)) :=
  [(3, SlOf sb 3 6 #[.int .i64 127, .int .i64 31, .int .i64 1, .int .i64 64, .int .i64 32, .int .i64 5]), (4, IntOf [127, 31, 1, 64, 32, 5]),
   (8, SlOf sb 3 4 #[.int .i64 1, .int .i64 60, .int .i64 300, .int .i64 720]), (9, IntOf [1, 60, 300, 720])]
theorem spRR_grown {sb k : Nat} {v : Value} {w w' : World} (h : RSpec (spRR sb) k v w) (hg : w.grownBy w' (some sb)) : RSpec (spRR sb) k v w' := by
  refine RSpec.grown (fun p hp v w w' h1 hg => ?_) h hg
  simp only [spRR, List.mem_cons, List.not_mem_nil, or_false] at hp
  rcases hp with rfl | rfl | rfl | rfl
  all_goals first | exact SlOf.grown h1 hg | exact h1
end Go.Proofs.YtfakdalpaopjaaaGreatDoor

/- The plain laws on the strongest number and on runs of keys. No program. Conditions: none. -/
import Derived.Test.YtdknfhpconfhkaaSetI
namespace Go.Proofs.Ytdknfhpconfhkaa
open Go.RowKit

theorem foldl_max_ge' (l : List Int) (a : Int) : a ≤ l.foldl max a ∧ ∀ x ∈ l, x ≤ l.foldl max a := by
  induction l generalizing a with
  | nil => simp
  | cons y l ih =>
    obtain ⟨h1, h2⟩ := ih (max a y)
    simp only [List.foldl_cons]
    refine ⟨by omega, fun x hx => ?_⟩
    rcases List.mem_cons.1 hx with rfl | hx
    · omega
    · exact h2 x hx
theorem lmax_ge (l : List Int) : ∀ x ∈ l, x ≤ lmax l := (foldl_max_ge' l _).2
/-- The place of the greatest of the first numbers, the first of them. -/
def bestTo (S : List Int) : Nat → Nat
  | 0 => 0
  | k + 1 => if S.getD (bestTo S k) 0 < S.getD k 0 then k else bestTo S k
theorem bestTo_bd (S : List Int) (k : Nat) : bestTo S k ≤ k - 1 := by
  induction k with
  | zero => simp [bestTo]
  | succ k ih => rw [bestTo]; split <;> omega
theorem bestTo_spec {S : List Int} {k : Nat} (h1 : 1 ≤ k) (hk : k ≤ S.length) : S.getD (bestTo S k) 0 = lmax (S.take k) ∧ ∀ j, j < bestTo S k → S.getD j 0 < lmax (S.take k) := by
  induction k with
  | zero => omega
  | succ k ih =>
    have hx : S[k]? = some S[k] := List.getElem?_eq_getElem (by omega)
    have hd : S.getD k 0 = S[k] := by rw [List.getD_eq_getElem?_getD, hx]; rfl
    by_cases h0 : k = 0
    · subst h0
      rw [bestTo, bestTo]
      rw [if_neg (by omega), lmax_one hx]
      exact ⟨hd, fun j hj => by omega⟩
    · obtain ⟨a, b⟩ := ih (by omega) (by omega)
      rw [lmax_succ (by omega) hx, bestTo]
      split
      · rename_i hlt
        rw [a, hd] at hlt
        refine ⟨by rw [hd]; omega, fun j hj => ?_⟩
        have hle : S.getD j 0 ≤ lmax (S.take k) := by
          have hjx : S[j]? = some S[j] := List.getElem?_eq_getElem (by omega)
          have hm : S[j] ∈ S.take k := by rw [List.mem_take_iff_getElem]; exact ⟨j, by omega, rfl⟩
          rw [List.getD_eq_getElem?_getD, hjx]
          exact (lmax_ge _) _ hm
        omega
      · rename_i hlt
        rw [a, hd] at hlt
        refine ⟨by rw [a]; omega, fun j hj => ?_⟩
        have := b j hj
        omega

/-- What Keys carries from block to block: the last key, how often it was heard, and the keys so far. -/
def pst (ks : List Int) : Nat → Int × Int × List Int
  | 0 => (-1, 0, [])
  | i + 1 =>
    if ks.getD i 0 = (pst ks i).1 then ((pst ks i).1, (pst ks i).2.1 + 1, if (pst ks i).2.1 + 1 = 2 ∧ 0 ≤ ks.getD i 0 then (pst ks i).2.2 ++ [ks.getD i 0] else (pst ks i).2.2)
    else (ks.getD i 0, 1, (pst ks i).2.2)
/-- A run begins at i. -/
def Bd (ks : List Int) (i : Nat) : Prop := ks.getD i 0 ≠ (pst ks i).1 ∨ (pst ks i).2.1 = 0
theorem pst_run {ks : List Int} {i : Nat} {x : Int} {out : List Int} (hb : Bd ks i) (ho : (pst ks i).2.2 = out) (t : Nat) (ht : 1 ≤ t) (h : ∀ s, s < t → ks.getD (i + s) 0 = x) : pst ks (i + t) = (x, (t : Int), if 2 ≤ t ∧ 0 ≤ x then out ++ [x] else out) := by
  induction t with
  | zero => omega
  | succ t ih =>
    by_cases h0 : t = 0
    · subst h0
      have hx : ks.getD i 0 = x := by have := h 0 (by omega); simpa using this
      rw [show i + (0 + 1) = i + 1 from rfl, pst, hx]
      rcases hb with hb | hb
      · rw [if_neg (by rw [← hx]; exact hb), ho]; simp
      · by_cases he : x = (pst ks i).1
        · rw [if_pos he, hb, ho, ← he]; simp
        · rw [if_neg he, ho]; simp
    · have hx : ks.getD (i + t) 0 = x := h t (by omega)
      rw [show i + (t + 1) = (i + t) + 1 from rfl, pst, ih (by omega) (fun s hs => h s (by omega)), hx]
      dsimp only
      rw [if_pos rfl]
      by_cases h1 : t = 1
      · subst h1
        by_cases hn : 0 ≤ x <;> simp [hn]
      · rw [if_neg (by omega)]
        by_cases hn : 0 ≤ x
        · rw [if_pos ⟨by omega, hn⟩, if_pos ⟨by omega, hn⟩]; simp
        · rw [if_neg (fun h => hn h.2), if_neg (fun h => hn h.2)]; simp
theorem pst_next {ks : List Int} {i t : Nat} {x : Int} {out : List Int} (h : pst ks (i + t) = (x, (t : Int), out)) (hd : ks.getD (i + t) 0 ≠ x) : Bd ks (i + t) := by
  left; rw [h]; exact hd
end Go.Proofs.Ytdknfhpconfhkaa

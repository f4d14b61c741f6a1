/- Contract of shapeOf: lemmas. Conditions: none. -/
import Derived.Test.YtkkpioinccoinaaDoorRefPat2
namespace Go.Proofs.YtkkpioinccoinaaDoor
open Go.RowKit

theorem mem_tail_of {l : List Nat} (h : l.headD 0 = 91) (h0 : l ≠ []) : l = 91 :: l.tail := by
  cases l with
  | nil => exact absurd rfl h0
  | cons a l => simp at h; rw [h]; rfl
theorem idx_brk {l : List Nat} (h : l.headD 0 = 91) (h0 : l ≠ []) : idxL l 93 = if 93 ∈ l.tail then (((l.tail.takeWhile (· != 93)).length + 1 : Nat) : Int) else -1 := by
  cases l with
  | nil => exact absurd rfl h0
  | cons a t =>
    have ha : a = 91 := h
    subst ha
    show idxL (91 :: t) 93 = if 93 ∈ t then (((t.takeWhile (· != 93)).length + 1 : Nat) : Int) else -1
    unfold idxL
    have e : (93 ∈ (91 :: t)) ↔ 93 ∈ t := by simp
    by_cases hm : 93 ∈ t
    · rw [if_pos (e.2 hm), if_pos hm]; rfl
    · rw [if_neg (fun h => hm (e.1 h)), if_neg hm]
theorem drop_brk {l : List Nat} (h : 93 ∈ l) : ∃ r, l = l.takeWhile (· != 93) ++ 93 :: r := by
  induction l with
  | nil => cases h
  | cons a l ih =>
    by_cases ha : a = 93
    · subst ha; exact ⟨l, by simp⟩
    · have : 93 ∈ l := by simpa [Ne.symm ha] using h
      obtain ⟨r, hr⟩ := ih this
      refine ⟨r, ?_⟩
      have hb : (a != 93) = true := by simpa using ha
      rw [List.takeWhile_cons, hb]
      simp only [if_true, List.cons_append]
      rw [← hr]
theorem take_brk {l : List Nat} (h : l.headD 0 = 91) (h0 : l ≠ []) (hm : 93 ∈ l.tail) : l.take ((l.tail.takeWhile (· != 93)).length + 2) = [91] ++ l.tail.takeWhile (· != 93) ++ [93] := by
  obtain ⟨r, hr⟩ := drop_brk hm
  conv => lhs; rw [mem_tail_of h h0]
  simp only [List.tail_cons]
  rw [List.take_succ_cons]
  conv => lhs; arg 2; arg 2; rw [hr]
  rw [List.take_append, List.take_of_length_le (by omega)]
  simp
theorem fnd_some {b : List Nat} {M : Nat} (h : setM b = some M) : fndS ([91] ++ b ++ [93]) = setStr M := by
  obtain ⟨N, hN⟩ : ∃ N, N = 1024 := ⟨_, rfl⟩
  have h1 := (setM_findN b N hN).1
  have h2 := (setM_findN b N hN).2 M h
  unfold fndS
  rw [← hN, h1, h]
  show setS (M / 4) = setStr M
  have h3 := (psL_bd (setM_some h).1).2
  have := setStr_four ⟨M / 4, by omega⟩
  dsimp only at this
  rw [← this]
  congr 1
  omega
theorem fnd_none {b : List Nat} (h : setM b = none) : fndS ([91] ++ b ++ [93]) = [] := by
  obtain ⟨N, hN⟩ : ∃ N, N = 1024 := ⟨_, rfl⟩
  have h1 := (setM_findN b N hN).1
  unfold fndS
  rw [← hN, h1, h]
  rfl
theorem setStr_bd (M : Nat) : ∀ b ∈ setStr M, b < 256 := fun b hb => sgn_lt (mem_setStr.1 hb).1
theorem setStr_len (M : Nat) : (setStr M).length ≤ 12 := by unfold setStr; exact List.length_filter_le _ _
theorem elem_ne {l : List Nat} {M k : Nat} (h : elemL l = some (M, k)) : setStr M ≠ [] := by
  have key : ∀ c ∈ sgn, hasM M c = true → setStr M ≠ [] := by
    intro c hc hh e
    have : c ∈ setStr M := mem_setStr.2 ⟨hc, hh⟩
    rw [e] at this; cases this
  unfold elemL at h
  split at h
  · injection h with h; injection h with h1 h2; rw [← h1, setStr_X.1]; decide
  · split at h
    · injection h with h; injection h with h1 h2; rw [← h1, setStr_X.2.1]; decide
    · split at h
      · injection h with h; injection h with h1 h2; rw [← h1, setStr_X.2.2]; decide
      · split at h
        · split at h
          · cases hs : setM (l.tail.takeWhile (· != 93)) with
            | none => rw [hs] at h; cases h
            | some M' =>
              rw [hs] at h
              injection h with h; injection h with h1 h2
              subst h1
              obtain ⟨h3, h4, _⟩ := setM_some hs
              have hM0 : M' ≠ 0 := by rintro rfl; revert h4; decide
              obtain ⟨c, hc, hh⟩ := find_zero (psL_bd h3).2 hM0
              exact key c hc hh
          · cases h
        · split at h
          · rename_i hm
            injection h with h; injection h with h1 h2
            rw [← h1, setStr_only _ hm]
            simp
          · cases h
def sv (M : Nat) : Value := .string (strN (setStr M))
/-- What shapeOf answers. -/
def IsShp (lo : Nat) (l : List Nat) (v : Value) (w : World) : Prop :=
  (∃ (x : List Nat × Nat) (A : Option Addr) (n c : Nat), shpL l = some x ∧ v = .tuple #[.agg #[.slice A n c, .int .u8 x.2], .bool true] ∧ Own w lo 9 1 A n c (x.1.map sv) ∧ x.1.length ≤ 30) ∨
  (shpL l = none ∧ ∃ (A : Option Addr) (n c t : Nat), v = .tuple #[.agg #[.slice A n c, .int .u8 t], .bool false])
def ShpRel (w wr : World) (l : List Nat) (t : ByteArray) (f : Nat) (S : List Nat) (A : Option Addr) (n c : Nat) : Prop :=
  Blk wr w.heap.size 100 #[.slice none 0 0, .int .u8 0] ∧ Blk wr (w.heap.size + 1) 100 #[.slice A n c, .int .u8 0] ∧
  Own wr w.heap.size 9 1 A n c (S.map sv) ∧ w.grownBy wr none ∧ S.length = n ∧ shpF f (nb t) S = shpF (l.length + 1) l []
def ShpLoop (w : World) (l : List Nat) (v : Value) (wr : World) : Prop := ∃ (t : ByteArray) (f : Nat) (S : List Nat) (A : Option Addr) (n c : Nat), v = .string t ∧ t.size + 1 ≤ f ∧ n + t.size ≤ 60 ∧ ShpRel w wr l t f S A n c
theorem Tryd.strT : ElemT Tryd.prog 64 9 1 16 (.string ⟨#[]⟩) := elemT_of Tryd.underlying64 (by kernel_rfl) rfl (by decide)
theorem Tryd.shpT : StructT Tryd.prog 100 2 := ⟨_, Tryd.underlying100, rfl, by kernel_rfl⟩
/-- What an element stands for, and how long it is, by its first byte. -/
theorem elem_sg {l : List Nat} {c M k : Nat} (hl : l.headD 0 = c) (h : c ∈ sgn) (he : elemL l = some (M, k)) : setStr M = [c] ∧ k = 1 := by
  have h1 := elR_sg l c hl h
  rw [elR_some he] at h1
  injection h1 with h1 h2
  rw [h1, setStr_only c h]
  exact ⟨rfl, h2⟩
theorem elem_X {l : List Nat} {M k : Nat} (hl : l.headD 0 = 88) (he : elemL l = some (M, k)) : setStr M = dgs ∧ k = 1 := by
  have h1 := elR_x l hl
  rw [elR_some he] at h1
  injection h1 with h1 h2
  rw [h1]; exact ⟨setStr_X.1, h2⟩
theorem elem_Z {l : List Nat} {M k : Nat} (hl : l.headD 0 = 90) (he : elemL l = some (M, k)) : setStr M = dgs.drop 1 ∧ k = 1 := by
  have h1 := elR_z l hl
  rw [elR_some he] at h1
  injection h1 with h1 h2
  rw [h1]; exact ⟨setStr_X.2.1, h2⟩
theorem elem_N {l : List Nat} {M k : Nat} (hl : l.headD 0 = 78) (he : elemL l = some (M, k)) : setStr M = dgs.drop 2 ∧ k = 1 := by
  have h1 := elR_n l hl
  rw [elR_some he] at h1
  injection h1 with h1 h2
  rw [h1]; exact ⟨setStr_X.2.2, h2⟩
theorem elem_B {l : List Nat} {M k : Nat} (hl : l.headD 0 = 91) (h0 : l ≠ []) (he : elemL l = some (M, k)) : idxL l 93 = ((k - 1 : Nat) : Int) ∧ 2 ≤ k ∧ fndS (l.take k) = setStr M := by
  unfold elemL at he
  rw [if_neg (by omega), if_neg (by omega), if_neg (by omega), if_pos hl] at he
  split at he
  · rename_i hm
    cases hs : setM (l.tail.takeWhile (· != 93)) with
    | none => rw [hs] at he; cases he
    | some M' =>
      rw [hs] at he
      injection he with he; injection he with h1 h2
      subst h1; subst h2
      refine ⟨by rw [idx_brk hl h0, if_pos hm]; rfl, by omega, ?_⟩
      rw [take_brk hl h0 hm, fnd_some hs]
  · cases he
theorem elem_Bno {l : List Nat} (hl : l.headD 0 = 91) (h0 : l ≠ []) (he : elemL l = none) : idxL l 93 = -1 ∨ ∃ k : Nat, idxL l 93 = (k : Int) ∧ k < l.length ∧ fndS (l.take (k + 1)) = [] := by
  unfold elemL at he
  rw [if_neg (by omega), if_neg (by omega), if_neg (by omega), if_pos hl] at he
  split at he
  · rename_i hm
    cases hs : setM (l.tail.takeWhile (· != 93)) with
    | none =>
      refine .inr ⟨_, by rw [idx_brk hl h0, if_pos hm], ?_, ?_⟩
      · have := takeWhile_len hm
        rw [List.length_tail] at this
        omega
      · rw [take_brk hl h0 hm, fnd_none hs]
    | some M' => rw [hs] at he; cases he
  · rename_i hm
    exact .inl (by rw [idx_brk hl h0, if_neg hm])
theorem elem_head {l : List Nat} {c M k : Nat} (hl : l.headD 0 = c) (he : elemL l = some (M, k)) : c ∈ sgn ∨ c = 88 ∨ c = 90 ∨ c = 78 ∨ c = 91 := by
  subst hl
  unfold elemL at he
  split at he
  · omega
  · split at he
    · omega
    · split at he
      · omega
      · split at he
        · omega
        · split at he
          · exact .inl (by assumption)
          · cases he
end Go.Proofs.YtkkpioinccoinaaDoor

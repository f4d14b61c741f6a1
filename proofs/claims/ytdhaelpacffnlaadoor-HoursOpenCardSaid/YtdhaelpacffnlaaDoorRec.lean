/- Laws on slices whose elements are structs of several cells: read, stored, appended. Over any program. Conditions: none. -/
import Derived.Test.YtdhaelpacffnlaaDoorStruct
import Derived.Laws.CopyRow
namespace Go.Proofs.YtdhaelpacffnlaaDoor
open Go.RowKit

/-! Rows of k cells, one behind the other. -/
section
variable {α : Type} {row : α → List Value} {k : Nat}
theorem flat_len (hrow : ∀ a, (row a).length = k) (l : List α) : (l.flatMap row).length = l.length * k := by
  induction l with
  | nil => simp
  | cons a l ih => simp [List.flatMap_cons, hrow, ih, Nat.succ_mul]; omega
theorem flat_get (hrow : ∀ a, (row a).length = k) (l : List α) (i j : Nat) (hj : j < k) : (l.flatMap row)[i * k + j]? = (l[i]?).bind fun a => (row a)[j]? := by
  induction l generalizing i with
  | nil => simp
  | cons a l ih =>
    rw [List.flatMap_cons]
    cases i with
    | zero => rw [List.getElem?_append_left (by rw [hrow]; omega)]; simp
    | succ i =>
      rw [List.getElem?_append_right (by rw [hrow, Nat.succ_mul]; omega), hrow, show (i + 1) * k + j - k = i * k + j by rw [Nat.succ_mul]; omega, ih]
      simp
theorem flat_ext (hrow : ∀ a, (row a).length = k) (hk : 0 < k) {l : List α} {xs : List Value} (hl : xs.length = l.length * k) (h : ∀ i j a, l[i]? = some a → j < k → xs[i * k + j]? = (row a)[j]?) : xs = l.flatMap row := by
  apply List.ext_getElem?
  intro q
  have hq : q = q / k * k + q % k := by rw [Nat.mul_comm]; exact (Nat.div_add_mod q k).symm
  have hm := Nat.mod_lt q hk
  generalize hi : q / k = i at hq hm
  generalize hjq : q % k = j at hq hm
  subst hq
  rw [flat_get hrow l i j hm]
  cases hli : l[i]? with
  | none =>
    have hle : l.length ≤ i := List.getElem?_eq_none_iff.1 hli
    have : l.length * k ≤ i * k := Nat.mul_le_mul_right _ hle
    rw [List.getElem?_eq_none (by omega)]; rfl
  | some a => rw [h i j a hli hm]; rfl
theorem flat_set (hrow : ∀ a, (row a).length = k) (hk : 0 < k) {l : List α} {i : Nat} {a a' : α} (hi : l[i]? = some a) {ys : List Value} (j : Nat) (hj : j + ys.length ≤ k) (hr : row a' = (row a).take j ++ ys ++ (row a).drop (j + ys.length)) :
    (l.flatMap row).take (i * k + j) ++ ys ++ (l.flatMap row).drop (i * k + j + ys.length) = (l.set i a').flatMap row := by
  have hlen := flat_len hrow l
  have hil : i < l.length := (List.getElem?_eq_some_iff.1 hi).1
  have hik : i * k + k ≤ l.length * k := by have := Nat.mul_le_mul_right k (show i + 1 ≤ l.length by omega); rw [Nat.succ_mul] at this; exact this
  refine flat_ext hrow hk (by simp [hlen]; omega) ?_
  intro p q b hb hq
  have hra := hrow a
  rw [List.getElem?_set] at hb
  by_cases hip : i = p
  · subst hip
    rw [if_pos rfl, if_pos hil] at hb
    injection hb with hb
    subst hb
    rw [hr]
    by_cases h1 : q < j
    · rw [List.append_assoc, List.append_assoc, List.getElem?_append_left (by simp [hlen]; omega), List.getElem?_append_left (by simp [hra]; omega), List.getElem?_take, List.getElem?_take, if_pos (by omega), if_pos h1, flat_get hrow l i q hq, hi]
      rfl
    · by_cases h2 : q < j + ys.length
      · rw [List.getElem?_append_left (by simp [hlen]; omega), List.getElem?_append_right (by simp [hlen]; omega), List.getElem?_append_left (by simp [hra]; omega), List.getElem?_append_right (by simp [hra]; omega)]
        simp only [List.length_take, hlen, hra]
        congr 1
        omega
      · rw [List.getElem?_append_right (by simp [hlen]; omega), List.getElem?_append_right (by simp [hra]; omega), List.getElem?_drop, List.getElem?_drop]
        simp only [List.length_take, List.length_append, hlen, hra]
        rw [show i * k + j + ys.length + (i * k + q - (min (i * k + j) (l.length * k) + ys.length)) = i * k + q by omega, flat_get hrow l i q hq, hi]
        show (row a)[q]? = _
        congr 1
        omega
  · rw [if_neg hip] at hb
    have h0 : (l.flatMap row)[p * k + q]? = (row b)[q]? := by rw [flat_get hrow l p q hq, hb]; rfl
    rw [← h0]
    rcases Nat.lt_or_gt_of_ne hip with h1 | h1
    · have : (i + 1) * k ≤ p * k := Nat.mul_le_mul_right k h1
      rw [Nat.succ_mul] at this
      rw [List.getElem?_append_right (by simp [hlen]; omega), List.getElem?_drop]
      simp only [List.length_take, List.length_append, hlen]
      congr 1
      omega
    · have : (p + 1) * k ≤ i * k := Nat.mul_le_mul_right k h1
      rw [Nat.succ_mul] at this
      rw [List.append_assoc, List.getElem?_append_left (by simp [hlen]; omega), List.getElem?_take, if_pos (by omega)]
end

/-! Loads of structs that lie anywhere. -/
section
variable {P : Program} {w : World} {o : Oper} {a : Act} {K : Act → World → Prop} {Q : Exit → Act → World → Prop} {ops : Array Oper} {rest : List Oper}
theorem run_load_at {ty : TypeId} {n : Nat} (T : StructT P ty n) {p : Addr} {cs : List Value} (hn : cs.length = n) (hc : ∀ j u, cs[j]? = some u → w.cell? (p.add j) = some u) :
    (loadVar ty p).run P w = .ok (.agg cs.toArray) w := by
  obtain ⟨d, hu, hd, hi⟩ := T
  have hl := run_loadCells_list (P := P) w p cs hc
  cases hq : P.info? ty with
  | none => simp [hq] at hi
  | some i =>
    have hs : i.size = n := by simpa [hq] using hi
    have hagg : (isAgg ty).run P w = .ok true w := by
      unfold isAgg
      rw [Sem.run_bind, run_underlying hu w]
      cases d <;> simp_all
    rw [hn] at hl
    simp [loadVar, Sem.run_bind, hagg, sizeOf, typeInfo, hq, hs, hl]
theorem wp_load_at {ty : TypeId} {n : Nat} (T : StructT P ty n) (x : Operand) (ho : o.op = .load ty x) (p : Addr) (hx : a.eval x = .pointer (some p)) (cs : List Value) (hn : cs.length = n) (hc : ∀ j u, cs[j]? = some u → w.cell? (p.add j) = some u)
    (h : K (a.put o.dst (.agg cs.toArray)) w) : o.wp P a w K Q := by
  unfold Oper.wp execOp
  simp only [ho, hx, Instr.loadAt, Instr.sureAddr, Sem.run_bind, Sem.run_pure, Result.andThen_ok, run_load_at T hn hc]
  exact h
/-- A struct that lies somewhere, loaded whole. -/
theorem wpl_load_at {ty : TypeId} {n : Nat} (T : StructT P ty n) (hgd : o.guard = none) (x : Operand) (ho : o.op = .load ty x) (p : Addr) (hx : a.eval x = .pointer (some p)) (cs : List Value) (hn : cs.length = n) (hc : ∀ j u, cs[j]? = some u → w.cell? (p.add j) = some u)
    (h : wpList P ops Q rest (a.put o.dst (.agg cs.toArray)) w) : wpList P ops Q (o :: rest) a w :=
  wpList_plain hgd fun _ hK => wp_load_at T x ho p hx cs hn hc (hK _ _ h)
end

/-- A slice of structs that reads as a list of records, each of k cells. -/
def Recs {α : Type} (row : α → List Value) (k : Nat) (w : World) (lo : Nat) (A : Option Addr) (n c : Nat) (l : List α) : Prop := Reads w lo k A n c (l.flatMap row) ∧ l.length = n
section
variable {α : Type} {row : α → List Value} {k : Nat} {w w' : World} {lo lo' n c : Nat} {A : Option Addr} {l : List α}
theorem Recs.len (h : Recs row k w lo A n c l) : l.length = n := h.2
theorem Recs.cap (h : Recs row k w lo A n c l) : n ≤ c := h.1.2.1
theorem Recs.lower (h : Recs row k w lo A n c l) (hB : lo' ≤ lo) : Recs row k w lo' A n c l := ⟨h.1.lower hB, h.2⟩
theorem Recs.grown (h : Recs row k w lo A n c l) {r : Option Nat} (hg : w.grownBy w' r) (hr : ∀ g, r = some g → g < lo) : Recs row k w' lo A n c l := ⟨h.1.grown hg hr, h.2⟩
theorem Recs.get {i : Nat} (h : Recs row k w lo A n c l) (hrow : ∀ a, (row a).length = k) (hi : i < n) : ∃ g o a, A = some ⟨g, o, none⟩ ∧ lo ≤ g ∧ g < w.heap.size ∧ l[i]? = some a ∧
    ∀ j u, (row a)[j]? = some u → w.cell? ⟨g, o + i * k + j, none⟩ = some u := by
  obtain ⟨g, o, e, h1, h2, h3⟩ := h.1.2.2 (by omega)
  have hl : i < l.length := by rw [h.2]; exact hi
  refine ⟨g, o, l[i], e, h1, h2, List.getElem?_eq_getElem hl, fun j u hu => ?_⟩
  have hj : j < k := by have := (List.getElem?_eq_some_iff.1 hu).1; rw [hrow] at this; exact this
  rw [Nat.add_assoc]
  refine h3 (i * k + j) u ?_
  rw [flat_get hrow l i j hj, List.getElem?_eq_getElem hl]
  exact hu
theorem Recs.at_ {g o i : Nat} {a : α} (h : Recs row k w lo (some ⟨g, o, none⟩) n c l) (hrow : ∀ a, (row a).length = k) (hi : l[i]? = some a) : ∀ j u, (row a)[j]? = some u → w.cell? ⟨g, o + i * k + j, none⟩ = some u := by
  have hl := (List.getElem?_eq_some_iff.1 hi).1
  obtain ⟨g', o', a', e, _, _, h1, h2⟩ := h.get hrow (show i < n by rw [← h.2]; exact hl)
  injection e with e
  injection e with e1 e2
  subst e1; subst e2
  rw [hi] at h1
  injection h1 with h1
  subst h1
  exact h2
theorem Recs.at0 {g o : Nat} {a : α} (h : Recs row k w lo (some ⟨g, o, none⟩) n c l) (hrow : ∀ a, (row a).length = k) (hi : l[0]? = some a) : ∀ j u, (row a)[j]? = some u → w.cell? ⟨g, o + j, none⟩ = some u := by
  have := h.at_ hrow hi
  simpa using this
theorem Recs.nil : Recs row k w lo A 0 c [] := ⟨Reads.none_, rfl⟩
end
end Go.Proofs.YtdhaelpacffnlaaDoor

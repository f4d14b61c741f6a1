/- Laws on slices whose elements are structs of several cells: read, stored, appended. Over any program. Conditions: none. -/
import Derived.Test.YtdhaelpacffnlaaGreatDoorBun1
import Derived.Laws.CopyRow
import Derived.Laws.BytesString
import Derived.Lib.BufferRead
import Derived.OrdersHeld
import Derived.StillTail
import Derived.Tactics
import Derived.Lib.Bytealg
import Derived.Laws.Cover1
import Derived.Laws.Runes
namespace Go.Proofs.YtdhaelpacffnlaaGreatDoor
section
open Go.RowKit

/-! Rows of k cells, one behind the other. -/
section
variable {α : Type} {row : α → List Value} {k : Nat}
theorem flat_len (hrow : ∀ a, (row a).length = k) (l : List α) : (l.flatMap row).length = l.length * k := by
  induction l with
  | nil => simp
  | cons a l ih => simp [List.flatMap_cons, hrow, ih, Nat.succ_mul]; omega
theorem flat_get (hrow : ∀ a, (row a).length = k) (l : List α) (i j : Nat) (hj : j < k) : (l.flatMap row)[i * k + j]? = (l[i]?).bind fun a => (row a)[j]? := by
  induction l generalizing i with
  | nil => simp
  | cons a l ih =>
    rw [List.flatMap_cons]
    cases i with
    | zero => rw [List.getElem?_append_left (by rw [hrow]; omega)]; simp
    | succ i =>
      rw [List.getElem?_append_right (by rw [hrow, Nat.succ_mul]; omega), hrow, show (i + 1) * k + j - k = i * k + j by rw [Nat.succ_mul]; omega, ih]
      simp
theorem flat_ext (hrow : ∀ a, (row a).length = k) (hk : 0 < k) {l : List α} {xs : List Value} (hl : xs.length = l.length * k) (h : ∀ i j a, l[i]? = some a → j < k → xs[i * k + j]? = (row a)[j]?) : xs = l.flatMap row := by
  apply List.ext_getElem?
  intro q
  have hq : q = q / k * k + q % k := by rw [Nat.mul_comm]; exact (Nat.div_add_mod q k).symm
  have hm := Nat.mod_lt q hk
  generalize hi : q / k = i at hq hm
  generalize hjq : q % k = j at hq hm
  subst hq
  rw [flat_get hrow l i j hm]
  cases hli : l[i]? with
  | none =>
    have hle : l.length ≤ i := List.getElem?_eq_none_iff.1 hli
    have : l.length * k ≤ i * k := Nat.mul_le_mul_right _ hle
    rw [List.getElem?_eq_none (by omega)]; rfl
  | some a => rw [h i j a hli hm]; rfl
theorem flat_set (hrow : ∀ a, (row a).length = k) (hk : 0 < k) {l : List α} {i : Nat} {a a' : α} (hi : l[i]? = some a) {ys : List Value} (j : Nat) (hj : j + ys.length ≤ k) (hr : row a' = (row a).take j ++ ys ++ (row a).drop (j + ys.length)) :
    (l.flatMap row).take (i * k + j) ++ ys ++ (l.flatMap row).drop (i * k + j + ys.length) = (l.set i a').flatMap row := by
  have hlen := flat_len hrow l
  have hil : i < l.length := (List.getElem?_eq_some_iff.1 hi).1
  have hik : i * k + k ≤ l.length * k := by have := Nat.mul_le_mul_right k (show i + 1 ≤ l.length by omega); rw [Nat.succ_mul] at this; exact this
  refine flat_ext hrow hk (by simp [hlen]; omega) ?_
  intro p q b hb hq
  have hra := hrow a
  rw [List.getElem?_set] at hb
  by_cases hip : i = p
  · subst hip
    rw [if_pos rfl, if_pos hil] at hb
    injection hb with hb
    subst hb
    rw [hr]
    by_cases h1 : q < j
    · rw [List.append_assoc, List.append_assoc, List.getElem?_append_left (by simp [hlen]; omega), List.getElem?_append_left (by simp [hra]; omega), List.getElem?_take, List.getElem?_take, if_pos (by omega), if_pos h1, flat_get hrow l i q hq, hi]
      rfl
    · by_cases h2 : q < j + ys.length
      · rw [List.getElem?_append_left (by simp [hlen]; omega), List.getElem?_append_right (by simp [hlen]; omega), List.getElem?_append_left (by simp [hra]; omega), List.getElem?_append_right (by simp [hra]; omega)]
        simp only [List.length_take, hlen, hra]
        congr 1
        omega
      · rw [List.getElem?_append_right (by simp [hlen]; omega), List.getElem?_append_right (by simp [hra]; omega), List.getElem?_drop, List.getElem?_drop]
        simp only [List.length_take, List.length_append, hlen, hra]
        rw [show i * k + j + ys.length + (i * k + q - (min (i * k + j) (l.length * k) + ys.length)) = i * k + q by omega, flat_get hrow l i q hq, hi]
        show (row a)[q]? = _
        congr 1
        omega
  · rw [if_neg hip] at hb
    have h0 : (l.flatMap row)[p * k + q]? = (row b)[q]? := by rw [flat_get hrow l p q hq, hb]; rfl
    rw [← h0]
    rcases Nat.lt_or_gt_of_ne hip with h1 | h1
    · have : (i + 1) * k ≤ p * k := Nat.mul_le_mul_right k h1
      rw [Nat.succ_mul] at this
      rw [List.getElem?_append_right (by simp [hlen]; omega), List.getElem?_drop]
      simp only [List.length_take, List.length_append, hlen]
      congr 1
      omega
    · have : (p + 1) * k ≤ i * k := Nat.mul_le_mul_right k h1
      rw [Nat.succ_mul] at this
      rw [List.append_assoc, List.getElem?_append_left (by simp [hlen]; omega), List.getElem?_take, if_pos (by omega)]
end

/-! Loads of structs that lie anywhere. -/
section
variable {P : Program} {w : World} {o : Oper} {a : Act} {K : Act → World → Prop} {Q : Exit → Act → World → Prop} {ops : Array Oper} {rest : List Oper}
theorem run_load_at {ty : TypeId} {n : Nat} (T : StructT P ty n) {p : Addr} {cs : List Value} (hn : cs.length = n) (hc : ∀ j u, cs[j]? = some u → w.cell? (p.add j) = some u) :
    (loadVar ty p).run P w = .ok (.agg cs.toArray) w := by
  obtain ⟨d, hu, hd, hi⟩ := T
  have hl := run_loadCells_list (P := P) w p cs hc
  cases hq : P.info? ty with
  | none => simp [hq] at hi
  | some i =>
    have hs : i.size = n := by simpa [hq] using hi
    have hagg : (isAgg ty).run P w = .ok true w := by
      unfold isAgg
      rw [Sem.run_bind, run_underlying hu w]
      cases d <;> simp_all
    rw [hn] at hl
    simp [loadVar, Sem.run_bind, hagg, sizeOf, typeInfo, hq, hs, hl]
theorem wp_load_at {ty : TypeId} {n : Nat} (T : StructT P ty n) (x : Operand) (ho : o.op = .load ty x) (p : Addr) (hx : a.eval x = .pointer (some p)) (cs : List Value) (hn : cs.length = n) (hc : ∀ j u, cs[j]? = some u → w.cell? (p.add j) = some u)
    (h : K (a.put o.dst (.agg cs.toArray)) w) : o.wp P a w K Q := by
  unfold Oper.wp execOp
  simp only [ho, hx, Instr.loadAt, Instr.sureAddr, Sem.run_bind, Sem.run_pure, Result.andThen_ok, run_load_at T hn hc]
  exact h
/-- A struct that lies somewhere, loaded whole. -/
theorem wpl_load_at {ty : TypeId} {n : Nat} (T : StructT P ty n) (hgd : o.guard = none) (x : Operand) (ho : o.op = .load ty x) (p : Addr) (hx : a.eval x = .pointer (some p)) (cs : List Value) (hn : cs.length = n) (hc : ∀ j u, cs[j]? = some u → w.cell? (p.add j) = some u)
    (h : wpList P ops Q rest (a.put o.dst (.agg cs.toArray)) w) : wpList P ops Q (o :: rest) a w :=
  wpList_plain hgd fun _ hK => wp_load_at T x ho p hx cs hn hc (hK _ _ h)
end

/-- A slice of structs that reads as a list of records, each of k cells. -/
def Recs {α : Type} (row : α → List Value) (k : Nat) (w : World) (lo : Nat) (A : Option Addr) (n c : Nat) (l : List α) : Prop := Reads w lo k A n c (l.flatMap row) ∧ l.length = n
section
variable {α : Type} {row : α → List Value} {k : Nat} {w w' : World} {lo lo' n c : Nat} {A : Option Addr} {l : List α}
theorem Recs.len (h : Recs row k w lo A n c l) : l.length = n := h.2
theorem Recs.cap (h : Recs row k w lo A n c l) : n ≤ c := h.1.2.1
theorem Recs.lower (h : Recs row k w lo A n c l) (hB : lo' ≤ lo) : Recs row k w lo' A n c l := ⟨h.1.lower hB, h.2⟩
theorem Recs.grown (h : Recs row k w lo A n c l) {r : Option Nat} (hg : w.grownBy w' r) (hr : ∀ g, r = some g → g < lo) : Recs row k w' lo A n c l := ⟨h.1.grown hg hr, h.2⟩
theorem Recs.get {i : Nat} (h : Recs row k w lo A n c l) (hrow : ∀ a, (row a).length = k) (hi : i < n) : ∃ g o a, A = some ⟨g, o, none⟩ ∧ lo ≤ g ∧ g < w.heap.size ∧ l[i]? = some a ∧
    ∀ j u, (row a)[j]? = some u → w.cell? ⟨g, o + i * k + j, none⟩ = some u := by
  obtain ⟨g, o, e, h1, h2, h3⟩ := h.1.2.2 (by omega)
  have hl : i < l.length := by rw [h.2]; exact hi
  refine ⟨g, o, l[i], e, h1, h2, List.getElem?_eq_getElem hl, fun j u hu => ?_⟩
  have hj : j < k := by have := (List.getElem?_eq_some_iff.1 hu).1; rw [hrow] at this; exact this
  rw [Nat.add_assoc]
  refine h3 (i * k + j) u ?_
  rw [flat_get hrow l i j hj, List.getElem?_eq_getElem hl]
  exact hu
theorem Recs.at_ {g o i : Nat} {a : α} (h : Recs row k w lo (some ⟨g, o, none⟩) n c l) (hrow : ∀ a, (row a).length = k) (hi : l[i]? = some a) : ∀ j u, (row a)[j]? = some u → w.cell? ⟨g, o + i * k + j, none⟩ = some u := by
  have hl := (List.getElem?_eq_some_iff.1 hi).1
  obtain ⟨g', o', a', e, _, _, h1, h2⟩ := h.get hrow (show i < n by rw [← h.2]; exact hl)
  injection e with e
  injection e with e1 e2
  subst e1; subst e2
  rw [hi] at h1
  injection h1 with h1
  subst h1
  exact h2
theorem Recs.at0 {g o : Nat} {a : α} (h : Recs row k w lo (some ⟨g, o, none⟩) n c l) (hrow : ∀ a, (row a).length = k) (hi : l[0]? = some a) : ∀ j u, (row a)[j]? = some u → w.cell? ⟨g, o + j, none⟩ = some u := by
  have := h.at_ hrow hi
  simpa using this
theorem Recs.nil : Recs row k w lo A 0 c [] := ⟨Reads.none_, rfl⟩
end
end
end Go.Proofs.YtdhaelpacffnlaaGreatDoor
/- Hours in plain Lean: when they are open, and the moments at which they open or close, counted in two ways. Conditions: none. -/
namespace Go.Proofs.YtdhaelpacffnlaaGreatDoor
section

/-! Open or closed. -/
/-- A day of the week, as bits. -/
def dayB (days wk : Int) : Bool := decide (days / 2 ^ wk.toNat % 2 = 1)
/-- Open in a minute that is counted by the clocks of the place. -/
def openM (rows hol : List (Int × Int × Int)) (M : Int) : Bool :=
  match hol.find? (fun d => d.1 == M / 1440) with
  | some d => decide (d.2.1 ≤ M % 1440) && decide (M % 1440 < d.2.2)
  | none => rows.any fun r => dayB r.1 (M / 1440 % 7) && (decide (r.2.1 ≤ M % 1440) && decide (M % 1440 < r.2.2))
def openAt (zone : Int) (rows hol : List (Int × Int × Int)) (t : Int) : Bool := openM rows hol (t / 60000 + zone)

theorem day_of (z t : Int) : (t + z * 60000) / 86400000 = (t / 60000 + z) / 1440 := by omega
theorem min_of (z t : Int) : (t + z * 60000 - (t + z * 60000) / 86400000 * 86400000) / 60000 = (t / 60000 + z) % 1440 := by omega

theorem find_cong {α : Type} {p q : α → Bool} {l : List α} (h : ∀ a ∈ l, p a = q a) : l.find? p = l.find? q := by
  induction l with
  | nil => rfl
  | cons a l ih => rw [List.find?_cons, List.find?_cons, h a (by simp), ih (fun b hb => h b (by simp [hb]))]
theorem any_cong {α : Type} {p q : α → Bool} {l : List α} (h : ∀ a ∈ l, p a = q a) : l.any p = l.any q := by
  induction l with
  | nil => rfl
  | cons a l ih => rw [List.any_cons, List.any_cons, h a (by simp), ih (fun b hb => h b (by simp [hb]))]
/-- Something changes only at the bounds. -/
theorem open_change {rows hol : List (Int × Int × Int)} {M : Int} (h0 : M % 1440 ≠ 0) (hr : ∀ r ∈ rows, M % 1440 ≠ r.2.1 ∧ M % 1440 ≠ r.2.2) (hh : ∀ r ∈ hol, M % 1440 ≠ r.2.1 ∧ M % 1440 ≠ r.2.2) : openM rows hol (M - 1) = openM rows hol M := by
  have e1 : (M - 1) / 1440 = M / 1440 := by omega
  have e2 : (M - 1) % 1440 = M % 1440 - 1 := by omega
  unfold openM
  rw [e1, e2]
  cases hf : hol.find? (fun d => d.1 == M / 1440) with
  | some d =>
    obtain ⟨a, b⟩ := hh d (List.mem_of_find?_eq_some hf)
    show (decide (d.2.1 ≤ M % 1440 - 1) && decide (M % 1440 - 1 < d.2.2)) = (decide (d.2.1 ≤ M % 1440) && decide (M % 1440 < d.2.2))
    rw [Bool.eq_iff_iff]; simp; omega
  | none =>
    refine any_cong fun r hrm => ?_
    obtain ⟨a, b⟩ := hr r hrm
    congr 1
    rw [Bool.eq_iff_iff]; simp; omega

/-! Two lists that rise and have the same members are one. -/
theorem rise_eq : ∀ {l m : List Int}, l.Pairwise (· < ·) → m.Pairwise (· < ·) → (∀ x, x ∈ l ↔ x ∈ m) → l = m
  | [], [], _, _, _ => rfl
  | [], b :: m, _, _, h => absurd ((h b).2 (by simp)) (by simp)
  | a :: l, [], _, _, h => absurd ((h a).1 (by simp)) (by simp)
  | a :: l, b :: m, hl, hm, h => by
    obtain ⟨l1, l2⟩ := List.pairwise_cons.1 hl
    obtain ⟨m1, m2⟩ := List.pairwise_cons.1 hm
    have e : a = b := by
      rcases List.mem_cons.1 ((h a).1 (by simp)) with e | e
      · exact e
      · rcases List.mem_cons.1 ((h b).2 (by simp)) with e' | e'
        · exact e'.symm
        · have := m1 a e; have := l1 b e'; omega
    subst e
    refine congrArg (a :: ·) (rise_eq l2 m2 fun x => ⟨fun hx => ?_, fun hx => ?_⟩)
    · rcases List.mem_cons.1 ((h x).1 (by simp [hx])) with e | e
      · subst e; have := l1 x hx; omega
      · exact e
    · rcases List.mem_cons.1 ((h x).2 (by simp [hx])) with e | e
      · subst e; have := m1 x hx; omega
      · exact e

/-! The program's way: minute by minute. -/
def visit (fr : Int) : Nat → Int
  | 0 => fr
  | k + 1 => (fr / 60000 + (k + 1 : Nat)) * 60000
theorem visit_succ (fr : Int) (k : Nat) : visit fr k + (60000 - visit fr k % 60000) = visit fr (k + 1) := by
  cases k with
  | zero => show fr + (60000 - fr % 60000) = (fr / 60000 + ((0 + 1 : Nat) : Int)) * 60000; omega
  | succ k => show (fr / 60000 + ((k + 1 : Nat) : Int)) * 60000 + (60000 - (fr / 60000 + ((k + 1 : Nat) : Int)) * 60000 % 60000) = (fr / 60000 + ((k + 1 + 1 : Nat) : Int)) * 60000; omega
theorem visit_lt (fr : Int) (k : Nat) : visit fr k < visit fr (k + 1) := by
  rw [← visit_succ]; omega
theorem visit_mono (fr : Int) {i k : Nat} (h : i < k) : visit fr i < visit fr k := by
  induction k with
  | zero => omega
  | succ k ih =>
    have := visit_lt fr k
    by_cases e : i = k
    · subst e; exact this
    · have := ih (by omega); omega
theorem visit_ge (fr : Int) (k : Nat) : fr + 60000 * k - 60000 ≤ visit fr k := by
  cases k with
  | zero => show _ ≤ fr; omega
  | succ k => show _ ≤ (fr / 60000 + ((k + 1 : Nat) : Int)) * 60000; omega
theorem visit_min (fr : Int) (k : Nat) : visit fr k / 60000 = fr / 60000 + k := by
  cases k with
  | zero => show fr / 60000 = _; omega
  | succ k => show (fr / 60000 + ((k + 1 : Nat) : Int)) * 60000 / 60000 = _; omega
theorem visit_pos (fr : Int) {k : Nat} (h : 0 < k) : visit fr k = (fr / 60000 + k) * 60000 := by
  cases k with
  | zero => omega
  | succ k => rfl
def wasB (op : Int → Bool) (fr : Int) : Nat → Bool
  | 0 => false
  | k + 1 => op (visit fr k)
def turnsL (op : Int → Bool) (fr : Int) : Nat → List Int
  | 0 => []
  | k + 1 => turnsL op fr k ++ (if op (visit fr k) = wasB op fr k then [] else [visit fr k])
theorem turns_len (op : Int → Bool) (fr : Int) (k : Nat) : (turnsL op fr k).length ≤ k := by
  induction k with
  | zero => exact Nat.le_refl _
  | succ k ih => unfold turnsL; split <;> simp <;> omega
theorem turns_mem {op : Int → Bool} {fr : Int} {N : Nat} {x : Int} : x ∈ turnsL op fr N ↔ ∃ k, k < N ∧ x = visit fr k ∧ op (visit fr k) ≠ wasB op fr k := by
  induction N with
  | zero => simp [turnsL]
  | succ N ih =>
    unfold turnsL
    rw [List.mem_append, ih]
    constructor
    · rintro (⟨k, h1, h2, h3⟩ | h)
      · exact ⟨k, by omega, h2, h3⟩
      · split at h
        · cases h
        · rename_i hne
          exact ⟨N, by omega, List.mem_singleton.1 h, hne⟩
    · rintro ⟨k, h1, h2, h3⟩
      by_cases e : k = N
      · subst e; right; rw [if_neg h3, h2]; exact List.mem_singleton.2 rfl
      · exact .inl ⟨k, by omega, h2, h3⟩
theorem turns_rise (op : Int → Bool) (fr : Int) (N : Nat) : (turnsL op fr N).Pairwise (· < ·) := by
  induction N with
  | zero => exact List.Pairwise.nil
  | succ N ih =>
    unfold turnsL
    rw [List.pairwise_append]
    refine ⟨ih, by split <;> simp, fun a ha b hb => ?_⟩
    obtain ⟨k, h1, h2, _⟩ := turns_mem.1 ha
    split at hb
    · cases hb
    · rw [List.mem_singleton.1 hb, h2]; exact visit_mono fr h1

/-! The document's way: the bounds of each day. -/
def bndAt (zone day m : Int) : Int := day * 86400000 + (m - zone) * 60000
def bndB (op : Int → Bool) (fr til zone day m : Int) : Bool := decide (m < 1440) && (decide (fr < bndAt zone day m) && (decide (bndAt zone day m < til) && (op (bndAt zone day m) != op (bndAt zone day m - 1))))
def bndDay (op : Int → Bool) (fr til zone day : Int) (ms : List Int) : List Int := (ms.filter (bndB op fr til zone day)).map (bndAt zone day)
def bndHead (op : Int → Bool) (fr til : Int) : List Int := if fr < til then (if op fr then [fr] else []) else []
def bndDays (op : Int → Bool) (fr til zone : Int) (ms : List Int) (first : Int) : Nat → List Int
  | 0 => bndHead op fr til
  | d + 1 => bndDays op fr til zone ms first d ++ bndDay op fr til zone (first + d) ms
theorem head_mem {op : Int → Bool} {fr til x : Int} : x ∈ bndHead op fr til ↔ x = fr ∧ fr < til ∧ op fr = true := by
  unfold bndHead
  by_cases h1 : fr < til <;> by_cases h2 : op fr = true <;> simp [h1, h2]
theorem day_mem {op : Int → Bool} {fr til zone day x : Int} {ms : List Int} : x ∈ bndDay op fr til zone day ms ↔ ∃ m, m ∈ ms ∧ m < 1440 ∧ fr < x ∧ x < til ∧ op x ≠ op (x - 1) ∧ x = bndAt zone day m := by
  unfold bndDay
  rw [List.mem_map]
  constructor
  · rintro ⟨m, hm, rfl⟩
    obtain ⟨h1, h2⟩ := List.mem_filter.1 hm
    unfold bndB at h2
    simp only [Bool.and_eq_true, decide_eq_true_eq, bne_iff_ne] at h2
    exact ⟨m, h1, h2.1, h2.2.1, h2.2.2.1, h2.2.2.2, rfl⟩
  · rintro ⟨m, h1, h2, h3, h4, h5, rfl⟩
    refine ⟨m, List.mem_filter.2 ⟨h1, ?_⟩, rfl⟩
    unfold bndB
    simp only [Bool.and_eq_true, decide_eq_true_eq, bne_iff_ne]
    exact ⟨h2, h3, h4, h5⟩
theorem days_mem {op : Int → Bool} {fr til zone first x : Int} {ms : List Int} {n : Nat} : x ∈ bndDays op fr til zone ms first n ↔ (x = fr ∧ fr < til ∧ op fr = true) ∨ ∃ d m, d < n ∧ m ∈ ms ∧ m < 1440 ∧ fr < x ∧ x < til ∧ op x ≠ op (x - 1) ∧ x = bndAt zone (first + (d : Nat)) m := by
  induction n with
  | zero =>
    unfold bndDays
    rw [head_mem]
    exact ⟨.inl, fun h => h.elim id fun ⟨d, _, h, _⟩ => absurd h (by omega)⟩
  | succ n ih =>
    unfold bndDays
    rw [List.mem_append, ih, day_mem]
    constructor
    · rintro ((h | ⟨d, m, h1, h⟩) | ⟨m, h⟩)
      · exact .inl h
      · exact .inr ⟨d, m, by omega, h⟩
      · exact .inr ⟨n, m, by omega, h⟩
    · rintro (h | ⟨d, m, h1, h⟩)
      · exact .inl (.inl h)
      · by_cases e : d = n
        · subst e; exact .inr ⟨m, h⟩
        · exact .inl (.inr ⟨d, m, by omega, h⟩)
theorem pw_mono {α : Type} {R S : α → α → Prop} (h : ∀ a b, R a b → S a b) {l : List α} (hl : l.Pairwise R) : l.Pairwise S := by
  induction hl with
  | nil => exact List.Pairwise.nil
  | cons h1 _ ih => exact List.Pairwise.cons (fun a ha => h _ _ (h1 a ha)) ih
theorem day_rise {op : Int → Bool} {fr til zone day : Int} {ms : List Int} (hs : ms.Pairwise (· < ·)) : (bndDay op fr til zone day ms).Pairwise (· < ·) := by
  unfold bndDay
  rw [List.pairwise_map]
  refine pw_mono (fun a b h => ?_) (hs.filter _)
  unfold bndAt; omega
theorem days_rise {op : Int → Bool} {fr til zone first : Int} {ms : List Int} (hs : ms.Pairwise (· < ·)) (h0 : ∀ m ∈ ms, 0 ≤ m) (n : Nat) : (bndDays op fr til zone ms first n).Pairwise (· < ·) := by
  induction n with
  | zero => unfold bndDays bndHead; split <;> (try split) <;> simp
  | succ n ih =>
    unfold bndDays
    rw [List.pairwise_append]
    refine ⟨ih, day_rise hs, fun a ha b hb => ?_⟩
    obtain ⟨m, hm, h1, h2, h3, h4, h5⟩ := day_mem.1 hb
    rcases days_mem.1 ha with ⟨rfl, _⟩ | ⟨d, m', g1, g2, g3, _, _, _, g4⟩
    · exact h2
    · have := h0 m hm
      rw [h5, g4]; unfold bndAt; omega

/-- Both ways count the same moments. -/
theorem turns_eq {zone fr til : Int} {rows hol : List (Int × Int × Int)} {ms : List Int} (hs : ms.Pairwise (· < ·)) (h0 : ∀ m ∈ ms, 0 ≤ m)
    (hm : ∀ x, x = 0 ∨ (∃ r, r ∈ rows ∧ (x = r.2.1 ∨ x = r.2.2)) ∨ (∃ r, r ∈ hol ∧ (x = r.2.1 ∨ x = r.2.2)) → x ∈ ms) {N n : Nat} (hN : til ≤ visit fr N) (hN' : ∀ k, k < N → visit fr k < til)
    (hn : ((til + zone * 60000) / 86400000 - (fr + zone * 60000) / 86400000 + 1).toNat = n) :
    turnsL (openAt zone rows hol) fr N = bndDays (openAt zone rows hol) fr til zone ms ((fr + zone * 60000) / 86400000) n := by
  refine rise_eq (turns_rise _ _ _) (days_rise hs h0 _) fun x => ?_
  rw [turns_mem, days_mem]
  constructor
  · rintro ⟨k, hk, hx, hne⟩
    have hlt := hN' k hk
    cases k with
    | zero =>
      left
      have hx' : x = fr := hx
      refine ⟨hx', hlt, ?_⟩
      have : openAt zone rows hol fr ≠ false := hne
      simpa using this
    | succ k =>
      right
      have h1 := visit_mono fr (Nat.succ_pos k)
      have h2 : fr < visit fr (k + 1) := h1
      have hm1 := visit_min fr (k + 1)
      have hm0 := visit_min fr k
      have hp := visit_pos fr (Nat.succ_pos k)
      have hq : (visit fr (k + 1) - 1) / 60000 = visit fr k / 60000 := by rw [hm0, hp]; omega
      have hop : openAt zone rows hol (visit fr (k + 1) - 1) = openAt zone rows hol (visit fr k) := by unfold openAt; rw [hq]
      have hne' : openAt zone rows hol (visit fr (k + 1)) ≠ openAt zone rows hol (visit fr (k + 1) - 1) := by rw [hop]; exact hne
      obtain ⟨M, hM⟩ : ∃ M, visit fr (k + 1) / 60000 + zone = M := ⟨_, rfl⟩
      have hM1 : (visit fr (k + 1) - 1) / 60000 + zone = M - 1 := by rw [← hM, hp]; omega
      have hin : M % 1440 ∈ ms := by
        refine hm _ ?_
        by_cases c0 : M % 1440 = 0
        · exact .inl c0
        · by_cases c1 : ∃ r, r ∈ rows ∧ (M % 1440 = r.2.1 ∨ M % 1440 = r.2.2)
          · exact .inr (.inl c1)
          · by_cases c2 : ∃ r, r ∈ hol ∧ (M % 1440 = r.2.1 ∨ M % 1440 = r.2.2)
            · exact .inr (.inr c2)
            · exfalso
              apply hne'
              unfold openAt
              rw [hM, hM1]
              exact (open_change c0 (fun r hr => ⟨fun e => c1 ⟨r, hr, .inl e⟩, fun e => c1 ⟨r, hr, .inr e⟩⟩) (fun r hr => ⟨fun e => c2 ⟨r, hr, .inl e⟩, fun e => c2 ⟨r, hr, .inr e⟩⟩)).symm
      have hxM : x = (M - zone) * 60000 := by rw [hx, hp, ← hM, hm1]; omega
      have hd0 : (fr + zone * 60000) / 86400000 ≤ M / 1440 := by omega
      refine ⟨(M / 1440 - (fr + zone * 60000) / 86400000).toNat, M % 1440, ?_, hin, by omega, by omega, by omega, by rw [hx]; exact hne', ?_⟩
      · omega
      · rw [Int.toNat_of_nonneg (by omega), hxM]; unfold bndAt; omega
  · rintro (⟨rfl, h1, h2⟩ | ⟨d, m, h1, h2, h3, h4, h5, h6, h7⟩)
    · refine ⟨0, ?_, rfl, ?_⟩
      · rcases Nat.eq_zero_or_pos N with e | e
        · subst e; have : til ≤ x := hN; omega
        · exact e
      · show openAt zone rows hol x ≠ false
        rw [h2]; decide
    · unfold bndAt at h7
      obtain ⟨q, hq⟩ : ∃ q, x = q * 60000 := ⟨((fr + zone * 60000) / 86400000 + (d : Int)) * 1440 + (m - zone), by rw [h7]; omega⟩
      obtain ⟨k, hk⟩ : ∃ k : Nat, (k : Int) = q - fr / 60000 := ⟨(q - fr / 60000).toNat, by omega⟩
      have k0 : 0 < k := by omega
      have hv : x = visit fr k := by rw [visit_pos fr k0, hq]; omega
      refine ⟨k, ?_, hv, ?_⟩
      · rcases Nat.lt_or_ge k N with e | e
        · exact e
        · exfalso
          rcases Nat.lt_or_ge N k with e2 | e2
          · have := visit_mono fr e2; omega
          · have : k = N := by omega
            subst this; omega
      · obtain ⟨k, rfl⟩ : ∃ j, k = j + 1 := ⟨k - 1, by omega⟩
        show openAt zone rows hol (visit fr (k + 1)) ≠ openAt zone rows hol (visit fr k)
        have hm0 := visit_min fr k
        have hp := visit_pos fr k0
        have hq2 : (visit fr (k + 1) - 1) / 60000 = visit fr k / 60000 := by rw [hm0, hp]; omega
        have hop : openAt zone rows hol (visit fr (k + 1) - 1) = openAt zone rows hol (visit fr k) := by unfold openAt; rw [hq2]
        rw [← hop, ← hv]; exact h6
end
end Go.Proofs.YtdhaelpacffnlaaGreatDoor
/- The first place in a list at which something holds; a slice cut short. Conditions: none. -/
namespace Go.Proofs.YtdhaelpacffnlaaGreatDoor
section
open Go.RowKit

/-- The first place at which something holds, or -1. -/
def idxP {α : Type} (p : α → Bool) (l : List α) : Int := if l.any p then (l.findIdx p : Int) else -1
section
variable {α : Type} {p : α → Bool} {l : List α} {i : Nat} {z : α}
theorem allP_succ (h : (l.take i).all (fun x => !p x) = true) (hz : l[i]? = some z) (hp : p z = false) : (l.take (i + 1)).all (fun x => !p x) = true := by
  rw [take_snoc' hz, List.all_append, h]; simp [hp]
theorem idxP_none (h : l.all (fun x => !p x) = true) : idxP p l = -1 := by
  unfold idxP
  rw [if_neg]
  rw [List.any_eq_true]
  rintro ⟨x, hx, hp⟩
  have := List.all_eq_true.1 h x hx
  simp [hp] at this
theorem idxP_some (h : (l.take i).all (fun x => !p x) = true) (hz : l[i]? = some z) (hp : p z = true) : idxP p l = i := by
  unfold idxP
  rw [if_pos (List.any_eq_true.2 ⟨z, mem_of_get hz, hp⟩)]
  obtain ⟨hl, rfl⟩ := List.getElem?_eq_some_iff.1 hz
  congr 1
  rw [List.findIdx_eq hl]
  refine ⟨hp, fun j hj => ?_⟩
  have := List.all_eq_true.1 h l[j] (by
    rw [List.mem_iff_getElem?]
    exact ⟨j, by rw [List.getElem?_take, if_pos hj]; exact List.getElem?_eq_getElem (by omega)⟩)
  simpa using this
theorem idxP_any : decide (0 ≤ idxP p l) = l.any p := by
  unfold idxP
  cases h : l.any p
  · simp
  · simp only [if_true]; exact decide_eq_true (by omega)
end
section
variable {α : Type} {row : α → List Value} {k : Nat} {w : World} {lo n c : Nat} {A : Option Addr} {l : List α}
theorem Recs.take (hrow : ∀ a, (row a).length = k) (h : Recs row k w lo A n c l) {i : Nat} (hi : i ≤ n) : Recs row k w lo A i c (l.take i) := by
  have hl := h.2
  have hc := h.cap
  refine ⟨⟨?_, by omega, fun hp => ?_⟩, by rw [List.length_take]; omega⟩
  · rw [flat_len hrow, List.length_take]; congr 1; omega
  · obtain ⟨g, o, e, h1, h2, h3⟩ := h.1.2.2 (by omega)
    refine ⟨g, o, e, h1, h2, fun j u hu => h3 j u ?_⟩
    have : l.flatMap row = (l.take i).flatMap row ++ (l.drop i).flatMap row := by rw [← List.flatMap_append, List.take_append_drop]
    rw [this, List.getElem?_append_left]
    · exact hu
    · exact (List.getElem?_eq_some_iff.1 hu).1
end
end
end Go.Proofs.YtdhaelpacffnlaaGreatDoor
/- string(b) of bytes that lie in memory. Conditions: none. -/
namespace Go.Proofs.YtdhaelpacffnlaaGreatDoor
section
open Go.RowKit

/-- A string of bytes, given as numbers. -/
def strI (l : List Int) : ByteArray := ⟨(l.map (fun z => z.toNat.toUInt8)).toArray⟩
theorem fold_push (l : List Int) (s : ByteArray) : l.foldl (fun r n => r.push (UInt8.ofNat n.toNat)) s = ⟨s.data ++ (l.map (fun z => z.toNat.toUInt8)).toArray⟩ := by
  induction l generalizing s with
  | nil => simp
  | cons x l ih =>
    rw [List.foldl_cons, ih]
    simp [ByteArray.push]
theorem run_str {P : Program} {src dst e : TypeId} {w : World} {lo : Nat} {A : Option Addr} {n c : Nat} {l : List Int} (hs : P.underlying src = some (.slice e)) (he : P.underlying e = some (.int .u8)) (hd : P.underlying dst = some .string) (h : Ints .u8 w lo A n c l) :
    (convert src dst (.slice A n c)).run P w = .ok (.string (strI l)) w := by
  cases A with
  | none =>
    have hn : n = 0 := by
      rcases Nat.eq_zero_or_pos n with h0 | h0
      · exact h0
      · obtain ⟨g, o, e, _⟩ := h.2.2 h0; cases e
    subst hn
    have hl : l = [] := List.eq_nil_of_length_eq_zero h.len
    subst hl
    rw [Lib.run_convert_nil_bytes w src dst e c hs he hd]
    rfl
  | some ad =>
    have hlen := h.len
    have hload : (loadCells ad n).run P w = .ok (l.map (Value.int .u8)).toArray w := by
      have := run_loadCells_list (P := P) w ad (l.map (Value.int .u8)) (fun j u hu => by
        have hj := (List.getElem?_eq_some_iff.1 hu).1
        rw [List.length_map] at hj
        obtain ⟨g, o, e, _, _, h3⟩ := h.2.2 (by omega)
        injection e with e
        subst e
        rw [add_mk]
        exact h3 j u hu)
      rw [List.length_map, hlen] at this
      exact this
    rw [run_convert_bytes_string w src dst e _ _ _ hs he hd, run_bytesToString w ad n c l hload, fold_push]
    simp [strI, ByteArray.empty, ByteArray.emptyWithCapacity]
    rfl
end
end Go.Proofs.YtdhaelpacffnlaaGreatDoor
/- A region that draws its order, walked once, in one order: loads and reckoning are taken first under a condition S on the world; the last operation may break S. Over any program. Conditions: none. -/
namespace Go.Proofs.YtdhaelpacffnlaaGreatDoor
section
section
variable {P : Program} {ops : Array Oper} {Q : Exit → Act → World → Prop} {md : Region.Mode} {S : World → Prop} {last : Nat}

/-- Operations that only reckon or load. -/
def calmOp (o : Oper) : Bool :=
  match o.op with
  | .move _ | .assign _ | .pick .. | .build .. | .load .. | .nilCheck _ | .binOp .. | .unOp .. | .convert .. | .makeInterface .. | .slice .. | .fieldAddr .. | .field .. | .indexAddr .. | .index .. | .extract .. => true
  | .call c => match c.callee with | .builtin .len => true | .builtin .cap => true | _ => false
  | _ => false

/-- Whatever order is picked from here on; S holds behind every operation but the last. -/
def wpAnyE (P : Program) (md : Region.Mode) (ops : Array Oper) (Q : Exit → Act → World → Prop) (S : World → Prop) (last : Nat) : Nat → Array Bool → Act → World → Prop
  | 0, listed, a, w => Region.ready md ops listed = [] ∧ Q .normal a w
  | fuel + 1, listed, a, w =>
    (Region.ready md ops listed = [] → Q .normal a w) ∧
    ∀ i ∈ Region.ready md ops listed, wpOp P ops Q i (fun a' w' => (i = last ∨ S w') ∧ wpAnyE P md ops Q S last fuel (listed.setIfInBounds i true) a' w') a w

theorem wpAny_of_E : ∀ (fuel : Nat) (listed : Array Bool) (a : Act) (w : World), wpAnyE P md ops Q S last fuel listed a w → wpAny P md ops Q fuel listed a w
  | 0, _, _, _, h => h
  | fuel + 1, _, _, _, h => ⟨h.1, fun i hi => wpOp_mono (fun a' w' h' => wpAny_of_E fuel _ a' w' h'.2) (h.2 i hi)⟩

theorem head_set {n i : Nat} {listed : Array Bool} (inv : HeadInv md ops n listed) (hi : i ∈ Region.ready md ops listed) (hin : i < n) : HeadInv md ops n (listed.setIfInBounds i true) := inv.set hi hin

theorem wpAnyE_first {i : Nat} {oi : Oper} {v : Value} (hi : ops[i]? = some oi) (hsel : ∀ (j : Nat) (o : Oper) cs b, ops[j]? = some o → o.op ≠ .select cs b)
    (hQ : ∀ c a w, Q (.panic c) (a.put oi.dst v) w → Q (.panic c) a w)
    (hs : Region.sinkB md ops last = true) (hc : Region.chainB md ops last = true) (hn : last < ops.size) (hin : i < last) :
    ∀ (fuel : Nat) (listed : Array Bool) (a : Act) (w : World), HeadInv md ops last listed →
      (∀ j oj, ops[j]? = some oj → j ≠ i → listed.getD j true = false → (∀ e ∈ oj.after, Region.binds md e = true → e.on ≠ i) → oi.apart ops oj = true) →
      i ∈ Region.ready md ops listed → YieldsIf P ops S oi v a → S w →
      wpAnyE P md ops Q S last fuel (listed.setIfInBounds i true) (a.put oi.dst v) w → wpAnyE P md ops Q S last (fuel + 1) listed a w := by
  intro fuel
  induction fuel with
  | zero =>
    intro listed a w inv _ hr hy hS H
    refine ⟨fun h => (by rw [h] at hr; cases hr), fun j hj => ?_⟩
    by_cases hji : j = i
    · subst hji; exact hy.wpOp hi hS ⟨.inr hS, H⟩
    · have := ready_mono hj hji
      rw [H.1] at this
      cases this
  | succ fuel ih =>
    intro listed a w inv hfree hr hy hS H
    have hun := (mem_ready.1 hr).1
    refine ⟨fun h => (by rw [h] at hr; cases hr), fun j hj => ?_⟩
    have hjn : j < last := by
      rcases Nat.lt_or_ge j last with h | h
      · exact h
      · exact absurd hj (tail_waits hs hc hn inv _ i rfl hin hun j h)
    by_cases hji : j = i
    · subst hji; exact hy.wpOp hi hS ⟨.inr hS, H⟩
    · have h1 := H.2 j (ready_mono hj hji)
      obtain ⟨hjun, oj, hoj, hall⟩ := mem_ready.1 hj
      have hnot : ∀ e ∈ oj.after, Region.binds md e = true → e.on ≠ i := fun e he hb heq => by
        have h1 := hall e he hb
        rw [heq, getD_both hun] at h1
        cases h1
      have h2 := wpOp_putIf hoj (hfree j oj hoj hji hjun hnot) (fun cs b => hsel i oi cs b hi) (fun cs b => hsel j oj cs b hoj) hQ hy h1
      have hfree' : ∀ k ok, ops[k]? = some ok → k ≠ i → (listed.setIfInBounds j true).getD k true = false →
          (∀ e ∈ ok.after, Region.binds md e = true → e.on ≠ i) → oi.apart ops ok = true := fun k ok hk hki hkun hno => by
        refine hfree k ok hk hki ?_ hno
        by_cases hjk : j = k
        · subst hjk; exact hjun
        · rw [getD_set_ne true hjk] at hkun; exact hkun
      refine wpOp_mono (fun a' w' h3 => ?_) h2
      have hSw : S w' := h3.2.1.resolve_left (by omega)
      refine ⟨.inr hSw, ih (listed.setIfInBounds j true) a' w' (inv.set hj hjn) hfree' (ready_mono hr (Ne.symm hji)) h3.1 hSw ?_⟩
      rw [Array.setIfInBounds_comm _ _ hji]
      exact h3.2.2

/-- An order: each operation that only reckons or loads may be taken first, each other one comes up alone. -/
def lexB (md : Region.Mode) (ops : Array Oper) (last : Nat) : List Nat → Array Bool → Bool
  | [], listed => (Region.ready md ops listed).isEmpty
  | k :: l, listed =>
    (match ops[k]? with
      | some o => if calmOp o then decide (k < last) && (Region.ready md ops listed).contains k && Region.free md ops listed k else decide (Region.ready md ops listed = [k])
      | none => false) && (decide (k ≠ last) || l.isEmpty) && lexB md ops last l (listed.setIfInBounds k true)
def lexAll (md : Region.Mode) (ops : Array Oper) (perm : List Nat) : Bool :=
  Region.noSelect ops && decide (0 < ops.size) && decide (perm.length = ops.size) && Region.sinkB md ops (ops.size - 1) && lexB md ops (ops.size - 1) perm (Array.replicate ops.size false)

/-- The walk in that order. -/
def wpLex (P : Program) (ops : Array Oper) (Q : Exit → Act → World → Prop) (S : World → Prop) (last : Nat) : List Nat → Act → World → Prop
  | [], a, w => Q .normal a w
  | k :: l, a, w =>
    ∃ o, ops[k]? = some o ∧
    if calmOp o then ∃ v, YieldsIf P ops S o v a ∧ S w ∧ (∀ c a w, Q (.panic c) (a.put o.dst v) w → Q (.panic c) a w) ∧ wpLex P ops Q S last l (a.put o.dst v) w
    else wpOp P ops Q k (fun a' w' => (k = last ∨ S w') ∧ wpLex P ops Q S last l a' w') a w

theorem wpAnyE_of_lex (hsel : Region.noSelect ops = true) (hs : Region.sinkB md ops last = true) (hc : Region.chainB md ops last = true) (hn : last + 1 = ops.size) :
    ∀ (l : List Nat) (listed : Array Bool) (a : Act) (w : World), (l ≠ [] → HeadInv md ops last listed) →
    lexB md ops last l listed = true → wpLex P ops Q S last l a w → wpAnyE P md ops Q S last l.length listed a w
  | [], listed, _, _, _, hB, h => ⟨by simpa [lexB] using hB, h⟩
  | k :: l, listed, a, w, inv0, hB, h => by
    have inv := inv0 (by simp)
    simp only [lexB, Bool.and_eq_true] at hB
    simp only [wpLex] at h
    obtain ⟨o, h0, h⟩ := h
    rw [h0] at hB
    obtain ⟨⟨hB1, hB3⟩, hB2⟩ := hB
    have hkn : k < ops.size := (Array.getElem?_eq_some_iff.1 h0).1
    by_cases hcalm : calmOp o = true
    · simp only [hcalm, if_true, Bool.and_eq_true, decide_eq_true_eq] at hB1 h
      obtain ⟨⟨hlt, hr⟩, hf⟩ := hB1
      obtain ⟨v, hy, hS, hQ, hK⟩ := h
      have hr' : k ∈ Region.ready md ops listed := by simpa using hr
      exact wpAnyE_first h0 (Region.noSelect_spec hsel) hQ hs hc (by omega) hlt l.length listed a w inv (Region.free_spec h0 hf) hr' hy hS
        (wpAnyE_of_lex hsel hs hc hn l _ _ w (fun _ => inv.set hr' hlt) hB2 hK)
    · simp only [hcalm, Bool.false_eq_true, if_false] at hB1 h
      have hrd : Region.ready md ops listed = [k] := of_decide_eq_true hB1
      refine ⟨fun h1 => (by rw [hrd] at h1; cases h1), fun i hi => ?_⟩
      have hi' := hi
      rw [hrd] at hi
      have hik : i = k := by simpa using hi
      subst hik
      refine wpOp_mono (fun a' w' h' => ⟨h'.1, ?_⟩) h
      refine wpAnyE_of_lex hsel hs hc hn l _ a' w' (fun hne => inv.set hi' ?_) hB2 h'.2
      rw [Bool.or_eq_true, decide_eq_true_eq, List.isEmpty_iff] at hB3
      have := hB3.resolve_right hne
      omega

theorem wp_region_lex {id : Nat} {a : Act} {w : World} (S : World → Prop) (perm : List Nat) (hm : P.follows .mixedOrders = true) (hB : lexAll .any ops perm = true)
    (h : wpLex P ops Q S (ops.size - 1) perm a w.drew) : (Code.region id ops true).wp P Q a w := by
  simp only [lexAll, Bool.and_eq_true, decide_eq_true_eq] at hB
  obtain ⟨⟨⟨⟨hsel, h0⟩, hlen⟩, hs⟩, hlex⟩ := hB
  have hc : Region.chainB .any ops (ops.size - 1) = true := by
    unfold Region.chainB
    rw [List.all_eq_true]
    intro t ht
    have := List.mem_range.1 ht
    rw [Bool.or_eq_true]
    exact .inl (decide_eq_true (by omega))
  have inv0 : HeadInv .any ops (ops.size - 1) (Array.replicate ops.size false) :=
    ⟨by simp, fun j oj _ hl => (by rw [getD_replicate_false] at hl; cases hl), fun t _ ht => getD_in (by simpa using ht) (getD_replicate_false _ _)⟩
  refine wp_region_any hm (wpAny_of_E (S := S) (last := ops.size - 1) _ _ _ _ ?_)
  have := wpAnyE_of_lex (md := .any) hsel hs hc (by omega) perm _ a w.drew (fun _ => inv0) hlex h
  rw [hlen] at this
  exact this

/-! The moves. -/
/-- An operation of a list, so that a look at it reckons. -/
def opAt : List Oper → Nat → Option Oper
  | [], _ => none
  | o :: _, 0 => some o
  | _ :: l, n + 1 => opAt l n
theorem opAt_eq : ∀ (l : List Oper) (k : Nat), opAt l k = l.toArray[k]?
  | [], _ => by simp [opAt]
  | o :: l, 0 => by simp [opAt]
  | o :: l, n + 1 => by have := opAt_eq l n; simpa [opAt] using this
variable {ls : List Oper}
theorem lex_take {o : Oper} {l : List Nat} {k : Nat} {a : Act} {w : World} (v : Value) (ho : opAt ls k = some o) (hc : calmOp o = true) (hQ : ∀ c a w, Q (.panic c) (a.put o.dst v) w → Q (.panic c) a w)
    (hw : Region.wanted o (yielded ls.toArray a.tmps) = true) (hy : ∀ w, S w → (execOp a.eval o).run P w = .ok (.value v) w) (hS : S w)
    (h : wpLex P ls.toArray Q S last l (a.put o.dst v) w) : wpLex P ls.toArray Q S last (k :: l) a w := by
  simp only [wpLex]
  rw [opAt_eq] at ho
  refine ⟨o, ho, ?_⟩
  rw [if_pos hc]
  exact ⟨v, .inl ⟨hw, hy⟩, hS, hQ, h⟩
theorem lex_skip {o : Oper} {l : List Nat} {k : Nat} {a : Act} {w : World} (ho : opAt ls k = some o) (hc : calmOp o = true) (hQ : ∀ c a w, Q (.panic c) (a.put o.dst undef) w → Q (.panic c) a w)
    (hw : Region.wanted o (yielded ls.toArray a.tmps) = false) (hS : S w)
    (h : wpLex P ls.toArray Q S last l (a.put o.dst undef) w) : wpLex P ls.toArray Q S last (k :: l) a w := by
  simp only [wpLex]
  rw [opAt_eq] at ho
  refine ⟨o, ho, ?_⟩
  rw [if_pos hc]
  exact ⟨undef, .inr ⟨hw, rfl⟩, hS, hQ, h⟩
theorem lex_run {o : Oper} {l : List Nat} {k : Nat} {a : Act} {w : World} (ho : opAt ls k = some o) (hc : calmOp o = false) (hw : Region.wanted o (yielded ls.toArray a.tmps) = true)
    (h : ∀ K : Act → World → Prop, (∀ a' w', (k = last ∨ S w') → wpLex P ls.toArray Q S last l a' w' → K a' w') → o.wp P a w K Q) : wpLex P ls.toArray Q S last (k :: l) a w := by
  simp only [wpLex]
  rw [opAt_eq] at ho
  refine ⟨o, ho, ?_⟩
  rw [if_neg (by rw [hc]; decide)]
  unfold wpOp
  simp only [ho, hw, if_true]
  exact .inl (h _ fun a' w' h1 h2 => ⟨h1, h2⟩)
theorem lex_pass {o : Oper} {l : List Nat} {k : Nat} {a : Act} {w : World} (ho : opAt ls k = some o) (hc : calmOp o = false) (hw : Region.wanted o (yielded ls.toArray a.tmps) = false) (hS : S w)
    (h : wpLex P ls.toArray Q S last l (a.put o.dst undef) w) : wpLex P ls.toArray Q S last (k :: l) a w := by
  simp only [wpLex]
  rw [opAt_eq] at ho
  refine ⟨o, ho, ?_⟩
  rw [if_neg (by rw [hc]; decide)]
  unfold wpOp
  simp only [ho, hw, Bool.false_eq_true, if_false]
  exact ⟨.inr hS, h⟩
theorem lex_end {a : Act} {w : World} (h : Q .normal a w) : wpLex P ls.toArray Q S last [] a w := h
end
end
end Go.Proofs.YtdhaelpacffnlaaGreatDoor
/- A region that draws its order in which calls of generators stand beside the making of their arguments: each operation is looked at once, whatever came before it. Conditions: none. -/
namespace Go.Proofs.YtdhaelpacffnlaaGreatDoor
section
section
variable {P : Program} {ops : Array Oper} {Q : Exit → Act → World → Prop} {md : Region.Mode} {S : World → Prop} {last : Nat}

/-! Moves on the walk over all orders. -/
theorem wp_region_E {id : Nat} {a : Act} {w : World} (S : World → Prop) (hm : P.follows .mixedOrders = true)
    (h : wpAnyE P .any ops Q S (ops.size - 1) ops.size (Array.replicate ops.size false) a w.drew) : (Code.region id ops true).wp P Q a w :=
  wp_region_any hm (wpAny_of_E (S := S) (last := ops.size - 1) _ _ _ _ h)
/-- What has come up is closed, the last one has not come up. -/
def headB (md : Region.Mode) (ops : Array Oper) (last : Nat) (listed : Array Bool) : Bool :=
  decide (listed.size = ops.size) && decide (last + 1 = ops.size) && (listed.getD last true == false) &&
  (List.range ops.size).all fun j => !listed.getD j false || (match ops[j]? with | some o => o.after.all fun e => !Region.binds md e || listed.getD e.on false | none => true)
theorem headB_spec {listed : Array Bool} (h : headB md ops last listed = true) : HeadInv md ops last listed := by
  unfold headB at h
  simp only [Bool.and_eq_true, decide_eq_true_eq, beq_iff_eq] at h
  obtain ⟨⟨⟨h1, h2⟩, h3⟩, h4⟩ := h
  refine ⟨h1, fun j oj hj hl e he hb => ?_, fun t ht ht2 => ?_⟩
  · have hj2 := (Array.getElem?_eq_some_iff.1 hj).1
    have := List.all_eq_true.1 h4 j (List.mem_range.2 hj2)
    rw [hl, hj] at this
    simp only [Bool.not_true, Bool.false_or] at this
    have := Array.all_eq_true_iff_forall_mem.1 this e he
    rw [hb] at this
    simpa using this
  · have : t = last := by omega
    subst this; exact h3
def takeB (md : Region.Mode) (ops : Array Oper) (last : Nat) (listed : Array Bool) (k : Nat) : Bool :=
  Region.noSelect ops && Region.sinkB md ops last && decide (k < last) && headB md ops last listed && (Region.ready md ops listed).contains k && Region.free md ops listed k
variable {ls : List Oper}
theorem E_take {fuel k : Nat} {listed : Array Bool} {o : Oper} {a : Act} {w : World} (v : Value) (ho : opAt ls k = some o) (hB : takeB md ls.toArray last listed k = true)
    (hQ : ∀ c a w, Q (.panic c) (a.put o.dst v) w → Q (.panic c) a w) (hw : Region.wanted o (yielded ls.toArray a.tmps) = true) (hy : ∀ w, S w → (execOp a.eval o).run P w = .ok (.value v) w) (hS : S w)
    (h : wpAnyE P md ls.toArray Q S last fuel (listed.setIfInBounds k true) (a.put o.dst v) w) : wpAnyE P md ls.toArray Q S last (fuel + 1) listed a w := by
  unfold takeB at hB
  simp only [Bool.and_eq_true, decide_eq_true_eq] at hB
  obtain ⟨⟨⟨⟨⟨h1, h2⟩, h3⟩, h4⟩, h5⟩, h6⟩ := hB
  rw [opAt_eq] at ho
  have inv := headB_spec h4
  have hl : last + 1 = ls.toArray.size := by
    unfold headB at h4
    simp only [Bool.and_eq_true, decide_eq_true_eq] at h4
    exact h4.1.1.2
  have hc : Region.chainB md ls.toArray last = true := by
    unfold Region.chainB
    rw [List.all_eq_true]
    intro t ht
    have := List.mem_range.1 ht
    rw [Bool.or_eq_true]
    exact .inl (decide_eq_true (by omega))
  exact wpAnyE_first ho (Region.noSelect_spec h1) hQ h2 hc (by omega) h3 fuel listed a w inv (Region.free_spec ho h6) (by simpa using h5) (.inl ⟨hw, hy⟩) hS h
/-- One that comes up alone. -/
theorem E_run {fuel k : Nat} {listed : Array Bool} {o : Oper} {a : Act} {w : World} (ho : opAt ls k = some o) (hr : Region.ready md ls.toArray listed = [k]) (hw : Region.wanted o (yielded ls.toArray a.tmps) = true)
    (h : ∀ K : Act → World → Prop, (∀ a' w', (k = last ∨ S w') → wpAnyE P md ls.toArray Q S last fuel (listed.setIfInBounds k true) a' w' → K a' w') → o.wp P a w K Q) : wpAnyE P md ls.toArray Q S last (fuel + 1) listed a w := by
  refine ⟨fun h1 => (by rw [hr] at h1; cases h1), fun i hi => ?_⟩
  rw [hr] at hi
  have hik : i = k := by simpa using hi
  subst hik
  rw [opAt_eq] at ho
  unfold wpOp
  simp only [ho, hw, if_true]
  exact .inl (h _ fun a' w' h1 h2 => ⟨h1, h2⟩)
theorem E_done {listed : Array Bool} {a : Act} {w : World} (hr : Region.ready md ops listed = []) (h : Q .normal a w) : wpAnyE P md ops Q S last 0 listed a w := ⟨hr, h⟩

/-! The same where S holds behind every operation. -/
theorem H_begin {id : Nat} {a : Act} {w : World} (S : World → Prop) (hm : P.follows .mixedOrders = true)
    (h : wpAnyH P .any ops Q S ops.size (Array.replicate ops.size false) a w.drew) : (Code.region id ops true).wp P Q a w := wp_region_held hm h
theorem H_take {fuel k : Nat} {listed : Array Bool} {o : Oper} {a : Act} {w : World} (v : Value) (ho : opAt ls k = some o) (hs : Region.noSelect ls.toArray = true) (hf : Region.free md ls.toArray listed k = true) (hr : (Region.ready md ls.toArray listed).contains k = true)
    (hQ : ∀ c a w, Q (.panic c) (a.put o.dst v) w → Q (.panic c) a w) (hw : Region.wanted o (yielded ls.toArray a.tmps) = true) (hy : ∀ w, S w → (execOp a.eval o).run P w = .ok (.value v) w) (hS : S w)
    (h : wpAnyH P md ls.toArray Q S fuel (listed.setIfInBounds k true) (a.put o.dst v) w) : wpAnyH P md ls.toArray Q S (fuel + 1) listed a w := by
  rw [opAt_eq] at ho
  exact wpAnyH_take ho hs hf hr hQ (.inl ⟨hw, hy⟩) hS h
theorem H_skip {fuel k : Nat} {listed : Array Bool} {o : Oper} {a : Act} {w : World} (ho : opAt ls k = some o) (hs : Region.noSelect ls.toArray = true) (hf : Region.free md ls.toArray listed k = true) (hr : (Region.ready md ls.toArray listed).contains k = true)
    (hQ : ∀ c a w, Q (.panic c) (a.put o.dst undef) w → Q (.panic c) a w) (hw : Region.wanted o (yielded ls.toArray a.tmps) = false) (hS : S w)
    (h : wpAnyH P md ls.toArray Q S fuel (listed.setIfInBounds k true) (a.put o.dst undef) w) : wpAnyH P md ls.toArray Q S (fuel + 1) listed a w := by
  rw [opAt_eq] at ho
  exact wpAnyH_take ho hs hf hr hQ (.inr ⟨hw, rfl⟩) hS h
theorem H_run {fuel k : Nat} {listed : Array Bool} {o : Oper} {a : Act} {w : World} (ho : opAt ls k = some o) (hr : Region.ready md ls.toArray listed = [k]) (hw : Region.wanted o (yielded ls.toArray a.tmps) = true)
    (h : ∀ K : Act → World → Prop, (∀ a' w', S w' → wpAnyH P md ls.toArray Q S fuel (listed.setIfInBounds k true) a' w' → K a' w') → o.wp P a w K Q) : wpAnyH P md ls.toArray Q S (fuel + 1) listed a w := by
  refine ⟨fun h1 => (by rw [hr] at h1; cases h1), fun i hi => ?_⟩
  rw [hr] at hi
  have hik : i = k := by simpa using hi
  subst hik
  rw [opAt_eq] at ho
  unfold wpOp
  simp only [ho, hw, if_true]
  exact .inl (h _ fun a' w' h1 h2 => ⟨h1, h2⟩)
theorem H_done {listed : Array Bool} {a : Act} {w : World} (hr : Region.ready md ops listed = []) (h : Q .normal a w) : wpAnyH P md ops Q S 0 listed a w := ⟨hr, h⟩

/-! Operations that come up in many orders. -/
def undone (listed : Array Bool) (phase : List Nat) : Nat := (phase.filter fun k => !listed.getD k false).length
theorem undone_set {listed : Array Bool} {k : Nat} (hk : k < listed.size) (hu : listed.getD k false = false) : ∀ {phase : List Nat}, phase.Nodup → k ∈ phase → undone listed phase = undone (listed.setIfInBounds k true) phase + 1
  | [], _, h => by cases h
  | j :: l, hn, h => by
    rw [List.nodup_cons] at hn
    have hs : (listed.setIfInBounds k true).getD k false = true := by simp [hk]
    unfold undone
    by_cases e : k = j
    · subst e
      have rest : ∀ l : List Nat, k ∉ l → (l.filter fun k => !listed.getD k false) = l.filter fun j => !(listed.setIfInBounds k true).getD j false := fun l hl => by
        apply List.filter_congr
        intro j hj
        rw [getD_set_ne false (show k ≠ j from fun e => hl (by rw [e]; exact hj))]
      rw [List.filter_cons_of_pos (by rw [hu]; rfl), List.filter_cons_of_neg (by rw [hs]; decide), rest l hn.1]
      rfl
    · have hkl : k ∈ l := (List.mem_cons.1 h).resolve_left e
      have ih := undone_set hk hu hn.2 hkl
      unfold undone at ih
      have h2 : (listed.setIfInBounds k true).getD j false = listed.getD j false := getD_set_ne false e
      by_cases hj : listed.getD j false = true
      · rw [List.filter_cons_of_neg (by rw [hj]; decide), List.filter_cons_of_neg (by rw [h2, hj]; decide)]
        exact ih
      · have hj' : listed.getD j false = false := by simpa using hj
        rw [List.filter_cons_of_pos (by rw [hj']; rfl), List.filter_cons_of_pos (by rw [h2, hj']; rfl), List.length_cons, List.length_cons, ih]
theorem undone_zero {listed : Array Bool} {phase : List Nat} (h : undone listed phase = 0) : ∀ k ∈ phase, listed.getD k false = true := by
  intro k hk
  unfold undone at h
  have := List.filter_eq_nil_iff.1 (List.eq_nil_of_length_eq_zero h) k hk
  simpa using this
theorem undone_pos {listed : Array Bool} {phase : List Nat} (h : 0 < undone listed phase) : ∃ p k, phase[p]? = some k ∧ listed.getD k false = false ∧ ∀ j ∈ phase.take p, listed.getD j false = true := by
  induction phase with
  | nil => simp [undone] at h
  | cons k l ih =>
    by_cases hk : listed.getD k false = true
    · have : undone listed (k :: l) = undone listed l := by unfold undone; rw [List.filter_cons_of_neg (by rw [hk]; decide)]
      obtain ⟨p, j, h1, h2, h3⟩ := ih (by omega)
      refine ⟨p + 1, j, h1, h2, fun i hi => ?_⟩
      rw [List.take_succ_cons] at hi
      rcases List.mem_cons.1 hi with rfl | hi
      · exact hk
      · exact h3 i hi
    · exact ⟨0, k, rfl, by simpa using hk, fun i hi => by cases hi⟩

def floatB (md : Region.Mode) (ops : Array Oper) (listed0 : Array Bool) (phase : List Nat) (T : Nat) : Bool :=
  decide (listed0.size = ops.size) && decide phase.Nodup && (phase.all fun k => decide (k < ops.size) && !listed0.getD k false) && decide (T < ops.size) && !phase.contains T && !listed0.getD T false &&
  ((List.range phase.length).all fun p => match phase[p]? with
    | some k => (match ops[k]? with | some o => o.after.all fun e => !Region.binds md e || listed0.getD e.on false || (phase.take p).contains e.on | none => false) &&
      (Region.waitsFor md ops T k || (phase.drop (p + 1)).any fun q => Region.waitsFor md ops q k)
    | none => true) &&
  ((List.range ops.size).all fun k => listed0.getD k false || phase.contains k || k == T || (List.range ops.size).any fun d => Region.waitsFor md ops k d && !listed0.getD d false && !phase.contains d)

/-- Which have come up: those at the start, and some of the phase. -/
structure FlL (ops : Array Oper) (listed0 : Array Bool) (phase : List Nat) (listed : Array Bool) : Prop where
  size : listed.size = ops.size
  old : ∀ k, listed0.getD k false = true → listed.getD k false = true
  new : ∀ k, listed.getD k false = true → listed0.getD k false = true ∨ k ∈ phase
theorem FlL.set_ {listed0 listed : Array Bool} {phase : List Nat} (h : FlL ops listed0 phase listed) {k : Nat} (hk : k ∈ phase) : FlL ops listed0 phase (listed.setIfInBounds k true) := by
  refine ⟨by simp [h.size], fun j hj => getD_set_true (h.old j hj), fun j hj => ?_⟩
  by_cases e : k = j
  · subst e; exact .inr hk
  · rw [getD_set_ne false e] at hj; exact h.new j hj

theorem float_main {listed0 : Array Bool} {phase : List Nat} {T fuel : Nat} {Inv : Nat → Array Bool → Act → World → Prop} (hB : floatB md ops listed0 phase T = true)
    (hstep : ∀ n listed a w k o, k ∈ phase → ops[k]? = some o → listed.getD k false = false → (∀ e ∈ o.after, Region.binds md e = true → listed.getD e.on false = true) → Inv (n + 1) listed a w →
      wpOp P ops Q k (fun a' w' => S w' ∧ Inv n (listed.setIfInBounds k true) a' w') a w)
    (hend : ∀ listed a w, (∀ j, listed.getD j false = (listed0.getD j false || phase.contains j)) → listed.size = ops.size → Inv 0 listed a w → wpAnyE P md ops Q S last fuel listed a w) :
    ∀ n listed a w, FlL ops listed0 phase listed → (∀ j oj, ops[j]? = some oj → j ∈ phase → listed.getD j false = true → ∀ e ∈ oj.after, Region.binds md e = true → listed.getD e.on false = true) →
      undone listed phase = n → Inv n listed a w → wpAnyE P md ops Q S last (n + fuel) listed a w := by
  unfold floatB at hB
  simp only [Bool.and_eq_true, decide_eq_true_eq, Bool.not_eq_true'] at hB
  obtain ⟨⟨⟨⟨⟨⟨⟨h0, hnd⟩, hph⟩, hT⟩, hTp⟩, hT0⟩, htopo⟩, htail⟩ := hB
  have hp1 : ∀ k ∈ phase, k < ops.size ∧ listed0.getD k false = false := fun k hk => by
    have := List.all_eq_true.1 hph k hk
    simpa using this
  intro n
  induction n with
  | zero =>
    intro listed a w hf _ hu hi
    rw [Nat.zero_add]
    have hall := undone_zero hu
    refine hend listed a w (fun j => ?_) hf.size hi
    cases hc : phase.contains j
    · rw [Bool.or_false]
      cases h1 : listed0.getD j false
      · cases h2 : listed.getD j false
        · rfl
        · rcases hf.new j h2 with h3 | h3
          · rw [h1] at h3; cases h3
          · have : phase.contains j = true := by simpa using h3
            rw [hc] at this; cases this
      · exact hf.old j h1
    · rw [Bool.or_true]; exact hall j (by simpa using hc)
  | succ n ih =>
    intro listed a w hf hcl hu hi
    rw [show n + 1 + fuel = (n + fuel) + 1 by omega]
    -- one of the phase may come up
    obtain ⟨p, k0, hk0, hku, hpre⟩ := undone_pos (listed := listed) (phase := phase) (by omega)
    have hrdy : k0 ∈ Region.ready md ops listed := by
      have hlt := (List.getElem?_eq_some_iff.1 hk0).1
      have hm : k0 ∈ phase := List.mem_of_getElem? hk0
      have h1 := List.all_eq_true.1 htopo p (List.mem_range.2 hlt)
      rw [hk0] at h1
      simp only [Bool.and_eq_true] at h1
      cases ho : ops[k0]? with
      | none => rw [ho] at h1; exact absurd h1.1 (by simp)
      | some o =>
        rw [ho] at h1
        rw [mem_ready]
        refine ⟨getD_in (by rw [hf.size]; exact (hp1 k0 hm).1) hku, o, ho, fun e he hb => ?_⟩
        have h2 := Array.all_eq_true_iff_forall_mem.1 h1.1 e he
        rw [hb] at h2
        simp only [Bool.not_true, Bool.false_or, Bool.or_eq_true] at h2
        rcases h2 with h2 | h2
        · exact hf.old _ h2
        · exact hpre _ (by simpa using h2)
    refine ⟨fun h1 => (by rw [h1] at hrdy; cases hrdy), fun i hi2 => ?_⟩
    obtain ⟨hiu, o, ho, hdeps⟩ := mem_ready.1 hi2
    have hiu' := getD_both hiu
    have him : i ∈ phase := by
      have hlt := (Array.getElem?_eq_some_iff.1 ho).1
      have h1 := List.all_eq_true.1 htail i (List.mem_range.2 hlt)
      simp only [Bool.or_eq_true, beq_iff_eq] at h1
      rcases h1 with ((h1 | h1) | h1) | h1
      · rw [hf.old i h1] at hiu'; cases hiu'
      · simpa using h1
      · -- T waits for all of the phase
        exfalso
        subst h1
        have all : ∀ d q k, phase.length - q = d → phase[q]? = some k → listed.getD k false = true := by
          intro d
          induction d using Nat.strongRecOn with
          | _ d ihd =>
            intro q k hd hk
            have hlt := (List.getElem?_eq_some_iff.1 hk).1
            have h2 := List.all_eq_true.1 htopo q (List.mem_range.2 hlt)
            rw [hk] at h2
            simp only [Bool.and_eq_true, Bool.or_eq_true] at h2
            rcases h2.2 with h3 | h3
            · obtain ⟨oj, hoj, e, he, hb, hon⟩ := Region.waitsFor_spec h3
              rw [ho] at hoj
              injection hoj with hoj
              subst hoj
              rw [← hon]; exact hdeps e he hb
            · obtain ⟨j, hj, hw⟩ := List.any_eq_true.1 h3
              obtain ⟨oj, hoj, e, he, hb, hon⟩ := Region.waitsFor_spec hw
              obtain ⟨q2, hq2⟩ := List.mem_iff_getElem?.1 hj
              rw [List.getElem?_drop] at hq2
              have hq3 := (List.getElem?_eq_some_iff.1 hq2).1
              have h5 := ihd (phase.length - (q + 1 + q2)) (by omega) _ j rfl hq2
              rw [← hon]
              exact hcl j oj hoj (List.mem_of_getElem? hq2) h5 e he hb
        rw [all _ p k0 rfl hk0] at hku
        cases hku
      · exfalso
        obtain ⟨d, hd, h2⟩ := List.any_eq_true.1 h1
        simp only [Bool.and_eq_true, Bool.not_eq_true'] at h2
        obtain ⟨⟨hw, hd0⟩, hdp⟩ := h2
        obtain ⟨oj, hoj, e, he, hb, hon⟩ := Region.waitsFor_spec hw
        rw [ho] at hoj
        injection hoj with hoj
        subst hoj
        have h3 := hdeps e he hb
        rw [hon] at h3
        rcases hf.new d h3 with h4 | h4
        · rw [hd0] at h4; cases h4
        · have : phase.contains d = true := by simpa using h4
          rw [hdp] at this; cases this
    refine wpOp_mono (fun a' w' h' => ⟨.inr h'.1, ?_⟩) (hstep n listed a w i o him ho hiu' hdeps hi)
    refine ih _ a' w' (hf.set_ him) (fun j oj hj hjm hl e he hb => ?_) ?_ h'.2
    · by_cases hij : i = j
      · subst hij
        have : oj = o := Option.some.inj (hj.symm.trans ho)
        subst this
        exact getD_set_true (hdeps e he hb)
      · rw [getD_set_ne false hij] at hl
        exact getD_set_true (hcl j oj hj hjm hl e he hb)
    · have := undone_set (listed := listed) (k := i) (by rw [hf.size]; exact (hp1 i him).1) hiu' hnd him
      omega

/-! The calls of generators. -/
/-- What the phase leaves: each result holds what is said of it. -/
structure FlI (a0 : Act) (w0 : World) (sb : Nat) (M : Int) (phase : List Nat) (d : Nat → Tmp) (R : Nat → Value → World → Prop) (n : Nat) (listed : Array Bool) (a : Act) (w : World) : Prop where
  defers : a.defers = a0.defers
  size : a.tmps.size = a0.tmps.size
  same : ∀ s, (∀ k ∈ phase, d k ≠ s) → a.tmps[s]? = a0.tmps[s]?
  done : ∀ k ∈ phase, listed.getD k false = true → R k (a.tmps.getD (d k) undef) w
  str : Str w sb (M - 2 * n)
  grown : w0.grownBy w (some sb)
def putAll (a0 : Act) (d : Nat → Tmp) (vs : Nat → Value) (phase : List Nat) : Act := phase.foldl (fun a k => a.put (some (d k)) (vs k)) a0
theorem getD_put (a : Act) (s t : Nat) (v : Value) : (a.put (some t) v).tmps[s]? = if t = s then (if t < a.tmps.size then some v else none) else a.tmps[s]? := by
  unfold Act.put
  simp only [Array.getElem?_setIfInBounds]
theorem putAll_defers (a0 : Act) (d : Nat → Tmp) (vs : Nat → Value) (phase : List Nat) : (putAll a0 d vs phase).defers = a0.defers := by
  unfold putAll
  induction phase generalizing a0 with
  | nil => rfl
  | cons k l ih => rw [List.foldl_cons, ih]; rfl
theorem putAll_size (a0 : Act) (d : Nat → Tmp) (vs : Nat → Value) (phase : List Nat) : (putAll a0 d vs phase).tmps.size = a0.tmps.size := by
  unfold putAll
  induction phase generalizing a0 with
  | nil => rfl
  | cons k l ih => rw [List.foldl_cons, ih]; simp [Act.put]
theorem putAll_get (d : Nat → Tmp) (vs : Nat → Value) : ∀ (phase : List Nat) (a0 : Act) (s : Nat), phase.Pairwise (fun i j => d i ≠ d j) →
    (putAll a0 d vs phase).tmps[s]? = match phase.find? (fun k => d k == s) with | some k => (if s < a0.tmps.size then some (vs k) else none) | none => a0.tmps[s]?
  | [], a0, s, _ => rfl
  | k :: l, a0, s, hn => by
    rw [List.pairwise_cons] at hn
    show (putAll (a0.put (some (d k)) (vs k)) d vs l).tmps[s]? = _
    rw [putAll_get d vs l _ s hn.2, List.find?_cons]
    have hsz : (a0.put (some (d k)) (vs k)).tmps.size = a0.tmps.size := by simp [Act.put]
    by_cases e : d k = s
    · have e1 : (d k == s) = true := by simpa using e
      have e2 : l.find? (fun k => d k == s) = none := by
        rw [List.find?_eq_none]
        intro j hj
        have := hn.1 j hj
        rw [e] at this
        simpa using fun h : d j = s => this h.symm
      rw [e1, e2]
      show (a0.put (some (d k)) (vs k)).tmps[s]? = _
      rw [getD_put, if_pos e, e]
    · have e1 : (d k == s) = false := by simpa using e
      rw [e1]
      cases hf : l.find? (fun k => d k == s) with
      | some j => simp only [hsz]
      | none =>
        show (a0.put (some (d k)) (vs k)).tmps[s]? = _
        rw [getD_put, if_neg e]
theorem act_ext {a b : Act} (h1 : a.defers = b.defers) (h2 : a.tmps = b.tmps) : a = b := by
  cases a; cases b; simp_all
theorem FlI.frame {a0 a : Act} {w0 w : World} {sb n : Nat} {M : Int} {phase : List Nat} {d : Nat → Tmp} {R : Nat → Value → World → Prop} {listed : Array Bool} (h : FlI a0 w0 sb M phase d R n listed a w)
    (hn : phase.Pairwise (fun i j => d i ≠ d j)) (hs : ∀ k ∈ phase, d k < a0.tmps.size) : a = putAll a0 d (fun k => a.tmps.getD (d k) undef) phase := by
  refine act_ext (by rw [putAll_defers]; exact h.defers) (Array.ext_getElem? fun s => ?_)
  rw [putAll_get d _ phase a0 s hn]
  cases hf : phase.find? (fun k => d k == s) with
  | none =>
    refine h.same s fun k hk e => ?_
    have := List.find?_eq_none.1 hf k hk
    simp [e] at this
  | some k =>
    have hk := List.mem_of_find?_eq_some hf
    have he : d k = s := by have := List.find?_some hf; simpa using this
    have hlt := hs k hk
    subst he
    show a.tmps[d k]? = if d k < a0.tmps.size then some (a.tmps.getD (d k) undef) else none
    rw [if_pos hlt, Array.getElem?_eq_getElem (by rw [h.size]; exact hlt)]
    simp [h.size, hlt]

theorem wpAnyE_calls {listed0 : Array Bool} {phase : List Nat} {T fuel n0 : Nat} (d : Nat → Tmp) (R : Nat → Value → World → Prop) {a0 : Act} {w0 : World} {sb : Nat} {m : Int}
    (hB : floatB md ls.toArray listed0 phase T = true) (hd : phase.Pairwise (fun i j => d i ≠ d j)) (hsz : ∀ k ∈ phase, d k < a0.tmps.size) (hn0 : phase.length = n0) (hstr : Str w0 sb m)
    (hdst : ∀ k ∈ phase, ∃ o, opAt ls k = some o ∧ o.dst = some (d k) ∧ o.guard = none)
    (hstab : ∀ k v w w', R k v w → w.grownBy w' (some sb) → R k v w')
    (hS : ∀ w, w0.grownBy w (some sb) → S w)
    (hlaw : ∀ k o a w m' K, k ∈ phase → opAt ls k = some o → (∀ s, (∀ j ∈ phase, d j ≠ s) → a.tmps[s]? = a0.tmps[s]?) → (∀ e ∈ o.after, Region.binds md e = true → e.on ∈ phase → R e.on (a.tmps.getD (d e.on) undef) w) →
      Str w sb m' → m' ≤ m + 2 * n0 → w0.grownBy w (some sb) → (∀ v w', R k v w' → Str w' sb (m' + 2) → w.grownBy w' (some sb) → K (a.put (some (d k)) v) w') → o.wp P a w K Q)
    (hend : ∀ vs w', (∀ k ∈ phase, R k (vs k) w') → Str w' sb (m + 2 * n0) → w0.grownBy w' (some sb) →
      wpAnyE P md ls.toArray Q S last fuel (phase.foldl (fun l k => l.setIfInBounds k true) listed0) (putAll a0 d vs phase) w') :
    wpAnyE P md ls.toArray Q S last (n0 + fuel) listed0 a0 w0 := by
  have hB0 := hB
  unfold floatB at hB
  simp only [Bool.and_eq_true, decide_eq_true_eq, Bool.not_eq_true'] at hB
  obtain ⟨⟨⟨⟨⟨⟨⟨h0, hnd⟩, hph⟩, hT⟩, hTp⟩, hT0⟩, htopo⟩, htail⟩ := hB
  have hp1 : ∀ k ∈ phase, k < ls.toArray.size ∧ listed0.getD k false = false := fun k hk => by
    have := List.all_eq_true.1 hph k hk
    simpa using this
  have hun : undone listed0 phase = n0 := by
    unfold undone
    rw [List.filter_eq_self.2 (fun k hk => by rw [(hp1 k hk).2]; rfl), hn0]
  refine float_main (Inv := FlI a0 w0 sb (m + 2 * n0) phase d R) hB0 ?_ ?_ n0 listed0 a0 w0 ⟨h0, fun k h => h, fun k h => .inl h⟩ (fun j oj _ hj hl => by rw [(hp1 j hj).2] at hl; cases hl) hun
    ⟨rfl, rfl, fun s _ => rfl, fun k hk hl => (by rw [(hp1 k hk).2] at hl; cases hl), (by rw [show m + 2 * (n0 : Int) - 2 * (n0 : Int) = m by omega]; exact hstr), gr_refl _ _⟩
  · intro n listed a w k o hk ho hku hdeps hi
    obtain ⟨o', ho', hdk, hg⟩ := hdst k hk
    have ho2 := ho'
    rw [opAt_eq, ho] at ho2
    injection ho2 with ho2
    subst ho2
    unfold wpOp
    have hw : Region.wanted o (yielded ls.toArray a.tmps) = true := by simp [Region.wanted, hg]
    simp only [ho, hw, if_true]
    refine .inl (hlaw k o a w _ _ hk ho' hi.same (fun e he hb hm => hi.done _ hm (hdeps e he hb)) hi.str (by omega) hi.grown fun v w' hv hs' hgr => ?_)
    have hg2 := gr_same hi.grown hgr
    refine ⟨hS w' hg2, ⟨hi.defers, by simp [Act.put, hi.size], fun s hs => ?_, fun j hj hl => ?_, hs'.mono (by omega), hg2⟩⟩
    · rw [getD_put, if_neg (hs k hk)]; exact hi.same s hs
    · by_cases e : k = j
      · subst e
        have : (a.put (some (d k)) v).tmps.getD (d k) undef = v := by
          rw [Array.getD_eq_getD_getElem?, getD_put, if_pos rfl, if_pos (by rw [hi.size]; exact hsz k hk)]; rfl
        rw [this]; exact hv
      · have hne : d k ≠ d j := by
          obtain ⟨x, hx⟩ := List.mem_iff_getElem?.1 hk
          obtain ⟨y, hy⟩ := List.mem_iff_getElem?.1 hj
          obtain ⟨hx1, hx2⟩ := List.getElem?_eq_some_iff.1 hx
          obtain ⟨hy1, hy2⟩ := List.getElem?_eq_some_iff.1 hy
          have hpw := List.pairwise_iff_getElem.1 hd
          rcases Nat.lt_trichotomy x y with h | h | h
          · have := hpw x y hx1 hy1 h; rwa [hx2, hy2] at this
          · subst h; rw [hx2] at hy2; exact absurd hy2 e
          · have := hpw y x hy1 hx1 h; rw [hx2, hy2] at this; exact fun h2 => this h2.symm
        have h1 : (a.put (some (d k)) v).tmps.getD (d j) undef = a.tmps.getD (d j) undef := by
          rw [Array.getD_eq_getD_getElem?, Array.getD_eq_getD_getElem?, getD_put, if_neg hne]
        rw [h1]
        rw [getD_set_ne false e] at hl
        exact hstab j _ w w' (hi.done j hj hl) hgr
  · intro listed a w hall hsz2 hi
    have hl : listed = phase.foldl (fun l k => l.setIfInBounds k true) listed0 := by
      have aux : ∀ (ph : List Nat) (l0 : Array Bool), (∀ k ∈ ph, k < l0.size) → (ph.foldl (fun l k => l.setIfInBounds k true) l0).size = l0.size ∧ ∀ j, (ph.foldl (fun l k => l.setIfInBounds k true) l0).getD j false = (l0.getD j false || ph.contains j) := by
        intro ph
        induction ph with
        | nil => intro l0 _; exact ⟨rfl, fun j => by simp⟩
        | cons k ph ih =>
          intro l0 hlt
          obtain ⟨e1, e2⟩ := ih (l0.setIfInBounds k true) (fun j hj => by simpa using hlt j (List.mem_cons_of_mem _ hj))
          rw [List.foldl_cons]
          refine ⟨by rw [e1]; simp, fun j => ?_⟩
          rw [e2 j]
          by_cases e : k = j
          · subst e
            have : (l0.setIfInBounds k true).getD k false = true := by simp [hlt k (List.mem_cons_self ..)]
            rw [this]; simp
          · rw [getD_set_ne false e, List.contains_cons]
            have : (j == k) = false := by simpa using fun h : j = k => e h.symm
            rw [this, Bool.false_or]
      obtain ⟨e1, e2⟩ := aux phase listed0 (fun k hk => by rw [h0]; exact (hp1 k hk).1)
      apply Array.ext
      · rw [e1, hsz2, h0]
      · intro j hj1 hj2
        have h3 := hall j
        rw [← e2 j] at h3
        simpa [hj1, hj2] using h3
    have hfr := hi.frame hd hsz
    rw [hfr, hl]
    exact hend _ w (fun k hk => hi.done k hk (by rw [hall k]; simp [hk])) (hi.str.mono (by omega)) hi.grown
end
end
end Go.Proofs.YtdhaelpacffnlaaGreatDoor
/- The order of strings: Compare and the walk's own words for it. Over any program. Conditions: none. -/
namespace Go.Proofs.YtdhaelpacffnlaaGreatDoor
section

/-! Lists of bytes. -/
theorem cb_range : ∀ (x y : List UInt8), Lib.compareBytes x y = -1 ∨ Lib.compareBytes x y = 0 ∨ Lib.compareBytes x y = 1
  | [], [] => .inr (.inl rfl)
  | [], _ :: _ => .inl rfl
  | _ :: _, [] => .inr (.inr rfl)
  | a :: x, b :: y => by
    unfold Lib.compareBytes
    split
    · exact .inl rfl
    · split
      · exact .inr (.inr rfl)
      · exact cb_range x y
theorem u8_tri {a b : UInt8} (h1 : ¬ a < b) (h2 : ¬ b < a) : a = b := by
  rw [UInt8.lt_iff_toNat_lt] at h1 h2
  exact UInt8.toNat_inj.1 (by omega)
theorem cb_zero : ∀ (x y : List UInt8), Lib.compareBytes x y = 0 ↔ x = y
  | [], [] => by simp [Lib.compareBytes]
  | [], _ :: _ => by simp [Lib.compareBytes]
  | _ :: _, [] => by simp [Lib.compareBytes]
  | a :: x, b :: y => by
    unfold Lib.compareBytes
    split
    · rename_i h
      constructor
      · intro h2; cases h2
      · intro h2; injection h2 with h3; subst h3; exact absurd h (UInt8.lt_irrefl _)
    · split
      · rename_i h
        constructor
        · intro h2; cases h2
        · intro h2; injection h2 with h3; subst h3; exact absurd h (UInt8.lt_irrefl _)
      · rename_i h1 h2
        have := u8_tri h1 h2
        subst this
        rw [cb_zero x y]
        simp
theorem cb_neg : ∀ (x y : List UInt8), Lib.compareBytes y x = - Lib.compareBytes x y
  | [], [] => rfl
  | [], _ :: _ => rfl
  | _ :: _, [] => rfl
  | a :: x, b :: y => by
    unfold Lib.compareBytes
    by_cases h1 : a < b
    · have h2 : ¬ b < a := fun h => by rw [UInt8.lt_iff_toNat_lt] at h1 h; omega
      rw [if_pos h1, if_neg h2, if_pos h1]; rfl
    · by_cases h2 : b < a
      · rw [if_pos h2, if_neg h1, if_pos h2]
      · rw [if_neg h1, if_neg h2, if_neg h2, if_neg h1]; exact cb_neg x y
theorem cb_trans : ∀ (x y z : List UInt8), Lib.compareBytes x y < 0 → Lib.compareBytes y z < 0 → Lib.compareBytes x z < 0
  | [], [], _, h, _ => by simp [Lib.compareBytes] at h
  | [], _ :: _, [], _, h => by simp [Lib.compareBytes] at h
  | [], _ :: _, _ :: _, _, _ => by simp [Lib.compareBytes]
  | _ :: _, [], _, h, _ => by simp [Lib.compareBytes] at h
  | _ :: _, _ :: _, [], _, h => by simp [Lib.compareBytes] at h
  | a :: x, b :: y, c :: z, h1, h2 => by
    unfold Lib.compareBytes at h1 h2 ⊢
    simp only [UInt8.lt_iff_toNat_lt] at h1 h2 ⊢
    split at h1
    · split at h2
      · rw [if_pos (by omega)]; decide
      · split at h2
        · exact absurd h2 (by decide)
        · rw [if_pos (by omega)]; decide
    · split at h1
      · exact absurd h1 (by decide)
      · split at h2
        · rw [if_pos (by omega)]; decide
        · split at h2
          · exact absurd h2 (by decide)
          · rw [if_neg (by omega), if_neg (by omega)]; exact cb_trans x y z h1 h2
theorem cb_less : ∀ (x y : List UInt8), Op.bytesLess x y = decide (Lib.compareBytes x y < 0)
  | [], [] => rfl
  | [], _ :: _ => rfl
  | _ :: _, [] => rfl
  | a :: x, b :: y => by
    unfold Op.bytesLess Lib.compareBytes
    rw [cb_less x y]
    by_cases h1 : a < b
    · rw [if_pos h1, decide_eq_true h1]; rfl
    · rw [if_neg h1, decide_eq_false h1]
      by_cases h2 : b < a
      · rw [if_pos h2]
        have : (a == b) = false := by rw [beq_eq_false_iff_ne]; rintro rfl; exact absurd h2 (UInt8.lt_irrefl _)
        rw [this]; rfl
      · rw [if_neg h2]
        have := u8_tri h1 h2
        subst this
        simp

/-! Strings. -/
def cmpS (a b : ByteArray) : Int := Lib.compareBytes a.data.toList b.data.toList
theorem cmpS_range (a b : ByteArray) : cmpS a b = -1 ∨ cmpS a b = 0 ∨ cmpS a b = 1 := cb_range _ _
theorem cmpS_zero {a b : ByteArray} : cmpS a b = 0 ↔ nb a = nb b := by
  unfold cmpS
  rw [cb_zero]
  constructor
  · intro h; unfold nb; rw [h]
  · intro h; rw [nb_inj h]
theorem cmpS_neg (a b : ByteArray) : cmpS b a = - cmpS a b := cb_neg _ _
theorem cmpS_trans {a b c : ByteArray} (h1 : cmpS a b < 0) (h2 : cmpS b c < 0) : cmpS a c < 0 := cb_trans _ _ _ h1 h2
theorem cmpS_eqr {a b c : ByteArray} (h : nb b = nb c) : cmpS a b = cmpS a c := by rw [nb_inj h]
theorem cmpS_eql {a b c : ByteArray} (h : nb b = nb c) : cmpS b a = cmpS c a := by rw [nb_inj h]
theorem ltS_cmp (a b : ByteArray) : Op.bytesLess a.toList b.toList = decide (cmpS a b < 0) := by
  rw [cb_less, ByteArray.toList_eq, ByteArray.toList_eq]; rfl
theorem leS_cmp (a b : ByteArray) : (Op.bytesLess a.toList b.toList || a.toList == b.toList) = decide (cmpS a b ≤ 0) := by
  rw [ltS_cmp]
  have h0 : (a.toList == b.toList) = decide (cmpS a b = 0) := by
    unfold cmpS
    rw [Bool.eq_iff_iff, beq_iff_eq, decide_eq_true_eq, cb_zero, ByteArray.toList_eq, ByteArray.toList_eq]
  rw [h0, Bool.eq_iff_iff]
  simp only [Bool.or_eq_true, decide_eq_true_eq]
  omega
end
end Go.Proofs.YtdhaelpacffnlaaGreatDoor
/- Contract of the generator of strings Some. Conditions: none. -/
namespace Go.Proofs.YtdhaelpacffnlaaGreatDoor
section
open Go.RowKit

/-- A string of at most so many bytes. -/
def StrBd (m : Nat) (v : Value) (_ : World) : Prop := ∃ s : ByteArray, v = .string s ∧ s.size ≤ m
/-- Cells that are such strings. -/
def StrsOk (k : Nat) (cs : List Value) : Prop := ∀ v ∈ cs, ∃ s : ByteArray, v = .string s ∧ s.size ≤ k
theorem StrsOk.nil (k : Nat) : StrsOk k [] := fun v hv => by cases hv
theorem StrsOk.cons {k : Nat} {s : ByteArray} {cs : List Value} (hs : s.size ≤ k) (h : StrsOk k cs) : StrsOk k (.string s :: cs) := by
  intro v hv
  rcases List.mem_cons.1 hv with rfl | hv
  · exact ⟨s, rfl, hs⟩
  · exact h v hv
set_option maxHeartbeats 2000000 in
theorem some_new (sb : Nat) (m : Int) (k : Nat) (W : World) (hs : Str W sb m) (hm : m ≤ 1152921504606846976) {g n : Nat} {cs : Array Value} (hg : W.heap.size = g) (hcs : StrsOk k cs.toList) (hn : cs.size = n) (h0 : 1 ≤ n) (h1 : n ≤ 1000) :
    Calls Tryz.prog 30 #[.pointer (some ⟨sb, 0, none⟩), .slice (some ⟨g, 0, none⟩) n n] (W.alloc (.cells cs 9)) (Drawn sb (m + 1) (StrBd k) W) := by
  subst hg
  have hlt := hs.lt
  have HS := Lib.hid (hs.alloc (.cells cs 9))
  have HB := Lib.hid (Blk.new W 9 cs)
  have HG := Lib.hid (gr_alloc (gr_refl W (some sb)) (.cells cs 9))
  have HCS := Lib.hid hcs; have HN := Lib.hid hn
  clear hs hcs hn
  generalize hW : W.alloc (.cells cs 9) = W1 at *
  clear hW
  go_enter Tryz.func30, Tryz.ntmps30
  go_wp2_with fail
  refine (next_any sb m _ _ HS.out hm (by omega) (by omega)).mono ?_
  rintro e w' ⟨v, rfl, ⟨r, hr1, hr2, rfl⟩, hs', hg'⟩
  have hr3 : r.toNat < cs.toList.length := by rw [Array.length_toList, HN.out]; omega
  obtain ⟨s, hs1, hs2⟩ := HCS.out _ (List.getElem_mem hr3)
  have hc : w'.cell? ⟨W.heap.size, r.toNat, none⟩ = some (.string s) := by
    rw [(HB.out.grown hg' (by simp; omega)).cell, ← hs1]
    rw [Array.getElem?_eq_getElem (by simpa using hr3)]
    simp
  have H' := Lib.hid hs'; clear hs'
  have HG' := Lib.hid (gr_same HG.out hg'); clear hg'
  go_wp2_with fail
  go_ret
  exact ⟨_, rfl, ⟨s, rfl, hs2⟩, H'.out, HG'.out⟩
end
end Go.Proofs.YtdhaelpacffnlaaGreatDoor
/- Contract of the generator Odd. Conditions: none. -/
namespace Go.Proofs.YtdhaelpacffnlaaGreatDoor
section
open Go.RowKit

set_option maxHeartbeats 1000000 in
theorem odd_any (sb : Nat) (m lo hi : Int) (w : World) (hs : Str w sb m) (hm : m ≤ 1000000000000) (h1 : -8589934592 ≤ lo) (h2 : lo ≤ hi) (h3 : hi ≤ 8589934592) :
    Calls Tryz.prog 33 #[.pointer (some ⟨sb, 0, none⟩), .int .i64 lo, .int .i64 hi] w (Drawn sb (m + 2) (IntIn (-1099511627776) 1099511627776) w) := by
  have hlt := hs.lt
  have HS := Lib.hid hs; clear hs
  have HG := Lib.hid (gr_refl w (some sb))
  go_enter Tryz.func33, Tryz.ntmps33
  go_wp2_with fail
  refine (flip_any sb _ 12 _ (by first | exact HS.out | exact HS.out.alloc _ | exact (HS.out.alloc _).alloc _ | exact ((HS.out.alloc _).alloc _).alloc _ | exact HS.out.drewN _ | exact HS.out.setCell (by simp; omega) _ | exact (HS.out.alloc _).setCell (by simp; omega) _ | exact (HS.out.setCell (by simp; omega) _).alloc _ | exact (HS.out.setCell (by simp; omega) _).drewN _ | exact (HS.out.alloc _).drewN _) (by omega) (by omega) (by omega)).mono ?_
  rintro e w1 ⟨v1, rfl, ⟨f1, rfl⟩, hs1, hg1⟩
  have z1 := hg1.size; try simp at z1
  try replace HZ := Lib.hid (HZ.out.grown hg1 (by simp; omega))
  try replace HP := Lib.hid (HP.out.grown hg1 (by simp; omega))
  try replace HGA := Lib.hid (HGA.out.kept hg1 (fun g e => by injection e with e; omega))
  try replace HY := Lib.hid (Own.kept HY.out hg1 (fun g e e' => by injection e with e; have := (HY.out.lt e').1; omega))
  replace HG := Lib.hid (gr_same (a := w) (by repeat (first | exact HG.out | refine gr_alloc ?_ _ | refine gr_drew ?_ | refine gr_drewN ?_ _ | refine gr_setCell ?_ (.inr (by simp; omega)) _)) hg1); clear hg1
  replace HS := Lib.hid hs1; clear hs1
  cases f1
  · go_wp2_with fail
    refine (range_any sb _ lo hi _ (by first | exact HS.out | exact HS.out.alloc _ | exact (HS.out.alloc _).alloc _ | exact ((HS.out.alloc _).alloc _).alloc _ | exact HS.out.drewN _ | exact HS.out.setCell (by simp; omega) _ | exact (HS.out.alloc _).setCell (by simp; omega) _ | exact (HS.out.setCell (by simp; omega) _).alloc _ | exact (HS.out.setCell (by simp; omega) _).drewN _ | exact (HS.out.alloc _).drewN _) (by omega) (by omega) (by omega) (by omega)).mono ?_
    rintro e w2 ⟨v2, rfl, ⟨r2, hlo2, hhi2, rfl⟩, hs2, hg2⟩
    have z2 := hg2.size; try simp at z2
    try replace HZ := Lib.hid (HZ.out.grown hg2 (by simp; omega))
    try replace HP := Lib.hid (HP.out.grown hg2 (by simp; omega))
    try replace HGA := Lib.hid (HGA.out.kept hg2 (fun g e => by injection e with e; omega))
    try replace HY := Lib.hid (Own.kept HY.out hg2 (fun g e e' => by injection e with e; have := (HY.out.lt e').1; omega))
    replace HG := Lib.hid (gr_same (a := w) (by repeat (first | exact HG.out | refine gr_alloc ?_ _ | refine gr_drew ?_ | refine gr_drewN ?_ _ | refine gr_setCell ?_ (.inr (by simp; omega)) _)) hg2); clear hg2
    replace HS := Lib.hid hs2; clear hs2
    go_wp2_with fail
    go_ret
    exact ⟨_, rfl, ⟨r2, by omega, by omega, rfl⟩, HS.out.mono (by omega), HG.out⟩
  · go_wp2_with fail
    refine (pick_new sb _ [lo - 1, hi + 1, lo, hi, -1099511627776, 1099511627776] _ (by first | exact HS.out | exact HS.out.alloc _ | exact (HS.out.alloc _).alloc _ | exact ((HS.out.alloc _).alloc _).alloc _ | exact HS.out.drewN _ | exact HS.out.setCell (by simp; omega) _ | exact (HS.out.alloc _).setCell (by simp; omega) _ | exact (HS.out.setCell (by simp; omega) _).alloc _ | exact (HS.out.setCell (by simp; omega) _).drewN _ | exact (HS.out.alloc _).drewN _) (by omega) (by simp) rfl rfl (by simp) (by simp)).mono ?_
    rintro e w2 ⟨v2, rfl, ⟨r2, hr2, rfl⟩, hs2, hg2⟩
    have HR2 := Lib.hid hr2; clear hr2
    have z2 := hg2.size; try simp at z2
    try replace HZ := Lib.hid (HZ.out.grown hg2 (by simp; omega))
    try replace HP := Lib.hid (HP.out.grown hg2 (by simp; omega))
    try replace HGA := Lib.hid (HGA.out.kept hg2 (fun g e => by injection e with e; omega))
    try replace HY := Lib.hid (Own.kept HY.out hg2 (fun g e e' => by injection e with e; have := (HY.out.lt e').1; omega))
    replace HG := Lib.hid (gr_same (a := w) (by repeat (first | exact HG.out | refine gr_alloc ?_ _ | refine gr_drew ?_ | refine gr_drewN ?_ _ | refine gr_setCell ?_ (.inr (by simp; omega)) _)) hg2); clear hg2
    replace HS := Lib.hid hs2; clear hs2
    go_wp2_with fail
    go_ret
    refine ⟨_, rfl, ⟨r2, ?_, ?_, rfl⟩, HS.out.mono (by omega), HG.out⟩
    · have h := HR2.out; simp at h; omega
    · have h := HR2.out; simp at h; omega
end
end Go.Proofs.YtdhaelpacffnlaaGreatDoor
/- Words for what the operations of a drawn region answer: slices laid for calls, numbers. Conditions: none. -/
namespace Go.Proofs.YtdhaelpacffnlaaGreatDoor
section
open Go.RowKit

/-- A slice just laid for a call. -/
def SlOf (sb : Nat) (t : TypeId) (n : Nat) (cs : Array Value) (v : Value) (w : World) : Prop := ∃ g, v = .slice (some ⟨g, 0, none⟩) n n ∧ sb < g ∧ Blk w g t cs
def IntV (v : Value) (_ : World) : Prop := ∃ z : Int, v = .int .i64 z
theorem SlOf.grown {sb n : Nat} {t : TypeId} {cs : Array Value} {v : Value} {w w' : World} (h : SlOf sb t n cs v w) (hg : w.grownBy w' (some sb)) : SlOf sb t n cs v w' := by
  obtain ⟨g, h1, h2, h3⟩ := h
  exact ⟨g, h1, h2, h3.grown hg (by simp; omega)⟩
/-- What is said of some operations' results. -/
def RSpec (specs : List (Nat × (Value → World → Prop))) (k : Nat) (v : Value) (w : World) : Prop := match specs.lookup k with | some D => D v w | none => True
theorem RSpec.grown {sb k : Nat} {v : Value} {w w' : World} {specs : List (Nat × (Value → World → Prop))} (hst : ∀ p ∈ specs, ∀ v w w', p.2 v w → w.grownBy w' (some sb) → p.2 v w') (h : RSpec specs k v w) (hg : w.grownBy w' (some sb)) : RSpec specs k v w' := by
  induction specs with
  | nil => trivial
  | cons p l ih =>
    obtain ⟨j, D⟩ := p
    unfold RSpec at h ⊢
    rw [List.lookup_cons] at h ⊢
    by_cases e : k = j
    · subst e
      simp only [beq_self_eq_true] at h ⊢
      exact hst _ (List.mem_cons_self ..) v w w' h hg
    · have e1 : (k == j) = false := by simpa using e
      rw [e1] at h ⊢
      exact ih (fun p hp => hst p (List.mem_cons_of_mem _ hp)) h
end
end Go.Proofs.YtdhaelpacffnlaaGreatDoor
/- Sizes of strings that are made. Conditions: none. -/
namespace Go.Proofs.YtdhaelpacffnlaaGreatDoor
section
theorem enc_size (n : Int) : (Utf8.encode n).size ≤ 4 := by
  unfold Utf8.encode
  dsimp only
  split <;> (try split) <;> (try split) <;> (try split) <;> first | (show 1 ≤ 4; omega) | (show 2 ≤ 4; omega) | (show 3 ≤ 4; omega) | (show 4 ≤ 4; omega) | fail
theorem ext_size (s : ByteArray) (a b : Nat) : (s.extract a b).size ≤ s.size := by
  rw [← nb_len, nb_extract, List.length_drop, List.length_take, nb_len]; omega
theorem app_size (s t : ByteArray) : (s ++ t).size = s.size + t.size := by
  rw [← nb_len, nb_append, List.length_append, nb_len, nb_len]
end
end Go.Proofs.YtdhaelpacffnlaaGreatDoor
/- Contract of the generator of strings Changed. Conditions: none. -/
namespace Go.Proofs.YtdhaelpacffnlaaGreatDoor
section
open Go.RowKit

set_option maxRecDepth 100000 in
set_option maxHeartbeats 4000000 in
theorem changed_any (sb : Nat) (m : Int) (t u : ByteArray) (w : World) (hs : Str w sb m) (hm : m ≤ 1152921504606846970) (ht : t.size ≤ 1000000) (hu : u.size ≤ 1000) :
    Calls Tryz.prog 80 #[.pointer (some ⟨sb, 0, none⟩), .string t, .string u] w (Drawn sb (m + 3) (StrBd (2 * t.size + u.size + 4)) w) := by
  have HS := Lib.hid hs; clear hs
  by_cases h0 : nb t = [] ∨ nb u = []
  · rcases h0 with h0 | h0
    · have e1 : t.toList = [] := str_nil h0
      go_enter Tryz.func80, Tryz.ntmps80
      go_wp2_with fail
      go_ret
      exact ⟨_, rfl, ⟨u, rfl, by omega⟩, HS.out.mono (by omega), gr_refl _ _⟩
    · have e2 : u.toList = [] := str_nil h0
      by_cases h1 : nb t = []
      · have e1 : t.toList = [] := str_nil h1
        go_enter Tryz.func80, Tryz.ntmps80
        go_wp2_with fail
        go_ret
        exact ⟨_, rfl, ⟨u, rfl, by omega⟩, HS.out.mono (by omega), gr_refl _ _⟩
      · obtain ⟨e1, e1', _⟩ := str_full h1
        go_enter Tryz.func80, Tryz.ntmps80
        go_wp2_with fail
        go_ret
        exact ⟨_, rfl, ⟨u, rfl, by omega⟩, HS.out.mono (by omega), gr_refl _ _⟩
  · obtain ⟨e1, e1', t0⟩ := str_full (fun h => h0 (.inl h))
    obtain ⟨e2, e2', u0⟩ := str_full (fun h => h0 (.inr h))
    clear h0
    go_enter Tryz.func80, Tryz.ntmps80
    go_wp2_with fail
    refine (next_any sb m _ _ HS.out (by omega) (by omega) (by omega)).mono ?_
    rintro e w1 ⟨v1, rfl, ⟨r1, r10, r11, rfl⟩, hs1, hg1⟩
    have HS1 := Lib.hid hs1; have HG1 := Lib.hid hg1; clear hs1 hg1
    obtain ⟨i, rfl⟩ : ∃ i : Nat, r1 = i := ⟨r1.toNat, by omega⟩
    go_wp2_with fail
    refine (next_any sb _ _ _ HS1.out (by omega) (by omega) (by omega)).mono ?_
    rintro e w2 ⟨v2, rfl, ⟨r2, r20, r21, rfl⟩, hs2, hg2⟩
    have HS2 := Lib.hid hs2; have HG2 := Lib.hid (gr_same HG1.out hg2); clear hs2 hg2
    obtain ⟨j, rfl⟩ : ∃ j : Nat, r2 = j := ⟨r2.toNat, by omega⟩
    have hj : j < u.size := by omega
    obtain ⟨b, hb⟩ : ∃ b, u[j].toNat = b := ⟨_, rfl⟩
    have b256 : b < 256 := by rw [← hb]; exact UInt8.toNat_lt _
    go_wp2_with fail
    refine (next_any sb _ _ _ HS2.out (by omega) (by omega) (by omega)).mono ?_
    rintro e w3 ⟨v3, rfl, ⟨r3, r30, r31, rfl⟩, hs3, hg3⟩
    have HS3 := Lib.hid hs3; have HG3 := Lib.hid (gr_same HG2.out hg3); clear hs3 hg3
    obtain ⟨x, hx⟩ : ∃ x, t.extract 0 i = x := ⟨_, rfl⟩
    obtain ⟨y, hy⟩ : ∃ y, t.extract (i + 1) t.size = y := ⟨_, rfl⟩
    obtain ⟨z, hz⟩ : ∃ z, t.extract i t.size = z := ⟨_, rfl⟩
    obtain ⟨c, hc⟩ : ∃ c, Utf8.encode (b : Int) = c := ⟨_, rfl⟩
    have xs : x.size ≤ i := by rw [← hx, ← nb_len, nb_extract, List.drop_zero, List.length_take]; omega
    have ys : y.size + (i + 1) ≤ t.size := by rw [← hy, ← nb_len, nb_extract, List.length_drop, List.length_take, nb_len]; omega
    have zs : z.size + i ≤ t.size := by rw [← hz, ← nb_len, nb_extract, List.length_drop, List.length_take, nb_len]; omega
    have cs : c.size ≤ 4 := by rw [← hc]; exact enc_size _
    obtain ⟨xc, hxc⟩ : ∃ xc, x ++ c = xc := ⟨_, rfl⟩
    have xcs : xc.size ≤ i + 4 := by rw [← hxc, app_size]; omega
    have a1 : ¬ 9223372036854775807 < x.size + c.size := by omega
    have a2 : ¬ 9223372036854775807 < xc.size + y.size := by omega
    have a3 : ¬ 9223372036854775807 < xc.size + z.size := by omega
    have a4 : ¬ 9223372036854775807 < x.size + y.size := by omega
    have l0 : (0 : Int) ≤ (i : Int) := by omega
    have l1 : (i : Int) ≤ (t.size : Int) := by omega
    have l2 : (0 : Int) ≤ (i : Int) + 1 := by omega
    have l3 : (i : Int) + 1 ≤ (t.size : Int) := by omega
    have l4 : IntKind.i64.wrap ((i : Int) + 1) = (i : Int) + 1 := IntWalk.i64_in _ (by omega)
    have l5 : ((i : Int) + 1).toNat = i + 1 := by omega
    rcases (by omega : r3 = 0 ∨ r3 = 1 ∨ r3 = 2) with rfl | rfl | rfl
    · go_wp2_with fail
      go_quiet (fail)
      go_wp2_with fail
      go_ret
      exact ⟨_, rfl, ⟨_, rfl, by rw [app_size]; omega⟩, (HS3.out.mono (by omega)).drewN _, gr_drewN HG3.out _⟩
    · go_wp2_with fail
      go_quiet (fail)
      go_wp2_with fail
      go_ret
      exact ⟨_, rfl, ⟨_, rfl, by rw [app_size]; omega⟩, (HS3.out.mono (by omega)).drewN _, gr_drewN HG3.out _⟩
    · go_wp2_with fail
      go_quiet (fail)
      go_wp2_with fail
      go_ret
      exact ⟨_, rfl, ⟨_, rfl, by rw [app_size]; omega⟩, (HS3.out.mono (by omega)).drewN _, gr_drewN HG3.out _⟩
end
end Go.Proofs.YtdhaelpacffnlaaGreatDoor
/- Contract of errs: the first error of some. Conditions: none. -/
namespace Go.Proofs.YtdhaelpacffnlaaGreatDoor
section
open Go.RowKit

/-- The first of some errors. -/
def firstE (l : List Int) : Int := (l.find? (fun z => z != 0)).getD 0
theorem firstE_cons (a : Int) (l : List Int) : firstE (a :: l) = if a = 0 then firstE l else a := by
  unfold firstE
  by_cases h : a = 0
  · subst h; rfl
  · rw [if_neg h, List.find?_cons_of_pos (by simpa using h)]; rfl
theorem firstE_nil : firstE [] = 0 := rfl
set_option maxHeartbeats 2000000 in
theorem errs_run (lo : Nat) (A : Option Addr) (n c : Nat) (l : List Int) (w : World) (h : Ints .i64 w lo A n c l) (hn : n ≤ 1000000000000) :
    Calls Tryz.prog 11 #[.slice A n c] w (Same (.int .i64 (firstE l)) w) := by
  have H := Lib.hid h; clear h
  go_enter Tryz.func11, Tryz.ntmps11
  go_wp2_with fail
  go_loop [4, 7] (fun _ t => ∃ i : Nat, i ≤ n ∧ t = .int .i64 i ∧ firstE l = firstE (l.drop i)) (fun _ t => n - (intOf t).toNat)
  case atStart => exact ⟨0, Nat.zero_le _, rfl, rfl⟩
  case round =>
    obtain ⟨i, hi, rfl, ha⟩ := hrel
    have HA := Lib.hid ha; clear ha
    by_cases hlt : i < n
    · obtain ⟨g, o, z, rfl, _, _, hz, hc⟩ := H.out.get hlt
      have HZ := Lib.hid (show firstE l = if z = 0 then firstE (l.drop (i + 1)) else z by
        rw [HA.out, ← firstE_cons]
        obtain ⟨hl, hz2⟩ := List.getElem?_eq_some_iff.1 hz
        rw [List.drop_eq_getElem_cons hl, hz2])
      clear hz
      by_cases hp : z = 0
      · subst hp
        go_wp2_with fail
        go_round
        case rel => exact ⟨i + 1, by omega, by go_num, by rw [HZ.out]; rfl⟩
        case measure => simp [intOf]; omega
      · have hpb : (z != 0) = true := by simpa using hp
        have HP := Lib.hid (show firstE l = z by rw [HZ.out, if_neg hp])
        go_wp2_with fail
        go_ret
        exact ⟨by rw [HP.out]; rfl, rfl⟩
    · obtain rfl : i = n := by omega
      go_wp2_with fail
      go_ret
      exact ⟨by rw [HA.out, List.drop_eq_nil_of_le (by rw [H.out.len]; exact Nat.le_refl _)]; rfl, rfl⟩
/-- The errors were just laid out for the call. -/
theorem errs_new (l : List Int) (W : World) {g n : Nat} {cs : Array Value} (hg : W.heap.size = g) (hcs : cs = (l.map (Value.int .i64)).toArray) (hn : l.length = n) (hn2 : n ≤ 1000) :
    Calls Tryz.prog 11 #[.slice (some ⟨g, 0, none⟩) n n] (W.alloc (.cells cs 34)) (RetV (.int .i64 (firstE l)) W) := by
  subst hg; subst hcs
  refine (errs_run _ _ n n l _ (Reads.blk (Blk.new W _ _) 1 n (by simp [hn])) (by omega)).mono ?_
  rintro e w' ⟨rfl, rfl⟩
  exact ⟨rfl, gr_alloc (gr_refl _ _) _⟩
end
end Go.Proofs.YtdhaelpacffnlaaGreatDoor

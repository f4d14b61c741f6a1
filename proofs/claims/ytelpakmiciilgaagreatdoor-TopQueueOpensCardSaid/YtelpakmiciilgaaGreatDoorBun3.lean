/- Laws on structs in memory: loaded and stored whole; results that lie in memory. Over any program. Conditions: none. -/
import Derived.Test.YtelpakmiciilgaaGreatDoorMem
import Derived.Laws.Rows
import Derived.Laws.Tables
import Derived.Test.YtelpakmiciilgaaGreatDoorRows
import Derived.WalkSpells
import Derived.BigGuardPart
import Derived.Deep.RegionHeld3
import Derived.Deep.RegionLaw
import Derived.Deep.DeepFit
import Derived.Deep.QuietTactic
import Derived.BigQuiet
import Derived.Outline
import Derived.IntWalk
import Derived.Deep.DeepCutAuto
import Derived.Lib.Bytealg
import Derived.Laws.CopyRow
import Derived.Sort.Grow
import Derived.Test.YtelpakmiciilgaaGreatDoorStream
import Derived.Test.YtelpakmiciilgaaGreatDoorBun1
import Derived.Test.YtelpakmiciilgaaGreatDoorBun2
import Derived.Laws.BytesString
import Derived.Lib.BufferRead
namespace Go.Proofs.YtelpakmiciilgaaGreatDoor
section
open Go.RowKit

/-- Type ty is a struct or an array of n cells. -/
def StructT (P : Program) (ty : TypeId) (n : Nat) : Prop := ∃ d, P.underlying ty = some d ∧ (match d with | .struct _ | .array _ _ => true | _ => false) = true ∧ (P.info? ty).map (·.size) = some n

/-- What a store of a whole variable leaves. -/
def Stored (w : World) (g : Nat) (t : TypeId) (cs : Array Value) (w' : World) : Prop := Blk w' g t cs ∧ w.grownBy w' (some g) ∧ w'.heap.size = w.heap.size

section
variable {P : Program} {w : World} {o : Oper} {a : Act} {K : Act → World → Prop} {Q : Exit → Act → World → Prop}

theorem wp_load_all {ty : TypeId} {n : Nat} (T : StructT P ty n) (x : Operand) (ho : o.op = .load ty x) (g : Nat) (hx : a.eval x = .pointer (some ⟨g, 0, none⟩)) (t : TypeId) (cs : Array Value) (hb : Blk w g t cs) (hn : cs.size = n)
    (h : K (a.put o.dst (.agg cs)) w) : o.wp P a w K Q := by
  obtain ⟨d, h1, h2, h3⟩ := T
  exact wp_load_row ty x ho g hx t cs (0, 0) d hb h1 (by cases d <;> first | rfl | (cases h2)) (by rw [hn]; exact h3) h

theorem run_store_all {ty : TypeId} {n : Nat} (T : StructT P ty n) {g : Nat} {t : TypeId} {cur cs : Array Value} (hb : Blk w g t cur) (hn : cs.size = n) (hc : cur.size = n) (h1 : ∀ u ∈ cs.toList, u.oneCell' = true) :
    ∃ w', (Instr.storeAt ty (.pointer (some ⟨g, 0, none⟩)) (.agg cs)).run P w = .ok () w' ∧ Stored w g t cs w' := by
  obtain ⟨d, hd1, hd2, hd3⟩ := T
  cases hq : P.info? ty with
  | none => simp [hq] at hd3
  | some i =>
    have hs : i.size = n := by simpa [hq] using hd3
    have hrun := run_storeCells_from (P := P) g t cs.toList 0 cur w hb (by simp; omega) h1
    refine ⟨w.setRow g cs, ?_, ?_, ⟨rfl, rfl, rfl, ?_, ?_⟩, ?_⟩
    · simp only [List.take_zero, List.nil_append, Array.toArray_toList] at hrun
      simp [Instr.storeAt, Instr.sureAddr, storeVar, sizeOf, typeInfo, hq, hs, Value.cells, hn, hrun]
    · have hlt := hb.lt
      unfold Blk at hb ⊢
      simp [World.setRow, Array.getElem?_modify, hb]
    · simp [World.setRow]
    · intro k hk hne
      simp only [World.setRow, Array.getElem?_modify]
      rw [if_neg (fun e => hne (by rw [e]))]
    · simp [World.setRow]

theorem wp_store_all {ty : TypeId} {n : Nat} (T : StructT P ty n) (x y : Operand) (ho : o.op = .store ty x y) (g : Nat) (hx : a.eval x = .pointer (some ⟨g, 0, none⟩)) (t : TypeId) (cur cs : Array Value) (hy : a.eval y = .agg cs) (hb : Blk w g t cur)
    (hn : cs.size = n) (hc : cur.size = n) (h1 : ∀ u ∈ cs.toList, u.oneCell' = true) (h : ∀ w', Stored w g t cs w' → K (a.put o.dst undef) w') : o.wp P a w K Q := by
  obtain ⟨w', hrun, hst⟩ := run_store_all (w := w) T hb hn hc h1
  unfold Oper.wp execOp
  simp only [ho, hx, hy, Sem.run_bind, Sem.run_pure, Result.andThen_ok, hrun]
  exact h w' hst

variable {ops : Array Oper} {rest : List Oper}
/-- A variable of a struct type, loaded whole. -/
theorem wpl_load_all {ty : TypeId} {n : Nat} (T : StructT P ty n) (hgd : o.guard = none) (x : Operand) (ho : o.op = .load ty x) (g : Nat) (hx : a.eval x = .pointer (some ⟨g, 0, none⟩)) (t : TypeId) (cs : Array Value) (hb : Blk w g t cs) (hn : cs.size = n)
    (h : wpList P ops Q rest (a.put o.dst (.agg cs)) w) : wpList P ops Q (o :: rest) a w :=
  wpList_plain hgd fun _ hK => wp_load_all T x ho g hx t cs hb hn (hK _ _ h)
/-- A variable of a struct type, stored whole. -/
theorem wpl_store_all {ty : TypeId} {n : Nat} (T : StructT P ty n) (hgd : o.guard = none) (x y : Operand) (ho : o.op = .store ty x y) (g : Nat) (hx : a.eval x = .pointer (some ⟨g, 0, none⟩)) (t : TypeId) (cur cs : Array Value) (hy : a.eval y = .agg cs) (hb : Blk w g t cur)
    (hn : cs.size = n) (hc : cur.size = n) (h1 : ∀ u ∈ cs.toList, u.oneCell' = true) (h : ∀ w', Stored w g t cs w' → wpList P ops Q rest (a.put o.dst undef) w') : wpList P ops Q (o :: rest) a w :=
  wpList_plain hgd fun _ hK => wp_store_all T x y ho g hx t cur cs hy hb hn hc h1 fun w' hs => hK _ _ (h w' hs)
theorem step_load_all {ty : TypeId} {n : Nat} {E' : Prop} (T : StructT P ty n) (hgd : o.guard = none) (x : Operand) (ho : o.op = .load ty x) (g : Nat) (hx : a.eval x = .pointer (some ⟨g, 0, none⟩)) (t : TypeId) (cs : Array Value) (hb : Blk w g t cs) (hn : cs.size = n)
    (h : K (a.put o.dst (.agg cs)) w) : if Region.wanted o (yielded ops a.tmps) = true then Oper.wp P o a w K Q else E' := by
  have hw : Region.wanted o (yielded ops a.tmps) = true := by simp [Region.wanted, hgd]
  rw [if_pos hw]
  exact wp_load_all T x ho g hx t cs hb hn h
theorem step_store_all {ty : TypeId} {n : Nat} {E' : Prop} (T : StructT P ty n) (hgd : o.guard = none) (x y : Operand) (ho : o.op = .store ty x y) (g : Nat) (hx : a.eval x = .pointer (some ⟨g, 0, none⟩)) (t : TypeId) (cur cs : Array Value) (hy : a.eval y = .agg cs) (hb : Blk w g t cur)
    (hn : cs.size = n) (hc : cur.size = n) (h1 : ∀ u ∈ cs.toList, u.oneCell' = true) (h : ∀ w', Stored w g t cs w' → K (a.put o.dst undef) w') : if Region.wanted o (yielded ops a.tmps) = true then Oper.wp P o a w K Q else E' := by
  have hw : Region.wanted o (yielded ops a.tmps) = true := by simp [Region.wanted, hgd]
  rw [if_pos hw]
  exact wp_store_all T x y ho g hx t cur cs hy hb hn hc h1 h
end

section
variable {P : Program} {w : World} {fn : Func} {a : Act} {R : Ending → World → Prop}
/-- The one result lies in memory. -/
theorem ret_cell {ty : TypeId} {n : Nat} (T : StructT P ty n) {p : Tmp} (hr : fn.results = #[.cell p ty]) (g : Nat) (t : TypeId) (cs : Array Value) (hp : a.tmps.getD p undef = .pointer (some ⟨g, 0, none⟩)) (hb : Blk w g t cs) (hn : cs.size = n)
    (hd : a.defers = []) (h : R (.returned (.agg cs)) w) : bodyPost P fn R .ret a w := by
  obtain ⟨d, h1, h2, h3⟩ := T
  exact bodyPost_ret (results_cell_row hr a.tmps w g t cs (0, 0) d hp hb h1 (by cases d <;> first | rfl | (cases h2)) (by rw [hn]; exact h3)) hd h
/-- Two results, the first one in memory. -/
theorem ret_cell_tmp {ty : TypeId} {n : Nat} (T : StructT P ty n) {p q : Tmp} (hr : fn.results = #[.cell p ty, .tmp q]) (g : Nat) (t : TypeId) (cs : Array Value) (v : Value) (hp : a.tmps.getD p undef = .pointer (some ⟨g, 0, none⟩)) (hq : a.tmps.getD q undef = v) (hb : Blk w g t cs) (hn : cs.size = n)
    (hd : a.defers = []) (h : R (.returned (.tuple #[.agg cs, v])) w) : bodyPost P fn R .ret a w := by
  obtain ⟨d, h1, h2, h3⟩ := T
  refine bodyPost_ret (v := .tuple #[.agg cs, v]) ?_ hd h
  have hp' : a.tmps[p]?.getD undef = .pointer (some ⟨g, 0, none⟩) := by simpa using hp
  have hq' : a.tmps[q]?.getD undef = v := by simpa using hq
  simp [results, hr, hp', hq', asAddr, run_loadVar_row w g t ty cs (0, 0) d hb h1 (by cases d <;> first | rfl | (cases h2)) (by rw [hn]; exact h3)]
end
end
end Go.Proofs.YtelpakmiciilgaaGreatDoor
/- Words for what functions answer; the document's 'in'. Conditions: none. -/
namespace Go.Proofs.YtelpakmiciilgaaGreatDoor
section
open Go.RowKit

/-- A function that answers v and, of what was there, changes nothing. -/
def RetV (v : Value) (w : World) (e : Ending) (w' : World) : Prop := e = .returned v ∧ w.grownBy w' none
/-- A function that answers a value of which P holds and, of what was there, changes nothing. -/
def RetP (P : Value → World → Prop) (w : World) (e : Ending) (w' : World) : Prop := ∃ v, e = .returned v ∧ P v w' ∧ w.grownBy w' none
/-- A function that only computes. -/
def Same (v : Value) (w : World) (e : Ending) (w' : World) : Prop := e = .returned v ∧ w = w'

/-- Is a number from lo to hi? -/
def inB (n lo hi : Int) : Bool := decide (lo ≤ n) && decide (n ≤ hi)
end
end Go.Proofs.YtelpakmiciilgaaGreatDoor
/- Contracts of strings.IndexByte. Conditions: none. -/
namespace Go.Proofs.YtelpakmiciilgaaGreatDoor
section
open Go.RowKit

set_option maxHeartbeats 2000000 in
theorem slIndexByte_any (s : ByteArray) (c : Int) (w : World) :
    Calls Tryz.prog 82 #[.string s, .int .u8 c] w (Same (.int .i64 (Lib.indexByte s.data.toList c.toNat.toUInt8)) w) := by
  have hcf : ∀ w, (callFunc 92 #[.string s, .int .u8 c]).run Tryz.prog w = .ok (.value (.int .i64 (Lib.indexByte s.data.toList c.toNat.toUInt8))) w := fun w => by
    rw [run_callFunc_extern Tryz.func92 (by kernel_rfl) (by kernel_rfl) (by kernel_rfl) (e := Extern.BytealgIndexByte.indexByte) (by kernel_rfl), Lib.run_indexByteString]
    rfl
  go_enter Tryz.func82, Tryz.ntmps82
  go_wp2_with fail
  go_ret
  exact ⟨rfl, rfl⟩
set_option maxHeartbeats 2000000 in
theorem indexByte_any (s : ByteArray) (c : Int) (w : World) :
    Calls Tryz.prog 70 #[.string s, .int .u8 c] w (Same (.int .i64 (Lib.indexByte s.data.toList c.toNat.toUInt8)) w) := by
  go_enter Tryz.func70, Tryz.ntmps70
  go_wp2_with (first
    | (go_at_call 82; refine (slIndexByte_any _ _ _).mono ?_; rintro e w' ⟨rfl, rfl⟩)
    | fail)
  go_ret
  exact ⟨rfl, rfl⟩
end
end Go.Proofs.YtelpakmiciilgaaGreatDoor
/- Laws on slices whose elements are structs of several cells: read, stored, appended. Over any program. Conditions: none. -/
namespace Go.Proofs.YtelpakmiciilgaaGreatDoor
section
open Go.RowKit

/-! Rows of k cells, one behind the other. -/
section
variable {α : Type} {row : α → List Value} {k : Nat}
theorem flat_len (hrow : ∀ a, (row a).length = k) (l : List α) : (l.flatMap row).length = l.length * k := by
  induction l with
  | nil => simp
  | cons a l ih => simp [List.flatMap_cons, hrow, ih, Nat.succ_mul]; omega
theorem flat_get (hrow : ∀ a, (row a).length = k) (l : List α) (i j : Nat) (hj : j < k) : (l.flatMap row)[i * k + j]? = (l[i]?).bind fun a => (row a)[j]? := by
  induction l generalizing i with
  | nil => simp
  | cons a l ih =>
    rw [List.flatMap_cons]
    cases i with
    | zero => rw [List.getElem?_append_left (by rw [hrow]; omega)]; simp
    | succ i =>
      rw [List.getElem?_append_right (by rw [hrow, Nat.succ_mul]; omega), hrow, show (i + 1) * k + j - k = i * k + j by rw [Nat.succ_mul]; omega, ih]
      simp
theorem flat_ext (hrow : ∀ a, (row a).length = k) (hk : 0 < k) {l : List α} {xs : List Value} (hl : xs.length = l.length * k) (h : ∀ i j a, l[i]? = some a → j < k → xs[i * k + j]? = (row a)[j]?) : xs = l.flatMap row := by
  apply List.ext_getElem?
  intro q
  have hq : q = q / k * k + q % k := by rw [Nat.mul_comm]; exact (Nat.div_add_mod q k).symm
  have hm := Nat.mod_lt q hk
  generalize hi : q / k = i at hq hm
  generalize hjq : q % k = j at hq hm
  subst hq
  rw [flat_get hrow l i j hm]
  cases hli : l[i]? with
  | none =>
    have hle : l.length ≤ i := List.getElem?_eq_none_iff.1 hli
    have : l.length * k ≤ i * k := Nat.mul_le_mul_right _ hle
    rw [List.getElem?_eq_none (by omega)]; rfl
  | some a => rw [h i j a hli hm]; rfl
theorem flat_set (hrow : ∀ a, (row a).length = k) (hk : 0 < k) {l : List α} {i : Nat} {a a' : α} (hi : l[i]? = some a) {ys : List Value} (j : Nat) (hj : j + ys.length ≤ k) (hr : row a' = (row a).take j ++ ys ++ (row a).drop (j + ys.length)) :
    (l.flatMap row).take (i * k + j) ++ ys ++ (l.flatMap row).drop (i * k + j + ys.length) = (l.set i a').flatMap row := by
  have hlen := flat_len hrow l
  have hil : i < l.length := (List.getElem?_eq_some_iff.1 hi).1
  have hik : i * k + k ≤ l.length * k := by have := Nat.mul_le_mul_right k (show i + 1 ≤ l.length by omega); rw [Nat.succ_mul] at this; exact this
  refine flat_ext hrow hk (by simp [hlen]; omega) ?_
  intro p q b hb hq
  have hra := hrow a
  rw [List.getElem?_set] at hb
  by_cases hip : i = p
  · subst hip
    rw [if_pos rfl, if_pos hil] at hb
    injection hb with hb
    subst hb
    rw [hr]
    by_cases h1 : q < j
    · rw [List.append_assoc, List.append_assoc, List.getElem?_append_left (by simp [hlen]; omega), List.getElem?_append_left (by simp [hra]; omega), List.getElem?_take, List.getElem?_take, if_pos (by omega), if_pos h1, flat_get hrow l i q hq, hi]
      rfl
    · by_cases h2 : q < j + ys.length
      · rw [List.getElem?_append_left (by simp [hlen]; omega), List.getElem?_append_right (by simp [hlen]; omega), List.getElem?_append_left (by simp [hra]; omega), List.getElem?_append_right (by simp [hra]; omega)]
        simp only [List.length_take, hlen, hra]
        congr 1
        omega
      · rw [List.getElem?_append_right (by simp [hlen]; omega), List.getElem?_append_right (by simp [hra]; omega), List.getElem?_drop, List.getElem?_drop]
        simp only [List.length_take, List.length_append, hlen, hra]
        rw [show i * k + j + ys.length + (i * k + q - (min (i * k + j) (l.length * k) + ys.length)) = i * k + q by omega, flat_get hrow l i q hq, hi]
        show (row a)[q]? = _
        congr 1
        omega
  · rw [if_neg hip] at hb
    have h0 : (l.flatMap row)[p * k + q]? = (row b)[q]? := by rw [flat_get hrow l p q hq, hb]; rfl
    rw [← h0]
    rcases Nat.lt_or_gt_of_ne hip with h1 | h1
    · have : (i + 1) * k ≤ p * k := Nat.mul_le_mul_right k h1
      rw [Nat.succ_mul] at this
      rw [List.getElem?_append_right (by simp [hlen]; omega), List.getElem?_drop]
      simp only [List.length_take, List.length_append, hlen]
      congr 1
      omega
    · have : (p + 1) * k ≤ i * k := Nat.mul_le_mul_right k h1
      rw [Nat.succ_mul] at this
      rw [List.append_assoc, List.getElem?_append_left (by simp [hlen]; omega), List.getElem?_take, if_pos (by omega)]
end

/-! Loads of structs that lie anywhere. -/
section
variable {P : Program} {w : World} {o : Oper} {a : Act} {K : Act → World → Prop} {Q : Exit → Act → World → Prop} {ops : Array Oper} {rest : List Oper}
theorem run_load_at {ty : TypeId} {n : Nat} (T : StructT P ty n) {p : Addr} {cs : List Value} (hn : cs.length = n) (hc : ∀ j u, cs[j]? = some u → w.cell? (p.add j) = some u) :
    (loadVar ty p).run P w = .ok (.agg cs.toArray) w := by
  obtain ⟨d, hu, hd, hi⟩ := T
  have hl := run_loadCells_list (P := P) w p cs hc
  cases hq : P.info? ty with
  | none => simp [hq] at hi
  | some i =>
    have hs : i.size = n := by simpa [hq] using hi
    have hagg : (isAgg ty).run P w = .ok true w := by
      unfold isAgg
      rw [Sem.run_bind, run_underlying hu w]
      cases d <;> simp_all
    rw [hn] at hl
    simp [loadVar, Sem.run_bind, hagg, sizeOf, typeInfo, hq, hs, hl]
theorem wp_load_at {ty : TypeId} {n : Nat} (T : StructT P ty n) (x : Operand) (ho : o.op = .load ty x) (p : Addr) (hx : a.eval x = .pointer (some p)) (cs : List Value) (hn : cs.length = n) (hc : ∀ j u, cs[j]? = some u → w.cell? (p.add j) = some u)
    (h : K (a.put o.dst (.agg cs.toArray)) w) : o.wp P a w K Q := by
  unfold Oper.wp execOp
  simp only [ho, hx, Instr.loadAt, Instr.sureAddr, Sem.run_bind, Sem.run_pure, Result.andThen_ok, run_load_at T hn hc]
  exact h
/-- A struct that lies somewhere, loaded whole. -/
theorem wpl_load_at {ty : TypeId} {n : Nat} (T : StructT P ty n) (hgd : o.guard = none) (x : Operand) (ho : o.op = .load ty x) (p : Addr) (hx : a.eval x = .pointer (some p)) (cs : List Value) (hn : cs.length = n) (hc : ∀ j u, cs[j]? = some u → w.cell? (p.add j) = some u)
    (h : wpList P ops Q rest (a.put o.dst (.agg cs.toArray)) w) : wpList P ops Q (o :: rest) a w :=
  wpList_plain hgd fun _ hK => wp_load_at T x ho p hx cs hn hc (hK _ _ h)
end

/-- A slice of structs that reads as a list of records, each of k cells. -/
def Recs {α : Type} (row : α → List Value) (k : Nat) (w : World) (lo : Nat) (A : Option Addr) (n c : Nat) (l : List α) : Prop := Reads w lo k A n c (l.flatMap row) ∧ l.length = n
section
variable {α : Type} {row : α → List Value} {k : Nat} {w w' : World} {lo lo' n c : Nat} {A : Option Addr} {l : List α}
theorem Recs.len (h : Recs row k w lo A n c l) : l.length = n := h.2
theorem Recs.cap (h : Recs row k w lo A n c l) : n ≤ c := h.1.2.1
theorem Recs.lower (h : Recs row k w lo A n c l) (hB : lo' ≤ lo) : Recs row k w lo' A n c l := ⟨h.1.lower hB, h.2⟩
theorem Recs.grown (h : Recs row k w lo A n c l) {r : Option Nat} (hg : w.grownBy w' r) (hr : ∀ g, r = some g → g < lo) : Recs row k w' lo A n c l := ⟨h.1.grown hg hr, h.2⟩
theorem Recs.get {i : Nat} (h : Recs row k w lo A n c l) (hrow : ∀ a, (row a).length = k) (hi : i < n) : ∃ g o a, A = some ⟨g, o, none⟩ ∧ lo ≤ g ∧ g < w.heap.size ∧ l[i]? = some a ∧
    ∀ j u, (row a)[j]? = some u → w.cell? ⟨g, o + i * k + j, none⟩ = some u := by
  obtain ⟨g, o, e, h1, h2, h3⟩ := h.1.2.2 (by omega)
  have hl : i < l.length := by rw [h.2]; exact hi
  refine ⟨g, o, l[i], e, h1, h2, List.getElem?_eq_getElem hl, fun j u hu => ?_⟩
  have hj : j < k := by have := (List.getElem?_eq_some_iff.1 hu).1; rw [hrow] at this; exact this
  rw [Nat.add_assoc]
  refine h3 (i * k + j) u ?_
  rw [flat_get hrow l i j hj, List.getElem?_eq_getElem hl]
  exact hu
theorem Recs.at_ {g o i : Nat} {a : α} (h : Recs row k w lo (some ⟨g, o, none⟩) n c l) (hrow : ∀ a, (row a).length = k) (hi : l[i]? = some a) : ∀ j u, (row a)[j]? = some u → w.cell? ⟨g, o + i * k + j, none⟩ = some u := by
  have hl := (List.getElem?_eq_some_iff.1 hi).1
  obtain ⟨g', o', a', e, _, _, h1, h2⟩ := h.get hrow (show i < n by rw [← h.2]; exact hl)
  injection e with e
  injection e with e1 e2
  subst e1; subst e2
  rw [hi] at h1
  injection h1 with h1
  subst h1
  exact h2
theorem Recs.at0 {g o : Nat} {a : α} (h : Recs row k w lo (some ⟨g, o, none⟩) n c l) (hrow : ∀ a, (row a).length = k) (hi : l[0]? = some a) : ∀ j u, (row a)[j]? = some u → w.cell? ⟨g, o + j, none⟩ = some u := by
  have := h.at_ hrow hi
  simpa using this
theorem Recs.nil : Recs row k w lo A 0 c [] := ⟨Reads.none_, rfl⟩
end
end
end Go.Proofs.YtelpakmiciilgaaGreatDoor
/- Worlds that differ by draws and new blocks alone. Conditions: none. -/
namespace Go.Proofs.YtelpakmiciilgaaGreatDoor
section
open Go.RowKit Go.Sort

/-- Some draws and some new blocks further. -/
def Gq (w w' : World) : Prop := ∃ (q : Nat) (os : Array Obj), w' = grow (w.drewN q) os
theorem drewN_zero (w : World) : w.drewN 0 = w := rfl
theorem Gq.refl (w : World) : Gq w w := ⟨0, #[], by rw [grow_empty]; rfl⟩
theorem Gq.grow {a b : World} (h : Gq a b) (os : Array Obj) : Gq a (grow b os) := by
  obtain ⟨q, os0, rfl⟩ := h
  exact ⟨q, os0 ++ os, by rw [grow_grow]⟩
theorem Gq.alloc {a b : World} (h : Gq a b) (o : Obj) : Gq a (b.alloc o) := by rw [alloc_eq_grow]; exact h.grow _
theorem Gq.drewN {a b : World} (h : Gq a b) (n : Nat) : Gq a (b.drewN n) := by
  obtain ⟨q, os, rfl⟩ := h
  exact ⟨q + n, os, by simp [World.drewN, Go.Sort.grow, Nat.add_assoc]⟩
theorem Gq.drew {a b : World} (h : Gq a b) : Gq a b.drew := h.drewN 1
theorem Gq.trans {a b c : World} (h : Gq a b) (k : Gq b c) : Gq a c := by
  obtain ⟨q, os, rfl⟩ := k
  exact (h.drewN q).grow os
theorem Gq.gr {a b : World} (h : Gq a b) : a.grownBy b none := by
  obtain ⟨q, os, rfl⟩ := h
  refine ⟨rfl, rfl, rfl, ?_, fun k hk _ => ?_⟩
  · show a.heap.size ≤ (a.heap ++ os).size
    rw [Array.size_append]; omega
  · show (a.heap ++ os)[k]? = a.heap[k]?
    rw [Array.getElem?_append_left hk]
/-- A result, some draws and new blocks further. -/
def RetQ (v : Value) (w : World) (e : Ending) (w' : World) : Prop := e = .returned v ∧ Gq w w'
/-- A call that leaves the world as it is. -/
theorem same_calls {P : Program} {f : FuncId} {args : Array Value} {w : World} {v : Value} {R : Ending → World → Prop} (h : Calls P f args w (Same v w)) (k : R (.returned v) w) : Calls P f args w R :=
  h.mono (by rintro e w' ⟨rfl, rfl⟩; exact k)
end
end Go.Proofs.YtelpakmiciilgaaGreatDoor
/- Contract of the generator of strings Some. Conditions: none. -/
namespace Go.Proofs.YtelpakmiciilgaaGreatDoor
section
open Go.RowKit

/-- A string of at most so many bytes. -/
def StrBd (m : Nat) (v : Value) (_ : World) : Prop := ∃ s : ByteArray, v = .string s ∧ s.size ≤ m
/-- Cells that are such strings. -/
def StrsOk (k : Nat) (cs : List Value) : Prop := ∀ v ∈ cs, ∃ s : ByteArray, v = .string s ∧ s.size ≤ k
theorem StrsOk.nil (k : Nat) : StrsOk k [] := fun v hv => by cases hv
theorem StrsOk.cons {k : Nat} {s : ByteArray} {cs : List Value} (hs : s.size ≤ k) (h : StrsOk k cs) : StrsOk k (.string s :: cs) := by
  intro v hv
  rcases List.mem_cons.1 hv with rfl | hv
  · exact ⟨s, rfl, hs⟩
  · exact h v hv
end
end Go.Proofs.YtelpakmiciilgaaGreatDoor
/- Contract of the generator Odd. Conditions: none. -/
namespace Go.Proofs.YtelpakmiciilgaaGreatDoor
section
open Go.RowKit
end
end Go.Proofs.YtelpakmiciilgaaGreatDoor
/- The first place in a list at which something holds; a slice cut short. Conditions: none. -/
namespace Go.Proofs.YtelpakmiciilgaaGreatDoor
section
open Go.RowKit

/-- The first place at which something holds, or -1. -/
def idxP {α : Type} (p : α → Bool) (l : List α) : Int := if l.any p then (l.findIdx p : Int) else -1
section
variable {α : Type} {p : α → Bool} {l : List α} {i : Nat} {z : α}
theorem allP_succ (h : (l.take i).all (fun x => !p x) = true) (hz : l[i]? = some z) (hp : p z = false) : (l.take (i + 1)).all (fun x => !p x) = true := by
  rw [take_snoc' hz, List.all_append, h]; simp [hp]
theorem idxP_none (h : l.all (fun x => !p x) = true) : idxP p l = -1 := by
  unfold idxP
  rw [if_neg]
  rw [List.any_eq_true]
  rintro ⟨x, hx, hp⟩
  have := List.all_eq_true.1 h x hx
  simp [hp] at this
theorem idxP_some (h : (l.take i).all (fun x => !p x) = true) (hz : l[i]? = some z) (hp : p z = true) : idxP p l = i := by
  unfold idxP
  rw [if_pos (List.any_eq_true.2 ⟨z, mem_of_get hz, hp⟩)]
  obtain ⟨hl, rfl⟩ := List.getElem?_eq_some_iff.1 hz
  congr 1
  rw [List.findIdx_eq hl]
  refine ⟨hp, fun j hj => ?_⟩
  have := List.all_eq_true.1 h l[j] (by
    rw [List.mem_iff_getElem?]
    exact ⟨j, by rw [List.getElem?_take, if_pos hj]; exact List.getElem?_eq_getElem (by omega)⟩)
  simpa using this
theorem idxP_any : decide (0 ≤ idxP p l) = l.any p := by
  unfold idxP
  cases h : l.any p
  · simp
  · simp only [if_true]; exact decide_eq_true (by omega)
end
section
variable {α : Type} {row : α → List Value} {k : Nat} {w : World} {lo n c : Nat} {A : Option Addr} {l : List α}
theorem Recs.take (hrow : ∀ a, (row a).length = k) (h : Recs row k w lo A n c l) {i : Nat} (hi : i ≤ n) : Recs row k w lo A i c (l.take i) := by
  have hl := h.2
  have hc := h.cap
  refine ⟨⟨?_, by omega, fun hp => ?_⟩, by rw [List.length_take]; omega⟩
  · rw [flat_len hrow, List.length_take]; congr 1; omega
  · obtain ⟨g, o, e, h1, h2, h3⟩ := h.1.2.2 (by omega)
    refine ⟨g, o, e, h1, h2, fun j u hu => h3 j u ?_⟩
    have : l.flatMap row = (l.take i).flatMap row ++ (l.drop i).flatMap row := by rw [← List.flatMap_append, List.take_append_drop]
    rw [this, List.getElem?_append_left]
    · exact hu
    · exact (List.getElem?_eq_some_iff.1 hu).1
end
end
end Go.Proofs.YtelpakmiciilgaaGreatDoor
/- Hours in plain Lean: when they are open, and the moments at which they open or close, counted in two ways. Conditions: none. -/
namespace Go.Proofs.YtelpakmiciilgaaGreatDoor
section

/-! Open or closed. -/
/-- A day of the week, as bits. -/
def dayB (days wk : Int) : Bool := decide (days / 2 ^ wk.toNat % 2 = 1)
/-- Open in a minute that is counted by the clocks of the place. -/
def openM (rows hol : List (Int × Int × Int)) (M : Int) : Bool :=
  match hol.find? (fun d => d.1 == M / 1440) with
  | some d => decide (d.2.1 ≤ M % 1440) && decide (M % 1440 < d.2.2)
  | none => rows.any fun r => dayB r.1 (M / 1440 % 7) && (decide (r.2.1 ≤ M % 1440) && decide (M % 1440 < r.2.2))
def openAt (zone : Int) (rows hol : List (Int × Int × Int)) (t : Int) : Bool := openM rows hol (t / 60000 + zone)

theorem day_of (z t : Int) : (t + z * 60000) / 86400000 = (t / 60000 + z) / 1440 := by omega
theorem min_of (z t : Int) : (t + z * 60000 - (t + z * 60000) / 86400000 * 86400000) / 60000 = (t / 60000 + z) % 1440 := by omega

theorem find_cong {α : Type} {p q : α → Bool} {l : List α} (h : ∀ a ∈ l, p a = q a) : l.find? p = l.find? q := by
  induction l with
  | nil => rfl
  | cons a l ih => rw [List.find?_cons, List.find?_cons, h a (by simp), ih (fun b hb => h b (by simp [hb]))]
theorem any_cong {α : Type} {p q : α → Bool} {l : List α} (h : ∀ a ∈ l, p a = q a) : l.any p = l.any q := by
  induction l with
  | nil => rfl
  | cons a l ih => rw [List.any_cons, List.any_cons, h a (by simp), ih (fun b hb => h b (by simp [hb]))]
/-- Something changes only at the bounds. -/
theorem open_change {rows hol : List (Int × Int × Int)} {M : Int} (h0 : M % 1440 ≠ 0) (hr : ∀ r ∈ rows, M % 1440 ≠ r.2.1 ∧ M % 1440 ≠ r.2.2) (hh : ∀ r ∈ hol, M % 1440 ≠ r.2.1 ∧ M % 1440 ≠ r.2.2) : openM rows hol (M - 1) = openM rows hol M := by
  have e1 : (M - 1) / 1440 = M / 1440 := by omega
  have e2 : (M - 1) % 1440 = M % 1440 - 1 := by omega
  unfold openM
  rw [e1, e2]
  cases hf : hol.find? (fun d => d.1 == M / 1440) with
  | some d =>
    obtain ⟨a, b⟩ := hh d (List.mem_of_find?_eq_some hf)
    show (decide (d.2.1 ≤ M % 1440 - 1) && decide (M % 1440 - 1 < d.2.2)) = (decide (d.2.1 ≤ M % 1440) && decide (M % 1440 < d.2.2))
    rw [Bool.eq_iff_iff]; simp; omega
  | none =>
    refine any_cong fun r hrm => ?_
    obtain ⟨a, b⟩ := hr r hrm
    congr 1
    rw [Bool.eq_iff_iff]; simp; omega

/-! Two lists that rise and have the same members are one. -/
theorem rise_eq : ∀ {l m : List Int}, l.Pairwise (· < ·) → m.Pairwise (· < ·) → (∀ x, x ∈ l ↔ x ∈ m) → l = m
  | [], [], _, _, _ => rfl
  | [], b :: m, _, _, h => absurd ((h b).2 (by simp)) (by simp)
  | a :: l, [], _, _, h => absurd ((h a).1 (by simp)) (by simp)
  | a :: l, b :: m, hl, hm, h => by
    obtain ⟨l1, l2⟩ := List.pairwise_cons.1 hl
    obtain ⟨m1, m2⟩ := List.pairwise_cons.1 hm
    have e : a = b := by
      rcases List.mem_cons.1 ((h a).1 (by simp)) with e | e
      · exact e
      · rcases List.mem_cons.1 ((h b).2 (by simp)) with e' | e'
        · exact e'.symm
        · have := m1 a e; have := l1 b e'; omega
    subst e
    refine congrArg (a :: ·) (rise_eq l2 m2 fun x => ⟨fun hx => ?_, fun hx => ?_⟩)
    · rcases List.mem_cons.1 ((h x).1 (by simp [hx])) with e | e
      · subst e; have := l1 x hx; omega
      · exact e
    · rcases List.mem_cons.1 ((h x).2 (by simp [hx])) with e | e
      · subst e; have := m1 x hx; omega
      · exact e

/-! The program's way: minute by minute. -/
def visit (fr : Int) : Nat → Int
  | 0 => fr
  | k + 1 => (fr / 60000 + (k + 1 : Nat)) * 60000
theorem visit_succ (fr : Int) (k : Nat) : visit fr k + (60000 - visit fr k % 60000) = visit fr (k + 1) := by
  cases k with
  | zero => show fr + (60000 - fr % 60000) = (fr / 60000 + ((0 + 1 : Nat) : Int)) * 60000; omega
  | succ k => show (fr / 60000 + ((k + 1 : Nat) : Int)) * 60000 + (60000 - (fr / 60000 + ((k + 1 : Nat) : Int)) * 60000 % 60000) = (fr / 60000 + ((k + 1 + 1 : Nat) : Int)) * 60000; omega
theorem visit_lt (fr : Int) (k : Nat) : visit fr k < visit fr (k + 1) := by
  rw [← visit_succ]; omega
theorem visit_mono (fr : Int) {i k : Nat} (h : i < k) : visit fr i < visit fr k := by
  induction k with
  | zero => omega
  | succ k ih =>
    have := visit_lt fr k
    by_cases e : i = k
    · subst e; exact this
    · have := ih (by omega); omega
theorem visit_ge (fr : Int) (k : Nat) : fr + 60000 * k - 60000 ≤ visit fr k := by
  cases k with
  | zero => show _ ≤ fr; omega
  | succ k => show _ ≤ (fr / 60000 + ((k + 1 : Nat) : Int)) * 60000; omega
theorem visit_min (fr : Int) (k : Nat) : visit fr k / 60000 = fr / 60000 + k := by
  cases k with
  | zero => show fr / 60000 = _; omega
  | succ k => show (fr / 60000 + ((k + 1 : Nat) : Int)) * 60000 / 60000 = _; omega
theorem visit_pos (fr : Int) {k : Nat} (h : 0 < k) : visit fr k = (fr / 60000 + k) * 60000 := by
  cases k with
  | zero => omega
  | succ k => rfl
def wasB (op : Int → Bool) (fr : Int) : Nat → Bool
  | 0 => false
  | k + 1 => op (visit fr k)
def turnsL (op : Int → Bool) (fr : Int) : Nat → List Int
  | 0 => []
  | k + 1 => turnsL op fr k ++ (if op (visit fr k) = wasB op fr k then [] else [visit fr k])
theorem turns_len (op : Int → Bool) (fr : Int) (k : Nat) : (turnsL op fr k).length ≤ k := by
  induction k with
  | zero => exact Nat.le_refl _
  | succ k ih => unfold turnsL; split <;> simp <;> omega
theorem turns_mem {op : Int → Bool} {fr : Int} {N : Nat} {x : Int} : x ∈ turnsL op fr N ↔ ∃ k, k < N ∧ x = visit fr k ∧ op (visit fr k) ≠ wasB op fr k := by
  induction N with
  | zero => simp [turnsL]
  | succ N ih =>
    unfold turnsL
    rw [List.mem_append, ih]
    constructor
    · rintro (⟨k, h1, h2, h3⟩ | h)
      · exact ⟨k, by omega, h2, h3⟩
      · split at h
        · cases h
        · rename_i hne
          exact ⟨N, by omega, List.mem_singleton.1 h, hne⟩
    · rintro ⟨k, h1, h2, h3⟩
      by_cases e : k = N
      · subst e; right; rw [if_neg h3, h2]; exact List.mem_singleton.2 rfl
      · exact .inl ⟨k, by omega, h2, h3⟩
theorem turns_rise (op : Int → Bool) (fr : Int) (N : Nat) : (turnsL op fr N).Pairwise (· < ·) := by
  induction N with
  | zero => exact List.Pairwise.nil
  | succ N ih =>
    unfold turnsL
    rw [List.pairwise_append]
    refine ⟨ih, by split <;> simp, fun a ha b hb => ?_⟩
    obtain ⟨k, h1, h2, _⟩ := turns_mem.1 ha
    split at hb
    · cases hb
    · rw [List.mem_singleton.1 hb, h2]; exact visit_mono fr h1

/-! The document's way: the bounds of each day. -/
def bndAt (zone day m : Int) : Int := day * 86400000 + (m - zone) * 60000
def bndB (op : Int → Bool) (fr til zone day m : Int) : Bool := decide (m < 1440) && (decide (fr < bndAt zone day m) && (decide (bndAt zone day m < til) && (op (bndAt zone day m) != op (bndAt zone day m - 1))))
def bndDay (op : Int → Bool) (fr til zone day : Int) (ms : List Int) : List Int := (ms.filter (bndB op fr til zone day)).map (bndAt zone day)
def bndHead (op : Int → Bool) (fr til : Int) : List Int := if fr < til then (if op fr then [fr] else []) else []
def bndDays (op : Int → Bool) (fr til zone : Int) (ms : List Int) (first : Int) : Nat → List Int
  | 0 => bndHead op fr til
  | d + 1 => bndDays op fr til zone ms first d ++ bndDay op fr til zone (first + d) ms
theorem head_mem {op : Int → Bool} {fr til x : Int} : x ∈ bndHead op fr til ↔ x = fr ∧ fr < til ∧ op fr = true := by
  unfold bndHead
  by_cases h1 : fr < til <;> by_cases h2 : op fr = true <;> simp [h1, h2]
theorem day_mem {op : Int → Bool} {fr til zone day x : Int} {ms : List Int} : x ∈ bndDay op fr til zone day ms ↔ ∃ m, m ∈ ms ∧ m < 1440 ∧ fr < x ∧ x < til ∧ op x ≠ op (x - 1) ∧ x = bndAt zone day m := by
  unfold bndDay
  rw [List.mem_map]
  constructor
  · rintro ⟨m, hm, rfl⟩
    obtain ⟨h1, h2⟩ := List.mem_filter.1 hm
    unfold bndB at h2
    simp only [Bool.and_eq_true, decide_eq_true_eq, bne_iff_ne] at h2
    exact ⟨m, h1, h2.1, h2.2.1, h2.2.2.1, h2.2.2.2, rfl⟩
  · rintro ⟨m, h1, h2, h3, h4, h5, rfl⟩
    refine ⟨m, List.mem_filter.2 ⟨h1, ?_⟩, rfl⟩
    unfold bndB
    simp only [Bool.and_eq_true, decide_eq_true_eq, bne_iff_ne]
    exact ⟨h2, h3, h4, h5⟩
theorem days_mem {op : Int → Bool} {fr til zone first x : Int} {ms : List Int} {n : Nat} : x ∈ bndDays op fr til zone ms first n ↔ (x = fr ∧ fr < til ∧ op fr = true) ∨ ∃ d m, d < n ∧ m ∈ ms ∧ m < 1440 ∧ fr < x ∧ x < til ∧ op x ≠ op (x - 1) ∧ x = bndAt zone (first + (d : Nat)) m := by
  induction n with
  | zero =>
    unfold bndDays
    rw [head_mem]
    exact ⟨.inl, fun h => h.elim id fun ⟨d, _, h, _⟩ => absurd h (by omega)⟩
  | succ n ih =>
    unfold bndDays
    rw [List.mem_append, ih, day_mem]
    constructor
    · rintro ((h | ⟨d, m, h1, h⟩) | ⟨m, h⟩)
      · exact .inl h
      · exact .inr ⟨d, m, by omega, h⟩
      · exact .inr ⟨n, m, by omega, h⟩
    · rintro (h | ⟨d, m, h1, h⟩)
      · exact .inl (.inl h)
      · by_cases e : d = n
        · subst e; exact .inr ⟨m, h⟩
        · exact .inl (.inr ⟨d, m, by omega, h⟩)
theorem pw_mono {α : Type} {R S : α → α → Prop} (h : ∀ a b, R a b → S a b) {l : List α} (hl : l.Pairwise R) : l.Pairwise S := by
  induction hl with
  | nil => exact List.Pairwise.nil
  | cons h1 _ ih => exact List.Pairwise.cons (fun a ha => h _ _ (h1 a ha)) ih
theorem day_rise {op : Int → Bool} {fr til zone day : Int} {ms : List Int} (hs : ms.Pairwise (· < ·)) : (bndDay op fr til zone day ms).Pairwise (· < ·) := by
  unfold bndDay
  rw [List.pairwise_map]
  refine pw_mono (fun a b h => ?_) (hs.filter _)
  unfold bndAt; omega
theorem days_rise {op : Int → Bool} {fr til zone first : Int} {ms : List Int} (hs : ms.Pairwise (· < ·)) (h0 : ∀ m ∈ ms, 0 ≤ m) (n : Nat) : (bndDays op fr til zone ms first n).Pairwise (· < ·) := by
  induction n with
  | zero => unfold bndDays bndHead; split <;> (try split) <;> simp
  | succ n ih =>
    unfold bndDays
    rw [List.pairwise_append]
    refine ⟨ih, day_rise hs, fun a ha b hb => ?_⟩
    obtain ⟨m, hm, h1, h2, h3, h4, h5⟩ := day_mem.1 hb
    rcases days_mem.1 ha with ⟨rfl, _⟩ | ⟨d, m', g1, g2, g3, _, _, _, g4⟩
    · exact h2
    · have := h0 m hm
      rw [h5, g4]; unfold bndAt; omega

/-- Both ways count the same moments. -/
theorem turns_eq {zone fr til : Int} {rows hol : List (Int × Int × Int)} {ms : List Int} (hs : ms.Pairwise (· < ·)) (h0 : ∀ m ∈ ms, 0 ≤ m)
    (hm : ∀ x, x = 0 ∨ (∃ r, r ∈ rows ∧ (x = r.2.1 ∨ x = r.2.2)) ∨ (∃ r, r ∈ hol ∧ (x = r.2.1 ∨ x = r.2.2)) → x ∈ ms) {N n : Nat} (hN : til ≤ visit fr N) (hN' : ∀ k, k < N → visit fr k < til)
    (hn : ((til + zone * 60000) / 86400000 - (fr + zone * 60000) / 86400000 + 1).toNat = n) :
    turnsL (openAt zone rows hol) fr N = bndDays (openAt zone rows hol) fr til zone ms ((fr + zone * 60000) / 86400000) n := by
  refine rise_eq (turns_rise _ _ _) (days_rise hs h0 _) fun x => ?_
  rw [turns_mem, days_mem]
  constructor
  · rintro ⟨k, hk, hx, hne⟩
    have hlt := hN' k hk
    cases k with
    | zero =>
      left
      have hx' : x = fr := hx
      refine ⟨hx', hlt, ?_⟩
      have : openAt zone rows hol fr ≠ false := hne
      simpa using this
    | succ k =>
      right
      have h1 := visit_mono fr (Nat.succ_pos k)
      have h2 : fr < visit fr (k + 1) := h1
      have hm1 := visit_min fr (k + 1)
      have hm0 := visit_min fr k
      have hp := visit_pos fr (Nat.succ_pos k)
      have hq : (visit fr (k + 1) - 1) / 60000 = visit fr k / 60000 := by rw [hm0, hp]; omega
      have hop : openAt zone rows hol (visit fr (k + 1) - 1) = openAt zone rows hol (visit fr k) := by unfold openAt; rw [hq]
      have hne' : openAt zone rows hol (visit fr (k + 1)) ≠ openAt zone rows hol (visit fr (k + 1) - 1) := by rw [hop]; exact hne
      obtain ⟨M, hM⟩ : ∃ M, visit fr (k + 1) / 60000 + zone = M := ⟨_, rfl⟩
      have hM1 : (visit fr (k + 1) - 1) / 60000 + zone = M - 1 := by rw [← hM, hp]; omega
      have hin : M % 1440 ∈ ms := by
        refine hm _ ?_
        by_cases c0 : M % 1440 = 0
        · exact .inl c0
        · by_cases c1 : ∃ r, r ∈ rows ∧ (M % 1440 = r.2.1 ∨ M % 1440 = r.2.2)
          · exact .inr (.inl c1)
          · by_cases c2 : ∃ r, r ∈ hol ∧ (M % 1440 = r.2.1 ∨ M % 1440 = r.2.2)
            · exact .inr (.inr c2)
            · exfalso
              apply hne'
              unfold openAt
              rw [hM, hM1]
              exact (open_change c0 (fun r hr => ⟨fun e => c1 ⟨r, hr, .inl e⟩, fun e => c1 ⟨r, hr, .inr e⟩⟩) (fun r hr => ⟨fun e => c2 ⟨r, hr, .inl e⟩, fun e => c2 ⟨r, hr, .inr e⟩⟩)).symm
      have hxM : x = (M - zone) * 60000 := by rw [hx, hp, ← hM, hm1]; omega
      have hd0 : (fr + zone * 60000) / 86400000 ≤ M / 1440 := by omega
      refine ⟨(M / 1440 - (fr + zone * 60000) / 86400000).toNat, M % 1440, ?_, hin, by omega, by omega, by omega, by rw [hx]; exact hne', ?_⟩
      · omega
      · rw [Int.toNat_of_nonneg (by omega), hxM]; unfold bndAt; omega
  · rintro (⟨rfl, h1, h2⟩ | ⟨d, m, h1, h2, h3, h4, h5, h6, h7⟩)
    · refine ⟨0, ?_, rfl, ?_⟩
      · rcases Nat.eq_zero_or_pos N with e | e
        · subst e; have : til ≤ x := hN; omega
        · exact e
      · show openAt zone rows hol x ≠ false
        rw [h2]; decide
    · unfold bndAt at h7
      obtain ⟨q, hq⟩ : ∃ q, x = q * 60000 := ⟨((fr + zone * 60000) / 86400000 + (d : Int)) * 1440 + (m - zone), by rw [h7]; omega⟩
      obtain ⟨k, hk⟩ : ∃ k : Nat, (k : Int) = q - fr / 60000 := ⟨(q - fr / 60000).toNat, by omega⟩
      have k0 : 0 < k := by omega
      have hv : x = visit fr k := by rw [visit_pos fr k0, hq]; omega
      refine ⟨k, ?_, hv, ?_⟩
      · rcases Nat.lt_or_ge k N with e | e
        · exact e
        · exfalso
          rcases Nat.lt_or_ge N k with e2 | e2
          · have := visit_mono fr e2; omega
          · have : k = N := by omega
            subst this; omega
      · obtain ⟨k, rfl⟩ : ∃ j, k = j + 1 := ⟨k - 1, by omega⟩
        show openAt zone rows hol (visit fr (k + 1)) ≠ openAt zone rows hol (visit fr k)
        have hm0 := visit_min fr k
        have hp := visit_pos fr k0
        have hq2 : (visit fr (k + 1) - 1) / 60000 = visit fr k / 60000 := by rw [hm0, hp]; omega
        have hop : openAt zone rows hol (visit fr (k + 1) - 1) = openAt zone rows hol (visit fr k) := by unfold openAt; rw [hq2]
        rw [← hop, ← hv]; exact h6
end
end Go.Proofs.YtelpakmiciilgaaGreatDoor
/- Words for what the operations of a drawn region answer: slices laid for calls, numbers. Conditions: none. -/
namespace Go.Proofs.YtelpakmiciilgaaGreatDoor
section
open Go.RowKit

/-- A slice just laid for a call. -/
def SlOf (sb : Nat) (t : TypeId) (n : Nat) (cs : Array Value) (v : Value) (w : World) : Prop := ∃ g, v = .slice (some ⟨g, 0, none⟩) n n ∧ sb < g ∧ Blk w g t cs
def IntV (v : Value) (_ : World) : Prop := ∃ z : Int, v = .int .i64 z
theorem SlOf.grown {sb n : Nat} {t : TypeId} {cs : Array Value} {v : Value} {w w' : World} (h : SlOf sb t n cs v w) (hg : w.grownBy w' (some sb)) : SlOf sb t n cs v w' := by
  obtain ⟨g, h1, h2, h3⟩ := h
  exact ⟨g, h1, h2, h3.grown hg (by simp; omega)⟩
/-- What is said of some operations' results. -/
def RSpec (specs : List (Nat × (Value → World → Prop))) (k : Nat) (v : Value) (w : World) : Prop := match specs.lookup k with | some D => D v w | none => True
theorem RSpec.grown {sb k : Nat} {v : Value} {w w' : World} {specs : List (Nat × (Value → World → Prop))} (hst : ∀ p ∈ specs, ∀ v w w', p.2 v w → w.grownBy w' (some sb) → p.2 v w') (h : RSpec specs k v w) (hg : w.grownBy w' (some sb)) : RSpec specs k v w' := by
  induction specs with
  | nil => trivial
  | cons p l ih =>
    obtain ⟨j, D⟩ := p
    unfold RSpec at h ⊢
    rw [List.lookup_cons] at h ⊢
    by_cases e : k = j
    · subst e
      simp only [beq_self_eq_true] at h ⊢
      exact hst _ (List.mem_cons_self ..) v w w' h hg
    · have e1 : (k == j) = false := by simpa using e
      rw [e1] at h ⊢
      exact ih (fun p hp => hst p (List.mem_cons_of_mem _ hp)) h
end
end Go.Proofs.YtelpakmiciilgaaGreatDoor
/- string(b) of bytes that lie in memory. Conditions: none. -/
namespace Go.Proofs.YtelpakmiciilgaaGreatDoor
section
open Go.RowKit

/-- A string of bytes, given as numbers. -/
def strI (l : List Int) : ByteArray := ⟨(l.map (fun z => z.toNat.toUInt8)).toArray⟩
theorem fold_push (l : List Int) (s : ByteArray) : l.foldl (fun r n => r.push (UInt8.ofNat n.toNat)) s = ⟨s.data ++ (l.map (fun z => z.toNat.toUInt8)).toArray⟩ := by
  induction l generalizing s with
  | nil => simp
  | cons x l ih =>
    rw [List.foldl_cons, ih]
    simp [ByteArray.push]
theorem run_str {P : Program} {src dst e : TypeId} {w : World} {lo : Nat} {A : Option Addr} {n c : Nat} {l : List Int} (hs : P.underlying src = some (.slice e)) (he : P.underlying e = some (.int .u8)) (hd : P.underlying dst = some .string) (h : Ints .u8 w lo A n c l) :
    (convert src dst (.slice A n c)).run P w = .ok (.string (strI l)) w := by
  cases A with
  | none =>
    have hn : n = 0 := by
      rcases Nat.eq_zero_or_pos n with h0 | h0
      · exact h0
      · obtain ⟨g, o, e, _⟩ := h.2.2 h0; cases e
    subst hn
    have hl : l = [] := List.eq_nil_of_length_eq_zero h.len
    subst hl
    rw [Lib.run_convert_nil_bytes w src dst e c hs he hd]
    rfl
  | some ad =>
    have hlen := h.len
    have hload : (loadCells ad n).run P w = .ok (l.map (Value.int .u8)).toArray w := by
      have := run_loadCells_list (P := P) w ad (l.map (Value.int .u8)) (fun j u hu => by
        have hj := (List.getElem?_eq_some_iff.1 hu).1
        rw [List.length_map] at hj
        obtain ⟨g, o, e, _, _, h3⟩ := h.2.2 (by omega)
        injection e with e
        subst e
        rw [add_mk]
        exact h3 j u hu)
      rw [List.length_map, hlen] at this
      exact this
    rw [run_convert_bytes_string w src dst e _ _ _ hs he hd, run_bytesToString w ad n c l hload, fold_push]
    simp [strI, ByteArray.empty, ByteArray.emptyWithCapacity]
    rfl
end
end Go.Proofs.YtelpakmiciilgaaGreatDoor

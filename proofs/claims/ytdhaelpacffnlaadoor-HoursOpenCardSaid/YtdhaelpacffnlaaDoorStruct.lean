/- Laws on structs in memory: loaded and stored whole; results that lie in memory. Over any program. Conditions: none. -/
import Derived.Test.YtdhaelpacffnlaaDoorMem
import Derived.Laws.Rows
import Derived.Laws.Tables
namespace Go.Proofs.YtdhaelpacffnlaaDoor
open Go.RowKit

/-- Type ty is a struct or an array of n cells. -/
def StructT (P : Program) (ty : TypeId) (n : Nat) : Prop := ∃ d, P.underlying ty = some d ∧ (match d with | .struct _ | .array _ _ => true | _ => false) = true ∧ (P.info? ty).map (·.size) = some n

/-- What a store of a whole variable leaves. -/
def Stored (w : World) (g : Nat) (t : TypeId) (cs : Array Value) (w' : World) : Prop := Blk w' g t cs ∧ w.grownBy w' (some g) ∧ w'.heap.size = w.heap.size

section
variable {P : Program} {w : World} {o : Oper} {a : Act} {K : Act → World → Prop} {Q : Exit → Act → World → Prop}

theorem wp_load_all {ty : TypeId} {n : Nat} (T : StructT P ty n) (x : Operand) (ho : o.op = .load ty x) (g : Nat) (hx : a.eval x = .pointer (some ⟨g, 0, none⟩)) (t : TypeId) (cs : Array Value) (hb : Blk w g t cs) (hn : cs.size = n)
    (h : K (a.put o.dst (.agg cs)) w) : o.wp P a w K Q := by
  obtain ⟨d, h1, h2, h3⟩ := T
  exact wp_load_row ty x ho g hx t cs (0, 0) d hb h1 (by cases d <;> first | rfl | (cases h2)) (by rw [hn]; exact h3) h

theorem run_store_all {ty : TypeId} {n : Nat} (T : StructT P ty n) {g : Nat} {t : TypeId} {cur cs : Array Value} (hb : Blk w g t cur) (hn : cs.size = n) (hc : cur.size = n) (h1 : ∀ u ∈ cs.toList, u.oneCell' = true) :
    ∃ w', (Instr.storeAt ty (.pointer (some ⟨g, 0, none⟩)) (.agg cs)).run P w = .ok () w' ∧ Stored w g t cs w' := by
  obtain ⟨d, hd1, hd2, hd3⟩ := T
  cases hq : P.info? ty with
  | none => simp [hq] at hd3
  | some i =>
    have hs : i.size = n := by simpa [hq] using hd3
    have hrun := run_storeCells_from (P := P) g t cs.toList 0 cur w hb (by simp; omega) h1
    refine ⟨w.setRow g cs, ?_, ?_, ⟨rfl, rfl, rfl, ?_, ?_⟩, ?_⟩
    · simp only [List.take_zero, List.nil_append, Array.toArray_toList] at hrun
      simp [Instr.storeAt, Instr.sureAddr, storeVar, sizeOf, typeInfo, hq, hs, Value.cells, hn, hrun]
    · have hlt := hb.lt
      unfold Blk at hb ⊢
      simp [World.setRow, Array.getElem?_modify, hb]
    · simp [World.setRow]
    · intro k hk hne
      simp only [World.setRow, Array.getElem?_modify]
      rw [if_neg (fun e => hne (by rw [e]))]
    · simp [World.setRow]

theorem wp_store_all {ty : TypeId} {n : Nat} (T : StructT P ty n) (x y : Operand) (ho : o.op = .store ty x y) (g : Nat) (hx : a.eval x = .pointer (some ⟨g, 0, none⟩)) (t : TypeId) (cur cs : Array Value) (hy : a.eval y = .agg cs) (hb : Blk w g t cur)
    (hn : cs.size = n) (hc : cur.size = n) (h1 : ∀ u ∈ cs.toList, u.oneCell' = true) (h : ∀ w', Stored w g t cs w' → K (a.put o.dst undef) w') : o.wp P a w K Q := by
  obtain ⟨w', hrun, hst⟩ := run_store_all (w := w) T hb hn hc h1
  unfold Oper.wp execOp
  simp only [ho, hx, hy, Sem.run_bind, Sem.run_pure, Result.andThen_ok, hrun]
  exact h w' hst

variable {ops : Array Oper} {rest : List Oper}
/-- A variable of a struct type, loaded whole. -/
theorem wpl_load_all {ty : TypeId} {n : Nat} (T : StructT P ty n) (hgd : o.guard = none) (x : Operand) (ho : o.op = .load ty x) (g : Nat) (hx : a.eval x = .pointer (some ⟨g, 0, none⟩)) (t : TypeId) (cs : Array Value) (hb : Blk w g t cs) (hn : cs.size = n)
    (h : wpList P ops Q rest (a.put o.dst (.agg cs)) w) : wpList P ops Q (o :: rest) a w :=
  wpList_plain hgd fun _ hK => wp_load_all T x ho g hx t cs hb hn (hK _ _ h)
/-- A variable of a struct type, stored whole. -/
theorem wpl_store_all {ty : TypeId} {n : Nat} (T : StructT P ty n) (hgd : o.guard = none) (x y : Operand) (ho : o.op = .store ty x y) (g : Nat) (hx : a.eval x = .pointer (some ⟨g, 0, none⟩)) (t : TypeId) (cur cs : Array Value) (hy : a.eval y = .agg cs) (hb : Blk w g t cur)
    (hn : cs.size = n) (hc : cur.size = n) (h1 : ∀ u ∈ cs.toList, u.oneCell' = true) (h : ∀ w', Stored w g t cs w' → wpList P ops Q rest (a.put o.dst undef) w') : wpList P ops Q (o :: rest) a w :=
  wpList_plain hgd fun _ hK => wp_store_all T x y ho g hx t cur cs hy hb hn hc h1 fun w' hs => hK _ _ (h w' hs)
theorem step_load_all {ty : TypeId} {n : Nat} {E' : Prop} (T : StructT P ty n) (hgd : o.guard = none) (x : Operand) (ho : o.op = .load ty x) (g : Nat) (hx : a.eval x = .pointer (some ⟨g, 0, none⟩)) (t : TypeId) (cs : Array Value) (hb : Blk w g t cs) (hn : cs.size = n)
    (h : K (a.put o.dst (.agg cs)) w) : if Region.wanted o (yielded ops a.tmps) = true then Oper.wp P o a w K Q else E' := by
  have hw : Region.wanted o (yielded ops a.tmps) = true := by simp [Region.wanted, hgd]
  rw [if_pos hw]
  exact wp_load_all T x ho g hx t cs hb hn h
theorem step_store_all {ty : TypeId} {n : Nat} {E' : Prop} (T : StructT P ty n) (hgd : o.guard = none) (x y : Operand) (ho : o.op = .store ty x y) (g : Nat) (hx : a.eval x = .pointer (some ⟨g, 0, none⟩)) (t : TypeId) (cur cs : Array Value) (hy : a.eval y = .agg cs) (hb : Blk w g t cur)
    (hn : cs.size = n) (hc : cur.size = n) (h1 : ∀ u ∈ cs.toList, u.oneCell' = true) (h : ∀ w', Stored w g t cs w' → K (a.put o.dst undef) w') : if Region.wanted o (yielded ops a.tmps) = true then Oper.wp P o a w K Q else E' := by
  have hw : Region.wanted o (yielded ops a.tmps) = true := by simp [Region.wanted, hgd]
  rw [if_pos hw]
  exact wp_store_all T x y ho g hx t cur cs hy hb hn hc h1 h
end

section
variable {P : Program} {w : World} {fn : Func} {a : Act} {R : Ending → World → Prop}
/-- The one result lies in memory. -/
theorem ret_cell {ty : TypeId} {n : Nat} (T : StructT P ty n) {p : Tmp} (hr : fn.results = #[.cell p ty]) (g : Nat) (t : TypeId) (cs : Array Value) (hp : a.tmps.getD p undef = .pointer (some ⟨g, 0, none⟩)) (hb : Blk w g t cs) (hn : cs.size = n)
    (hd : a.defers = []) (h : R (.returned (.agg cs)) w) : bodyPost P fn R .ret a w := by
  obtain ⟨d, h1, h2, h3⟩ := T
  exact bodyPost_ret (results_cell_row hr a.tmps w g t cs (0, 0) d hp hb h1 (by cases d <;> first | rfl | (cases h2)) (by rw [hn]; exact h3)) hd h
/-- Two results, the first one in memory. -/
theorem ret_cell_tmp {ty : TypeId} {n : Nat} (T : StructT P ty n) {p q : Tmp} (hr : fn.results = #[.cell p ty, .tmp q]) (g : Nat) (t : TypeId) (cs : Array Value) (v : Value) (hp : a.tmps.getD p undef = .pointer (some ⟨g, 0, none⟩)) (hq : a.tmps.getD q undef = v) (hb : Blk w g t cs) (hn : cs.size = n)
    (hd : a.defers = []) (h : R (.returned (.tuple #[.agg cs, v])) w) : bodyPost P fn R .ret a w := by
  obtain ⟨d, h1, h2, h3⟩ := T
  refine bodyPost_ret (v := .tuple #[.agg cs, v]) ?_ hd h
  have hp' : a.tmps[p]?.getD undef = .pointer (some ⟨g, 0, none⟩) := by simpa using hp
  have hq' : a.tmps[q]?.getD undef = v := by simpa using hq
  simp [results, hr, hp', hq', asAddr, run_loadVar_row w g t ty cs (0, 0) d hb h1 (by cases d <;> first | rfl | (cases h2)) (by rw [hn]; exact h3)]
end
end Go.Proofs.YtdhaelpacffnlaaDoor

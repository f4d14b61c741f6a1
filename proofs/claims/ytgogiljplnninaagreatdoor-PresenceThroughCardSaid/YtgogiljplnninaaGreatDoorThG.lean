/- Beacons compared; loads under a guard. Conditions: none. -/
import Derived.Test.YtgogiljplnninaaGreatDoorBc6
import Derived.Test.YtgogiljplnninaaGreatDoorBun2
import Derived.Test.YtgogiljplnninaaGreatDoorBun1
namespace Go.Proofs.YtgogiljplnninaaGreatDoor
open Go.RowKit

section
variable {P : Program} {w : World} {o : Oper} {ops : Array Oper} {rest : List Oper} {a : Act} {Q : Exit → Act → World → Prop}
theorem wplg_load_all {ty : TypeId} {n : Nat} (T : StructT P ty n) (hw : Region.wanted o (yielded ops a.tmps) = true) (x : Operand) (ho : o.op = .load ty x) (g : Nat) (hx : a.eval x = .pointer (some ⟨g, 0, none⟩)) (t : TypeId) (cs : Array Value) (hb : Blk w g t cs) (hn : cs.size = n)
    (h : wpList P ops Q rest (a.put o.dst (.agg cs)) w) : wpList P ops Q (o :: rest) a w :=
  BigFrame.wpList_want hw fun _ hK => wp_load_all T x ho g hx t cs hb hn (hK _ _ h)
theorem wplg_eqs {op : BinOp} {T tr : TypeId} (hw : Region.wanted o (yielded ops a.tmps) = true) (x y : Operand) (ho : o.op = .binOp op T x y tr) (us vs : Array Value) (hx : a.eval x = .agg us) (hy : a.eval y = .agg vs) (hm : P.eqGuardType P.depth T = false) {v : Value} (hr : (binOp op T (.agg us) (.agg vs)).run P w = .ok v w)
    (h : wpList P ops Q rest (a.put o.dst v) w) : wpList P ops Q (o :: rest) a w :=
  BigFrame.wpList_want hw fun _ hK => wp_eqs x y ho us vs hx hy hm hr (hK _ _ h)
end
theorem bcEq_guard : Tryz.prog.eqGuardType Tryz.prog.depth 62 = false := by kernel_rfl
set_option maxHeartbeats 4000000 in
theorem bcEq_in (a b : BcV) (w : World) : (Op.equalIn 10000 62 (.agg #[.string a.psn, .string a.dev, .int .i64 a.st, .int .i64 a.at_, .int .i64 a.un, .string a.note]) (.agg #[.string b.psn, .string b.dev, .int .i64 b.st, .int .i64 b.at_, .int .i64 b.un, .string b.note])).run Tryz.prog w = .ok (decide (a = b)) w := by
  have u9 := Tryz.underlying9
  have u3 := Tryz.underlying3
  have hS : Tryz.prog.underlying 62 = some (.struct (Tryz.prog.fieldsOf 62)) := by kernel_rfl
  have hp : Tryz.prog.stoodInHeld 62 = false := by kernel_rfl
  rw [show (10000 : Nat) = 9999 + 1 from rfl, run_equalIn_agg w 9999 62 _ _ hS hp]
  simp only [Program.fieldsOf, Tryz.underlying62]
  go_simp
  by_cases h0 : a.psn = b.psn
  rotate_left 1
  · rw [decide_eq_false (fun e => h0 (by rw [e]))]
    have q0 : ¬ a.psn.toList = b.psn.toList := by
      intro e
      have e2 := eqS_nb a.psn b.psn
      rw [e] at e2
      simp at e2
      exact h0 (nb_inj e2)
    simp [q0]
  by_cases h1 : a.dev = b.dev
  rotate_left 1
  · rw [decide_eq_false (fun e => h1 (by rw [e]))]
    have q1 : ¬ a.dev.toList = b.dev.toList := by
      intro e
      have e2 := eqS_nb a.dev b.dev
      rw [e] at e2
      simp at e2
      exact h1 (nb_inj e2)
    simp [h0, q1]
  by_cases h2 : a.st = b.st
  rotate_left 1
  · rw [decide_eq_false (fun e => h2 (by rw [e]))]
    have q2 := h2
    simp [h0, h1, q2]
  by_cases h3 : a.at_ = b.at_
  rotate_left 1
  · rw [decide_eq_false (fun e => h3 (by rw [e]))]
    have q3 := h3
    simp [h0, h1, h2, q3]
  by_cases h4 : a.un = b.un
  rotate_left 1
  · rw [decide_eq_false (fun e => h4 (by rw [e]))]
    have q4 := h4
    simp [h0, h1, h2, h3, q4]
  by_cases h5 : a.note = b.note
  rotate_left 1
  · rw [decide_eq_false (fun e => h5 (by rw [e]))]
    have q5 : ¬ a.note.toList = b.note.toList := by
      intro e
      have e2 := eqS_nb a.note b.note
      rw [e] at e2
      simp at e2
      exact h5 (nb_inj e2)
    simp [h0, h1, h2, h3, h4, q5]
  rw [decide_eq_true (show a = b by cases a; cases b; simp_all)]
  simp [h0, h1, h2, h3, h4, h5]
theorem bcEq_eql (a b : BcV) (w : World) : (binOp .eql 62 (.agg #[.string a.psn, .string a.dev, .int .i64 a.st, .int .i64 a.at_, .int .i64 a.un, .string a.note]) (.agg #[.string b.psn, .string b.dev, .int .i64 b.st, .int .i64 b.at_, .int .i64 b.un, .string b.note])).run Tryz.prog w = .ok (.bool (decide (a = b))) w := by
  rw [run_eql_struct, bcEq_in]; rfl
theorem bcEq_neq (a b : BcV) (w : World) : (binOp .neq 62 (.agg #[.string a.psn, .string a.dev, .int .i64 a.st, .int .i64 a.at_, .int .i64 a.un, .string a.note]) (.agg #[.string b.psn, .string b.dev, .int .i64 b.st, .int .i64 b.at_, .int .i64 b.un, .string b.note])).run Tryz.prog w = .ok (.bool (!decide (a = b))) w := by
  rw [run_neq_struct, bcEq_in]; rfl

theorem Tryz.winTh : StructT Tryz.prog 79 2 := ⟨_, Tryz.underlying79, rfl, by kernel_rfl⟩
set_option maxHeartbeats 1000000 in
theorem insideT_any (t : Int) (p : Int × Int) (w : World) : Calls Tryz.prog 116 #[.int .i64 t, .agg #[.int .i64 p.1, .int .i64 p.2]] w (RetV (.bool (decide (p.1 ≤ t) && decide (t < p.2))) w) := by
  obtain ⟨pf, pt⟩ := p
  dsimp only
  cases c1 : decide (pf ≤ t) <;> cases c2 : decide (t < pt)
  all_goals
    go_enter Tryz.func116, Tryz.ntmps116
    go_wp2_with fail
    go_ret
    exact ⟨by first | rfl | simp, gr_alloc (gr_refl _ _) _⟩
theorem two_at {a b v : Int} {j : Nat} (h : [a, b][j]? = some v) : (#[Value.int .i64 a, Value.int .i64 b] : Array Value)[j]? = some (.int .i64 v) := by
  rcases j with _ | _ | j
  · simpa using h
  · simpa using h
  · simp at h
theorem filt_succ {l : List Int} {c : Int → Bool} {j : Nat} {v : Int} (h : l[j]? = some v) : (l.take (j + 1)).filter c = (l.take j).filter c ++ (if c v then [v] else []) := by
  obtain ⟨hl, e⟩ := List.getElem?_eq_some_iff.1 h
  rw [List.take_succ_eq_append_getElem hl, List.filter_append, e]
  cases hc : c v <;> simp [hc]
end Go.Proofs.YtgogiljplnninaaGreatDoor

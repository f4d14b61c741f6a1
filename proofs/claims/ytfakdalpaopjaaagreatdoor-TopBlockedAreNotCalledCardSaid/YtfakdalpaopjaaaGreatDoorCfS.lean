/- The order of tidyForwards; contracts of slices.SortStableFunc and slices.CompactFunc by it: some of the forwards. Conditions: at most 19 forwards, each FwW. -/
import Derived.Test.YtfakdalpaopjaaaGreatDoorBun9
import Derived.Test.YtfakdalpaopjaaaGreatDoorBun5
import Derived.Deep.CutBlock
namespace Go.Proofs.YtfakdalpaopjaaaGreatDoor
open Go.RowKit

def FwW (f : FwV) : Prop := FwOk f ∧ 0 ≤ f.when_ ∧ f.when_ ≤ 1000
theorem encF (n : Int) : (Utf8.encode n).size ≤ 4 := by
  unfold Utf8.encode
  dsimp only
  split <;> (try split) <;> (try split) <;> (try split) <;> first | (show 1 ≤ 4; omega) | (show 2 ≤ 4; omega) | (show 3 ≤ 4; omega) | (show 4 ≤ 4; omega) | fail
theorem exec_ldf {P : Program} {w : World} {o : Oper} {ev : Operand → Value} {ty : TypeId} {n : Nat} (T : StructT P ty n) (x : Operand) (ho : o.op = .load ty x) (p : Addr) (hx : ev x = .pointer (some p)) (cs : List Value) (hn : cs.length = n) (hc : ∀ j u, cs[j]? = some u → w.cell? (p.add j) = some u) :
    (execOp ev o).run P w = .ok (.value (.agg cs.toArray)) w := by
  unfold execOp
  simp only [ho, hx, Instr.loadAt, Instr.sureAddr, Sem.run_bind, Sem.run_pure, Result.andThen_ok, run_load_at T hn hc]
theorem app_sz (s t : ByteArray) : (s ++ t).size = s.size + t.size := by simp
/-- The key of a forward. -/
def tkS (f : FwV) : ByteArray := f.line ++ ⟨#[32]⟩ ++ Utf8.encode (48 + f.when_) ++ ⟨#[32]⟩ ++ f.hrs
set_option maxHeartbeats 4000000 in
theorem tidyKey_any (a : FwV) (w : World) (ha : FwW a) : Calls Tryz.prog 72 #[.agg #[.string a.line, .int .i64 a.when_, .string a.to_, .string a.hrs]] w (RetV (.string (tkS a)) w) := by
  obtain ⟨⟨p1, p2, p3⟩, p4, p5⟩ := ha
  obtain ⟨w1, hw1⟩ : ∃ v, w.alloc (.cells #[.string a.line, .int .i64 a.when_, .string a.to_, .string a.hrs] 97) = v := ⟨_, rfl⟩
  have HX := Lib.hid (show Blk w1 w.heap.size 97 #[.string a.line, .int .i64 a.when_, .string a.to_, .string a.hrs] by rw [← hw1]; exact Blk.new _ _ _)
  have HG := Lib.hid (show w.grownBy w1 none by rw [← hw1]; exact gr_alloc (gr_refl _ _) _)
  have HW1 := Lib.hid hw1
  clear hw1
  have k0 := HX.out.cell 0; have k1 := HX.out.cell 1; have k3 := HX.out.cell 3
  have sw : IntKind.i64.wrap (48 + a.when_) = 48 + a.when_ := IntWalk.i64_in _ (by omega)
  have sw2 : IntKind.i32.wrap (48 + a.when_) = 48 + a.when_ := IntWalk.i32_in _ (by omega)
  have HV := Lib.hid (show tkS a = a.line ++ ⟨#[32]⟩ ++ Utf8.encode (48 + a.when_) ++ ⟨#[32]⟩ ++ a.hrs from rfl)
  obtain ⟨sp, hsp⟩ : ∃ x, (⟨#[32]⟩ : ByteArray) = x := ⟨_, rfl⟩
  have hspz : sp.size = 1 := by rw [← hsp]; rfl
  obtain ⟨en, hen⟩ : ∃ x, Utf8.encode (48 + a.when_) = x := ⟨_, rfl⟩
  have henz : en.size ≤ 4 := by rw [← hen]; exact encF _
  rw [hsp, hen] at HV
  obtain ⟨t1, ht1⟩ : ∃ x, a.line ++ sp = x := ⟨_, rfl⟩
  have hz1 : t1.size ≤ 1000001 := by rw [← ht1, app_sz]; omega
  obtain ⟨t2, ht2⟩ : ∃ x, t1 ++ en = x := ⟨_, rfl⟩
  have hz2 : t2.size ≤ 1000005 := by rw [← ht2, app_sz]; omega
  obtain ⟨t3, ht3⟩ : ∃ x, t2 ++ sp = x := ⟨_, rfl⟩
  have hz3 : t3.size ≤ 1000006 := by rw [← ht3, app_sz]; omega
  rw [ht1, ht2, ht3] at HV
  have b1 : ¬ 9223372036854775807 < a.line.size + sp.size := by omega
  have b2 : ¬ 9223372036854775807 < t1.size + en.size := by omega
  have b3 : ¬ 9223372036854775807 < t2.size + sp.size := by omega
  have b4 : ¬ 9223372036854775807 < t3.size + a.hrs.size := by omega
  clear hspz
  go_enter Tryz.func72, Tryz.ntmps72
  go_upto_region 1 with (fail)
  rw [HW1.out]
  go_wp2_with fail
  go_ret
  exact ⟨by rw [HV.out]; try rfl, HG.out⟩
set_option maxHeartbeats 4000000 in
theorem tidyCmp_any (a b : FwV) (tb : Nat) (w : World) (hk : Blk w tb 160 #[.func (.func 72) #[] #[]]) (ha : FwW a) (hb : FwW b) : Calls Tryz.prog 74 #[.agg #[.string a.line, .int .i64 a.when_, .string a.to_, .string a.hrs], .agg #[.string b.line, .int .i64 b.when_, .string b.to_, .string b.hrs], .pointer (some ⟨tb, 0, none⟩)] w (RetV (.int .i64 (cmpS (tkS a) (tkS b))) w) := by
  obtain ⟨W1, hW⟩ : ∃ W1, (w.alloc (.cells #[.string a.line, .int .i64 a.when_, .string a.to_, .string a.hrs] 97)).alloc (.cells #[.string b.line, .int .i64 b.when_, .string b.to_, .string b.hrs] 97) = W1 := ⟨_, rfl⟩
  have HA := Lib.hid (show Blk W1 w.heap.size 97 #[.string a.line, .int .i64 a.when_, .string a.to_, .string a.hrs] by rw [← hW]; exact (Blk.new _ _ _).alloc _)
  have HB := Lib.hid (show Blk W1 (w.heap.size + 1) 97 #[.string b.line, .int .i64 b.when_, .string b.to_, .string b.hrs] by
    rw [← hW]
    have h := Blk.new (w.alloc (.cells #[.string a.line, .int .i64 a.when_, .string a.to_, .string a.hrs] 97)) 97 #[.string b.line, .int .i64 b.when_, .string b.to_, .string b.hrs]
    simpa using h)
  have HG := Lib.hid (show w.grownBy W1 none by rw [← hW]; exact gr_alloc (gr_alloc (gr_refl _ _) _) _)
  have HKT := Lib.hid (hk.grown HG.out (by simp))
  have HW := Lib.hid hW; clear hW hk
  go_enter Tryz.func74, Tryz.ntmps74
  go_upto_region 1 with (fail)
  rw [HW.out]
  refine H_begin (fun w' => W1.grownBy w' none) (by kernel_rfl) ?_
  have hHeld : W1.grownBy W1.drew none := gr_drew (gr_refl _ _)
  generalize W1.drew = wd at hHeld ⊢
  refine H_take (k := 0) (v := ?_) (by rfl) (by kernel_rfl) (by kernel_rfl) (by kernel_rfl) (by exact fun _ _ _ h => h) (by rfl) ?_ (by assumption) ?_
  rotate_left 1
  · intro w' hSw
    have kc := (HKT.out.grown hSw (by simp)).cell 0
    go_simp
    (try with_reducible rfl)
  (try simp only [Act.put, List.setIfInBounds_toArray, List.set_cons_zero, List.set_cons_succ])
  refine H_take (k := 1) (v := .agg #[.string a.line, .int .i64 a.when_, .string a.to_, .string a.hrs]) (by rfl) (by kernel_rfl) (by kernel_rfl) (by kernel_rfl) (by exact fun _ _ _ h => h) (by rfl) (fun w' hSw => exec_ldb Tryz.fwT _ rfl _ rfl 97 [.string a.line, .int .i64 a.when_, .string a.to_, .string a.hrs] (HA.out.grown hSw (by simp)) rfl) (by assumption) ?_
  (try simp only [Act.put, List.setIfInBounds_toArray, List.set_cons_zero, List.set_cons_succ])
  refine H_take (k := 3) (v := ?_) (by rfl) (by kernel_rfl) (by kernel_rfl) (by kernel_rfl) (by exact fun _ _ _ h => h) (by rfl) ?_ (by assumption) ?_
  rotate_left 1
  · intro w' hSw
    have kc := (HKT.out.grown hSw (by simp)).cell 0
    go_simp
    (try with_reducible rfl)
  (try simp only [Act.put, List.setIfInBounds_toArray, List.set_cons_zero, List.set_cons_succ])
  refine H_take (k := 4) (v := .agg #[.string b.line, .int .i64 b.when_, .string b.to_, .string b.hrs]) (by rfl) (by kernel_rfl) (by kernel_rfl) (by kernel_rfl) (by exact fun _ _ _ h => h) (by rfl) (fun w' hSw => exec_ldb Tryz.fwT _ rfl _ rfl 97 [.string b.line, .int .i64 b.when_, .string b.to_, .string b.hrs] (HB.out.grown hSw (by simp)) rfl) (by assumption) ?_
  (try simp only [Act.put, List.setIfInBounds_toArray, List.set_cons_zero, List.set_cons_succ])
  refine H_run (k := 2) (by rfl) (by kernel_rfl) (by rfl) (fun K hK => ?_)
  go_simp
  refine (tidyKey_any a _ ha).mono ?_
  rintro e w2 ⟨rfl, hg2⟩
  have hgz := gr_none hHeld hg2
  refine hK _ _ hgz ?_
  clear hK K hHeld hg2
  have hHeld := hgz
  clear hgz
  (try simp only [Act.put, List.setIfInBounds_toArray, List.set_cons_zero, List.set_cons_succ])
  refine H_run (k := 5) (by rfl) (by kernel_rfl) (by rfl) (fun K hK => ?_)
  go_simp
  refine (tidyKey_any b _ hb).mono ?_
  rintro e w3 ⟨rfl, hg3⟩
  have hgz := gr_none hHeld hg3
  refine hK _ _ hgz ?_
  clear hK K hHeld hg3
  have hHeld := hgz
  clear hgz
  (try simp only [Act.put, List.setIfInBounds_toArray, List.set_cons_zero, List.set_cons_succ])
  refine H_run (k := 6) (by rfl) (by kernel_rfl) (by rfl) (fun K hK => ?_)
  go_simp
  refine same_calls (strCmp_any _ _ _) ?_
  refine hK _ _ hHeld ?_
  clear hK K
  (try simp only [Act.put, List.setIfInBounds_toArray, List.set_cons_zero, List.set_cons_succ])
  refine H_take (k := 7) (v := ?_) (by rfl) (by kernel_rfl) (by kernel_rfl) (by kernel_rfl) (by exact fun _ _ _ h => h) (by rfl) ?_ (by assumption) ?_
  rotate_left 1
  · intro w hSw
    (try dsimp only at hSw)
    go_simp
    (try with_reducible rfl)
  (try simp only [Act.put, List.setIfInBounds_toArray, List.set_cons_zero, List.set_cons_succ])
  refine H_done (by kernel_rfl) ?_
  have HG3 := Lib.hid (gr_none HG.out hHeld)
  go_wp2_with fail
  go_ret
  exact ⟨rfl, HG3.out⟩
set_option maxHeartbeats 4000000 in
theorem tidyEq_any (a b : FwV) (tb : Nat) (w : World) (hk : Blk w tb 160 #[.func (.func 72) #[] #[]]) (ha : FwW a) (hb : FwW b) : Calls Tryz.prog 77 #[.agg #[.string a.line, .int .i64 a.when_, .string a.to_, .string a.hrs], .agg #[.string b.line, .int .i64 b.when_, .string b.to_, .string b.hrs], .pointer (some ⟨tb, 0, none⟩)] w (RetV (.bool ((tkS a).toList == (tkS b).toList)) w) := by
  obtain ⟨W1, hW⟩ : ∃ W1, (w.alloc (.cells #[.string a.line, .int .i64 a.when_, .string a.to_, .string a.hrs] 97)).alloc (.cells #[.string b.line, .int .i64 b.when_, .string b.to_, .string b.hrs] 97) = W1 := ⟨_, rfl⟩
  have HA := Lib.hid (show Blk W1 w.heap.size 97 #[.string a.line, .int .i64 a.when_, .string a.to_, .string a.hrs] by rw [← hW]; exact (Blk.new _ _ _).alloc _)
  have HB := Lib.hid (show Blk W1 (w.heap.size + 1) 97 #[.string b.line, .int .i64 b.when_, .string b.to_, .string b.hrs] by
    rw [← hW]
    have h := Blk.new (w.alloc (.cells #[.string a.line, .int .i64 a.when_, .string a.to_, .string a.hrs] 97)) 97 #[.string b.line, .int .i64 b.when_, .string b.to_, .string b.hrs]
    simpa using h)
  have HG := Lib.hid (show w.grownBy W1 none by rw [← hW]; exact gr_alloc (gr_alloc (gr_refl _ _) _) _)
  have HKT := Lib.hid (hk.grown HG.out (by simp))
  have HW := Lib.hid hW; clear hW hk
  go_enter Tryz.func77, Tryz.ntmps77
  go_upto_region 1 with (fail)
  rw [HW.out]
  refine H_begin (fun w' => W1.grownBy w' none) (by kernel_rfl) ?_
  have hHeld : W1.grownBy W1.drew none := gr_drew (gr_refl _ _)
  generalize W1.drew = wd at hHeld ⊢
  refine H_take (k := 0) (v := ?_) (by rfl) (by kernel_rfl) (by kernel_rfl) (by kernel_rfl) (by exact fun _ _ _ h => h) (by rfl) ?_ (by assumption) ?_
  rotate_left 1
  · intro w' hSw
    have kc := (HKT.out.grown hSw (by simp)).cell 0
    go_simp
    (try with_reducible rfl)
  (try simp only [Act.put, List.setIfInBounds_toArray, List.set_cons_zero, List.set_cons_succ])
  refine H_take (k := 1) (v := .agg #[.string a.line, .int .i64 a.when_, .string a.to_, .string a.hrs]) (by rfl) (by kernel_rfl) (by kernel_rfl) (by kernel_rfl) (by exact fun _ _ _ h => h) (by rfl) (fun w' hSw => exec_ldb Tryz.fwT _ rfl _ rfl 97 [.string a.line, .int .i64 a.when_, .string a.to_, .string a.hrs] (HA.out.grown hSw (by simp)) rfl) (by assumption) ?_
  (try simp only [Act.put, List.setIfInBounds_toArray, List.set_cons_zero, List.set_cons_succ])
  refine H_take (k := 3) (v := ?_) (by rfl) (by kernel_rfl) (by kernel_rfl) (by kernel_rfl) (by exact fun _ _ _ h => h) (by rfl) ?_ (by assumption) ?_
  rotate_left 1
  · intro w' hSw
    have kc := (HKT.out.grown hSw (by simp)).cell 0
    go_simp
    (try with_reducible rfl)
  (try simp only [Act.put, List.setIfInBounds_toArray, List.set_cons_zero, List.set_cons_succ])
  refine H_take (k := 4) (v := .agg #[.string b.line, .int .i64 b.when_, .string b.to_, .string b.hrs]) (by rfl) (by kernel_rfl) (by kernel_rfl) (by kernel_rfl) (by exact fun _ _ _ h => h) (by rfl) (fun w' hSw => exec_ldb Tryz.fwT _ rfl _ rfl 97 [.string b.line, .int .i64 b.when_, .string b.to_, .string b.hrs] (HB.out.grown hSw (by simp)) rfl) (by assumption) ?_
  (try simp only [Act.put, List.setIfInBounds_toArray, List.set_cons_zero, List.set_cons_succ])
  refine H_run (k := 2) (by rfl) (by kernel_rfl) (by rfl) (fun K hK => ?_)
  go_simp
  refine (tidyKey_any a _ ha).mono ?_
  rintro e w2 ⟨rfl, hg2⟩
  have hgz := gr_none hHeld hg2
  refine hK _ _ hgz ?_
  clear hK K hHeld hg2
  have hHeld := hgz
  clear hgz
  (try simp only [Act.put, List.setIfInBounds_toArray, List.set_cons_zero, List.set_cons_succ])
  refine H_run (k := 5) (by rfl) (by kernel_rfl) (by rfl) (fun K hK => ?_)
  go_simp
  refine (tidyKey_any b _ hb).mono ?_
  rintro e w3 ⟨rfl, hg3⟩
  have hgz := gr_none hHeld hg3
  refine hK _ _ hgz ?_
  clear hK K hHeld hg3
  have hHeld := hgz
  clear hgz
  (try simp only [Act.put, List.setIfInBounds_toArray, List.set_cons_zero, List.set_cons_succ])
  refine H_take (k := 6) (v := ?_) (by rfl) (by kernel_rfl) (by kernel_rfl) (by kernel_rfl) (by exact fun _ _ _ h => h) (by rfl) ?_ (by assumption) ?_
  rotate_left 1
  · intro w hSw
    (try dsimp only at hSw)
    go_simp
    (try with_reducible rfl)
  (try simp only [Act.put, List.setIfInBounds_toArray, List.set_cons_zero, List.set_cons_succ])
  refine H_take (k := 7) (v := ?_) (by rfl) (by kernel_rfl) (by kernel_rfl) (by kernel_rfl) (by exact fun _ _ _ h => h) (by rfl) ?_ (by assumption) ?_
  rotate_left 1
  · intro w hSw
    (try dsimp only at hSw)
    go_simp
    (try with_reducible rfl)
  (try simp only [Act.put, List.setIfInBounds_toArray, List.set_cons_zero, List.set_cons_succ])
  refine H_done (by kernel_rfl) ?_
  have HG3 := Lib.hid (gr_none HG.out hHeld)
  go_wp2_with fail
  go_ret
  exact ⟨rfl, HG3.out⟩
def OwnFw (w : World) (lo : Nat) (A : Option Addr) (n c : Nat) (l : List FwV) : Prop := OwnR FwV.row 4 w lo 97 A n c l ∧ ∀ r ∈ l, FwW r
theorem FwV.one (r : FwV) : ∀ u ∈ r.row, u.oneCell' = true := by
  intro u hu
  simp only [FwV.row, List.mem_cons, List.not_mem_nil, or_false] at hu
  rcases hu with rfl | rfl | rfl | rfl <;> rfl
theorem OwnFw.swap {l : List FwV} {i j : Nat} {x y : FwV} (hok : ∀ r ∈ l, FwW r) (hx : x ∈ l) (hy : y ∈ l) : ∀ r ∈ (l.set i x).set j y, FwW r := by
  intro r hr
  rcases List.mem_or_eq_of_mem_set hr with h | rfl
  · rcases List.mem_or_eq_of_mem_set h with h | rfl
    · exact hok r h
    · exact hok _ hx
  · exact hok _ hy
theorem flat_drop {α : Type} {row : α → List Value} {k : Nat} (hrow : ∀ a, (row a).length = k) : ∀ (l : List α) (i : Nat), (l.flatMap row).drop (i * k) = (l.drop i).flatMap row
  | l, 0 => by simp
  | [], i + 1 => by simp
  | a :: l, i + 1 => by
    rw [List.flatMap_cons, List.drop_succ_cons, ← flat_drop hrow l i, Nat.succ_mul, Nat.add_comm, ← List.drop_drop, show List.drop k (row a ++ l.flatMap row) = l.flatMap row by rw [← hrow a, List.drop_left]]
theorem flat_take2 {α : Type} {row : α → List Value} {k : Nat} (hrow : ∀ a, (row a).length = k) : ∀ (l : List α) (i : Nat), (l.flatMap row).take (i * k) = (l.take i).flatMap row
  | l, 0 => by simp
  | [], i + 1 => by simp
  | a :: l, i + 1 => by
    rw [List.flatMap_cons, List.take_succ_cons, List.flatMap_cons, ← flat_take2 hrow l i, Nat.succ_mul, Nat.add_comm, show k + i * k = (row a).length + i * k by rw [hrow], List.take_length_add_append]
theorem Recs.dropK {α : Type} {row : α → List Value} {k : Nat} {w : World} {lo n c g o i : Nat} {l : List α} (hrow : ∀ a, (row a).length = k) (h : Recs row k w lo (some ⟨g, o, none⟩) n c l) (hi : i < n) : Recs row k w lo (some ⟨g, o + i * k, none⟩) (n - i) (c - i) (l.drop i) := by
  obtain ⟨⟨h1, h2, h3⟩, h4⟩ := h
  obtain ⟨g', o', e, q1, q2, q3⟩ := h3 (by omega)
  injection e with e
  injection e with e1 e2
  subst e1; subst e2
  refine ⟨⟨?_, by omega, fun _ => ⟨g, o + i * k, rfl, q1, q2, fun j u hu => ?_⟩⟩, by rw [List.length_drop, h4]⟩
  · rw [← flat_drop hrow, List.length_drop, h1, Nat.sub_mul]
  · rw [← flat_drop hrow, List.getElem?_drop] at hu
    rw [Nat.add_assoc]
    exact q3 _ _ hu
end Go.Proofs.YtfakdalpaopjaaaGreatDoor

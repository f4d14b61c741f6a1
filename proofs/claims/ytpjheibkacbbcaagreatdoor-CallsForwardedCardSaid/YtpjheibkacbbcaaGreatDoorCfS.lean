/- The order of tidyForwards; contracts of slices.SortStableFunc and slices.CompactFunc by it: some of the forwards. Conditions: at most 19 forwards, each FwW. -/
import Derived.Test.YtpjheibkacbbcaaGreatDoorCf1
import Derived.Test.YtpjheibkacbbcaaGreatDoorBun6
import Derived.Deep.CutBlock
namespace Go.Proofs.YtpjheibkacbbcaaGreatDoor
open Go.RowKit

def FwW (f : FwV) : Prop := FwOk f ∧ 0 ≤ f.when_ ∧ f.when_ ≤ 1000
theorem encF (n : Int) : (Utf8.encode n).size ≤ 4 := by
  unfold Utf8.encode
  dsimp only
  split <;> (try split) <;> (try split) <;> (try split) <;> first | (show 1 ≤ 4; omega) | (show 2 ≤ 4; omega) | (show 3 ≤ 4; omega) | (show 4 ≤ 4; omega) | fail
theorem exec_ldf {P : Program} {w : World} {o : Oper} {ev : Operand → Value} {ty : TypeId} {n : Nat} (T : StructT P ty n) (x : Operand) (ho : o.op = .load ty x) (p : Addr) (hx : ev x = .pointer (some p)) (cs : List Value) (hn : cs.length = n) (hc : ∀ j u, cs[j]? = some u → w.cell? (p.add j) = some u) :
    (execOp ev o).run P w = .ok (.value (.agg cs.toArray)) w := by
  unfold execOp
  simp only [ho, hx, Instr.loadAt, Instr.sureAddr, Sem.run_bind, Sem.run_pure, Result.andThen_ok, run_load_at T hn hc]
theorem app_sz (s t : ByteArray) : (s ++ t).size = s.size + t.size := by simp
/-- The key of a forward. -/
def tkS (f : FwV) : ByteArray := f.line ++ ⟨#[32]⟩ ++ Utf8.encode (48 + f.when_) ++ ⟨#[32]⟩ ++ f.hrs
set_option maxHeartbeats 4000000 in
theorem tidyKey_any (a : FwV) (w : World) (ha : FwW a) : Calls Tryz.prog 137 #[.agg #[.string a.line, .int .i64 a.when_, .string a.to_, .string a.hrs]] w (RetV (.string (tkS a)) w) := by
  obtain ⟨⟨p1, p2, p3⟩, p4, p5⟩ := ha
  obtain ⟨w1, hw1⟩ : ∃ v, w.alloc (.cells #[.string a.line, .int .i64 a.when_, .string a.to_, .string a.hrs] 114) = v := ⟨_, rfl⟩
  have HX := Lib.hid (show Blk w1 w.heap.size 114 #[.string a.line, .int .i64 a.when_, .string a.to_, .string a.hrs] by rw [← hw1]; exact Blk.new _ _ _)
  have HG := Lib.hid (show w.grownBy w1 none by rw [← hw1]; exact gr_alloc (gr_refl _ _) _)
  have HW1 := Lib.hid hw1
  clear hw1
  have k0 := HX.out.cell 0; have k1 := HX.out.cell 1; have k3 := HX.out.cell 3
  have sw : IntKind.i64.wrap (48 + a.when_) = 48 + a.when_ := IntWalk.i64_in _ (by omega)
  have sw2 : IntKind.i32.wrap (48 + a.when_) = 48 + a.when_ := IntWalk.i32_in _ (by omega)
  have HV := Lib.hid (show tkS a = a.line ++ ⟨#[32]⟩ ++ Utf8.encode (48 + a.when_) ++ ⟨#[32]⟩ ++ a.hrs from rfl)
  obtain ⟨sp, hsp⟩ : ∃ x, (⟨#[32]⟩ : ByteArray) = x := ⟨_, rfl⟩
  have hspz : sp.size = 1 := by rw [← hsp]; rfl
  obtain ⟨en, hen⟩ : ∃ x, Utf8.encode (48 + a.when_) = x := ⟨_, rfl⟩
  have henz : en.size ≤ 4 := by rw [← hen]; exact encF _
  rw [hsp, hen] at HV
  obtain ⟨t1, ht1⟩ : ∃ x, a.line ++ sp = x := ⟨_, rfl⟩
  have hz1 : t1.size ≤ 1000001 := by rw [← ht1, app_sz]; omega
  obtain ⟨t2, ht2⟩ : ∃ x, t1 ++ en = x := ⟨_, rfl⟩
  have hz2 : t2.size ≤ 1000005 := by rw [← ht2, app_sz]; omega
  obtain ⟨t3, ht3⟩ : ∃ x, t2 ++ sp = x := ⟨_, rfl⟩
  have hz3 : t3.size ≤ 1000006 := by rw [← ht3, app_sz]; omega
  rw [ht1, ht2, ht3] at HV
  have b1 : ¬ 9223372036854775807 < a.line.size + sp.size := by omega
  have b2 : ¬ 9223372036854775807 < t1.size + en.size := by omega
  have b3 : ¬ 9223372036854775807 < t2.size + sp.size := by omega
  have b4 : ¬ 9223372036854775807 < t3.size + a.hrs.size := by omega
  clear hspz
  go_enter Tryz.func137, Tryz.ntmps137
  go_upto_region 1 with (fail)
  rw [HW1.out]
  go_wp2_with fail
  go_ret
  exact ⟨by rw [HV.out]; try rfl, HG.out⟩
set_option maxHeartbeats 4000000 in
theorem tidyCmp_any (a b : FwV) (tb : Nat) (w : World) (hk : Blk w tb 220 #[.func (.func 137) #[] #[]]) (ha : FwW a) (hb : FwW b) : Calls Tryz.prog 139 #[.agg #[.string a.line, .int .i64 a.when_, .string a.to_, .string a.hrs], .agg #[.string b.line, .int .i64 b.when_, .string b.to_, .string b.hrs], .pointer (some ⟨tb, 0, none⟩)] w (RetV (.int .i64 (cmpS (tkS a) (tkS b))) w) := by
  obtain ⟨W1, hW⟩ : ∃ W1, (w.alloc (.cells #[.string a.line, .int .i64 a.when_, .string a.to_, .string a.hrs] 114)).alloc (.cells #[.string b.line, .int .i64 b.when_, .string b.to_, .string b.hrs] 114) = W1 := ⟨_, rfl⟩
  have HA := Lib.hid (show Blk W1 w.heap.size 114 #[.string a.line, .int .i64 a.when_, .string a.to_, .string a.hrs] by rw [← hW]; exact (Blk.new _ _ _).alloc _)
  have HB := Lib.hid (show Blk W1 (w.heap.size + 1) 114 #[.string b.line, .int .i64 b.when_, .string b.to_, .string b.hrs] by
    rw [← hW]
    have h := Blk.new (w.alloc (.cells #[.string a.line, .int .i64 a.when_, .string a.to_, .string a.hrs] 114)) 114 #[.string b.line, .int .i64 b.when_, .string b.to_, .string b.hrs]
    simpa using h)
  have HG := Lib.hid (show w.grownBy W1 none by rw [← hW]; exact gr_alloc (gr_alloc (gr_refl _ _) _) _)
  have HKT := Lib.hid (hk.grown HG.out (by simp))
  have HW := Lib.hid hW; clear hW hk
  go_enter Tryz.func139, Tryz.ntmps139
  go_upto_region 1 with (fail)
  rw [HW.out]
  refine H_begin (fun w' => W1.grownBy w' none) (by kernel_rfl) ?_
  have hHeld : W1.grownBy W1.drew none := gr_drew (gr_refl _ _)
  generalize W1.drew = wd at hHeld ⊢
  refine H_take (k := 0) (v := ?_) (by rfl) (by kernel_rfl) (by kernel_rfl) (by kernel_rfl) (by exact fun _ _ _ h => h) (by rfl) ?_ (by assumption) ?_
  rotate_left 1
  · intro w' hSw
    have kc := (HKT.out.grown hSw (by simp)).cell 0
    go_simp
    (try with_reducible rfl)
  (try simp only [Act.put, List.setIfInBounds_toArray, List.set_cons_zero, List.set_cons_succ])
  refine H_take (k := 1) (v := .agg #[.string a.line, .int .i64 a.when_, .string a.to_, .string a.hrs]) (by rfl) (by kernel_rfl) (by kernel_rfl) (by kernel_rfl) (by exact fun _ _ _ h => h) (by rfl) (fun w' hSw => exec_ldb Tryz.fwT _ rfl _ rfl 114 [.string a.line, .int .i64 a.when_, .string a.to_, .string a.hrs] (HA.out.grown hSw (by simp)) rfl) (by assumption) ?_
  (try simp only [Act.put, List.setIfInBounds_toArray, List.set_cons_zero, List.set_cons_succ])
  refine H_take (k := 3) (v := ?_) (by rfl) (by kernel_rfl) (by kernel_rfl) (by kernel_rfl) (by exact fun _ _ _ h => h) (by rfl) ?_ (by assumption) ?_
  rotate_left 1
  · intro w' hSw
    have kc := (HKT.out.grown hSw (by simp)).cell 0
    go_simp
    (try with_reducible rfl)
  (try simp only [Act.put, List.setIfInBounds_toArray, List.set_cons_zero, List.set_cons_succ])
  refine H_take (k := 4) (v := .agg #[.string b.line, .int .i64 b.when_, .string b.to_, .string b.hrs]) (by rfl) (by kernel_rfl) (by kernel_rfl) (by kernel_rfl) (by exact fun _ _ _ h => h) (by rfl) (fun w' hSw => exec_ldb Tryz.fwT _ rfl _ rfl 114 [.string b.line, .int .i64 b.when_, .string b.to_, .string b.hrs] (HB.out.grown hSw (by simp)) rfl) (by assumption) ?_
  (try simp only [Act.put, List.setIfInBounds_toArray, List.set_cons_zero, List.set_cons_succ])
  refine H_run (k := 2) (by rfl) (by kernel_rfl) (by rfl) (fun K hK => ?_)
  go_simp
  refine (tidyKey_any a _ ha).mono ?_
  rintro e w2 ⟨rfl, hg2⟩
  have hgz := gr_none hHeld hg2
  refine hK _ _ hgz ?_
  clear hK K hHeld hg2
  have hHeld := hgz
  clear hgz
  (try simp only [Act.put, List.setIfInBounds_toArray, List.set_cons_zero, List.set_cons_succ])
  refine H_run (k := 5) (by rfl) (by kernel_rfl) (by rfl) (fun K hK => ?_)
  go_simp
  refine (tidyKey_any b _ hb).mono ?_
  rintro e w3 ⟨rfl, hg3⟩
  have hgz := gr_none hHeld hg3
  refine hK _ _ hgz ?_
  clear hK K hHeld hg3
  have hHeld := hgz
  clear hgz
  (try simp only [Act.put, List.setIfInBounds_toArray, List.set_cons_zero, List.set_cons_succ])
  refine H_run (k := 6) (by rfl) (by kernel_rfl) (by rfl) (fun K hK => ?_)
  go_simp
  refine same_calls (strCmp_any _ _ _) ?_
  refine hK _ _ hHeld ?_
  clear hK K
  (try simp only [Act.put, List.setIfInBounds_toArray, List.set_cons_zero, List.set_cons_succ])
  refine H_take (k := 7) (v := ?_) (by rfl) (by kernel_rfl) (by kernel_rfl) (by kernel_rfl) (by exact fun _ _ _ h => h) (by rfl) ?_ (by assumption) ?_
  rotate_left 1
  · intro w hSw
    (try dsimp only at hSw)
    go_simp
    (try with_reducible rfl)
  (try simp only [Act.put, List.setIfInBounds_toArray, List.set_cons_zero, List.set_cons_succ])
  refine H_done (by kernel_rfl) ?_
  have HG3 := Lib.hid (gr_none HG.out hHeld)
  go_wp2_with fail
  go_ret
  exact ⟨rfl, HG3.out⟩
set_option maxHeartbeats 4000000 in
theorem tidyEq_any (a b : FwV) (tb : Nat) (w : World) (hk : Blk w tb 220 #[.func (.func 137) #[] #[]]) (ha : FwW a) (hb : FwW b) : Calls Tryz.prog 142 #[.agg #[.string a.line, .int .i64 a.when_, .string a.to_, .string a.hrs], .agg #[.string b.line, .int .i64 b.when_, .string b.to_, .string b.hrs], .pointer (some ⟨tb, 0, none⟩)] w (RetV (.bool ((tkS a).toList == (tkS b).toList)) w) := by
  obtain ⟨W1, hW⟩ : ∃ W1, (w.alloc (.cells #[.string a.line, .int .i64 a.when_, .string a.to_, .string a.hrs] 114)).alloc (.cells #[.string b.line, .int .i64 b.when_, .string b.to_, .string b.hrs] 114) = W1 := ⟨_, rfl⟩
  have HA := Lib.hid (show Blk W1 w.heap.size 114 #[.string a.line, .int .i64 a.when_, .string a.to_, .string a.hrs] by rw [← hW]; exact (Blk.new _ _ _).alloc _)
  have HB := Lib.hid (show Blk W1 (w.heap.size + 1) 114 #[.string b.line, .int .i64 b.when_, .string b.to_, .string b.hrs] by
    rw [← hW]
    have h := Blk.new (w.alloc (.cells #[.string a.line, .int .i64 a.when_, .string a.to_, .string a.hrs] 114)) 114 #[.string b.line, .int .i64 b.when_, .string b.to_, .string b.hrs]
    simpa using h)
  have HG := Lib.hid (show w.grownBy W1 none by rw [← hW]; exact gr_alloc (gr_alloc (gr_refl _ _) _) _)
  have HKT := Lib.hid (hk.grown HG.out (by simp))
  have HW := Lib.hid hW; clear hW hk
  go_enter Tryz.func142, Tryz.ntmps142
  go_upto_region 1 with (fail)
  rw [HW.out]
  refine H_begin (fun w' => W1.grownBy w' none) (by kernel_rfl) ?_
  have hHeld : W1.grownBy W1.drew none := gr_drew (gr_refl _ _)
  generalize W1.drew = wd at hHeld ⊢
  refine H_take (k := 0) (v := ?_) (by rfl) (by kernel_rfl) (by kernel_rfl) (by kernel_rfl) (by exact fun _ _ _ h => h) (by rfl) ?_ (by assumption) ?_
  rotate_left 1
  · intro w' hSw
    have kc := (HKT.out.grown hSw (by simp)).cell 0
    go_simp
    (try with_reducible rfl)
  (try simp only [Act.put, List.setIfInBounds_toArray, List.set_cons_zero, List.set_cons_succ])
  refine H_take (k := 1) (v := .agg #[.string a.line, .int .i64 a.when_, .string a.to_, .string a.hrs]) (by rfl) (by kernel_rfl) (by kernel_rfl) (by kernel_rfl) (by exact fun _ _ _ h => h) (by rfl) (fun w' hSw => exec_ldb Tryz.fwT _ rfl _ rfl 114 [.string a.line, .int .i64 a.when_, .string a.to_, .string a.hrs] (HA.out.grown hSw (by simp)) rfl) (by assumption) ?_
  (try simp only [Act.put, List.setIfInBounds_toArray, List.set_cons_zero, List.set_cons_succ])
  refine H_take (k := 3) (v := ?_) (by rfl) (by kernel_rfl) (by kernel_rfl) (by kernel_rfl) (by exact fun _ _ _ h => h) (by rfl) ?_ (by assumption) ?_
  rotate_left 1
  · intro w' hSw
    have kc := (HKT.out.grown hSw (by simp)).cell 0
    go_simp
    (try with_reducible rfl)
  (try simp only [Act.put, List.setIfInBounds_toArray, List.set_cons_zero, List.set_cons_succ])
  refine H_take (k := 4) (v := .agg #[.string b.line, .int .i64 b.when_, .string b.to_, .string b.hrs]) (by rfl) (by kernel_rfl) (by kernel_rfl) (by kernel_rfl) (by exact fun _ _ _ h => h) (by rfl) (fun w' hSw => exec_ldb Tryz.fwT _ rfl _ rfl 114 [.string b.line, .int .i64 b.when_, .string b.to_, .string b.hrs] (HB.out.grown hSw (by simp)) rfl) (by assumption) ?_
  (try simp only [Act.put, List.setIfInBounds_toArray, List.set_cons_zero, List.set_cons_succ])
  refine H_run (k := 2) (by rfl) (by kernel_rfl) (by rfl) (fun K hK => ?_)
  go_simp
  refine (tidyKey_any a _ ha).mono ?_
  rintro e w2 ⟨rfl, hg2⟩
  have hgz := gr_none hHeld hg2
  refine hK _ _ hgz ?_
  clear hK K hHeld hg2
  have hHeld := hgz
  clear hgz
  (try simp only [Act.put, List.setIfInBounds_toArray, List.set_cons_zero, List.set_cons_succ])
  refine H_run (k := 5) (by rfl) (by kernel_rfl) (by rfl) (fun K hK => ?_)
  go_simp
  refine (tidyKey_any b _ hb).mono ?_
  rintro e w3 ⟨rfl, hg3⟩
  have hgz := gr_none hHeld hg3
  refine hK _ _ hgz ?_
  clear hK K hHeld hg3
  have hHeld := hgz
  clear hgz
  (try simp only [Act.put, List.setIfInBounds_toArray, List.set_cons_zero, List.set_cons_succ])
  refine H_take (k := 6) (v := ?_) (by rfl) (by kernel_rfl) (by kernel_rfl) (by kernel_rfl) (by exact fun _ _ _ h => h) (by rfl) ?_ (by assumption) ?_
  rotate_left 1
  · intro w hSw
    (try dsimp only at hSw)
    go_simp
    (try with_reducible rfl)
  (try simp only [Act.put, List.setIfInBounds_toArray, List.set_cons_zero, List.set_cons_succ])
  refine H_take (k := 7) (v := ?_) (by rfl) (by kernel_rfl) (by kernel_rfl) (by kernel_rfl) (by exact fun _ _ _ h => h) (by rfl) ?_ (by assumption) ?_
  rotate_left 1
  · intro w hSw
    (try dsimp only at hSw)
    go_simp
    (try with_reducible rfl)
  (try simp only [Act.put, List.setIfInBounds_toArray, List.set_cons_zero, List.set_cons_succ])
  refine H_done (by kernel_rfl) ?_
  have HG3 := Lib.hid (gr_none HG.out hHeld)
  go_wp2_with fail
  go_ret
  exact ⟨rfl, HG3.out⟩
def OwnFw (w : World) (lo : Nat) (A : Option Addr) (n c : Nat) (l : List FwV) : Prop := OwnR FwV.row 4 w lo 114 A n c l ∧ ∀ r ∈ l, FwW r
def SortedF (A : Option Addr) (n c lo : Nat) (w : World) (e : Ending) (w' : World) : Prop := e = .returned (.tuple #[]) ∧ ∃ l', OwnFw w' lo A n c l' ∧ w.grownBy w' (blkOf A)
theorem FwV.one (r : FwV) : ∀ u ∈ r.row, u.oneCell' = true := by
  intro u hu
  simp only [FwV.row, List.mem_cons, List.not_mem_nil, or_false] at hu
  rcases hu with rfl | rfl | rfl | rfl <;> rfl
theorem OwnFw.swap {l : List FwV} {i j : Nat} {x y : FwV} (hok : ∀ r ∈ l, FwW r) (hx : x ∈ l) (hy : y ∈ l) : ∀ r ∈ (l.set i x).set j y, FwW r := by
  intro r hr
  rcases List.mem_or_eq_of_mem_set hr with h | rfl
  · rcases List.mem_or_eq_of_mem_set h with h | rfl
    · exact hok r h
    · exact hok _ hx
  · exact hok _ hy
set_option maxHeartbeats 8000000 in
set_option maxRecDepth 100000 in
theorem insSortF_any (lo : Nat) (A : Option Addr) (n c : Nat) (l : List FwV) (w : World) (h : OwnFw w lo A n c l) (hn : n ≤ 100) (tb : Nat) (hkt : Blk w tb 220 #[.func (.func 137) #[] #[]]) (htn : ∀ g, blkOf A = some g → g ≠ tb) :
    Calls Tryz.prog 255 #[.slice A n c, .int .i64 0, .int .i64 n, .func (.func 139) #[] #[.pointer (some ⟨tb, 0, none⟩)]] w (SortedF A n c lo w) := by
  have H := Lib.hid h; have HKT := Lib.hid hkt; have HTN := Lib.hid htn; clear h hkt htn
  go_enter Tryz.func255, Tryz.ntmps255
  go_wp2_with fail
  go_loopw [8, 9] (fun t _ wr => ∃ (i : Nat) (l' : List FwV), t = .int .i64 i ∧ 1 ≤ i ∧ i ≤ n + 1 ∧ OwnFw wr lo A n c l' ∧ w.grownBy wr (blkOf A)) (fun t _ _ => n + 1 - (intOf t).toNat)
  case atStart => exact ⟨1, l, rfl, Nat.le_refl _, by omega, H.out, gr_refl _ _⟩
  case round =>
    obtain ⟨i, l1, rfl, hi, hi2, hown, hg⟩ := hrel
    have HO := Lib.hid hown; have HG := Lib.hid hg; clear hown hg
    by_cases hlt : i < n
    · obtain ⟨g, rfl, _, _⟩ := H.out.1.1.pos (by omega)
      have hl0 : (i : Int) < (n : Int) := by omega
      go_wp2_with fail
      go_loopw [9] (fun t wr => ∃ (j : Nat) (l' : List FwV), t = .int .i64 j ∧ j ≤ i ∧ OwnFw wr lo (some ⟨g, 0, none⟩) n c l' ∧ w.grownBy wr (some g)) (fun t _ => (intOf t).toNat)
      case atStart => exact ⟨i, l1, rfl, Nat.le_refl _, HO.out, HG.out⟩
      case round =>
        clear HO HG
        obtain ⟨j, l2, rfl, hj, hown, hg⟩ := hrel
        have HO := Lib.hid hown.1; have HK := Lib.hid hown.2; have HG := Lib.hid hg; clear hown hg
        have hHeld : wr.grownBy wr.drew none := gr_drew (gr_refl _ _)
        by_cases h0 : 0 < j
        · obtain ⟨q, rfl⟩ : ∃ q, j = q + 1 := ⟨j - 1, by omega⟩
          obtain ⟨⟨ln1, wh1, too1, hr1⟩, hx⟩ : ∃ b, l2[q + 1]? = some b := ⟨_, List.getElem?_eq_getElem (by rw [HO.out.2]; omega)⟩
          obtain ⟨⟨ln2, wh2, too2, hr2⟩, hy⟩ : ∃ b, l2[q]? = some b := ⟨_, List.getElem?_eq_getElem (by rw [HO.out.2]; omega)⟩
          have HX := Lib.hid hx; have HY := Lib.hid hy; clear hx hy
          have HCX := Lib.hid (HO.out.recs.at_ FwV.row_len HX.out)
          have HCY := Lib.hid (HO.out.recs.at_ FwV.row_len HY.out)
          have hi0 : decide ((0 : Int) < ((q + 1 : Nat) : Int)) = true := decide_eq_true (by omega)
          have hi1 : decide ((0 : Int) < (q : Int) + 1) = true := decide_eq_true (by omega)
          have q1 : IntKind.i64.wrap (q : Int) = (q : Int) := IntWalk.i64_in _ (by omega)
          have q2 : (0 : Int) ≤ (q : Int) + 1 := by omega
          have q3 : (q : Int) + 1 < (n : Int) := by omega
          have q4 : ((q : Int) + 1).toNat = q + 1 := by omega
          have q5 : (0 : Int) ≤ (q : Int) := by omega
          have q6 : (q : Int) < (n : Int) := by omega
          go_wp2_with fail
          refine H_begin (fun w' => wr.grownBy w' none) (by kernel_rfl) ?_
          refine H_take (k := 0) (v := ?_) (by rfl) (by kernel_rfl) (by kernel_rfl) (by kernel_rfl) (by exact fun _ _ _ h => h) (by rfl) ?_ (by assumption) ?_
          rotate_left 1
          · intro w hSw
            (try dsimp only at hSw)
            go_simp
            (try with_reducible rfl)
          (try simp only [Act.put, List.setIfInBounds_toArray, List.set_cons_zero, List.set_cons_succ])
          refine H_take (k := 1) (v := ?_) (by rfl) (by kernel_rfl) (by kernel_rfl) (by kernel_rfl) (by exact fun _ _ _ h => h) (by rfl) ?_ (by assumption) ?_
          rotate_left 1
          · intro w hSw
            (try dsimp only at hSw)
            go_simp
            (try with_reducible rfl)
          (try simp only [Act.put, List.setIfInBounds_toArray, List.set_cons_zero, List.set_cons_succ])
          refine H_take (k := 2) (v := ?_) (by rfl) (by kernel_rfl) (by kernel_rfl) (by kernel_rfl) (by exact fun _ _ _ h => h) (by rfl) ?_ (by assumption) ?_
          rotate_left 1
          · intro w hSw
            (try dsimp only at hSw)
            go_simp
            (try with_reducible rfl)
          (try simp only [Act.put, List.setIfInBounds_toArray, List.set_cons_zero, List.set_cons_succ])
          refine H_take (k := 3) (v := ?_) (by rfl) (by kernel_rfl) (by kernel_rfl) (by kernel_rfl) (by exact fun _ _ _ h => h) (by rfl) ?_ (by assumption) ?_
          rotate_left 1
          · intro w hSw
            (try dsimp only at hSw)
            go_simp
            (try with_reducible rfl)
          (try simp only [Act.put, List.setIfInBounds_toArray, List.set_cons_zero, List.set_cons_succ])
          refine H_take (k := 4) (v := ?_) (by rfl) (by kernel_rfl) (by kernel_rfl) (by kernel_rfl) (by exact fun _ _ _ h => h) (by rfl) ?_ (by assumption) ?_
          rotate_left 1
          · intro w hSw
            (try dsimp only at hSw)
            go_simp
            (try with_reducible rfl)
          (try simp only [Act.put, List.setIfInBounds_toArray, List.set_cons_zero, List.set_cons_succ])
          refine H_take (k := 5) (v := ?_) (by rfl) (by kernel_rfl) (by kernel_rfl) (by kernel_rfl) (by exact fun _ _ _ h => h) (by rfl) ?_ (by assumption) ?_
          rotate_left 1
          · intro w hSw
            (try dsimp only at hSw)
            go_simp
            (try with_reducible rfl)
          (try simp only [Act.put, List.setIfInBounds_toArray, List.set_cons_zero, List.set_cons_succ])
          refine H_take (k := 6) (v := ?_) (by rfl) (by kernel_rfl) (by kernel_rfl) (by kernel_rfl) (by exact fun _ _ _ h => h) (by rfl) ?_ (by assumption) ?_
          rotate_left 1
          · intro w hSw
            (try dsimp only at hSw)
            go_simp
            (try with_reducible rfl)
          (try simp only [Act.put, List.setIfInBounds_toArray, List.set_cons_zero, List.set_cons_succ])
          refine H_take (k := 7) (v := ?_) (by rfl) (by kernel_rfl) (by kernel_rfl) (by kernel_rfl) (by exact fun _ _ _ h => h) (by rfl) ?_ (by assumption) ?_
          rotate_left 1
          · intro w hSw
            (try dsimp only at hSw)
            go_simp
            (try with_reducible rfl)
          (try simp only [Act.put, List.setIfInBounds_toArray, List.set_cons_zero, List.set_cons_succ])
          refine H_take (k := 8) (v := .agg #[.string ln1, .int .i64 wh1, .string too1, .string hr1]) (by rfl) (by kernel_rfl) (by kernel_rfl) (by kernel_rfl) (by exact fun _ _ _ h => h) (by rfl) (fun w' hSw => exec_ldf Tryz.fwT _ rfl _ rfl [.string ln1, .int .i64 wh1, .string too1, .string hr1] rfl (fun j u hu => by rw [add_mk]; exact (by simpa using ((HO.out.recs.grown hSw (fun g e => by cases e)).at_ FwV.row_len HX.out) j u hu))) (by assumption) ?_
          (try simp only [Act.put, List.setIfInBounds_toArray, List.set_cons_zero, List.set_cons_succ])
          refine H_take (k := 9) (v := ?_) (by rfl) (by kernel_rfl) (by kernel_rfl) (by kernel_rfl) (by exact fun _ _ _ h => h) (by rfl) ?_ (by assumption) ?_
          rotate_left 1
          · intro w hSw
            (try dsimp only at hSw)
            go_simp
            (try with_reducible rfl)
          (try simp only [Act.put, List.setIfInBounds_toArray, List.set_cons_zero, List.set_cons_succ])
          refine H_take (k := 10) (v := ?_) (by rfl) (by kernel_rfl) (by kernel_rfl) (by kernel_rfl) (by exact fun _ _ _ h => h) (by rfl) ?_ (by assumption) ?_
          rotate_left 1
          · intro w hSw
            (try dsimp only at hSw)
            go_simp
            (try with_reducible rfl)
          (try simp only [Act.put, List.setIfInBounds_toArray, List.set_cons_zero, List.set_cons_succ])
          refine H_take (k := 11) (v := ?_) (by rfl) (by kernel_rfl) (by kernel_rfl) (by kernel_rfl) (by exact fun _ _ _ h => h) (by rfl) ?_ (by assumption) ?_
          rotate_left 1
          · intro w hSw
            (try dsimp only at hSw)
            go_simp
            (try with_reducible rfl)
          (try simp only [Act.put, List.setIfInBounds_toArray, List.set_cons_zero, List.set_cons_succ])
          refine H_take (k := 12) (v := ?_) (by rfl) (by kernel_rfl) (by kernel_rfl) (by kernel_rfl) (by exact fun _ _ _ h => h) (by rfl) ?_ (by assumption) ?_
          rotate_left 1
          · intro w hSw
            (try dsimp only at hSw)
            go_simp
            (try with_reducible rfl)
          (try simp only [Act.put, List.setIfInBounds_toArray, List.set_cons_zero, List.set_cons_succ])
          refine H_take (k := 13) (v := .agg #[.string ln2, .int .i64 wh2, .string too2, .string hr2]) (by rfl) (by kernel_rfl) (by kernel_rfl) (by kernel_rfl) (by exact fun _ _ _ h => h) (by rfl) (fun w' hSw => exec_ldf Tryz.fwT _ rfl _ rfl [.string ln2, .int .i64 wh2, .string too2, .string hr2] rfl (fun j u hu => by rw [add_mk]; exact (by simpa using ((HO.out.recs.grown hSw (fun g e => by cases e)).at_ FwV.row_len HY.out) j u hu))) (by assumption) ?_
          (try simp only [Act.put, List.setIfInBounds_toArray, List.set_cons_zero, List.set_cons_succ])
          refine H_run (k := 14) (by rfl) (by kernel_rfl) (by rfl) (fun K hK => ?_)
          go_simp
          refine (tidyCmp_any ⟨ln1, wh1, too1, hr1⟩ ⟨ln2, wh2, too2, hr2⟩ tb _ ((HKT.out.grown HG.out (fun e => HTN.out g rfl (by injection e with e; exact e.symm))).grown hHeld (by simp)) (HK.out _ (mem_of_get HX.out)) (HK.out _ (mem_of_get HY.out))).mono ?_
          rintro e w6 ⟨rfl, hg6⟩
          obtain ⟨Z, hZ⟩ : ∃ Z, cmpS (tkS ⟨ln1, wh1, too1, hr1⟩) (tkS ⟨ln2, wh2, too2, hr2⟩) = Z := ⟨_, rfl⟩
          rw [hZ]
          clear hZ
          go_simp
          have hgz : wr.grownBy w6 none := gr_none (gr_drew (gr_refl wr none)) hg6
          refine hK _ _ hgz ?_
          clear hK K hHeld hg6
          have hHeld := hgz
          obtain ⟨ZB, hZB⟩ : ∃ ZB, decide (Z < 0) = ZB := ⟨_, rfl⟩
          refine H_take (k := 15) (v := ?_) (by rfl) (by kernel_rfl) (by kernel_rfl) (by kernel_rfl) (by exact fun _ _ _ h => h) (by rfl) ?_ (by assumption) ?_
          rotate_left 1
          · intro w hSw
            (try dsimp only at hSw)
            go_simp
            (try with_reducible rfl)
          (try simp only [Act.put, List.setIfInBounds_toArray, List.set_cons_zero, List.set_cons_succ])
          refine H_take (k := 16) (v := ?_) (by rfl) (by kernel_rfl) (by kernel_rfl) (by kernel_rfl) (by exact fun _ _ _ h => h) (by rfl) ?_ (by assumption) ?_
          rotate_left 1
          · intro w hSw
            (try dsimp only at hSw)
            go_simp
            (try with_reducible rfl)
          (try simp only [Act.put, List.setIfInBounds_toArray, List.set_cons_zero, List.set_cons_succ])
          refine H_done (by kernel_rfl) ?_
          clear hi0 hi1 hHeld
          have HO6 := Lib.hid (HO.out.kept hgz (fun g e => by cases e))
          have HG6 := Lib.hid (gr_none HG.out hgz)
          clear hgz hZB
          cases ZB
          · clear q1 q2 q3 q4 q5 q6
            go_wp2_with fail
            go_roundw
            case rel => exact ⟨i + 1, l2, by go_num, by omega, by omega, ⟨HO6.out, HK.out⟩, HG6.out⟩
            case measure => simp [intOf]; omega
          · have HCX2 := Lib.hid (HO6.out.recs.at_ FwV.row_len HX.out)
            go_wp2_with fail
            refine wp_region_B (fun w' => w6.grownBy w' none) 15 (by kernel_rfl) ?_
            have hHeld : w6.grownBy w6.drew none := gr_drew (gr_refl _ _)
            refine B_take (k := 0) false (v := ?_) (by rfl) (by kernel_rfl) (by exact fun _ _ _ h => h) (by rfl) ?_ (by first | exact .inr hHeld | exact .inl (by rfl)) ?_
            rotate_left 1
            · intro w hSw
              clear hSw
              go_simp
              (try with_reducible rfl)
            (try simp only [Act.put, List.setIfInBounds_toArray, List.set_cons_zero, List.set_cons_succ])
            refine B_take (k := 1) false (v := ?_) (by rfl) (by kernel_rfl) (by exact fun _ _ _ h => h) (by rfl) ?_ (by first | exact .inr hHeld | exact .inl (by rfl)) ?_
            rotate_left 1
            · intro w hSw
              clear hSw
              go_simp
              (try with_reducible rfl)
            (try simp only [Act.put, List.setIfInBounds_toArray, List.set_cons_zero, List.set_cons_succ])
            refine B_take (k := 2) false (v := ?_) (by rfl) (by kernel_rfl) (by exact fun _ _ _ h => h) (by rfl) ?_ (by first | exact .inr hHeld | exact .inl (by rfl)) ?_
            rotate_left 1
            · intro w hSw
              clear hSw
              go_simp
              (try with_reducible rfl)
            (try simp only [Act.put, List.setIfInBounds_toArray, List.set_cons_zero, List.set_cons_succ])
            refine B_take (k := 3) false (v := ?_) (by rfl) (by kernel_rfl) (by exact fun _ _ _ h => h) (by rfl) ?_ (by first | exact .inr hHeld | exact .inl (by rfl)) ?_
            rotate_left 1
            · intro w hSw
              clear hSw
              go_simp
              (try with_reducible rfl)
            (try simp only [Act.put, List.setIfInBounds_toArray, List.set_cons_zero, List.set_cons_succ])
            refine B_take (k := 4) false (v := ?_) (by rfl) (by kernel_rfl) (by exact fun _ _ _ h => h) (by rfl) ?_ (by first | exact .inr hHeld | exact .inl (by rfl)) ?_
            rotate_left 1
            · intro w hSw
              clear hSw
              go_simp
              (try with_reducible rfl)
            (try simp only [Act.put, List.setIfInBounds_toArray, List.set_cons_zero, List.set_cons_succ])
            refine B_take (k := 5) false (v := ?_) (by rfl) (by kernel_rfl) (by exact fun _ _ _ h => h) (by rfl) ?_ (by first | exact .inr hHeld | exact .inl (by rfl)) ?_
            rotate_left 1
            · intro w hSw
              clear hSw
              go_simp
              (try with_reducible rfl)
            (try simp only [Act.put, List.setIfInBounds_toArray, List.set_cons_zero, List.set_cons_succ])
            refine B_take (k := 6) false (v := ?_) (by rfl) (by kernel_rfl) (by exact fun _ _ _ h => h) (by rfl) ?_ (by first | exact .inr hHeld | exact .inl (by rfl)) ?_
            rotate_left 1
            · intro w hSw
              clear hSw
              go_simp
              (try with_reducible rfl)
            (try simp only [Act.put, List.setIfInBounds_toArray, List.set_cons_zero, List.set_cons_succ])
            refine B_take (k := 7) false (v := ?_) (by rfl) (by kernel_rfl) (by exact fun _ _ _ h => h) (by rfl) ?_ (by first | exact .inr hHeld | exact .inl (by rfl)) ?_
            rotate_left 1
            · intro w hSw
              clear hSw
              go_simp
              (try with_reducible rfl)
            (try simp only [Act.put, List.setIfInBounds_toArray, List.set_cons_zero, List.set_cons_succ])
            refine B_take (k := 8) false (v := ?_) (by rfl) (by kernel_rfl) (by exact fun _ _ _ h => h) (by rfl) ?_ (by first | exact .inr hHeld | exact .inl (by rfl)) ?_
            rotate_left 1
            · intro w hSw
              clear hSw
              go_simp
              (try with_reducible rfl)
            (try simp only [Act.put, List.setIfInBounds_toArray, List.set_cons_zero, List.set_cons_succ])
            refine B_take (k := 9) true (v := .agg #[.string ln2, .int .i64 wh2, .string too2, .string hr2]) (by rfl) (by kernel_rfl) (by exact fun _ _ _ h => h) (by rfl) (fun w' hSw => exec_ldf Tryz.fwT _ rfl _ rfl [.string ln2, .int .i64 wh2, .string too2, .string hr2] rfl (fun j u hu => by rw [add_mk]; exact (by simpa using ((HO6.out.recs.grown hSw (fun g e => by cases e)).at_ FwV.row_len HY.out) j u hu))) (.inr hHeld) ?_
            (try simp only [Act.put, List.setIfInBounds_toArray, List.set_cons_zero, List.set_cons_succ])
            refine B_take (k := 10) false (v := ?_) (by rfl) (by kernel_rfl) (by exact fun _ _ _ h => h) (by rfl) ?_ (by first | exact .inr hHeld | exact .inl (by rfl)) ?_
            rotate_left 1
            · intro w hSw
              clear hSw
              go_simp
              (try with_reducible rfl)
            (try simp only [Act.put, List.setIfInBounds_toArray, List.set_cons_zero, List.set_cons_succ])
            refine B_take (k := 11) false (v := ?_) (by rfl) (by kernel_rfl) (by exact fun _ _ _ h => h) (by rfl) ?_ (by first | exact .inr hHeld | exact .inl (by rfl)) ?_
            rotate_left 1
            · intro w hSw
              clear hSw
              go_simp
              (try with_reducible rfl)
            (try simp only [Act.put, List.setIfInBounds_toArray, List.set_cons_zero, List.set_cons_succ])
            refine B_take (k := 12) false (v := ?_) (by rfl) (by kernel_rfl) (by exact fun _ _ _ h => h) (by rfl) ?_ (by first | exact .inr hHeld | exact .inl (by rfl)) ?_
            rotate_left 1
            · intro w hSw
              clear hSw
              go_simp
              (try with_reducible rfl)
            (try simp only [Act.put, List.setIfInBounds_toArray, List.set_cons_zero, List.set_cons_succ])
            refine B_take (k := 13) true (v := .agg #[.string ln1, .int .i64 wh1, .string too1, .string hr1]) (by rfl) (by kernel_rfl) (by exact fun _ _ _ h => h) (by rfl) (fun w' hSw => exec_ldf Tryz.fwT _ rfl _ rfl [.string ln1, .int .i64 wh1, .string too1, .string hr1] rfl (fun j u hu => by rw [add_mk]; exact (by simpa using ((HO6.out.recs.grown hSw (fun g e => by cases e)).at_ FwV.row_len HX.out) j u hu))) (.inr hHeld) ?_
            (try simp only [Act.put, List.setIfInBounds_toArray, List.set_cons_zero, List.set_cons_succ])
            refine B_take (k := 14) false (v := ?_) (by rfl) (by kernel_rfl) (by exact fun _ _ _ h => h) (by rfl) ?_ (by first | exact .inr hHeld | exact .inl (by rfl)) ?_
            rotate_left 1
            · intro w hSw
              clear hSw
              go_simp
              (try with_reducible rfl)
            (try simp only [Act.put, List.setIfInBounds_toArray, List.set_cons_zero, List.set_cons_succ])
            refine B_run (k := 15) (by rfl) (by kernel_rfl) (by rfl) (fun K hK => ?_)
            refine wp_store_rec (row := FwV.row) Tryz.fwT FwV.row_len (by decide) _ _ rfl (q + 1) _ rfl rfl ⟨ln2, wh2, too2, hr2⟩ rfl (HO6.out.kept (gr_drew (gr_refl _ none)) (fun g e => by cases e)) (by omega) (FwV.one _) ?_
            intro w7 hown7 hg7
            refine hK _ _ (.inl (by rfl)) ?_
            clear hK K hHeld
            (try simp only [Act.put, List.setIfInBounds_toArray, List.set_cons_zero, List.set_cons_succ])
            refine B_take (k := 16) false (v := ?_) (by rfl) (by kernel_rfl) (by exact fun _ _ _ h => h) (by rfl) ?_ (by first | exact .inr hHeld | exact .inl (by rfl)) ?_
            rotate_left 1
            · intro w hSw
              clear hSw
              go_simp
              (try with_reducible rfl)
            (try simp only [Act.put, List.setIfInBounds_toArray, List.set_cons_zero, List.set_cons_succ])
            refine B_run (k := 17) (by rfl) (by kernel_rfl) (by rfl) (fun K hK => ?_)
            refine wp_store_rec (row := FwV.row) Tryz.fwT FwV.row_len (by decide) _ _ rfl q _ rfl rfl ⟨ln1, wh1, too1, hr1⟩ rfl hown7 (by omega) (FwV.one _) ?_
            intro w8 hown8 hg8
            refine hK _ _ (.inl (by rfl)) ?_
            clear hK K
            (try simp only [Act.put, List.setIfInBounds_toArray, List.set_cons_zero, List.set_cons_succ])
            refine B_done (by kernel_rfl) ?_
            have HO8 := Lib.hid hown8
            have HG8 := Lib.hid (gr_same HG6.out (gr_same (gr_same (gr_drew (gr_refl w6 _)) hg7) hg8))
            clear hown7 hg7 hown8 hg8 q1 q2 q3 q4 q5 q6
            go_simp
            go_wp2_with fail
            go_roundw
            case rel => exact ⟨q, _, by go_num, by omega, ⟨HO8.out, OwnFw.swap HK.out (mem_of_get HY.out) (mem_of_get HX.out)⟩, HG8.out⟩
            case measure => simp [intOf]
        · obtain rfl : j = 0 := by omega
          have hi0 : decide ((0 : Int) < ((0 : Nat) : Int)) = false := by decide
          go_wp2_with fail
          refine H_begin (fun w' => wr.grownBy w' none) (by kernel_rfl) ?_
          refine H_take (k := 0) (v := ?_) (by rfl) (by kernel_rfl) (by kernel_rfl) (by kernel_rfl) (by exact fun _ _ _ h => h) (by rfl) ?_ (by assumption) ?_
          rotate_left 1
          · intro w hSw
            (try dsimp only at hSw)
            go_simp
            (try with_reducible rfl)
          (try simp only [Act.put, List.setIfInBounds_toArray, List.set_cons_zero, List.set_cons_succ])
          refine H_take (k := 1) (v := ?_) (by rfl) (by kernel_rfl) (by kernel_rfl) (by kernel_rfl) (by exact fun _ _ _ h => h) (by rfl) ?_ (by assumption) ?_
          rotate_left 1
          · intro w hSw
            (try dsimp only at hSw)
            go_simp
            (try with_reducible rfl)
          (try simp only [Act.put, List.setIfInBounds_toArray, List.set_cons_zero, List.set_cons_succ])
          refine H_take (k := 2) (v := ?_) (by rfl) (by kernel_rfl) (by kernel_rfl) (by kernel_rfl) (by exact fun _ _ _ h => h) (by rfl) ?_ (by assumption) ?_
          rotate_left 1
          · intro w hSw
            (try dsimp only at hSw)
            go_simp
            (try with_reducible rfl)
          (try simp only [Act.put, List.setIfInBounds_toArray, List.set_cons_zero, List.set_cons_succ])
          refine H_take (k := 3) (v := ?_) (by rfl) (by kernel_rfl) (by kernel_rfl) (by kernel_rfl) (by exact fun _ _ _ h => h) (by rfl) ?_ (by assumption) ?_
          rotate_left 1
          · intro w hSw
            (try dsimp only at hSw)
            go_simp
            (try with_reducible rfl)
          (try simp only [Act.put, List.setIfInBounds_toArray, List.set_cons_zero, List.set_cons_succ])
          refine H_skip (k := 4) (by rfl) (by kernel_rfl) (by kernel_rfl) (by kernel_rfl) (by exact fun _ _ _ h => h) (by rfl) (by assumption) ?_
          (try simp only [Act.put, List.setIfInBounds_toArray, List.set_cons_zero, List.set_cons_succ])
          refine H_skip (k := 5) (by rfl) (by kernel_rfl) (by kernel_rfl) (by kernel_rfl) (by exact fun _ _ _ h => h) (by rfl) (by assumption) ?_
          (try simp only [Act.put, List.setIfInBounds_toArray, List.set_cons_zero, List.set_cons_succ])
          refine H_skip (k := 6) (by rfl) (by kernel_rfl) (by kernel_rfl) (by kernel_rfl) (by exact fun _ _ _ h => h) (by rfl) (by assumption) ?_
          (try simp only [Act.put, List.setIfInBounds_toArray, List.set_cons_zero, List.set_cons_succ])
          refine H_skip (k := 7) (by rfl) (by kernel_rfl) (by kernel_rfl) (by kernel_rfl) (by exact fun _ _ _ h => h) (by rfl) (by assumption) ?_
          (try simp only [Act.put, List.setIfInBounds_toArray, List.set_cons_zero, List.set_cons_succ])
          refine H_skip (k := 8) (by rfl) (by kernel_rfl) (by kernel_rfl) (by kernel_rfl) (by exact fun _ _ _ h => h) (by rfl) (by assumption) ?_
          (try simp only [Act.put, List.setIfInBounds_toArray, List.set_cons_zero, List.set_cons_succ])
          refine H_skip (k := 9) (by rfl) (by kernel_rfl) (by kernel_rfl) (by kernel_rfl) (by exact fun _ _ _ h => h) (by rfl) (by assumption) ?_
          (try simp only [Act.put, List.setIfInBounds_toArray, List.set_cons_zero, List.set_cons_succ])
          refine H_skip (k := 10) (by rfl) (by kernel_rfl) (by kernel_rfl) (by kernel_rfl) (by exact fun _ _ _ h => h) (by rfl) (by assumption) ?_
          (try simp only [Act.put, List.setIfInBounds_toArray, List.set_cons_zero, List.set_cons_succ])
          refine H_skip (k := 11) (by rfl) (by kernel_rfl) (by kernel_rfl) (by kernel_rfl) (by exact fun _ _ _ h => h) (by rfl) (by assumption) ?_
          (try simp only [Act.put, List.setIfInBounds_toArray, List.set_cons_zero, List.set_cons_succ])
          refine H_skip (k := 12) (by rfl) (by kernel_rfl) (by kernel_rfl) (by kernel_rfl) (by exact fun _ _ _ h => h) (by rfl) (by assumption) ?_
          (try simp only [Act.put, List.setIfInBounds_toArray, List.set_cons_zero, List.set_cons_succ])
          refine H_skip (k := 13) (by rfl) (by kernel_rfl) (by kernel_rfl) (by kernel_rfl) (by exact fun _ _ _ h => h) (by rfl) (by assumption) ?_
          (try simp only [Act.put, List.setIfInBounds_toArray, List.set_cons_zero, List.set_cons_succ])
          refine H_skip (k := 14) (by rfl) (by kernel_rfl) (by kernel_rfl) (by kernel_rfl) (by exact fun _ _ _ h => h) (by rfl) (by assumption) ?_
          (try simp only [Act.put, List.setIfInBounds_toArray, List.set_cons_zero, List.set_cons_succ])
          refine H_skip (k := 15) (by rfl) (by kernel_rfl) (by kernel_rfl) (by kernel_rfl) (by exact fun _ _ _ h => h) (by rfl) (by assumption) ?_
          (try simp only [Act.put, List.setIfInBounds_toArray, List.set_cons_zero, List.set_cons_succ])
          refine H_take (k := 16) (v := ?_) (by rfl) (by kernel_rfl) (by kernel_rfl) (by kernel_rfl) (by exact fun _ _ _ h => h) (by rfl) ?_ (by assumption) ?_
          rotate_left 1
          · intro w hSw
            (try dsimp only at hSw)
            go_simp
            (try with_reducible rfl)
          (try simp only [Act.put, List.setIfInBounds_toArray, List.set_cons_zero, List.set_cons_succ])
          refine H_done (by kernel_rfl) ?_
          clear hi0 hHeld
          have HO6 := Lib.hid (HO.out.kept (gr_drew (gr_refl _ none)) (fun g e => by cases e))
          have HG6 := Lib.hid (gr_drew HG.out)
          go_wp2_with fail
          go_roundw
          case rel => exact ⟨i + 1, l2, by go_num, by omega, by omega, ⟨HO6.out, HK.out⟩, HG6.out⟩
          case measure => simp [intOf]; omega
    · have hl0 : ¬ (i : Int) < (n : Int) := by omega
      go_wp2_with fail
      go_end0
      exact ⟨rfl, l1, HO.out, HG.out⟩
set_option maxHeartbeats 2000000 in
theorem stableF_any (lo : Nat) (A : Option Addr) (n c : Nat) (l : List FwV) (w : World) (h : OwnFw w lo A n c l) (hn : n ≤ 19) (tb : Nat) (hkt : Blk w tb 220 #[.func (.func 137) #[] #[]]) (htn : ∀ g, blkOf A = some g → g ≠ tb) :
    Calls Tryz.prog 201 #[.slice A n c, .int .i64 n, .func (.func 139) #[] #[.pointer (some ⟨tb, 0, none⟩)]] w (SortedF A n c lo w) := by
  have H := Lib.hid h; have HKT := Lib.hid hkt; have HTN := Lib.hid htn; clear h hkt htn
  have d1 : decide ((20 : Int) ≤ (n : Int)) = false := decide_eq_false (by omega)
  have d2 : decide ((20 : Int) < (n : Int)) = false := decide_eq_false (by omega)
  go_enter Tryz.func201, Tryz.ntmps201
  go_wp2_with fail
  go_loopw [7, 8] (fun x y wr => x = .int .i64 0 ∧ y = .int .i64 20 ∧ w = wr) (fun _ _ _ => 0)
  case atStart => exact ⟨rfl, rfl, rfl⟩
  case round =>
    obtain ⟨rfl, rfl, rfl⟩ := hrel
    go_wp2_with fail
    refine (insSortF_any lo A n c l _ H.out (by omega) tb HKT.out HTN.out).mono ?_
    rintro e w2 ⟨rfl, l2, hown, hg⟩
    have HO := Lib.hid hown; have HG := Lib.hid hg; clear hown hg
    go_wp2_with fail
    go_loopw [6, 7, 8] (fun x _ _ wr => x = .int .i64 20 ∧ w2 = wr) (fun _ _ _ _ => 0)
    case atStart => exact ⟨rfl, rfl⟩
    case round =>
      obtain ⟨rfl, rfl⟩ := hrel
      go_wp2_with fail
      go_end0
      exact ⟨rfl, l2, HO.out, HG.out⟩
set_option maxHeartbeats 1000000 in
theorem sortStableF_any (lo : Nat) (A : Option Addr) (n c : Nat) (l : List FwV) (w : World) (h : OwnFw w lo A n c l) (hn : n ≤ 19) (tb : Nat) (hkt : Blk w tb 220 #[.func (.func 137) #[] #[]]) (htn : ∀ g, blkOf A = some g → g ≠ tb) :
    Calls Tryz.prog 138 #[.slice A n c, .func (.func 139) #[] #[.pointer (some ⟨tb, 0, none⟩)]] w (SortedF A n c lo w) := by
  have H := Lib.hid h; have HKT := Lib.hid hkt; have HTN := Lib.hid htn; clear h hkt htn
  go_enter Tryz.func138, Tryz.ntmps138
  go_wp2_with fail
  refine (stableF_any lo A n c l _ H.out hn tb HKT.out HTN.out).mono ?_
  rintro e w2 ⟨rfl, l2, hown, hg⟩
  have HO := Lib.hid hown; have HG := Lib.hid hg; clear hown hg
  go_wp2_with fail
  go_end0
  exact ⟨rfl, l2, HO.out, HG.out⟩
theorem flat_drop {α : Type} {row : α → List Value} {k : Nat} (hrow : ∀ a, (row a).length = k) : ∀ (l : List α) (i : Nat), (l.flatMap row).drop (i * k) = (l.drop i).flatMap row
  | l, 0 => by simp
  | [], i + 1 => by simp
  | a :: l, i + 1 => by
    rw [List.flatMap_cons, List.drop_succ_cons, ← flat_drop hrow l i, Nat.succ_mul, Nat.add_comm, ← List.drop_drop, show List.drop k (row a ++ l.flatMap row) = l.flatMap row by rw [← hrow a, List.drop_left]]
theorem flat_take2 {α : Type} {row : α → List Value} {k : Nat} (hrow : ∀ a, (row a).length = k) : ∀ (l : List α) (i : Nat), (l.flatMap row).take (i * k) = (l.take i).flatMap row
  | l, 0 => by simp
  | [], i + 1 => by simp
  | a :: l, i + 1 => by
    rw [List.flatMap_cons, List.take_succ_cons, List.flatMap_cons, ← flat_take2 hrow l i, Nat.succ_mul, Nat.add_comm, show k + i * k = (row a).length + i * k by rw [hrow], List.take_length_add_append]
theorem Recs.dropK {α : Type} {row : α → List Value} {k : Nat} {w : World} {lo n c g o i : Nat} {l : List α} (hrow : ∀ a, (row a).length = k) (h : Recs row k w lo (some ⟨g, o, none⟩) n c l) (hi : i < n) : Recs row k w lo (some ⟨g, o + i * k, none⟩) (n - i) (c - i) (l.drop i) := by
  obtain ⟨⟨h1, h2, h3⟩, h4⟩ := h
  obtain ⟨g', o', e, q1, q2, q3⟩ := h3 (by omega)
  injection e with e
  injection e with e1 e2
  subst e1; subst e2
  refine ⟨⟨?_, by omega, fun _ => ⟨g, o + i * k, rfl, q1, q2, fun j u hu => ?_⟩⟩, by rw [List.length_drop, h4]⟩
  · rw [← flat_drop hrow, List.length_drop, h1, Nat.sub_mul]
  · rw [← flat_drop hrow, List.getElem?_drop] at hu
    rw [Nat.add_assoc]
    exact q3 _ _ hu
set_option maxHeartbeats 8000000 in
set_option maxRecDepth 100000 in
theorem compactF_any (lo : Nat) (A : Option Addr) (n c : Nat) (l : List FwV) (w : World) (h : OwnFw w lo A n c l) (hn : n ≤ 1000) (tb : Nat) (hkt : Blk w tb 220 #[.func (.func 137) #[] #[]]) (htn : ∀ g, blkOf A = some g → g ≠ tb) :
    Calls Tryz.prog 141 #[.slice A n c, .func (.func 142) #[] #[.pointer (some ⟨tb, 0, none⟩)]] w (fun e w' => ∃ m l', e = .returned (.slice A m c) ∧ OwnFw w' lo A m c l' ∧ w.grownBy w' (blkOf A) ∧ m ≤ n) := by
  have H := Lib.hid h; have HKT := Lib.hid hkt; have HTN := Lib.hid htn; clear h hkt htn
  by_cases h2 : n < 2
  · have d0 : decide ((n : Int) < 2) = true := decide_eq_true (by omega)
    go_enter Tryz.func141, Tryz.ntmps141
    go_wp2_with fail
    go_ret
    exact ⟨n, l, rfl, H.out, gr_refl _ _, Nat.le_refl _⟩
  · have d0 : decide ((n : Int) < 2) = false := decide_eq_false (by omega)
    obtain ⟨g, rfl, hgl, hgs⟩ := H.out.1.1.pos (by omega)
    have hcn := H.out.1.1.cap
    go_enter Tryz.func141, Tryz.ntmps141
    go_wp2_with fail
    clear d0
    go_loopw [5, 6, 7] (fun t _ _ wr => ∃ k : Nat, t = .int .i64 k ∧ 1 ≤ k ∧ k ≤ n ∧ OwnR FwV.row 4 wr lo 114 (some ⟨g, 0, none⟩) n c l ∧ w.grownBy wr (some g)) (fun t _ _ _ => n - (intOf t).toNat)
    case atStart => exact ⟨1, rfl, Nat.le_refl _, by omega, H.out.1, gr_refl _ _⟩
    case round =>
      obtain ⟨k, rfl, hk1, hkn, hown, hg⟩ := hrel
      have HO := Lib.hid hown; have HG := Lib.hid hg; have HK := Lib.hid H.out.2
      clear hown hg
      by_cases hlt : k < n
      · have hlt2 : (k : Int) < (n : Int) := by omega
        obtain ⟨⟨ln1, wh1, too1, hr1⟩, hx⟩ : ∃ b, l[k]? = some b := ⟨_, List.getElem?_eq_getElem (by rw [HO.out.2]; omega)⟩
        obtain ⟨⟨ln2, wh2, too2, hr2⟩, hy⟩ : ∃ b, l[k - 1]? = some b := ⟨_, List.getElem?_eq_getElem (by rw [HO.out.2]; omega)⟩
        have HX := Lib.hid hx; have HY := Lib.hid hy; clear hx hy
        have HRO := Lib.hid HO.out.recs
        have s2 : (0 : Int) ≤ (k : Int) - 1 := by omega
        have s5 : (1 : Int) ≤ (k : Int) := by omega
        have s3 : (k : Int) - 1 < (n : Int) := by omega
        have s6 : (0 : Int) < (n : Int) := by omega
        have s1 : IntKind.i64.wrap ((k : Int) - 1) = (k : Int) - 1 := IntWalk.i64_in _ (by omega)
        have s4 : ((k : Int) - 1).toNat = k - 1 := by omega
        have s7 : (0 : Int) ≤ (k : Int) := by omega
        go_wp2_with fail
        refine H_begin (fun w' => wr.grownBy w' none) (by kernel_rfl) ?_
        have hHeld : wr.grownBy wr.drew none := gr_drew (gr_refl _ _)
        refine H_take (k := 0) (v := ?_) (by rfl) (by kernel_rfl) (by kernel_rfl) (by kernel_rfl) (by exact fun _ _ _ h => h) (by rfl) ?_ (by assumption) ?_
        rotate_left 1
        · intro w hSw
          (try dsimp only at hSw)
          go_simp
          (try with_reducible rfl)
        (try simp only [Act.put, List.setIfInBounds_toArray, List.set_cons_zero, List.set_cons_succ])
        refine H_take (k := 1) (v := ?_) (by rfl) (by kernel_rfl) (by kernel_rfl) (by kernel_rfl) (by exact fun _ _ _ h => h) (by rfl) ?_ (by assumption) ?_
        rotate_left 1
        · intro w hSw
          (try dsimp only at hSw)
          go_simp
          (try with_reducible rfl)
        (try simp only [Act.put, List.setIfInBounds_toArray, List.set_cons_zero, List.set_cons_succ])
        refine H_take (k := 2) (v := ?_) (by rfl) (by kernel_rfl) (by kernel_rfl) (by kernel_rfl) (by exact fun _ _ _ h => h) (by rfl) ?_ (by assumption) ?_
        rotate_left 1
        · intro w hSw
          (try dsimp only at hSw)
          go_simp
          (try with_reducible rfl)
        (try simp only [Act.put, List.setIfInBounds_toArray, List.set_cons_zero, List.set_cons_succ])
        refine H_take (k := 3) (v := ?_) (by rfl) (by kernel_rfl) (by kernel_rfl) (by kernel_rfl) (by exact fun _ _ _ h => h) (by rfl) ?_ (by assumption) ?_
        rotate_left 1
        · intro w hSw
          (try dsimp only at hSw)
          go_simp
          (try with_reducible rfl)
        (try simp only [Act.put, List.setIfInBounds_toArray, List.set_cons_zero, List.set_cons_succ])
        refine H_take (k := 4) (v := .agg #[.string ln1, .int .i64 wh1, .string too1, .string hr1]) (by rfl) (by kernel_rfl) (by kernel_rfl) (by kernel_rfl) (by exact fun _ _ _ h => h) (by rfl) (fun w' hSw => exec_ldr Tryz.fwT _ rfl _ rfl [.string ln1, .int .i64 wh1, .string too1, .string hr1] (fun j u hu => by rw [add_mk]; have hcc := ((HRO.out.grown hSw (fun g e => by cases e)).at_ FwV.row_len HX.out) j u hu; simp only [Nat.zero_add] at hcc; exact hcc) rfl) (by assumption) ?_
        (try simp only [Act.put, List.setIfInBounds_toArray, List.set_cons_zero, List.set_cons_succ])
        refine H_take (k := 5) (v := ?_) (by rfl) (by kernel_rfl) (by kernel_rfl) (by kernel_rfl) (by exact fun _ _ _ h => h) (by rfl) ?_ (by assumption) ?_
        rotate_left 1
        · intro w hSw
          (try dsimp only at hSw)
          go_simp
          (try with_reducible rfl)
        (try simp only [Act.put, List.setIfInBounds_toArray, List.set_cons_zero, List.set_cons_succ])
        refine H_take (k := 6) (v := ?_) (by rfl) (by kernel_rfl) (by kernel_rfl) (by kernel_rfl) (by exact fun _ _ _ h => h) (by rfl) ?_ (by assumption) ?_
        rotate_left 1
        · intro w hSw
          (try dsimp only at hSw)
          go_simp
          (try with_reducible rfl)
        (try simp only [Act.put, List.setIfInBounds_toArray, List.set_cons_zero, List.set_cons_succ])
        refine H_take (k := 7) (v := ?_) (by rfl) (by kernel_rfl) (by kernel_rfl) (by kernel_rfl) (by exact fun _ _ _ h => h) (by rfl) ?_ (by assumption) ?_
        rotate_left 1
        · intro w hSw
          (try dsimp only at hSw)
          go_simp
          (try with_reducible rfl)
        (try simp only [Act.put, List.setIfInBounds_toArray, List.set_cons_zero, List.set_cons_succ])
        refine H_take (k := 8) (v := ?_) (by rfl) (by kernel_rfl) (by kernel_rfl) (by kernel_rfl) (by exact fun _ _ _ h => h) (by rfl) ?_ (by assumption) ?_
        rotate_left 1
        · intro w hSw
          (try dsimp only at hSw)
          go_simp
          (try with_reducible rfl)
        (try simp only [Act.put, List.setIfInBounds_toArray, List.set_cons_zero, List.set_cons_succ])
        refine H_take (k := 9) (v := .agg #[.string ln2, .int .i64 wh2, .string too2, .string hr2]) (by rfl) (by kernel_rfl) (by kernel_rfl) (by kernel_rfl) (by exact fun _ _ _ h => h) (by rfl) (fun w' hSw => exec_ldr Tryz.fwT _ rfl _ rfl [.string ln2, .int .i64 wh2, .string too2, .string hr2] (fun j u hu => by rw [add_mk]; have hcc := ((HRO.out.grown hSw (fun g e => by cases e)).at_ FwV.row_len HY.out) j u hu; simp only [Nat.zero_add] at hcc; exact hcc) rfl) (by assumption) ?_
        (try simp only [Act.put, List.setIfInBounds_toArray, List.set_cons_zero, List.set_cons_succ])
        refine H_run (k := 10) (by rfl) (by kernel_rfl) (by rfl) (fun K hK => ?_)
        go_simp
        refine (tidyEq_any ⟨ln1, wh1, too1, hr1⟩ ⟨ln2, wh2, too2, hr2⟩ tb _ ((HKT.out.grown HG.out (fun e => HTN.out g rfl (by injection e with e; exact e.symm))).grown hHeld (by simp)) (HK.out _ (mem_of_get HX.out)) (HK.out _ (mem_of_get HY.out))).mono ?_
        rintro e w6 ⟨rfl, hg6⟩
        obtain ⟨ZB, hZB⟩ : ∃ ZB, ((tkS ⟨ln1, wh1, too1, hr1⟩).toList == (tkS ⟨ln2, wh2, too2, hr2⟩).toList) = ZB := ⟨_, rfl⟩
        rw [hZB]
        have hgz := gr_none hHeld hg6
        refine hK _ _ hgz ?_
        clear hK K hHeld hg6
        have hHeld := hgz
        (try simp only [Act.put, List.setIfInBounds_toArray, List.set_cons_zero, List.set_cons_succ])
        refine H_done (by kernel_rfl) ?_
        have HO6 := Lib.hid (HO.out.kept hgz (fun g e => by cases e))
        have HG6 := Lib.hid (gr_none HG.out hgz)
        clear hgz hHeld hZB
        clear s1 s2 s3 s4 s5 s6
        cases ZB
        · go_wp2_with fail
          go_roundw
          case rel => exact ⟨k + 1, by go_num, by omega, by omega, HO6.out, HG6.out⟩
          case measure => simp [intOf]; omega
        · clear HO HG HX HY HRO HK
          have hck : ¬ c = k := by omega
          have s8 : (k : Int) ≤ (n : Int) := by omega
          go_wp2_with fail
          clear s8
          obtain ⟨w7, rfl⟩ : ∃ w7 : World, w7 = w6 := ⟨_, rfl⟩
          go_loopw [5, 7] (fun t5 t7 wr => ∃ (j q : Nat) (l' : List FwV), t5 = .int .i64 j ∧ t7 = .int .i64 q ∧ 1 ≤ q ∧ k ≤ j ∧ j < k + q ∧ k + q ≤ n ∧ OwnFw wr lo (some ⟨g, 0, none⟩) n c l' ∧ w.grownBy wr (some g)) (fun _ t7 _ => n - (intOf t7).toNat)
          case atStart => exact ⟨k, 1, l, rfl, rfl, Nat.le_refl _, Nat.le_refl _, by omega, by omega, ⟨HO6.out, H.out.2⟩, HG6.out⟩
          case round =>
            clear HO6 HG6
            obtain ⟨j, q, l1, rfl, rfl, hq1, hkj, hjq, hqn, hown, hg⟩ := hrel
            have HO := Lib.hid hown.1; have HK := Lib.hid hown.2; have HG := Lib.hid hg
            clear hown hg
            by_cases hltq : k + q < n
            · have hq2 : (q : Int) < ((n - k : Nat) : Int) := by omega
              obtain ⟨⟨ln1, wh1, too1, hr1⟩, hx⟩ : ∃ b, l1[k + q]? = some b := ⟨_, List.getElem?_eq_getElem (by rw [HO.out.2]; omega)⟩
              obtain ⟨⟨ln2, wh2, too2, hr2⟩, hy⟩ : ∃ b, l1[k + (q - 1)]? = some b := ⟨_, List.getElem?_eq_getElem (by rw [HO.out.2]; omega)⟩
              have HX := Lib.hid (show (l1.drop k)[q]? = some ⟨ln1, wh1, too1, hr1⟩ by rw [List.getElem?_drop]; exact hx)
              have HY := Lib.hid (show (l1.drop k)[q - 1]? = some ⟨ln2, wh2, too2, hr2⟩ by rw [List.getElem?_drop]; exact hy)
              have HMX := Lib.hid (mem_of_get hx); have HMY := Lib.hid (mem_of_get hy)
              clear hx hy
              have HRO := Lib.hid (HO.out.recs.dropK FwV.row_len (i := k) (by omega))
              have s2 : (0 : Int) ≤ (q : Int) - 1 := by omega
              have s5 : (1 : Int) ≤ (q : Int) := by omega
              have s3 : (q : Int) - 1 < ((n - k : Nat) : Int) := by omega
              have s1 : IntKind.i64.wrap ((q : Int) - 1) = (q : Int) - 1 := IntWalk.i64_in _ (by omega)
              have s4 : ((q : Int) - 1).toNat = q - 1 := by omega
              have s7 : (0 : Int) ≤ (q : Int) := by omega
              have u1 : IntKind.i64.wrap ((q : Int) + 1) = (q : Int) + 1 := IntWalk.i64_in _ (by omega)
              have u2 : IntKind.i64.wrap ((j : Int) + 1) = (j : Int) + 1 := IntWalk.i64_in _ (by omega)
              have hj2 : (j : Int) < (n : Int) := by omega
              go_wp2_with fail
              refine H_begin (fun w' => wr.grownBy w' none) (by kernel_rfl) ?_
              have hHeld : wr.grownBy wr.drew none := gr_drew (gr_refl _ _)
              refine H_take (k := 0) (v := ?_) (by rfl) (by kernel_rfl) (by kernel_rfl) (by kernel_rfl) (by exact fun _ _ _ h => h) (by rfl) ?_ (by assumption) ?_
              rotate_left 1
              · intro w hSw
                (try dsimp only at hSw)
                go_simp
                (try with_reducible rfl)
              (try simp only [Act.put, List.setIfInBounds_toArray, List.set_cons_zero, List.set_cons_succ])
              refine H_take (k := 1) (v := ?_) (by rfl) (by kernel_rfl) (by kernel_rfl) (by kernel_rfl) (by exact fun _ _ _ h => h) (by rfl) ?_ (by assumption) ?_
              rotate_left 1
              · intro w hSw
                (try dsimp only at hSw)
                go_simp
                (try with_reducible rfl)
              (try simp only [Act.put, List.setIfInBounds_toArray, List.set_cons_zero, List.set_cons_succ])
              refine H_take (k := 2) (v := ?_) (by rfl) (by kernel_rfl) (by kernel_rfl) (by kernel_rfl) (by exact fun _ _ _ h => h) (by rfl) ?_ (by assumption) ?_
              rotate_left 1
              · intro w hSw
                (try dsimp only at hSw)
                go_simp
                (try with_reducible rfl)
              (try simp only [Act.put, List.setIfInBounds_toArray, List.set_cons_zero, List.set_cons_succ])
              refine H_take (k := 3) (v := ?_) (by rfl) (by kernel_rfl) (by kernel_rfl) (by kernel_rfl) (by exact fun _ _ _ h => h) (by rfl) ?_ (by assumption) ?_
              rotate_left 1
              · intro w hSw
                (try dsimp only at hSw)
                go_simp
                (try with_reducible rfl)
              (try simp only [Act.put, List.setIfInBounds_toArray, List.set_cons_zero, List.set_cons_succ])
              refine H_take (k := 4) (v := .agg #[.string ln1, .int .i64 wh1, .string too1, .string hr1]) (by rfl) (by kernel_rfl) (by kernel_rfl) (by kernel_rfl) (by exact fun _ _ _ h => h) (by rfl) (fun w' hSw => exec_ldr Tryz.fwT _ rfl _ rfl [.string ln1, .int .i64 wh1, .string too1, .string hr1] (fun j u hu => by rw [add_mk]; have hcc := ((HRO.out.grown hSw (fun g e => by cases e)).at_ FwV.row_len HX.out) j u hu; simp only [Nat.zero_add] at hcc; exact hcc) rfl) (by assumption) ?_
              (try simp only [Act.put, List.setIfInBounds_toArray, List.set_cons_zero, List.set_cons_succ])
              refine H_take (k := 5) (v := ?_) (by rfl) (by kernel_rfl) (by kernel_rfl) (by kernel_rfl) (by exact fun _ _ _ h => h) (by rfl) ?_ (by assumption) ?_
              rotate_left 1
              · intro w hSw
                (try dsimp only at hSw)
                go_simp
                (try with_reducible rfl)
              (try simp only [Act.put, List.setIfInBounds_toArray, List.set_cons_zero, List.set_cons_succ])
              refine H_take (k := 6) (v := ?_) (by rfl) (by kernel_rfl) (by kernel_rfl) (by kernel_rfl) (by exact fun _ _ _ h => h) (by rfl) ?_ (by assumption) ?_
              rotate_left 1
              · intro w hSw
                (try dsimp only at hSw)
                go_simp
                (try with_reducible rfl)
              (try simp only [Act.put, List.setIfInBounds_toArray, List.set_cons_zero, List.set_cons_succ])
              refine H_take (k := 7) (v := ?_) (by rfl) (by kernel_rfl) (by kernel_rfl) (by kernel_rfl) (by exact fun _ _ _ h => h) (by rfl) ?_ (by assumption) ?_
              rotate_left 1
              · intro w hSw
                (try dsimp only at hSw)
                go_simp
                (try with_reducible rfl)
              (try simp only [Act.put, List.setIfInBounds_toArray, List.set_cons_zero, List.set_cons_succ])
              refine H_take (k := 8) (v := ?_) (by rfl) (by kernel_rfl) (by kernel_rfl) (by kernel_rfl) (by exact fun _ _ _ h => h) (by rfl) ?_ (by assumption) ?_
              rotate_left 1
              · intro w hSw
                (try dsimp only at hSw)
                go_simp
                (try with_reducible rfl)
              (try simp only [Act.put, List.setIfInBounds_toArray, List.set_cons_zero, List.set_cons_succ])
              refine H_take (k := 9) (v := .agg #[.string ln2, .int .i64 wh2, .string too2, .string hr2]) (by rfl) (by kernel_rfl) (by kernel_rfl) (by kernel_rfl) (by exact fun _ _ _ h => h) (by rfl) (fun w' hSw => exec_ldr Tryz.fwT _ rfl _ rfl [.string ln2, .int .i64 wh2, .string too2, .string hr2] (fun j u hu => by rw [add_mk]; have hcc := ((HRO.out.grown hSw (fun g e => by cases e)).at_ FwV.row_len HY.out) j u hu; simp only [Nat.zero_add] at hcc; exact hcc) rfl) (by assumption) ?_
              (try simp only [Act.put, List.setIfInBounds_toArray, List.set_cons_zero, List.set_cons_succ])
              refine H_run (k := 10) (by rfl) (by kernel_rfl) (by rfl) (fun K hK => ?_)
              go_simp
              refine (tidyEq_any ⟨ln1, wh1, too1, hr1⟩ ⟨ln2, wh2, too2, hr2⟩ tb _ ((HKT.out.grown HG.out (fun e => HTN.out g rfl (by injection e with e; exact e.symm))).grown hHeld (by simp)) (HK.out _ HMX.out) (HK.out _ HMY.out)).mono ?_
              rintro e w6 ⟨rfl, hg6⟩
              obtain ⟨ZB, hZB⟩ : ∃ ZB, ((tkS ⟨ln1, wh1, too1, hr1⟩).toList == (tkS ⟨ln2, wh2, too2, hr2⟩).toList) = ZB := ⟨_, rfl⟩
              rw [hZB]
              have hgz := gr_none hHeld hg6
              refine hK _ _ hgz ?_
              clear hK K hHeld hg6
              have hHeld := hgz
              (try simp only [Act.put, List.setIfInBounds_toArray, List.set_cons_zero, List.set_cons_succ])
              refine H_take (k := 11) (v := ?_) (by rfl) (by kernel_rfl) (by kernel_rfl) (by kernel_rfl) (by exact fun _ _ _ h => h) (by rfl) ?_ (by assumption) ?_
              rotate_left 1
              · intro w hSw
                (try dsimp only at hSw)
                go_simp
                (try with_reducible rfl)
              (try simp only [Act.put, List.setIfInBounds_toArray, List.set_cons_zero, List.set_cons_succ])
              refine H_done (by kernel_rfl) ?_
              have HO6 := Lib.hid (HO.out.kept hgz (fun g e => by cases e))
              have HG6 := Lib.hid (gr_none HG.out hgz)
              clear hgz hHeld hZB
              have HRO6 := Lib.hid (HO6.out.recs.dropK FwV.row_len (i := k) (by omega))
              have HC := Lib.hid (HRO6.out.at_ FwV.row_len HX.out)
              clear s1 s2 s3 s4 s5
              cases ZB
              · go_wp2_with (first
                  | (refine wpl_load_at Tryz.fwT rfl _ rfl _ rfl [.string ln1, .int .i64 wh1, .string too1, .string hr1] rfl (fun j u hu => by rw [add_mk]; have hcc := HC.out j u hu; (try simp only [Nat.zero_add] at hcc); exact hcc) ?_)
                  | (refine wpl_store_rec (row := FwV.row) rfl Tryz.fwT FwV.row_len (by decide) _ _ rfl j _ rfl rfl ⟨ln1, wh1, too1, hr1⟩ rfl HO6.out (by omega) (FwV.one _) ?_
                     intro w8 hown8 hg8
                     have HO8 := Lib.hid hown8
                     have HG8 := Lib.hid (gr_same HG6.out hg8)
                     clear hown8 hg8)
                  | fail)
                go_roundw
                case rel => exact ⟨j + 1, q + 1, _, by go_num, by go_num, by omega, by omega, by omega, by omega, ⟨HO8.out, fun r hr => by
                  rcases List.mem_or_eq_of_mem_set hr with h | rfl
                  · exact HK.out r h
                  · exact HK.out _ HMX.out⟩, HG8.out⟩
                case measure => simp [intOf]; omega
              · go_wp2_with fail
                go_roundw
                case rel => exact ⟨j, q + 1, l1, rfl, by go_num, by omega, by omega, by omega, by omega, ⟨HO6.out, HK.out⟩, HG6.out⟩
                case measure => simp [intOf]; omega
            · obtain rfl : q = n - k := by omega
              have hi2 : (j : Int) < (n : Int) := by omega
              have hi3 : (j : Int) ≤ (n : Int) := by omega
              have hcj : ¬ c = j := by omega
              obtain ⟨w9, hclr, ho9, hg9⟩ := run_clear_rows (P := Tryz.prog) Tryz.underlying50 Tryz.zeroValue114 rfl (by decide) (by intro v hv; simp [Value.cells] at hv; rcases hv with rfl | rfl | rfl | rfl <;> rfl) HO.out.1 j (j * 4) rfl (show j < n by omega) (n - j) (c - j) rfl
              have HO9 := Lib.hid (show OwnR FwV.row 4 w9 lo 114 (some ⟨g, 0, none⟩) j c (l1.take j) from ⟨by rw [← flat_take2 FwV.row_len]; exact ho9, by rw [List.length_take, HO.out.2]; omega⟩)
              have HG9 := Lib.hid (gr_same HG.out hg9)
              clear ho9 hg9
              go_wp2_with fail
              go_ret
              exact ⟨j, l1.take j, rfl, ⟨HO9.out, fun r hr => HK.out r (List.mem_of_mem_take hr)⟩, HG9.out, by omega⟩
      · obtain rfl : k = n := by omega
        go_wp2_with fail
        go_ret
        exact ⟨k, l, rfl, ⟨HO.out, H.out.2⟩, HG.out, Nat.le_refl _⟩
end Go.Proofs.YtpjheibkacbbcaaGreatDoor

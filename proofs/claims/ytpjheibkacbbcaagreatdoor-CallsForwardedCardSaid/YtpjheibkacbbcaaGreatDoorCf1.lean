/- Contracts of compareForwards, of strconv.Itoa at small numbers, of the document's key of a forward. Conditions: kinds of forwards that there are. -/
import Derived.Test.YtpjheibkacbbcaaGreatDoorBun8
import Derived.Test.YtpjheibkacbbcaaGreatDoorBun6
import Derived.Test.YtpjheibkacbbcaaGreatDoorPlan1
namespace Go.Proofs.YtpjheibkacbbcaaGreatDoor
open Go.RowKit

theorem Tryz.fwT : StructT Tryz.prog 114 4 := ⟨_, Tryz.underlying114, rfl, by kernel_rfl⟩
set_option maxHeartbeats 4000000 in
theorem compareForwards_any (a b : FwV) (w : World) (ha : inB a.when_ 1 3 = true) (hb : inB b.when_ 1 3 = true) : Calls Tryz.prog 111 #[.agg #[.string a.line, .int .i64 a.when_, .string a.to_, .string a.hrs], .agg #[.string b.line, .int .i64 b.when_, .string b.to_, .string b.hrs]] w (RetV (.int .i64 (fwCmp a b)) w) := by
  unfold inB at ha hb
  simp only [Bool.and_eq_true, decide_eq_true_eq] at ha hb
  obtain ⟨w1, hw1⟩ : ∃ v, w.alloc (.cells #[.string a.line, .int .i64 a.when_, .string a.to_, .string a.hrs] 114) = v := ⟨_, rfl⟩
  obtain ⟨w2, hw2⟩ : ∃ v, w1.alloc (.cells #[.string b.line, .int .i64 b.when_, .string b.to_, .string b.hrs] 114) = v := ⟨_, rfl⟩
  have HX := Lib.hid (show Blk w2 w.heap.size 114 #[.string a.line, .int .i64 a.when_, .string a.to_, .string a.hrs] by rw [← hw2, ← hw1]; exact (Blk.new _ _ _).alloc _)
  have HY := Lib.hid (show Blk w2 (w.heap.size + 1) 114 #[.string b.line, .int .i64 b.when_, .string b.to_, .string b.hrs] by
    rw [← hw2, ← hw1]
    have h := Blk.new (w.alloc (.cells #[.string a.line, .int .i64 a.when_, .string a.to_, .string a.hrs] 114)) 114 #[.string b.line, .int .i64 b.when_, .string b.to_, .string b.hrs]
    simpa using h)
  have HG := Lib.hid (show w.grownBy w2 none by rw [← hw2, ← hw1]; exact gr_alloc (gr_alloc (gr_refl _ _) _) _)
  have HW1 := Lib.hid hw1; have HW2 := Lib.hid hw2
  clear hw1 hw2
  have x0 := HX.out.cell 0; have x1 := HX.out.cell 1; have x3 := HX.out.cell 3
  have y0 := HY.out.cell 0; have y1 := HY.out.cell 1; have y3 := HY.out.cell 3
  have HV := Lib.hid (show fwCmp a b = if cmpS a.line b.line = 0 then (if a.when_ = b.when_ then cmpS a.hrs b.hrs else a.when_ - b.when_) else cmpS a.line b.line from rfl)
  obtain ⟨Q, hQ⟩ : ∃ q, cmpS a.line b.line = q := ⟨_, rfl⟩
  obtain ⟨R, hR⟩ : ∃ q, cmpS a.hrs b.hrs = q := ⟨_, rfl⟩
  rw [hQ, hR] at HV
  have HQ := Lib.hid hQ; have HR := Lib.hid hR
  clear hQ hR
  obtain ⟨u, hu⟩ : ∃ u, a.when_ = u := ⟨_, rfl⟩
  obtain ⟨v, hv⟩ : ∃ u, b.when_ = u := ⟨_, rfl⟩
  rw [hu] at ha HV x1
  rw [hv] at hb HV y1
  have HU := Lib.hid hu; have HVV := Lib.hid hv
  clear hu hv
  by_cases q0 : Q = 0
  · have d0 : (Q != 0) = false := by simp [q0]
    by_cases u0 : u = v
    · have d1 : (u != v) = false := by simp [u0]
      have HF := Lib.hid (show fwCmp a b = R by rw [HV.out, if_pos q0, if_pos u0])
      clear q0 u0
      go_enter Tryz.func111, Tryz.ntmps111
      go_upto_region 1 with (fail)
      (try rw [HW1.out])
      (try rw [HW2.out])
      go_wp2_with (first
        | (go_at_call 140; refine (strCmp_any _ _ _).mono ?_; rintro e w3 ⟨rfl, rfl⟩; rw [HQ.out])
        | (go_at_call 140; refine (strCmp_any _ _ _).mono ?_; rintro e w3 ⟨rfl, rfl⟩; rw [HR.out])
        | fail)
      go_ret
      exact ⟨by rw [HF.out]; try rfl, HG.out⟩
    · have d1 : (u != v) = true := by simpa using u0
      have hw : IntKind.i64.wrap (u - v) = u - v := IntWalk.i64_in _ (by omega)
      have HF := Lib.hid (show fwCmp a b = u - v by rw [HV.out, if_pos q0, if_neg u0])
      clear q0 u0
      go_enter Tryz.func111, Tryz.ntmps111
      go_upto_region 1 with (fail)
      (try rw [HW1.out])
      (try rw [HW2.out])
      go_wp2_with (first
        | (go_at_call 140; refine (strCmp_any _ _ _).mono ?_; rintro e w3 ⟨rfl, rfl⟩; rw [HQ.out])
        | fail)
      go_ret
      exact ⟨by rw [HF.out]; try rfl, HG.out⟩
  · have d0 : (Q != 0) = true := by simpa using q0
    have HF := Lib.hid (show fwCmp a b = Q by rw [HV.out, if_neg q0])
    clear q0
    go_enter Tryz.func111, Tryz.ntmps111
    go_upto_region 1 with (fail)
    (try rw [HW1.out])
    (try rw [HW2.out])
    go_wp2_with (first
      | (go_at_call 140; refine (strCmp_any _ _ _).mono ?_; rintro e w3 ⟨rfl, rfl⟩; rw [HQ.out])
      | fail)
    go_ret
    exact ⟨by rw [HF.out]; try rfl, HG.out⟩
/-! Small numbers as strings. -/
def dgS (n : Int) : ByteArray := strN [48 + n.toNat]
set_option maxHeartbeats 2000000 in
theorem small13_any (n : Int) (w : World) (h : n = 1 ∨ n = 2 ∨ n = 3) : Calls Tryz.prog 271 #[.int .i64 n] w (Same (.string (dgS n)) w) := by
  rcases h with rfl | rfl | rfl
  all_goals
    go_enter Tryz.func271, Tryz.ntmps271
    go_wp2_with fail
    go_ret
    exact ⟨by rfl, rfl⟩
set_option maxHeartbeats 2000000 in
theorem format13_any (n : Int) (w : World) (h : n = 1 ∨ n = 2 ∨ n = 3) : Calls Tryz.prog 219 #[.int .i64 n, .int .i64 10] w (Same (.string (dgS n)) w) := by
  have HH := Lib.hid h
  obtain ⟨S, hS⟩ : ∃ S, dgS n = S := ⟨_, rfl⟩
  have HS := Lib.hid hS
  rw [hS]
  have d0 : decide (0 ≤ n) = true := decide_eq_true (by omega)
  have d1 : decide (n < 100) = true := decide_eq_true (by omega)
  clear h hS
  go_enter Tryz.func219, Tryz.ntmps219
  go_wp2_with (first
    | (go_at_call 271; refine (small13_any n _ HH.out).mono ?_; rintro e w3 ⟨rfl, rfl⟩; rw [HS.out])
    | fail)
  go_ret
  exact ⟨rfl, rfl⟩
set_option maxHeartbeats 2000000 in
theorem itoai13_any (n : Int) (w : World) (h : n = 1 ∨ n = 2 ∨ n = 3) : Calls Tryz.prog 159 #[.int .i64 n] w (Same (.string (dgS n)) w) := by
  have HH := Lib.hid h
  obtain ⟨S, hS⟩ : ∃ S, dgS n = S := ⟨_, rfl⟩
  have HS := Lib.hid hS
  rw [hS]
  clear h hS
  go_enter Tryz.func159, Tryz.ntmps159
  go_wp2_with (first
    | (go_at_call 219; refine (format13_any n _ HH.out).mono ?_; rintro e w3 ⟨rfl, rfl⟩; rw [HS.out])
    | fail)
  go_ret
  exact ⟨rfl, rfl⟩
set_option maxHeartbeats 2000000 in
theorem itoa13_any (n : Int) (w : World) (h : n = 1 ∨ n = 2 ∨ n = 3) : Calls Tryz.prog 79 #[.int .i64 n] w (Same (.string (dgS n)) w) := by
  have HH := Lib.hid h
  obtain ⟨S, hS⟩ : ∃ S, dgS n = S := ⟨_, rfl⟩
  have HS := Lib.hid hS
  rw [hS]
  clear h hS
  go_enter Tryz.func79, Tryz.ntmps79
  go_wp2_with (first
    | (go_at_call 159; refine (itoai13_any n _ HH.out).mono ?_; rintro e w3 ⟨rfl, rfl⟩; rw [HS.out])
    | fail)
  go_ret
  exact ⟨rfl, rfl⟩
theorem dg_cmp {a b : Int} (ha : inB a 1 3 = true) (hb : inB b 1 3 = true) : (cmpS (dgS a) (dgS b) = 0 ↔ a = b) ∧ (0 < cmpS (dgS a) (dgS b) ↔ 0 < a - b) := by
  unfold inB at ha hb
  simp only [Bool.and_eq_true, decide_eq_true_eq] at ha hb
  have ha : a = 1 ∨ a = 2 ∨ a = 3 := by omega
  have hb : b = 1 ∨ b = 2 ∨ b = 3 := by omega
  rcases ha with rfl | rfl | rfl <;> rcases hb with rfl | rfl | rfl <;> decide +kernel
/-- The order of the document is the program's. -/
theorem fw_order {a b : FwV} (ha : inB a.when_ 1 3 = true) (hb : inB b.when_ 1 3 = true) : decide (0 ≤ cmpLL cmpS [a.line, dgS a.when_, a.hrs] [b.line, dgS b.when_, b.hrs]) = decide (0 ≤ fwCmp a b) := by
  obtain ⟨h1, h2⟩ := dg_cmp ha hb
  have h3 := cmpS_range (dgS a.when_) (dgS b.when_)
  simp only [cmpLL, fwCmp]
  congr 1
  apply propext
  by_cases e1 : cmpS a.line b.line = 0
  · rw [if_pos e1, if_pos e1]
    by_cases e2 : a.when_ = b.when_
    · rw [if_pos (h1.2 e2), if_pos e2]
      by_cases e3 : cmpS a.hrs b.hrs = 0
      · rw [if_pos e3, e3]
      · rw [if_neg e3]
    · have e4 : ¬ cmpS (dgS a.when_) (dgS b.when_) = 0 := fun h => e2 (h1.1 h)
      rw [if_neg e4, if_neg e2]
      omega
  · rw [if_neg e1, if_neg e1]
/-- The key of a forward. -/
def FwK (f : FwV) (w : World) (e : Ending) (w' : World) : Prop := ∃ g, e = .returned (.slice (some ⟨g, 0, none⟩) 3 3) ∧ Recs srow 1 w' w.heap.size (some ⟨g, 0, none⟩) 3 3 [f.line, dgS f.when_, f.hrs] ∧ w.grownBy w' none
set_option maxHeartbeats 4000000 in
theorem fwKey_any (a : FwV) (w : World) (ha : inB a.when_ 1 3 = true) : Calls Tryz.prog 107 #[.agg #[.string a.line, .int .i64 a.when_, .string a.to_, .string a.hrs]] w (FwK a w) := by
  unfold inB at ha
  simp only [Bool.and_eq_true, decide_eq_true_eq] at ha
  have HH := Lib.hid (show a.when_ = 1 ∨ a.when_ = 2 ∨ a.when_ = 3 by omega)
  clear ha
  obtain ⟨w1, hw1⟩ : ∃ v, w.alloc (.cells #[.string a.line, .int .i64 a.when_, .string a.to_, .string a.hrs] 114) = v := ⟨_, rfl⟩
  have HX := Lib.hid (show Blk w1 w.heap.size 114 #[.string a.line, .int .i64 a.when_, .string a.to_, .string a.hrs] by rw [← hw1]; exact Blk.new _ _ _)
  have HG := Lib.hid (show w.grownBy w1 none by rw [← hw1]; exact gr_alloc (gr_refl _ _) _)
  have HW1 := Lib.hid hw1
  clear hw1
  go_enter Tryz.func107, Tryz.ntmps107
  go_upto_region 1 with (fail)
  rw [HW1.out]
  refine H_begin (fun w' => w1.grownBy w' none) (by kernel_rfl) ?_
  have hHeld : w1.grownBy w1.drew none := gr_drew (gr_refl _ _)
  generalize w1.drew = wd at hHeld ⊢
  refine H_take (k := 0) (v := ?_) (by rfl) (by kernel_rfl) (by kernel_rfl) (by kernel_rfl) (by exact fun _ _ _ h => h) (by rfl) ?_ (by assumption) ?_
  rotate_left 1
  · intro w hSw
    (try dsimp only at hSw)
    go_simp
    (try with_reducible rfl)
  (try simp only [Act.put, List.setIfInBounds_toArray, List.set_cons_zero, List.set_cons_succ])
  refine H_take (k := 1) (v := ?_) (by rfl) (by kernel_rfl) (by kernel_rfl) (by kernel_rfl) (by exact fun _ _ _ h => h) (by rfl) ?_ (by assumption) ?_
  rotate_left 1
  · intro w' hSw
    have kc := (HX.out.grown hSw (by simp)).cell 0
    go_simp
    (try with_reducible rfl)
  (try simp only [Act.put, List.setIfInBounds_toArray, List.set_cons_zero, List.set_cons_succ])
  refine H_take (k := 2) (v := ?_) (by rfl) (by kernel_rfl) (by kernel_rfl) (by kernel_rfl) (by exact fun _ _ _ h => h) (by rfl) ?_ (by assumption) ?_
  rotate_left 1
  · intro w hSw
    (try dsimp only at hSw)
    go_simp
    (try with_reducible rfl)
  (try simp only [Act.put, List.setIfInBounds_toArray, List.set_cons_zero, List.set_cons_succ])
  refine H_take (k := 3) (v := ?_) (by rfl) (by kernel_rfl) (by kernel_rfl) (by kernel_rfl) (by exact fun _ _ _ h => h) (by rfl) ?_ (by assumption) ?_
  rotate_left 1
  · intro w' hSw
    have kc := (HX.out.grown hSw (by simp)).cell 1
    go_simp
    (try with_reducible rfl)
  (try simp only [Act.put, List.setIfInBounds_toArray, List.set_cons_zero, List.set_cons_succ])
  refine H_take (k := 5) (v := ?_) (by rfl) (by kernel_rfl) (by kernel_rfl) (by kernel_rfl) (by exact fun _ _ _ h => h) (by rfl) ?_ (by assumption) ?_
  rotate_left 1
  · intro w hSw
    (try dsimp only at hSw)
    go_simp
    (try with_reducible rfl)
  (try simp only [Act.put, List.setIfInBounds_toArray, List.set_cons_zero, List.set_cons_succ])
  refine H_take (k := 6) (v := ?_) (by rfl) (by kernel_rfl) (by kernel_rfl) (by kernel_rfl) (by exact fun _ _ _ h => h) (by rfl) ?_ (by assumption) ?_
  rotate_left 1
  · intro w' hSw
    have kc := (HX.out.grown hSw (by simp)).cell 3
    go_simp
    (try with_reducible rfl)
  (try simp only [Act.put, List.setIfInBounds_toArray, List.set_cons_zero, List.set_cons_succ])
  refine H_run (k := 4) (by rfl) (by kernel_rfl) (by rfl) (fun K hK => ?_)
  go_simp
  refine same_calls (itoa13_any _ _ HH.out) ?_
  refine hK _ _ hHeld ?_
  clear hK K
  (try simp only [Act.put, List.setIfInBounds_toArray, List.set_cons_zero, List.set_cons_succ])
  refine H_run (k := 7) (by rfl) (by kernel_rfl) (by rfl) (fun K hK => ?_)
  go_simp
  obtain ⟨w2, hw2⟩ : ∃ v, wd.alloc (.cells #[.string a.line, .string (dgS a.when_), .string a.hrs] 9) = v := ⟨_, rfl⟩
  obtain ⟨g2, hg2⟩ : ∃ g, wd.heap.size = g := ⟨_, rfl⟩
  have hh2 : w1.grownBy w2 none := by rw [← hw2]; exact gr_alloc hHeld _
  have HC := Lib.hid (show Blk w2 g2 9 #[.string a.line, .string (dgS a.when_), .string a.hrs] by rw [← hw2, ← hg2]; exact Blk.new _ _ _)
  have hlo : w.heap.size ≤ g2 := by rw [← hg2]; exact (gr_none HG.out hHeld).size
  (try rw [hw2])
  (try rw [hg2])
  refine hK _ _ hh2 ?_
  clear hK K hHeld hw2 hg2
  (try simp only [Act.put, List.setIfInBounds_toArray, List.set_cons_zero, List.set_cons_succ])
  refine H_take (k := 8) (v := ?_) (by rfl) (by kernel_rfl) (by kernel_rfl) (by kernel_rfl) (by exact fun _ _ _ h => h) (by rfl) ?_ (by assumption) ?_
  rotate_left 1
  · intro w hSw
    (try dsimp only at hSw)
    go_simp
    (try with_reducible rfl)
  (try simp only [Act.put, List.setIfInBounds_toArray, List.set_cons_zero, List.set_cons_succ])
  refine H_done (by kernel_rfl) ?_
  go_wp2_with fail
  go_ret
  refine ⟨g2, rfl, ⟨⟨rfl, Nat.le_refl _, fun _ => ⟨g2, 0, rfl, hlo, HC.out.lt, fun j u hu => ?_⟩⟩, rfl⟩, gr_none HG.out hh2⟩
  rw [Nat.zero_add, HC.out.cell j]
  simpa [srow] using hu
theorem fw_prev {hs : List HrV} {l : List FwV} {k : Nat} {b : FwV} (h : fstE (fwAt hs l) k = 0) (h0 : 0 < k) (hb : l[k - 1]? = some b) : fwF hs b = 0 := by
  have h1 := fstE_ev h (k - 1) (by omega)
  by_cases h2 : fwF hs b = 0
  · exact h2
  · rw [fwAt_f hb h2] at h1; exact absurd h1 h2
end Go.Proofs.YtpjheibkacbbcaaGreatDoor

/- Contracts of fraction and of the document's Lowest, at numbers that are not below 0. Conditions: the second number is above 0. -/
import Derived.Test.YtofncndjcegpdaaGreatDoorSe1
namespace Go.Proofs.YtofncndjcegpdaaGreatDoor
open Go.RowKit

theorem Tryz.frT : StructT Tryz.prog 32 2 := ⟨_, Tryz.underlying32, rfl, by kernel_rfl⟩
set_option maxHeartbeats 8000000 in
set_option maxRecDepth 100000 in
theorem frac_any (p q : Nat) (hp : p ≤ 1000000000000000000) (hq : q ≤ 1000000000000000000) (hq0 : 0 < q) (w : World) :
    Calls Tryz.prog 59 #[.int .i64 p, .int .i64 q] w (RetV (.agg #[.int .i64 (lowV p q).1, .int .i64 (lowV p q).2]) w) := by
  obtain ⟨w1, hw1⟩ : ∃ w1, w.alloc (.cells #[.int .i64 0, .int .i64 0] 32) = w1 := ⟨_, rfl⟩
  have HR1 := Lib.hid (show Blk w1 w.heap.size 32 #[.int .i64 0, .int .i64 0] by rw [← hw1]; exact Blk.new _ _ _)
  have HG1 := Lib.hid (show w.grownBy w1 none by rw [← hw1]; exact gr_alloc (gr_refl _ _) _)
  have HW1 := Lib.hid hw1
  clear hw1
  go_enter Tryz.func59, Tryz.ntmps59
  go_upto_region 1 with (fail)
  rw [HW1.out]
  go_wp2_with fail
  go_loopw [5, 6] (fun v5 v6 wr => ∃ x y : Nat, v5 = .int .i64 x ∧ v6 = .int .i64 y ∧ Nat.gcd x y = Nat.gcd p q ∧ 0 < y ∧ x ≤ 1000000000000000000 ∧ y ≤ 1000000000000000000 ∧ w.grownBy wr none ∧ Blk wr w.heap.size 32 #[.int .i64 0, .int .i64 0]) (fun v5 _ _ => (intOf v5).toNat)
  case atStart => exact ⟨p, q, rfl, rfl, rfl, hq0, hp, hq, HG1.out, HR1.out⟩
  case round =>
    clear HG1 HR1
    obtain ⟨x, y, rfl, rfl, hgcd, hy, hx1, hy1, hg, hr⟩ := hrel
    have HG := Lib.hid hg; have HR := Lib.hid hr; have HGC := Lib.hid hgcd
    have zr := hr.lt
    clear hg hr hgcd
    by_cases hx : 0 < x
    · have dx : decide ((0 : Int) < (x : Int)) = true := decide_eq_true (by omega)
      have dx0 : ¬ x = 0 := by omega
      obtain ⟨r, hr⟩ : ∃ r : Nat, y % x = r := ⟨_, rfl⟩
      have hrx : r < x := by rw [← hr]; exact Nat.mod_lt _ hx
      have e1 : (y : Int).tmod (x : Int) = (r : Int) := by rw [← hr]; exact (Int.ofNat_tmod y x).symm
      have q1 : IntKind.i64.wrap (r : Int) = (r : Int) := IntWalk.i64_in _ (by omega)
      have HN := Lib.hid (show Nat.gcd r x = Nat.gcd p q by rw [← HGC.out, ← hr]; exact (Nat.gcd_rec x y).symm)
      clear hr
      go_wp2_with fail
      go_roundw
      case rel => exact ⟨r, x, by go_num, by go_num, HN.out, hx, by omega, by omega, HG.out, HR.out⟩
      case measure => simp [intOf]; omega
    · obtain rfl : x = 0 := by omega
      obtain ⟨d, rfl⟩ : ∃ d : Nat, d = y := ⟨_, rfl⟩
      have hd : d = Nat.gcd p q := by rw [← HGC.out]; exact (Nat.gcd_zero_left d).symm
      have dx : decide ((0 : Int) < ((0 : Nat) : Int)) = false := by decide
      have HD := Lib.hid (show d = Nat.gcd p q from hd)
      have hdp : 0 < d := by omega
      have hdm : d ≤ q := by rw [HD.out]; exact Nat.gcd_le_right p (by omega)
      have hq1 : p / d ≤ p := Nat.div_le_self _ _
      have hq2 : q / d ≤ q := Nat.div_le_self _ _
      obtain ⟨P, hP⟩ : ∃ P : Nat, p / d = P := ⟨_, rfl⟩
      obtain ⟨Q, hQ⟩ : ∃ Q : Nat, q / d = Q := ⟨_, rfl⟩
      have e1 : (p : Int).tdiv (d : Int) = (P : Int) := by rw [← hP]; exact (Int.ofNat_tdiv p d).symm
      have e2 : (q : Int).tdiv (d : Int) = (Q : Int) := by rw [← hQ]; exact (Int.ofNat_tdiv q d).symm
      have q1 : IntKind.i64.wrap (P : Int) = (P : Int) := IntWalk.i64_in _ (by omega)
      have q2 : IntKind.i64.wrap (Q : Int) = (Q : Int) := IntWalk.i64_in _ (by omega)
      have hd0 : ¬ d = 0 := by omega
      have HPQ := Lib.hid (show lowV p q = ((P : Int), (Q : Int)) by
        unfold lowV
        rw [Int.toNat_natCast, Int.toNat_natCast, ← HD.out, ← hP, ← hQ]
        rfl)
      clear hd hP hQ
      go_wp2_with fail
      refine H_begin (fun w' => w.grownBy w' none) (by kernel_rfl) ?_
      have hHeld : w.grownBy wr.drew none := gr_drew HG.out
      refine H_take (k := 0) (v := ?_) (by rfl) (by kernel_rfl) (by kernel_rfl) (by kernel_rfl) (by exact fun _ _ _ h => h) (by rfl) ?_ (by assumption) ?_
      rotate_left 1
      · intro w hSw
        (try dsimp only at hSw)
        go_simp
        (try with_reducible rfl)
      (try simp only [Act.put, List.setIfInBounds_toArray, List.set_cons_zero, List.set_cons_succ])
      refine H_take (k := 1) (v := ?_) (by rfl) (by kernel_rfl) (by kernel_rfl) (by kernel_rfl) (by exact fun _ _ _ h => h) (by rfl) ?_ (by assumption) ?_
      rotate_left 1
      · intro w hSw
        (try dsimp only at hSw)
        go_simp
        (try with_reducible rfl)
      (try simp only [Act.put, List.setIfInBounds_toArray, List.set_cons_zero, List.set_cons_succ])
      refine H_take (k := 2) (v := ?_) (by rfl) (by kernel_rfl) (by kernel_rfl) (by kernel_rfl) (by exact fun _ _ _ h => h) (by rfl) ?_ (by assumption) ?_
      rotate_left 1
      · intro w hSw
        (try dsimp only at hSw)
        go_simp
        (try with_reducible rfl)
      (try simp only [Act.put, List.setIfInBounds_toArray, List.set_cons_zero, List.set_cons_succ])
      refine H_take (k := 3) (v := ?_) (by rfl) (by kernel_rfl) (by kernel_rfl) (by kernel_rfl) (by exact fun _ _ _ h => h) (by rfl) ?_ (by assumption) ?_
      rotate_left 1
      · intro w hSw
        (try dsimp only at hSw)
        go_simp
        (try with_reducible rfl)
      (try simp only [Act.put, List.setIfInBounds_toArray, List.set_cons_zero, List.set_cons_succ])
      refine H_take (k := 4) (v := ?_) (by rfl) (by kernel_rfl) (by kernel_rfl) (by kernel_rfl) (by exact fun _ _ _ h => h) (by rfl) ?_ (by assumption) ?_
      rotate_left 1
      · intro w hSw
        (try dsimp only at hSw)
        go_simp
        (try with_reducible rfl)
      (try simp only [Act.put, List.setIfInBounds_toArray, List.set_cons_zero, List.set_cons_succ])
      refine H_take (k := 5) (v := ?_) (by rfl) (by kernel_rfl) (by kernel_rfl) (by kernel_rfl) (by exact fun _ _ _ h => h) (by rfl) ?_ (by assumption) ?_
      rotate_left 1
      · intro w hSw
        (try dsimp only at hSw)
        go_simp
        (try with_reducible rfl)
      (try simp only [Act.put, List.setIfInBounds_toArray, List.set_cons_zero, List.set_cons_succ])
      refine H_take (k := 6) (v := ?_) (by rfl) (by kernel_rfl) (by kernel_rfl) (by kernel_rfl) (by exact fun _ _ _ h => h) (by rfl) ?_ (by assumption) ?_
      rotate_left 1
      · intro w hSw
        (try dsimp only at hSw)
        go_simp
        (try with_reducible rfl)
      (try simp only [Act.put, List.setIfInBounds_toArray, List.set_cons_zero, List.set_cons_succ])
      refine H_run (k := 7) (by rfl) (by kernel_rfl) (by rfl) (fun K hK => ?_)
      refine wp_store_all Tryz.frT _ _ (by rfl) w.heap.size (by rfl) 32 _ #[.int .i64 P, .int .i64 Q] (by rfl) HR.out.drew rfl rfl (by simp [Value.oneCell']) ?_
      intro w9 h9
      have hg9 : w.grownBy w9 none := gr_trans hHeld h9.2.1 (fun g e => .inr (by injection e with e; omega))
      have HX := Lib.hid h9.1
      refine hK _ _ hg9 ?_
      clear hK K h9
      refine H_done (by kernel_rfl) ?_
      have HG9 := Lib.hid hg9
      clear hg9
      go_wp2_with fail
      refine ret_cell Tryz.frT rfl w.heap.size 32 #[.int .i64 P, .int .i64 Q] rfl HX.out rfl rfl ?_
      exact ⟨by rw [HPQ.out], HG9.out⟩
set_option maxHeartbeats 8000000 in
set_option maxRecDepth 100000 in
theorem lowest_any (p q : Nat) (hp : p ≤ 1000000000000000000) (hq : q ≤ 1000000000000000000) (hq0 : 0 < q) (w : World) :
    Calls Tryz.prog 70 #[.int .i64 p, .int .i64 q] w (RetV (.agg #[.int .i64 (lowV p q).1, .int .i64 (lowV p q).2]) w) := by
  obtain ⟨w1, hw1⟩ : ∃ w1, w.alloc (.cells #[.int .i64 0, .int .i64 0] 32) = w1 := ⟨_, rfl⟩
  have HR1 := Lib.hid (show Blk w1 w.heap.size 32 #[.int .i64 0, .int .i64 0] by rw [← hw1]; exact Blk.new _ _ _)
  have HG1 := Lib.hid (show w.grownBy w1 none by rw [← hw1]; exact gr_alloc (gr_refl _ _) _)
  have HW1 := Lib.hid hw1
  clear hw1
  go_enter Tryz.func70, Tryz.ntmps70
  go_upto_region 1 with (fail)
  rw [HW1.out]
  go_wp2_with fail
  go_loopw [5, 6] (fun v5 v6 wr => ∃ x y : Nat, v5 = .int .i64 x ∧ v6 = .int .i64 y ∧ Nat.gcd x y = Nat.gcd p q ∧ x ≤ 1000000000000000000 ∧ y ≤ 1000000000000000000 ∧ w.grownBy wr none ∧ Blk wr w.heap.size 32 #[.int .i64 0, .int .i64 0]) (fun _ v6 _ => (intOf v6).toNat)
  case atStart => exact ⟨p, q, rfl, rfl, rfl, hp, hq, HG1.out, HR1.out⟩
  case round =>
    clear HG1 HR1
    obtain ⟨x, y, rfl, rfl, hgcd, hx1, hy1, hg, hr⟩ := hrel
    have HG := Lib.hid hg; have HR := Lib.hid hr; have HGC := Lib.hid hgcd
    have zr := hr.lt
    clear hg hr hgcd
    by_cases hy : 0 < y
    · have dy : ((y : Int) != 0) = true := by simp; omega
      have dy0 : ¬ y = 0 := by omega
      obtain ⟨r, hr⟩ : ∃ r : Nat, x % y = r := ⟨_, rfl⟩
      have hry : r < y := by rw [← hr]; exact Nat.mod_lt _ hy
      have e1 : (x : Int).tmod (y : Int) = (r : Int) := by rw [← hr]; exact (Int.ofNat_tmod x y).symm
      have q1 : IntKind.i64.wrap (r : Int) = (r : Int) := IntWalk.i64_in _ (by omega)
      have HN := Lib.hid (show Nat.gcd y r = Nat.gcd p q by rw [← HGC.out, ← hr, Nat.gcd_comm, Nat.gcd_comm x y]; exact (Nat.gcd_rec y x).symm)
      clear hr
      go_wp2_with fail
      go_quiet (fail)
      go_wp2_with fail
      go_roundw
      case rel => exact ⟨y, r, by go_num, by go_num, HN.out, by omega, by omega, gr_drewN HG.out _, HR.out.drewN _⟩
      case measure => simp [intOf]; omega
    · obtain rfl : y = 0 := by omega
      obtain ⟨d, rfl⟩ : ∃ d : Nat, d = x := ⟨_, rfl⟩
      have hd : d = Nat.gcd p q := by rw [← HGC.out]; exact (Nat.gcd_zero_right d).symm
      have hdz : 0 < d := by rw [hd]; exact Nat.gcd_pos_of_pos_right p hq0
      have dy : (((0 : Nat) : Int) != 0) = false := by decide
      have dn : decide ((d : Int) < 0) = false := decide_eq_false (by omega)
      have HD := Lib.hid (show d = Nat.gcd p q from hd)
      have hdp : 0 < d := by omega
      have hdm : d ≤ q := by rw [HD.out]; exact Nat.gcd_le_right p (by omega)
      have hq1 : p / d ≤ p := Nat.div_le_self _ _
      have hq2 : q / d ≤ q := Nat.div_le_self _ _
      obtain ⟨P, hP⟩ : ∃ P : Nat, p / d = P := ⟨_, rfl⟩
      obtain ⟨Q, hQ⟩ : ∃ Q : Nat, q / d = Q := ⟨_, rfl⟩
      have e1 : (p : Int).tdiv (d : Int) = (P : Int) := by rw [← hP]; exact (Int.ofNat_tdiv p d).symm
      have e2 : (q : Int).tdiv (d : Int) = (Q : Int) := by rw [← hQ]; exact (Int.ofNat_tdiv q d).symm
      have q1 : IntKind.i64.wrap (P : Int) = (P : Int) := IntWalk.i64_in _ (by omega)
      have q2 : IntKind.i64.wrap (Q : Int) = (Q : Int) := IntWalk.i64_in _ (by omega)
      have hd0 : ¬ d = 0 := by omega
      have HPQ := Lib.hid (show lowV p q = ((P : Int), (Q : Int)) by
        unfold lowV
        rw [Int.toNat_natCast, Int.toNat_natCast, ← HD.out, ← hP, ← hQ]
        rfl)
      clear hd hP hQ
      go_wp2_with fail
      refine H_begin (fun w' => w.grownBy w' none) (by kernel_rfl) ?_
      have hHeld : w.grownBy wr.drew none := gr_drew HG.out
      refine H_take (k := 0) (v := ?_) (by rfl) (by kernel_rfl) (by kernel_rfl) (by kernel_rfl) (by exact fun _ _ _ h => h) (by rfl) ?_ (by assumption) ?_
      rotate_left 1
      · intro w hSw
        (try dsimp only at hSw)
        go_simp
        (try with_reducible rfl)
      (try simp only [Act.put, List.setIfInBounds_toArray, List.set_cons_zero, List.set_cons_succ])
      refine H_take (k := 1) (v := ?_) (by rfl) (by kernel_rfl) (by kernel_rfl) (by kernel_rfl) (by exact fun _ _ _ h => h) (by rfl) ?_ (by assumption) ?_
      rotate_left 1
      · intro w hSw
        (try dsimp only at hSw)
        go_simp
        (try with_reducible rfl)
      (try simp only [Act.put, List.setIfInBounds_toArray, List.set_cons_zero, List.set_cons_succ])
      refine H_take (k := 2) (v := ?_) (by rfl) (by kernel_rfl) (by kernel_rfl) (by kernel_rfl) (by exact fun _ _ _ h => h) (by rfl) ?_ (by assumption) ?_
      rotate_left 1
      · intro w hSw
        (try dsimp only at hSw)
        go_simp
        (try with_reducible rfl)
      (try simp only [Act.put, List.setIfInBounds_toArray, List.set_cons_zero, List.set_cons_succ])
      refine H_take (k := 3) (v := ?_) (by rfl) (by kernel_rfl) (by kernel_rfl) (by kernel_rfl) (by exact fun _ _ _ h => h) (by rfl) ?_ (by assumption) ?_
      rotate_left 1
      · intro w hSw
        (try dsimp only at hSw)
        go_simp
        (try with_reducible rfl)
      (try simp only [Act.put, List.setIfInBounds_toArray, List.set_cons_zero, List.set_cons_succ])
      refine H_take (k := 4) (v := ?_) (by rfl) (by kernel_rfl) (by kernel_rfl) (by kernel_rfl) (by exact fun _ _ _ h => h) (by rfl) ?_ (by assumption) ?_
      rotate_left 1
      · intro w hSw
        (try dsimp only at hSw)
        go_simp
        (try with_reducible rfl)
      (try simp only [Act.put, List.setIfInBounds_toArray, List.set_cons_zero, List.set_cons_succ])
      refine H_take (k := 5) (v := ?_) (by rfl) (by kernel_rfl) (by kernel_rfl) (by kernel_rfl) (by exact fun _ _ _ h => h) (by rfl) ?_ (by assumption) ?_
      rotate_left 1
      · intro w hSw
        (try dsimp only at hSw)
        go_simp
        (try with_reducible rfl)
      (try simp only [Act.put, List.setIfInBounds_toArray, List.set_cons_zero, List.set_cons_succ])
      refine H_take (k := 6) (v := ?_) (by rfl) (by kernel_rfl) (by kernel_rfl) (by kernel_rfl) (by exact fun _ _ _ h => h) (by rfl) ?_ (by assumption) ?_
      rotate_left 1
      · intro w hSw
        (try dsimp only at hSw)
        go_simp
        (try with_reducible rfl)
      (try simp only [Act.put, List.setIfInBounds_toArray, List.set_cons_zero, List.set_cons_succ])
      refine H_run (k := 7) (by rfl) (by kernel_rfl) (by rfl) (fun K hK => ?_)
      refine wp_store_all Tryz.frT _ _ (by rfl) w.heap.size (by rfl) 32 _ #[.int .i64 P, .int .i64 Q] (by rfl) HR.out.drew rfl rfl (by simp [Value.oneCell']) ?_
      intro w9 h9
      have hg9 : w.grownBy w9 none := gr_trans hHeld h9.2.1 (fun g e => .inr (by injection e with e; omega))
      have HX := Lib.hid h9.1
      refine hK _ _ hg9 ?_
      clear hK K h9
      refine H_done (by kernel_rfl) ?_
      have HG9 := Lib.hid hg9
      clear hg9
      go_wp2_with fail
      refine ret_cell Tryz.frT rfl w.heap.size 32 #[.int .i64 P, .int .i64 Q] rfl HX.out rfl rfl ?_
      exact ⟨by rw [HPQ.out], HG9.out⟩
end Go.Proofs.YtofncndjcegpdaaGreatDoor

/- Contracts of fraction and of the document's Lowest, at numbers that are not below 0. Conditions: the second number is above 0. -/
import Derived.Test.YtemfbdmaljddnaaGreatDoorSe1
import Derived.Test.YtemfbdmaljddnaaGreatDoorGenQue2
import Derived.Test.YtemfbdmaljddnaaGreatDoorGenQue3
import Derived.Test.YtemfbdmaljddnaaGreatDoorMe4
import Derived.Test.YtemfbdmaljddnaaGreatDoorBun3
namespace Go.Proofs.YtemfbdmaljddnaaGreatDoor
section
open Go.RowKit

theorem Tryz.frT : StructT Tryz.prog 52 2 := ⟨_, Tryz.underlying52, rfl, by kernel_rfl⟩
set_option maxHeartbeats 8000000 in
set_option maxRecDepth 100000 in
theorem frac_any (p q : Nat) (hp : p ≤ 1000000000000000000) (hq : q ≤ 1000000000000000000) (hq0 : 0 < q) (w : World) :
    Calls Tryz.prog 61 #[.int .i64 p, .int .i64 q] w (RetV (.agg #[.int .i64 (lowV p q).1, .int .i64 (lowV p q).2]) w) := by
  obtain ⟨w1, hw1⟩ : ∃ w1, w.alloc (.cells #[.int .i64 0, .int .i64 0] 52) = w1 := ⟨_, rfl⟩
  have HR1 := Lib.hid (show Blk w1 w.heap.size 52 #[.int .i64 0, .int .i64 0] by rw [← hw1]; exact Blk.new _ _ _)
  have HG1 := Lib.hid (show w.grownBy w1 none by rw [← hw1]; exact gr_alloc (gr_refl _ _) _)
  have HW1 := Lib.hid hw1
  clear hw1
  go_enter Tryz.func61, Tryz.ntmps61
  go_upto_region 1 with (fail)
  rw [HW1.out]
  go_wp2_with fail
  go_loopw [5, 6] (fun v5 v6 wr => ∃ x y : Nat, v5 = .int .i64 x ∧ v6 = .int .i64 y ∧ Nat.gcd x y = Nat.gcd p q ∧ 0 < y ∧ x ≤ 1000000000000000000 ∧ y ≤ 1000000000000000000 ∧ w.grownBy wr none ∧ Blk wr w.heap.size 52 #[.int .i64 0, .int .i64 0]) (fun v5 _ _ => (intOf v5).toNat)
  case atStart => exact ⟨p, q, rfl, rfl, rfl, hq0, hp, hq, HG1.out, HR1.out⟩
  case round =>
    clear HG1 HR1
    obtain ⟨x, y, rfl, rfl, hgcd, hy, hx1, hy1, hg, hr⟩ := hrel
    have HG := Lib.hid hg; have HR := Lib.hid hr; have HGC := Lib.hid hgcd
    have zr := hr.lt
    clear hg hr hgcd
    by_cases hx : 0 < x
    · have dx : decide ((0 : Int) < (x : Int)) = true := decide_eq_true (by omega)
      have dx0 : ¬ x = 0 := by omega
      obtain ⟨r, hr⟩ : ∃ r : Nat, y % x = r := ⟨_, rfl⟩
      have hrx : r < x := by rw [← hr]; exact Nat.mod_lt _ hx
      have e1 : (y : Int).tmod (x : Int) = (r : Int) := by rw [← hr]; exact (Int.ofNat_tmod y x).symm
      have q1 : IntKind.i64.wrap (r : Int) = (r : Int) := IntWalk.i64_in _ (by omega)
      have HN := Lib.hid (show Nat.gcd r x = Nat.gcd p q by rw [← HGC.out, ← hr]; exact (Nat.gcd_rec x y).symm)
      clear hr
      go_wp2_with fail
      go_roundw
      case rel => exact ⟨r, x, by go_num, by go_num, HN.out, hx, by omega, by omega, HG.out, HR.out⟩
      case measure => simp [intOf]; omega
    · obtain rfl : x = 0 := by omega
      obtain ⟨d, rfl⟩ : ∃ d : Nat, d = y := ⟨_, rfl⟩
      have hd : d = Nat.gcd p q := by rw [← HGC.out]; exact (Nat.gcd_zero_left d).symm
      have dx : decide ((0 : Int) < ((0 : Nat) : Int)) = false := by decide
      have HD := Lib.hid (show d = Nat.gcd p q from hd)
      have hdp : 0 < d := by omega
      have hdm : d ≤ q := by rw [HD.out]; exact Nat.gcd_le_right p (by omega)
      have hq1 : p / d ≤ p := Nat.div_le_self _ _
      have hq2 : q / d ≤ q := Nat.div_le_self _ _
      obtain ⟨P, hP⟩ : ∃ P : Nat, p / d = P := ⟨_, rfl⟩
      obtain ⟨Q, hQ⟩ : ∃ Q : Nat, q / d = Q := ⟨_, rfl⟩
      have e1 : (p : Int).tdiv (d : Int) = (P : Int) := by rw [← hP]; exact (Int.ofNat_tdiv p d).symm
      have e2 : (q : Int).tdiv (d : Int) = (Q : Int) := by rw [← hQ]; exact (Int.ofNat_tdiv q d).symm
      have q1 : IntKind.i64.wrap (P : Int) = (P : Int) := IntWalk.i64_in _ (by omega)
      have q2 : IntKind.i64.wrap (Q : Int) = (Q : Int) := IntWalk.i64_in _ (by omega)
      have hd0 : ¬ d = 0 := by omega
      have HPQ := Lib.hid (show lowV p q = ((P : Int), (Q : Int)) by
        unfold lowV
        rw [Int.toNat_natCast, Int.toNat_natCast, ← HD.out, ← hP, ← hQ]
        rfl)
      clear hd hP hQ
      go_wp2_with fail
      refine H_begin (fun w' => w.grownBy w' none) (by kernel_rfl) ?_
      have hHeld : w.grownBy wr.drew none := gr_drew HG.out
      refine H_take (k := 0) (v := ?_) (by rfl) (by kernel_rfl) (by kernel_rfl) (by kernel_rfl) (by exact fun _ _ _ h => h) (by rfl) ?_ (by assumption) ?_
      rotate_left 1
      · intro w hSw
        (try dsimp only at hSw)
        go_simp
        (try with_reducible rfl)
      (try simp only [Act.put, List.setIfInBounds_toArray, List.set_cons_zero, List.set_cons_succ])
      refine H_take (k := 1) (v := ?_) (by rfl) (by kernel_rfl) (by kernel_rfl) (by kernel_rfl) (by exact fun _ _ _ h => h) (by rfl) ?_ (by assumption) ?_
      rotate_left 1
      · intro w hSw
        (try dsimp only at hSw)
        go_simp
        (try with_reducible rfl)
      (try simp only [Act.put, List.setIfInBounds_toArray, List.set_cons_zero, List.set_cons_succ])
      refine H_take (k := 2) (v := ?_) (by rfl) (by kernel_rfl) (by kernel_rfl) (by kernel_rfl) (by exact fun _ _ _ h => h) (by rfl) ?_ (by assumption) ?_
      rotate_left 1
      · intro w hSw
        (try dsimp only at hSw)
        go_simp
        (try with_reducible rfl)
      (try simp only [Act.put, List.setIfInBounds_toArray, List.set_cons_zero, List.set_cons_succ])
      refine H_take (k := 3) (v := ?_) (by rfl) (by kernel_rfl) (by kernel_rfl) (by kernel_rfl) (by exact fun _ _ _ h => h) (by rfl) ?_ (by assumption) ?_
      rotate_left 1
      · intro w hSw
        (try dsimp only at hSw)
        go_simp
        (try with_reducible rfl)
      (try simp only [Act.put, List.setIfInBounds_toArray, List.set_cons_zero, List.set_cons_succ])
      refine H_take (k := 4) (v := ?_) (by rfl) (by kernel_rfl) (by kernel_rfl) (by kernel_rfl) (by exact fun _ _ _ h => h) (by rfl) ?_ (by assumption) ?_
      rotate_left 1
      · intro w hSw
        (try dsimp only at hSw)
        go_simp
        (try with_reducible rfl)
      (try simp only [Act.put, List.setIfInBounds_toArray, List.set_cons_zero, List.set_cons_succ])
      refine H_take (k := 5) (v := ?_) (by rfl) (by kernel_rfl) (by kernel_rfl) (by kernel_rfl) (by exact fun _ _ _ h => h) (by rfl) ?_ (by assumption) ?_
      rotate_left 1
      · intro w hSw
        (try dsimp only at hSw)
        go_simp
        (try with_reducible rfl)
      (try simp only [Act.put, List.setIfInBounds_toArray, List.set_cons_zero, List.set_cons_succ])
      refine H_take (k := 6) (v := ?_) (by rfl) (by kernel_rfl) (by kernel_rfl) (by kernel_rfl) (by exact fun _ _ _ h => h) (by rfl) ?_ (by assumption) ?_
      rotate_left 1
      · intro w hSw
        (try dsimp only at hSw)
        go_simp
        (try with_reducible rfl)
      (try simp only [Act.put, List.setIfInBounds_toArray, List.set_cons_zero, List.set_cons_succ])
      refine H_run (k := 7) (by rfl) (by kernel_rfl) (by rfl) (fun K hK => ?_)
      refine wp_store_all Tryz.frT _ _ (by rfl) w.heap.size (by rfl) 52 _ #[.int .i64 P, .int .i64 Q] (by rfl) HR.out.drew rfl rfl (by simp [Value.oneCell']) ?_
      intro w9 h9
      have hg9 : w.grownBy w9 none := gr_trans hHeld h9.2.1 (fun g e => .inr (by injection e with e; omega))
      have HX := Lib.hid h9.1
      refine hK _ _ hg9 ?_
      clear hK K h9
      refine H_done (by kernel_rfl) ?_
      have HG9 := Lib.hid hg9
      clear hg9
      go_wp2_with fail
      refine ret_cell Tryz.frT rfl w.heap.size 52 #[.int .i64 P, .int .i64 Q] rfl HX.out rfl rfl ?_
      exact ⟨by rw [HPQ.out], HG9.out⟩
set_option maxHeartbeats 8000000 in
set_option maxRecDepth 100000 in
theorem lowest_any (p q : Nat) (hp : p ≤ 1000000000000000000) (hq : q ≤ 1000000000000000000) (hq0 : 0 < q) (w : World) :
    Calls Tryz.prog 65 #[.int .i64 p, .int .i64 q] w (RetV (.agg #[.int .i64 (lowV p q).1, .int .i64 (lowV p q).2]) w) := by
  obtain ⟨w1, hw1⟩ : ∃ w1, w.alloc (.cells #[.int .i64 0, .int .i64 0] 52) = w1 := ⟨_, rfl⟩
  have HR1 := Lib.hid (show Blk w1 w.heap.size 52 #[.int .i64 0, .int .i64 0] by rw [← hw1]; exact Blk.new _ _ _)
  have HG1 := Lib.hid (show w.grownBy w1 none by rw [← hw1]; exact gr_alloc (gr_refl _ _) _)
  have HW1 := Lib.hid hw1
  clear hw1
  go_enter Tryz.func65, Tryz.ntmps65
  go_upto_region 1 with (fail)
  rw [HW1.out]
  go_wp2_with fail
  go_loopw [5, 6] (fun v5 v6 wr => ∃ x y : Nat, v5 = .int .i64 x ∧ v6 = .int .i64 y ∧ Nat.gcd x y = Nat.gcd p q ∧ x ≤ 1000000000000000000 ∧ y ≤ 1000000000000000000 ∧ w.grownBy wr none ∧ Blk wr w.heap.size 52 #[.int .i64 0, .int .i64 0]) (fun _ v6 _ => (intOf v6).toNat)
  case atStart => exact ⟨p, q, rfl, rfl, rfl, hp, hq, HG1.out, HR1.out⟩
  case round =>
    clear HG1 HR1
    obtain ⟨x, y, rfl, rfl, hgcd, hx1, hy1, hg, hr⟩ := hrel
    have HG := Lib.hid hg; have HR := Lib.hid hr; have HGC := Lib.hid hgcd
    have zr := hr.lt
    clear hg hr hgcd
    by_cases hy : 0 < y
    · have dy : ((y : Int) != 0) = true := by simp; omega
      have dy0 : ¬ y = 0 := by omega
      obtain ⟨r, hr⟩ : ∃ r : Nat, x % y = r := ⟨_, rfl⟩
      have hry : r < y := by rw [← hr]; exact Nat.mod_lt _ hy
      have e1 : (x : Int).tmod (y : Int) = (r : Int) := by rw [← hr]; exact (Int.ofNat_tmod x y).symm
      have q1 : IntKind.i64.wrap (r : Int) = (r : Int) := IntWalk.i64_in _ (by omega)
      have HN := Lib.hid (show Nat.gcd y r = Nat.gcd p q by rw [← HGC.out, ← hr, Nat.gcd_comm, Nat.gcd_comm x y]; exact (Nat.gcd_rec y x).symm)
      clear hr
      go_wp2_with fail
      go_quiet (fail)
      go_wp2_with fail
      go_roundw
      case rel => exact ⟨y, r, by go_num, by go_num, HN.out, by omega, by omega, gr_drewN HG.out _, HR.out.drewN _⟩
      case measure => simp [intOf]; omega
    · obtain rfl : y = 0 := by omega
      obtain ⟨d, rfl⟩ : ∃ d : Nat, d = x := ⟨_, rfl⟩
      have hd : d = Nat.gcd p q := by rw [← HGC.out]; exact (Nat.gcd_zero_right d).symm
      have hdz : 0 < d := by rw [hd]; exact Nat.gcd_pos_of_pos_right p hq0
      have dy : (((0 : Nat) : Int) != 0) = false := by decide
      have dn : decide ((d : Int) < 0) = false := decide_eq_false (by omega)
      have HD := Lib.hid (show d = Nat.gcd p q from hd)
      have hdp : 0 < d := by omega
      have hdm : d ≤ q := by rw [HD.out]; exact Nat.gcd_le_right p (by omega)
      have hq1 : p / d ≤ p := Nat.div_le_self _ _
      have hq2 : q / d ≤ q := Nat.div_le_self _ _
      obtain ⟨P, hP⟩ : ∃ P : Nat, p / d = P := ⟨_, rfl⟩
      obtain ⟨Q, hQ⟩ : ∃ Q : Nat, q / d = Q := ⟨_, rfl⟩
      have e1 : (p : Int).tdiv (d : Int) = (P : Int) := by rw [← hP]; exact (Int.ofNat_tdiv p d).symm
      have e2 : (q : Int).tdiv (d : Int) = (Q : Int) := by rw [← hQ]; exact (Int.ofNat_tdiv q d).symm
      have q1 : IntKind.i64.wrap (P : Int) = (P : Int) := IntWalk.i64_in _ (by omega)
      have q2 : IntKind.i64.wrap (Q : Int) = (Q : Int) := IntWalk.i64_in _ (by omega)
      have hd0 : ¬ d = 0 := by omega
      have HPQ := Lib.hid (show lowV p q = ((P : Int), (Q : Int)) by
        unfold lowV
        rw [Int.toNat_natCast, Int.toNat_natCast, ← HD.out, ← hP, ← hQ]
        rfl)
      clear hd hP hQ
      go_wp2_with fail
      refine H_begin (fun w' => w.grownBy w' none) (by kernel_rfl) ?_
      have hHeld : w.grownBy wr.drew none := gr_drew HG.out
      refine H_take (k := 0) (v := ?_) (by rfl) (by kernel_rfl) (by kernel_rfl) (by kernel_rfl) (by exact fun _ _ _ h => h) (by rfl) ?_ (by assumption) ?_
      rotate_left 1
      · intro w hSw
        (try dsimp only at hSw)
        go_simp
        (try with_reducible rfl)
      (try simp only [Act.put, List.setIfInBounds_toArray, List.set_cons_zero, List.set_cons_succ])
      refine H_take (k := 1) (v := ?_) (by rfl) (by kernel_rfl) (by kernel_rfl) (by kernel_rfl) (by exact fun _ _ _ h => h) (by rfl) ?_ (by assumption) ?_
      rotate_left 1
      · intro w hSw
        (try dsimp only at hSw)
        go_simp
        (try with_reducible rfl)
      (try simp only [Act.put, List.setIfInBounds_toArray, List.set_cons_zero, List.set_cons_succ])
      refine H_take (k := 2) (v := ?_) (by rfl) (by kernel_rfl) (by kernel_rfl) (by kernel_rfl) (by exact fun _ _ _ h => h) (by rfl) ?_ (by assumption) ?_
      rotate_left 1
      · intro w hSw
        (try dsimp only at hSw)
        go_simp
        (try with_reducible rfl)
      (try simp only [Act.put, List.setIfInBounds_toArray, List.set_cons_zero, List.set_cons_succ])
      refine H_take (k := 3) (v := ?_) (by rfl) (by kernel_rfl) (by kernel_rfl) (by kernel_rfl) (by exact fun _ _ _ h => h) (by rfl) ?_ (by assumption) ?_
      rotate_left 1
      · intro w hSw
        (try dsimp only at hSw)
        go_simp
        (try with_reducible rfl)
      (try simp only [Act.put, List.setIfInBounds_toArray, List.set_cons_zero, List.set_cons_succ])
      refine H_take (k := 4) (v := ?_) (by rfl) (by kernel_rfl) (by kernel_rfl) (by kernel_rfl) (by exact fun _ _ _ h => h) (by rfl) ?_ (by assumption) ?_
      rotate_left 1
      · intro w hSw
        (try dsimp only at hSw)
        go_simp
        (try with_reducible rfl)
      (try simp only [Act.put, List.setIfInBounds_toArray, List.set_cons_zero, List.set_cons_succ])
      refine H_take (k := 5) (v := ?_) (by rfl) (by kernel_rfl) (by kernel_rfl) (by kernel_rfl) (by exact fun _ _ _ h => h) (by rfl) ?_ (by assumption) ?_
      rotate_left 1
      · intro w hSw
        (try dsimp only at hSw)
        go_simp
        (try with_reducible rfl)
      (try simp only [Act.put, List.setIfInBounds_toArray, List.set_cons_zero, List.set_cons_succ])
      refine H_take (k := 6) (v := ?_) (by rfl) (by kernel_rfl) (by kernel_rfl) (by kernel_rfl) (by exact fun _ _ _ h => h) (by rfl) ?_ (by assumption) ?_
      rotate_left 1
      · intro w hSw
        (try dsimp only at hSw)
        go_simp
        (try with_reducible rfl)
      (try simp only [Act.put, List.setIfInBounds_toArray, List.set_cons_zero, List.set_cons_succ])
      refine H_run (k := 7) (by rfl) (by kernel_rfl) (by rfl) (fun K hK => ?_)
      refine wp_store_all Tryz.frT _ _ (by rfl) w.heap.size (by rfl) 52 _ #[.int .i64 P, .int .i64 Q] (by rfl) HR.out.drew rfl rfl (by simp [Value.oneCell']) ?_
      intro w9 h9
      have hg9 : w.grownBy w9 none := gr_trans hHeld h9.2.1 (fun g e => .inr (by injection e with e; omega))
      have HX := Lib.hid h9.1
      refine hK _ _ hg9 ?_
      clear hK K h9
      refine H_done (by kernel_rfl) ?_
      have HG9 := Lib.hid hg9
      clear hg9
      go_wp2_with fail
      refine ret_cell Tryz.frT rfl w.heap.size 52 #[.int .i64 P, .int .i64 Q] rfl HX.out rfl rfl ?_
      exact ⟨by rw [HPQ.out], HG9.out⟩
end
end Go.Proofs.YtemfbdmaljddnaaGreatDoor
/- Contract of the generator of seats. Conditions: at most 19 callers. -/
namespace Go.Proofs.YtemfbdmaljddnaaGreatDoor
section
open Go.RowKit

def GSe (w : World) (lo : Nat) (A : Option Addr) (n c : Nat) (l : List SeV) : Prop := OwnR SeV.row 5 w lo 68 A n c l ∧ ∀ z ∈ l, SeOk z
def IsSes (lo most : Nat) (v : Value) (w : World) : Prop := ∃ (A : Option Addr) (n c : Nat) (l : List SeV), v = .slice A n c ∧ Ses w lo A n c l ∧ n ≤ most
section
variable {w w' : World} {lo n c : Nat} {A : Option Addr} {l : List SeV}
theorem GSe.ses (h : GSe w lo A n c l) : Ses w lo A n c l := ⟨h.1.recs, h.2⟩
theorem GSe.low (h : GSe w lo A n c l) {r : Option Nat} (hg : w.grownBy w' r) (hr : ∀ g, r = some g → g < lo) : GSe w' lo A n c l := ⟨h.1.low hg hr, h.2⟩
theorem GSe.set1 {g i j p : Nat} {a a' : SeV} {u : Value} (h : GSe w lo (some ⟨g, 0, none⟩) n c l) (hi : l[i]? = some a) (hj : j < 5) (hr : a'.row = a.row.set j u) (ok : SeOk a') (hp : p = i * 5 + j) : GSe (w.setCell ⟨g, p, none⟩ u) lo (some ⟨g, 0, none⟩) n c (l.set i a') :=
  ⟨h.1.set1 SeV.row_len hi hj hr hp, fun z hz => by
    rcases List.mem_or_eq_of_mem_set hz with h1 | rfl
    · exact h.2 z h1
    · exact ok⟩
theorem Recs.tail5 {g o : Nat} {a : SeV} (h : Recs SeV.row 5 w lo (some ⟨g, o, none⟩) n c (a :: l)) : Recs SeV.row 5 w lo (some ⟨g, o + 5, none⟩) (n - 1) (c - 1) l := by
  obtain ⟨⟨h1, h2, h3⟩, h4⟩ := h
  have hl : l.length + 1 = n := by simpa using h4
  refine ⟨⟨by rw [flat_len SeV.row_len]; congr 1; omega, by omega, fun hp => ?_⟩, by omega⟩
  obtain ⟨g', o', e, hlo, hg, hc⟩ := h3 (by omega)
  injection e with e
  injection e with e1 e2
  subst e1; subst e2
  refine ⟨g, o + 5, rfl, hlo, hg, fun j u hu => ?_⟩
  rw [Nat.add_assoc]
  refine hc (5 + j) u ?_
  rw [List.flatMap_cons, List.getElem?_append_right (by rw [SeV.row_len]; omega), SeV.row_len, Nat.add_sub_cancel_left]
  exact hu
theorem GSe.tail {g : Nat} (h : GSe w lo (some ⟨g, 0, none⟩) n c l) (hn : 0 < n) : Ses w lo (some ⟨g, 5, none⟩) (n - 1) (c - 1) (l.drop 1) := by
  cases l with
  | nil => have := h.1.2; simp at this; omega
  | cons a l =>
    have := Recs.tail5 h.1.recs
    exact ⟨by simpa using this, fun z hz => h.2 z (List.mem_cons_of_mem _ hz)⟩
theorem GSe.tail1 (h : GSe w lo A n c l) (hn : 0 < n) (hc : c = 1) {A' : Option Addr} {c' : Nat} : Ses w lo A' (n - 1) c' (l.drop 1) := by
  have h1 := h.1.1.cap
  have h2 := h.1.2
  have hz : l.drop 1 = [] := List.drop_of_length_le (by omega)
  rw [hz]
  have hn1 : n - 1 = 0 := by omega
  rw [hn1]
  exact ⟨Recs.nil, fun z hz => by cases hz⟩
end
set_option maxHeartbeats 16000000 in
set_option maxRecDepth 100000 in
theorem seats_any (sb lo1 : Nat) (m : Int) (cA : Option Addr) (nn cc : Nat) (C : List CaV) (w : World) (hs : Str w sb m) (hm : m ≤ 10000000000) (hC : Cas w lo1 cA nn cc C) (hsl : sb < lo1) (hnn : nn ≤ 19) :
    Calls Tryz.prog 9 #[.pointer (some ⟨sb, 0, none⟩), .slice cA nn cc] w (Drawn sb (m + 200) (IsSes w.heap.size 19) w) := by
  have hlt := hs.lt
  have HS := Lib.hid hs; clear hs
  have HG := Lib.hid (gr_refl w (some sb))
  have HC := Lib.hid hC
  obtain ⟨E, hE⟩ : ∃ E, casE C = E := ⟨_, rfl⟩
  have HE := Lib.hid hE
  clear hC hE
  go_enter Tryz.func9, Tryz.ntmps9
  go_wp2_with fail
  refine (callersFault_any lo1 cA nn cc C _ HC.out (by omega)).mono ?_
  rintro e w1 ⟨rfl, hg1⟩
  rw [HE.out]
  have z1 := hg1.size
  replace HS := Lib.hid (HS.out.grown hg1 (fun g e => by cases e))
  replace HG := Lib.hid (gr_none HG.out hg1)
  replace HC := Lib.hid (HC.out.grown hg1 (fun g e => by cases e))
  clear hg1
  by_cases hz : E = 0
  · have dz : (E == 0) = true := by simpa using hz
    have HNUM := Lib.hid (fun x hx => caNum_n (casE_num (HE.out.trans hz) x hx))
    clear hz
    go_wp2_with fail
    refine (rightStyle_any sb _ _ (by first | exact HS.out | exact HS.out.alloc _ | exact (HS.out.alloc _).alloc _ | exact ((HS.out.alloc _).alloc _).alloc _ | exact HS.out.drewN _ | exact HS.out.setCell (by simp; omega) _ | exact (HS.out.alloc _).setCell (by simp; omega) _ | exact (HS.out.setCell (by simp; omega) _).alloc _ | exact (HS.out.setCell (by simp; omega) _).drewN _ | exact (HS.out.alloc _).drewN _) (by omega)).mono ?_
    rintro e w2 ⟨v2, rfl, ⟨a, b, s3, rfl, ha1, ha4, hb0⟩, hs2, hg2⟩
    have z2 := hg2.size
    replace HS := Lib.hid hs2
    replace HG := Lib.hid (gr_same HG.out hg2)
    replace HC := Lib.hid (HC.out.grown hg2 (fun g e => by injection e with e; omega))
    clear hs2 hg2
    go_wp2_with fail
    refine (rightAgents_any sb _ _ (by first | exact HS.out | exact HS.out.alloc _ | exact (HS.out.alloc _).alloc _ | exact ((HS.out.alloc _).alloc _).alloc _ | exact HS.out.drewN _ | exact HS.out.setCell (by simp; omega) _ | exact (HS.out.alloc _).setCell (by simp; omega) _ | exact (HS.out.setCell (by simp; omega) _).alloc _ | exact (HS.out.setCell (by simp; omega) _).drewN _ | exact (HS.out.alloc _).drewN _) (by omega)).mono ?_
    rintro e w3 ⟨v3, rfl, ⟨aA, an, ac, AL, rfl, hga, han, hlb⟩, hs3, hg3⟩
    have z3 := hg3.size
    have hgl := hga.1.2
    subst hgl
    have HAG := Lib.hid (show Ags w3 0 aA AL.length ac AL from ⟨hga.ags.1.lower (Nat.zero_le _), fun x hx => ⟨(hga.ags.2 x hx).1, (hga.ags.2 x hx).2.1.lower (Nat.zero_le _), (hga.ags.2 x hx).2.2.lower (Nat.zero_le _)⟩⟩)
    have HAN := Lib.hid (show ∀ x ∈ AL, AgN x ∧ x.key.size ≤ 1000 from fun x hx => ⟨(hlb x hx).2.2, (hga.ags.2 x hx).1.1⟩)
    replace HS := Lib.hid hs3
    replace HG := Lib.hid (gr_same HG.out hg3)
    replace HC := Lib.hid (HC.out.grown hg3 (fun g e => by injection e with e; omega))
    clear hs3 hg3 hga hlb
    have hcl := HC.out.1.len
    subst hcl
    go_wp2_with fail
    refine (playOf_any ⟨a, b, s3⟩ aA ac AL cA cc C _ HAG.out ⟨HC.out.1.lower (Nat.zero_le _), HC.out.2⟩ (by omega) hnn HAN.out (fun x hx => ⟨HNUM.out x hx, HC.out.2 x hx⟩) hb0 ha1 ha4).mono ?_
    rintro e w4 ⟨A, c, rfl, how, hg4, hok⟩
    obtain ⟨l, hl⟩ : ∃ l, (playOf ⟨a, b, s3⟩ AL C).se = l := ⟨_, rfl⟩
    have HGA := Lib.hid (show GSe w4 w.heap.size A C.length c l from ⟨by rw [← hl]; exact how.lower (by omega), fun z hz => by
      rw [← hl] at hz
      have := hok.sv z hz
      exact ⟨this.1, this.2.1, by omega, by omega, by omega, by omega⟩⟩)
    have z4 := hg4.size
    replace HS := Lib.hid (HS.out.grown hg4 (fun g e => by cases e))
    replace HG := Lib.hid (gr_none HG.out hg4)
    clear how hg4 hok hl HC HAG HAN HNUM dz HE ha1 ha4 hb0
    obtain ⟨n, hnq⟩ : ∃ n, C.length = n := ⟨_, rfl⟩
    rw [hnq] at HGA hnn ⊢
    clear hnq
    have hn : n ≤ 19 := hnn
    by_cases hp : 0 < n
    · have hp' : decide ((0 : Int) < (n : Int)) = true := decide_eq_true (by omega)
      have hp2 : decide (0 < n) = true := decide_eq_true hp
      obtain ⟨g, rfl, hgl, hgs⟩ := HGA.out.1.1.pos hp
      go_wp2_with fail
      refine (flip_any sb _ 6 _ (by first | exact HS.out | exact HS.out.alloc _ | exact (HS.out.alloc _).alloc _ | exact ((HS.out.alloc _).alloc _).alloc _ | exact HS.out.drewN _ | exact HS.out.setCell (by simp; omega) _ | exact (HS.out.alloc _).setCell (by simp; omega) _ | exact (HS.out.setCell (by simp; omega) _).alloc _ | exact (HS.out.setCell (by simp; omega) _).drewN _ | exact (HS.out.alloc _).drewN _) (by omega) (by omega) (by omega)).mono ?_
      rintro e w2 ⟨v2, rfl, ⟨f2, rfl⟩, hs2, hg2⟩
      replace HGA := Lib.hid (HGA.out.low hg2 (fun g e => by injection e with e; omega))
      have z2 := hg2.size; try simp at z2
      replace HG := Lib.hid (gr_same (a := w) (by repeat (first | exact HG.out | refine gr_alloc ?_ _ | refine gr_drew ?_ | refine gr_drewN ?_ _ | refine gr_setCell ?_ (.inr (by simp; omega)) _)) hg2); clear hg2
      replace HS := Lib.hid hs2; clear hs2
      cases f2
      · go_wp2_with fail
        refine (flip_any sb _ 30 _ (by first | exact HS.out | exact HS.out.alloc _ | exact (HS.out.alloc _).alloc _ | exact ((HS.out.alloc _).alloc _).alloc _ | exact HS.out.drewN _ | exact HS.out.setCell (by simp; omega) _ | exact (HS.out.alloc _).setCell (by simp; omega) _ | exact (HS.out.setCell (by simp; omega) _).alloc _ | exact (HS.out.setCell (by simp; omega) _).drewN _ | exact (HS.out.alloc _).drewN _) (by omega) (by omega) (by omega)).mono ?_
        rintro e w9 ⟨v9, rfl, ⟨f9, rfl⟩, hs9, hg9⟩
        replace HGA := Lib.hid (HGA.out.low hg9 (fun g e => by injection e with e; omega))
        have z9 := hg9.size; try simp at z9
        replace HG := Lib.hid (gr_same (a := w) (by repeat (first | exact HG.out | refine gr_alloc ?_ _ | refine gr_drew ?_ | refine gr_drewN ?_ _ | refine gr_setCell ?_ (.inr (by simp; omega)) _)) hg9); clear hg9
        replace HS := Lib.hid hs9; clear hs9
        cases f9
        · go_wp2_with fail
          go_ret
          exact ⟨_, rfl, ⟨_, _, _, _, rfl, HGA.out.ses, hn⟩, HS.out.mono (by omega), HG.out⟩
        · have HNP := Lib.hid hp
          have hl1 : (1 : Int) ≤ (n : Int) := by omega
          have hdp : decide ((0 : Int) < (n : Int)) = true := decide_eq_true (by omega)
          by_cases hc1 : c = 1
          · go_wp2_with fail
            go_ret
            exact ⟨_, rfl, ⟨_, _, _, _, rfl, GSe.tail1 HGA.out HNP.out hc1, by omega⟩, HS.out.mono (by omega), HG.out⟩
          · go_wp2_with fail
            go_ret
            exact ⟨_, rfl, ⟨_, _, _, _, rfl, GSe.tail HGA.out HNP.out, by omega⟩, HS.out.mono (by omega), HG.out⟩
      · go_wp2_with fail
        refine (next_any sb _ n _ (by first | exact HS.out | exact HS.out.alloc _ | exact (HS.out.alloc _).alloc _ | exact ((HS.out.alloc _).alloc _).alloc _ | exact HS.out.drewN _ | exact HS.out.setCell (by simp; omega) _ | exact (HS.out.alloc _).setCell (by simp; omega) _ | exact (HS.out.setCell (by simp; omega) _).alloc _ | exact (HS.out.setCell (by simp; omega) _).drewN _ | exact (HS.out.alloc _).drewN _) (by omega) (by omega) (by omega)).mono ?_
        rintro e w3 ⟨v3, rfl, ⟨r3, hlo3, hhi3, rfl⟩, hs3, hg3⟩
        replace HGA := Lib.hid (HGA.out.low hg3 (fun g e => by injection e with e; omega))
        have z3 := hg3.size; try simp at z3
        replace HG := Lib.hid (gr_same (a := w) (by repeat (first | exact HG.out | refine gr_alloc ?_ _ | refine gr_drew ?_ | refine gr_drewN ?_ _ | refine gr_setCell ?_ (.inr (by simp; omega)) _)) hg3); clear hg3
        replace HS := Lib.hid hs3; clear hs3
        obtain ⟨i, rfl⟩ : ∃ i : Nat, r3 = i := ⟨r3.toNat, by omega⟩
        have hin : i < n := by omega
        have hin' : (i : Int) < (n : Int) := by omega
        obtain ⟨x, hx⟩ : ∃ x, l[i]? = some x := ⟨_, List.getElem?_eq_getElem (by rw [HGA.out.1.2]; exact hin)⟩
        obtain ⟨o1, o2, o3, o4, o5, o6⟩ := HGA.out.2 x (mem_of_get hx)
        have HX := Lib.hid hx; clear hx
        go_wp2_with fail
        refine (next_any sb _ 5 _ (by first | exact HS.out | exact HS.out.alloc _ | exact (HS.out.alloc _).alloc _ | exact ((HS.out.alloc _).alloc _).alloc _ | exact HS.out.drewN _ | exact HS.out.setCell (by simp; omega) _ | exact (HS.out.alloc _).setCell (by simp; omega) _ | exact (HS.out.setCell (by simp; omega) _).alloc _ | exact (HS.out.setCell (by simp; omega) _).drewN _ | exact (HS.out.alloc _).drewN _) (by omega) (by omega) (by omega)).mono ?_
        rintro e w4 ⟨v4, rfl, ⟨r4, hlo4, hhi4, rfl⟩, hs4, hg4⟩
        replace HGA := Lib.hid (HGA.out.low hg4 (fun g e => by injection e with e; omega))
        have z4 := hg4.size; try simp at z4
        replace HG := Lib.hid (gr_same (a := w) (by repeat (first | exact HG.out | refine gr_alloc ?_ _ | refine gr_drew ?_ | refine gr_drewN ?_ _ | refine gr_setCell ?_ (.inr (by simp; omega)) _)) hg4); clear hg4
        replace HS := Lib.hid hs4; clear hs4
        rcases (by omega : r4 = 0 ∨ r4 = 1 ∨ r4 = 2 ∨ r4 = 3 ∨ r4 = 4) with rfl | rfl | rfl | rfl | rfl
        · go_wp2_with fail
          refine (some_new (n := 3) sb _ 2 _ (by first | exact HS.out | exact HS.out.alloc _ | exact (HS.out.alloc _).alloc _ | exact ((HS.out.alloc _).alloc _).alloc _ | exact HS.out.drewN _ | exact HS.out.setCell (by simp; omega) _ | exact (HS.out.alloc _).setCell (by simp; omega) _ | exact (HS.out.setCell (by simp; omega) _).alloc _ | exact (HS.out.setCell (by simp; omega) _).drewN _ | exact (HS.out.alloc _).drewN _) (by omega) (by simp) (by
            repeat (first | exact StrsOk.nil _ | refine StrsOk.cons (by decide) ?_)) rfl (by omega) (by omega)).mono ?_
          rintro e w5 ⟨v5, rfl, ⟨y5, rfl, hy5⟩, hs5, hg5⟩
          replace HGA := Lib.hid (HGA.out.low hg5 (fun g e => by injection e with e; omega))
          have z5 := hg5.size; try simp at z5
          replace HG := Lib.hid (gr_same (a := w) (by repeat (first | exact HG.out | refine gr_alloc ?_ _ | refine gr_drew ?_ | refine gr_drewN ?_ _ | refine gr_setCell ?_ (.inr (by simp; omega)) _)) hg5); clear hg5
          replace HS := Lib.hid hs5; clear hs5
          have cX := HGA.out.1.recs.at_ SeV.row_len HX.out 0 _ rfl
          have fX := HGA.out.1.1.frozen (i * 5)
          simp only [Nat.zero_add, Nat.add_zero] at cX fX
          go_upto_region 16 with (fail)
          have hgs : w5.grownBy (w5.setCell ⟨g, i * 5, none⟩ (.string y5)) (some g) := gr_setCell (gr_refl _ _) (.inl rfl) _
          replace HGA := Lib.hid (show GSe (w5.setCell ⟨g, i * 5, none⟩ (.string y5)) w.heap.size (some ⟨g, 0, none⟩) n c (l.set i ⟨y5, x.ag, x.how, x.beg, x.fin⟩) from HGA.out.set1 (j := 0) HX.out (a' := ⟨y5, x.ag, x.how, x.beg, x.fin⟩) (by omega) rfl ⟨Nat.le_trans hy5 (by decide), o2, o3, o4, o5, o6⟩ rfl)
          replace HS := Lib.hid (HS.out.setCell (by simp; omega) (.string y5) : Str (w5.setCell ⟨g, i * 5, none⟩ (.string y5)) sb _)
          replace HG := Lib.hid (show w.grownBy (w5.setCell ⟨g, i * 5, none⟩ (.string y5)) (some sb) from gr_setCell HG.out (.inr (by simp; omega)) _)
          obtain ⟨wq, hwq⟩ : ∃ wq, w5.setCell ⟨g, i * 5, none⟩ (.string y5) = wq := ⟨_, rfl⟩
          have HWQ := Lib.hid hwq
          have zq : w5.heap.size = wq.heap.size := by rw [← hwq]; simp [World.setCell]
          rw [hwq] at HGA HS HG
          rw [HWQ.out]
          clear cX fX hgs hwq HWQ HX
          go_wp2_with fail
          refine (flip_any sb _ 30 _ (by first | exact HS.out | exact HS.out.alloc _ | exact (HS.out.alloc _).alloc _ | exact ((HS.out.alloc _).alloc _).alloc _ | exact HS.out.drewN _ | exact HS.out.setCell (by simp; omega) _ | exact (HS.out.alloc _).setCell (by simp; omega) _ | exact (HS.out.setCell (by simp; omega) _).alloc _ | exact (HS.out.setCell (by simp; omega) _).drewN _ | exact (HS.out.alloc _).drewN _) (by omega) (by omega) (by omega)).mono ?_
          rintro e w9 ⟨v9, rfl, ⟨f9, rfl⟩, hs9, hg9⟩
          replace HGA := Lib.hid (HGA.out.low hg9 (fun g e => by injection e with e; omega))
          have z9 := hg9.size; try simp at z9
          replace HG := Lib.hid (gr_same (a := w) (by repeat (first | exact HG.out | refine gr_alloc ?_ _ | refine gr_drew ?_ | refine gr_drewN ?_ _ | refine gr_setCell ?_ (.inr (by simp; omega)) _)) hg9); clear hg9
          replace HS := Lib.hid hs9; clear hs9
          cases f9
          · go_wp2_with fail
            go_ret
            exact ⟨_, rfl, ⟨_, _, _, _, rfl, HGA.out.ses, hn⟩, HS.out.mono (by omega), HG.out⟩
          · have HNP := Lib.hid hp
            have hl1 : (1 : Int) ≤ (n : Int) := by omega
            have hdp : decide ((0 : Int) < (n : Int)) = true := decide_eq_true (by omega)
            by_cases hc1 : c = 1
            · go_wp2_with fail
              go_ret
              exact ⟨_, rfl, ⟨_, _, _, _, rfl, GSe.tail1 HGA.out HNP.out hc1, by omega⟩, HS.out.mono (by omega), HG.out⟩
            · go_wp2_with fail
              go_ret
              exact ⟨_, rfl, ⟨_, _, _, _, rfl, GSe.tail HGA.out HNP.out, by omega⟩, HS.out.mono (by omega), HG.out⟩
        · go_wp2_with fail
          refine (odd_any sb _ 1 4 _ (by first | exact HS.out | exact HS.out.alloc _ | exact (HS.out.alloc _).alloc _ | exact ((HS.out.alloc _).alloc _).alloc _ | exact HS.out.drewN _ | exact HS.out.setCell (by simp; omega) _ | exact (HS.out.alloc _).setCell (by simp; omega) _ | exact (HS.out.setCell (by simp; omega) _).alloc _ | exact (HS.out.setCell (by simp; omega) _).drewN _ | exact (HS.out.alloc _).drewN _) (by omega) (by omega) (by omega) (by omega)).mono ?_
          rintro e w5 ⟨v5, rfl, ⟨r5, hlo5, hhi5, rfl⟩, hs5, hg5⟩
          replace HGA := Lib.hid (HGA.out.low hg5 (fun g e => by injection e with e; omega))
          have z5 := hg5.size; try simp at z5
          replace HG := Lib.hid (gr_same (a := w) (by repeat (first | exact HG.out | refine gr_alloc ?_ _ | refine gr_drew ?_ | refine gr_drewN ?_ _ | refine gr_setCell ?_ (.inr (by simp; omega)) _)) hg5); clear hg5
          replace HS := Lib.hid hs5; clear hs5
          have cX := HGA.out.1.recs.at_ SeV.row_len HX.out 2 _ rfl
          have fX := HGA.out.1.1.frozen (i * 5 + 2)
          simp only [Nat.zero_add, Nat.add_zero] at cX fX
          go_upto_region 16 with (fail)
          have hgs : w5.grownBy (w5.setCell ⟨g, i * 5 + 2, none⟩ (.int .i64 r5)) (some g) := gr_setCell (gr_refl _ _) (.inl rfl) _
          replace HGA := Lib.hid (show GSe (w5.setCell ⟨g, i * 5 + 2, none⟩ (.int .i64 r5)) w.heap.size (some ⟨g, 0, none⟩) n c (l.set i ⟨x.ca, x.ag, r5, x.beg, x.fin⟩) from HGA.out.set1 (j := 2) HX.out (a' := ⟨x.ca, x.ag, r5, x.beg, x.fin⟩) (by omega) rfl ⟨o1, o2, o3, o4, o5, o6⟩ rfl)
          replace HS := Lib.hid (HS.out.setCell (by simp; omega) (.int .i64 r5) : Str (w5.setCell ⟨g, i * 5 + 2, none⟩ (.int .i64 r5)) sb _)
          replace HG := Lib.hid (show w.grownBy (w5.setCell ⟨g, i * 5 + 2, none⟩ (.int .i64 r5)) (some sb) from gr_setCell HG.out (.inr (by simp; omega)) _)
          obtain ⟨wq, hwq⟩ : ∃ wq, w5.setCell ⟨g, i * 5 + 2, none⟩ (.int .i64 r5) = wq := ⟨_, rfl⟩
          have HWQ := Lib.hid hwq
          have zq : w5.heap.size = wq.heap.size := by rw [← hwq]; simp [World.setCell]
          rw [hwq] at HGA HS HG
          rw [HWQ.out]
          clear cX fX hgs hwq HWQ HX
          go_wp2_with fail
          refine (flip_any sb _ 30 _ (by first | exact HS.out | exact HS.out.alloc _ | exact (HS.out.alloc _).alloc _ | exact ((HS.out.alloc _).alloc _).alloc _ | exact HS.out.drewN _ | exact HS.out.setCell (by simp; omega) _ | exact (HS.out.alloc _).setCell (by simp; omega) _ | exact (HS.out.setCell (by simp; omega) _).alloc _ | exact (HS.out.setCell (by simp; omega) _).drewN _ | exact (HS.out.alloc _).drewN _) (by omega) (by omega) (by omega)).mono ?_
          rintro e w9 ⟨v9, rfl, ⟨f9, rfl⟩, hs9, hg9⟩
          replace HGA := Lib.hid (HGA.out.low hg9 (fun g e => by injection e with e; omega))
          have z9 := hg9.size; try simp at z9
          replace HG := Lib.hid (gr_same (a := w) (by repeat (first | exact HG.out | refine gr_alloc ?_ _ | refine gr_drew ?_ | refine gr_drewN ?_ _ | refine gr_setCell ?_ (.inr (by simp; omega)) _)) hg9); clear hg9
          replace HS := Lib.hid hs9; clear hs9
          cases f9
          · go_wp2_with fail
            go_ret
            exact ⟨_, rfl, ⟨_, _, _, _, rfl, HGA.out.ses, hn⟩, HS.out.mono (by omega), HG.out⟩
          · have HNP := Lib.hid hp
            have hl1 : (1 : Int) ≤ (n : Int) := by omega
            have hdp : decide ((0 : Int) < (n : Int)) = true := decide_eq_true (by omega)
            by_cases hc1 : c = 1
            · go_wp2_with fail
              go_ret
              exact ⟨_, rfl, ⟨_, _, _, _, rfl, GSe.tail1 HGA.out HNP.out hc1, by omega⟩, HS.out.mono (by omega), HG.out⟩
            · go_wp2_with fail
              go_ret
              exact ⟨_, rfl, ⟨_, _, _, _, rfl, GSe.tail HGA.out HNP.out, by omega⟩, HS.out.mono (by omega), HG.out⟩
        · go_wp2_with fail
          refine (some_new (n := 3) sb _ 2 _ (by first | exact HS.out | exact HS.out.alloc _ | exact (HS.out.alloc _).alloc _ | exact ((HS.out.alloc _).alloc _).alloc _ | exact HS.out.drewN _ | exact HS.out.setCell (by simp; omega) _ | exact (HS.out.alloc _).setCell (by simp; omega) _ | exact (HS.out.setCell (by simp; omega) _).alloc _ | exact (HS.out.setCell (by simp; omega) _).drewN _ | exact (HS.out.alloc _).drewN _) (by omega) (by simp) (by
            repeat (first | exact StrsOk.nil _ | refine StrsOk.cons (by decide) ?_)) rfl (by omega) (by omega)).mono ?_
          rintro e w5 ⟨v5, rfl, ⟨y5, rfl, hy5⟩, hs5, hg5⟩
          replace HGA := Lib.hid (HGA.out.low hg5 (fun g e => by injection e with e; omega))
          have z5 := hg5.size; try simp at z5
          replace HG := Lib.hid (gr_same (a := w) (by repeat (first | exact HG.out | refine gr_alloc ?_ _ | refine gr_drew ?_ | refine gr_drewN ?_ _ | refine gr_setCell ?_ (.inr (by simp; omega)) _)) hg5); clear hg5
          replace HS := Lib.hid hs5; clear hs5
          have cX := HGA.out.1.recs.at_ SeV.row_len HX.out 1 _ rfl
          have fX := HGA.out.1.1.frozen (i * 5 + 1)
          simp only [Nat.zero_add, Nat.add_zero] at cX fX
          go_upto_region 16 with (fail)
          have hgs : w5.grownBy (w5.setCell ⟨g, i * 5 + 1, none⟩ (.string y5)) (some g) := gr_setCell (gr_refl _ _) (.inl rfl) _
          replace HGA := Lib.hid (show GSe (w5.setCell ⟨g, i * 5 + 1, none⟩ (.string y5)) w.heap.size (some ⟨g, 0, none⟩) n c (l.set i ⟨x.ca, y5, x.how, x.beg, x.fin⟩) from HGA.out.set1 (j := 1) HX.out (a' := ⟨x.ca, y5, x.how, x.beg, x.fin⟩) (by omega) rfl ⟨o1, Nat.le_trans hy5 (by decide), o3, o4, o5, o6⟩ rfl)
          replace HS := Lib.hid (HS.out.setCell (by simp; omega) (.string y5) : Str (w5.setCell ⟨g, i * 5 + 1, none⟩ (.string y5)) sb _)
          replace HG := Lib.hid (show w.grownBy (w5.setCell ⟨g, i * 5 + 1, none⟩ (.string y5)) (some sb) from gr_setCell HG.out (.inr (by simp; omega)) _)
          obtain ⟨wq, hwq⟩ : ∃ wq, w5.setCell ⟨g, i * 5 + 1, none⟩ (.string y5) = wq := ⟨_, rfl⟩
          have HWQ := Lib.hid hwq
          have zq : w5.heap.size = wq.heap.size := by rw [← hwq]; simp [World.setCell]
          rw [hwq] at HGA HS HG
          rw [HWQ.out]
          clear cX fX hgs hwq HWQ HX
          go_wp2_with fail
          refine (flip_any sb _ 30 _ (by first | exact HS.out | exact HS.out.alloc _ | exact (HS.out.alloc _).alloc _ | exact ((HS.out.alloc _).alloc _).alloc _ | exact HS.out.drewN _ | exact HS.out.setCell (by simp; omega) _ | exact (HS.out.alloc _).setCell (by simp; omega) _ | exact (HS.out.setCell (by simp; omega) _).alloc _ | exact (HS.out.setCell (by simp; omega) _).drewN _ | exact (HS.out.alloc _).drewN _) (by omega) (by omega) (by omega)).mono ?_
          rintro e w9 ⟨v9, rfl, ⟨f9, rfl⟩, hs9, hg9⟩
          replace HGA := Lib.hid (HGA.out.low hg9 (fun g e => by injection e with e; omega))
          have z9 := hg9.size; try simp at z9
          replace HG := Lib.hid (gr_same (a := w) (by repeat (first | exact HG.out | refine gr_alloc ?_ _ | refine gr_drew ?_ | refine gr_drewN ?_ _ | refine gr_setCell ?_ (.inr (by simp; omega)) _)) hg9); clear hg9
          replace HS := Lib.hid hs9; clear hs9
          cases f9
          · go_wp2_with fail
            go_ret
            exact ⟨_, rfl, ⟨_, _, _, _, rfl, HGA.out.ses, hn⟩, HS.out.mono (by omega), HG.out⟩
          · have HNP := Lib.hid hp
            have hl1 : (1 : Int) ≤ (n : Int) := by omega
            have hdp : decide ((0 : Int) < (n : Int)) = true := decide_eq_true (by omega)
            by_cases hc1 : c = 1
            · go_wp2_with fail
              go_ret
              exact ⟨_, rfl, ⟨_, _, _, _, rfl, GSe.tail1 HGA.out HNP.out hc1, by omega⟩, HS.out.mono (by omega), HG.out⟩
            · go_wp2_with fail
              go_ret
              exact ⟨_, rfl, ⟨_, _, _, _, rfl, GSe.tail HGA.out HNP.out, by omega⟩, HS.out.mono (by omega), HG.out⟩
        · go_wp2_with fail
          refine (odd_any sb _ 0 50 _ (by first | exact HS.out | exact HS.out.alloc _ | exact (HS.out.alloc _).alloc _ | exact ((HS.out.alloc _).alloc _).alloc _ | exact HS.out.drewN _ | exact HS.out.setCell (by simp; omega) _ | exact (HS.out.alloc _).setCell (by simp; omega) _ | exact (HS.out.setCell (by simp; omega) _).alloc _ | exact (HS.out.setCell (by simp; omega) _).drewN _ | exact (HS.out.alloc _).drewN _) (by omega) (by omega) (by omega) (by omega)).mono ?_
          rintro e w5 ⟨v5, rfl, ⟨r5, hlo5, hhi5, rfl⟩, hs5, hg5⟩
          replace HGA := Lib.hid (HGA.out.low hg5 (fun g e => by injection e with e; omega))
          have z5 := hg5.size; try simp at z5
          replace HG := Lib.hid (gr_same (a := w) (by repeat (first | exact HG.out | refine gr_alloc ?_ _ | refine gr_drew ?_ | refine gr_drewN ?_ _ | refine gr_setCell ?_ (.inr (by simp; omega)) _)) hg5); clear hg5
          replace HS := Lib.hid hs5; clear hs5
          have cX := HGA.out.1.recs.at_ SeV.row_len HX.out 3 _ rfl
          have fX := HGA.out.1.1.frozen (i * 5 + 3)
          simp only [Nat.zero_add, Nat.add_zero] at cX fX
          go_upto_region 16 with (fail)
          have hgs : w5.grownBy (w5.setCell ⟨g, i * 5 + 3, none⟩ (.int .i64 r5)) (some g) := gr_setCell (gr_refl _ _) (.inl rfl) _
          replace HGA := Lib.hid (show GSe (w5.setCell ⟨g, i * 5 + 3, none⟩ (.int .i64 r5)) w.heap.size (some ⟨g, 0, none⟩) n c (l.set i ⟨x.ca, x.ag, x.how, r5, x.fin⟩) from HGA.out.set1 (j := 3) HX.out (a' := ⟨x.ca, x.ag, x.how, r5, x.fin⟩) (by omega) rfl ⟨o1, o2, by dsimp only; omega, by dsimp only; omega, o5, o6⟩ rfl)
          replace HS := Lib.hid (HS.out.setCell (by simp; omega) (.int .i64 r5) : Str (w5.setCell ⟨g, i * 5 + 3, none⟩ (.int .i64 r5)) sb _)
          replace HG := Lib.hid (show w.grownBy (w5.setCell ⟨g, i * 5 + 3, none⟩ (.int .i64 r5)) (some sb) from gr_setCell HG.out (.inr (by simp; omega)) _)
          obtain ⟨wq, hwq⟩ : ∃ wq, w5.setCell ⟨g, i * 5 + 3, none⟩ (.int .i64 r5) = wq := ⟨_, rfl⟩
          have HWQ := Lib.hid hwq
          have zq : w5.heap.size = wq.heap.size := by rw [← hwq]; simp [World.setCell]
          rw [hwq] at HGA HS HG
          rw [HWQ.out]
          clear cX fX hgs hwq HWQ HX
          go_wp2_with fail
          refine (flip_any sb _ 30 _ (by first | exact HS.out | exact HS.out.alloc _ | exact (HS.out.alloc _).alloc _ | exact ((HS.out.alloc _).alloc _).alloc _ | exact HS.out.drewN _ | exact HS.out.setCell (by simp; omega) _ | exact (HS.out.alloc _).setCell (by simp; omega) _ | exact (HS.out.setCell (by simp; omega) _).alloc _ | exact (HS.out.setCell (by simp; omega) _).drewN _ | exact (HS.out.alloc _).drewN _) (by omega) (by omega) (by omega)).mono ?_
          rintro e w9 ⟨v9, rfl, ⟨f9, rfl⟩, hs9, hg9⟩
          replace HGA := Lib.hid (HGA.out.low hg9 (fun g e => by injection e with e; omega))
          have z9 := hg9.size; try simp at z9
          replace HG := Lib.hid (gr_same (a := w) (by repeat (first | exact HG.out | refine gr_alloc ?_ _ | refine gr_drew ?_ | refine gr_drewN ?_ _ | refine gr_setCell ?_ (.inr (by simp; omega)) _)) hg9); clear hg9
          replace HS := Lib.hid hs9; clear hs9
          cases f9
          · go_wp2_with fail
            go_ret
            exact ⟨_, rfl, ⟨_, _, _, _, rfl, HGA.out.ses, hn⟩, HS.out.mono (by omega), HG.out⟩
          · have HNP := Lib.hid hp
            have hl1 : (1 : Int) ≤ (n : Int) := by omega
            have hdp : decide ((0 : Int) < (n : Int)) = true := decide_eq_true (by omega)
            by_cases hc1 : c = 1
            · go_wp2_with fail
              go_ret
              exact ⟨_, rfl, ⟨_, _, _, _, rfl, GSe.tail1 HGA.out HNP.out hc1, by omega⟩, HS.out.mono (by omega), HG.out⟩
            · go_wp2_with fail
              go_ret
              exact ⟨_, rfl, ⟨_, _, _, _, rfl, GSe.tail HGA.out HNP.out, by omega⟩, HS.out.mono (by omega), HG.out⟩
        · go_wp2_with fail
          refine (odd_any sb _ 0 50 _ (by first | exact HS.out | exact HS.out.alloc _ | exact (HS.out.alloc _).alloc _ | exact ((HS.out.alloc _).alloc _).alloc _ | exact HS.out.drewN _ | exact HS.out.setCell (by simp; omega) _ | exact (HS.out.alloc _).setCell (by simp; omega) _ | exact (HS.out.setCell (by simp; omega) _).alloc _ | exact (HS.out.setCell (by simp; omega) _).drewN _ | exact (HS.out.alloc _).drewN _) (by omega) (by omega) (by omega) (by omega)).mono ?_
          rintro e w5 ⟨v5, rfl, ⟨r5, hlo5, hhi5, rfl⟩, hs5, hg5⟩
          replace HGA := Lib.hid (HGA.out.low hg5 (fun g e => by injection e with e; omega))
          have z5 := hg5.size; try simp at z5
          replace HG := Lib.hid (gr_same (a := w) (by repeat (first | exact HG.out | refine gr_alloc ?_ _ | refine gr_drew ?_ | refine gr_drewN ?_ _ | refine gr_setCell ?_ (.inr (by simp; omega)) _)) hg5); clear hg5
          replace HS := Lib.hid hs5; clear hs5
          have cX := HGA.out.1.recs.at_ SeV.row_len HX.out 4 _ rfl
          have fX := HGA.out.1.1.frozen (i * 5 + 4)
          simp only [Nat.zero_add, Nat.add_zero] at cX fX
          go_upto_region 16 with (fail)
          have hgs : w5.grownBy (w5.setCell ⟨g, i * 5 + 4, none⟩ (.int .i64 r5)) (some g) := gr_setCell (gr_refl _ _) (.inl rfl) _
          replace HGA := Lib.hid (show GSe (w5.setCell ⟨g, i * 5 + 4, none⟩ (.int .i64 r5)) w.heap.size (some ⟨g, 0, none⟩) n c (l.set i ⟨x.ca, x.ag, x.how, x.beg, r5⟩) from HGA.out.set1 (j := 4) HX.out (a' := ⟨x.ca, x.ag, x.how, x.beg, r5⟩) (by omega) rfl ⟨o1, o2, o3, o4, by dsimp only; omega, by dsimp only; omega⟩ rfl)
          replace HS := Lib.hid (HS.out.setCell (by simp; omega) (.int .i64 r5) : Str (w5.setCell ⟨g, i * 5 + 4, none⟩ (.int .i64 r5)) sb _)
          replace HG := Lib.hid (show w.grownBy (w5.setCell ⟨g, i * 5 + 4, none⟩ (.int .i64 r5)) (some sb) from gr_setCell HG.out (.inr (by simp; omega)) _)
          obtain ⟨wq, hwq⟩ : ∃ wq, w5.setCell ⟨g, i * 5 + 4, none⟩ (.int .i64 r5) = wq := ⟨_, rfl⟩
          have HWQ := Lib.hid hwq
          have zq : w5.heap.size = wq.heap.size := by rw [← hwq]; simp [World.setCell]
          rw [hwq] at HGA HS HG
          rw [HWQ.out]
          clear cX fX hgs hwq HWQ HX
          go_wp2_with fail
          refine (flip_any sb _ 30 _ (by first | exact HS.out | exact HS.out.alloc _ | exact (HS.out.alloc _).alloc _ | exact ((HS.out.alloc _).alloc _).alloc _ | exact HS.out.drewN _ | exact HS.out.setCell (by simp; omega) _ | exact (HS.out.alloc _).setCell (by simp; omega) _ | exact (HS.out.setCell (by simp; omega) _).alloc _ | exact (HS.out.setCell (by simp; omega) _).drewN _ | exact (HS.out.alloc _).drewN _) (by omega) (by omega) (by omega)).mono ?_
          rintro e w9 ⟨v9, rfl, ⟨f9, rfl⟩, hs9, hg9⟩
          replace HGA := Lib.hid (HGA.out.low hg9 (fun g e => by injection e with e; omega))
          have z9 := hg9.size; try simp at z9
          replace HG := Lib.hid (gr_same (a := w) (by repeat (first | exact HG.out | refine gr_alloc ?_ _ | refine gr_drew ?_ | refine gr_drewN ?_ _ | refine gr_setCell ?_ (.inr (by simp; omega)) _)) hg9); clear hg9
          replace HS := Lib.hid hs9; clear hs9
          cases f9
          · go_wp2_with fail
            go_ret
            exact ⟨_, rfl, ⟨_, _, _, _, rfl, HGA.out.ses, hn⟩, HS.out.mono (by omega), HG.out⟩
          · have HNP := Lib.hid hp
            have hl1 : (1 : Int) ≤ (n : Int) := by omega
            have hdp : decide ((0 : Int) < (n : Int)) = true := decide_eq_true (by omega)
            by_cases hc1 : c = 1
            · go_wp2_with fail
              go_ret
              exact ⟨_, rfl, ⟨_, _, _, _, rfl, GSe.tail1 HGA.out HNP.out hc1, by omega⟩, HS.out.mono (by omega), HG.out⟩
            · go_wp2_with fail
              go_ret
              exact ⟨_, rfl, ⟨_, _, _, _, rfl, GSe.tail HGA.out HNP.out, by omega⟩, HS.out.mono (by omega), HG.out⟩
    · have hp' : decide ((0 : Int) < (n : Int)) = false := decide_eq_false (by omega)
      have hp2 : decide (0 < n) = false := decide_eq_false hp
      go_wp2_with fail
      refine (flip_any sb _ 30 _ (by first | exact HS.out | exact HS.out.alloc _ | exact (HS.out.alloc _).alloc _ | exact ((HS.out.alloc _).alloc _).alloc _ | exact HS.out.drewN _ | exact HS.out.setCell (by simp; omega) _ | exact (HS.out.alloc _).setCell (by simp; omega) _ | exact (HS.out.setCell (by simp; omega) _).alloc _ | exact (HS.out.setCell (by simp; omega) _).drewN _ | exact (HS.out.alloc _).drewN _) (by omega) (by omega) (by omega)).mono ?_
      rintro e w9 ⟨v9, rfl, ⟨f9, rfl⟩, hs9, hg9⟩
      replace HGA := Lib.hid (HGA.out.low hg9 (fun g e => by injection e with e; omega))
      have z9 := hg9.size; try simp at z9
      replace HG := Lib.hid (gr_same (a := w) (by repeat (first | exact HG.out | refine gr_alloc ?_ _ | refine gr_drew ?_ | refine gr_drewN ?_ _ | refine gr_setCell ?_ (.inr (by simp; omega)) _)) hg9); clear hg9
      replace HS := Lib.hid hs9; clear hs9
      cases f9
      · go_wp2_with fail
        go_ret
        exact ⟨_, rfl, ⟨_, _, _, _, rfl, HGA.out.ses, hn⟩, HS.out.mono (by omega), HG.out⟩
      · have hdp : decide ((0 : Int) < (n : Int)) = false := decide_eq_false (by omega)
        have hdp2 : decide (0 < n) = false := decide_eq_false (by omega)
        go_wp2_with fail
        go_ret
        exact ⟨_, rfl, ⟨_, _, _, _, rfl, HGA.out.ses, hn⟩, HS.out.mono (by omega), HG.out⟩
  · have dz : (E == 0) = false := by simpa using hz
    clear hz
    obtain ⟨n, hnq⟩ : ∃ n : Nat, n = 0 := ⟨0, rfl⟩
    have HGA := Lib.hid (show GSe w1 w.heap.size none 0 0 [] from ⟨OwnR.nil _ _ _, fun z hz => by cases hz⟩)
    clear hnq
    have hn : (0 : Nat) ≤ 19 := by omega
    go_wp2_with fail
    refine (flip_any sb _ 30 _ (by first | exact HS.out | exact HS.out.alloc _ | exact (HS.out.alloc _).alloc _ | exact ((HS.out.alloc _).alloc _).alloc _ | exact HS.out.drewN _ | exact HS.out.setCell (by simp; omega) _ | exact (HS.out.alloc _).setCell (by simp; omega) _ | exact (HS.out.setCell (by simp; omega) _).alloc _ | exact (HS.out.setCell (by simp; omega) _).drewN _ | exact (HS.out.alloc _).drewN _) (by omega) (by omega) (by omega)).mono ?_
    rintro e w9 ⟨v9, rfl, ⟨f9, rfl⟩, hs9, hg9⟩
    replace HGA := Lib.hid (HGA.out.low hg9 (fun g e => by injection e with e; omega))
    have z9 := hg9.size; try simp at z9
    replace HG := Lib.hid (gr_same (a := w) (by repeat (first | exact HG.out | refine gr_alloc ?_ _ | refine gr_drew ?_ | refine gr_drewN ?_ _ | refine gr_setCell ?_ (.inr (by simp; omega)) _)) hg9); clear hg9
    replace HS := Lib.hid hs9; clear hs9
    cases f9
    · go_wp2_with fail
      go_ret
      exact ⟨_, rfl, ⟨_, _, _, _, rfl, HGA.out.ses, hn⟩, HS.out.mono (by omega), HG.out⟩
    · have hdp : decide ((0 : Int) < ((0 : Nat) : Int)) = false := decide_eq_false (by omega)
      have hdp2 : decide (0 < 0) = false := by decide
      go_wp2_with fail
      go_ret
      exact ⟨_, rfl, ⟨_, _, _, _, rfl, HGA.out.ses, hn⟩, HS.out.mono (by omega), HG.out⟩
end
end Go.Proofs.YtemfbdmaljddnaaGreatDoor
/- Contract of the document's BusyOf. Conditions: an agent and seats as they lie in memory, both right. -/
namespace Go.Proofs.YtemfbdmaljddnaaGreatDoor
section
open Go.RowKit

def busyD (a : AgV) (l : List SeV) : Value := if longW (preW a) = 0 then .tuple #[.agg #[.int .i64 0, .int .i64 0], .bool false] else .tuple #[.agg #[.int .i64 (lowV (busyI a l) (longW (preW a))).1, .int .i64 (lowV (busyI a l) (longW (preW a))).2], .bool true]
theorem ag_time {w : World} {b : Nat} {t : TypeId} {a : AgV} (h : Blk w b t #[.string a.key, .slice a.sA a.sn a.sc, .int .i64 a.fr, .int .i64 a.til, .slice a.pA a.pn a.pc, .int .i64 a.wrap]) : ∀ (j : Nat) (u : Value), [Value.int .i64 a.fr, .int .i64 a.til][j]? = some u → w.cell? ⟨b, 2 + j, none⟩ = some u := by
  intro j u hu
  rcases j with _ | _ | j
  · injection hu with hu; subst hu; exact h.cell 2
  · injection hu with hu; subst hu; exact h.cell 3
  · simp at hu
theorem SeatsR.take {l : List SeV} (h : SeatsR l) (k : Nat) : SeatsR (l.take k) := ⟨fun s hs => h.tk s (List.mem_of_mem_take hs), fun s hs => h.no s (List.mem_of_mem_take hs)⟩
set_option maxHeartbeats 16000000 in
set_option maxRecDepth 100000 in
theorem busyOf_any (lo lo2 : Nat) (a : AgV) (A : Option Addr) (m c0 : Nat) (l : List SeV) (w : World) (hA : AgOk w lo a) (hS : Ses w lo2 A m c0 l) (hm : m ≤ 1000000000) (ha : AgR a) (hl : SeatsR l) :
    Calls Tryz.prog 23 #[.agg #[.string a.key, .slice a.sA a.sn a.sc, .int .i64 a.fr, .int .i64 a.til, .slice a.pA a.pn a.pc, .int .i64 a.wrap], .slice A m c0] w (RetV (busyD a l) w) := by
  obtain ⟨w1, hw1⟩ : ∃ w1, w.alloc (.cells #[.string a.key, .slice a.sA a.sn a.sc, .int .i64 a.fr, .int .i64 a.til, .slice a.pA a.pn a.pc, .int .i64 a.wrap] 50) = w1 := ⟨_, rfl⟩
  obtain ⟨w2, hw2⟩ : ∃ w2, w1.alloc (.cells #[.int .i64 0, .int .i64 0] 52) = w2 := ⟨_, rfl⟩
  have hz1 : w1.heap.size = w.heap.size + 1 := by rw [← hw1]; simp
  have HA := Lib.hid (show Blk w2 w.heap.size 50 #[.string a.key, .slice a.sA a.sn a.sc, .int .i64 a.fr, .int .i64 a.til, .slice a.pA a.pn a.pc, .int .i64 a.wrap] by rw [← hw2, ← hw1]; exact (Blk.new _ _ _).alloc _)
  have HR := Lib.hid (show Blk w2 (w.heap.size + 1) 52 #[.int .i64 0, .int .i64 0] by rw [← hw2, ← hz1]; exact Blk.new _ _ _)
  have HG := Lib.hid (show w.grownBy w2 none by rw [← hw2, ← hw1]; exact gr_alloc (gr_alloc (gr_refl _ _) _) _)
  have HW1 := Lib.hid hw1; have HW2 := Lib.hid hw2; have HZ1 := Lib.hid hz1
  have H := Lib.hid hA; have HS := Lib.hid hS; have HAR := Lib.hid ha; have HSR := Lib.hid hl
  have hls := hS.1.len; have hpl := hA.2.2.len
  have HTA := Lib.hid (ag_time HA.out)
  clear hw1 hw2 hz1 hA hS ha hl
  obtain ⟨w3, hw3⟩ : ∃ w3, w2.alloc (.cells #[.int .i64 a.fr, .int .i64 a.til] 34) = w3 := ⟨_, rfl⟩
  obtain ⟨tb, htb⟩ : ∃ tb, w2.heap.size = tb := ⟨_, rfl⟩
  have HT := Lib.hid (show Blk w3 tb 34 #[.int .i64 a.fr, .int .i64 a.til] by rw [← hw3, ← htb]; exact Blk.new _ _ _)
  have hg3 : w2.grownBy w3 none := by rw [← hw3]; exact gr_alloc (gr_refl _ _) _
  have HW3 := Lib.hid hw3; have HTB := Lib.hid htb
  clear hw3 htb
  go_enter Tryz.func23, Tryz.ntmps23
  go_upto_region 1 with (fail)
  rw [HW1.out, HW2.out]
  (try rw [HZ1.out])
  clear HW1 HW2 HZ1
  go_upto_region 2 with (first
    | (refine wpl_load_at Tryz.winT rfl _ rfl _ rfl [.int .i64 a.fr, .int .i64 a.til] rfl (fun j u hu => by rw [add_mk]; exact HTA.out j u hu) ?_)
    | fail)
  rw [HW3.out]
  (try rw [HTB.out])
  clear HW3 HTB HTA
  replace HR := Lib.hid (HR.out.grown hg3 (by simp)); replace HA := Lib.hid (HA.out.grown hg3 (by simp)); replace HG := Lib.hid (gr_none HG.out hg3)
  clear hg3
  have k4 := HA.out.cell 4
  have HP0 := Lib.hid (show Recs pwRow 2 w3 0 (some ⟨tb, 0, none⟩) 1 1 (leftW [(a.fr, a.til)] (a.ps.take 0)) from ⟨(Reads.blk HT.out 2 1 rfl).lower (Nat.zero_le _), rfl⟩)
  have hpp : ∀ p ∈ a.ps, p.1 ≤ p.2 := fun p hq => by have := HAR.out.ps.w p hq; omega
  have HWO := Lib.hid (show ∀ k, WinOk 345686400000 (leftW [(a.fr, a.til)] (a.ps.take k)) from fun k => leftW_ok (fun p hp => hpp p (List.mem_of_mem_take hp)) (winOk_one (t := (a.fr, a.til)) HAR.out.tm.1 HAR.out.tm.2.1 HAR.out.tm.2.2))
  have hpn := HAR.out.pn
  clear hpp HT
  go_wp2_with fail
  obtain ⟨pA, hpA⟩ : ∃ v, a.pA = v := ⟨_, rfl⟩
  rw [hpA]
  have HPA := Lib.hid hpA
  clear hpA
  go_loopw [6, 8, 19] (fun v6 _ t' wr => ∃ (k n cB : Nat) (B : Option Addr), v6 = .slice B n cB ∧ t' = .int .i64 k ∧ k ≤ a.pn ∧ Recs pwRow 2 wr 0 B n cB (leftW [(a.fr, a.til)] (a.ps.take k)) ∧ w.grownBy wr none ∧ Blk wr w.heap.size 50 #[.string a.key, .slice a.sA a.sn a.sc, .int .i64 a.fr, .int .i64 a.til, .slice a.pA a.pn a.pc, .int .i64 a.wrap] ∧ Blk wr (w.heap.size + 1) 52 #[.int .i64 0, .int .i64 0]) (fun _ _ t' _ => a.pn - (intOf t').toNat)
  case atStart => exact ⟨0, 1, 1, _, rfl, rfl, Nat.zero_le _, HP0.out, HG.out, HA.out, HR.out⟩
  case round =>
    clear HG HA HR k4 HP0
    obtain ⟨k, n, cB, B, rfl, rfl, hk, hown, hg, ha, hr⟩ := hrel
    have HO := Lib.hid hown; have HG := Lib.hid hg; have HA := Lib.hid ha; have HR := Lib.hid hr
    have zr := hr.lt
    clear hown hg ha hr
    by_cases hlt : k < a.pn
    · obtain ⟨pg, po, p, hpe, _, _, hp2, hpc⟩ := (H.out.2.2.grown HG.out (fun g e => by cases e)).get pwRow_len hlt
      have hlt2 : (k : Int) < (a.pn : Int) := by omega
      have HPC := Lib.hid hpc
      have HLS := Lib.hid (show leftW [(a.fr, a.til)] (a.ps.take (k + 1)) = lessW (leftW [(a.fr, a.til)] (a.ps.take k)) p by rw [take_snoc hp2, leftW_snoc])
      have hn : n ≤ 1000000000000 := by
        have h1 := (HWO.out k).len
        have h2 := HO.out.len
        omega
      clear hp2 hpc
      obtain rfl : pA = some ⟨pg, po, none⟩ := HPA.out.symm.trans hpe
      clear hpe
      obtain ⟨wa, hwa⟩ : ∃ wa, wr.alloc (.cells #[.int .i64 p.1, .int .i64 p.2] 34) = wa := ⟨_, rfl⟩
      obtain ⟨zb, hzb⟩ : ∃ zb, wr.heap.size = zb := ⟨_, rfl⟩
      have HB := Lib.hid (show Blk wa zb 34 #[.int .i64 p.1, .int .i64 p.2] by rw [← hwa, ← hzb]; exact Blk.new _ _ _)
      have HGa := Lib.hid (show wr.grownBy wa none by rw [← hwa]; exact gr_alloc (gr_refl _ _) _)
      have HWA := Lib.hid hwa; have HZB := Lib.hid hzb
      clear hwa hzb
      go_upto_region 5 with (first
        | (refine wpl_load_at Tryz.winT rfl _ rfl _ rfl [.int .i64 p.1, .int .i64 p.2] rfl (fun j u hu => by rw [add_mk]; exact HPC.out j u hu) ?_)
        | fail)
      rw [HWA.out]
      (try rw [HZB.out])
      replace HO := Lib.hid (HO.out.grown HGa.out (fun g e => by cases e))
      replace HR := Lib.hid (HR.out.grown HGa.out (by simp)); replace HA := Lib.hid (HA.out.grown HGa.out (by simp)); replace HG := Lib.hid (gr_none HG.out HGa.out)
      clear HWA HZB HPC HGa
      go_wp2_with (first
        | (refine wpl_load_all Tryz.winT rfl _ rfl _ rfl _ _ HB.out rfl ?_)
        | fail)
      refine (less_any 0 B n cB _ p _ HO.out hn).mono ?_
      rintro e w6 ⟨B6, n6, c6, rfl, hown, hg6⟩
      replace HO := Lib.hid (show Recs pwRow 2 w6 0 B6 n6 c6 (leftW [(a.fr, a.til)] (a.ps.take (k + 1))) by rw [HLS.out]; exact hown.recs.lower (Nat.zero_le _))
      replace HR := Lib.hid (HR.out.grown hg6 (by simp)); replace HA := Lib.hid (HA.out.grown hg6 (by simp)); replace HG := Lib.hid (gr_none HG.out hg6)
      clear hown hg6 HB
      go_wp2_with fail
      go_roundw
      case rel => exact ⟨k + 1, n6, c6, B6, rfl, by go_num, by omega, HO.out, HG.out, HA.out, HR.out⟩
      case measure => simp [intOf]; omega
    · obtain rfl : k = a.pn := by omega
      have HPW := Lib.hid (show leftW [(a.fr, a.til)] (a.ps.take a.pn) = preW a by unfold preW; rw [← hpl, List.take_length])
      replace HO := Lib.hid (show Recs pwRow 2 wr 0 B n cB (preW a) by rw [← HPW.out]; exact HO.out)
      have HW1 := Lib.hid (show WinOk 345686400000 (preW a) by rw [← HPW.out]; exact HWO.out _)
      have HWI := Lib.hid (show ∀ k, WinOk 345686400000 (leftW (preW a) (wkD a (l.take k))) from fun k => leftW_ok (wkD_ok HAR.out (HSR.out.take k)) HW1.out)
      have HBS := Lib.hid (busy_same HAR.out HSR.out)
      clear HPW HWO
      obtain ⟨S, hSS⟩ : ∃ S, longW (preW a) = S := ⟨_, rfl⟩
      have HS0 := Lib.hid hSS
      have HV0 := Lib.hid (show busyD a l = if longW (preW a) = 0 then .tuple #[.agg #[.int .i64 0, .int .i64 0], .bool false] else .tuple #[.agg #[.int .i64 (lowV (busyI a l) (longW (preW a))).1, .int .i64 (lowV (busyI a l) (longW (preW a))).2], .bool true] from rfl)
      clear hSS
      go_wp2_with fail
      refine (long_any 0 B n cB (preW a) _ HO.out HW1.out).mono ?_
      rintro e w5 ⟨rfl, hg5⟩
      rw [HS0.out]
      replace HO := Lib.hid (HO.out.grown hg5 (fun g e => by cases e))
      replace HR := Lib.hid (HR.out.grown hg5 (by simp)); replace HA := Lib.hid (HA.out.grown hg5 (by simp)); replace HG := Lib.hid (gr_none HG.out hg5)
      clear hg5
      go_wp2_with fail
      go_loopw [10, 12, 32] (fun v10 _ t' wr => ∃ (k n cB : Nat) (B : Option Addr), v10 = .slice B n cB ∧ t' = .int .i64 k ∧ k ≤ m ∧ Recs pwRow 2 wr 0 B n cB (leftW (preW a) (wkD a (l.take k))) ∧ w.grownBy wr none ∧ Blk wr w.heap.size 50 #[.string a.key, .slice a.sA a.sn a.sc, .int .i64 a.fr, .int .i64 a.til, .slice a.pA a.pn a.pc, .int .i64 a.wrap] ∧ Blk wr (w.heap.size + 1) 52 #[.int .i64 0, .int .i64 0]) (fun _ _ t' _ => m - (intOf t').toNat)
      case atStart => exact ⟨0, n, cB, B, rfl, rfl, Nat.zero_le _, HO.out, HG.out, HA.out, HR.out⟩
      case round =>
        clear HG HA HR HO
        obtain ⟨wo, rfl⟩ : ∃ wo : World, wo = wr := ⟨_, rfl⟩
        obtain ⟨k, n, cB, B, rfl, rfl, hk, hown, hg, ha, hr⟩ := hrel
        have HO := Lib.hid hown; have HG := Lib.hid hg; have HA := Lib.hid ha; have HR := Lib.hid hr
        have zo := hr.lt
        clear hown hg ha hr
        by_cases hlt : k < m
        · obtain ⟨sg, sof, z, rfl, _, _, hz2, hzc⟩ := (HS.out.1.grown HG.out (fun g e => by cases e)).get SeV.row_len hlt
          have hlt2 : (k : Int) < (m : Int) := by omega
          have HZC := Lib.hid hzc
          have HWK := Lib.hid (show wkD a (l.take (k + 1)) = wkD a (l.take k) ++ if ofA a.key z then [(z.beg, z.fin + a.wrap)] else [] by rw [take_snoc hz2, wkD_snoc])
          have HTK := Lib.hid (HSR.out.tk z (mem_of_get hz2))
          have HNO := Lib.hid (HSR.out.no z (mem_of_get hz2))
          have hn : n ≤ 1000000000000 := by
            have h1 := (HWI.out k).len
            have h2 := HO.out.len
            omega
          obtain ⟨wa, hwa⟩ : ∃ wa, wo.alloc (.cells #[.string z.ca, .string z.ag, .int .i64 z.how, .int .i64 z.beg, .int .i64 z.fin] 68) = wa := ⟨_, rfl⟩
          obtain ⟨zb, hzb⟩ : ∃ zb, wo.heap.size = zb := ⟨_, rfl⟩
          have HB := Lib.hid (show Blk wa zb 68 #[.string z.ca, .string z.ag, .int .i64 z.how, .int .i64 z.beg, .int .i64 z.fin] by rw [← hwa, ← hzb]; exact Blk.new _ _ _)
          have HGa := Lib.hid (show wo.grownBy wa none by rw [← hwa]; exact gr_alloc (gr_refl _ _) _)
          have HWA := Lib.hid hwa; have HZB := Lib.hid hzb
          clear hwa hzb hz2 hzc
          go_upto_region 12 with (first
            | (refine wpl_load_at Tryz.seT rfl _ rfl _ rfl [.string z.ca, .string z.ag, .int .i64 z.how, .int .i64 z.beg, .int .i64 z.fin] rfl (fun j u hu => by rw [add_mk]; exact HZC.out j u hu) ?_)
            | fail)
          rw [HWA.out]
          (try rw [HZB.out])
          replace HO := Lib.hid (HO.out.grown HGa.out (fun g e => by cases e))
          replace HR := Lib.hid (HR.out.grown HGa.out (by simp)); replace HA := Lib.hid (HA.out.grown HGa.out (by simp)); replace HG := Lib.hid (gr_none HG.out HGa.out)
          clear HWA HZB HZC HGa
          have k1 := HB.out.cell 1
          have ka := HA.out.cell 0
          obtain ⟨U, hU⟩ : ∃ U, (z.ag.toList == a.key.toList) = U := ⟨_, rfl⟩
          have HU := Lib.hid (show ofA a.key z = U by rw [← hU]; unfold ofA; rw [eqS_nb]; by_cases h : nb z.ag = nb a.key <;> simp [h])
          cases U
          · have HN := Lib.hid (show wkD a (l.take (k + 1)) = wkD a (l.take k) by rw [HWK.out, HU.out]; simp)
            go_wp2_with fail
            go_roundw
            case rel => exact ⟨k + 1, n, cB, B, rfl, by go_num, by omega, by rw [HN.out]; exact HO.out, HG.out, HA.out, HR.out⟩
            case measure => simp [intOf]; omega
          · have HN := Lib.hid (show leftW (preW a) (wkD a (l.take (k + 1))) = lessW (leftW (preW a) (wkD a (l.take k))) (z.beg, z.fin + a.wrap) by rw [HWK.out, HU.out, if_pos rfl, leftW_snoc])
            have ht : tkB z = true := by
              cases ht : tkB z with
              | true => rfl
              | false => exact absurd ((of_decide_eq_true HU.out).symm.trans (HNO.out ht)) (keyOk_ne HAR.out.key)
            obtain ⟨t1, t2, t3, t4⟩ := HTK.out ht
            obtain ⟨r1, r2⟩ := HAR.out.wr
            have q1 : IntKind.i64.wrap (z.fin + a.wrap) = z.fin + a.wrap := IntWalk.i64_in _ (by omega)
            have k3 := HB.out.cell 3
            have k4 := HB.out.cell 4
            have ka5 := HA.out.cell 5
            clear ht
            go_wp2_with fail
            refine (less_any 0 B n cB _ (z.beg, z.fin + a.wrap) _ HO.out hn).mono ?_
            rintro e w6 ⟨B6, n6, c6, rfl, hown, hg6⟩
            replace HO := Lib.hid (show Recs pwRow 2 w6 0 B6 n6 c6 (leftW (preW a) (wkD a (l.take (k + 1)))) by rw [HN.out]; exact hown.recs.lower (Nat.zero_le _))
            clear k1 ka k3 k4 ka5
            replace HR := Lib.hid (HR.out.grown hg6 (by simp)); replace HA := Lib.hid (HA.out.grown hg6 (by simp)); replace HG := Lib.hid (gr_none HG.out hg6)
            clear hown hg6 HB
            go_wp2_with fail
            go_roundw
            case rel => exact ⟨k + 1, n6, c6, B6, rfl, by go_num, by omega, HO.out, HG.out, HA.out, HR.out⟩
            case measure => simp [intOf]; omega
        · obtain rfl : k = m := by omega
          have HIW := Lib.hid (show leftW (preW a) (wkD a (l.take k)) = idlW a l by unfold idlW; rw [← hls, List.take_length])
          replace HO := Lib.hid (show Recs pwRow 2 wo 0 B n cB (idlW a l) by rw [← HIW.out]; exact HO.out)
          have HW2 := Lib.hid (show WinOk 345686400000 (idlW a l) by rw [← HIW.out]; exact HWI.out _)
          clear HWI HIW
          obtain ⟨b1, b2, b3, b4, b5, b6⟩ := HBS.out
          rw [HS0.out] at HV0 b1 b4 b5
          clear b1 b2 HBS
          by_cases hb0 : S = 0
          · have HV := Lib.hid (show busyD a l = .tuple #[.agg #[.int .i64 0, .int .i64 0], .bool false] by rw [HV0.out, if_pos hb0])
            have db : (S == 0) = true := by simpa using hb0
            clear hb0
            go_wp2_with (first
              | (refine wpl_store_all Tryz.frT rfl _ _ rfl _ rfl _ _ _ rfl HR.out rfl rfl (by simp [Value.oneCell']) ?_
                 intro wz hst
                 have HST := Lib.hid hst; clear hst)
              | fail)
            refine ret_cell_tmp Tryz.frT rfl (w.heap.size + 1) 52 #[.int .i64 0, .int .i64 0] _ rfl rfl HST.out.1 rfl rfl ?_
            exact ⟨by rw [HV.out]; try rfl, gr_trans HG.out HST.out.2.1 (fun g e => .inr (by injection e with e; omega))⟩
          · obtain ⟨I, hI⟩ : ∃ I, longW (idlW a l) = I := ⟨_, rfl⟩
            have HI := Lib.hid hI
            have HBI := Lib.hid (show busyI a l = S - I by unfold busyI; rw [hI, HS0.out])
            rw [HBI.out] at HV0 b3 b6
            clear hI HBI
            have q1 : IntKind.i64.wrap (S - I) = S - I := IntWalk.i64_in _ (by omega)
            obtain ⟨D, hD⟩ : ∃ D, S - I = D := ⟨_, rfl⟩
            rw [hD] at HV0 b3 b6
            obtain ⟨P, rfl⟩ : ∃ P : Nat, D = P := ⟨D.toNat, by omega⟩
            obtain ⟨Q, rfl⟩ : ∃ Q : Nat, S = Q := ⟨S.toNat, by omega⟩
            have HV := Lib.hid (show busyD a l = .tuple #[.agg #[.int .i64 (lowV P Q).1, .int .i64 (lowV P Q).2], .bool true] by rw [HV0.out, if_neg hb0])
            have db : ((Q : Int) == 0) = false := by simpa using hb0
            rw [hD] at q1
            have HDD := Lib.hid hD
            clear hD
            go_wp2_with fail
            refine (long_any 0 B n cB (idlW a l) _ HO.out HW2.out).mono ?_
            rintro e w8 ⟨rfl, hg8⟩
            rw [HI.out]
            replace HR := Lib.hid (HR.out.grown hg8 (by simp)); replace HA := Lib.hid (HA.out.grown hg8 (by simp)); replace HG := Lib.hid (gr_none HG.out hg8)
            clear hg8
            have HDE := HDD.out
            go_wp2_with fail
            refine (lowest_any P Q (by omega) (by omega) (by omega) _).mono ?_
            rintro e w9 ⟨rfl, hg9⟩
            obtain ⟨X, hX⟩ : ∃ X, (lowV P Q).1 = X := ⟨_, rfl⟩
            obtain ⟨Y, hY⟩ : ∃ Y, (lowV P Q).2 = Y := ⟨_, rfl⟩
            rw [hX, hY] at HV ⊢
            clear hX hY
            replace HR := Lib.hid (HR.out.grown hg9 (by simp)); replace HA := Lib.hid (HA.out.grown hg9 (by simp)); replace HG := Lib.hid (gr_none HG.out hg9)
            clear hg9
            go_wp2_with (first
              | (refine wpl_store_all Tryz.frT rfl _ _ rfl _ rfl _ _ _ rfl HR.out rfl rfl (by simp [Value.oneCell']) ?_
                 intro wz hst
                 have HST := Lib.hid hst; clear hst)
              | fail)
            refine ret_cell_tmp Tryz.frT rfl (w.heap.size + 1) 52 #[.int .i64 X, .int .i64 Y] _ rfl rfl HST.out.1 rfl rfl ?_
            exact ⟨by rw [HV.out]; try rfl, gr_trans HG.out HST.out.2.1 (fun g e => .inr (by injection e with e; omega))⟩
end
end Go.Proofs.YtemfbdmaljddnaaGreatDoor

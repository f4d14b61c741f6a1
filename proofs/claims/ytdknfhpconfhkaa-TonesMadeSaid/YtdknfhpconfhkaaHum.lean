/- Contracts of hum, the program's and the document's. Conditions: none. -/
import Derived.Test.YtdknfhpconfhkaaMix2
import Derived.Test.YtdknfhpconfhkaaSetI
import Derived.Deep.RegionLaw
import Derived.Deep.RegionHeld3
import Derived.BigRegion
namespace Go.Proofs.Ytdknfhpconfhkaa
open Go.RowKit

/-- The samples of a number. -/
def humF (c : Int) : Nat → Int
  | 0 => 0
  | 1 => c / 8
  | i + 2 => wrap64 (wrap64 (c * humF c (i + 1)) / 16384 - humF c i)
theorem humF_two {c : Int} {i : Nat} {x y : Int} (h : 2 ≤ i) (hx : humF c (i - 1) = x) (hy : humF c (i - 2) = y) : humF c i = wrap64 (wrap64 (c * x) / 16384 - y) := by
  obtain ⟨k, rfl⟩ : ∃ k, i = k + 2 := ⟨i - 2, by omega⟩
  rw [humF, ← hx, ← hy]; rfl
theorem wrapE (n : Int) : IntKind.i64.wrap n = wrap64 n := by rw [IntKind.wrap_i64]; unfold wrap64; omega
theorem wrap_bd (n : Int) : -9223372036854775808 ≤ IntKind.i64.wrap n ∧ IntKind.i64.wrap n ≤ 9223372036854775807 := by rw [IntKind.wrap_i64]; omega
def fillF (f : Nat → Int) (k j : Nat) : Int := if j < k then f j else 0
theorem fill_next {f : Nat → Int} {q : Nat} {v : Int} {m : Nat} (hv : f q = v) (j : Nat) (_ : j < m) : (if j = q then v else fillF f q j) = fillF f (q + 1) j := by
  unfold fillF
  by_cases hjq : j = q
  · subst hjq; rw [if_pos rfl, if_pos (by omega), hv]
  · rw [if_neg hjq]
    by_cases hj2 : j < q
    · rw [if_pos hj2, if_pos (by omega)]
    · rw [if_neg hj2, if_neg (by omega)]
theorem fill_skip {f : Nat → Int} {q m : Nat} (hv : f q = 0) (j : Nat) (_ : j < m) : fillF f q j = fillF f (q + 1) j := by
  unfold fillF
  by_cases hjq : j = q
  · subst hjq; rw [if_neg (by omega), if_pos (by omega), hv]
  · by_cases hj2 : j < q
    · rw [if_pos hj2, if_pos (by omega)]
    · rw [if_neg hj2, if_neg (by omega)]
theorem TabOwn.drew {w wr : World} {A : Option Addr} {q c : Nat} {f : Nat → Int} (h : TabOwn w A q c f wr) : TabOwn w A q c f wr.drew := ⟨gr_drew h.1, h.2.drew⟩
theorem TabOwn.append' {w wr wx wr' : World} {A : Option Addr} {q c : Nat} {f : Nat → Int} {v : Int} (h : TabOwn w A q c f wr) (hg : wr.grownBy wx none) (hv : f q = v) {A1 : Option Addr} {c1 : Nat} (h1 : Appended wx w.heap.size 3 1 A A1 (q + 1) c1 ((tab q f).map (Value.int .i64) ++ [.int .i64 v]) wr') : TabOwn w A1 (q + 1) c1 f wr' := by
  refine ⟨h1.gr (gr_none h.1 hg) (h.2.kept hg (fun _ e => by cases e)) (Nat.le_refl _), ?_⟩
  rw [tab_succ, List.map_append, hv]
  exact h1.1
def IsOwnI (lo : Nat) (l : List Int) (v : Value) (w : World) : Prop := ∃ (A : Option Addr) (n c : Nat), v = .slice A n c ∧ OwnI w lo A n c l

set_option maxRecDepth 100000 in
set_option maxHeartbeats 8000000 in
theorem hum_any (c : Int) (N : Nat) (w : World) (c0 : 0 ≤ c) (c1 : c ≤ 100000) (hN : N ≤ 20000) :
    Calls Try.prog 84 #[.int .i64 c, .int .i64 N] w (RetP (IsOwnI w.heap.size (tab N (humF c))) w) := by
  have hmk := run_make1 Try.intT N rfl (by omega) (by omega)
  go_enter Try.func84, Try.ntmps84
  go_wp2_with fail
  clear hmk
  go_loopw [6, 11] (fun _ t wr => ∃ i : Nat, i ≤ N ∧ t = .int .i64 i ∧ TabOwn w (some ⟨w.heap.size, 0, none⟩) N N (fillF (humF c) i) wr) (fun _ t _ => N - (intOf t).toNat)
  case atStart => exact ⟨0, Nat.zero_le _, rfl, (TabOwn.made w N (by unfold maxLen; omega)).congr (fun j _ => by simp [fillF])⟩
  case round =>
    obtain ⟨i, hi, rfl, hT⟩ := hrel
    have HT := Lib.hid hT; clear hT
    by_cases hlt : i < N
    · obtain ⟨b, hbb, _, _, hcb, hfb⟩ := HT.out.get hlt
      injection hbb with hbb
      injection hbb with hbb
      subst hbb
      have j0 : (0 : Int) ≤ (i : Int) := by omega
      have j1 : (i : Int) < (N : Int) := by omega
      by_cases h0 : i = 0
      · have hb0 : ((i : Int) == 0) = true := by rw [beq_iff_eq]; omega
        have H0 := Lib.hid h0; clear h0
        go_wp2_with fail
        go_roundw
        case rel => exact ⟨i + 1, by omega, by go_num, HT.out.congr (fill_skip (by rw [H0.out]; rfl))⟩
        case measure => simp [intOf]; omega
      · have hb0 : ((i : Int) == 0) = false := by rw [beq_eq_false_iff_ne]; omega
        by_cases h1 : i = 1
        · have hb1 : ((i : Int) == 1) = true := by rw [beq_iff_eq]; omega
          have H1 := Lib.hid h1; clear h1 h0
          go_wp2_with fail
          go_roundw
          case rel => exact ⟨i + 1, by omega, by go_num, (HT.out.set (Nat.le_refl _) i (c / 8)).congr (fill_next (by rw [H1.out]; rfl))⟩
          case measure => simp [intOf]; omega
        · have hb1 : ((i : Int) == 1) = false := by rw [beq_eq_false_iff_ne]; omega
          have h2 : 2 ≤ i := by omega
          obtain ⟨b1, hbb1, _, _, hcx, _⟩ := HT.out.get (show i - 1 < N by omega)
          obtain ⟨b2, hbb2, _, _, hcy, _⟩ := HT.out.get (show i - 2 < N by omega)
          injection hbb1 with hbb1
          injection hbb1 with hbb1
          subst hbb1
          injection hbb2 with hbb2
          injection hbb2 with hbb2
          subst hbb2
          rw [show fillF (humF c) i (i - 1) = humF c (i - 1) from by unfold fillF; rw [if_pos (by omega)]] at hcx
          rw [show fillF (humF c) i (i - 2) = humF c (i - 2) from by unfold fillF; rw [if_pos (by omega)]] at hcy
          obtain ⟨x, hx⟩ : ∃ x, humF c (i - 1) = x := ⟨_, rfl⟩
          obtain ⟨y, hy⟩ : ∃ y, humF c (i - 2) = y := ⟨_, rfl⟩
          rw [hx] at hcx
          rw [hy] at hcy
          have HV := Lib.hid (humF_two h2 hx hy)
          clear hx hy h0 h1
          have s2 : (0 : Int) ≤ (i : Int) - 1 := by omega
          have s3 : (i : Int) - 1 < (N : Int) := by omega
          have s5 : (1 : Int) ≤ (i : Int) := by omega
          have s6 : (0 : Int) ≤ (i : Int) - 2 := by omega
          have s7 : (i : Int) - 2 < (N : Int) := by omega
          have s8 : (2 : Int) ≤ (i : Int) := by omega
          have s1 : IntKind.i64.wrap ((i : Int) - 1) = (i : Int) - 1 := IntWalk.i64_in _ (by omega)
          have s4 : ((i : Int) - 1).toNat = i - 1 := by omega
          have s9 : IntKind.i64.wrap ((i : Int) - 2) = (i : Int) - 2 := IntWalk.i64_in _ (by omega)
          have s10 : ((i : Int) - 2).toNat = i - 2 := by omega
          go_wp2_with fail
          go_region
          clear s1 s4 s9 s10
          go_wp2_with fail
          go_roundw
          case rel => exact ⟨i + 1, by omega, by go_num, ((HT.out.set (Nat.le_refl _) i _).congr (fill_next HV.out)).drew⟩
          case measure => simp [intOf]; omega
    · obtain rfl : i = N := by omega
      go_wp2_with fail
      go_ret
      refine ⟨_, rfl, ⟨_, _, _, rfl, ?_⟩, HT.out.1⟩
      have h := HT.out.congr (g := humF c) (fun j hj => by unfold fillF; rw [if_pos hj])
      exact h.2

set_option maxRecDepth 100000 in
set_option maxHeartbeats 8000000 in
theorem qhum_any (c : Int) (N : Nat) (w : World) (c0 : 0 ≤ c) (c1 : c ≤ 100000) (hN : N ≤ 20000) :
    Calls Try.prog 88 #[.int .i64 c, .int .i64 N] w (RetP (IsOwnI w.heap.size (tab N (humF c))) w) := by
  go_enter Try.func88, Try.ntmps88
  go_wp2_with fail
  go_loopw [5, 6, 8] (fun v _ t wr => ∃ (i : Nat) (A : Option Addr) (c' : Nat), i ≤ N ∧ t = .int .i64 i ∧ v = .slice A i c' ∧ TabOwn w A i c' (humF c) wr) (fun _ _ t _ => N - (intOf t).toNat)
  case atStart => exact ⟨0, none, 0, Nat.zero_le _, rfl, rfl, TabOwn.nil _ _⟩
  case round =>
    obtain ⟨i, A, c', hi, rfl, rfl, hT⟩ := hrel
    have zr := hT.1.size
    have HT := Lib.hid hT; clear hT
    by_cases hlt : i < N
    · by_cases h0 : i = 0
      · have hb0 : ((i : Int) == 0) = true := by rw [beq_iff_eq]; omega
        have H0 := Lib.hid h0; clear h0
        go_wp2_with (first
          | (at_builtin
             refine wpl_app _ rfl _ _ Try.intT rfl w.heap.size A i c' _ rfl (by exact HT.out.2.alloc _) _ _ 1 1 [.int .i64 0] rfl (by exact Reads.one _ _ _ _ rfl) (by simp [Value.oneCell']) (by unfold maxLen; omega) (by omega) (by simp; omega) ?_
             intro A10 c10 w10 h10
             have H10 := Lib.hid h10; clear h10)
          | fail)
        go_roundw
        case rel => exact ⟨i + 1, A10, c10, by omega, by go_num, rfl, HT.out.append (by rw [show humF c i = 0 from by rw [H0.out]; rfl]; exact H10.out)⟩
        case measure => simp [intOf]; omega
      · have hb0 : ((i : Int) == 0) = false := by rw [beq_eq_false_iff_ne]; omega
        by_cases h1 : i = 1
        · have hb1 : ((i : Int) == 1) = true := by rw [beq_iff_eq]; omega
          have H1 := Lib.hid h1; clear h1 h0
          go_wp2_with (first
            | (at_builtin
               refine wpl_app _ rfl _ _ Try.intT rfl w.heap.size A i c' _ rfl (by exact HT.out.2.alloc _) _ _ 1 1 [.int .i64 (c / 8)] rfl (by exact Reads.one _ _ _ _ rfl) (by simp [Value.oneCell']) (by unfold maxLen; omega) (by omega) (by simp; omega) ?_
               intro A10 c10 w10 h10
               have H10 := Lib.hid h10; clear h10)
            | fail)
          go_roundw
          case rel => exact ⟨i + 1, A10, c10, by omega, by go_num, rfl, HT.out.append (by rw [show humF c i = c / 8 from by rw [H1.out]; rfl]; exact H10.out)⟩
          case measure => simp [intOf]; omega
        · have hb1 : ((i : Int) == 1) = false := by rw [beq_eq_false_iff_ne]; omega
          have h2 : 2 ≤ i := by omega
          obtain ⟨b1, rfl, _, _, hcx, _⟩ := HT.out.get (show i - 1 < i by omega)
          obtain ⟨b2, hbb2, _, _, hcy, _⟩ := HT.out.get (show i - 2 < i by omega)
          injection hbb2 with hbb2
          injection hbb2 with hbb2
          subst hbb2
          obtain ⟨x, hx⟩ : ∃ x, humF c (i - 1) = x := ⟨_, rfl⟩
          obtain ⟨y, hy⟩ : ∃ y, humF c (i - 2) = y := ⟨_, rfl⟩
          rw [hx] at hcx
          rw [hy] at hcy
          have HV := Lib.hid (humF_two h2 hx hy)
          clear hx hy h0 h1
          have s2 : (0 : Int) ≤ (i : Int) - 1 := by omega
          have s3 : (i : Int) - 1 < (i : Int) := by omega
          have s5 : (1 : Int) ≤ (i : Int) := by omega
          have s6 : (0 : Int) ≤ (i : Int) - 2 := by omega
          have s7 : (i : Int) - 2 < (i : Int) := by omega
          have s8 : (2 : Int) ≤ (i : Int) := by omega
          have s1 : IntKind.i64.wrap ((i : Int) - 1) = (i : Int) - 1 := IntWalk.i64_in _ (by omega)
          have s4 : ((i : Int) - 1).toNat = i - 1 := by omega
          have s9 : IntKind.i64.wrap ((i : Int) - 2) = (i : Int) - 2 := IntWalk.i64_in _ (by omega)
          have s10 : ((i : Int) - 2).toNat = i - 2 := by omega
          obtain ⟨q, hq⟩ : ∃ q, IntKind.i64.wrap (c * x) = q := ⟨_, rfl⟩
          have hqb := wrap_bd (c * x)
          rw [hq] at hqb
          obtain ⟨qb0, qb1⟩ := hqb
          obtain ⟨r, hr⟩ : ∃ r, IntKind.i64.wrap (q / 16384 - y) = r := ⟨_, rfl⟩
          replace HV := Lib.hid (show humF c i = r by rw [HV.out, ← wrapE, ← wrapE, hq, hr])
          have QB0 := Lib.hid qb0; have QB1 := Lib.hid qb1
          clear qb0 qb1
          go_wp2_with fail
          go_region_law (first
            | (refine step_app _ (by rfl) _ _ Try.intT (by rfl) w.heap.size _ i c' _ (by rfl) (by exact (Own.alloc HT.out.2 _).drew) _ _ 1 1 [.int .i64 r] (by rfl) (by exact (Reads.one _ _ _ _ rfl).drew) (by simp [Value.oneCell']) (by unfold maxLen; omega) (by omega) (by simp; omega) ?_
               intro A10 c10 w10 h10
               have H10 := Lib.hid h10; clear h10)
            | (go_simp
               go_at_call 75
               refine (floor_any q 16384 _ QB0.out QB1.out (by omega)).mono ?_
               rintro e w' ⟨rfl, rfl⟩))
          all_goals
            clear s1 s4 s9 s10 hq hr
            go_wp2_with fail
            go_roundw
            case rel => exact ⟨i + 1, A10, c10, by omega, by go_num, rfl, HT.out.append' (gr_drew (gr_alloc (gr_refl _ _) _)) HV.out H10.out⟩
            case measure => simp [intOf]; omega
    · obtain rfl : i = N := by omega
      go_wp2_with fail
      go_ret
      exact ⟨_, rfl, ⟨_, _, _, rfl, HT.out.2⟩, HT.out.1⟩
end Go.Proofs.Ytdknfhpconfhkaa

/- Contracts that the laws on sounds and packets share: slices.Equal over ints, errs. Conditions: none. -/
import Derived.Test.YtdknfhpconfhkaaPktSame
import Derived.Test.YtdknfhpconfhkaaArr
import Derived.Test.YtdknfhpconfhkaaSamples
namespace Go.Proofs.Ytdknfhpconfhkaa
open Go.RowKit

set_option maxHeartbeats 2000000 in
theorem equalI_any (lo lo' : Nat) (A A' : Option Addr) (n c n' c' : Nat) (l l' : List Int) (w : World) (h1 : Ints .i64 w lo A n c l) (h2 : Ints .i64 w lo' A' n' c' l') (hn2 : n ≤ 1000000000000) :
    Calls Try.prog 38 #[.slice A n c, .slice A' n' c'] w fun e w' => e = .returned (.bool (l == l')) ∧ ∃ k, w' = w.drewN k := by
  have H1 := Lib.hid h1; have H2 := Lib.hid h2; clear h1 h2
  by_cases hn : n = n'
  · subst hn
    go_enter Try.func38, Try.ntmps38
    go_wp2_with fail
    go_loopw [5, 13] (fun _ t wr => ∃ i : Nat, i ≤ n ∧ t = .int .i64 i ∧ l.take i = l'.take i ∧ ∃ k, wr = w.drewN k) (fun _ t _ => n - (intOf t).toNat)
    case atStart => exact ⟨0, Nat.zero_le _, rfl, rfl, 0, rfl⟩
    case round =>
      obtain ⟨i, hi, rfl, ht, k, rfl⟩ := hrel
      have HT := Lib.hid ht; clear ht
      by_cases hlt : i < n
      · obtain ⟨g, o, z, rfl, _, _, hz, hc⟩ := H1.out.get hlt
        obtain ⟨g', o', z', rfl, _, _, hz', hc'⟩ := H2.out.get hlt
        have HZ := Lib.hid hz; have HZ' := Lib.hid hz'; clear hz hz'
        have hi0 : (0 : Int) ≤ (i : Int) := by omega
        have hi1 : (i : Int) < (n : Int) := by omega
        go_wp2_with fail
        go_quiet (fail)
        by_cases hzz : z = z'
        · subst hzz
          have hne : (z != z) = false := by simp
          go_wp2_with fail
          go_roundw
          case rel => exact ⟨i + 1, by omega, by go_num, by rw [take_snoc' HZ.out, take_snoc' HZ'.out, HT.out], _, rfl⟩
          case measure => simp [intOf]; omega
        · have hne : (z != z') = true := by simpa using hzz
          have HZZ := Lib.hid hzz; clear hzz
          go_wp2_with fail
          go_ret
          refine ⟨?_, k + nq, by first | rfl | rw [World.drewN_drewN]⟩
          rw [show (l == l') = false from beq_eq_false_iff_ne.2 (fun e => HZZ.out (by have h1 := HZ.out; rw [e, HZ'.out] at h1; injection h1 with h1; exact h1.symm))]
          rfl
      · obtain rfl : i = n := by omega
        go_wp2_with fail
        go_ret
        refine ⟨?_, _, rfl⟩
        have h := HT.out
        rw [List.take_of_length_le (by rw [H1.out.len]; exact Nat.le_refl _), List.take_of_length_le (by rw [H2.out.len]; exact Nat.le_refl _)] at h
        rw [show (l == l') = true from beq_iff_eq.2 h]
        rfl
  · have hb : ((n : Int) != (n' : Int)) = true := by rw [bne_iff_ne]; omega
    have HN := Lib.hid hn; clear hn
    go_enter Try.func38, Try.ntmps38
    go_wp2_with fail
    go_ret
    refine ⟨?_, 0, rfl⟩
    rw [show (l == l') = false from beq_eq_false_iff_ne.2 (fun e => HN.out (by rw [← H1.out.len, e, H2.out.len]))]
    rfl

/-- The first of some errors. -/
def firstErr (l : List Int) : Int := firstNZ (fun i => l.getD i 0) l.length
theorem firstErr2 (a b : Int) : firstErr [a, b] = if a = 0 then b else a := by
  by_cases h : a = 0 <;> simp [firstErr, firstNZ, h]
set_option maxHeartbeats 2000000 in
theorem errs_any (lo : Nat) (A : Option Addr) (n c : Nat) (l : List Int) (w : World) (h : Ints .i64 w lo A n c l) (hn : n ≤ 1000000000000) :
    Calls Try.prog 35 #[.slice A n c] w (Same (.int .i64 (firstErr l)) w) := by
  have H := Lib.hid h; clear h
  have HF := Lib.hid (show firstErr l = firstNZ (fun i => l.getD i 0) n by unfold firstErr; rw [H.out.len])
  go_enter Try.func35, Try.ntmps35
  go_wp2_with fail
  go_loop [4, 7] (fun _ t => ∃ i : Nat, i ≤ n ∧ t = .int .i64 i ∧ firstNZ (fun i => l.getD i 0) i = 0) (fun _ t => n - (intOf t).toNat)
  case atStart => exact ⟨0, Nat.zero_le _, rfl, rfl⟩
  case round =>
    obtain ⟨i, hi, rfl, ha⟩ := hrel
    have HA := Lib.hid ha; clear ha
    by_cases hlt : i < n
    · obtain ⟨g, o, z, rfl, _, _, hz, hc⟩ := H.out.get hlt
      have HZ := Lib.hid (show (fun i => l.getD i 0) i = z by dsimp only; rw [List.getD_eq_getElem?_getD, hz]; rfl); clear hz
      by_cases hp : z = 0
      · subst hp
        go_wp2_with fail
        go_round
        case rel => exact ⟨i + 1, by omega, by go_num, firstNZ_zero HA.out HZ.out⟩
        case measure => simp [intOf]; omega
      · have hpb : (z != 0) = true := by simpa using hp
        go_wp2_with fail
        go_ret
        exact ⟨by rw [HF.out, firstNZ_stop HA.out (by rw [HZ.out]; exact hp) hlt, HZ.out]; rfl, rfl⟩
    · obtain rfl : i = n := by omega
      go_wp2_with fail
      go_ret
      exact ⟨by rw [HF.out, HA.out]; rfl, rfl⟩
/-- The errors were just laid out for the call. -/
theorem errs2_new (a b : Int) (W : World) {g : Nat} (hg : W.heap.size = g) :
    Calls Try.prog 35 #[.slice (some ⟨g, 0, none⟩) 2 2] (W.alloc (.cells #[.int .i64 a, .int .i64 b] 31)) (RetV (.int .i64 (if a = 0 then b else a)) W) := by
  subst hg
  refine (errs_any _ _ 2 2 [a, b] _ (Reads.blk (cs := [.int .i64 a, .int .i64 b]) (Blk.new W _ _) 1 2 rfl) (by omega)).mono ?_
  rintro e w' ⟨rfl, rfl⟩
  exact ⟨by rw [firstErr2], gr_alloc (gr_refl _ _) _⟩
end Go.Proofs.Ytdknfhpconfhkaa

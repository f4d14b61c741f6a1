/- Contract of errs: the first error of some. Conditions: none. -/
import Derived.Test.YtdhaelpacffnlaaDoorRet
namespace Go.Proofs.YtdhaelpacffnlaaDoor
open Go.RowKit

/-- The first of some errors. -/
def firstE (l : List Int) : Int := (l.find? (fun z => z != 0)).getD 0
theorem firstE_cons (a : Int) (l : List Int) : firstE (a :: l) = if a = 0 then firstE l else a := by
  unfold firstE
  by_cases h : a = 0
  · subst h; rfl
  · rw [if_neg h, List.find?_cons_of_pos (by simpa using h)]; rfl
theorem firstE_nil : firstE [] = 0 := rfl
set_option maxHeartbeats 2000000 in
theorem errs_run (lo : Nat) (A : Option Addr) (n c : Nat) (l : List Int) (w : World) (h : Ints .i64 w lo A n c l) (hn : n ≤ 1000000000000) :
    Calls Tryd.prog 12 #[.slice A n c] w (Same (.int .i64 (firstE l)) w) := by
  have H := Lib.hid h; clear h
  go_enter Tryd.func12, Tryd.ntmps12
  go_wp2_with fail
  go_loop [4, 7] (fun _ t => ∃ i : Nat, i ≤ n ∧ t = .int .i64 i ∧ firstE l = firstE (l.drop i)) (fun _ t => n - (intOf t).toNat)
  case atStart => exact ⟨0, Nat.zero_le _, rfl, rfl⟩
  case round =>
    obtain ⟨i, hi, rfl, ha⟩ := hrel
    have HA := Lib.hid ha; clear ha
    by_cases hlt : i < n
    · obtain ⟨g, o, z, rfl, _, _, hz, hc⟩ := H.out.get hlt
      have HZ := Lib.hid (show firstE l = if z = 0 then firstE (l.drop (i + 1)) else z by
        rw [HA.out, ← firstE_cons]
        obtain ⟨hl, hz2⟩ := List.getElem?_eq_some_iff.1 hz
        rw [List.drop_eq_getElem_cons hl, hz2])
      clear hz
      by_cases hp : z = 0
      · subst hp
        go_wp2_with fail
        go_round
        case rel => exact ⟨i + 1, by omega, by go_num, by rw [HZ.out]; rfl⟩
        case measure => simp [intOf]; omega
      · have hpb : (z != 0) = true := by simpa using hp
        have HP := Lib.hid (show firstE l = z by rw [HZ.out, if_neg hp])
        go_wp2_with fail
        go_ret
        exact ⟨by rw [HP.out]; rfl, rfl⟩
    · obtain rfl : i = n := by omega
      go_wp2_with fail
      go_ret
      exact ⟨by rw [HA.out, List.drop_eq_nil_of_le (by rw [H.out.len]; exact Nat.le_refl _)]; rfl, rfl⟩
/-- The errors were just laid out for the call. -/
theorem errs_new (l : List Int) (W : World) {g n : Nat} {cs : Array Value} (hg : W.heap.size = g) (hcs : cs = (l.map (Value.int .i64)).toArray) (hn : l.length = n) (hn2 : n ≤ 1000) :
    Calls Tryd.prog 12 #[.slice (some ⟨g, 0, none⟩) n n] (W.alloc (.cells cs 32)) (RetV (.int .i64 (firstE l)) W) := by
  subst hg; subst hcs
  refine (errs_run _ _ n n l _ (Reads.blk (Blk.new W _ _) 1 n (by simp [hn])) (by omega)).mono ?_
  rintro e w' ⟨rfl, rfl⟩
  exact ⟨rfl, gr_alloc (gr_refl _ _) _⟩
end Go.Proofs.YtdhaelpacffnlaaDoor

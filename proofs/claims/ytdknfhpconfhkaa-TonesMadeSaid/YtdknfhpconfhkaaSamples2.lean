/- Contracts of CheckSamples, SamplesFault, slices.ContainsFunc over ints. Conditions: none. -/
import Derived.Test.YtdknfhpconfhkaaSamples
namespace Go.Proofs.Ytdknfhpconfhkaa
open Go.RowKit

/-- What is wrong with samples. -/
def smpFault (l : List Int) : Int := if l.length > 20000 then 2 else if l.all isS then 0 else 1

theorem all_take_succ {p : Int → Bool} {l : List Int} {i : Nat} {z : Int} (h : (l.take i).all p = true) (hz : l[i]? = some z) (hp : p z = true) : (l.take (i + 1)).all p = true := by
  rw [take_snoc' hz, List.all_append]; simp [h, hp]

set_option maxHeartbeats 2000000 in
theorem checkSamples_any (lo : Nat) (A : Option Addr) (n c : Nat) (l : List Int) (w : World) (h : Ints .i64 w lo A n c l) (hn : n ≤ 1000000000000) :
    Calls Try.prog 29 #[.slice A n c] w (Same (.int .i64 (smpFault l)) w) := by
  have H := Lib.hid h; clear h
  by_cases hb : n > 20000
  · have HF := Lib.hid (show smpFault l = 2 by unfold smpFault; rw [if_pos (by rw [H.out.len]; exact hb)])
    have hb' : decide ((20000 : Int) < (n : Int)) = true := by simp; omega
    go_enter Try.func29, Try.ntmps29
    go_wp2_with fail
    go_ret
    exact ⟨by rw [HF.out]; rfl, rfl⟩
  · have hb' : decide ((20000 : Int) < (n : Int)) = false := by simp; omega
    have HL := Lib.hid (show ¬ l.length > 20000 by rw [H.out.len]; exact hb)
    go_enter Try.func29, Try.ntmps29
    go_wp2_with fail
    go_loop [4, 10] (fun _ t => ∃ i : Nat, i ≤ n ∧ t = .int .i64 i ∧ (l.take i).all isS = true) (fun _ t => n - (intOf t).toNat)
    case atStart => exact ⟨0, Nat.zero_le _, rfl, by simp⟩
    case round =>
      obtain ⟨i, hi, rfl, ha⟩ := hrel
      have HA := Lib.hid ha; clear ha
      by_cases hlt : i < n
      · obtain ⟨g, o, z, rfl, _, _, hz, hc⟩ := H.out.get hlt
        have HZ := Lib.hid hz; clear hz
        cases hp : isS z
        · go_wp2_with (first
            | (go_at_call 68; refine (isSample_any _ _).mono ?_; rintro e w' ⟨rfl, rfl⟩)
            | fail)
          go_ret
          refine ⟨?_, rfl⟩
          rw [show smpFault l = 1 from by
            unfold smpFault
            rw [if_neg HL.out, if_neg (by rw [List.all_eq_true]; intro h; have := h z (mem_of_get HZ.out); rw [hp] at this; cases this)]]
          rfl
        · go_wp2_with (first
            | (go_at_call 68; refine (isSample_any _ _).mono ?_; rintro e w' ⟨rfl, rfl⟩)
            | fail)
          go_round
          case rel => exact ⟨i + 1, by omega, by go_num, all_take_succ HA.out HZ.out hp⟩
          case measure => simp [intOf]; omega
      · obtain rfl : i = n := by omega
        go_wp2_with fail
        go_ret
        refine ⟨?_, rfl⟩
        have h := HA.out
        rw [List.take_of_length_le (by rw [H.out.len]; exact Nat.le_refl _)] at h
        rw [show smpFault l = 0 from by unfold smpFault; rw [if_neg HL.out, if_pos h]]
        rfl

/-- The place of the first number of which p holds; -1: there is none. -/
def idxOf (p : Int → Bool) (l : List Int) : Int := match l.findIdx? p with | some i => (i : Int) | none => -1
theorem idxOf_some {p : Int → Bool} {l : List Int} {i : Nat} {z : Int} (h : (l.take i).all (fun x => !p x) = true) (hz : l[i]? = some z) (hp : p z = true) : idxOf p l = i := by
  obtain ⟨hl, rfl⟩ := List.getElem?_eq_some_iff.1 hz
  unfold idxOf
  rw [(List.findIdx?_eq_some_iff_getElem).2 ⟨hl, hp, fun j hj => by
    have := List.all_eq_true.1 h l[j] (by rw [List.mem_take_iff_getElem]; exact ⟨j, by omega, rfl⟩)
    simpa using this⟩]
theorem idxOf_none {p : Int → Bool} {l : List Int} (h : l.all (fun x => !p x) = true) : idxOf p l = -1 := by
  unfold idxOf
  rw [List.findIdx?_eq_none_iff.2 (fun x hx => by simpa using List.all_eq_true.1 h x hx)]

set_option maxHeartbeats 1000000 in
theorem samplesFault1_any (n : Int) (w : World) : Calls Try.prog 70 #[.int .i64 n] w (Same (.bool (!isS n)) w) := by
  go_enter Try.func70, Try.ntmps70
  go_wp2_with (first
    | (go_at_call 25; refine (sample_any _ _).mono ?_; rintro e w' ⟨rfl, rfl⟩)
    | fail)
  go_ret
  exact ⟨rfl, rfl⟩
def notS (n : Int) : Bool := !isS n
theorem samplesFault1_not (n : Int) (w : World) : Calls Try.prog 70 #[.int .i64 n] w (Same (.bool (notS n)) w) := samplesFault1_any n w

set_option maxHeartbeats 2000000 in
theorem indexNotS_any (lo : Nat) (A : Option Addr) (n c : Nat) (l : List Int) (w : World) (h : Ints .i64 w lo A n c l) (hn : n ≤ 1000000000000) :
    Calls Try.prog 94 #[.slice A n c, .func (.func 70) #[] #[]] w (Same (.int .i64 (idxOf notS l)) w) := by
  have H := Lib.hid h; clear h
  go_enter Try.func94, Try.ntmps94
  go_wp2_with fail
  go_loop [5, 8] (fun _ t => ∃ i : Nat, i ≤ n ∧ t = .int .i64 i ∧ (l.take i).all (fun x => !notS x) = true) (fun _ t => n - (intOf t).toNat)
  case atStart => exact ⟨0, Nat.zero_le _, rfl, by simp⟩
  case round =>
    obtain ⟨i, hi, rfl, ha⟩ := hrel
    have HA := Lib.hid ha; clear ha
    by_cases hlt : i < n
    · obtain ⟨g, o, z, rfl, _, _, hz, hc⟩ := H.out.get hlt
      have HZ := Lib.hid hz; clear hz
      cases hp : notS z
      · go_wp2_with (first
          | (go_at_call 70; refine (samplesFault1_not z _).mono ?_; rintro e w' ⟨rfl, rfl⟩)
          | fail)
        go_round
        case rel => exact ⟨i + 1, by omega, by go_num, all_take_succ HA.out HZ.out (by simp [hp])⟩
        case measure => simp [intOf]; omega
      · go_wp2_with (first
          | (go_at_call 70; refine (samplesFault1_not z _).mono ?_; rintro e w' ⟨rfl, rfl⟩)
          | fail)
        go_ret
        exact ⟨by rw [idxOf_some (p := notS) HA.out HZ.out hp]; rfl, rfl⟩
    · obtain rfl : i = n := by omega
      go_wp2_with fail
      go_ret
      have h := HA.out
      rw [List.take_of_length_le (by rw [H.out.len]; exact Nat.le_refl _)] at h
      exact ⟨by rw [idxOf_none (p := notS) h]; rfl, rfl⟩

theorem idxOf_any (p : Int → Bool) (l : List Int) : decide (0 ≤ idxOf p l) = l.any p := by
  unfold idxOf
  cases h : l.findIdx? p with
  | none =>
    have h2 := List.findIdx?_eq_none_iff.1 h
    simp
    intro x hx
    simpa using h2 x hx
  | some i =>
    obtain ⟨hl, hp, _⟩ := List.findIdx?_eq_some_iff_getElem.1 h
    simp
    exact ⟨l[i], List.getElem_mem hl, hp⟩

set_option maxHeartbeats 2000000 in
theorem containsNotS_any (lo : Nat) (A : Option Addr) (n c : Nat) (l : List Int) (w : World) (h : Ints .i64 w lo A n c l) (hn : n ≤ 1000000000000) :
    Calls Try.prog 69 #[.slice A n c, .func (.func 70) #[] #[]] w (Same (.bool (l.any notS)) w) := by
  have H := Lib.hid h; clear h
  have HI := Lib.hid (idxOf_any notS l)
  go_enter Try.func69, Try.ntmps69
  go_wp2_with (first
    | (go_at_call 94; refine (indexNotS_any lo _ _ _ l _ H.out hn).mono ?_; rintro e w' ⟨rfl, rfl⟩)
    | fail)
  go_ret
  exact ⟨by rw [← HI.out]; rfl, rfl⟩

set_option maxHeartbeats 2000000 in
theorem samplesFault_any (lo : Nat) (A : Option Addr) (n c : Nat) (l : List Int) (w : World) (h : Ints .i64 w lo A n c l) (hn : n ≤ 1000000000000) :
    Calls Try.prog 28 #[.slice A n c] w (Same (.int .i64 (smpFault l)) w) := by
  have H := Lib.hid h; clear h
  have hall : l.any notS = !l.all isS := by
    rw [Bool.eq_iff_iff]; simp [notS]
  have HALL := Lib.hid hall; clear hall
  by_cases hb : n > 20000
  · have HF := Lib.hid (show smpFault l = 2 by unfold smpFault; rw [if_pos (by rw [H.out.len]; exact hb)])
    have hb' : decide ((20000 : Int) < (n : Int)) = true := by simp; omega
    go_enter Try.func28, Try.ntmps28
    go_wp2_with fail
    go_ret
    exact ⟨by rw [HF.out]; rfl, rfl⟩
  · have hb' : decide ((20000 : Int) < (n : Int)) = false := by simp; omega
    have HL := Lib.hid (show ¬ l.length > 20000 by rw [H.out.len]; exact hb)
    cases hc : l.any notS
    all_goals
      have HF := Lib.hid (show smpFault l = if l.any notS then 1 else 0 by unfold smpFault; rw [if_neg HL.out, HALL.out]; cases l.all isS <;> rfl)
      go_enter Try.func28, Try.ntmps28
      go_wp2_with (first
        | (go_at_call 69; refine (containsNotS_any lo _ _ _ l _ H.out hn).mono ?_; rintro e w' ⟨rfl, rfl⟩)
        | fail)
      go_ret
      exact ⟨by rw [HF.out, hc]; rfl, rfl⟩
end Go.Proofs.Ytdknfhpconfhkaa

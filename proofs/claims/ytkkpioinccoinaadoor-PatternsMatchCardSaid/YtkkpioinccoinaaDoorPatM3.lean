/- Contracts of the document's order of patterns: only, DialledFault, places, slices.Compare, slices.CompareFunc, BeforeOf. Conditions: none. -/
import Derived.Test.YtkkpioinccoinaaDoorPatM2
import Derived.Maps.Own
import Derived.Maps.OwnOps
namespace Go.Proofs.YtkkpioinccoinaaDoor
open Go.RowKit

set_option maxHeartbeats 2000000 in
theorem onlyRef_any (s u : ByteArray) (w : World) (hs : s.size ≤ 1000000000) : Calls Tryd.prog 92 #[.string s, .string u] w (Same (.bool ((nb s).all (fun b => decide (b ∈ nb u)))) w) := by
  go_enter Tryd.func92, Tryd.ntmps92
  go_wp2_with fail
  go_loop [5, 8] (fun _ t => ∃ i : Nat, i ≤ s.size ∧ t = .int .i64 i ∧ ∀ j, j < i → (nb s).getD j 0 ∈ nb u) (fun _ t => s.size - (intOf t).toNat)
  case atStart => exact ⟨0, Nat.zero_le _, rfl, fun j hj => by omega⟩
  case round =>
    obtain ⟨i, hi, rfl, hin⟩ := hrel
    have HIN := Lib.hid hin; clear hin
    by_cases hil : i < s.size
    · obtain ⟨q, hq⟩ : ∃ q, s[i].toNat = q := ⟨_, rfl⟩
      have q256 : q < 256 := by rw [← hq]; exact UInt8.toNat_lt _
      have HQ := Lib.hid (show (nb s).getD i 0 = q by rw [← nb_get hil, hq])
      obtain ⟨z, hz⟩ : ∃ z, idxL (nb u) q = z := ⟨_, rfl⟩
      have HZ := Lib.hid hz
      have hi0 := idx_mem (l := nb u) (c := q)
      rw [hz] at hi0
      clear hz
      by_cases hz0 : z < 0
      · have HF := Lib.hid (show (nb s).all (fun b => decide (b ∈ nb u)) = false by
          rw [List.all_eq_false]
          have hl : i < (nb s).length := by rw [nb_len]; exact hil
          refine ⟨q, ?_, by simpa using hi0.2.1 hz0⟩
          rw [← HQ.out, List.getD_eq_getElem?_getD, List.getElem?_eq_getElem hl]
          exact List.getElem_mem _)
        clear hi0
        go_wp2_with (first
          | (go_at_call 61; refine (indexByteN u q _ q256).mono ?_; rintro e w' ⟨rfl, rfl⟩; rw [HZ.out])
          | fail)
        go_ret
        exact ⟨by rw [HF.out]; rfl, rfl⟩
      · have HN := Lib.hid (hi0.1.1 (by omega))
        clear hi0
        go_wp2_with (first
          | (go_at_call 61; refine (indexByteN u q _ q256).mono ?_; rintro e w' ⟨rfl, rfl⟩; rw [HZ.out])
          | fail)
        go_round
        case rel => exact ⟨i + 1, by omega, by go_num, fun j hj => by
          rcases Nat.lt_succ_iff_lt_or_eq.1 hj with h1 | h1
          · exact HIN.out j h1
          · subst h1; rw [HQ.out]; exact HN.out⟩
        case measure => simp [intOf]; omega
    · obtain rfl : i = s.size := by omega
      have HT := Lib.hid (show (nb s).all (fun b => decide (b ∈ nb u)) = true by
        rw [List.all_eq_true]
        intro b hb
        obtain ⟨k, hk, rfl⟩ := List.mem_iff_getElem.1 hb
        have := HIN.out k (by rw [nb_len] at hk; exact hk)
        rw [List.getD_eq_getElem?_getD, List.getElem?_eq_getElem hk] at this
        exact decide_eq_true this)
      have d0 : decide ((s.size : Int) < (s.size : Int)) = false := decide_eq_false (by omega)
      go_wp2_with fail
      go_ret
      exact ⟨by rw [HT.out]; rfl, rfl⟩
def dialE (l : List Nat) : Int := if dialOk l then 0 else 3
set_option maxHeartbeats 2000000 in
theorem dialledFault_any (s : ByteArray) (w : World) (hs : s.size ≤ 1000000000) : Calls Tryd.prog 49 #[.string s] w (Same (.int .i64 (dialE (nb s))) w) := by
  have hlen := nb_len s
  have HD := Lib.hid (show dialOk (nb s) = (inB (s.size : Int) 1 30 && (nb s).all (fun b => decide (b ∈ sgn))) by
    unfold dialOk inB
    rw [hlen]
    congr 1
    rw [Bool.eq_iff_iff]
    simp only [Bool.and_eq_true, decide_eq_true_eq]
    omega)
  clear hlen
  obtain ⟨B1, h1⟩ : ∃ B1, inB (s.size : Int) 1 30 = B1 := ⟨_, rfl⟩
  obtain ⟨B2, h2⟩ : ∃ B2, (nb s).all (fun b => decide (b ∈ sgn)) = B2 := ⟨_, rfl⟩
  have HV := Lib.hid (show dialE (nb s) = if B1 && B2 then 0 else 3 by unfold dialE; rw [HD.out, h1, h2])
  have H1 := Lib.hid h1; have H2 := Lib.hid h2
  clear h1 h2
  cases B1
  · go_enter Tryd.func49, Tryd.ntmps49
    go_wp2_with (first
      | (go_at_call 71; refine (in_any _ _ _ _).mono ?_; rintro e w' ⟨rfl, rfl⟩; rw [H1.out])
      | fail)
    go_ret
    exact ⟨by rw [HV.out]; rfl, rfl⟩
  · cases B2
    all_goals
      go_enter Tryd.func49, Tryd.ntmps49
      go_wp2_with (first
        | (go_at_call 71; refine (in_any _ _ _ _).mono ?_; rintro e w' ⟨rfl, rfl⟩; rw [H1.out])
        | (go_at_call 92; refine (onlyRef_any s _ _ hs).mono ?_; rintro e w' ⟨rfl, rfl⟩; rw [nb_signs, H2.out])
        | fail)
      go_ret
      exact ⟨by rw [HV.out]; rfl, rfl⟩
theorem cmpL_drop {l m : List Int} {i : Nat} {a b : Int} (hl : l[i]? = some a) (hm : m[i]? = some b) : cmpL (l.drop i) (m.drop i) = if cmpI a b = 0 then cmpL (l.drop (i + 1)) (m.drop (i + 1)) else cmpI a b := by
  obtain ⟨h1, rfl⟩ := List.getElem?_eq_some_iff.1 hl
  obtain ⟨h2, rfl⟩ := List.getElem?_eq_some_iff.1 hm
  rw [List.drop_eq_getElem_cons h1, List.drop_eq_getElem_cons h2, cmpL]
theorem cmpL_gt {l m : List Int} {i : Nat} (hl : i < l.length) (hm : m.length ≤ i) : cmpL (l.drop i) (m.drop i) = 1 := by
  rw [List.drop_eq_nil_of_le hm, List.drop_eq_getElem_cons hl]; rfl
theorem cmpL_end {l m : List Int} {i : Nat} (hl : l.length = i) : cmpL (l.drop i) (m.drop i) = if i < m.length then -1 else 0 := by
  rw [List.drop_eq_nil_of_le (by omega)]
  by_cases h : i < m.length
  · rw [if_pos h, List.drop_eq_getElem_cons h]; rfl
  · rw [if_neg h, List.drop_eq_nil_of_le (by omega)]; rfl
set_option maxHeartbeats 2000000 in
theorem sCompare_any (lo lo' : Nat) (A A' : Option Addr) (n c n' c' : Nat) (l m : List Int) (w : World) (h : Ints .i64 w lo A n c l) (h' : Ints .i64 w lo' A' n' c' m) (hn : n ≤ 1000000) (hn' : n' ≤ 1000000) :
    Calls Tryd.prog 102 #[.slice A n c, .slice A' n' c'] w (Same (.int .i64 (cmpL l m)) w) := by
  have H := Lib.hid h; have H' := Lib.hid h'
  have HL := Lib.hid h.len; have HL' := Lib.hid h'.len
  clear h h'
  go_enter Tryd.func102, Tryd.ntmps102
  go_wp2_with fail
  go_loop [5, 6, 7, 8, 11] (fun _ _ _ _ t => ∃ i : Nat, i ≤ n ∧ t = .int .i64 i ∧ cmpL l m = cmpL (l.drop i) (m.drop i)) (fun _ _ _ _ t => n - (intOf t).toNat)
  case atStart => exact ⟨0, Nat.zero_le _, rfl, rfl⟩
  case round =>
    obtain ⟨i, hi, rfl, he⟩ := hrel
    have HE := Lib.hid he; clear he
    by_cases hlt : i < n
    · obtain ⟨g, o, z, rfl, _, _, hz, hc⟩ := H.out.get hlt
      by_cases hm : i < n'
      · obtain ⟨g', o', z', rfl, _, _, hz', hc'⟩ := H'.out.get hm
        have HS := Lib.hid (show cmpL l m = if cmpI z z' = 0 then cmpL (l.drop (i + 1)) (m.drop (i + 1)) else cmpI z z' by rw [HE.out, cmpL_drop hz hz'])
        have d1 : decide ((n' : Int) ≤ (i : Int)) = false := decide_eq_false (by omega)
        have d1' : decide (n' ≤ i) = false := decide_eq_false (by omega)
        obtain ⟨q, hq⟩ : ∃ q, cmpI z z' = q := ⟨_, rfl⟩
        have HQ := Lib.hid hq
        clear hz hz' hq
        by_cases hq0 : q = 0
        · have b1 : (q != 0) = false := by simp [hq0]
          have HN := Lib.hid (show cmpL l m = cmpL (l.drop (i + 1)) (m.drop (i + 1)) by rw [HS.out, HQ.out, if_pos hq0])
          clear hq0
          go_wp2_with (first
            | (go_at_call 129; refine (cmpInt_any z z' _).mono ?_; rintro e w' ⟨rfl, rfl⟩; rw [HQ.out])
            | fail)
          go_round
          case rel => exact ⟨i + 1, by omega, by go_num, HN.out⟩
          case measure => simp [intOf]; omega
        · have b1 : (q != 0) = true := by simpa using hq0
          have HN := Lib.hid (show cmpL l m = q by rw [HS.out, HQ.out, if_neg hq0])
          clear hq0
          go_wp2_with (first
            | (go_at_call 129; refine (cmpInt_any z z' _).mono ?_; rintro e w' ⟨rfl, rfl⟩; rw [HQ.out])
            | fail)
          go_ret
          exact ⟨by rw [HN.out]; rfl, rfl⟩
      · have HN := Lib.hid (show cmpL l m = 1 by rw [HE.out, cmpL_gt (by rw [HL.out]; exact hlt) (by rw [HL'.out]; omega)])
        have d1 : decide ((n' : Int) ≤ (i : Int)) = true := decide_eq_true (by omega)
        have d1' : decide (n' ≤ i) = true := decide_eq_true (by omega)
        clear hz
        go_wp2_with fail
        go_ret
        exact ⟨by rw [HN.out]; rfl, rfl⟩
    · obtain rfl : i = n := by omega
      have HN := Lib.hid (show cmpL l m = if i < n' then -1 else 0 by rw [HE.out, cmpL_end HL.out, HL'.out])
      by_cases hlt2 : i < n'
      · have d1 : decide ((i : Int) < (n' : Int)) = true := decide_eq_true (by omega)
        have d1' : decide (i < n') = true := decide_eq_true hlt2
        go_wp2_with fail
        go_ret
        exact ⟨by rw [HN.out, if_pos hlt2]; rfl, rfl⟩
      · have d1 : decide ((i : Int) < (n' : Int)) = false := decide_eq_false (by omega)
        have d1' : decide (i < n') = false := decide_eq_false hlt2
        go_wp2_with fail
        go_ret
        exact ⟨by rw [HN.out, if_neg hlt2]; rfl, rfl⟩
theorem befFn_any (lo lo' : Nat) (A A' : Option Addr) (n c n' c' : Nat) (l m : List Int) (w : World) (h : Ints .i64 w lo A n c l) (h' : Ints .i64 w lo' A' n' c' m) (hn : n ≤ 1000000) (hn' : n' ≤ 1000000) :
    Calls Tryd.prog 101 #[.slice A n c, .slice A' n' c'] w (Same (.int .i64 (cmpL l m)) w) := by
  go_enter Tryd.func101, Tryd.ntmps101
  go_wp2_with (first
    | (go_at_call 102; refine (sCompare_any lo lo' A A' n c n' c' l m _ h h' hn hn').mono ?_; rintro e w' ⟨rfl, rfl⟩)
    | fail)
  go_ret
  exact ⟨rfl, rfl⟩
end Go.Proofs.YtkkpioinccoinaaDoor

/- Strings of digits, prefixes and numbers: number.IsNumber, account.isPrefix and the document's PhoneNumber. Conditions: none. -/
import Derived.Test.YtlkibeckfpjccaaGreatDoorBun3
import Derived.Test.YtlkibeckfpjccaaGreatDoorShelfCut
namespace Go.Proofs.YtlkibeckfpjccaaGreatDoor
open Go.RowKit

theorem retR {v : Value} {w : World} {e : Ending} {w' : World} (h : Same v w e w') : RetV v w e w' := by
  obtain ⟨h1, rfl⟩ := h
  exact ⟨h1, gr_refl _ _⟩
/-- What CutPrefix gives at a plus. -/
theorem plus_cut (s : ByteArray) : ∃ (d : ByteArray) (b : Bool), (⟨(Lib.trimPrefix s.data.toList [43]).toArray⟩ : ByteArray) = d ∧ Lib.hasPrefix s.data.toList [43] = b ∧ d.size ≤ s.size ∧ ((b = false ∧ plusOf (nb s) = none) ∨ (b = true ∧ plusOf (nb s) = some (nb d))) := by
  refine ⟨_, _, rfl, rfl, ?_, ?_⟩
  · show (Lib.trimPrefix s.data.toList [43]).toArray.size ≤ s.data.size
    rw [List.size_toArray, ← Array.length_toList]
    unfold Lib.trimPrefix
    split
    · rw [List.length_drop]; omega
    · exact Nat.le_refl _
  · unfold nb
    cases h : s.data.toList with
    | nil => left; simp [plusOf, Lib.hasPrefix]
    | cons a l =>
      by_cases e : a = 43
      · subst e
        right
        simp [plusOf, Lib.hasPrefix, Lib.trimPrefix]
      · left
        have e2 : a.toNat ≠ 43 := fun h2 => e (UInt8.toNat_inj.1 h2)
        have e3 : ((43 : UInt8) == a) = false := by rw [beq_eq_false_iff_ne]; exact fun h => e h.symm
        refine ⟨by simp [Lib.hasPrefix, List.isPrefixOf, e3], ?_⟩
        rw [List.map_cons]
        unfold plusOf
        split
        · rename_i h3
          injection h3 with h4
          exact absurd h4 e2
        · rfl
theorem cutPlus_any (s d : ByteArray) (b : Bool) (w : World) (hd : (⟨(Lib.trimPrefix s.data.toList [43]).toArray⟩ : ByteArray) = d) (hb : Lib.hasPrefix s.data.toList [43] = b) :
    Calls Tryz.prog 36 #[.string s, .string ⟨#[43]⟩] w (Same (.tuple #[.string d, .bool b]) w) := by
  refine (Tryz.strings_CutPrefix s ⟨#[43]⟩ w).mono ?_
  rintro e w' ⟨rfl, rfl⟩
  refine ⟨?_, rfl⟩
  show Ending.returned (.tuple #[.string ⟨(Lib.trimPrefix s.data.toList [43]).toArray⟩, .bool (Lib.hasPrefix s.data.toList [43])]) = _
  rw [hd, hb]
set_option maxRecDepth 100000 in
theorem trimDig_any (s : ByteArray) (w : World) (hs : s.size ≤ 1000000) : Calls Tryz.prog 76 #[.string s, .string ⟨#[48, 49, 50, 51, 52, 53, 54, 55, 56, 57]⟩] w
    (RetV (.string ⟨(Lib.trimS s.data.toList [48, 49, 50, 51, 52, 53, 54, 55, 56, 57]).toArray⟩) w) := by
  refine (Any.strings_Trim_laid Tryz.lays160 (by kernel_rfl) s ⟨#[48, 49, 50, 51, 52, 53, 54, 55, 56, 57]⟩ w (by omega) (by decide) (ascii_of_all (by decide))).mono ?_
  rintro e w' ⟨rfl, hb⟩
  exact ⟨rfl, gr_below hb none⟩
theorem trimDig_eq (s : ByteArray) : ∃ u : ByteArray, (⟨(Lib.trimS s.data.toList [48, 49, 50, 51, 52, 53, 54, 55, 56, 57]).toArray⟩ : ByteArray) = u ∧ ((digB (nb s) = true ∧ u.toList = []) ∨ (digB (nb s) = false ∧ (u.toList == []) = false ∧ u.toList.isEmpty = false)) := by
  refine ⟨_, rfl, ?_⟩
  rw [ByteArray.toList_mk]
  cases hd : digB (nb s)
  · right
    have : ¬ Lib.trimS s.data.toList [48, 49, 50, 51, 52, 53, 54, 55, 56, 57] = [] := fun h => by
      rw [tr_only] at h
      have : digB (nb s) = true := h
      rw [hd] at this; cases this
    exact ⟨rfl, by rw [beq_eq_false_iff_ne]; exact this, by rw [List.isEmpty_eq_false_iff]; exact this⟩
  · exact .inl ⟨rfl, (tr_only s _).2 hd⟩
set_option maxHeartbeats 2000000 in
theorem isDigits_any (s : ByteArray) (w : World) (hs : s.size ≤ 1000000) : Calls Tryz.prog 120 #[.string s] w (RetV (.bool (digB (nb s))) w) := by
  obtain ⟨u, hu, h⟩ := trimDig_eq s
  have HU := Lib.hid hu; clear hu
  rcases h with ⟨h1, h2⟩ | ⟨h1, h2, h3⟩
  all_goals
    have HB := Lib.hid h1; clear h1
    go_enter Tryz.func120, Tryz.ntmps120
    go_wp2_with (first
      | (go_at_call 76; refine (trimDig_any s _ hs).mono ?_; rintro e w' ⟨rfl, hg⟩; rw [HU.out]; have HG := Lib.hid hg; clear hg)
      | fail)
    go_ret
    exact ⟨by rw [HB.out]; rfl, HG.out⟩
/-- From lo to hi digits, and nothing else. -/
def digN (l : List Nat) (lo hi : Int) : Bool := decide (lo ≤ l.length) && decide ((l.length : Int) ≤ hi) && digB l
set_option maxHeartbeats 2000000 in
theorem digitsOf_any (s : ByteArray) (lo hi : Int) (w : World) (hs : s.size ≤ 1000000) : Calls Tryz.prog 98 #[.string s, .int .i64 lo, .int .i64 hi] w (RetV (.bool (digN (nb s) lo hi)) w) := by
  have HV := Lib.hid (show digN (nb s) lo hi = (decide (lo ≤ s.size) && decide ((s.size : Int) ≤ hi) && digB (nb s)) by unfold digN; rw [nb_len])
  obtain ⟨B, hB⟩ : ∃ B, digB (nb s) = B := ⟨_, rfl⟩
  have HB := Lib.hid hB; clear hB
  by_cases h1 : lo ≤ (s.size : Int) <;> by_cases h2 : (s.size : Int) ≤ hi
  · have d1 : decide (lo ≤ (s.size : Int)) = true := decide_eq_true h1
    have d2 : decide ((s.size : Int) ≤ hi) = true := decide_eq_true h2
    replace HV := Lib.hid (show digN (nb s) lo hi = digB (nb s) by rw [HV.out, d1, d2]; rfl)
    go_enter Tryz.func98, Tryz.ntmps98
    go_wp2_with (first
      | (go_at_call 120; refine (isDigits_any s _ hs).mono ?_; rintro e w' ⟨rfl, hg⟩; have HG := Lib.hid hg; clear hg)
      | fail)
    go_ret
    exact ⟨by rw [HV.out]; rfl, HG.out⟩
  · have d1 : decide (lo ≤ (s.size : Int)) = true := decide_eq_true h1
    have d2 : decide ((s.size : Int) ≤ hi) = false := decide_eq_false h2
    replace HV := Lib.hid (show digN (nb s) lo hi = false by rw [HV.out, d1, d2]; rfl)
    go_enter Tryz.func98, Tryz.ntmps98
    go_wp2_with fail
    go_ret
    exact ⟨by rw [HV.out]; rfl, gr_refl _ _⟩
  all_goals
    have d1 : decide (lo ≤ (s.size : Int)) = false := decide_eq_false h1
    replace HV := Lib.hid (show digN (nb s) lo hi = false by rw [HV.out, d1]; rfl)
    go_enter Tryz.func98, Tryz.ntmps98
    go_wp2_with fail
    go_ret
    exact ⟨by rw [HV.out]; rfl, gr_refl _ _⟩
theorem phOk_none {l : List Nat} (h : plusOf l = none) : phOk l = false := by unfold phOk; rw [h]; rfl
theorem phOk_some {l d : List Nat} (h : plusOf l = some d) : phOk l = (digN d 4 15 && decide (d.getD 0 0 ≠ 48)) := by
  unfold phOk digN
  rw [h]
  show (decide (4 ≤ d.length) && decide (d.length ≤ 15) && digB d && decide (d.getD 0 0 ≠ 48)) = _
  congr 3
  all_goals
    rw [Bool.eq_iff_iff]
    simp only [Bool.and_eq_true, decide_eq_true_eq]
    omega
set_option maxHeartbeats 2000000 in
theorem isNumber_any (s : ByteArray) (w : World) (hs : s.size ≤ 1000000) : Calls Tryz.prog 74 #[.string s] w (RetV (.bool (phOk (nb s))) w) := by
  obtain ⟨d, b, hd, hb, hsz, h⟩ := plus_cut s
  have HD := Lib.hid hd; have HB := Lib.hid hb; clear hd hb
  rcases h with ⟨rfl, h⟩ | ⟨rfl, h⟩
  · have HV := Lib.hid (phOk_none h); clear h
    go_enter Tryz.func74, Tryz.ntmps74
    go_wp2_with (first
      | (go_at_call 36; refine (cutPlus_any s d false _ HD.out HB.out).mono ?_; rintro e w' ⟨rfl, rfl⟩)
      | fail)
    go_ret
    exact ⟨by rw [HV.out]; rfl, gr_refl _ _⟩
  · have hV := phOk_some h
    obtain ⟨B, hB⟩ : ∃ B, digN (nb d) 4 15 = B := ⟨_, rfl⟩
    rw [hB] at hV
    have HN := Lib.hid hB
    have HV := Lib.hid hV; clear h hV
    cases B
    · clear hB
      go_enter Tryz.func74, Tryz.ntmps74
      go_wp2_with (first
        | (go_at_call 36; refine (cutPlus_any s d true _ HD.out HB.out).mono ?_; rintro e w' ⟨rfl, rfl⟩)
        | (go_at_call 98; refine (digitsOf_any d 4 15 _ (by omega)).mono ?_; rintro e w' ⟨rfl, hg⟩; rw [HN.out]; have HG := Lib.hid hg; clear hg)
        | fail)
      go_ret
      exact ⟨by rw [HV.out]; rfl, HG.out⟩
    · have h4 : 4 ≤ d.size := by
        unfold digN at hB
        rw [nb_len] at hB
        simp only [Bool.and_eq_true, decide_eq_true_eq] at hB
        omega
      clear hB
      obtain ⟨q, hq⟩ : ∃ q, d[0].toNat = q := ⟨_, rfl⟩
      have HQ := Lib.hid (show (nb d).getD 0 0 = q by rw [← nb_get (by omega), hq])
      by_cases h48 : q = 48
      · have e1 : ((q : Int) != 48) = false := by rw [h48]; rfl
        have HF := Lib.hid (show phOk (nb s) = false by rw [HV.out, HQ.out, h48]; rfl)
        clear h48
        go_enter Tryz.func74, Tryz.ntmps74
        go_wp2_with (first
          | (go_at_call 36; refine (cutPlus_any s d true _ HD.out HB.out).mono ?_; rintro e w' ⟨rfl, rfl⟩)
          | (go_at_call 98; refine (digitsOf_any d 4 15 _ (by omega)).mono ?_; rintro e w' ⟨rfl, hg⟩; rw [HN.out]; have HG := Lib.hid hg; clear hg)
          | fail)
        go_ret
        exact ⟨by rw [HF.out]; rfl, HG.out⟩
      · have e1 : ((q : Int) != 48) = true := by rw [bne_iff_ne]; omega
        have HF := Lib.hid (show phOk (nb s) = true by rw [HV.out, HQ.out, decide_eq_true h48]; rfl)
        clear h48
        go_enter Tryz.func74, Tryz.ntmps74
        go_wp2_with (first
          | (go_at_call 36; refine (cutPlus_any s d true _ HD.out HB.out).mono ?_; rintro e w' ⟨rfl, rfl⟩)
          | (go_at_call 98; refine (digitsOf_any d 4 15 _ (by omega)).mono ?_; rintro e w' ⟨rfl, hg⟩; rw [HN.out]; have HG := Lib.hid hg; clear hg)
          | fail)
        go_ret
        exact ⟨by rw [HF.out]; rfl, HG.out⟩
theorem nb_digS : nb ⟨#[48, 49, 50, 51, 52, 53, 54, 55, 56, 57]⟩ = digSigns := by decide +kernel
theorem digits_str : ∃ dg : ByteArray, (⟨#[48, 49, 50, 51, 52, 53, 54, 55, 56, 57]⟩ : ByteArray) = dg ∧ ∀ s : ByteArray, (nb s).all (fun b => decide (b ∈ nb dg)) = digB (nb s) := ⟨_, rfl, fun s => by rw [nb_digS]; rfl⟩
set_option maxHeartbeats 2000000 in
theorem phoneNumber_any (s : ByteArray) (w : World) (hs : s.size ≤ 1000000) : Calls Tryz.prog 40 #[.string s] w (RetV (.bool (phOk (nb s))) w) := by
  obtain ⟨d, b, hd, hb, hsz, h⟩ := plus_cut s
  have HD := Lib.hid hd; have HB := Lib.hid hb; clear hd hb
  obtain ⟨dg, hdg, hall⟩ := digits_str
  have HA := Lib.hid hall; clear hall
  rcases h with ⟨rfl, h⟩ | ⟨rfl, h⟩
  · have HV := Lib.hid (phOk_none h); clear h
    go_enter Tryz.func40, Tryz.ntmps40
    go_wp2_with (first
      | (go_at_call 36; refine (cutPlus_any s d false _ HD.out HB.out).mono ?_; rintro e w' ⟨rfl, rfl⟩)
      | fail)
    go_ret
    exact ⟨by rw [HV.out]; rfl, gr_refl _ _⟩
  · have hV := phOk_some h
    obtain ⟨B1, hB1⟩ : ∃ B, inB (d.size : Int) 4 15 = B := ⟨_, rfl⟩
    obtain ⟨B2, hB2⟩ : ∃ B, digB (nb d) = B := ⟨_, rfl⟩
    have hN : digN (nb d) 4 15 = (B1 && B2) := by unfold digN; rw [nb_len, hB2, ← hB1]; rfl
    rw [hN] at hV
    have HV := Lib.hid hV; have H1 := Lib.hid hB1; have H2 := Lib.hid hB2; clear h hV hN hB2
    cases B1
    · clear hB1
      go_enter Tryz.func40, Tryz.ntmps40
      go_wp2_with (first
        | (go_at_call 36; refine (cutPlus_any s d true _ HD.out HB.out).mono ?_; rintro e w' ⟨rfl, rfl⟩)
        | (go_at_call 39; refine (in_any _ _ _ _).mono ?_; rintro e w' ⟨rfl, rfl⟩; rw [H1.out])
        | fail)
      go_ret
      exact ⟨by rw [HV.out]; rfl, gr_refl _ _⟩
    · have h4 : 4 ≤ d.size := by
        unfold inB at hB1
        simp only [Bool.and_eq_true, decide_eq_true_eq] at hB1
        omega
      clear hB1
      cases B2
      · go_enter Tryz.func40, Tryz.ntmps40
        go_wp2_with (first
          | (go_at_call 36; refine (cutPlus_any s d true _ HD.out HB.out).mono ?_; rintro e w' ⟨rfl, rfl⟩)
          | (go_at_call 39; refine (in_any _ _ _ _).mono ?_; rintro e w' ⟨rfl, rfl⟩; rw [H1.out])
          | (go_at_call 37; refine (onlyS_any d dg _ (by omega)).mono ?_; rintro e w' ⟨rfl, rfl⟩; rw [HA.out, H2.out])
          | fail)
        go_ret
        exact ⟨by rw [HV.out]; rfl, gr_refl _ _⟩
      · obtain ⟨q, hq⟩ : ∃ q, d[0].toNat = q := ⟨_, rfl⟩
        have HQ := Lib.hid (show (nb d).getD 0 0 = q by rw [← nb_get (by omega), hq])
        obtain ⟨C, hC⟩ : ∃ C, ((q : Int) != 48) = C := ⟨_, rfl⟩
        have HF := Lib.hid (show phOk (nb s) = C by
          rw [HV.out, HQ.out, ← hC]
          by_cases h48 : q = 48
          · rw [h48]; rfl
          · rw [decide_eq_true h48, (bne_iff_ne (a := (q : Int)) (b := 48)).2 (by omega)]; rfl)
        cases C
        all_goals
          go_enter Tryz.func40, Tryz.ntmps40
          go_wp2_with (first
            | (go_at_call 36; refine (cutPlus_any s d true _ HD.out HB.out).mono ?_; rintro e w' ⟨rfl, rfl⟩)
            | (go_at_call 39; refine (in_any _ _ _ _).mono ?_; rintro e w' ⟨rfl, rfl⟩; rw [H1.out])
            | (go_at_call 37; refine (onlyS_any d dg _ (by omega)).mono ?_; rintro e w' ⟨rfl, rfl⟩; rw [HA.out, H2.out])
            | fail)
          go_ret
          exact ⟨by rw [HF.out]; rfl, gr_refl _ _⟩
theorem pfOk_none {l : List Nat} (h : plusOf l = none) (h1 : l ≠ []) : pfOk l = false := by unfold pfOk; rw [h, decide_eq_false h1]; rfl
theorem pfOk_nil : pfOk [] = true := rfl
theorem pfOk_some {l d : List Nat} (h : plusOf l = some d) : pfOk l = (decide (d.length ≤ 15) && digB d) := by
  unfold pfOk
  rw [h]
  cases l with
  | nil => cases h
  | cons a l => rfl
set_option maxHeartbeats 2000000 in
theorem isPrefix_any (s : ByteArray) (w : World) (hs : s.size ≤ 1000000) : Calls Tryz.prog 58 #[.string s] w (RetV (.bool (pfOk (nb s))) w) := by
  obtain ⟨d, b, hd, hb, hsz, h⟩ := plus_cut s
  have HD := Lib.hid hd; have HB := Lib.hid hb; clear hd hb
  rcases h with ⟨rfl, h⟩ | ⟨rfl, h⟩
  · by_cases hn : nb s = []
    · have HV := Lib.hid (show pfOk (nb s) = true by rw [hn]; rfl)
      have e1 := str_nil hn
      clear h hn
      go_enter Tryz.func58, Tryz.ntmps58
      go_wp2_with (first
        | (go_at_call 36; refine (cutPlus_any s d false _ HD.out HB.out).mono ?_; rintro e w' ⟨rfl, rfl⟩)
        | fail)
      go_ret
      exact ⟨by rw [HV.out]; rfl, gr_refl _ _⟩
    · have HV := Lib.hid (pfOk_none h hn)
      obtain ⟨e1, e2, e3⟩ := str_full hn
      clear h hn
      go_enter Tryz.func58, Tryz.ntmps58
      go_wp2_with (first
        | (go_at_call 36; refine (cutPlus_any s d false _ HD.out HB.out).mono ?_; rintro e w' ⟨rfl, rfl⟩)
        | fail)
      go_ret
      exact ⟨by rw [HV.out]; rfl, gr_refl _ _⟩
  · have hV := pfOk_some h
    have hn : ¬ nb s = [] := fun e => by rw [e] at h; cases h
    obtain ⟨e1, e2, e3⟩ := str_full hn
    rw [nb_len] at hV
    obtain ⟨u, hu, hc⟩ := trimDig_eq d
    have HU := Lib.hid hu; have HV := Lib.hid hV; clear hu hV h hn
    by_cases h15 : d.size ≤ 15
    · have d1 : decide ((d.size : Int) ≤ 15) = true := decide_eq_true (by omega)
      rcases hc with ⟨h1, h2⟩ | ⟨h1, h2, h3⟩
      all_goals
        have HF := Lib.hid (show pfOk (nb s) = _ by rw [HV.out, decide_eq_true h15, h1, Bool.true_and])
        clear h1
        go_enter Tryz.func58, Tryz.ntmps58
        go_wp2_with (first
          | (go_at_call 36; refine (cutPlus_any s d true _ HD.out HB.out).mono ?_; rintro e w' ⟨rfl, rfl⟩)
          | (go_at_call 76; refine (trimDig_any d _ (by omega)).mono ?_; rintro e w' ⟨rfl, hg⟩; rw [HU.out]; have HG := Lib.hid hg; clear hg)
          | fail)
        go_ret
        exact ⟨by rw [HF.out]; rfl, HG.out⟩
    · have d1 : decide ((d.size : Int) ≤ 15) = false := decide_eq_false (by omega)
      have HF := Lib.hid (show pfOk (nb s) = false by rw [HV.out, decide_eq_false h15]; rfl)
      clear hc
      go_enter Tryz.func58, Tryz.ntmps58
      go_wp2_with (first
        | (go_at_call 36; refine (cutPlus_any s d true _ HD.out HB.out).mono ?_; rintro e w' ⟨rfl, rfl⟩)
        | fail)
      go_ret
      exact ⟨by rw [HF.out]; rfl, gr_refl _ _⟩
set_option maxHeartbeats 1000000 in
theorem withinA_any (n lo hi : Int) (w : World) : Calls Tryz.prog 30 #[.int .i64 n, .int .i64 lo, .int .i64 hi] w (Same (.bool (inB n lo hi)) w) := by
  have H := Lib.hid (show inB n lo hi = (decide (lo ≤ n) && decide (n ≤ hi)) from rfl)
  by_cases h1 : lo ≤ n <;> by_cases h2 : n ≤ hi
  all_goals
    go_enter Tryz.func30, Tryz.ntmps30
    go_wp2
    go_ret
    exact ⟨by rw [H.out]; simp [h1, h2], rfl⟩
end Go.Proofs.YtlkibeckfpjccaaGreatDoor

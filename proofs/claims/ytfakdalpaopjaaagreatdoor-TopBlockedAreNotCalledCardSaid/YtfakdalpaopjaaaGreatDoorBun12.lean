/- Strings of digits, prefixes and numbers: number.IsNumber, account.isPrefix and the document's PhoneNumber. Conditions: none. -/
import Derived.Test.YtfakdalpaopjaaaGreatDoorBun5
import Derived.Test.YtfakdalpaopjaaaGreatDoorShelfCut
import Derived.Deep.QuietTactic
import Derived.BigQuiet
import Derived.Test.YtfakdalpaopjaaaGreatDoorBun1
import Derived.Test.YtfakdalpaopjaaaGreatDoorBun6
import Derived.Test.YtfakdalpaopjaaaGreatDoorGenHouR
import Derived.WalkKit
namespace Go.Proofs.YtfakdalpaopjaaaGreatDoor
section
open Go.RowKit

/-- What CutPrefix gives at a plus. -/
theorem plus_cut (s : ByteArray) : ∃ (d : ByteArray) (b : Bool), (⟨(Lib.trimPrefix s.data.toList [43]).toArray⟩ : ByteArray) = d ∧ Lib.hasPrefix s.data.toList [43] = b ∧ d.size ≤ s.size ∧ ((b = false ∧ plusOf (nb s) = none) ∨ (b = true ∧ plusOf (nb s) = some (nb d))) := by
  refine ⟨_, _, rfl, rfl, ?_, ?_⟩
  · show (Lib.trimPrefix s.data.toList [43]).toArray.size ≤ s.data.size
    rw [List.size_toArray, ← Array.length_toList]
    unfold Lib.trimPrefix
    split
    · rw [List.length_drop]; omega
    · exact Nat.le_refl _
  · unfold nb
    cases h : s.data.toList with
    | nil => left; simp [plusOf, Lib.hasPrefix]
    | cons a l =>
      by_cases e : a = 43
      · subst e
        right
        simp [plusOf, Lib.hasPrefix, Lib.trimPrefix]
      · left
        have e2 : a.toNat ≠ 43 := fun h2 => e (UInt8.toNat_inj.1 h2)
        have e3 : ((43 : UInt8) == a) = false := by rw [beq_eq_false_iff_ne]; exact fun h => e h.symm
        refine ⟨by simp [Lib.hasPrefix, List.isPrefixOf, e3], ?_⟩
        rw [List.map_cons]
        unfold plusOf
        split
        · rename_i h3
          injection h3 with h4
          exact absurd h4 e2
        · rfl
theorem cutPlus_any (s d : ByteArray) (b : Bool) (w : World) (hd : (⟨(Lib.trimPrefix s.data.toList [43]).toArray⟩ : ByteArray) = d) (hb : Lib.hasPrefix s.data.toList [43] = b) :
    Calls Tryz.prog 78 #[.string s, .string ⟨#[43]⟩] w (Same (.tuple #[.string d, .bool b]) w) := by
  refine (Tryz.strings_CutPrefix s ⟨#[43]⟩ w).mono ?_
  rintro e w' ⟨rfl, rfl⟩
  refine ⟨?_, rfl⟩
  show Ending.returned (.tuple #[.string ⟨(Lib.trimPrefix s.data.toList [43]).toArray⟩, .bool (Lib.hasPrefix s.data.toList [43])]) = _
  rw [hd, hb]
set_option maxRecDepth 100000 in
theorem trimDig_any (s : ByteArray) (w : World) (hs : s.size ≤ 1000000) : Calls Tryz.prog 67 #[.string s, .string ⟨#[48, 49, 50, 51, 52, 53, 54, 55, 56, 57]⟩] w
    (RetV (.string ⟨(Lib.trimS s.data.toList [48, 49, 50, 51, 52, 53, 54, 55, 56, 57]).toArray⟩) w) := by
  refine (Any.strings_Trim_laid Tryz.lays160 (by kernel_rfl) s ⟨#[48, 49, 50, 51, 52, 53, 54, 55, 56, 57]⟩ w (by omega) (by decide) (ascii_of_all (by decide))).mono ?_
  rintro e w' ⟨rfl, hb⟩
  exact ⟨rfl, gr_below hb none⟩
theorem trimDig_eq (s : ByteArray) : ∃ u : ByteArray, (⟨(Lib.trimS s.data.toList [48, 49, 50, 51, 52, 53, 54, 55, 56, 57]).toArray⟩ : ByteArray) = u ∧ ((digB (nb s) = true ∧ u.toList = []) ∨ (digB (nb s) = false ∧ (u.toList == []) = false ∧ u.toList.isEmpty = false)) := by
  refine ⟨_, rfl, ?_⟩
  rw [ByteArray.toList_mk]
  cases hd : digB (nb s)
  · right
    have : ¬ Lib.trimS s.data.toList [48, 49, 50, 51, 52, 53, 54, 55, 56, 57] = [] := fun h => by
      rw [tr_only] at h
      have : digB (nb s) = true := h
      rw [hd] at this; cases this
    exact ⟨rfl, by rw [beq_eq_false_iff_ne]; exact this, by rw [List.isEmpty_eq_false_iff]; exact this⟩
  · exact .inl ⟨rfl, (tr_only s _).2 hd⟩
set_option maxHeartbeats 2000000 in
theorem isDigits_any (s : ByteArray) (w : World) (hs : s.size ≤ 1000000) : Calls Tryz.prog 116 #[.string s] w (RetV (.bool (digB (nb s))) w) := by
  obtain ⟨u, hu, h⟩ := trimDig_eq s
  have HU := Lib.hid hu; clear hu
  rcases h with ⟨h1, h2⟩ | ⟨h1, h2, h3⟩
  all_goals
    have HB := Lib.hid h1; clear h1
    go_enter Tryz.func116, Tryz.ntmps116
    go_wp2_with (first
      | (go_at_call 67; refine (trimDig_any s _ hs).mono ?_; rintro e w' ⟨rfl, hg⟩; rw [HU.out]; have HG := Lib.hid hg; clear hg)
      | fail)
    go_ret
    exact ⟨by rw [HB.out]; rfl, HG.out⟩
/-- From lo to hi digits, and nothing else. -/
def digN (l : List Nat) (lo hi : Int) : Bool := decide (lo ≤ l.length) && decide ((l.length : Int) ≤ hi) && digB l
set_option maxHeartbeats 2000000 in
theorem digitsOf_any (s : ByteArray) (lo hi : Int) (w : World) (hs : s.size ≤ 1000000) : Calls Tryz.prog 79 #[.string s, .int .i64 lo, .int .i64 hi] w (RetV (.bool (digN (nb s) lo hi)) w) := by
  have HV := Lib.hid (show digN (nb s) lo hi = (decide (lo ≤ s.size) && decide ((s.size : Int) ≤ hi) && digB (nb s)) by unfold digN; rw [nb_len])
  obtain ⟨B, hB⟩ : ∃ B, digB (nb s) = B := ⟨_, rfl⟩
  have HB := Lib.hid hB; clear hB
  by_cases h1 : lo ≤ (s.size : Int) <;> by_cases h2 : (s.size : Int) ≤ hi
  · have d1 : decide (lo ≤ (s.size : Int)) = true := decide_eq_true h1
    have d2 : decide ((s.size : Int) ≤ hi) = true := decide_eq_true h2
    replace HV := Lib.hid (show digN (nb s) lo hi = digB (nb s) by rw [HV.out, d1, d2]; rfl)
    go_enter Tryz.func79, Tryz.ntmps79
    go_wp2_with (first
      | (go_at_call 116; refine (isDigits_any s _ hs).mono ?_; rintro e w' ⟨rfl, hg⟩; have HG := Lib.hid hg; clear hg)
      | fail)
    go_ret
    exact ⟨by rw [HV.out]; rfl, HG.out⟩
  · have d1 : decide (lo ≤ (s.size : Int)) = true := decide_eq_true h1
    have d2 : decide ((s.size : Int) ≤ hi) = false := decide_eq_false h2
    replace HV := Lib.hid (show digN (nb s) lo hi = false by rw [HV.out, d1, d2]; rfl)
    go_enter Tryz.func79, Tryz.ntmps79
    go_wp2_with fail
    go_ret
    exact ⟨by rw [HV.out]; rfl, gr_refl _ _⟩
  all_goals
    have d1 : decide (lo ≤ (s.size : Int)) = false := decide_eq_false h1
    replace HV := Lib.hid (show digN (nb s) lo hi = false by rw [HV.out, d1]; rfl)
    go_enter Tryz.func79, Tryz.ntmps79
    go_wp2_with fail
    go_ret
    exact ⟨by rw [HV.out]; rfl, gr_refl _ _⟩
theorem phOk_none {l : List Nat} (h : plusOf l = none) : phOk l = false := by unfold phOk; rw [h]; rfl
theorem phOk_some {l d : List Nat} (h : plusOf l = some d) : phOk l = (digN d 4 15 && decide (d.getD 0 0 ≠ 48)) := by
  unfold phOk digN
  rw [h]
  show (decide (4 ≤ d.length) && decide (d.length ≤ 15) && digB d && decide (d.getD 0 0 ≠ 48)) = _
  congr 3
  all_goals
    rw [Bool.eq_iff_iff]
    simp only [Bool.and_eq_true, decide_eq_true_eq]
    omega
set_option maxHeartbeats 2000000 in
theorem isNumber_any (s : ByteArray) (w : World) (hs : s.size ≤ 1000000) : Calls Tryz.prog 38 #[.string s] w (RetV (.bool (phOk (nb s))) w) := by
  obtain ⟨d, b, hd, hb, hsz, h⟩ := plus_cut s
  have HD := Lib.hid hd; have HB := Lib.hid hb; clear hd hb
  rcases h with ⟨rfl, h⟩ | ⟨rfl, h⟩
  · have HV := Lib.hid (phOk_none h); clear h
    go_enter Tryz.func38, Tryz.ntmps38
    go_wp2_with (first
      | (go_at_call 78; refine (cutPlus_any s d false _ HD.out HB.out).mono ?_; rintro e w' ⟨rfl, rfl⟩)
      | fail)
    go_ret
    exact ⟨by rw [HV.out]; rfl, gr_refl _ _⟩
  · have hV := phOk_some h
    obtain ⟨B, hB⟩ : ∃ B, digN (nb d) 4 15 = B := ⟨_, rfl⟩
    rw [hB] at hV
    have HN := Lib.hid hB
    have HV := Lib.hid hV; clear h hV
    cases B
    · clear hB
      go_enter Tryz.func38, Tryz.ntmps38
      go_wp2_with (first
        | (go_at_call 78; refine (cutPlus_any s d true _ HD.out HB.out).mono ?_; rintro e w' ⟨rfl, rfl⟩)
        | (go_at_call 79; refine (digitsOf_any d 4 15 _ (by omega)).mono ?_; rintro e w' ⟨rfl, hg⟩; rw [HN.out]; have HG := Lib.hid hg; clear hg)
        | fail)
      go_ret
      exact ⟨by rw [HV.out]; rfl, HG.out⟩
    · have h4 : 4 ≤ d.size := by
        unfold digN at hB
        rw [nb_len] at hB
        simp only [Bool.and_eq_true, decide_eq_true_eq] at hB
        omega
      clear hB
      obtain ⟨q, hq⟩ : ∃ q, d[0].toNat = q := ⟨_, rfl⟩
      have HQ := Lib.hid (show (nb d).getD 0 0 = q by rw [← nb_get (by omega), hq])
      by_cases h48 : q = 48
      · have e1 : ((q : Int) != 48) = false := by rw [h48]; rfl
        have HF := Lib.hid (show phOk (nb s) = false by rw [HV.out, HQ.out, h48]; rfl)
        clear h48
        go_enter Tryz.func38, Tryz.ntmps38
        go_wp2_with (first
          | (go_at_call 78; refine (cutPlus_any s d true _ HD.out HB.out).mono ?_; rintro e w' ⟨rfl, rfl⟩)
          | (go_at_call 79; refine (digitsOf_any d 4 15 _ (by omega)).mono ?_; rintro e w' ⟨rfl, hg⟩; rw [HN.out]; have HG := Lib.hid hg; clear hg)
          | fail)
        go_ret
        exact ⟨by rw [HF.out]; rfl, HG.out⟩
      · have e1 : ((q : Int) != 48) = true := by rw [bne_iff_ne]; omega
        have HF := Lib.hid (show phOk (nb s) = true by rw [HV.out, HQ.out, decide_eq_true h48]; rfl)
        clear h48
        go_enter Tryz.func38, Tryz.ntmps38
        go_wp2_with (first
          | (go_at_call 78; refine (cutPlus_any s d true _ HD.out HB.out).mono ?_; rintro e w' ⟨rfl, rfl⟩)
          | (go_at_call 79; refine (digitsOf_any d 4 15 _ (by omega)).mono ?_; rintro e w' ⟨rfl, hg⟩; rw [HN.out]; have HG := Lib.hid hg; clear hg)
          | fail)
        go_ret
        exact ⟨by rw [HF.out]; rfl, HG.out⟩
theorem nb_digS : nb ⟨#[48, 49, 50, 51, 52, 53, 54, 55, 56, 57]⟩ = digSigns := by decide +kernel
theorem digits_str : ∃ dg : ByteArray, (⟨#[48, 49, 50, 51, 52, 53, 54, 55, 56, 57]⟩ : ByteArray) = dg ∧ ∀ s : ByteArray, (nb s).all (fun b => decide (b ∈ nb dg)) = digB (nb s) := ⟨_, rfl, fun s => by rw [nb_digS]; rfl⟩
set_option maxHeartbeats 2000000 in
theorem phoneNumber_any (s : ByteArray) (w : World) (hs : s.size ≤ 1000000) : Calls Tryz.prog 53 #[.string s] w (RetV (.bool (phOk (nb s))) w) := by
  obtain ⟨d, b, hd, hb, hsz, h⟩ := plus_cut s
  have HD := Lib.hid hd; have HB := Lib.hid hb; clear hd hb
  obtain ⟨dg, hdg, hall⟩ := digits_str
  have HA := Lib.hid hall; clear hall
  rcases h with ⟨rfl, h⟩ | ⟨rfl, h⟩
  · have HV := Lib.hid (phOk_none h); clear h
    go_enter Tryz.func53, Tryz.ntmps53
    go_wp2_with (first
      | (go_at_call 78; refine (cutPlus_any s d false _ HD.out HB.out).mono ?_; rintro e w' ⟨rfl, rfl⟩)
      | fail)
    go_ret
    exact ⟨by rw [HV.out]; rfl, gr_refl _ _⟩
  · have hV := phOk_some h
    obtain ⟨B1, hB1⟩ : ∃ B, inB (d.size : Int) 4 15 = B := ⟨_, rfl⟩
    obtain ⟨B2, hB2⟩ : ∃ B, digB (nb d) = B := ⟨_, rfl⟩
    have hN : digN (nb d) 4 15 = (B1 && B2) := by unfold digN; rw [nb_len, hB2, ← hB1]; rfl
    rw [hN] at hV
    have HV := Lib.hid hV; have H1 := Lib.hid hB1; have H2 := Lib.hid hB2; clear h hV hN hB2
    cases B1
    · clear hB1
      go_enter Tryz.func53, Tryz.ntmps53
      go_wp2_with (first
        | (go_at_call 78; refine (cutPlus_any s d true _ HD.out HB.out).mono ?_; rintro e w' ⟨rfl, rfl⟩)
        | (go_at_call 55; refine (in_any _ _ _ _).mono ?_; rintro e w' ⟨rfl, rfl⟩; rw [H1.out])
        | fail)
      go_ret
      exact ⟨by rw [HV.out]; rfl, gr_refl _ _⟩
    · have h4 : 4 ≤ d.size := by
        unfold inB at hB1
        simp only [Bool.and_eq_true, decide_eq_true_eq] at hB1
        omega
      clear hB1
      cases B2
      · go_enter Tryz.func53, Tryz.ntmps53
        go_wp2_with (first
          | (go_at_call 78; refine (cutPlus_any s d true _ HD.out HB.out).mono ?_; rintro e w' ⟨rfl, rfl⟩)
          | (go_at_call 55; refine (in_any _ _ _ _).mono ?_; rintro e w' ⟨rfl, rfl⟩; rw [H1.out])
          | (go_at_call 90; refine (onlyS_any d dg _ (by omega)).mono ?_; rintro e w' ⟨rfl, rfl⟩; rw [HA.out, H2.out])
          | fail)
        go_ret
        exact ⟨by rw [HV.out]; rfl, gr_refl _ _⟩
      · obtain ⟨q, hq⟩ : ∃ q, d[0].toNat = q := ⟨_, rfl⟩
        have HQ := Lib.hid (show (nb d).getD 0 0 = q by rw [← nb_get (by omega), hq])
        obtain ⟨C, hC⟩ : ∃ C, ((q : Int) != 48) = C := ⟨_, rfl⟩
        have HF := Lib.hid (show phOk (nb s) = C by
          rw [HV.out, HQ.out, ← hC]
          by_cases h48 : q = 48
          · rw [h48]; rfl
          · rw [decide_eq_true h48, (bne_iff_ne (a := (q : Int)) (b := 48)).2 (by omega)]; rfl)
        cases C
        all_goals
          go_enter Tryz.func53, Tryz.ntmps53
          go_wp2_with (first
            | (go_at_call 78; refine (cutPlus_any s d true _ HD.out HB.out).mono ?_; rintro e w' ⟨rfl, rfl⟩)
            | (go_at_call 55; refine (in_any _ _ _ _).mono ?_; rintro e w' ⟨rfl, rfl⟩; rw [H1.out])
            | (go_at_call 90; refine (onlyS_any d dg _ (by omega)).mono ?_; rintro e w' ⟨rfl, rfl⟩; rw [HA.out, H2.out])
            | fail)
          go_ret
          exact ⟨by rw [HF.out]; rfl, gr_refl _ _⟩
theorem pfOk_none {l : List Nat} (h : plusOf l = none) (h1 : l ≠ []) : pfOk l = false := by unfold pfOk; rw [h, decide_eq_false h1]; rfl
theorem pfOk_some {l d : List Nat} (h : plusOf l = some d) : pfOk l = (decide (d.length ≤ 15) && digB d) := by
  unfold pfOk
  rw [h]
  cases l with
  | nil => cases h
  | cons a l => rfl
set_option maxHeartbeats 2000000 in
theorem isPrefix_any (s : ByteArray) (w : World) (hs : s.size ≤ 1000000) : Calls Tryz.prog 91 #[.string s] w (RetV (.bool (pfOk (nb s))) w) := by
  obtain ⟨d, b, hd, hb, hsz, h⟩ := plus_cut s
  have HD := Lib.hid hd; have HB := Lib.hid hb; clear hd hb
  rcases h with ⟨rfl, h⟩ | ⟨rfl, h⟩
  · by_cases hn : nb s = []
    · have HV := Lib.hid (show pfOk (nb s) = true by rw [hn]; rfl)
      have e1 := str_nil hn
      clear h hn
      go_enter Tryz.func91, Tryz.ntmps91
      go_wp2_with (first
        | (go_at_call 78; refine (cutPlus_any s d false _ HD.out HB.out).mono ?_; rintro e w' ⟨rfl, rfl⟩)
        | fail)
      go_ret
      exact ⟨by rw [HV.out]; rfl, gr_refl _ _⟩
    · have HV := Lib.hid (pfOk_none h hn)
      obtain ⟨e1, e2, e3⟩ := str_full hn
      clear h hn
      go_enter Tryz.func91, Tryz.ntmps91
      go_wp2_with (first
        | (go_at_call 78; refine (cutPlus_any s d false _ HD.out HB.out).mono ?_; rintro e w' ⟨rfl, rfl⟩)
        | fail)
      go_ret
      exact ⟨by rw [HV.out]; rfl, gr_refl _ _⟩
  · have hV := pfOk_some h
    have hn : ¬ nb s = [] := fun e => by rw [e] at h; cases h
    obtain ⟨e1, e2, e3⟩ := str_full hn
    rw [nb_len] at hV
    obtain ⟨u, hu, hc⟩ := trimDig_eq d
    have HU := Lib.hid hu; have HV := Lib.hid hV; clear hu hV h hn
    by_cases h15 : d.size ≤ 15
    · have d1 : decide ((d.size : Int) ≤ 15) = true := decide_eq_true (by omega)
      rcases hc with ⟨h1, h2⟩ | ⟨h1, h2, h3⟩
      all_goals
        have HF := Lib.hid (show pfOk (nb s) = _ by rw [HV.out, decide_eq_true h15, h1, Bool.true_and])
        clear h1
        go_enter Tryz.func91, Tryz.ntmps91
        go_wp2_with (first
          | (go_at_call 78; refine (cutPlus_any s d true _ HD.out HB.out).mono ?_; rintro e w' ⟨rfl, rfl⟩)
          | (go_at_call 67; refine (trimDig_any d _ (by omega)).mono ?_; rintro e w' ⟨rfl, hg⟩; rw [HU.out]; have HG := Lib.hid hg; clear hg)
          | fail)
        go_ret
        exact ⟨by rw [HF.out]; rfl, HG.out⟩
    · have d1 : decide ((d.size : Int) ≤ 15) = false := decide_eq_false (by omega)
      have HF := Lib.hid (show pfOk (nb s) = false by rw [HV.out, decide_eq_false h15]; rfl)
      clear hc
      go_enter Tryz.func91, Tryz.ntmps91
      go_wp2_with (first
        | (go_at_call 78; refine (cutPlus_any s d true _ HD.out HB.out).mono ?_; rintro e w' ⟨rfl, rfl⟩)
        | fail)
      go_ret
      exact ⟨by rw [HF.out]; rfl, gr_refl _ _⟩
set_option maxHeartbeats 1000000 in
theorem withinA_any (n lo hi : Int) (w : World) : Calls Tryz.prog 92 #[.int .i64 n, .int .i64 lo, .int .i64 hi] w (Same (.bool (inB n lo hi)) w) := by
  have H := Lib.hid (show inB n lo hi = (decide (lo ≤ n) && decide (n ≤ hi)) from rfl)
  by_cases h1 : lo ≤ n <;> by_cases h2 : n ≤ hi
  all_goals
    go_enter Tryz.func92, Tryz.ntmps92
    go_wp2
    go_ret
    exact ⟨by rw [H.out]; simp [h1, h2], rfl⟩
end
end Go.Proofs.YtfakdalpaopjaaaGreatDoor
/- Contracts of account.CheckPayers and of the document's PayersFault. Conditions: none. -/
namespace Go.Proofs.YtfakdalpaopjaaaGreatDoor
section
open Go.RowKit

theorem Tryz.pyT : StructT Tryz.prog 70 2 := ⟨_, Tryz.underlying70, rfl, by kernel_rfl⟩
theorem payAt_pe {l : List PyV} {i : Nat} {z b : PyV} (h : l[i]? = some z) (h1 : keyOk (nb z.key) = true) (hb : l[i - 1]? = some b) (h3 : leS z.key b.key = false) : payAt l i = if 500 < z.nn then 2 else fstE (numAt (hadN l i) z.nums) z.nn := by
  simp only [payAt, h, Option.elim, h1, hb, h3, Bool.and_false]; rfl
theorem payAt_pz {l : List PyV} {i : Nat} {z : PyV} (h : l[i]? = some z) (h1 : keyOk (nb z.key) = true) (hi : ¬ 0 < i) : payAt l i = if 500 < z.nn then 2 else fstE (numAt (hadN l i) z.nums) z.nn := by
  simp only [payAt, h, Option.elim, h1, decide_eq_false hi, Bool.false_and]; rfl
theorem hadN_one (l : List PyV) (i : Nat) {ns : List ByteArray} {j : Nat} {s : ByteArray} (h : ns[j]? = some s) : hadN l i ++ ns.take (j + 1) = (hadN l i ++ ns.take j) ++ [s] := by
  rw [take_snoc' h, List.append_assoc]
set_option maxHeartbeats 8000000 in
set_option maxRecDepth 100000 in
theorem checkPayers_any (lo : Nat) (A : Option Addr) (n c : Nat) (l : List PyV) (w : World) (h : Pys w lo A n c l) (hn : n ≤ 1000000000) :
    Calls Tryz.prog 37 #[.slice A n c] w (RetV (.int .i64 (pysE l)) w) := by
  have H := Lib.hid h; clear h
  by_cases hb : 500 < n
  · have HF := Lib.hid (show pysE l = 2 by unfold pysE; rw [if_pos (by rw [H.out.1.len]; exact hb)])
    have hb' : decide ((500 : Int) < (n : Int)) = true := decide_eq_true (by omega)
    go_enter Tryz.func37, Tryz.ntmps37
    go_wp2_with fail
    go_ret
    exact ⟨by rw [HF.out]; rfl, gr_refl _ _⟩
  · have hb' : decide ((500 : Int) < (n : Int)) = false := decide_eq_false (by omega)
    have HF := Lib.hid (show pysE l = fstE (payAt l) n by unfold pysE; rw [if_neg (by rw [H.out.1.len]; exact hb), H.out.1.len])
    have hmm := @run_makeMap Tryz.prog
    go_enter Tryz.func37, Tryz.ntmps37
    go_wp2_with fail
    clear hmm
    go_loopw [4, 5, 14] (fun _ _ t wr => ∃ k s m : Nat, k ≤ n ∧ t = .int .i64 k ∧ w.grownBy wr none ∧ SetS wr w.heap.size m (hadN l k) s ∧ m ≤ 500 * k ∧ fstE (payAt l) k = 0) (fun _ _ t _ => n - (intOf t).toNat)
    case atStart => exact ⟨0, 0, 0, Nat.zero_le _, rfl, gr_alloc (gr_refl _ _) _, SetS.new _, by omega, rfl⟩
    case round =>
      obtain ⟨k, s0, m, hk, rfl, hg, hset, hm, ha⟩ := hrel
      have zr := hg.size
      have zs : w.heap.size < wr.heap.size := by obtain ⟨_, h1, _⟩ := hset; exact h1.lt
      have HA := Lib.hid ha; have HG := Lib.hid hg; have HSET := Lib.hid hset; clear ha hg hset
      by_cases hlt : k < n
      · obtain ⟨g, o, ⟨key, nA, nn, nc, nums⟩, rfl, _, hgl, hz, hcc⟩ := (H.out.1.grown HG.out (fun g e => by cases e)).get PyV.row_len hlt
        obtain ⟨⟨p1, p2, p3⟩, p4⟩ := H.out.2 _ (mem_of_get hz)
        dsimp only at p1 p2 p3 p4
        have HP2 := Lib.hid p2; have HPN := Lib.hid p4; clear p2 p4
        have HZ := Lib.hid hz; have HC := Lib.hid hcc; clear hz hcc
        go_wp2_with (first
          | (refine wpl_load_at Tryz.pyT rfl _ rfl _ rfl [.string key, .slice nA nn nc] rfl (fun j u hu => by rw [add_mk]; exact HC.out j u hu) ?_)
          | fail)
        refine (isKey_any key _ (by omega)).mono ?_
        rintro e w2 ⟨rfl, hg2⟩
        have hsB := (Blk.new wr 70 #[.string key, .slice nA nn nc]).grown hg2 (by simp)
        have k0 := hsB.cell 0
        have k1 := hsB.cell 1
        replace HSET := Lib.hid ((HSET.out.kept (gr_alloc (gr_refl _ none) _) (by simp)).kept hg2 (by simp))
        replace HG := Lib.hid (gr_none (gr_alloc HG.out _) hg2)
        have HB := Lib.hid hsB
        have z2 := hg2.size; simp at z2
        clear hg2 hsB
        cases hB1 : keyOk (nb key)
        · have e := payAt_5 HZ.out hB1
          have HFIN := Lib.hid (show pysE l = 5 by rw [HF.out, fstE_stop HA.out (by rw [e]; decide) hlt, e])
          clear e
          go_wp2_with fail
          go_ret
          exact ⟨by rw [HFIN.out]; rfl, HG.out⟩
        · by_cases h0 : 0 < k
          · obtain ⟨⟨key', nA', nn', nc', nums'⟩, hb⟩ : ∃ b, l[k - 1]? = some b := ⟨_, List.getElem?_eq_getElem (by rw [H.out.1.len]; omega)⟩
            have kb := (H.out.1.grown HG.out (fun g e => by cases e)).at_ PyV.row_len hb 0 _ rfl
            simp only [Nat.add_zero] at kb
            have HBB := Lib.hid hb; clear hb
            have hi0 : decide ((0 : Int) < (k : Int)) = true := by simpa using h0
            have s2 : (0 : Int) ≤ (k : Int) - 1 := by omega
            have s5 : (1 : Int) ≤ (k : Int) := by omega
            have s3 : (k : Int) - 1 < (n : Int) := by omega
            have s6 : (0 : Int) < (n : Int) := by omega
            have s1 : IntKind.i64.wrap ((k : Int) - 1) = (k : Int) - 1 := IntWalk.i64_in _ (by omega)
            have s4 : ((k : Int) - 1).toNat = k - 1 := by omega
            cases h7 : (Op.bytesLess key.toList key'.toList || key.toList == key'.toList)
            · have HPA := Lib.hid (payAt_pe HZ.out hB1 HBB.out h7)
              go_wp2_with fail
              go_quiet (fail)
              clear s1 s4
              by_cases c5 : 500 < nn
              · have d5 : decide ((500 : Int) < (nn : Int)) = true := decide_eq_true (by omega)
                have e := HPA.out
                rw [if_pos c5] at e
                have HFIN := Lib.hid (show pysE l = 2 by rw [HF.out, fstE_stop HA.out (by rw [e]; decide) hlt, e])
                clear e
                go_wp2_with fail
                go_ret
                exact ⟨by rw [HFIN.out]; rfl, gr_drewN HG.out _⟩
              · have d5 : decide ((500 : Int) < (nn : Int)) = false := decide_eq_false (by omega)
                replace HPA := Lib.hid (show payAt l k = fstE (numAt (hadN l k) nums) nn by rw [HPA.out, if_neg c5])
                go_wp2_with fail
                clear k0 k1 HB
                have hlw : wr.heap.size ≤ w2.heap.size := by omega
                obtain ⟨wo, rfl⟩ : ∃ wo : World, wo = wr := ⟨_, rfl⟩
                go_loopw [7, 46] (fun _ t wr => ∃ j s m : Nat, j ≤ nn ∧ t = .int .i64 j ∧ w.grownBy wr none ∧ SetS wr w.heap.size m (hadN l k ++ nums.take j) s ∧ m ≤ 500 * k + j ∧ fstE (numAt (hadN l k) nums) j = 0) (fun _ t _ => nn - (intOf t).toNat)
                case atStart => exact ⟨0, _, m, Nat.zero_le _, rfl, gr_drewN HG.out _, by rw [List.take_zero, List.append_nil]; exact HSET.out.kept (gr_drewN (gr_refl _ none) _) (by simp), by omega, rfl⟩
                case round =>
                  clear HG HSET
                  obtain ⟨j, s1, m1, hj, rfl, hg, hset, hm1, ha⟩ := hrel
                  have zr1 := hg.size
                  have zs1 : w.heap.size < wr.heap.size := by obtain ⟨_, h1, _⟩ := hset; exact h1.lt
                  have HN := Lib.hid ha; have HG := Lib.hid hg; have HSET := Lib.hid hset; clear ha hg hset
                  by_cases hlt2 : j < nn
                  · obtain ⟨g2, o2, s, rfl, _, hgl2, hz, hcc⟩ := (HPN.out.grown HG.out (fun g e => by cases e)).get srow_len hlt2
                    have hsz : s.size ≤ 1000 := HP2.out _ (mem_of_get hz)
                    have ks := hcc 0 _ rfl
                    simp only [Nat.mul_one, Nat.add_zero] at ks
                    have HS := Lib.hid hz; clear hz hcc
                    go_wp2_with fail
                    refine (isNumber_any s _ (by omega)).mono ?_
                    rintro e w3 ⟨rfl, hg3⟩
                    replace HSET := Lib.hid (HSET.out.kept hg3 (by simp))
                    replace HG := Lib.hid (gr_none HG.out hg3)
                    have z3 := hg3.size
                    clear hg3 ks
                    cases hB2 : phOk (nb s)
                    · have e := numAt_3 (had := hadN l k) HS.out hB2
                      have HFIN := Lib.hid (show pysE l = 3 by rw [HF.out, fstE_stop HA.out (by rw [HPA.out, fstE_stop HN.out (by rw [e]; decide) hlt2, e]; decide) hlt, HPA.out, fstE_stop HN.out (by rw [e]; decide) hlt2, e])
                      clear e
                      go_wp2_with fail
                      go_ret
                      exact ⟨by rw [HFIN.out]; rfl, HG.out⟩
                    · obtain ⟨M, hM⟩ : ∃ M, memS (hadN l k ++ nums.take j) s = M := ⟨_, rfl⟩
                      have HM := Lib.hid hM; clear hM
                      cases M
                      · have HE := Lib.hid (numAt_z HS.out hB2 HM.out)
                        go_wp2_with (first
                          | (at_lookup; refine wpl_slook rfl _ _ rfl rfl s rfl (by unfold maxLen; omega) HSET.out ?_; rw [HM.out])
                          | (at_mapUpdate
                             refine wpl_sput rfl _ _ _ rfl rfl s rfl rfl (by unfold maxLen; omega) (by exact HSET.out) (by unfold maxLen; omega) ?_
                             intro w5 hset5 hg5
                             have HS5 := Lib.hid hset5; have HG5 := Lib.hid (gr_trans HG.out hg5 (fun g e => .inr (by injection e with e; omega)))
                             clear hset5 hg5)
                          | fail)
                        go_roundw
                        case rel => exact ⟨j + 1, _, _, by omega, by go_num, HG5.out, by rw [hadN_one l k HS.out]; exact HS5.out, by omega, fstE_zero HN.out HE.out⟩
                        case measure => simp [intOf]; omega
                      · have e := numAt_6 HS.out hB2 HM.out
                        have HFIN := Lib.hid (show pysE l = 6 by rw [HF.out, fstE_stop HA.out (by rw [HPA.out, fstE_stop HN.out (by rw [e]; decide) hlt2, e]; decide) hlt, HPA.out, fstE_stop HN.out (by rw [e]; decide) hlt2, e])
                        clear e
                        go_wp2_with (first
                          | (at_lookup; refine wpl_slook rfl _ _ rfl rfl s rfl (by unfold maxLen; omega) HSET.out ?_; rw [HM.out])
                          | fail)
                        go_ret
                        exact ⟨by rw [HFIN.out]; rfl, HG.out⟩
                  · obtain rfl : j = nn := by omega
                    have HE := Lib.hid (show payAt l k = 0 by rw [HPA.out, HN.out])
                    have HT := Lib.hid (show SetS wr w.heap.size m1 (hadN l (k + 1)) s1 by
                      rw [hadN_succ HZ.out]
                      have h := HSET.out
                      rw [List.take_of_length_le (by rw [HPN.out.len]; exact Nat.le_refl _)] at h
                      exact h)
                    go_wp2_with fail
                    go_roundw
                    case rel => exact ⟨k + 1, _, _, by omega, by go_num, HG.out, HT.out, by omega, fstE_zero HA.out HE.out⟩
                    case measure => simp [intOf]; omega
            · have e := payAt_7 HZ.out hB1 h0 HBB.out h7
              have HFIN := Lib.hid (show pysE l = 7 by rw [HF.out, fstE_stop HA.out (by rw [e]; decide) hlt, e])
              clear e
              go_wp2_with fail
              go_quiet (fail)
              go_wp2_with fail
              go_ret
              exact ⟨by rw [HFIN.out]; rfl, gr_drewN HG.out _⟩
          · have HPA := Lib.hid (payAt_pz HZ.out hB1 h0)
            have hi0 : decide ((0 : Int) < (k : Int)) = false := decide_eq_false (by omega)
            go_wp2_with fail
            go_quiet (fail)
            by_cases c5 : 500 < nn
            · have d5 : decide ((500 : Int) < (nn : Int)) = true := decide_eq_true (by omega)
              have e := HPA.out
              rw [if_pos c5] at e
              have HFIN := Lib.hid (show pysE l = 2 by rw [HF.out, fstE_stop HA.out (by rw [e]; decide) hlt, e])
              clear e
              go_wp2_with fail
              go_ret
              exact ⟨by rw [HFIN.out]; rfl, gr_drewN HG.out _⟩
            · have d5 : decide ((500 : Int) < (nn : Int)) = false := decide_eq_false (by omega)
              replace HPA := Lib.hid (show payAt l k = fstE (numAt (hadN l k) nums) nn by rw [HPA.out, if_neg c5])
              go_wp2_with fail
              clear k0 k1 HB
              have hlw : wr.heap.size ≤ w2.heap.size := by omega
              obtain ⟨wo, rfl⟩ : ∃ wo : World, wo = wr := ⟨_, rfl⟩
              go_loopw [7, 46] (fun _ t wr => ∃ j s m : Nat, j ≤ nn ∧ t = .int .i64 j ∧ w.grownBy wr none ∧ SetS wr w.heap.size m (hadN l k ++ nums.take j) s ∧ m ≤ 500 * k + j ∧ fstE (numAt (hadN l k) nums) j = 0) (fun _ t _ => nn - (intOf t).toNat)
              case atStart => exact ⟨0, _, m, Nat.zero_le _, rfl, gr_drewN HG.out _, by rw [List.take_zero, List.append_nil]; exact HSET.out.kept (gr_drewN (gr_refl _ none) _) (by simp), by omega, rfl⟩
              case round =>
                clear HG HSET
                obtain ⟨j, s1, m1, hj, rfl, hg, hset, hm1, ha⟩ := hrel
                have zr1 := hg.size
                have zs1 : w.heap.size < wr.heap.size := by obtain ⟨_, h1, _⟩ := hset; exact h1.lt
                have HN := Lib.hid ha; have HG := Lib.hid hg; have HSET := Lib.hid hset; clear ha hg hset
                by_cases hlt2 : j < nn
                · obtain ⟨g2, o2, s, rfl, _, hgl2, hz, hcc⟩ := (HPN.out.grown HG.out (fun g e => by cases e)).get srow_len hlt2
                  have hsz : s.size ≤ 1000 := HP2.out _ (mem_of_get hz)
                  have ks := hcc 0 _ rfl
                  simp only [Nat.mul_one, Nat.add_zero] at ks
                  have HS := Lib.hid hz; clear hz hcc
                  go_wp2_with fail
                  refine (isNumber_any s _ (by omega)).mono ?_
                  rintro e w3 ⟨rfl, hg3⟩
                  replace HSET := Lib.hid (HSET.out.kept hg3 (by simp))
                  replace HG := Lib.hid (gr_none HG.out hg3)
                  have z3 := hg3.size
                  clear hg3 ks
                  cases hB2 : phOk (nb s)
                  · have e := numAt_3 (had := hadN l k) HS.out hB2
                    have HFIN := Lib.hid (show pysE l = 3 by rw [HF.out, fstE_stop HA.out (by rw [HPA.out, fstE_stop HN.out (by rw [e]; decide) hlt2, e]; decide) hlt, HPA.out, fstE_stop HN.out (by rw [e]; decide) hlt2, e])
                    clear e
                    go_wp2_with fail
                    go_ret
                    exact ⟨by rw [HFIN.out]; rfl, HG.out⟩
                  · obtain ⟨M, hM⟩ : ∃ M, memS (hadN l k ++ nums.take j) s = M := ⟨_, rfl⟩
                    have HM := Lib.hid hM; clear hM
                    cases M
                    · have HE := Lib.hid (numAt_z HS.out hB2 HM.out)
                      go_wp2_with (first
                        | (at_lookup; refine wpl_slook rfl _ _ rfl rfl s rfl (by unfold maxLen; omega) HSET.out ?_; rw [HM.out])
                        | (at_mapUpdate
                           refine wpl_sput rfl _ _ _ rfl rfl s rfl rfl (by unfold maxLen; omega) (by exact HSET.out) (by unfold maxLen; omega) ?_
                           intro w5 hset5 hg5
                           have HS5 := Lib.hid hset5; have HG5 := Lib.hid (gr_trans HG.out hg5 (fun g e => .inr (by injection e with e; omega)))
                           clear hset5 hg5)
                        | fail)
                      go_roundw
                      case rel => exact ⟨j + 1, _, _, by omega, by go_num, HG5.out, by rw [hadN_one l k HS.out]; exact HS5.out, by omega, fstE_zero HN.out HE.out⟩
                      case measure => simp [intOf]; omega
                    · have e := numAt_6 HS.out hB2 HM.out
                      have HFIN := Lib.hid (show pysE l = 6 by rw [HF.out, fstE_stop HA.out (by rw [HPA.out, fstE_stop HN.out (by rw [e]; decide) hlt2, e]; decide) hlt, HPA.out, fstE_stop HN.out (by rw [e]; decide) hlt2, e])
                      clear e
                      go_wp2_with (first
                        | (at_lookup; refine wpl_slook rfl _ _ rfl rfl s rfl (by unfold maxLen; omega) HSET.out ?_; rw [HM.out])
                        | fail)
                      go_ret
                      exact ⟨by rw [HFIN.out]; rfl, HG.out⟩
                · obtain rfl : j = nn := by omega
                  have HE := Lib.hid (show payAt l k = 0 by rw [HPA.out, HN.out])
                  have HT := Lib.hid (show SetS wr w.heap.size m1 (hadN l (k + 1)) s1 by
                    rw [hadN_succ HZ.out]
                    have h := HSET.out
                    rw [List.take_of_length_le (by rw [HPN.out.len]; exact Nat.le_refl _)] at h
                    exact h)
                  go_wp2_with fail
                  go_roundw
                  case rel => exact ⟨k + 1, _, _, by omega, by go_num, HG.out, HT.out, by omega, fstE_zero HA.out HE.out⟩
                  case measure => simp [intOf]; omega
      · obtain rfl : k = n := by omega
        go_wp2_with fail
        go_ret
        exact ⟨by rw [HF.out, HA.out]; rfl, HG.out⟩
end
end Go.Proofs.YtfakdalpaopjaaaGreatDoor
/- Contracts of the generators of numbers and payers. Conditions: none. -/
namespace Go.Proofs.YtfakdalpaopjaaaGreatDoor
section
open Go.RowKit

set_option maxHeartbeats 2000000 in
theorem phone_any (sb : Nat) (m : Int) (w : World) (hs : Str w sb m) (hm : m ≤ 1000000000000) : Calls Tryz.prog 46 #[.pointer (some ⟨sb, 0, none⟩)] w (Drawn sb (m + 2) (StrBd 20) w) := by
  have hlt := hs.lt
  have HS := Lib.hid hs; clear hs
  have HG := Lib.hid (gr_refl w (some sb))
  go_enter Tryz.func46, Tryz.ntmps46
  go_wp2_with fail
  refine (flip_any sb _ 25 _ (by first | exact HS.out | exact HS.out.alloc _ | exact (HS.out.alloc _).alloc _ | exact ((HS.out.alloc _).alloc _).alloc _ | exact HS.out.drewN _ | exact HS.out.setCell (by simp; omega) _ | exact (HS.out.alloc _).setCell (by simp; omega) _ | exact (HS.out.setCell (by simp; omega) _).alloc _ | exact (HS.out.setCell (by simp; omega) _).drewN _ | exact (HS.out.alloc _).drewN _) (by omega) (by omega) (by omega)).mono ?_
  rintro e w1 ⟨v1, rfl, ⟨f1, rfl⟩, hs1, hg1⟩
  have z1 := hg1.size; try simp at z1
  try replace HZ := Lib.hid (HZ.out.grown hg1 (by simp; omega))
  try replace HP := Lib.hid (HP.out.grown hg1 (by simp; omega))
  try replace HGA := Lib.hid (HGA.out.kept hg1 (fun g e => by injection e with e; omega))
  try replace HY := Lib.hid (Own.kept HY.out hg1 (fun g e e' => by injection e with e; have := (HY.out.lt e').1; omega))
  replace HG := Lib.hid (gr_same (a := w) (by repeat (first | exact HG.out | refine gr_alloc ?_ _ | refine gr_drew ?_ | refine gr_drewN ?_ _ | refine gr_setCell ?_ (.inr (by simp; omega)) _)) hg1); clear hg1
  replace HS := Lib.hid hs1; clear hs1
  cases f1
  · go_wp2_with fail
    refine (some_new (n := 9) sb _ 20 _ (by first | exact HS.out | exact HS.out.alloc _ | exact (HS.out.alloc _).alloc _ | exact ((HS.out.alloc _).alloc _).alloc _ | exact HS.out.drewN _ | exact HS.out.setCell (by simp; omega) _ | exact (HS.out.alloc _).setCell (by simp; omega) _ | exact (HS.out.setCell (by simp; omega) _).alloc _ | exact (HS.out.setCell (by simp; omega) _).drewN _ | exact (HS.out.alloc _).drewN _) (by omega) (by simp) (by
      repeat (first | exact StrsOk.nil _ | refine StrsOk.cons (by decide) ?_)) rfl (by omega) (by omega)).mono ?_
    rintro e w2 ⟨v2, rfl, ⟨y2, rfl, hy2⟩, hs2, hg2⟩
    have z2 := hg2.size; try simp at z2
    try replace HZ := Lib.hid (HZ.out.grown hg2 (by simp; omega))
    try replace HP := Lib.hid (HP.out.grown hg2 (by simp; omega))
    try replace HGA := Lib.hid (HGA.out.kept hg2 (fun g e => by injection e with e; omega))
    try replace HY := Lib.hid (Own.kept HY.out hg2 (fun g e e' => by injection e with e; have := (HY.out.lt e').1; omega))
    replace HG := Lib.hid (gr_same (a := w) (by repeat (first | exact HG.out | refine gr_alloc ?_ _ | refine gr_drew ?_ | refine gr_drewN ?_ _ | refine gr_setCell ?_ (.inr (by simp; omega)) _)) hg2); clear hg2
    replace HS := Lib.hid hs2; clear hs2
    go_wp2_with fail
    go_ret
    exact ⟨_, rfl, ⟨y2, rfl, hy2⟩, HS.out.mono (by omega), HG.out⟩
  · go_wp2_with fail
    refine (some_new (n := 6) sb _ 20 _ (by first | exact HS.out | exact HS.out.alloc _ | exact (HS.out.alloc _).alloc _ | exact ((HS.out.alloc _).alloc _).alloc _ | exact HS.out.drewN _ | exact HS.out.setCell (by simp; omega) _ | exact (HS.out.alloc _).setCell (by simp; omega) _ | exact (HS.out.setCell (by simp; omega) _).alloc _ | exact (HS.out.setCell (by simp; omega) _).drewN _ | exact (HS.out.alloc _).drewN _) (by omega) (by simp) (by
      repeat (first | exact StrsOk.nil _ | refine StrsOk.cons (by decide) ?_)) rfl (by omega) (by omega)).mono ?_
    rintro e w2 ⟨v2, rfl, ⟨y2, rfl, hy2⟩, hs2, hg2⟩
    have z2 := hg2.size; try simp at z2
    try replace HZ := Lib.hid (HZ.out.grown hg2 (by simp; omega))
    try replace HP := Lib.hid (HP.out.grown hg2 (by simp; omega))
    try replace HGA := Lib.hid (HGA.out.kept hg2 (fun g e => by injection e with e; omega))
    try replace HY := Lib.hid (Own.kept HY.out hg2 (fun g e e' => by injection e with e; have := (HY.out.lt e').1; omega))
    replace HG := Lib.hid (gr_same (a := w) (by repeat (first | exact HG.out | refine gr_alloc ?_ _ | refine gr_drew ?_ | refine gr_drewN ?_ _ | refine gr_setCell ?_ (.inr (by simp; omega)) _)) hg2); clear hg2
    replace HS := Lib.hid hs2; clear hs2
    go_wp2_with fail
    go_ret
    exact ⟨_, rfl, ⟨y2, rfl, hy2⟩, HS.out.mono (by omega), HG.out⟩

/-! Payers. -/
def PyOwn (w : World) (lo : Nat) (p : PyV) : Prop := (p.key.size ≤ 1000 ∧ (∀ s ∈ p.nums, s.size ≤ 1000) ∧ p.nn ≤ 1000) ∧ OwnR srow 1 w lo 9 p.nA p.nn p.nc p.nums
def GPys (w : World) (lo : Nat) (A : Option Addr) (n c : Nat) (l : List PyV) : Prop := OwnR PyV.row 2 w lo 70 A n c l ∧ ∀ p ∈ l, PyOwn w lo p
section
variable {w w' : World} {lo n c : Nat} {A : Option Addr} {l : List PyV}
theorem PyOwn.ok {p : PyV} (h : PyOwn w lo p) : PyOk w lo p := ⟨h.1, h.2.recs⟩
theorem GPys.pys (h : GPys w lo A n c l) : Pys w lo A n c l := ⟨h.1.recs, fun p hp => (h.2 p hp).ok⟩
theorem GPys.low (h : GPys w lo A n c l) {r : Option Nat} (hg : w.grownBy w' r) (hr : ∀ g, r = some g → g < lo) : GPys w' lo A n c l := ⟨h.1.low hg hr, fun p hp => ⟨(h.2 p hp).1, (h.2 p hp).2.low hg hr⟩⟩
theorem GPys.prefix_ (h : GPys w lo A n c l) {i : Nat} (hi : i ≤ n) : GPys w lo A i c (l.take i) := by
  refine ⟨⟨?_, by rw [List.length_take, h.1.2]; omega⟩, fun p hp => h.2 p (List.mem_of_mem_take hp)⟩
  have h1 := h.1.1.prefix_ i hi
  have e : (l.take i).flatMap PyV.row = (l.flatMap PyV.row).take (i * 2) := by
    have h2 : l.flatMap PyV.row = (l.take i).flatMap PyV.row ++ (l.drop i).flatMap PyV.row := by rw [← List.flatMap_append, List.take_append_drop]
    have h3 : ((l.take i).flatMap PyV.row).length = i * 2 := by rw [flat_len PyV.row_len, List.length_take, h.1.2]; omega
    rw [h2, List.take_append_of_le_length (by omega)]
    exact (List.take_of_length_le (by omega)).symm
  rw [e]; exact h1
theorem GPys.app {p : PyV} (h : GPys w lo A n c l) (hp : PyOwn w lo p) {A1 : Option Addr} {c1 n1 : Nat} (hn : n1 = n + 1)
    (h1 : Appended w lo 70 2 A A1 n1 c1 (l.flatMap PyV.row ++ p.row) w') : GPys w' lo A1 n1 c1 (l ++ [p]) := by
  have keep : ∀ q, PyOwn w lo q → PyOwn w' lo q := fun q hq => ⟨hq.1, hq.2.kept h1.2.1 (fun g e => Own.ne h.1.1 hq.2.1 (by decide) e)⟩
  refine ⟨h.1.app hn h1, fun q hq => ?_⟩
  rcases List.mem_append.1 hq with hq | hq
  · exact keep q (h.2 q hq)
  · rw [List.mem_singleton.1 hq]; exact keep p hp
end
theorem right_pays (w : World) {a1 a2 b1 k1 k2 k3 : ByteArray} (h1 : a1.size ≤ 1000) (h2 : a2.size ≤ 1000) (h3 : b1.size ≤ 1000) (h4 : k1.size ≤ 1000) (h5 : k2.size ≤ 1000) (h6 : k3.size ≤ 1000) :
    GPys (((w.alloc (.cells #[.string a1, .string a2] 9)).alloc (.cells #[.string b1] 9)).alloc (.cells #[.string k1, .slice (some ⟨w.heap.size, 0, none⟩) 2 2, .string k2, .slice (some ⟨w.heap.size + 1, 0, none⟩) 1 1, .string k3, .slice none 0 0] 70)) w.heap.size
      (some ⟨w.heap.size + 2, 0, none⟩) 3 3 [⟨k1, some ⟨w.heap.size, 0, none⟩, 2, 2, [a1, a2]⟩, ⟨k2, some ⟨w.heap.size + 1, 0, none⟩, 1, 1, [b1]⟩, ⟨k3, none, 0, 0, []⟩] := by
  have o1 := Own.lit w 9 1 [.string a1, .string a2] 2 (by unfold maxLen; omega) rfl
  have o2 := Own.lit (w.alloc (.cells #[.string a1, .string a2] 9)) 9 1 [.string b1] 1 (by unfold maxLen; omega) rfl
  have o3 := Own.lit ((w.alloc (.cells #[.string a1, .string a2] 9)).alloc (.cells #[.string b1] 9)) 70 2 [.string k1, .slice (some ⟨w.heap.size, 0, none⟩) 2 2, .string k2, .slice (some ⟨w.heap.size + 1, 0, none⟩) 1 1, .string k3, .slice none 0 0] 3 (by unfold maxLen; omega) rfl
  rw [show ((w.alloc (.cells #[.string a1, .string a2] 9)).alloc (.cells #[.string b1] 9)).heap.size = w.heap.size + 2 by simp] at o3
  rw [show (w.alloc (.cells #[.string a1, .string a2] 9)).heap.size = w.heap.size + 1 by simp] at o2
  refine ⟨⟨o3.lower (by omega), rfl⟩, fun p hp => ?_⟩
  simp only [List.mem_cons, List.not_mem_nil, or_false] at hp
  rcases hp with rfl | rfl | rfl
  · refine ⟨⟨h4, fun s hs => ?_, by dsimp only; omega⟩, ⟨(o1.alloc _).alloc _, rfl⟩⟩
    simp only [List.mem_cons, List.not_mem_nil, or_false] at hs
    rcases hs with rfl | rfl
    · exact h1
    · exact h2
  · refine ⟨⟨h5, fun s hs => ?_, by dsimp only; omega⟩, ⟨(o2.alloc _).lower (by omega), rfl⟩⟩
    rw [List.mem_singleton.1 hs]; exact h3
  · exact ⟨⟨h6, (fun s hs => by cases hs), by dsimp only; omega⟩, OwnR.nil _ _ _⟩
end
end Go.Proofs.YtfakdalpaopjaaaGreatDoor
/- Contracts of the generators of watches. Conditions: none. -/
namespace Go.Proofs.YtfakdalpaopjaaaGreatDoor
section
open Go.RowKit

theorem Tryz.wasT : ElemT Tryz.prog 33 72 5 48 (.agg #[.string ⟨#[]⟩, .int .i64 0, .int .i64 0, .int .i64 0, .int .i64 0]) := elemT_of Tryz.underlying33 (by kernel_rfl) rfl (by decide)
def OwnWa (w : World) (lo : Nat) (A : Option Addr) (n c : Nat) (l : List WaV) : Prop := OwnR WaV.row 5 w lo 72 A n c l ∧ ∀ z ∈ l, z.cls.size ≤ 1000
theorem OwnWa.low {w w' : World} {lo n c : Nat} {A : Option Addr} {l : List WaV} (h : OwnWa w lo A n c l) {r : Option Nat} (hg : w.grownBy w' r) (hr : ∀ g, r = some g → g < lo) : OwnWa w' lo A n c l := ⟨h.1.low hg hr, h.2⟩
end
end Go.Proofs.YtfakdalpaopjaaaGreatDoor
/- RightWatches gives right watches, RightPayers right payers. Conditions: none. -/
namespace Go.Proofs.YtfakdalpaopjaaaGreatDoor
section
open Go.RowKit

theorem inB_memW (l : List Int) {lo hi : Int} (h : (l.all fun x => inB x lo hi) = true) {x : Int} (hx : x ∈ l) : inB x lo hi = true := List.all_eq_true.1 h x hx
def wcN : Nat → ByteArray
  | 0 => ⟨#[]⟩
  | 1 => ⟨#[102, 97, 114]⟩
  | 2 => ⟨#[104, 111, 109, 101]⟩
  | _ => ⟨#[110, 101, 97, 114]⟩
theorem wcN_ok (k : Nat) (z : WaV) (h : z.cls = wcN k) (hk : k < 4) : waCls z = true := by
  unfold waCls
  rw [h]
  rcases (by omega : k = 0 ∨ k = 1 ∨ k = 2 ∨ k = 3) with rfl | rfl | rfl | rfl <;> decide +kernel
theorem wcN_lt (j k : Nat) (h : j < k) (hk : k < 4) : ltS (wcN k) (wcN j) = false := by
  rcases (by omega : (k = 1 ∧ j = 0) ∨ (k = 2 ∧ j = 0) ∨ (k = 2 ∧ j = 1) ∨ (k = 3 ∧ j = 0) ∨ (k = 3 ∧ j = 1) ∨ (k = 3 ∧ j = 2)) with ⟨rfl, rfl⟩ | ⟨rfl, rfl⟩ | ⟨rfl, rfl⟩ | ⟨rfl, rfl⟩ | ⟨rfl, rfl⟩ | ⟨rfl, rfl⟩ <;> decide +kernel
theorem waNum_of {a : ByteArray} {b c d e : Int} (h1 : inB b 1 2592000000 = true) (h2 : inB e 1 2592000000 = true) (h3 : inB c 0 3000 = true) (h4 : inB d 0 1000000000000 = true) : waNum ⟨a, b, c, d, e⟩ = true := by
  unfold waNum; rw [h1, h2, h3, h4]; rfl
structure WaG (k : Nat) (l : List WaV) : Prop where
  all : ∀ z ∈ l, ∃ j, j < k ∧ j < 4 ∧ z.cls = wcN j ∧ waNum z = true
  ord : l.Pairwise fun a b => ltS b.cls a.cls = false
  len : l.length ≤ k
theorem WaG.nil (k : Nat) : WaG k [] := ⟨(fun z hz => by cases hz), List.Pairwise.nil, Nat.zero_le _⟩
theorem WaG.mono {k k' : Nat} {l : List WaV} (h : WaG k l) (hk : k ≤ k') : WaG k' l := ⟨fun c hc => by obtain ⟨j, h1, h2⟩ := h.all c hc; exact ⟨j, by omega, h2⟩, h.ord, Nat.le_trans h.len hk⟩
theorem WaG.app {k : Nat} {l : List WaV} (h : WaG k l) (hk : k < 4) {a : ByteArray} {b c d e : Int} (ha : a = wcN k) (hn : waNum ⟨a, b, c, d, e⟩ = true) : WaG (k + 1) (l ++ [⟨a, b, c, d, e⟩]) := by
  refine ⟨fun x hx => ?_, List.pairwise_append.2 ⟨h.ord, List.pairwise_singleton _ _, fun x hx y hy => ?_⟩, by rw [List.length_append, List.length_singleton]; have := h.len; omega⟩
  · rcases List.mem_append.1 hx with hx | hx
    · obtain ⟨j, h1, h2⟩ := h.all x hx
      exact ⟨j, by omega, h2⟩
    · rw [List.mem_singleton.1 hx]; exact ⟨k, by omega, hk, ha, hn⟩
  · obtain ⟨j, h1, _, h2, _⟩ := h.all x hx
    rw [List.mem_singleton.1 hy, h2]
    show ltS a (wcN j) = false
    rw [ha]
    exact wcN_lt j k h1 hk
theorem WaG.e {l : List WaV} (h : WaG 4 l) : wasE l = 0 := by
  unfold wasE
  rw [if_neg (by have := h.len; omega)]
  refine fstE_nil _ fun i hi => ?_
  have hx : l[i]? = some l[i] := List.getElem?_eq_getElem hi
  obtain ⟨j, _, h5, h2, h3⟩ := h.all l[i] (List.getElem_mem hi)
  have hc := wcN_ok j l[i] h2 h5
  by_cases h0 : 0 < i
  · have hi1 : i - 1 < l.length := by omega
    exact waAt_e (b := l[i - 1]) hx hc h3 (List.getElem?_eq_getElem hi1) (List.pairwise_iff_getElem.1 h.ord (i - 1) i hi1 hi (by omega))
  · exact waAt_z hx hc h3 h0
theorem names4R (k : Nat) (hk : k < 4) {w : World} {g : Nat} (h : Blk w g 9 #[.string ⟨#[]⟩, .string ⟨#[102, 97, 114]⟩, .string ⟨#[104, 111, 109, 101]⟩, .string ⟨#[110, 101, 97, 114]⟩]) : ∃ s : ByteArray, s = wcN k ∧ s.size ≤ 4 ∧ w.cell? ⟨g, k, none⟩ = some (.string s) := by
  rcases (by omega : k = 0 ∨ k = 1 ∨ k = 2 ∨ k = 3) with rfl | rfl | rfl | rfl
  · exact ⟨_, rfl, by decide, h.cell 0⟩
  · exact ⟨_, rfl, by decide, h.cell 1⟩
  · exact ⟨_, rfl, by decide, h.cell 2⟩
  · exact ⟨_, rfl, by decide, h.cell 3⟩
set_option maxHeartbeats 8000000 in
theorem rightWatchesR_any (sb : Nat) (m : Int) (w : World) (hs : Str w sb m) (hm : m ≤ 1000000000) : Calls Tryz.prog 6 #[.pointer (some ⟨sb, 0, none⟩)] w (Drawn sb (m + 40) (fun v w' => ∃ A n c l, v = .slice A n c ∧ OwnWa w' w.heap.size A n c l ∧ n ≤ 4 ∧ wasE l = 0) w) := by
  have hlt := hs.lt
  have HS0 := Lib.hid hs; clear hs
  go_enter Tryz.func6, Tryz.ntmps6
  go_wp2_with fail
  go_loopw [3, 5, 8] (fun out _ t wr => ∃ (k n c : Nat) (A : Option Addr) (l : List WaV), k ≤ 4 ∧ t = .int .i64 k ∧ out = .slice A n c ∧ n ≤ k ∧ Str wr sb (m + 10 * k) ∧ w.grownBy wr (some sb) ∧ Blk wr w.heap.size 9 #[.string ⟨#[]⟩, .string ⟨#[102, 97, 114]⟩, .string ⟨#[104, 111, 109, 101]⟩, .string ⟨#[110, 101, 97, 114]⟩] ∧ OwnWa wr w.heap.size A n c l ∧ WaG k l) (fun _ _ t _ => 4 - (intOf t).toNat)
  case atStart => exact ⟨0, 0, 0, none, [], Nat.zero_le _, rfl, rfl, Nat.le_refl _, (HS0.out.alloc _).mono (by omega), gr_alloc (gr_refl _ _) _, Blk.new _ _ _, ⟨OwnR.nil _ _ _, (fun z hz => by cases hz)⟩, WaG.nil _⟩
  case round =>
    obtain ⟨k, n, c, A, l, hk, rfl, rfl, hnk, hs, hg, hn, hown, hwg⟩ := hrel
    have zr := hg.size
    have HS := Lib.hid hs; have HG := Lib.hid hg; have HO := Lib.hid hown; have HN := Lib.hid hn; have HWG := Lib.hid hwg; clear hs hg hown hn hwg
    have zn := HN.out.lt
    have HNE := Lib.hid (show blkOf A ≠ some w.heap.size from HO.out.1.1.blk_ne HN.out (by decide))
    by_cases hlt2 : k < 4
    · obtain ⟨ky, hkp, hky, hkc⟩ := names4R k hlt2 HN.out
      have HKP := Lib.hid hkp; clear hkp
      go_wp2_with fail
      refine (flip_any sb _ 2 _ HS.out (by omega) (by omega) (by omega)).mono ?_
      rintro e w1 ⟨v1, rfl, ⟨f1, rfl⟩, hs1, hg1⟩
      clear hkc
      have z1 := hg1.size; (try simp at z1)
      replace HO := Lib.hid (HO.out.low hg1 (fun g e => by injection e with e; omega))
      (try replace HN := Lib.hid (HN.out.grown hg1 (by simp; omega)))
      replace HG := Lib.hid (gr_same (a := w) HG.out hg1)
      replace HS := Lib.hid hs1
      clear hs1 hg1
      cases f1
      · go_wp2_with fail
        go_roundw
        case rel => exact ⟨k + 1, n, c, A, l, by omega, by go_num, rfl, by omega, HS.out.mono (by omega), HG.out, HN.out, HO.out, HWG.out.mono (by omega)⟩
        case measure => simp [intOf]; omega
      · go_wp2_with fail
        refine (pick_new sb _ [100, 1000, 60000, 2592000000] _ HS.out (by omega) (by simp) rfl rfl (by simp) (by simp)).mono ?_
        rintro e w2 ⟨v2, rfl, ⟨r2, hr2, rfl⟩, hs2, hg2⟩
        have HM2 := Lib.hid hr2; clear hr2
        have z2 := hg2.size; (try simp at z2)
        replace HO := Lib.hid (HO.out.low hg2 (fun g e => by injection e with e; omega))
        (try replace HN := Lib.hid (HN.out.grown hg2 (by simp; omega)))
        replace HG := Lib.hid (gr_same (a := w) HG.out hg2)
        replace HS := Lib.hid hs2
        clear hs2 hg2
        go_wp2_with fail
        refine (pick_new sb _ [0, 1, 2, 3000] _ HS.out (by omega) (by simp) rfl rfl (by simp) (by simp)).mono ?_
        rintro e w3 ⟨v3, rfl, ⟨r3, hr3, rfl⟩, hs3, hg3⟩
        have HM3 := Lib.hid hr3; clear hr3
        have z3 := hg3.size; (try simp at z3)
        replace HO := Lib.hid (HO.out.low hg3 (fun g e => by injection e with e; omega))
        (try replace HN := Lib.hid (HN.out.grown hg3 (by simp; omega)))
        replace HG := Lib.hid (gr_same (a := w) HG.out hg3)
        replace HS := Lib.hid hs3
        clear hs3 hg3
        go_wp2_with fail
        refine (pick_new sb _ [0, 1, 2, 1000] _ HS.out (by omega) (by simp) rfl rfl (by simp) (by simp)).mono ?_
        rintro e w4 ⟨v4, rfl, ⟨r4, hr4, rfl⟩, hs4, hg4⟩
        have HM4 := Lib.hid hr4; clear hr4
        have z4 := hg4.size; (try simp at z4)
        replace HO := Lib.hid (HO.out.low hg4 (fun g e => by injection e with e; omega))
        (try replace HN := Lib.hid (HN.out.grown hg4 (by simp; omega)))
        replace HG := Lib.hid (gr_same (a := w) HG.out hg4)
        replace HS := Lib.hid hs4
        clear hs4 hg4
        go_wp2_with fail
        refine (pick_new sb _ [50, 1000, 100000] _ HS.out (by omega) (by simp) rfl rfl (by simp) (by simp)).mono ?_
        rintro e w5 ⟨v5, rfl, ⟨r5, hr5, rfl⟩, hs5, hg5⟩
        have HM5 := Lib.hid hr5; clear hr5
        have z5 := hg5.size; (try simp at z5)
        replace HO := Lib.hid (HO.out.low hg5 (fun g e => by injection e with e; omega))
        (try replace HN := Lib.hid (HN.out.grown hg5 (by simp; omega)))
        replace HG := Lib.hid (gr_same (a := w) HG.out hg5)
        replace HS := Lib.hid hs5
        clear hs5 hg5
        go_wp2_with (first
          | (at_builtin
             refine wpl_app _ rfl _ _ Tryz.wasT rfl w.heap.size A n c _ rfl (by exact HO.out.1.1.alloc _) _ _ 1 1 [.string ky, .int .i64 r2, .int .i64 r3, .int .i64 r4, .int .i64 r5] rfl (by exact Reads.one _ _ _ _ rfl) (by simp [Value.oneCell']) (by unfold maxLen; omega) (by omega) (by simp; have := HG.out.size; omega) ?_
             intro A5 c5 w6 h5
             have H5 := Lib.hid h5; clear h5)
          | fail)
        go_roundw
        case rel => exact ⟨k + 1, n + 1, c5, A5, l ++ [⟨ky, r2, r3, r4, r5⟩], by omega, by go_num, rfl, by omega, ((HS.out.alloc _).grown H5.out.2.1 (fun g e => by have := (HO.out.1.1.lt e).1; omega)).mono (by omega), H5.out.gr (gr_alloc HG.out _) (HO.out.1.1.alloc _) (Nat.le_refl _), (HN.out.alloc _).grown H5.out.2.1 (fun e => HNE.out e.symm), ⟨(HO.out.1.alloc _).app rfl H5.out, (fun z hz => by
          rcases List.mem_append.1 hz with h | h
          · exact HO.out.2 z h
          · rw [List.mem_singleton.1 h]; dsimp only; omega)⟩, HWG.out.app hlt2 HKP.out (waNum_of (inB_memW _ (by decide) HM2.out) (inB_memW _ (by decide) HM5.out) (inB_memW _ (by decide) HM3.out) (inB_memW _ (by decide) HM4.out))⟩
        case measure => simp [intOf]; omega
    · obtain rfl : k = 4 := by omega
      go_wp2_with fail
      go_ret
      exact ⟨_, rfl, ⟨A, n, c, l, rfl, HO.out, hnk, HWG.out.e⟩, HS.out.mono (by omega), HG.out⟩
theorem pys_take (A B : Option Addr) {i : Nat} (hi : i = 1 ∨ i = 2 ∨ i = 3) : pysE (([⟨⟨#[97, 110, 110]⟩, A, 2, 2, [⟨#[43, 49, 50, 48, 48]⟩, ⟨#[43, 49, 50, 48, 50]⟩]⟩, ⟨⟨#[98, 111, 98]⟩, B, 1, 1, [⟨#[43, 49, 50, 48, 49]⟩]⟩, ⟨⟨#[99, 105, 100]⟩, none, 0, 0, []⟩] : List PyV).take i) = 0 := by
  rcases hi with rfl | rfl | rfl <;> kernel_rfl
set_option maxHeartbeats 2000000 in
theorem rightPayersR_any (sb : Nat) (m : Int) (w : World) (hs : Str w sb m) (hm : m ≤ 1000000000000) : Calls Tryz.prog 5 #[.pointer (some ⟨sb, 0, none⟩)] w
    (Drawn sb (m + 1) (fun v w' => ∃ A n c l, v = .slice A n c ∧ GPys w' w.heap.size A n c l ∧ n ≤ 3 ∧ pysE l = 0) w) := by
  have hlt := hs.lt
  have HS := Lib.hid hs; clear hs
  go_enter Tryz.func5, Tryz.ntmps5
  go_wp2_with fail
  refine (pick_new sb _ [1, 2, 3, 3] _ (by exact ((HS.out.alloc _).alloc _).alloc _) (by omega) (by simp) rfl rfl (by simp) (by simp)).mono ?_
  rintro e w1 ⟨v1, rfl, ⟨r1, hr1, rfl⟩, hs1, hg1⟩
  have hp := (right_pays w (a1 := ⟨#[43, 49, 50, 48, 48]⟩) (a2 := ⟨#[43, 49, 50, 48, 50]⟩) (b1 := ⟨#[43, 49, 50, 48, 49]⟩) (k1 := ⟨#[97, 110, 110]⟩) (k2 := ⟨#[98, 111, 98]⟩) (k3 := ⟨#[99, 105, 100]⟩) (by decide) (by decide) (by decide) (by decide) (by decide) (by decide)).low hg1 (fun g e => by injection e with e; omega)
  have HP := Lib.hid hp; have HS1 := Lib.hid hs1
  have HG1 := Lib.hid (gr_same (gr_alloc (gr_alloc (gr_alloc (gr_refl w (some sb)) _) _) _) hg1)
  clear hp hs1 hg1
  simp only [List.mem_cons, List.not_mem_nil, or_false, or_self] at hr1
  rcases hr1 with rfl | rfl | rfl
  all_goals
    go_wp2_with fail
    go_ret
    refine ⟨_, rfl, ⟨_, _, _, _, rfl, HP.out.prefix_ (by omega), by omega, pys_take _ _ (by omega)⟩, HS1.out, HG1.out⟩
end
end Go.Proofs.YtfakdalpaopjaaaGreatDoor
/- Contracts of the orders of acts, of isFrom and callerId. Conditions: acts of bounded numbers for the document's order. -/
namespace Go.Proofs.YtfakdalpaopjaaaGreatDoor
section
open Go.RowKit

theorem withinV_any (n lo hi : Int) (w : World) : Calls Tryz.prog 85 #[.int .i64 n, .int .i64 lo, .int .i64 hi] w (Same (.bool (inB n lo hi)) w) := by
  have hfin : inB n lo hi = (decide (lo ≤ n) && decide (n ≤ hi)) := rfl
  have H := Lib.hid hfin; clear hfin
  by_cases h1 : lo ≤ n <;> by_cases h2 : n ≤ hi
  all_goals
    go_enter Tryz.func85, Tryz.ntmps85
    go_wp2
    go_ret
    exact ⟨by rw [H.out]; simp [h1, h2], rfl⟩
end
end Go.Proofs.YtfakdalpaopjaaaGreatDoor
/- voiced() answers true. Conditions: none. -/
namespace Go.Proofs.YtfakdalpaopjaaaGreatDoor
section
open Go.RowKit

theorem Tryz.boxT : StructT Tryz.prog 119 9 := ⟨_, Tryz.underlying119, rfl, by kernel_rfl⟩
theorem Tryz.msgT : StructT Tryz.prog 121 6 := ⟨_, Tryz.underlying121, rfl, by kernel_rfl⟩
set_option maxRecDepth 100000 in
set_option maxHeartbeats 4000000 in
theorem checkBox0_any (w : World) : Calls Tryz.prog 123 #[.agg #[.string ⟨#[98]⟩, .int .i64 1, .int .i64 1, .int .i64 0, .int .i64 0, .slice none 0 0, .bool false, .int .i64 0, .int .i64 0]] w (RetV (.int .i64 0) w) := by
  have i1 : inB 1 1 1000 = true := by decide
  have i2 : inB 1 0 4000 = true := by decide
  have i3 : inB 0 0 4000 = true := by decide
  have i4 : inB 0 0 1439 = true := by decide
  have i5 : inB 0 (-1440) 1440 = true := by decide
  obtain ⟨w1, hw1⟩ : ∃ v, w.alloc (.cells #[.string ⟨#[98]⟩, .int .i64 1, .int .i64 1, .int .i64 0, .int .i64 0, .slice none 0 0, .bool false, .int .i64 0, .int .i64 0] 119) = v := ⟨_, rfl⟩
  obtain ⟨b, hb⟩ : ∃ b, w.heap.size = b := ⟨_, rfl⟩
  have HB := Lib.hid (show Blk w1 b 119 #[.string ⟨#[98]⟩, .int .i64 1, .int .i64 1, .int .i64 0, .int .i64 0, .slice none 0 0, .bool false, .int .i64 0, .int .i64 0] by rw [← hw1, ← hb]; exact Blk.new _ _ _)
  have HG := Lib.hid (show w.grownBy w1 none by rw [← hw1]; exact gr_alloc (gr_refl _ _) _)
  have HW := Lib.hid hw1; have HZ := Lib.hid hb
  clear hw1 hb
  go_enter Tryz.func123, Tryz.ntmps123
  go_upto_region 1 with (fail)
  rw [HW.out]
  (try rw [HZ.out])
  have c1 := HB.out.cell 1
  have c2 := HB.out.cell 2
  have c3 := HB.out.cell 3
  have c4 := HB.out.cell 4
  have c5 := HB.out.cell 5
  have c6 := HB.out.cell 6
  have c7 := HB.out.cell 7
  have c8 := HB.out.cell 8
  go_wp2_with (first
    | (go_at_call 85; refine same_calls (withinV_any _ _ _ _) ?_; first | rw [i1] | rw [i2] | rw [i3] | rw [i4] | rw [i5])
    | fail)
  go_loopw [4, 34] (fun _ t wr => t = .int .i64 0 ∧ w1 = wr) (fun _ _ _ => 0)
  case atStart => exact ⟨rfl, rfl⟩
  case round =>
    obtain ⟨rfl, rfl⟩ := hrel
    go_wp2_with (first
      | (go_at_call 85; refine same_calls (withinV_any _ _ _ _) ?_; first | rw [i1] | rw [i2] | rw [i3] | rw [i4] | rw [i5])
      | fail)
    go_ret
    exact ⟨rfl, HG.out⟩
set_option maxRecDepth 100000 in
set_option maxHeartbeats 4000000 in
theorem checkBoxes0_any (g : Nat) (w : World) (h : Blk w g 119 #[.string ⟨#[98]⟩, .int .i64 1, .int .i64 1, .int .i64 0, .int .i64 0, .slice none 0 0, .bool false, .int .i64 0, .int .i64 0]) : Calls Tryz.prog 84 #[.slice (some ⟨g, 0, none⟩) 1 1] w (RetV (.int .i64 0) w) := by
  have k1 : keyOk (nb ⟨#[98]⟩) = true := by decide
  have H := Lib.hid h
  clear h
  go_enter Tryz.func84, Tryz.ntmps84
  go_wp2_with fail
  go_loopw [3, 4, 5, 11] (fun _ _ _ t wr => ∃ i : Nat, i ≤ 1 ∧ t = .int .i64 i ∧ w.grownBy wr none) (fun _ _ _ t _ => 1 - (intOf t).toNat)
  case atStart => exact ⟨0, by omega, rfl, gr_refl _ _⟩
  case round =>
    obtain ⟨i, hi, rfl, hg⟩ := hrel
    have HG := Lib.hid hg
    have HB := Lib.hid (H.out.grown hg (by simp))
    clear hg
    have hi2 : i = 0 ∨ i = 1 := by omega
    rcases hi2 with rfl | rfl
    · clear hi
      go_upto_region 6 with (first
        | (refine wpl_load_all Tryz.boxT rfl _ rfl g rfl 119 _ HB.out rfl ?_)
        | (refine wpl_store_all Tryz.boxT rfl _ _ rfl _ rfl _ _ _ rfl (Blk.new _ _ _) rfl rfl (by simp [Value.oneCell']) ?_; intro wz hst; have HST := Lib.hid hst; clear hst)
        | fail)
      obtain ⟨sb, hsb⟩ : ∃ b, wr.heap.size = b := ⟨_, rfl⟩
      have HS := Lib.hid (show Blk wz sb 119 #[.string ⟨#[98]⟩, .int .i64 1, .int .i64 1, .int .i64 0, .int .i64 0, .slice none 0 0, .bool false, .int .i64 0, .int .i64 0] by rw [← hsb]; exact HST.out.1)
      have hg2 : w.grownBy wz none := gr_trans (gr_alloc HG.out _) HST.out.2.1 (fun g e => .inr (by injection e with e; have := HG.out.size; omega))
      have HG2 := Lib.hid hg2
      (try rw [hsb])
      have c0 := HS.out.cell 0
      clear hsb HST HG hg2
      go_wp2_with (first
        | (go_at_call 26; refine (isKey_any _ _ (by decide)).mono ?_; rintro e wk ⟨rfl, hgk⟩; first | rw [k1] | rw [k2])
        | fail)
      have HS2 := Lib.hid (HS.out.grown hgk (by simp))
      replace HG2 := Lib.hid (gr_none HG2.out hgk)
      clear HS hgk c0
      have c0 := HS2.out.cell 0
      go_wp2_with fail
      go_quiet (fail)
      go_wp2_with (first
        | (refine wpl_load_all Tryz.boxT rfl _ rfl sb rfl 119 _ HS2.out rfl ?_)
        | (go_at_call 123; refine (checkBox0_any _).mono ?_; rintro e wc ⟨rfl, hgc⟩; have HGC := Lib.hid hgc; clear hgc)
        | fail)
      go_roundw
      case rel => exact ⟨1, by omega, by go_num, gr_none (gr_drewN HG2.out _) HGC.out⟩
      case measure => simp [intOf]
    · go_wp2_with fail
      go_ret
      exact ⟨rfl, HG.out⟩
set_option maxRecDepth 100000 in
set_option maxHeartbeats 4000000 in
theorem ends0_any (w : World) : Calls Tryz.prog 86 #[.agg #[.string ⟨#[98]⟩, .int .i64 1, .int .i64 1, .int .i64 0, .int .i64 0, .slice none 0 0, .bool false, .int .i64 0, .int .i64 0], .agg #[.string ⟨#[109]⟩, .string ⟨#[]⟩, .int .i64 0, .int .i64 1, .int .i64 1, .int .i64 0]] w (RetV (.int .i64 86400000) w) := by
  obtain ⟨w1, hw1⟩ : ∃ v, w.alloc (.cells #[.string ⟨#[98]⟩, .int .i64 1, .int .i64 1, .int .i64 0, .int .i64 0, .slice none 0 0, .bool false, .int .i64 0, .int .i64 0] 119) = v := ⟨_, rfl⟩
  obtain ⟨w2, hw2⟩ : ∃ v, w1.alloc (.cells #[.string ⟨#[109]⟩, .string ⟨#[]⟩, .int .i64 0, .int .i64 1, .int .i64 1, .int .i64 0] 121) = v := ⟨_, rfl⟩
  have HB := Lib.hid (show Blk w2 w.heap.size 119 #[.string ⟨#[98]⟩, .int .i64 1, .int .i64 1, .int .i64 0, .int .i64 0, .slice none 0 0, .bool false, .int .i64 0, .int .i64 0] by rw [← hw2, ← hw1]; exact (Blk.new _ _ _).alloc _)
  have HM := Lib.hid (show Blk w2 (w.heap.size + 1) 121 #[.string ⟨#[109]⟩, .string ⟨#[]⟩, .int .i64 0, .int .i64 1, .int .i64 1, .int .i64 0] by
    rw [← hw2, ← hw1]
    have h := Blk.new (w.alloc (.cells #[.string ⟨#[98]⟩, .int .i64 1, .int .i64 1, .int .i64 0, .int .i64 0, .slice none 0 0, .bool false, .int .i64 0, .int .i64 0] 119)) 121 #[.string ⟨#[109]⟩, .string ⟨#[]⟩, .int .i64 0, .int .i64 1, .int .i64 1, .int .i64 0]
    simpa using h)
  have HG := Lib.hid (show w.grownBy w2 none by rw [← hw2, ← hw1]; exact gr_alloc (gr_alloc (gr_refl _ _) _) _)
  have HW := Lib.hid hw2; have HW1 := Lib.hid hw1
  clear hw1 hw2
  go_enter Tryz.func86, Tryz.ntmps86
  go_upto_region 1 with (fail)
  (try rw [HW1.out])
  (try rw [HW.out])
  have c2 := HB.out.cell 2
  have c3 := HB.out.cell 3
  have c4 := HB.out.cell 4
  have m4 := HM.out.cell 4
  have m5 := HM.out.cell 5
  go_wp2_with fail
  go_ret
  exact ⟨rfl, HG.out⟩
set_option maxRecDepth 100000 in
set_option maxHeartbeats 4000000 in
theorem voicedEnds_any (w : World) : Calls Tryz.prog 43 #[.agg #[.string ⟨#[98]⟩, .int .i64 1, .int .i64 1, .int .i64 0, .int .i64 0, .slice none 0 0, .bool false, .int .i64 0, .int .i64 0], .agg #[.string ⟨#[109]⟩, .string ⟨#[]⟩, .int .i64 0, .int .i64 1, .int .i64 1, .int .i64 0]] w (RetV (.tuple #[.int .i64 86400000, .int .i64 0]) w) := by
  have k2 : keyOk (nb ⟨#[109]⟩) = true := by decide
  have i1 : inB 1 1 86400000 = true := by decide
  have i2 : inB 1 1 4 = true := by decide
  obtain ⟨w1, hw1⟩ : ∃ v, w.alloc (.cells #[.string ⟨#[98]⟩, .int .i64 1, .int .i64 1, .int .i64 0, .int .i64 0, .slice none 0 0, .bool false, .int .i64 0, .int .i64 0] 119) = v := ⟨_, rfl⟩
  obtain ⟨w2, hw2⟩ : ∃ v, w1.alloc (.cells #[.string ⟨#[109]⟩, .string ⟨#[]⟩, .int .i64 0, .int .i64 1, .int .i64 1, .int .i64 0] 121) = v := ⟨_, rfl⟩
  have HB := Lib.hid (show Blk w2 w.heap.size 119 #[.string ⟨#[98]⟩, .int .i64 1, .int .i64 1, .int .i64 0, .int .i64 0, .slice none 0 0, .bool false, .int .i64 0, .int .i64 0] by rw [← hw2, ← hw1]; exact (Blk.new _ _ _).alloc _)
  have HM := Lib.hid (show Blk w2 (w.heap.size + 1) 121 #[.string ⟨#[109]⟩, .string ⟨#[]⟩, .int .i64 0, .int .i64 1, .int .i64 1, .int .i64 0] by
    rw [← hw2, ← hw1]
    have h := Blk.new (w.alloc (.cells #[.string ⟨#[98]⟩, .int .i64 1, .int .i64 1, .int .i64 0, .int .i64 0, .slice none 0 0, .bool false, .int .i64 0, .int .i64 0] 119)) 121 #[.string ⟨#[109]⟩, .string ⟨#[]⟩, .int .i64 0, .int .i64 1, .int .i64 1, .int .i64 0]
    simpa using h)
  have HG := Lib.hid (show w.grownBy w2 none by rw [← hw2, ← hw1]; exact gr_alloc (gr_alloc (gr_refl _ _) _) _)
  have HW := Lib.hid hw2; have HW1 := Lib.hid hw1
  clear hw1 hw2
  go_enter Tryz.func43, Tryz.ntmps43
  go_upto_region 1 with (fail)
  (try rw [HW1.out])
  (try rw [HW.out])
  go_wp2_with (first
    | (refine wpl_load_all Tryz.boxT rfl _ rfl _ rfl 119 _ HB.out rfl ?_)
    | fail)
  refine (checkBoxes0_any _ _ (Blk.new _ _ _)).mono ?_
  rintro e w3 ⟨rfl, hg3⟩
  have hg4 := gr_trans (gr_alloc (gr_refl w2 none) (.cells #[.string ⟨#[98]⟩, .int .i64 1, .int .i64 1, .int .i64 0, .int .i64 0, .slice none 0 0, .bool false, .int .i64 0, .int .i64 0] 119)) hg3 (fun g e => by cases e)
  replace HB := Lib.hid (HB.out.grown hg4 (by simp))
  replace HM := Lib.hid (HM.out.grown hg4 (by simp))
  replace HG := Lib.hid (gr_none HG.out hg4)
  clear hg3 hg4
  have m0 := HM.out.cell 0
  go_upto_region 6 with (first
    | (go_at_call 26; refine (isKey_any _ _ (by decide)).mono ?_; rintro e wk ⟨rfl, hgk⟩; first | rw [k1] | rw [k2])
    | fail)
  replace HB := Lib.hid (HB.out.grown hgk (by simp))
  replace HM := Lib.hid (HM.out.grown hgk (by simp))
  replace HG := Lib.hid (gr_none HG.out hgk)
  clear hgk m0
  have m2 := HM.out.cell 2
  have m3 := HM.out.cell 3
  have m4 := HM.out.cell 4
  have m5 := HM.out.cell 5
  have q1 : momB 0 = true := by decide
  go_wp2_with (first
    | (go_at_call 27; refine same_calls (isMomB_any _ _) ?_)
    | (go_at_call 85; refine same_calls (withinV_any _ _ _ _) ?_; first | rw [i1] | rw [i2] | rw [i3] | rw [i4] | rw [i5])
    | (refine wpl_load_all Tryz.boxT rfl _ rfl _ rfl 119 _ HB.out rfl ?_)
    | (refine wpl_load_all Tryz.msgT rfl _ rfl _ rfl 121 _ HM.out rfl ?_)
    | (go_at_call 86; refine (ends0_any _).mono ?_; rintro e wc ⟨rfl, hgc⟩; have HGC := Lib.hid hgc; clear hgc)
    | fail)
  go_ret2
  exact ⟨rfl, gr_none HG.out HGC.out⟩
end
end Go.Proofs.YtfakdalpaopjaaaGreatDoor

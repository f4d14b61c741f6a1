/- Strings of digits, prefixes and numbers: number.IsNumber, account.isPrefix and the document's PhoneNumber. Conditions: none. -/
import Derived.Test.YtgogiljplnninaaGreatDoorBun2
import Derived.Test.YtgogiljplnninaaGreatDoorShelfCut
import Derived.Test.YtgogiljplnninaaGreatDoorBun1
import Derived.WalkKit
namespace Go.Proofs.YtgogiljplnninaaGreatDoor
section
open Go.RowKit

theorem retR {v : Value} {w : World} {e : Ending} {w' : World} (h : Same v w e w') : RetV v w e w' := by
  obtain ⟨h1, rfl⟩ := h
  exact ⟨h1, gr_refl _ _⟩
/-- What CutPrefix gives at a plus. -/
theorem plus_cut (s : ByteArray) : ∃ (d : ByteArray) (b : Bool), (⟨(Lib.trimPrefix s.data.toList [43]).toArray⟩ : ByteArray) = d ∧ Lib.hasPrefix s.data.toList [43] = b ∧ d.size ≤ s.size ∧ ((b = false ∧ plusOf (nb s) = none) ∨ (b = true ∧ plusOf (nb s) = some (nb d))) := by
  refine ⟨_, _, rfl, rfl, ?_, ?_⟩
  · show (Lib.trimPrefix s.data.toList [43]).toArray.size ≤ s.data.size
    rw [List.size_toArray, ← Array.length_toList]
    unfold Lib.trimPrefix
    split
    · rw [List.length_drop]; omega
    · exact Nat.le_refl _
  · unfold nb
    cases h : s.data.toList with
    | nil => left; simp [plusOf, Lib.hasPrefix]
    | cons a l =>
      by_cases e : a = 43
      · subst e
        right
        simp [plusOf, Lib.hasPrefix, Lib.trimPrefix]
      · left
        have e2 : a.toNat ≠ 43 := fun h2 => e (UInt8.toNat_inj.1 h2)
        have e3 : ((43 : UInt8) == a) = false := by rw [beq_eq_false_iff_ne]; exact fun h => e h.symm
        refine ⟨by simp [Lib.hasPrefix, List.isPrefixOf, e3], ?_⟩
        rw [List.map_cons]
        unfold plusOf
        split
        · rename_i h3
          injection h3 with h4
          exact absurd h4 e2
        · rfl
theorem cutPlus_any (s d : ByteArray) (b : Bool) (w : World) (hd : (⟨(Lib.trimPrefix s.data.toList [43]).toArray⟩ : ByteArray) = d) (hb : Lib.hasPrefix s.data.toList [43] = b) :
    Calls Tryz.prog 125 #[.string s, .string ⟨#[43]⟩] w (Same (.tuple #[.string d, .bool b]) w) := by
  refine (Tryz.strings_CutPrefix s ⟨#[43]⟩ w).mono ?_
  rintro e w' ⟨rfl, rfl⟩
  refine ⟨?_, rfl⟩
  show Ending.returned (.tuple #[.string ⟨(Lib.trimPrefix s.data.toList [43]).toArray⟩, .bool (Lib.hasPrefix s.data.toList [43])]) = _
  rw [hd, hb]
set_option maxRecDepth 100000 in
theorem trimDig_any (s : ByteArray) (w : World) (hs : s.size ≤ 1000000) : Calls Tryz.prog 126 #[.string s, .string ⟨#[48, 49, 50, 51, 52, 53, 54, 55, 56, 57]⟩] w
    (RetV (.string ⟨(Lib.trimS s.data.toList [48, 49, 50, 51, 52, 53, 54, 55, 56, 57]).toArray⟩) w) := by
  refine (Any.strings_Trim_laid Tryz.lays160 (by kernel_rfl) s ⟨#[48, 49, 50, 51, 52, 53, 54, 55, 56, 57]⟩ w (by omega) (by decide) (ascii_of_all (by decide))).mono ?_
  rintro e w' ⟨rfl, hb⟩
  exact ⟨rfl, gr_below hb none⟩
theorem trimDig_eq (s : ByteArray) : ∃ u : ByteArray, (⟨(Lib.trimS s.data.toList [48, 49, 50, 51, 52, 53, 54, 55, 56, 57]).toArray⟩ : ByteArray) = u ∧ ((digB (nb s) = true ∧ u.toList = []) ∨ (digB (nb s) = false ∧ (u.toList == []) = false ∧ u.toList.isEmpty = false)) := by
  refine ⟨_, rfl, ?_⟩
  rw [ByteArray.toList_mk]
  cases hd : digB (nb s)
  · right
    have : ¬ Lib.trimS s.data.toList [48, 49, 50, 51, 52, 53, 54, 55, 56, 57] = [] := fun h => by
      rw [tr_only] at h
      have : digB (nb s) = true := h
      rw [hd] at this; cases this
    exact ⟨rfl, by rw [beq_eq_false_iff_ne]; exact this, by rw [List.isEmpty_eq_false_iff]; exact this⟩
  · exact .inl ⟨rfl, (tr_only s _).2 hd⟩
set_option maxHeartbeats 2000000 in
theorem isDigits_any (s : ByteArray) (w : World) (hs : s.size ≤ 1000000) : Calls Tryz.prog 190 #[.string s] w (RetV (.bool (digB (nb s))) w) := by
  obtain ⟨u, hu, h⟩ := trimDig_eq s
  have HU := Lib.hid hu; clear hu
  rcases h with ⟨h1, h2⟩ | ⟨h1, h2, h3⟩
  all_goals
    have HB := Lib.hid h1; clear h1
    go_enter Tryz.func190, Tryz.ntmps190
    go_wp2_with (first
      | (go_at_call 126; refine (trimDig_any s _ hs).mono ?_; rintro e w' ⟨rfl, hg⟩; rw [HU.out]; have HG := Lib.hid hg; clear hg)
      | fail)
    go_ret
    exact ⟨by rw [HB.out]; rfl, HG.out⟩
/-- From lo to hi digits, and nothing else. -/
def digN (l : List Nat) (lo hi : Int) : Bool := decide (lo ≤ l.length) && decide ((l.length : Int) ≤ hi) && digB l
set_option maxHeartbeats 2000000 in
theorem digitsOf_any (s : ByteArray) (lo hi : Int) (w : World) (hs : s.size ≤ 1000000) : Calls Tryz.prog 127 #[.string s, .int .i64 lo, .int .i64 hi] w (RetV (.bool (digN (nb s) lo hi)) w) := by
  have HV := Lib.hid (show digN (nb s) lo hi = (decide (lo ≤ s.size) && decide ((s.size : Int) ≤ hi) && digB (nb s)) by unfold digN; rw [nb_len])
  obtain ⟨B, hB⟩ : ∃ B, digB (nb s) = B := ⟨_, rfl⟩
  have HB := Lib.hid hB; clear hB
  by_cases h1 : lo ≤ (s.size : Int) <;> by_cases h2 : (s.size : Int) ≤ hi
  · have d1 : decide (lo ≤ (s.size : Int)) = true := decide_eq_true h1
    have d2 : decide ((s.size : Int) ≤ hi) = true := decide_eq_true h2
    replace HV := Lib.hid (show digN (nb s) lo hi = digB (nb s) by rw [HV.out, d1, d2]; rfl)
    go_enter Tryz.func127, Tryz.ntmps127
    go_wp2_with (first
      | (go_at_call 190; refine (isDigits_any s _ hs).mono ?_; rintro e w' ⟨rfl, hg⟩; have HG := Lib.hid hg; clear hg)
      | fail)
    go_ret
    exact ⟨by rw [HV.out]; rfl, HG.out⟩
  · have d1 : decide (lo ≤ (s.size : Int)) = true := decide_eq_true h1
    have d2 : decide ((s.size : Int) ≤ hi) = false := decide_eq_false h2
    replace HV := Lib.hid (show digN (nb s) lo hi = false by rw [HV.out, d1, d2]; rfl)
    go_enter Tryz.func127, Tryz.ntmps127
    go_wp2_with fail
    go_ret
    exact ⟨by rw [HV.out]; rfl, gr_refl _ _⟩
  all_goals
    have d1 : decide (lo ≤ (s.size : Int)) = false := decide_eq_false h1
    replace HV := Lib.hid (show digN (nb s) lo hi = false by rw [HV.out, d1]; rfl)
    go_enter Tryz.func127, Tryz.ntmps127
    go_wp2_with fail
    go_ret
    exact ⟨by rw [HV.out]; rfl, gr_refl _ _⟩
theorem phOk_none {l : List Nat} (h : plusOf l = none) : phOk l = false := by unfold phOk; rw [h]; rfl
theorem phOk_some {l d : List Nat} (h : plusOf l = some d) : phOk l = (digN d 4 15 && decide (d.getD 0 0 ≠ 48)) := by
  unfold phOk digN
  rw [h]
  show (decide (4 ≤ d.length) && decide (d.length ≤ 15) && digB d && decide (d.getD 0 0 ≠ 48)) = _
  congr 3
  all_goals
    rw [Bool.eq_iff_iff]
    simp only [Bool.and_eq_true, decide_eq_true_eq]
    omega
set_option maxHeartbeats 2000000 in
theorem isNumber_any (s : ByteArray) (w : World) (hs : s.size ≤ 1000000) : Calls Tryz.prog 62 #[.string s] w (RetV (.bool (phOk (nb s))) w) := by
  obtain ⟨d, b, hd, hb, hsz, h⟩ := plus_cut s
  have HD := Lib.hid hd; have HB := Lib.hid hb; clear hd hb
  rcases h with ⟨rfl, h⟩ | ⟨rfl, h⟩
  · have HV := Lib.hid (phOk_none h); clear h
    go_enter Tryz.func62, Tryz.ntmps62
    go_wp2_with (first
      | (go_at_call 125; refine (cutPlus_any s d false _ HD.out HB.out).mono ?_; rintro e w' ⟨rfl, rfl⟩)
      | fail)
    go_ret
    exact ⟨by rw [HV.out]; rfl, gr_refl _ _⟩
  · have hV := phOk_some h
    obtain ⟨B, hB⟩ : ∃ B, digN (nb d) 4 15 = B := ⟨_, rfl⟩
    rw [hB] at hV
    have HN := Lib.hid hB
    have HV := Lib.hid hV; clear h hV
    cases B
    · clear hB
      go_enter Tryz.func62, Tryz.ntmps62
      go_wp2_with (first
        | (go_at_call 125; refine (cutPlus_any s d true _ HD.out HB.out).mono ?_; rintro e w' ⟨rfl, rfl⟩)
        | (go_at_call 127; refine (digitsOf_any d 4 15 _ (by omega)).mono ?_; rintro e w' ⟨rfl, hg⟩; rw [HN.out]; have HG := Lib.hid hg; clear hg)
        | fail)
      go_ret
      exact ⟨by rw [HV.out]; rfl, HG.out⟩
    · have h4 : 4 ≤ d.size := by
        unfold digN at hB
        rw [nb_len] at hB
        simp only [Bool.and_eq_true, decide_eq_true_eq] at hB
        omega
      clear hB
      obtain ⟨q, hq⟩ : ∃ q, d[0].toNat = q := ⟨_, rfl⟩
      have HQ := Lib.hid (show (nb d).getD 0 0 = q by rw [← nb_get (by omega), hq])
      by_cases h48 : q = 48
      · have e1 : ((q : Int) != 48) = false := by rw [h48]; rfl
        have HF := Lib.hid (show phOk (nb s) = false by rw [HV.out, HQ.out, h48]; rfl)
        clear h48
        go_enter Tryz.func62, Tryz.ntmps62
        go_wp2_with (first
          | (go_at_call 125; refine (cutPlus_any s d true _ HD.out HB.out).mono ?_; rintro e w' ⟨rfl, rfl⟩)
          | (go_at_call 127; refine (digitsOf_any d 4 15 _ (by omega)).mono ?_; rintro e w' ⟨rfl, hg⟩; rw [HN.out]; have HG := Lib.hid hg; clear hg)
          | fail)
        go_ret
        exact ⟨by rw [HF.out]; rfl, HG.out⟩
      · have e1 : ((q : Int) != 48) = true := by rw [bne_iff_ne]; omega
        have HF := Lib.hid (show phOk (nb s) = true by rw [HV.out, HQ.out, decide_eq_true h48]; rfl)
        clear h48
        go_enter Tryz.func62, Tryz.ntmps62
        go_wp2_with (first
          | (go_at_call 125; refine (cutPlus_any s d true _ HD.out HB.out).mono ?_; rintro e w' ⟨rfl, rfl⟩)
          | (go_at_call 127; refine (digitsOf_any d 4 15 _ (by omega)).mono ?_; rintro e w' ⟨rfl, hg⟩; rw [HN.out]; have HG := Lib.hid hg; clear hg)
          | fail)
        go_ret
        exact ⟨by rw [HF.out]; rfl, HG.out⟩
theorem nb_digS : nb ⟨#[48, 49, 50, 51, 52, 53, 54, 55, 56, 57]⟩ = digSigns := by decide +kernel
theorem digits_str : ∃ dg : ByteArray, (⟨#[48, 49, 50, 51, 52, 53, 54, 55, 56, 57]⟩ : ByteArray) = dg ∧ ∀ s : ByteArray, (nb s).all (fun b => decide (b ∈ nb dg)) = digB (nb s) := ⟨_, rfl, fun s => by rw [nb_digS]; rfl⟩
set_option maxHeartbeats 2000000 in
theorem phoneNumber_any (s : ByteArray) (w : World) (hs : s.size ≤ 1000000) : Calls Tryz.prog 58 #[.string s] w (RetV (.bool (phOk (nb s))) w) := by
  obtain ⟨d, b, hd, hb, hsz, h⟩ := plus_cut s
  have HD := Lib.hid hd; have HB := Lib.hid hb; clear hd hb
  obtain ⟨dg, hdg, hall⟩ := digits_str
  have HA := Lib.hid hall; clear hall
  rcases h with ⟨rfl, h⟩ | ⟨rfl, h⟩
  · have HV := Lib.hid (phOk_none h); clear h
    go_enter Tryz.func58, Tryz.ntmps58
    go_wp2_with (first
      | (go_at_call 125; refine (cutPlus_any s d false _ HD.out HB.out).mono ?_; rintro e w' ⟨rfl, rfl⟩)
      | fail)
    go_ret
    exact ⟨by rw [HV.out]; rfl, gr_refl _ _⟩
  · have hV := phOk_some h
    obtain ⟨B1, hB1⟩ : ∃ B, inB (d.size : Int) 4 15 = B := ⟨_, rfl⟩
    obtain ⟨B2, hB2⟩ : ∃ B, digB (nb d) = B := ⟨_, rfl⟩
    have hN : digN (nb d) 4 15 = (B1 && B2) := by unfold digN; rw [nb_len, hB2, ← hB1]; rfl
    rw [hN] at hV
    have HV := Lib.hid hV; have H1 := Lib.hid hB1; have H2 := Lib.hid hB2; clear h hV hN hB2
    cases B1
    · clear hB1
      go_enter Tryz.func58, Tryz.ntmps58
      go_wp2_with (first
        | (go_at_call 125; refine (cutPlus_any s d true _ HD.out HB.out).mono ?_; rintro e w' ⟨rfl, rfl⟩)
        | (go_at_call 60; refine (in_any _ _ _ _).mono ?_; rintro e w' ⟨rfl, rfl⟩; rw [H1.out])
        | fail)
      go_ret
      exact ⟨by rw [HV.out]; rfl, gr_refl _ _⟩
    · have h4 : 4 ≤ d.size := by
        unfold inB at hB1
        simp only [Bool.and_eq_true, decide_eq_true_eq] at hB1
        omega
      clear hB1
      cases B2
      · go_enter Tryz.func58, Tryz.ntmps58
        go_wp2_with (first
          | (go_at_call 125; refine (cutPlus_any s d true _ HD.out HB.out).mono ?_; rintro e w' ⟨rfl, rfl⟩)
          | (go_at_call 60; refine (in_any _ _ _ _).mono ?_; rintro e w' ⟨rfl, rfl⟩; rw [H1.out])
          | (go_at_call 110; refine (onlyS_any d dg _ (by omega)).mono ?_; rintro e w' ⟨rfl, rfl⟩; rw [HA.out, H2.out])
          | fail)
        go_ret
        exact ⟨by rw [HV.out]; rfl, gr_refl _ _⟩
      · obtain ⟨q, hq⟩ : ∃ q, d[0].toNat = q := ⟨_, rfl⟩
        have HQ := Lib.hid (show (nb d).getD 0 0 = q by rw [← nb_get (by omega), hq])
        obtain ⟨C, hC⟩ : ∃ C, ((q : Int) != 48) = C := ⟨_, rfl⟩
        have HF := Lib.hid (show phOk (nb s) = C by
          rw [HV.out, HQ.out, ← hC]
          by_cases h48 : q = 48
          · rw [h48]; rfl
          · rw [decide_eq_true h48, (bne_iff_ne (a := (q : Int)) (b := 48)).2 (by omega)]; rfl)
        cases C
        all_goals
          go_enter Tryz.func58, Tryz.ntmps58
          go_wp2_with (first
            | (go_at_call 125; refine (cutPlus_any s d true _ HD.out HB.out).mono ?_; rintro e w' ⟨rfl, rfl⟩)
            | (go_at_call 60; refine (in_any _ _ _ _).mono ?_; rintro e w' ⟨rfl, rfl⟩; rw [H1.out])
            | (go_at_call 110; refine (onlyS_any d dg _ (by omega)).mono ?_; rintro e w' ⟨rfl, rfl⟩; rw [HA.out, H2.out])
            | fail)
          go_ret
          exact ⟨by rw [HF.out]; rfl, gr_refl _ _⟩
theorem pfOk_none {l : List Nat} (h : plusOf l = none) (h1 : l ≠ []) : pfOk l = false := by unfold pfOk; rw [h, decide_eq_false h1]; rfl
theorem pfOk_nil : pfOk [] = true := rfl
theorem pfOk_some {l d : List Nat} (h : plusOf l = some d) : pfOk l = (decide (d.length ≤ 15) && digB d) := by
  unfold pfOk
  rw [h]
  cases l with
  | nil => cases h
  | cons a l => rfl
set_option maxHeartbeats 2000000 in
theorem isPrefix_any (s : ByteArray) (w : World) (hs : s.size ≤ 1000000) : Calls Tryz.prog 192 #[.string s] w (RetV (.bool (pfOk (nb s))) w) := by
  obtain ⟨d, b, hd, hb, hsz, h⟩ := plus_cut s
  have HD := Lib.hid hd; have HB := Lib.hid hb; clear hd hb
  rcases h with ⟨rfl, h⟩ | ⟨rfl, h⟩
  · by_cases hn : nb s = []
    · have HV := Lib.hid (show pfOk (nb s) = true by rw [hn]; rfl)
      have e1 := str_nil hn
      clear h hn
      go_enter Tryz.func192, Tryz.ntmps192
      go_wp2_with (first
        | (go_at_call 125; refine (cutPlus_any s d false _ HD.out HB.out).mono ?_; rintro e w' ⟨rfl, rfl⟩)
        | fail)
      go_ret
      exact ⟨by rw [HV.out]; rfl, gr_refl _ _⟩
    · have HV := Lib.hid (pfOk_none h hn)
      obtain ⟨e1, e2, e3⟩ := str_full hn
      clear h hn
      go_enter Tryz.func192, Tryz.ntmps192
      go_wp2_with (first
        | (go_at_call 125; refine (cutPlus_any s d false _ HD.out HB.out).mono ?_; rintro e w' ⟨rfl, rfl⟩)
        | fail)
      go_ret
      exact ⟨by rw [HV.out]; rfl, gr_refl _ _⟩
  · have hV := pfOk_some h
    have hn : ¬ nb s = [] := fun e => by rw [e] at h; cases h
    obtain ⟨e1, e2, e3⟩ := str_full hn
    rw [nb_len] at hV
    obtain ⟨u, hu, hc⟩ := trimDig_eq d
    have HU := Lib.hid hu; have HV := Lib.hid hV; clear hu hV h hn
    by_cases h15 : d.size ≤ 15
    · have d1 : decide ((d.size : Int) ≤ 15) = true := decide_eq_true (by omega)
      rcases hc with ⟨h1, h2⟩ | ⟨h1, h2, h3⟩
      all_goals
        have HF := Lib.hid (show pfOk (nb s) = _ by rw [HV.out, decide_eq_true h15, h1, Bool.true_and])
        clear h1
        go_enter Tryz.func192, Tryz.ntmps192
        go_wp2_with (first
          | (go_at_call 125; refine (cutPlus_any s d true _ HD.out HB.out).mono ?_; rintro e w' ⟨rfl, rfl⟩)
          | (go_at_call 126; refine (trimDig_any d _ (by omega)).mono ?_; rintro e w' ⟨rfl, hg⟩; rw [HU.out]; have HG := Lib.hid hg; clear hg)
          | fail)
        go_ret
        exact ⟨by rw [HF.out]; rfl, HG.out⟩
    · have d1 : decide ((d.size : Int) ≤ 15) = false := decide_eq_false (by omega)
      have HF := Lib.hid (show pfOk (nb s) = false by rw [HV.out, decide_eq_false h15]; rfl)
      clear hc
      go_enter Tryz.func192, Tryz.ntmps192
      go_wp2_with (first
        | (go_at_call 125; refine (cutPlus_any s d true _ HD.out HB.out).mono ?_; rintro e w' ⟨rfl, rfl⟩)
        | fail)
      go_ret
      exact ⟨by rw [HF.out]; rfl, gr_refl _ _⟩
set_option maxHeartbeats 1000000 in
theorem withinA_any (n lo hi : Int) (w : World) : Calls Tryz.prog 64 #[.int .i64 n, .int .i64 lo, .int .i64 hi] w (Same (.bool (inB n lo hi)) w) := by
  have H := Lib.hid (show inB n lo hi = (decide (lo ≤ n) && decide (n ≤ hi)) from rfl)
  by_cases h1 : lo ≤ n <;> by_cases h2 : n ≤ hi
  all_goals
    go_enter Tryz.func64, Tryz.ntmps64
    go_wp2
    go_ret
    exact ⟨by rw [H.out]; simp [h1, h2], rfl⟩
end
end Go.Proofs.YtgogiljplnninaaGreatDoor
/- Contracts of the orders of acts, of isFrom and callerId. Conditions: acts of bounded numbers for the document's order. -/
namespace Go.Proofs.YtgogiljplnninaaGreatDoor
section
open Go.RowKit

theorem Tryz.acT : StructT Tryz.prog 56 6 := ⟨_, Tryz.underlying56, rfl, by kernel_rfl⟩
set_option maxHeartbeats 4000000 in
set_option maxRecDepth 100000 in
theorem compareActs_q (a b : ActV) (w : World) : Calls Tryz.prog 135 #[.agg #[.int .i64 a.at_, .string a.bx, .string a.id, .int .i64 a.kd, .int .i64 a.lg, .string a.frm], .agg #[.int .i64 b.at_, .string b.bx, .string b.id, .int .i64 b.kd, .int .i64 b.lg, .string b.frm]] w (RetQ (.int .i64 (acCmp a b)) w) := by
  obtain ⟨W1, hW⟩ : ∃ W1, (w.alloc (.cells #[.int .i64 a.at_, .string a.bx, .string a.id, .int .i64 a.kd, .int .i64 a.lg, .string a.frm] 56)).alloc (.cells #[.int .i64 b.at_, .string b.bx, .string b.id, .int .i64 b.kd, .int .i64 b.lg, .string b.frm] 56) = W1 := ⟨_, rfl⟩
  have HA := Lib.hid (show Blk W1 w.heap.size 56 #[.int .i64 a.at_, .string a.bx, .string a.id, .int .i64 a.kd, .int .i64 a.lg, .string a.frm] by rw [← hW]; exact (Blk.new _ _ _).alloc _)
  have HB := Lib.hid (show Blk W1 (w.heap.size + 1) 56 #[.int .i64 b.at_, .string b.bx, .string b.id, .int .i64 b.kd, .int .i64 b.lg, .string b.frm] by
    rw [← hW]
    have h := Blk.new (w.alloc (.cells #[.int .i64 a.at_, .string a.bx, .string a.id, .int .i64 a.kd, .int .i64 a.lg, .string a.frm] 56)) 56 #[.int .i64 b.at_, .string b.bx, .string b.id, .int .i64 b.kd, .int .i64 b.lg, .string b.frm]
    simpa using h)
  have HQ := Lib.hid (show Gq w W1 by rw [← hW]; exact ((Gq.refl w).alloc _).alloc _)
  have hz1 : W1.heap.size = w.heap.size + 1 + 1 := by rw [← hW]; simp
  have HW := Lib.hid hW; clear hW
  have HV := Lib.hid (show acCmp a b = orL [cmpZ a.at_ b.at_, cmpS a.bx b.bx, cmpS a.id b.id, cmpZ a.kd b.kd] from rfl)
  obtain ⟨q1, h1⟩ : ∃ q, cmpZ a.at_ b.at_ = q := ⟨_, rfl⟩
  obtain ⟨q2, h2⟩ : ∃ q, cmpS a.bx b.bx = q := ⟨_, rfl⟩
  obtain ⟨q3, h3⟩ : ∃ q, cmpS a.id b.id = q := ⟨_, rfl⟩
  obtain ⟨q4, h4⟩ : ∃ q, cmpZ a.kd b.kd = q := ⟨_, rfl⟩
  rw [h1, h2, h3, h4] at HV
  have H1 := Lib.hid h1; have H4 := Lib.hid h4
  have H2 := Lib.hid h2
  have H3 := Lib.hid h3
  clear h1 h2 h3 h4
  go_enter Tryz.func135, Tryz.ntmps135
  go_wp2_with fail
  rw [HW.out]
  refine H_begin (fun w' => Gq W1 w') (by kernel_rfl) ?_
  have hHeld : Gq W1 W1.drew := (Gq.refl _).drew
  generalize W1.drew = wd at hHeld ⊢
  refine H_take (k := 0) (v := ?_) (by rfl) (by kernel_rfl) (by kernel_rfl) (by kernel_rfl) (by exact fun _ _ _ h => h) (by rfl) ?_ (by assumption) ?_
  rotate_left 1
  · intro w hSw
    (try dsimp only at hSw)
    go_simp
    (try with_reducible rfl)
  (try simp only [Act.put, List.setIfInBounds_toArray, List.set_cons_zero, List.set_cons_succ])
  refine H_take (k := 1) (v := ?_) (by rfl) (by kernel_rfl) (by kernel_rfl) (by kernel_rfl) (by exact fun _ _ _ h => h) (by rfl) ?_ (by assumption) ?_
  rotate_left 1
  · intro w' hSw
    have kc := (HA.out.grown hSw.gr (by simp)).cell 0
    go_simp
    (try with_reducible rfl)
  (try simp only [Act.put, List.setIfInBounds_toArray, List.set_cons_zero, List.set_cons_succ])
  refine H_take (k := 2) (v := ?_) (by rfl) (by kernel_rfl) (by kernel_rfl) (by kernel_rfl) (by exact fun _ _ _ h => h) (by rfl) ?_ (by assumption) ?_
  rotate_left 1
  · intro w hSw
    (try dsimp only at hSw)
    go_simp
    (try with_reducible rfl)
  (try simp only [Act.put, List.setIfInBounds_toArray, List.set_cons_zero, List.set_cons_succ])
  refine H_take (k := 3) (v := ?_) (by rfl) (by kernel_rfl) (by kernel_rfl) (by kernel_rfl) (by exact fun _ _ _ h => h) (by rfl) ?_ (by assumption) ?_
  rotate_left 1
  · intro w' hSw
    have kc := (HB.out.grown hSw.gr (by simp)).cell 0
    go_simp
    (try with_reducible rfl)
  (try simp only [Act.put, List.setIfInBounds_toArray, List.set_cons_zero, List.set_cons_succ])
  refine H_take (k := 5) (v := ?_) (by rfl) (by kernel_rfl) (by kernel_rfl) (by kernel_rfl) (by exact fun _ _ _ h => h) (by rfl) ?_ (by assumption) ?_
  rotate_left 1
  · intro w hSw
    (try dsimp only at hSw)
    go_simp
    (try with_reducible rfl)
  (try simp only [Act.put, List.setIfInBounds_toArray, List.set_cons_zero, List.set_cons_succ])
  refine H_take (k := 6) (v := ?_) (by rfl) (by kernel_rfl) (by kernel_rfl) (by kernel_rfl) (by exact fun _ _ _ h => h) (by rfl) ?_ (by assumption) ?_
  rotate_left 1
  · intro w' hSw
    have kc := (HA.out.grown hSw.gr (by simp)).cell 1
    go_simp
    (try with_reducible rfl)
  (try simp only [Act.put, List.setIfInBounds_toArray, List.set_cons_zero, List.set_cons_succ])
  refine H_take (k := 7) (v := ?_) (by rfl) (by kernel_rfl) (by kernel_rfl) (by kernel_rfl) (by exact fun _ _ _ h => h) (by rfl) ?_ (by assumption) ?_
  rotate_left 1
  · intro w hSw
    (try dsimp only at hSw)
    go_simp
    (try with_reducible rfl)
  (try simp only [Act.put, List.setIfInBounds_toArray, List.set_cons_zero, List.set_cons_succ])
  refine H_take (k := 8) (v := ?_) (by rfl) (by kernel_rfl) (by kernel_rfl) (by kernel_rfl) (by exact fun _ _ _ h => h) (by rfl) ?_ (by assumption) ?_
  rotate_left 1
  · intro w' hSw
    have kc := (HB.out.grown hSw.gr (by simp)).cell 1
    go_simp
    (try with_reducible rfl)
  (try simp only [Act.put, List.setIfInBounds_toArray, List.set_cons_zero, List.set_cons_succ])
  refine H_take (k := 10) (v := ?_) (by rfl) (by kernel_rfl) (by kernel_rfl) (by kernel_rfl) (by exact fun _ _ _ h => h) (by rfl) ?_ (by assumption) ?_
  rotate_left 1
  · intro w hSw
    (try dsimp only at hSw)
    go_simp
    (try with_reducible rfl)
  (try simp only [Act.put, List.setIfInBounds_toArray, List.set_cons_zero, List.set_cons_succ])
  refine H_take (k := 11) (v := ?_) (by rfl) (by kernel_rfl) (by kernel_rfl) (by kernel_rfl) (by exact fun _ _ _ h => h) (by rfl) ?_ (by assumption) ?_
  rotate_left 1
  · intro w' hSw
    have kc := (HA.out.grown hSw.gr (by simp)).cell 2
    go_simp
    (try with_reducible rfl)
  (try simp only [Act.put, List.setIfInBounds_toArray, List.set_cons_zero, List.set_cons_succ])
  refine H_take (k := 12) (v := ?_) (by rfl) (by kernel_rfl) (by kernel_rfl) (by kernel_rfl) (by exact fun _ _ _ h => h) (by rfl) ?_ (by assumption) ?_
  rotate_left 1
  · intro w hSw
    (try dsimp only at hSw)
    go_simp
    (try with_reducible rfl)
  (try simp only [Act.put, List.setIfInBounds_toArray, List.set_cons_zero, List.set_cons_succ])
  refine H_take (k := 13) (v := ?_) (by rfl) (by kernel_rfl) (by kernel_rfl) (by kernel_rfl) (by exact fun _ _ _ h => h) (by rfl) ?_ (by assumption) ?_
  rotate_left 1
  · intro w' hSw
    have kc := (HB.out.grown hSw.gr (by simp)).cell 2
    go_simp
    (try with_reducible rfl)
  (try simp only [Act.put, List.setIfInBounds_toArray, List.set_cons_zero, List.set_cons_succ])
  refine H_take (k := 15) (v := ?_) (by rfl) (by kernel_rfl) (by kernel_rfl) (by kernel_rfl) (by exact fun _ _ _ h => h) (by rfl) ?_ (by assumption) ?_
  rotate_left 1
  · intro w hSw
    (try dsimp only at hSw)
    go_simp
    (try with_reducible rfl)
  (try simp only [Act.put, List.setIfInBounds_toArray, List.set_cons_zero, List.set_cons_succ])
  refine H_take (k := 16) (v := ?_) (by rfl) (by kernel_rfl) (by kernel_rfl) (by kernel_rfl) (by exact fun _ _ _ h => h) (by rfl) ?_ (by assumption) ?_
  rotate_left 1
  · intro w' hSw
    have kc := (HA.out.grown hSw.gr (by simp)).cell 3
    go_simp
    (try with_reducible rfl)
  (try simp only [Act.put, List.setIfInBounds_toArray, List.set_cons_zero, List.set_cons_succ])
  refine H_take (k := 17) (v := ?_) (by rfl) (by kernel_rfl) (by kernel_rfl) (by kernel_rfl) (by exact fun _ _ _ h => h) (by rfl) ?_ (by assumption) ?_
  rotate_left 1
  · intro w hSw
    (try dsimp only at hSw)
    go_simp
    (try with_reducible rfl)
  (try simp only [Act.put, List.setIfInBounds_toArray, List.set_cons_zero, List.set_cons_succ])
  refine H_take (k := 18) (v := ?_) (by rfl) (by kernel_rfl) (by kernel_rfl) (by kernel_rfl) (by exact fun _ _ _ h => h) (by rfl) ?_ (by assumption) ?_
  rotate_left 1
  · intro w' hSw
    have kc := (HB.out.grown hSw.gr (by simp)).cell 3
    go_simp
    (try with_reducible rfl)
  (try simp only [Act.put, List.setIfInBounds_toArray, List.set_cons_zero, List.set_cons_succ])
  refine H_run (k := 4) (by rfl) (by kernel_rfl) (by rfl) (fun K hK => ?_)
  go_simp
  refine same_calls (cmpZ_any _ _ _) ?_
  rw [H1.out]
  refine hK _ _ hHeld ?_
  clear hK K
  (try simp only [Act.put, List.setIfInBounds_toArray, List.set_cons_zero, List.set_cons_succ])
  refine H_run (k := 9) (by rfl) (by kernel_rfl) (by rfl) (fun K hK => ?_)
  go_simp
  refine same_calls (strCmp_any _ _ _) ?_
  rw [H2.out]
  refine hK _ _ hHeld ?_
  clear hK K
  (try simp only [Act.put, List.setIfInBounds_toArray, List.set_cons_zero, List.set_cons_succ])
  refine H_run (k := 14) (by rfl) (by kernel_rfl) (by rfl) (fun K hK => ?_)
  go_simp
  refine same_calls (strCmp_any _ _ _) ?_
  rw [H3.out]
  refine hK _ _ hHeld ?_
  clear hK K
  (try simp only [Act.put, List.setIfInBounds_toArray, List.set_cons_zero, List.set_cons_succ])
  refine H_run (k := 19) (by rfl) (by kernel_rfl) (by rfl) (fun K hK => ?_)
  go_simp
  refine same_calls (cmpZ_any _ _ _) ?_
  rw [H4.out]
  refine hK _ _ hHeld ?_
  clear hK K
  (try simp only [Act.put, List.setIfInBounds_toArray, List.set_cons_zero, List.set_cons_succ])
  refine H_run (k := 20) (by rfl) (by kernel_rfl) (by rfl) (fun K hK => ?_)
  go_simp
  obtain ⟨W2, hW2⟩ : ∃ W2, wd.alloc (.cells #[.int .i64 q1, .int .i64 q2, .int .i64 q3, .int .i64 q4] 3) = W2 := ⟨_, rfl⟩
  obtain ⟨g2, hg2⟩ : ∃ g, wd.heap.size = g := ⟨_, rfl⟩
  have hq2 : Gq W1 W2 := by rw [← hW2]; exact hHeld.alloc _
  have HC := Lib.hid (show Blk W2 g2 3 ([q1, q2, q3, q4].map (Value.int .i64)).toArray by rw [← hW2, ← hg2]; exact Blk.new _ _ _)
  (try rw [hW2])
  (try rw [hg2])
  refine hK _ _ hq2 ?_
  clear hK K hHeld hW2 hg2
  have hHeld := hq2
  (try simp only [Act.put, List.setIfInBounds_toArray, List.set_cons_zero, List.set_cons_succ])
  refine H_run (k := 21) (by rfl) (by kernel_rfl) (by rfl) (fun K hK => ?_)
  go_simp
  refine same_calls (orL_any [q1, q2, q3, q4] g2 4 _ HC.out rfl (by omega)) ?_

  refine hK _ _ hHeld ?_
  clear hK K
  (try simp only [Act.put, List.setIfInBounds_toArray, List.set_cons_zero, List.set_cons_succ])
  refine H_take (k := 22) (v := ?_) (by rfl) (by kernel_rfl) (by kernel_rfl) (by kernel_rfl) (by exact fun _ _ _ h => h) (by rfl) ?_ (by assumption) ?_
  rotate_left 1
  · intro w hSw
    (try dsimp only at hSw)
    go_simp
    (try with_reducible rfl)
  (try simp only [Act.put, List.setIfInBounds_toArray, List.set_cons_zero, List.set_cons_succ])
  refine H_done (by kernel_rfl) ?_
  go_wp2_with fail
  go_ret
  exact ⟨by rw [HV.out]; try rfl, HQ.out.trans hHeld⟩
theorem sgn_cmp (x y : Int) : sgnZ (x - y) = cmpZ x y := by
  unfold sgnZ cmpZ
  by_cases h1 : x < y
  · rw [if_pos h1, if_pos (by omega)]
  · by_cases h2 : y < x
    · rw [if_neg h1, if_pos h2, if_neg (by omega), if_pos (by omega)]
    · rw [if_neg h1, if_neg h2, if_neg (by omega), if_neg (by omega)]
set_option maxHeartbeats 4000000 in
set_option maxRecDepth 100000 in
theorem actOrder_q (a b : ActV) (w : World) (ha : AcOkL a) (hb : AcOkL b) : Calls Tryz.prog 72 #[.agg #[.int .i64 a.at_, .string a.bx, .string a.id, .int .i64 a.kd, .int .i64 a.lg, .string a.frm], .agg #[.int .i64 b.at_, .string b.bx, .string b.id, .int .i64 b.kd, .int .i64 b.lg, .string b.frm]] w (RetQ (.int .i64 (acCmp a b)) w) := by
  obtain ⟨-, ⟨a1, a2⟩, a3, a4⟩ := ha
  obtain ⟨-, ⟨b1, b2⟩, b3, b4⟩ := hb
  have u1 : IntKind.i64.wrap (a.at_ - b.at_) = a.at_ - b.at_ := IntWalk.i64_in _ (by omega)
  have u2 : IntKind.i64.wrap (a.kd - b.kd) = a.kd - b.kd := IntWalk.i64_in _ (by omega)
  clear a1 a2 a3 a4 b1 b2 b3 b4
  obtain ⟨W1, hW⟩ : ∃ W1, (w.alloc (.cells #[.int .i64 a.at_, .string a.bx, .string a.id, .int .i64 a.kd, .int .i64 a.lg, .string a.frm] 56)).alloc (.cells #[.int .i64 b.at_, .string b.bx, .string b.id, .int .i64 b.kd, .int .i64 b.lg, .string b.frm] 56) = W1 := ⟨_, rfl⟩
  have HA := Lib.hid (show Blk W1 w.heap.size 56 #[.int .i64 a.at_, .string a.bx, .string a.id, .int .i64 a.kd, .int .i64 a.lg, .string a.frm] by rw [← hW]; exact (Blk.new _ _ _).alloc _)
  have HB := Lib.hid (show Blk W1 (w.heap.size + 1) 56 #[.int .i64 b.at_, .string b.bx, .string b.id, .int .i64 b.kd, .int .i64 b.lg, .string b.frm] by
    rw [← hW]
    have h := Blk.new (w.alloc (.cells #[.int .i64 a.at_, .string a.bx, .string a.id, .int .i64 a.kd, .int .i64 a.lg, .string a.frm] 56)) 56 #[.int .i64 b.at_, .string b.bx, .string b.id, .int .i64 b.kd, .int .i64 b.lg, .string b.frm]
    simpa using h)
  have HQ := Lib.hid (show Gq w W1 by rw [← hW]; exact ((Gq.refl w).alloc _).alloc _)
  have hz1 : W1.heap.size = w.heap.size + 1 + 1 := by rw [← hW]; simp
  have HW := Lib.hid hW; clear hW
  have kA0 := HA.out.cell 0; have kA1 := HA.out.cell 1; have kA2 := HA.out.cell 2; have kA3 := HA.out.cell 3
  have kB0 := HB.out.cell 0; have kB1 := HB.out.cell 1; have kB2 := HB.out.cell 2; have kB3 := HB.out.cell 3
  have HD := Lib.hid (acCmp_doc a b)
  have HSG := Lib.hid (sgn_cmp a.at_ b.at_); have HSK := Lib.hid (sgn_cmp a.kd b.kd)
  by_cases e : a.at_ = b.at_
  · have d : (a.at_ != b.at_) = false := by simp [e]
    obtain ⟨W2, hW2⟩ : ∃ v, W1.alloc (.cells #[.string a.bx, .string a.id] 9) = v := ⟨_, rfl⟩
    obtain ⟨g2, hg2⟩ : ∃ v, W1.heap.size = v := ⟨_, rfl⟩
    obtain ⟨W3, hW3⟩ : ∃ v, W2.alloc (.cells #[.string b.bx, .string b.id] 9) = v := ⟨_, rfl⟩
    obtain ⟨g3, hg3⟩ : ∃ v, W2.heap.size = v := ⟨_, rfl⟩
    have HR2 := Lib.hid (show Recs srow 1 W3 g2 (some ⟨g2, 0, none⟩) 2 2 [a.bx, a.id] by
      rw [← hW3, ← hW2, ← hg2]
      exact ⟨(Reads.blk (Blk.new W1 9 #[.string a.bx, .string a.id]) 1 2 rfl).grown (gr_alloc (gr_refl _ none) _) (fun g e => by cases e), rfl⟩)
    have HR3 := Lib.hid (show Recs srow 1 W3 g3 (some ⟨g3, 0, none⟩) 2 2 [b.bx, b.id] by
      rw [← hW3, ← hg3]
      exact ⟨Reads.blk (Blk.new W2 9 #[.string b.bx, .string b.id]) 1 2 rfl, rfl⟩)
    have hz2 : g3 = g2 + 1 := by rw [← hg3, ← hW2, ← hg2]; simp
    have HQ3 := Lib.hid (show Gq w W3 by rw [← hW3, ← hW2]; exact (HQ.out.alloc _).alloc _)
    have HW2 := Lib.hid hW2; have HW3 := Lib.hid hW3
    obtain ⟨QC, hQC⟩ : ∃ q, cmpLL cmpS [a.bx, a.id] [b.bx, b.id] = q := ⟨_, rfl⟩
    have HQC := Lib.hid hQC
    replace HD := Lib.hid (show acCmp a b = if QC = 0 then cmpZ a.kd b.kd else QC by rw [HD.out, if_pos e, hQC])
    have kA3' : W3.cell? ⟨w.heap.size, 3, none⟩ = some (.int .i64 a.kd) := by rw [← hW3, ← hW2]; exact ((HA.out.alloc _).alloc _).cell 3
    have kB3' : W3.cell? ⟨w.heap.size + 1, 3, none⟩ = some (.int .i64 b.kd) := by rw [← hW3, ← hW2]; exact ((HB.out.alloc _).alloc _).cell 3
    have e2 : g2 = w.heap.size + 1 + 1 := by rw [← hg2]; exact hz1
    clear hW2 hg2 hW3 hg3 hQC e
    subst e2
    subst hz2
    go_enter Tryz.func72, Tryz.ntmps72
    go_wp2_with fail
    rw [HW.out]
    go_wp2_with fail
    rw [HW2.out, HW3.out]
    refine (compareS_any _ _ _ _ 2 2 2 2 [a.bx, a.id] [b.bx, b.id] _ HR2.out HR3.out (by omega) (by omega)).mono ?_
    rintro e w' ⟨rfl, rfl⟩
    rw [HQC.out]
    clear kA0 kA1 kA2 kA3 kB0 kB1 kB2 kB3
    by_cases hz : QC = 0
    · have d2 : (QC != 0) = false := by simpa using hz
      have HF := Lib.hid (show acCmp a b = sgnZ (a.kd - b.kd) by rw [HD.out, if_pos hz, HSK.out])
      clear hz
      go_wp2_with (first
        | (go_at_call 118; refine (sgnZ_any _ _).mono ?_; rintro e w' ⟨rfl, rfl⟩)
        | fail)
      go_ret
      exact ⟨by rw [HF.out]; try rfl, HQ3.out⟩
    · have d2 : (QC != 0) = true := by simpa using hz
      have HF := Lib.hid (show acCmp a b = QC by rw [HD.out, if_neg hz])
      clear hz
      go_wp2_with fail
      go_ret
      exact ⟨by rw [HF.out]; try rfl, HQ3.out⟩
  · have d : (a.at_ != b.at_) = true := by simpa using e
    have HF := Lib.hid (show acCmp a b = sgnZ (a.at_ - b.at_) by rw [HD.out, if_neg e, HSG.out])
    clear e
    go_enter Tryz.func72, Tryz.ntmps72
    go_wp2_with fail
    rw [HW.out]
    go_wp2_with (first
      | (go_at_call 118; refine (sgnZ_any _ _).mono ?_; rintro e w' ⟨rfl, rfl⟩)
      | fail)
    go_ret
    exact ⟨by rw [HF.out]; try rfl, HQ.out⟩
theorem withinV_any (n lo hi : Int) (w : World) : Calls Tryz.prog 108 #[.int .i64 n, .int .i64 lo, .int .i64 hi] w (Same (.bool (inB n lo hi)) w) := by
  have hfin : inB n lo hi = (decide (lo ≤ n) && decide (n ≤ hi)) := rfl
  have H := Lib.hid hfin; clear hfin
  by_cases h1 : lo ≤ n <;> by_cases h2 : n ≤ hi
  all_goals
    go_enter Tryz.func108, Tryz.ntmps108
    go_wp2
    go_ret
    exact ⟨by rw [H.out]; simp [h1, h2], rfl⟩
theorem from_nil {l : List Nat} (h : l = []) : fromOk l = true := by unfold fromOk; rw [decide_eq_true h]; rfl
theorem from_none {l : List Nat} (h0 : l ≠ []) (h : plusOf l = none) : fromOk l = false := by unfold fromOk; rw [decide_eq_false h0, h]; rfl
theorem from_some {l d : List Nat} (h0 : l ≠ []) (h : plusOf l = some d) : fromOk l = (inB (d.length : Int) 4 15 && digB d) := by
  unfold fromOk inB
  rw [decide_eq_false h0, h, Bool.false_or]
  show (decide (4 ≤ d.length) && decide (d.length ≤ 15) && digB d) = _
  congr 2
  all_goals
    rw [Bool.eq_iff_iff]
    simp only [decide_eq_true_eq]
    omega
set_option maxHeartbeats 4000000 in
theorem isFrom_any (s : ByteArray) (w : World) (hs : s.size ≤ 1000000) : Calls Tryz.prog 134 #[.string s] w (RetV (.bool (fromOk (nb s))) w) := by
  obtain ⟨d, b, hd, hb, hsz, h⟩ := plus_cut s
  have HD := Lib.hid hd; have HB := Lib.hid hb; clear hd hb
  obtain ⟨u, hu, hut⟩ := trimDig_eq d
  have HU := Lib.hid hu; clear hu
  by_cases h0 : nb s = []
  · have q0 := str_nil h0
    have HV := Lib.hid (from_nil h0)
    clear h h0
    cases b
    all_goals
      go_enter Tryz.func134, Tryz.ntmps134
      go_wp2_with (first
        | (go_at_call 125; refine (cutPlus_any s d _ _ HD.out HB.out).mono ?_; rintro e w' ⟨rfl, rfl⟩)
        | fail)
      go_ret
      exact ⟨by rw [HV.out]; rfl, gr_refl _ _⟩
  · obtain ⟨q1, q2, q3⟩ := str_full h0
    rcases h with ⟨rfl, h⟩ | ⟨rfl, h⟩
    · have HV := Lib.hid (from_none h0 h); clear h h0
      go_enter Tryz.func134, Tryz.ntmps134
      go_wp2_with (first
        | (go_at_call 125; refine (cutPlus_any s d false _ HD.out HB.out).mono ?_; rintro e w' ⟨rfl, rfl⟩)
        | fail)
      go_ret
      exact ⟨by rw [HV.out]; rfl, gr_refl _ _⟩
    · have hV := from_some h0 h
      obtain ⟨B1, hB1⟩ : ∃ B, inB (d.size : Int) 4 15 = B := ⟨_, rfl⟩
      obtain ⟨B2, hB2⟩ : ∃ B, digB (nb d) = B := ⟨_, rfl⟩
      rw [nb_len, hB1, hB2] at hV
      have HV := Lib.hid hV; have H1 := Lib.hid hB1; have H2 := Lib.hid hB2; clear h hV h0 hB1
      cases B1
      · clear hB2
        go_enter Tryz.func134, Tryz.ntmps134
        go_wp2_with (first
          | (go_at_call 125; refine (cutPlus_any s d true _ HD.out HB.out).mono ?_; rintro e w' ⟨rfl, rfl⟩)
          | (go_at_call 108; refine (withinV_any _ _ _ _).mono ?_; rintro e w' ⟨rfl, rfl⟩; rw [H1.out])
          | fail)
        go_ret
        exact ⟨by rw [HV.out]; rfl, gr_refl _ _⟩
      · rcases hut with ⟨h1, h2⟩ | ⟨h1, h2, h3⟩
        · obtain rfl : true = B2 := by rw [← hB2, h1]
          clear hB2 h1
          go_enter Tryz.func134, Tryz.ntmps134
          go_wp2_with (first
            | (go_at_call 125; refine (cutPlus_any s d true _ HD.out HB.out).mono ?_; rintro e w' ⟨rfl, rfl⟩)
            | (go_at_call 108; refine (withinV_any _ _ _ _).mono ?_; rintro e w' ⟨rfl, rfl⟩; rw [H1.out])
            | (go_at_call 126; refine (trimDig_any d _ (by omega)).mono ?_; rintro e w' ⟨rfl, hg⟩; rw [HU.out]; have HG := Lib.hid hg; clear hg)
            | fail)
          go_ret
          exact ⟨by rw [HV.out]; rfl, HG.out⟩
        · obtain rfl : false = B2 := by rw [← hB2, h1]
          clear hB2 h1
          go_enter Tryz.func134, Tryz.ntmps134
          go_wp2_with (first
            | (go_at_call 125; refine (cutPlus_any s d true _ HD.out HB.out).mono ?_; rintro e w' ⟨rfl, rfl⟩)
            | (go_at_call 108; refine (withinV_any _ _ _ _).mono ?_; rintro e w' ⟨rfl, rfl⟩; rw [H1.out])
            | (go_at_call 126; refine (trimDig_any d _ (by omega)).mono ?_; rintro e w' ⟨rfl, hg⟩; rw [HU.out]; have HG := Lib.hid hg; clear hg)
            | fail)
          go_ret
          exact ⟨by rw [HV.out]; rfl, HG.out⟩
set_option maxHeartbeats 4000000 in
theorem callerId_any (s : ByteArray) (w : World) (hs : s.size ≤ 1000000) : Calls Tryz.prog 84 #[.string s] w (RetV (.bool (fromOk (nb s))) w) := by
  obtain ⟨d, b, hd, hb, hsz, h⟩ := plus_cut s
  have HD := Lib.hid hd; have HB := Lib.hid hb; clear hd hb
  obtain ⟨dg, hdg, hall⟩ := digits_str
  have HA := Lib.hid hall; clear hall
  by_cases h0 : nb s = []
  · have q0 := str_nil h0
    have HV := Lib.hid (from_nil h0)
    clear h h0
    cases b
    all_goals
      go_enter Tryz.func84, Tryz.ntmps84
      go_wp2_with (first
        | (go_at_call 125; refine (cutPlus_any s d _ _ HD.out HB.out).mono ?_; rintro e w' ⟨rfl, rfl⟩)
        | fail)
      go_ret
      exact ⟨by rw [HV.out]; rfl, gr_refl _ _⟩
  · obtain ⟨q1, q2, q3⟩ := str_full h0
    rcases h with ⟨rfl, h⟩ | ⟨rfl, h⟩
    · have HV := Lib.hid (from_none h0 h); clear h h0
      go_enter Tryz.func84, Tryz.ntmps84
      go_wp2_with (first
        | (go_at_call 125; refine (cutPlus_any s d false _ HD.out HB.out).mono ?_; rintro e w' ⟨rfl, rfl⟩)
        | fail)
      go_ret
      exact ⟨by rw [HV.out]; rfl, gr_refl _ _⟩
    · have hV := from_some h0 h
      obtain ⟨B1, hB1⟩ : ∃ B, inB (d.size : Int) 4 15 = B := ⟨_, rfl⟩
      obtain ⟨B2, hB2⟩ : ∃ B, digB (nb d) = B := ⟨_, rfl⟩
      rw [nb_len, hB1, hB2] at hV
      have HV := Lib.hid hV; have H1 := Lib.hid hB1; have H2 := Lib.hid hB2; clear h hV h0 hB1
      cases B1
      · clear hB2
        go_enter Tryz.func84, Tryz.ntmps84
        go_wp2_with (first
          | (go_at_call 125; refine (cutPlus_any s d true _ HD.out HB.out).mono ?_; rintro e w' ⟨rfl, rfl⟩)
          | (go_at_call 60; refine (in_any _ _ _ _).mono ?_; rintro e w' ⟨rfl, rfl⟩; rw [H1.out])
          | fail)
        go_ret
        exact ⟨by rw [HV.out]; rfl, gr_refl _ _⟩
      · clear hB2
        cases B2
        all_goals
          go_enter Tryz.func84, Tryz.ntmps84
          go_wp2_with (first
            | (go_at_call 125; refine (cutPlus_any s d true _ HD.out HB.out).mono ?_; rintro e w' ⟨rfl, rfl⟩)
            | (go_at_call 60; refine (in_any _ _ _ _).mono ?_; rintro e w' ⟨rfl, rfl⟩; rw [H1.out])
            | (go_at_call 110; refine (onlyS_any d dg _ (by omega)).mono ?_; rintro e w' ⟨rfl, rfl⟩; rw [HA.out, H2.out])
            | fail)
          go_ret
          exact ⟨by rw [HV.out]; rfl, gr_refl _ _⟩
end
end Go.Proofs.YtgogiljplnninaaGreatDoor
/- voiced() answers true. Conditions: none. -/
namespace Go.Proofs.YtgogiljplnninaaGreatDoor
section
open Go.RowKit

theorem Tryz.boxT : StructT Tryz.prog 135 9 := ⟨_, Tryz.underlying135, rfl, by kernel_rfl⟩
theorem Tryz.msgT : StructT Tryz.prog 137 6 := ⟨_, Tryz.underlying137, rfl, by kernel_rfl⟩
set_option maxRecDepth 100000 in
set_option maxHeartbeats 4000000 in
theorem checkBox0_any (w : World) : Calls Tryz.prog 205 #[.agg #[.string ⟨#[98]⟩, .int .i64 1, .int .i64 1, .int .i64 0, .int .i64 0, .slice none 0 0, .bool false, .int .i64 0, .int .i64 0]] w (RetV (.int .i64 0) w) := by
  have i1 : inB 1 1 1000 = true := by decide
  have i2 : inB 1 0 4000 = true := by decide
  have i3 : inB 0 0 4000 = true := by decide
  have i4 : inB 0 0 1439 = true := by decide
  have i5 : inB 0 (-1440) 1440 = true := by decide
  obtain ⟨w1, hw1⟩ : ∃ v, w.alloc (.cells #[.string ⟨#[98]⟩, .int .i64 1, .int .i64 1, .int .i64 0, .int .i64 0, .slice none 0 0, .bool false, .int .i64 0, .int .i64 0] 135) = v := ⟨_, rfl⟩
  obtain ⟨b, hb⟩ : ∃ b, w.heap.size = b := ⟨_, rfl⟩
  have HB := Lib.hid (show Blk w1 b 135 #[.string ⟨#[98]⟩, .int .i64 1, .int .i64 1, .int .i64 0, .int .i64 0, .slice none 0 0, .bool false, .int .i64 0, .int .i64 0] by rw [← hw1, ← hb]; exact Blk.new _ _ _)
  have HG := Lib.hid (show w.grownBy w1 none by rw [← hw1]; exact gr_alloc (gr_refl _ _) _)
  have HW := Lib.hid hw1; have HZ := Lib.hid hb
  clear hw1 hb
  go_enter Tryz.func205, Tryz.ntmps205
  go_upto_region 1 with (fail)
  rw [HW.out]
  (try rw [HZ.out])
  have c1 := HB.out.cell 1
  have c2 := HB.out.cell 2
  have c3 := HB.out.cell 3
  have c4 := HB.out.cell 4
  have c5 := HB.out.cell 5
  have c6 := HB.out.cell 6
  have c7 := HB.out.cell 7
  have c8 := HB.out.cell 8
  go_wp2_with (first
    | (go_at_call 108; refine same_calls (withinV_any _ _ _ _) ?_; first | rw [i1] | rw [i2] | rw [i3] | rw [i4] | rw [i5])
    | fail)
  go_loopw [4, 34] (fun _ t wr => t = .int .i64 0 ∧ w1 = wr) (fun _ _ _ => 0)
  case atStart => exact ⟨rfl, rfl⟩
  case round =>
    obtain ⟨rfl, rfl⟩ := hrel
    go_wp2_with (first
      | (go_at_call 108; refine same_calls (withinV_any _ _ _ _) ?_; first | rw [i1] | rw [i2] | rw [i3] | rw [i4] | rw [i5])
      | fail)
    go_ret
    exact ⟨rfl, HG.out⟩
set_option maxRecDepth 100000 in
set_option maxHeartbeats 4000000 in
theorem checkBoxes0_any (g : Nat) (w : World) (h : Blk w g 135 #[.string ⟨#[98]⟩, .int .i64 1, .int .i64 1, .int .i64 0, .int .i64 0, .slice none 0 0, .bool false, .int .i64 0, .int .i64 0]) : Calls Tryz.prog 146 #[.slice (some ⟨g, 0, none⟩) 1 1] w (RetV (.int .i64 0) w) := by
  have k1 : keyOk (nb ⟨#[98]⟩) = true := by decide
  have H := Lib.hid h
  clear h
  go_enter Tryz.func146, Tryz.ntmps146
  go_wp2_with fail
  go_loopw [3, 4, 5, 11] (fun _ _ _ t wr => ∃ i : Nat, i ≤ 1 ∧ t = .int .i64 i ∧ w.grownBy wr none) (fun _ _ _ t _ => 1 - (intOf t).toNat)
  case atStart => exact ⟨0, by omega, rfl, gr_refl _ _⟩
  case round =>
    obtain ⟨i, hi, rfl, hg⟩ := hrel
    have HG := Lib.hid hg
    have HB := Lib.hid (H.out.grown hg (by simp))
    clear hg
    have hi2 : i = 0 ∨ i = 1 := by omega
    rcases hi2 with rfl | rfl
    · clear hi
      go_upto_region 6 with (first
        | (refine wpl_load_all Tryz.boxT rfl _ rfl g rfl 135 _ HB.out rfl ?_)
        | (refine wpl_store_all Tryz.boxT rfl _ _ rfl _ rfl _ _ _ rfl (Blk.new _ _ _) rfl rfl (by simp [Value.oneCell']) ?_; intro wz hst; have HST := Lib.hid hst; clear hst)
        | fail)
      obtain ⟨sb, hsb⟩ : ∃ b, wr.heap.size = b := ⟨_, rfl⟩
      have HS := Lib.hid (show Blk wz sb 135 #[.string ⟨#[98]⟩, .int .i64 1, .int .i64 1, .int .i64 0, .int .i64 0, .slice none 0 0, .bool false, .int .i64 0, .int .i64 0] by rw [← hsb]; exact HST.out.1)
      have hg2 : w.grownBy wz none := gr_trans (gr_alloc HG.out _) HST.out.2.1 (fun g e => .inr (by injection e with e; have := HG.out.size; omega))
      have HG2 := Lib.hid hg2
      (try rw [hsb])
      have c0 := HS.out.cell 0
      clear hsb HST HG hg2
      go_wp2_with (first
        | (go_at_call 61; refine (isKey_any _ _ (by decide)).mono ?_; rintro e wk ⟨rfl, hgk⟩; first | rw [k1] | rw [k2])
        | fail)
      have HS2 := Lib.hid (HS.out.grown hgk (by simp))
      replace HG2 := Lib.hid (gr_none HG2.out hgk)
      clear HS hgk c0
      have c0 := HS2.out.cell 0
      go_wp2_with fail
      go_quiet (fail)
      go_wp2_with (first
        | (refine wpl_load_all Tryz.boxT rfl _ rfl sb rfl 135 _ HS2.out rfl ?_)
        | (go_at_call 205; refine (checkBox0_any _).mono ?_; rintro e wc ⟨rfl, hgc⟩; have HGC := Lib.hid hgc; clear hgc)
        | fail)
      go_roundw
      case rel => exact ⟨1, by omega, by go_num, gr_none (gr_drewN HG2.out _) HGC.out⟩
      case measure => simp [intOf]
    · go_wp2_with fail
      go_ret
      exact ⟨rfl, HG.out⟩
set_option maxRecDepth 100000 in
set_option maxHeartbeats 4000000 in
theorem ends0_any (w : World) : Calls Tryz.prog 147 #[.agg #[.string ⟨#[98]⟩, .int .i64 1, .int .i64 1, .int .i64 0, .int .i64 0, .slice none 0 0, .bool false, .int .i64 0, .int .i64 0], .agg #[.string ⟨#[109]⟩, .string ⟨#[]⟩, .int .i64 0, .int .i64 1, .int .i64 1, .int .i64 0]] w (RetV (.int .i64 86400000) w) := by
  obtain ⟨w1, hw1⟩ : ∃ v, w.alloc (.cells #[.string ⟨#[98]⟩, .int .i64 1, .int .i64 1, .int .i64 0, .int .i64 0, .slice none 0 0, .bool false, .int .i64 0, .int .i64 0] 135) = v := ⟨_, rfl⟩
  obtain ⟨w2, hw2⟩ : ∃ v, w1.alloc (.cells #[.string ⟨#[109]⟩, .string ⟨#[]⟩, .int .i64 0, .int .i64 1, .int .i64 1, .int .i64 0] 137) = v := ⟨_, rfl⟩
  have HB := Lib.hid (show Blk w2 w.heap.size 135 #[.string ⟨#[98]⟩, .int .i64 1, .int .i64 1, .int .i64 0, .int .i64 0, .slice none 0 0, .bool false, .int .i64 0, .int .i64 0] by rw [← hw2, ← hw1]; exact (Blk.new _ _ _).alloc _)
  have HM := Lib.hid (show Blk w2 (w.heap.size + 1) 137 #[.string ⟨#[109]⟩, .string ⟨#[]⟩, .int .i64 0, .int .i64 1, .int .i64 1, .int .i64 0] by
    rw [← hw2, ← hw1]
    have h := Blk.new (w.alloc (.cells #[.string ⟨#[98]⟩, .int .i64 1, .int .i64 1, .int .i64 0, .int .i64 0, .slice none 0 0, .bool false, .int .i64 0, .int .i64 0] 135)) 137 #[.string ⟨#[109]⟩, .string ⟨#[]⟩, .int .i64 0, .int .i64 1, .int .i64 1, .int .i64 0]
    simpa using h)
  have HG := Lib.hid (show w.grownBy w2 none by rw [← hw2, ← hw1]; exact gr_alloc (gr_alloc (gr_refl _ _) _) _)
  have HW := Lib.hid hw2; have HW1 := Lib.hid hw1
  clear hw1 hw2
  go_enter Tryz.func147, Tryz.ntmps147
  go_upto_region 1 with (fail)
  (try rw [HW1.out])
  (try rw [HW.out])
  have c2 := HB.out.cell 2
  have c3 := HB.out.cell 3
  have c4 := HB.out.cell 4
  have m4 := HM.out.cell 4
  have m5 := HM.out.cell 5
  go_wp2_with fail
  go_ret
  exact ⟨rfl, HG.out⟩
set_option maxRecDepth 100000 in
set_option maxHeartbeats 4000000 in
theorem voicedEnds_any (w : World) : Calls Tryz.prog 97 #[.agg #[.string ⟨#[98]⟩, .int .i64 1, .int .i64 1, .int .i64 0, .int .i64 0, .slice none 0 0, .bool false, .int .i64 0, .int .i64 0], .agg #[.string ⟨#[109]⟩, .string ⟨#[]⟩, .int .i64 0, .int .i64 1, .int .i64 1, .int .i64 0]] w (RetV (.tuple #[.int .i64 86400000, .int .i64 0]) w) := by
  have k2 : keyOk (nb ⟨#[109]⟩) = true := by decide
  have i1 : inB 1 1 86400000 = true := by decide
  have i2 : inB 1 1 4 = true := by decide
  obtain ⟨w1, hw1⟩ : ∃ v, w.alloc (.cells #[.string ⟨#[98]⟩, .int .i64 1, .int .i64 1, .int .i64 0, .int .i64 0, .slice none 0 0, .bool false, .int .i64 0, .int .i64 0] 135) = v := ⟨_, rfl⟩
  obtain ⟨w2, hw2⟩ : ∃ v, w1.alloc (.cells #[.string ⟨#[109]⟩, .string ⟨#[]⟩, .int .i64 0, .int .i64 1, .int .i64 1, .int .i64 0] 137) = v := ⟨_, rfl⟩
  have HB := Lib.hid (show Blk w2 w.heap.size 135 #[.string ⟨#[98]⟩, .int .i64 1, .int .i64 1, .int .i64 0, .int .i64 0, .slice none 0 0, .bool false, .int .i64 0, .int .i64 0] by rw [← hw2, ← hw1]; exact (Blk.new _ _ _).alloc _)
  have HM := Lib.hid (show Blk w2 (w.heap.size + 1) 137 #[.string ⟨#[109]⟩, .string ⟨#[]⟩, .int .i64 0, .int .i64 1, .int .i64 1, .int .i64 0] by
    rw [← hw2, ← hw1]
    have h := Blk.new (w.alloc (.cells #[.string ⟨#[98]⟩, .int .i64 1, .int .i64 1, .int .i64 0, .int .i64 0, .slice none 0 0, .bool false, .int .i64 0, .int .i64 0] 135)) 137 #[.string ⟨#[109]⟩, .string ⟨#[]⟩, .int .i64 0, .int .i64 1, .int .i64 1, .int .i64 0]
    simpa using h)
  have HG := Lib.hid (show w.grownBy w2 none by rw [← hw2, ← hw1]; exact gr_alloc (gr_alloc (gr_refl _ _) _) _)
  have HW := Lib.hid hw2; have HW1 := Lib.hid hw1
  clear hw1 hw2
  go_enter Tryz.func97, Tryz.ntmps97
  go_upto_region 1 with (fail)
  (try rw [HW1.out])
  (try rw [HW.out])
  go_wp2_with (first
    | (refine wpl_load_all Tryz.boxT rfl _ rfl _ rfl 135 _ HB.out rfl ?_)
    | fail)
  refine (checkBoxes0_any _ _ (Blk.new _ _ _)).mono ?_
  rintro e w3 ⟨rfl, hg3⟩
  have hg4 := gr_trans (gr_alloc (gr_refl w2 none) (.cells #[.string ⟨#[98]⟩, .int .i64 1, .int .i64 1, .int .i64 0, .int .i64 0, .slice none 0 0, .bool false, .int .i64 0, .int .i64 0] 135)) hg3 (fun g e => by cases e)
  replace HB := Lib.hid (HB.out.grown hg4 (by simp))
  replace HM := Lib.hid (HM.out.grown hg4 (by simp))
  replace HG := Lib.hid (gr_none HG.out hg4)
  clear hg3 hg4
  have m0 := HM.out.cell 0
  go_upto_region 6 with (first
    | (go_at_call 61; refine (isKey_any _ _ (by decide)).mono ?_; rintro e wk ⟨rfl, hgk⟩; first | rw [k1] | rw [k2])
    | fail)
  replace HB := Lib.hid (HB.out.grown hgk (by simp))
  replace HM := Lib.hid (HM.out.grown hgk (by simp))
  replace HG := Lib.hid (gr_none HG.out hgk)
  clear hgk m0
  have m2 := HM.out.cell 2
  have m3 := HM.out.cell 3
  have m4 := HM.out.cell 4
  have m5 := HM.out.cell 5
  have q1 : momB 0 = true := by decide
  go_wp2_with (first
    | (go_at_call 63; refine same_calls (isMomB_any _ _) ?_)
    | (go_at_call 108; refine same_calls (withinV_any _ _ _ _) ?_; first | rw [i1] | rw [i2] | rw [i3] | rw [i4] | rw [i5])
    | (refine wpl_load_all Tryz.boxT rfl _ rfl _ rfl 135 _ HB.out rfl ?_)
    | (refine wpl_load_all Tryz.msgT rfl _ rfl _ rfl 137 _ HM.out rfl ?_)
    | (go_at_call 147; refine (ends0_any _).mono ?_; rintro e wc ⟨rfl, hgc⟩; have HGC := Lib.hid hgc; clear hgc)
    | fail)
  go_ret2
  exact ⟨rfl, gr_none HG.out HGC.out⟩
set_option maxRecDepth 100000 in
set_option maxHeartbeats 4000000 in
theorem voiced_true (w : World) : Calls Tryz.prog 29 #[] w (RetV (.bool true) w) := by
  go_enter Tryz.func29, Tryz.ntmps29
  go_wp2_with fail
  refine (voicedEnds_any _).mono ?_
  rintro e w1 ⟨rfl, hg⟩
  have HG := Lib.hid hg
  clear hg
  go_wp2_with fail
  go_ret
  exact ⟨rfl, HG.out⟩
end
end Go.Proofs.YtgogiljplnninaaGreatDoor

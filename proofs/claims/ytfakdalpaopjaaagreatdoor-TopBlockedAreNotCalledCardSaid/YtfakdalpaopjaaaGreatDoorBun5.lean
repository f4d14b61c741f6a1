/- strings.Trim at the signs of keys, the document's 'only'; what a key is: number.IsKey and the document's Key; moments. Conditions: none. -/
import Derived.Test.YtfakdalpaopjaaaGreatDoorBun1
import Derived.Test.YtfakdalpaopjaaaGreatDoorShelfTrim
import Derived.Laws.Cover1
import Derived.Test.YtfakdalpaopjaaaGreatDoorBun4
import Derived.Test.YtfakdalpaopjaaaGreatDoorBun3
import Derived.Maps.Own
import Derived.Maps.OwnOps
import Derived.WalkKit
import Derived.Deep.QuietTactic
import Derived.BigQuiet
import Derived.Shelf.SlSortCmp.NoneTotal
namespace Go.Proofs.YtfakdalpaopjaaaGreatDoor
section
open Go.RowKit

/-! The first place of a byte, or -1. -/
def ixS (l : List Nat) (c : Nat) : Int := if c ∈ l then ((l.takeWhile (· != c)).length : Int) else -1
theorem ixS_eq (l : List UInt8) (c : Nat) (hc : c < 256) : Lib.indexByte l c.toUInt8 = ixS (l.map UInt8.toNat) c := by
  induction l with
  | nil => simp [Lib.indexByte, ixS]
  | cons b l ih =>
    have hb : (b == c.toUInt8) = (b.toNat == c) := by
      rw [Bool.eq_iff_iff, beq_iff_eq, beq_iff_eq]
      constructor
      · rintro rfl; simp [Nat.mod_eq_of_lt hc]
      · rintro rfl; simp
    unfold Lib.indexByte
    rw [ih, hb]
    unfold ixS
    by_cases h : b.toNat = c
    · simp [h]
    · have h' : (b.toNat == c) = false := by simpa using h
      rw [h']
      have hm : (c ∈ (b :: l).map UInt8.toNat) ↔ c ∈ l.map UInt8.toNat := by simp [Ne.symm h]
      by_cases h2 : c ∈ l.map UInt8.toNat
      · rw [if_pos h2, if_pos (hm.2 h2)]
        have h3 : (b.toNat != c) = true := by simpa using h
        simp only [List.map_cons, List.takeWhile_cons, h3, if_true, List.length_cons]
        have : ((((l.map UInt8.toNat).takeWhile (· != c)).length : Int) == -1) = false := by
          rw [beq_eq_false_iff_ne]; omega
        rw [this]
        simp
      · rw [if_neg h2, if_neg (fun h3 => h2 (hm.1 h3))]
        simp
theorem ixS_mem {l : List Nat} {c : Nat} : (0 ≤ ixS l c ↔ c ∈ l) ∧ (ixS l c < 0 ↔ ¬ c ∈ l) := by
  unfold ixS
  by_cases h : c ∈ l
  · rw [if_pos h]; exact ⟨⟨fun _ => h, fun _ => by omega⟩, ⟨fun h2 => by omega, fun h2 => absurd h h2⟩⟩
  · rw [if_neg h]; exact ⟨⟨fun h2 => by omega, fun h2 => absurd h2 h⟩, ⟨fun _ => h, fun _ => by omega⟩⟩
theorem ixS_any (s : ByteArray) (c : Nat) (w : World) (hc : c < 256) : Calls Tryz.prog 126 #[.string s, .int .u8 c] w (Same (.int .i64 (ixS (nb s) c)) w) := by
  refine (indexByte_any s c w).mono ?_
  rintro e w' ⟨rfl, rfl⟩
  refine ⟨?_, rfl⟩
  rw [Int.toNat_natCast, ixS_eq _ _ hc]
  rfl
set_option maxHeartbeats 2000000 in
theorem onlyS_any (s u : ByteArray) (w : World) (hs : s.size ≤ 1000000000) : Calls Tryz.prog 90 #[.string s, .string u] w (Same (.bool ((nb s).all (fun b => decide (b ∈ nb u)))) w) := by
  go_enter Tryz.func90, Tryz.ntmps90
  go_wp2_with fail
  go_loop [5, 8] (fun _ t => ∃ i : Nat, i ≤ s.size ∧ t = .int .i64 i ∧ ∀ j, j < i → (nb s).getD j 0 ∈ nb u) (fun _ t => s.size - (intOf t).toNat)
  case atStart => exact ⟨0, Nat.zero_le _, rfl, fun j hj => by omega⟩
  case round =>
    obtain ⟨i, hi, rfl, hin⟩ := hrel
    have HIN := Lib.hid hin; clear hin
    by_cases hil : i < s.size
    · obtain ⟨q, hq⟩ : ∃ q, s[i].toNat = q := ⟨_, rfl⟩
      have q256 : q < 256 := by rw [← hq]; exact UInt8.toNat_lt _
      have HQ := Lib.hid (show (nb s).getD i 0 = q by rw [← nb_get hil, hq])
      obtain ⟨z, hz⟩ : ∃ z, ixS (nb u) q = z := ⟨_, rfl⟩
      have HZ := Lib.hid hz
      have hi0 := ixS_mem (l := nb u) (c := q)
      rw [hz] at hi0
      clear hz
      by_cases hz0 : z < 0
      · have HF := Lib.hid (show (nb s).all (fun b => decide (b ∈ nb u)) = false by
          rw [List.all_eq_false]
          have hl : i < (nb s).length := by rw [nb_len]; exact hil
          refine ⟨q, ?_, by simpa using hi0.2.1 hz0⟩
          rw [← HQ.out, List.getD_eq_getElem?_getD, List.getElem?_eq_getElem hl]
          exact List.getElem_mem _)
        clear hi0
        go_wp2_with (first
          | (go_at_call 126; refine (ixS_any u q _ q256).mono ?_; rintro e w' ⟨rfl, rfl⟩; rw [HZ.out])
          | fail)
        go_ret
        exact ⟨by rw [HF.out]; rfl, rfl⟩
      · have HN := Lib.hid (hi0.1.1 (by omega))
        clear hi0
        go_wp2_with (first
          | (go_at_call 126; refine (ixS_any u q _ q256).mono ?_; rintro e w' ⟨rfl, rfl⟩; rw [HZ.out])
          | fail)
        go_round
        case rel => exact ⟨i + 1, by omega, by go_num, fun j hj => by
          rcases Nat.lt_succ_iff_lt_or_eq.1 hj with h1 | h1
          · exact HIN.out j h1
          · subst h1; rw [HQ.out]; exact HN.out⟩
        case measure => simp [intOf]; omega
    · obtain rfl : i = s.size := by omega
      have HT := Lib.hid (show (nb s).all (fun b => decide (b ∈ nb u)) = true by
        rw [List.all_eq_true]
        intro b hb
        obtain ⟨k, hk, rfl⟩ := List.mem_iff_getElem.1 hb
        have := HIN.out k (by rw [nb_len] at hk; exact hk)
        rw [List.getD_eq_getElem?_getD, List.getElem?_eq_getElem hk] at this
        exact decide_eq_true this)
      have d0 : decide ((s.size : Int) < (s.size : Int)) = false := decide_eq_false (by omega)
      go_wp2_with fail
      go_ret
      exact ⟨by rw [HT.out]; rfl, rfl⟩

/-! Trimmed strings. -/
theorem tr_head {p : UInt8 → Bool} {l : List UInt8} {a : UInt8} {r : List UInt8} (h : l.dropWhile p = a :: r) : p a = false := by
  induction l with
  | nil => cases h
  | cons b l ih =>
    rw [List.dropWhile_cons] at h
    split at h
    · exact ih h
    · rename_i hp
      injection h with h1 h2
      subst h1
      simpa using hp
theorem tr_all {p : UInt8 → Bool} {l : List UInt8} : l.dropWhile p = [] ↔ ∀ a ∈ l, p a = true := by
  induction l with
  | nil => simp
  | cons b l ih =>
    rw [List.dropWhile_cons]
    by_cases hp : p b = true
    · rw [if_pos hp, ih]; simp [hp]
    · rw [if_neg hp]; simp [hp]
theorem tr_nil (l cs : List UInt8) : Lib.trimS l cs = [] ↔ ∀ b ∈ l, cs.contains b = true := by
  unfold Lib.trimS Lib.trimLeftS Lib.trimRightS
  rw [tr_all]
  constructor
  · intro h
    cases hd : l.reverse.dropWhile (cs.contains ·) with
    | nil =>
      have := tr_all.1 hd
      intro b hb
      exact this b (by simpa using hb)
    | cons a r =>
      exfalso
      have h1 := tr_head hd
      have h2 := h a (by rw [hd]; simp)
      rw [h1] at h2
      cases h2
  · intro h
    have : l.reverse.dropWhile (cs.contains ·) = [] := tr_all.2 (fun a ha => h a (by simpa using ha))
    rw [this]
    simp
/-- A string is trimmed to nothing just if it has no other signs. -/
theorem tr_only (s : ByteArray) (cs : List UInt8) : (Lib.trimS s.data.toList cs = []) ↔ (nb s).all (fun b => decide (b ∈ cs.map UInt8.toNat)) = true := by
  rw [tr_nil, List.all_eq_true]
  unfold nb
  have hin : ∀ u : UInt8, cs.contains u = true ↔ u.toNat ∈ cs.map UInt8.toNat := fun u => by
    rw [List.contains_iff_mem]
    constructor
    · intro h; exact List.mem_map.2 ⟨u, h, rfl⟩
    · intro h
      obtain ⟨v, hv, he⟩ := List.mem_map.1 h
      rw [← UInt8.toNat_inj.1 he]; exact hv
  constructor
  · intro h b hb
    obtain ⟨u, hu, rfl⟩ := List.mem_map.1 hb
    exact decide_eq_true ((hin u).1 (h u hu))
  · intro h u hu
    exact (hin u).2 (of_decide_eq_true (h _ (List.mem_map.2 ⟨u, hu, rfl⟩)))

/-! Keys. -/
def keySigns : List Nat := [97, 98, 99, 100, 101, 102, 103, 104, 105, 106, 107, 108, 109, 110, 111, 112, 113, 114, 115, 116, 117, 118, 119, 120, 121, 122, 48, 49, 50, 51, 52, 53, 54, 55, 56, 57, 45, 95]
def smallSigns : List Nat := [97, 98, 99, 100, 101, 102, 103, 104, 105, 106, 107, 108, 109, 110, 111, 112, 113, 114, 115, 116, 117, 118, 119, 120, 121, 122]
def keyOk (l : List Nat) : Bool := decide (1 ≤ l.length) && decide (l.length ≤ 40) && decide (97 ≤ l.getD 0 0) && decide (l.getD 0 0 ≤ 122) && l.all (fun b => decide (b ∈ keySigns))
set_option maxRecDepth 100000 in
theorem trimKey_any (s : ByteArray) (w : World) (hs : s.size ≤ 1000000) : Calls Tryz.prog 67 #[.string s, .string ⟨#[97, 98, 99, 100, 101, 102, 103, 104, 105, 106, 107, 108, 109, 110, 111, 112, 113, 114, 115, 116, 117, 118, 119, 120, 121, 122, 48, 49, 50, 51, 52, 53, 54, 55, 56, 57, 45, 95]⟩] w
    (RetV (.string ⟨(Lib.trimS s.data.toList [97, 98, 99, 100, 101, 102, 103, 104, 105, 106, 107, 108, 109, 110, 111, 112, 113, 114, 115, 116, 117, 118, 119, 120, 121, 122, 48, 49, 50, 51, 52, 53, 54, 55, 56, 57, 45, 95]).toArray⟩) w) := by
  refine (Any.strings_Trim_laid Tryz.lays160 (by kernel_rfl) s ⟨#[97, 98, 99, 100, 101, 102, 103, 104, 105, 106, 107, 108, 109, 110, 111, 112, 113, 114, 115, 116, 117, 118, 119, 120, 121, 122, 48, 49, 50, 51, 52, 53, 54, 55, 56, 57, 45, 95]⟩ w (by omega) (by decide) (ascii_of_all (by decide))).mono ?_
  rintro e w' ⟨rfl, hb⟩
  exact ⟨rfl, gr_below hb none⟩
set_option maxHeartbeats 2000000 in
set_option maxRecDepth 100000 in
theorem isKey_any (s : ByteArray) (w : World) (hs : s.size ≤ 1000000) : Calls Tryz.prog 26 #[.string s] w (RetV (.bool (keyOk (nb s))) w) := by
  have hlen := nb_len s
  by_cases h1 : 1 ≤ s.size
  · have q1 : decide ((1 : Int) ≤ (s.size : Int)) = true := decide_eq_true (by omega)
    by_cases h2 : s.size ≤ 40
    · have q2 : decide ((s.size : Int) ≤ 40) = true := decide_eq_true (by omega)
      obtain ⟨b, hb⟩ : ∃ b, s[0].toNat = b := ⟨_, rfl⟩
      have hb0 : (nb s).getD 0 0 = b := by rw [← nb_get (by omega), hb]
      have HD := Lib.hid (show keyOk (nb s) = (decide (97 ≤ b) && decide (b ≤ 122) && (nb s).all (fun b => decide (b ∈ keySigns))) by
        unfold keyOk; rw [hlen, decide_eq_true h1, decide_eq_true h2, hb0]; simp only [Bool.true_and])
      clear hlen hb0
      by_cases h3 : 97 ≤ b
      · have q3 : decide ((97 : Int) ≤ (b : Int)) = true := decide_eq_true (by omega)
        by_cases h4 : b ≤ 122
        · have q4 : decide ((b : Int) ≤ 122) = true := decide_eq_true (by omega)
          obtain ⟨u, hu⟩ : ∃ u : ByteArray, (⟨(Lib.trimS s.data.toList [97, 98, 99, 100, 101, 102, 103, 104, 105, 106, 107, 108, 109, 110, 111, 112, 113, 114, 115, 116, 117, 118, 119, 120, 121, 122, 48, 49, 50, 51, 52, 53, 54, 55, 56, 57, 45, 95]).toArray⟩ : ByteArray) = u := ⟨_, rfl⟩
          have HU := Lib.hid hu
          obtain ⟨B, hB⟩ : ∃ B, (nb s).all (fun b => decide (b ∈ keySigns)) = B := ⟨_, rfl⟩
          have HB := Lib.hid (show keyOk (nb s) = B by rw [HD.out, decide_eq_true h3, decide_eq_true h4, hB]; rfl)
          have hul : u.toList = Lib.trimS s.data.toList [97, 98, 99, 100, 101, 102, 103, 104, 105, 106, 107, 108, 109, 110, 111, 112, 113, 114, 115, 116, 117, 118, 119, 120, 121, 122, 48, 49, 50, 51, 52, 53, 54, 55, 56, 57, 45, 95] := by rw [← hu]; exact ByteArray.toList_mk _
          cases B
          · have q3 : ¬ u.toList = [] := fun h => by
              rw [hul, tr_only] at h
              have : (nb s).all (fun b => decide (b ∈ keySigns)) = true := h
              rw [hB] at this; cases this
            have q4 : (u.toList == []) = false := by rw [beq_eq_false_iff_ne]; exact q3
            have q5 : u.toList.isEmpty = false := by rw [List.isEmpty_eq_false_iff]; exact q3
            clear hu hB hul q3
            go_enter Tryz.func26, Tryz.ntmps26
            go_wp2_with (first
              | (go_at_call 67; refine (trimKey_any s _ hs).mono ?_; rintro e w' ⟨rfl, hg⟩; rw [HU.out]; have HG := Lib.hid hg; clear hg)
              | fail)
            go_ret
            exact ⟨by rw [HB.out]; rfl, HG.out⟩
          · have q3 : u.toList = [] := by rw [hul, tr_only]; exact hB
            clear hu hB hul
            go_enter Tryz.func26, Tryz.ntmps26
            go_wp2_with (first
              | (go_at_call 67; refine (trimKey_any s _ hs).mono ?_; rintro e w' ⟨rfl, hg⟩; rw [HU.out]; have HG := Lib.hid hg; clear hg)
              | fail)
            go_ret
            exact ⟨by rw [HB.out]; rfl, HG.out⟩
        · have q4 : decide ((b : Int) ≤ 122) = false := decide_eq_false (by omega)
          have HB := Lib.hid (show keyOk (nb s) = false by rw [HD.out, decide_eq_false h4]; simp)
          go_enter Tryz.func26, Tryz.ntmps26
          go_wp2_with fail
          go_ret
          exact ⟨by rw [HB.out]; rfl, gr_refl _ _⟩
      · have q3 : decide ((97 : Int) ≤ (b : Int)) = false := decide_eq_false (by omega)
        have HB := Lib.hid (show keyOk (nb s) = false by rw [HD.out, decide_eq_false h3]; simp)
        go_enter Tryz.func26, Tryz.ntmps26
        go_wp2_with fail
        go_ret
        exact ⟨by rw [HB.out]; rfl, gr_refl _ _⟩
    · have q2 : decide ((s.size : Int) ≤ 40) = false := decide_eq_false (by omega)
      have HB := Lib.hid (show keyOk (nb s) = false by unfold keyOk; rw [hlen, decide_eq_false h2]; simp)
      clear hlen
      go_enter Tryz.func26, Tryz.ntmps26
      go_wp2_with fail
      go_ret
      exact ⟨by rw [HB.out]; rfl, gr_refl _ _⟩
  · have q1 : decide ((1 : Int) ≤ (s.size : Int)) = false := decide_eq_false (by omega)
    have HB := Lib.hid (show keyOk (nb s) = false by unfold keyOk; rw [hlen, decide_eq_false h1]; simp)
    clear hlen
    go_enter Tryz.func26, Tryz.ntmps26
    go_wp2_with fail
    go_ret
    exact ⟨by rw [HB.out]; rfl, gr_refl _ _⟩
theorem small_iff : ∀ c : Fin 256, decide (c.val ∈ smallSigns) = (decide (97 ≤ c.val) && decide (c.val ≤ 122)) := by decide +kernel
theorem nb_small : nb ⟨#[97, 98, 99, 100, 101, 102, 103, 104, 105, 106, 107, 108, 109, 110, 111, 112, 113, 114, 115, 116, 117, 118, 119, 120, 121, 122]⟩ = smallSigns := by decide +kernel
theorem nb_keyS : nb ⟨#[97, 98, 99, 100, 101, 102, 103, 104, 105, 106, 107, 108, 109, 110, 111, 112, 113, 114, 115, 116, 117, 118, 119, 120, 121, 122, 48, 49, 50, 51, 52, 53, 54, 55, 56, 57, 45, 95]⟩ = keySigns := by decide +kernel
set_option maxHeartbeats 2000000 in
set_option maxRecDepth 100000 in
theorem keyRef_any (s : ByteArray) (w : World) (hs : s.size ≤ 1000000) : Calls Tryz.prog 52 #[.string s] w (Same (.bool (keyOk (nb s))) w) := by
  have hlen := nb_len s
  obtain ⟨B1, h1⟩ : ∃ B1, inB (s.size : Int) 1 40 = B1 := ⟨_, rfl⟩
  have H1 := Lib.hid h1
  have hB1 : B1 = (decide (1 ≤ s.size) && decide (s.size ≤ 40)) := by
    rw [← h1]; unfold inB; rw [Bool.eq_iff_iff]; simp only [Bool.and_eq_true, decide_eq_true_eq]; omega
  clear h1
  cases B1
  · have HB := Lib.hid (show keyOk (nb s) = false by unfold keyOk; rw [hlen, ← hB1]; rfl)
    clear hlen hB1
    go_enter Tryz.func52, Tryz.ntmps52
    go_wp2_with (first
      | (go_at_call 55; refine (in_any _ _ _ _).mono ?_; rintro e w' ⟨rfl, rfl⟩; rw [H1.out])
      | fail)
    go_ret
    exact ⟨by rw [HB.out]; rfl, rfl⟩
  · have h12 : 1 ≤ s.size ∧ s.size ≤ 40 := by simpa using hB1.symm
    obtain ⟨u, hu⟩ : ∃ u, s.extract 0 1 = u := ⟨_, rfl⟩
    have hnu : nb u = [(nb s).getD 0 0] := by
      rw [← hu, nb_extract]
      cases hn : nb s with
      | nil => rw [hn] at hlen; simp at hlen; omega
      | cons x l => rfl
    have hus : u.size ≤ 1 := by rw [← nb_len, hnu]; simp
    have h256 : (nb s).getD 0 0 < 256 := nb_lt (s := u) (by rw [hnu]; simp)
    obtain ⟨B2, h2⟩ : ∃ B2, (nb u).all (fun b => decide (b ∈ smallSigns)) = B2 := ⟨_, rfl⟩
    obtain ⟨B3, h3⟩ : ∃ B3, (nb s).all (fun b => decide (b ∈ keySigns)) = B3 := ⟨_, rfl⟩
    have HB := Lib.hid (show keyOk (nb s) = (B2 && B3) by
      unfold keyOk
      rw [← h2, ← h3, hnu, hlen, decide_eq_true h12.1, decide_eq_true h12.2]
      have := small_iff ⟨_, h256⟩
      simp only [List.all_cons, List.all_nil, Bool.and_true, Bool.true_and]
      rw [this])
    have H2 := Lib.hid h2; have H3 := Lib.hid h3
    clear hB1 hnu h2 h3 hlen h256
    have g1 : (1 : Int) ≤ (s.size : Int) := by omega
    have g2 : (1 : Nat) ≤ s.size := by omega
    clear h12
    obtain ⟨sm, hsm⟩ : ∃ sm : ByteArray, (⟨#[97, 98, 99, 100, 101, 102, 103, 104, 105, 106, 107, 108, 109, 110, 111, 112, 113, 114, 115, 116, 117, 118, 119, 120, 121, 122]⟩ : ByteArray) = sm := ⟨_, rfl⟩
    obtain ⟨ks, hks⟩ : ∃ ks : ByteArray, (⟨#[97, 98, 99, 100, 101, 102, 103, 104, 105, 106, 107, 108, 109, 110, 111, 112, 113, 114, 115, 116, 117, 118, 119, 120, 121, 122, 48, 49, 50, 51, 52, 53, 54, 55, 56, 57, 45, 95]⟩ : ByteArray) = ks := ⟨_, rfl⟩
    have HSM := Lib.hid (show (nb u).all (fun b => decide (b ∈ nb sm)) = B2 by rw [← hsm, nb_small]; exact H2.out)
    have HKS := Lib.hid (show (nb s).all (fun b => decide (b ∈ nb ks)) = B3 by rw [← hks, nb_keyS]; exact H3.out)
    cases B2
    all_goals
      go_enter Tryz.func52, Tryz.ntmps52
      go_wp2_with (first
        | (go_at_call 55; refine (in_any _ _ _ _).mono ?_; rintro e w' ⟨rfl, rfl⟩; rw [H1.out])
        | (go_at_call 90; ((with_reducible refine (onlyS_any u sm _ (by omega)).mono ?_); rintro e w' ⟨rfl, rfl⟩; rw [HSM.out]))
        | (go_at_call 90; ((with_reducible refine (onlyS_any s ks _ (by omega)).mono ?_); rintro e w' ⟨rfl, rfl⟩; rw [HKS.out]))
        | fail)
      go_ret
      exact ⟨by rw [HB.out]; rfl, rfl⟩
end
end Go.Proofs.YtfakdalpaopjaaaGreatDoor
/- Small words that many texts share: Go's order of strings, the first error of some places, moments. Conditions: none. -/
namespace Go.Proofs.YtfakdalpaopjaaaGreatDoor
section
open Go.RowKit

/-- Go's <= on strings. -/
def leS (a b : ByteArray) : Bool := Op.bytesLess a.toList b.toList || a.toList == b.toList
/-- The first of f 0, f 1, .. f (n - 1) that is not 0; 0: there is none. -/
def fstE (f : Nat → Int) : Nat → Int
  | 0 => 0
  | n + 1 => if fstE f n = 0 then f n else fstE f n
theorem fstE_zero {f : Nat → Int} {i : Nat} (h : fstE f i = 0) (h1 : f i = 0) : fstE f (i + 1) = 0 := by simp [fstE, h, h1]
theorem fstE_stop {f : Nat → Int} {i n : Nat} (h : fstE f i = 0) (h1 : f i ≠ 0) (hn : i < n) : fstE f n = f i := by
  induction n with
  | zero => omega
  | succ n ih =>
    by_cases e : i = n
    · subst e; simp [fstE, h]
    · have := ih (by omega)
      simp [fstE, this, h1]

theorem fst_ret {f : Nat → Int} {i n : Nat} {X v : Int} (h : fstE f i = 0) (e : f i = v) (hv : v ≠ 0) (hn : i < n) : (if fstE f n = 0 then X else fstE f n) = v := by
  rw [fstE_stop h (by rw [e]; exact hv) hn, e, if_neg hv]
def momB (n : Int) : Bool := inB n 0 345686399999
set_option maxHeartbeats 1000000 in
theorem isMomB_any (n : Int) (w : World) : Calls Tryz.prog 27 #[.int .i64 n] w (Same (.bool (momB n)) w) := by
  have H := Lib.hid (show momB n = (decide (0 ≤ n) && decide (n ≤ 345686399999)) from rfl)
  by_cases h1 : 0 ≤ n <;> by_cases h2 : n < 345686400000
  all_goals
    go_enter Tryz.func27, Tryz.ntmps27
    go_wp2
    go_ret
    exact ⟨by rw [H.out]; simp [h1]; omega, rfl⟩
set_option maxHeartbeats 1000000 in
theorem momentB_any (n : Int) (w : World) : Calls Tryz.prog 54 #[.int .i64 n] w (Same (.bool (momB n)) w) := by
  go_enter Tryz.func54, Tryz.ntmps54
  go_wp2_with (first
    | (go_at_call 55; refine (in_any _ _ _ _).mono ?_; rintro e w' ⟨rfl, rfl⟩)
    | fail)
  go_ret
  exact ⟨rfl, rfl⟩
theorem keyRefR_any (s : ByteArray) (w : World) (hs : s.size ≤ 1000000) : Calls Tryz.prog 52 #[.string s] w (RetV (.bool (keyOk (nb s))) w) := by
  refine (keyRef_any s w hs).mono ?_
  rintro e w' ⟨rfl, rfl⟩
  exact ⟨rfl, gr_refl _ _⟩
theorem eqS_nb (s t : ByteArray) : (s.toList == t.toList) = (nb s == nb t) := by
  rw [Bool.eq_iff_iff, beq_iff_eq, beq_iff_eq, ByteArray.toList_eq, ByteArray.toList_eq]
  exact ⟨fun h => by unfold nb; rw [h], fun h => by rw [nb_inj h]⟩
theorem fstE_ev {f : Nat → Int} {n : Nat} (h : fstE f n = 0) : ∀ i, i < n → f i = 0 := by
  induction n with
  | zero => intro i hi; omega
  | succ n ih =>
    intro i hi
    unfold fstE at h
    by_cases h0 : fstE f n = 0
    · rw [if_pos h0] at h
      rcases Nat.lt_succ_iff_lt_or_eq.1 hi with h1 | h1
      · exact ih h0 i h1
      · subst h1; exact h
    · rw [if_neg h0] at h; exact absurd h h0
end
end Go.Proofs.YtfakdalpaopjaaaGreatDoor
/- Hours as they lie in memory, and what is wrong with them, in plain Lean. Conditions: none. -/
namespace Go.Proofs.YtfakdalpaopjaaaGreatDoor
section
open Go.RowKit

/-- Hours, as they lie in memory: rows are (days, from, to), holidays are (day, from, to). -/
structure HrV where
  key : ByteArray
  zone : Int
  rA : Option Addr
  rn : Nat
  rc : Nat
  hA : Option Addr
  hn : Nat
  hc : Nat
  rows : List (Int × Int × Int)
  hol : List (Int × Int × Int)
def HrV.row (a : HrV) : List Value := [.string a.key, .int .i64 a.zone, .slice a.rA a.rn a.rc, .slice a.hA a.hn a.hc]
theorem HrV.row_len (a : HrV) : a.row.length = 4 := rfl
def r3Row (p : Int × Int × Int) : List Value := [.int .i64 p.1, .int .i64 p.2.1, .int .i64 p.2.2]
theorem r3Row_len (p : Int × Int × Int) : (r3Row p).length = 3 := rfl
/-- What the slices of hours read as. -/
def HrOk (w : World) (lo : Nat) (a : HrV) : Prop := (a.key.size ≤ 1000 ∧ a.rn ≤ 1000 ∧ a.hn ≤ 1000) ∧ Recs r3Row 3 w lo a.rA a.rn a.rc a.rows ∧ Recs r3Row 3 w lo a.hA a.hn a.hc a.hol
def Hrs (w : World) (lo : Nat) (A : Option Addr) (n c : Nat) (l : List HrV) : Prop := Recs HrV.row 4 w lo A n c l ∧ ∀ a ∈ l, HrOk w lo a
theorem HrOk.grown {w w' : World} {lo : Nat} {a : HrV} (h : HrOk w lo a) {r : Option Nat} (hg : w.grownBy w' r) (hr : ∀ g, r = some g → g < lo) : HrOk w' lo a := ⟨h.1, h.2.1.grown hg hr, h.2.2.grown hg hr⟩
theorem Hrs.grown {w w' : World} {lo : Nat} {A : Option Addr} {n c : Nat} {l : List HrV} (h : Hrs w lo A n c l) {r : Option Nat} (hg : w.grownBy w' r) (hr : ∀ g, r = some g → g < lo) : Hrs w' lo A n c l :=
  ⟨h.1.grown hg hr, fun a ha => (h.2 a ha).grown hg hr⟩

/-! What is wrong with hours. -/
def timB (a b : Int) : Bool := decide (0 ≤ a) && (decide (a < b) && decide (b ≤ 1440))
def rwB (r : Int × Int × Int) : Bool := inB r.1 1 127 && timB r.2.1 r.2.2
def hoB (d : Int × Int × Int) : Bool := inB d.1 0 4000 && ((decide (d.2.1 = 0) && decide (d.2.2 = 0)) || timB d.2.1 d.2.2)
def rwAt (l : List (Int × Int × Int)) (i : Nat) : Int := (l[i]?).elim 0 fun r => if rwB r then 0 else 1
def hoAt (l : List (Int × Int × Int)) (i : Nat) : Int := (l[i]?).elim 0 fun d => if hoB d then (if decide (0 < i) && (l[i - 1]?).elim false (fun p => decide (d.1 ≤ p.1)) then 7 else 0) else 1
def htE (rn : Nat) (rows : List (Int × Int × Int)) (hn : Nat) (hol : List (Int × Int × Int)) : Int :=
  if 50 < rn then 2 else (if fstE (rwAt rows) rn = 0 then (if 200 < hn then 2 else fstE (hoAt hol) hn) else fstE (rwAt rows) rn)
def hrE (a : HrV) : Int := htE a.rn a.rows a.hn a.hol
def hrAt (l : List HrV) (i : Nat) : Int := (l[i]?).elim 0 fun a =>
  if keyOk (nb a.key) then (if decide (0 < i) && (l[i - 1]?).elim false (fun b => leS a.key b.key) then 7 else (if inB a.zone (-1440) 1440 then hrE a else 1)) else 5
def hrsE (l : List HrV) : Int := if 50 < l.length then 2 else fstE (hrAt l) l.length

section
variable {l : List (Int × Int × Int)} {i : Nat} {z b : Int × Int × Int}
theorem rwAt_1 (h : l[i]? = some z) (h1 : rwB z = false) : rwAt l i = 1 := by simp [rwAt, h, h1]
theorem rwAt_0 (h : l[i]? = some z) (h1 : rwB z = true) : rwAt l i = 0 := by simp [rwAt, h, h1]
theorem hoAt_1 (h : l[i]? = some z) (h1 : hoB z = false) : hoAt l i = 1 := by simp [hoAt, h, h1]
theorem hoAt_7 (h : l[i]? = some z) (h1 : hoB z = true) (hi : 0 < i) (hb : l[i - 1]? = some b) (h3 : z.1 ≤ b.1) : hoAt l i = 7 := by simp [hoAt, h, h1, hi, hb, h3]
theorem hoAt_e (h : l[i]? = some z) (h1 : hoB z = true) (hb : l[i - 1]? = some b) (h3 : ¬ z.1 ≤ b.1) : hoAt l i = 0 := by simp only [hoAt, h, Option.elim, h1, hb, decide_eq_false h3, Bool.and_false]; rfl
theorem hoAt_z (h : l[i]? = some z) (h1 : hoB z = true) (hi : ¬ 0 < i) : hoAt l i = 0 := by simp only [hoAt, h, Option.elim, h1, decide_eq_false hi, Bool.false_and]; rfl
end
section
variable {l : List HrV} {i : Nat} {z b : HrV}
theorem hrAt_5 (h : l[i]? = some z) (h1 : keyOk (nb z.key) = false) : hrAt l i = 5 := by simp only [hrAt, h, Option.elim, h1]; rfl
theorem hrAt_7 (h : l[i]? = some z) (h1 : keyOk (nb z.key) = true) (hi : 0 < i) (hb : l[i - 1]? = some b) (h3 : leS z.key b.key = true) : hrAt l i = 7 := by simp only [hrAt, h, Option.elim, h1, hb, h3, decide_eq_true hi]; rfl
theorem hrAt_e (h : l[i]? = some z) (h1 : keyOk (nb z.key) = true) (hb : l[i - 1]? = some b) (h3 : leS z.key b.key = false) : hrAt l i = if inB z.zone (-1440) 1440 then hrE z else 1 := by simp only [hrAt, h, Option.elim, h1, hb, h3, Bool.and_false]; rfl
theorem hrAt_z (h : l[i]? = some z) (h1 : keyOk (nb z.key) = true) (hi : ¬ 0 < i) : hrAt l i = if inB z.zone (-1440) 1440 then hrE z else 1 := by simp only [hrAt, h, Option.elim, h1, decide_eq_false hi, Bool.false_and]; rfl
end
/-- The key ahead of a place; none: the empty string. -/
def lastH (l : List HrV) (k : Nat) : ByteArray := if k = 0 then ⟨#[]⟩ else (l[k - 1]?).elim ⟨#[]⟩ (·.key)
theorem keyOk_full {s : ByteArray} (h : keyOk (nb s) = true) : s.toList ≠ [] := by
  intro e
  have : nb s = [] := by unfold nb; rw [← ByteArray.toList_eq, e]; rfl
  rw [this] at h
  exact absurd h (by decide)
theorem hrAt_last {l : List HrV} {k : Nat} {z : HrV} (h : l[k]? = some z) (h1 : keyOk (nb z.key) = true) : hrAt l k = if leS z.key (lastH l k) then 7 else (if inB z.zone (-1440) 1440 then hrE z else 1) := by
  by_cases hk : 0 < k
  · have hl := (List.getElem?_eq_some_iff.1 h).1
    obtain ⟨b, hb⟩ : ∃ b, l[k - 1]? = some b := ⟨_, List.getElem?_eq_getElem (by omega)⟩
    have e : lastH l k = b.key := by unfold lastH; rw [if_neg (by omega), hb]; rfl
    rw [e]
    cases h3 : leS z.key b.key
    · rw [hrAt_e h h1 hb h3]; rfl
    · rw [hrAt_7 h h1 hk hb h3]; rfl
  · have e : lastH l k = ⟨#[]⟩ := by unfold lastH; rw [if_pos (by omega)]
    have h3 : leS z.key ⟨#[]⟩ = false := by
      unfold leS
      have h4 : (⟨#[]⟩ : ByteArray).toList = [] := by rw [ByteArray.toList_eq]
      rw [h4, Bool.or_eq_false_iff]
      refine ⟨?_, by rw [beq_eq_false_iff_ne]; exact keyOk_full h1⟩
      unfold Op.bytesLess
      cases z.key.toList <;> rfl
    rw [e, h3, hrAt_z h h1 hk]; rfl

/-! Hours that are right. -/
theorem fstE_alh {f : Nat → Int} {n i : Nat} (h : fstE f n = 0) (hi : i < n) : f i = 0 := by
  rcases Int.lt_trichotomy (f i) 0 with h1 | h1 | h1
  · by_cases h2 : fstE f i = 0
    · rw [fstE_stop h2 (by omega) hi] at h; omega
    · exfalso
      clear h1
      induction n with
      | zero => omega
      | succ n ih =>
        unfold fstE at h
        by_cases h3 : fstE f n = 0
        · by_cases e : i = n
          · subst e; exact h2 h3
          · exact ih h3 (by omega)
        · rw [if_neg h3] at h; exact h3 h
  · exact h1
  · by_cases h2 : fstE f i = 0
    · rw [fstE_stop h2 (by omega) hi] at h; omega
    · exfalso
      clear h1
      induction n with
      | zero => omega
      | succ n ih =>
        unfold fstE at h
        by_cases h3 : fstE f n = 0
        · by_cases e : i = n
          · subst e; exact h2 h3
          · exact ih h3 (by omega)
        · rw [if_neg h3] at h; exact h3 h
def RightH (zone : Int) (rows hol : List (Int × Int × Int)) : Prop := (-1440 ≤ zone ∧ zone ≤ 1440) ∧ (rows.length ≤ 50 ∧ hol.length ≤ 200) ∧ (∀ r ∈ rows, (1 ≤ r.1 ∧ r.1 ≤ 127) ∧ 0 ≤ r.2.1 ∧ r.2.1 ≤ 1440 ∧ 0 ≤ r.2.2 ∧ r.2.2 ≤ 1440) ∧ ∀ r ∈ hol, 0 ≤ r.2.1 ∧ r.2.1 ≤ 1440 ∧ 0 ≤ r.2.2 ∧ r.2.2 ≤ 1440
theorem right_of {a : HrV} (hr : a.rows.length = a.rn) (hh : a.hol.length = a.hn) (h : hrsE [a] = 0) : RightH a.zone a.rows a.hol := by
  have h1 : hrAt [a] 0 = 0 := fstE_alh (n := 1) (show fstE (hrAt [a]) 1 = 0 from h) (by omega)
  have h2 : hrAt [a] 0 = if keyOk (nb a.key) then (if inB a.zone (-1440) 1440 then hrE a else 1) else 5 := rfl
  rw [h2] at h1
  by_cases c1 : keyOk (nb a.key) = true
  · rw [if_pos c1] at h1
    by_cases c2 : inB a.zone (-1440) 1440 = true
    · rw [if_pos c2] at h1
      have c2' : -1440 ≤ a.zone ∧ a.zone ≤ 1440 := by unfold inB at c2; simpa using c2
      unfold hrE htE at h1
      by_cases c3 : 50 < a.rn
      · rw [if_pos c3] at h1; omega
      · rw [if_neg c3] at h1
        by_cases c4 : fstE (rwAt a.rows) a.rn = 0
        · rw [if_pos c4] at h1
          by_cases c5 : 200 < a.hn
          · rw [if_pos c5] at h1; omega
          · rw [if_neg c5] at h1
            refine ⟨c2', ⟨by omega, by omega⟩, fun r hrm => ?_, fun r hrm => ?_⟩
            · obtain ⟨i, hi⟩ := List.mem_iff_getElem?.1 hrm
              have hl := (List.getElem?_eq_some_iff.1 hi).1
              have := fstE_alh c4 (show i < a.rn by omega)
              cases c6 : rwB r
              · rw [rwAt_1 hi c6] at this; omega
              · unfold rwB inB timB at c6
                simp only [Bool.and_eq_true, decide_eq_true_eq] at c6
                omega
            · obtain ⟨i, hi⟩ := List.mem_iff_getElem?.1 hrm
              have hl := (List.getElem?_eq_some_iff.1 hi).1
              have := fstE_alh h1 (show i < a.hn by omega)
              cases c6 : hoB r
              · rw [hoAt_1 hi c6] at this; omega
              · unfold hoB inB timB at c6
                simp only [Bool.and_eq_true, Bool.or_eq_true, decide_eq_true_eq] at c6
                omega
        · rw [if_neg c4] at h1; exact absurd h1 c4
    · rw [if_neg c2] at h1; omega
  · rw [if_neg c1] at h1; omega
end
end Go.Proofs.YtfakdalpaopjaaaGreatDoor
/- Plans as they lie in memory, and what is wrong with them, in plain Lean. Conditions: none. -/
namespace Go.Proofs.YtfakdalpaopjaaaGreatDoor
section
open Go.RowKit

/-- A rule. -/
structure RuV where
  pat : ByteArray
  strip : Int
  pre : ByteArray
  to_ : Int
  nam : ByteArray
  hrs : ByteArray
def RuV.row (r : RuV) : List Value := [.string r.pat, .int .i64 r.strip, .string r.pre, .int .i64 r.to_, .string r.nam, .string r.hrs]
theorem RuV.row_len (r : RuV) : r.row.length = 6 := rfl
def RuOk (r : RuV) : Prop := r.pat.size ≤ 1000000 ∧ r.pre.size ≤ 1000000 ∧ r.nam.size ≤ 1000000 ∧ r.hrs.size ≤ 1000000
/-- A context, as it lies in memory. -/
structure CxV where
  key : ByteArray
  rA : Option Addr
  rn : Nat
  rc : Nat
  iA : Option Addr
  en : Nat
  ic : Nat
  rules : List RuV
  incs : List ByteArray
def CxV.row (c : CxV) : List Value := [.string c.key, .slice c.rA c.rn c.rc, .slice c.iA c.en c.ic]
theorem CxV.row_len (c : CxV) : c.row.length = 3 := rfl
structure CxOk (w : World) (lo : Nat) (c : CxV) : Prop where
  key : c.key.size ≤ 1000000
  rn : c.rn ≤ 1000000
  en : c.en ≤ 1000000
  rules : Recs RuV.row 6 w lo c.rA c.rn c.rc c.rules
  incs : Recs srow 1 w lo c.iA c.en c.ic c.incs
  rok : ∀ r ∈ c.rules, RuOk r
  iok : ∀ s ∈ c.incs, s.size ≤ 1000000
/-- A plan, as it lies in memory. -/
structure PlV where
  cA : Option Addr
  cn : Nat
  cc : Nat
  hA : Option Addr
  hn : Nat
  hc : Nat
  ctxs : List CxV
  hours : List HrV
structure PlOk (w : World) (lo : Nat) (p : PlV) : Prop where
  cn : p.cn ≤ 1000000
  hn : p.hn ≤ 1000000
  ctxs : Recs CxV.row 3 w lo p.cA p.cn p.cc p.ctxs
  cok : ∀ c ∈ p.ctxs, CxOk w lo c
  hours : Hrs w lo p.hA p.hn p.hc p.hours
section
variable {w w' : World} {lo : Nat} {r : Option Nat}
theorem CxOk.grown {c : CxV} (h : CxOk w lo c) (hg : w.grownBy w' r) (hr : ∀ g, r = some g → g < lo) : CxOk w' lo c := ⟨h.key, h.rn, h.en, h.rules.grown hg hr, h.incs.grown hg hr, h.rok, h.iok⟩
theorem PlOk.grown {p : PlV} (h : PlOk w lo p) (hg : w.grownBy w' r) (hr : ∀ g, r = some g → g < lo) : PlOk w' lo p := ⟨h.cn, h.hn, h.ctxs.grown hg hr, fun c hc => (h.cok c hc).grown hg hr, h.hours.grown hg hr⟩
end

/-! What is wrong with a plan. -/
/-- May a string be dialled, or is it empty? -/
def preOk (l : List Nat) : Bool := decide (l.length ≤ 30) && l.all (fun b => decide (b ∈ sgn))
def hrsOk (hs : List HrV) (k : ByteArray) : Bool := decide (nb k = []) || hs.any (fun h => nb h.key == nb k)
def sameR (r x : RuV) : Bool := (nb x.pat == nb r.pat) && (nb x.hrs == nb r.hrs)
def ruE2 (hs : List HrV) (prev : List RuV) (r : RuV) : Int := if hrsOk hs r.hrs = true then (if prev.any (sameR r) = true then 6 else 0) else 8
def ruE1 (hs : List HrV) (prev : List RuV) (r : RuV) : Int :=
  if inB r.to_ 3 5 = true then (if keyOk (nb r.nam) = true then ruE2 hs prev r else 5) else (if nb r.nam = [] then ruE2 hs prev r else 3)
def ruE (hs : List HrV) (prev : List RuV) (r : RuV) : Int :=
  if patF (nb r.pat) = 0 then (if inB r.strip 0 30 = true then (if preOk (nb r.pre) = true then (if inB r.to_ 1 6 = true then ruE1 hs prev r else 4) else 3) else 1) else patF (nb r.pat)
def ruAt (hs : List HrV) (rules : List RuV) (i : Nat) : Int := (rules[i]?).elim 0 (ruE hs (rules.take i))
def incAt (incs : List ByteArray) (k : Nat) : Int := (incs[k]?).elim 0 fun s => if memS (incs.take k) s = true then 6 else 0
def cxE (hs : List HrV) (c : CxV) : Int :=
  if 200 < c.rn then 2 else (if fstE (ruAt hs c.rules) c.rn = 0 then (if 10 < c.en then 2 else fstE (incAt c.incs) c.en) else fstE (ruAt hs c.rules) c.rn)
def cxAt (hs : List HrV) (l : List CxV) (i : Nat) : Int := (l[i]?).elim 0 fun c =>
  if keyOk (nb c.key) then (if decide (0 < i) && (l[i - 1]?).elim false (fun b => leS c.key b.key) then 7 else cxE hs c) else 5
/-- Where a context is; -1: nowhere. -/
def cxIx (l : List CxV) (key : ByteArray) : Int := idxP (fun c : CxV => nb c.key == nb key) l
def misC (l : List CxV) (c : CxV) : Bool := c.incs.any fun s => decide (cxIx l s < 0)
def misB (l : List CxV) : Bool := l.any (misC l)
/-- The contexts that one includes, by their places. -/
def incIx (l : List CxV) (i : Nat) : List Nat := (((l[i]?).elim [] (·.incs)).map fun s => (cxIx l s).toNat)
inductive Path (S : Nat → List Nat) : Nat → Nat → Prop
  | one {i j : Nat} : j ∈ S i → Path S i j
  | more {i j k : Nat} : j ∈ S i → Path S j k → Path S i k
def Loops (l : List CxV) : Prop := ∃ i, i < l.length ∧ Path (incIx l) i i
def plE (p : PlV) (LB : Bool) : Int :=
  if hrsE p.hours = 0 then (if 50 < p.cn then 2 else (if fstE (cxAt p.hours p.ctxs) p.cn = 0 then (if misB p.ctxs = true then 8 else (if LB = true then 14 else 0)) else fstE (cxAt p.hours p.ctxs) p.cn)) else hrsE p.hours

section
variable {hs : List HrV} {prev : List RuV} {r : RuV}
theorem ruE_p (h : patF (nb r.pat) ≠ 0) : ruE hs prev r = patF (nb r.pat) := by unfold ruE; rw [if_neg h]
theorem ruE_1 (h : patF (nb r.pat) = 0) (h1 : inB r.strip 0 30 = false) : ruE hs prev r = 1 := by unfold ruE; rw [if_pos h, if_neg (by rw [h1]; decide)]
theorem ruE_3 (h : patF (nb r.pat) = 0) (h1 : inB r.strip 0 30 = true) (h2 : preOk (nb r.pre) = false) : ruE hs prev r = 3 := by unfold ruE; rw [if_pos h, if_pos h1, if_neg (by rw [h2]; decide)]
theorem ruE_4 (h : patF (nb r.pat) = 0) (h1 : inB r.strip 0 30 = true) (h2 : preOk (nb r.pre) = true) (h3 : inB r.to_ 1 6 = false) : ruE hs prev r = 4 := by unfold ruE; rw [if_pos h, if_pos h1, if_pos h2, if_neg (by rw [h3]; decide)]
theorem ruE_s (h : patF (nb r.pat) = 0) (h1 : inB r.strip 0 30 = true) (h2 : preOk (nb r.pre) = true) (h3 : inB r.to_ 1 6 = true) : ruE hs prev r = ruE1 hs prev r := by unfold ruE; rw [if_pos h, if_pos h1, if_pos h2, if_pos h3]
theorem ruE1_5 (h4 : inB r.to_ 3 5 = true) (h5 : keyOk (nb r.nam) = false) : ruE1 hs prev r = 5 := by unfold ruE1; rw [if_pos h4, if_neg (by rw [h5]; decide)]
theorem ruE1_n (h4 : inB r.to_ 3 5 = true) (h5 : keyOk (nb r.nam) = true) : ruE1 hs prev r = ruE2 hs prev r := by unfold ruE1; rw [if_pos h4, if_pos h5]
theorem ruE1_3 (h4 : inB r.to_ 3 5 = false) (h5 : nb r.nam ≠ []) : ruE1 hs prev r = 3 := by unfold ruE1; rw [if_neg (by rw [h4]; decide), if_neg h5]
theorem ruE1_u (h4 : inB r.to_ 3 5 = false) (h5 : nb r.nam = []) : ruE1 hs prev r = ruE2 hs prev r := by unfold ruE1; rw [if_neg (by rw [h4]; decide), if_pos h5]
end
section
variable {hs : List HrV} {l : List CxV} {i : Nat} {z b : CxV}
theorem cxAt_5 (h : l[i]? = some z) (h1 : keyOk (nb z.key) = false) : cxAt hs l i = 5 := by simp only [cxAt, h, Option.elim, h1]; rfl
theorem cxAt_7 (h : l[i]? = some z) (h1 : keyOk (nb z.key) = true) (hi : 0 < i) (hb : l[i - 1]? = some b) (h3 : leS z.key b.key = true) : cxAt hs l i = 7 := by simp only [cxAt, h, Option.elim, h1, hb, h3, decide_eq_true hi]; rfl
theorem cxAt_e (h : l[i]? = some z) (h1 : keyOk (nb z.key) = true) (hb : l[i - 1]? = some b) (h3 : leS z.key b.key = false) : cxAt hs l i = cxE hs z := by simp only [cxAt, h, Option.elim, h1, hb, h3, Bool.and_false]; rfl
theorem cxAt_z (h : l[i]? = some z) (h1 : keyOk (nb z.key) = true) (hi : ¬ 0 < i) : cxAt hs l i = cxE hs z := by simp only [cxAt, h, Option.elim, h1, decide_eq_false hi, Bool.false_and]; rfl
end

/-! What holds of a plan that is right. -/
theorem plE_right {p : PlV} {LB : Bool} (h : plE p LB = 0) : hrsE p.hours = 0 ∧ p.cn ≤ 50 ∧ fstE (cxAt p.hours p.ctxs) p.cn = 0 ∧ misB p.ctxs = false ∧ LB = false := by
  unfold plE at h
  by_cases c1 : hrsE p.hours = 0
  · rw [if_pos c1] at h
    by_cases c2 : 50 < p.cn
    · rw [if_pos c2] at h; omega
    · rw [if_neg c2] at h
      by_cases c3 : fstE (cxAt p.hours p.ctxs) p.cn = 0
      · rw [if_pos c3] at h
        cases c4 : misB p.ctxs
        · rw [if_neg (by rw [c4]; decide)] at h
          cases LB
          · exact ⟨c1, by omega, c3, rfl, rfl⟩
          · rw [if_pos rfl] at h; omega
        · rw [if_pos c4] at h; omega
      · rw [if_neg c3] at h; exact absurd h c3
  · rw [if_neg c1] at h; exact absurd h c1
/-- A context that is right. -/
structure CxRight (hs : List HrV) (c : CxV) : Prop where
  key : keyOk (nb c.key) = true
  rn : c.rn ≤ 200
  en : c.en ≤ 10
  rules : ∀ i, i < c.rn → ruAt hs c.rules i = 0
end
end Go.Proofs.YtfakdalpaopjaaaGreatDoor
/- Contracts of isDialled, begins, Matches and CheckPattern. Conditions: none. -/
namespace Go.Proofs.YtfakdalpaopjaaaGreatDoor
section
open Go.RowKit

theorem head_drop {p : UInt8 → Bool} {l : List UInt8} {a : UInt8} {r : List UInt8} (h : l.dropWhile p = a :: r) : p a = false := by
  induction l with
  | nil => cases h
  | cons b l ih =>
    rw [List.dropWhile_cons] at h
    split at h
    · exact ih h
    · rename_i hp
      injection h with h1 h2
      subst h1
      simpa using hp
theorem drop_all {p : UInt8 → Bool} {l : List UInt8} : l.dropWhile p = [] ↔ ∀ a ∈ l, p a = true := by
  induction l with
  | nil => simp
  | cons b l ih =>
    rw [List.dropWhile_cons]
    by_cases hp : p b = true
    · rw [if_pos hp, ih]; simp [hp]
    · rw [if_neg hp]; simp [hp]
theorem trim_nil (l cs : List UInt8) : Lib.trimS l cs = [] ↔ ∀ b ∈ l, cs.contains b = true := by
  unfold Lib.trimS Lib.trimLeftS Lib.trimRightS
  rw [drop_all]
  constructor
  · intro h
    cases hd : l.reverse.dropWhile (cs.contains ·) with
    | nil =>
      have := drop_all.1 hd
      intro b hb
      exact this b (by simpa using hb)
    | cons a r =>
      exfalso
      have h1 := head_drop hd
      have h2 := h a (by rw [hd]; simp)
      rw [h1] at h2
      cases h2
  · intro h
    have : l.reverse.dropWhile (cs.contains ·) = [] := drop_all.2 (fun a ha => h a (by simpa using ha))
    rw [this]
    simp
theorem sgn_contains : ∀ c : Fin 256, ([35, 42, 48, 49, 50, 51, 52, 53, 54, 55, 56, 57] : List UInt8).contains c.val.toUInt8 = decide (c.val ∈ sgn) := by decide +kernel
theorem trim_signs (s : ByteArray) : (Lib.trimS s.data.toList [35, 42, 48, 49, 50, 51, 52, 53, 54, 55, 56, 57] = []) ↔ ∀ b ∈ nb s, b ∈ sgn := by
  rw [trim_nil]
  unfold nb
  constructor
  · intro h b hb
    obtain ⟨u, hu, rfl⟩ := List.mem_map.1 hb
    have h1 := h u hu
    have h2 := sgn_contains ⟨u.toNat, u.toNat_lt⟩
    dsimp only at h2
    rw [show u.toNat.toUInt8 = u by simp, h1] at h2
    exact of_decide_eq_true h2.symm
  · intro h u hu
    have h2 := sgn_contains ⟨u.toNat, u.toNat_lt⟩
    dsimp only at h2
    rw [show u.toNat.toUInt8 = u by simp, decide_eq_true (h _ (List.mem_map.2 ⟨u, hu, rfl⟩))] at h2
    exact h2
theorem trim_any (s : ByteArray) (w : World) (hs : s.size ≤ 1000000) : Calls Tryz.prog 67 #[.string s, .string ⟨#[35, 42, 48, 49, 50, 51, 52, 53, 54, 55, 56, 57]⟩] w
    (RetV (.string ⟨(Lib.trimS s.data.toList [35, 42, 48, 49, 50, 51, 52, 53, 54, 55, 56, 57]).toArray⟩) w) := by
  refine (Any.strings_Trim_laid Tryz.lays160 (by kernel_rfl) s ⟨#[35, 42, 48, 49, 50, 51, 52, 53, 54, 55, 56, 57]⟩ w (by omega) (by decide) (ascii_of_all (by decide))).mono ?_
  rintro e w' ⟨rfl, hb⟩
  exact ⟨rfl, gr_below hb none⟩
end
end Go.Proofs.YtfakdalpaopjaaaGreatDoor
/- Contracts of rank, before, Before, Matches and CheckPattern. Conditions: none. -/
namespace Go.Proofs.YtfakdalpaopjaaaGreatDoor
section
open Go.RowKit

set_option maxHeartbeats 2000000 in
theorem checkPattern_any (s : ByteArray) (w : World) : Calls Tryz.prog 151 #[.string s] w (RetV (.int .i64 (patF (nb s))) w) := by
  go_enter Tryz.func151, Tryz.ntmps151
  go_wp2_with fail
  refine (read_all s _).mono ?_
  rintro e w1 ⟨v1, rfl, hv1, hg1⟩
  have HG := Lib.hid hg1; clear hg1
  rcases hv1 with ⟨x, A, n, c, h1, rfl, h3, h4⟩ | ⟨h1, rfl⟩
  · have HV := Lib.hid (patF_some h1)
    clear h1 h3
    go_wp2_with fail
    go_ret
    exact ⟨by rw [HV.out]; rfl, gr_alloc HG.out _⟩
  · clear h1
    go_wp2_with fail
    go_ret
    exact ⟨rfl, gr_alloc HG.out _⟩
end
end Go.Proofs.YtfakdalpaopjaaaGreatDoor
/- Contracts of the document's order of patterns: only, DialledFault, places, slices.Compare, slices.CompareFunc, BeforeOf. Conditions: none. -/
namespace Go.Proofs.YtfakdalpaopjaaaGreatDoor
section
open Go.RowKit

end
end Go.Proofs.YtfakdalpaopjaaaGreatDoor
/- Contracts of slices.Index and slices.Contains at strings. Conditions: none. -/
namespace Go.Proofs.YtfakdalpaopjaaaGreatDoor
section
open Go.RowKit

set_option maxHeartbeats 2000000 in
theorem indexS_any (lo : Nat) (A : Option Addr) (n c : Nat) (l : List ByteArray) (s : ByteArray) (w : World) (h : Recs srow 1 w lo A n c l) (hn : n ≤ 1000000000) :
    Calls Tryz.prog 69 #[.slice A n c, .string s] w (Same (.int .i64 (idxP (fun x => nb x == nb s) l)) w) := by
  have H := Lib.hid h; clear h
  go_enter Tryz.func69, Tryz.ntmps69
  go_wp2_with fail
  go_loop [5, 8] (fun _ t => ∃ i : Nat, i ≤ n ∧ t = .int .i64 i ∧ (l.take i).all (fun x => !(nb x == nb s)) = true) (fun _ t => n - (intOf t).toNat)
  case atStart => exact ⟨0, Nat.zero_le _, rfl, rfl⟩
  case round =>
    obtain ⟨i, hi, rfl, ha⟩ := hrel
    have HA := Lib.hid ha; clear ha
    by_cases hlt : i < n
    · obtain ⟨g, o, x, rfl, _, hgl, hz, hcc⟩ := H.out.get srow_len hlt
      have ks := hcc 0 _ rfl
      simp only [Nat.mul_one, Nat.add_zero] at ks
      have HZ := Lib.hid hz; clear hz hcc
      obtain ⟨E, hE⟩ : ∃ E, (s.toList == x.toList) = E := ⟨_, rfl⟩
      have HE := Lib.hid (show (nb x == nb s) = E by rw [← hE, eqS_nb, Bool.eq_iff_iff, beq_iff_eq, beq_iff_eq]; exact eq_comm)
      cases E
      · go_wp2_with fail
        go_round
        case rel => exact ⟨i + 1, by omega, by go_num, allP_succ (p := fun x : ByteArray => nb x == nb s) HA.out HZ.out HE.out⟩
        case measure => simp [intOf]; omega
      · go_wp2_with fail
        go_ret
        exact ⟨by rw [idxP_some (p := fun x : ByteArray => nb x == nb s) HA.out HZ.out HE.out]; rfl, rfl⟩
    · obtain rfl : n = i := by omega
      go_wp2_with fail
      go_ret
      have h := HA.out
      rw [List.take_of_length_le (by rw [H.out.len]; exact Nat.le_refl _)] at h
      exact ⟨by rw [idxP_none (p := fun x : ByteArray => nb x == nb s) h]; rfl, rfl⟩
set_option maxHeartbeats 1000000 in
theorem containsS_any (lo : Nat) (A : Option Addr) (n c : Nat) (l : List ByteArray) (s : ByteArray) (w : World) (h : Recs srow 1 w lo A n c l) (hn : n ≤ 1000000000) :
    Calls Tryz.prog 30 #[.slice A n c, .string s] w (Same (.bool (l.any (fun x => nb x == nb s))) w) := by
  have H := Lib.hid h; clear h
  obtain ⟨I, hI⟩ : ∃ I, idxP (fun x => nb x == nb s) l = I := ⟨_, rfl⟩
  have HI := Lib.hid (show decide (0 ≤ I) = l.any (fun x => nb x == nb s) by rw [← hI]; exact idxP_any)
  have HI2 := Lib.hid hI; clear hI
  go_enter Tryz.func30, Tryz.ntmps30
  go_wp2_with (first
    | (go_at_call 69; refine (indexS_any lo _ _ _ l s _ H.out hn).mono ?_; rintro e w2 ⟨rfl, rfl⟩; rw [HI2.out])
    | fail)
  go_ret
  exact ⟨by rw [← HI.out]; rfl, rfl⟩
end
end Go.Proofs.YtfakdalpaopjaaaGreatDoor
/- Ways through the contexts of a plan, in plain Lean: colours, what comes after one, the order in which they are asked. Conditions: none. -/
namespace Go.Proofs.YtfakdalpaopjaaaGreatDoor
section

theorem Path.snoc {S : Nat → List Nat} {i j k : Nat} (h : Path S i j) (e : k ∈ S j) : Path S i k := by
  induction h with
  | one h => exact .more h (.one e)
  | more h _ ih => exact .more h (ih e)
theorem Path.bd {S : Nat → List Nat} {n i j : Nat} (hS : ∀ i j, j ∈ S i → j < n) (h : Path S i j) : j < n := by
  induction h with
  | one h => exact hS _ _ h
  | more _ _ ih => exact ih

/-! Colours: 0 not seen, 1 on the way, 2 done. -/
def sAt (st : List Int) (i : Nat) : Int := st.getD i 0
theorem sAt_get {st : List Int} {i : Nat} {v : Int} (h : st[i]? = some v) : sAt st i = v := by unfold sAt; rw [List.getD_eq_getElem?_getD, h]; rfl
theorem sAt_set {st : List Int} {i j : Nat} {v : Int} (hi : i < st.length) : sAt (st.set i v) j = if i = j then v else sAt st j := by
  unfold sAt
  rw [List.getD_eq_getElem?_getD, List.getD_eq_getElem?_getD, List.getElem?_set]
  by_cases e : i = j
  · subst e; simp [hi]
  · rw [if_neg e, if_neg e]
def zer (st : List Int) : Nat := st.count 0
theorem zer_set {st : List Int} {i : Nat} {v : Int} (h : st[i]? = some 0) (hv : v ≠ 0) : zer (st.set i v) < zer st := by
  obtain ⟨hl, e⟩ := List.getElem?_eq_some_iff.1 h
  have h1 : 0 < st.count 0 := List.count_pos_iff.2 (by rw [← e]; exact List.getElem_mem _)
  unfold zer
  rw [List.count_set hl, e]
  simp [hv]
  omega
theorem zer_up {st : List Int} {i : Nat} {v u : Int} (h : st[i]? = some u) (hv : v ≠ 0) : zer (st.set i v) ≤ zer st := by
  obtain ⟨hl, e⟩ := List.getElem?_eq_some_iff.1 h
  unfold zer
  rw [List.count_set hl, e]
  simp [hv]
/-- What is done is closed, and on no circle. -/
def DfsInv (S : Nat → List Nat) (n : Nat) (st : List Int) : Prop := st.length = n ∧ (∀ (i : Nat) (v : Int), st[i]? = some v → v = 0 ∨ v = 1 ∨ v = 2) ∧ ∀ b, sAt st b = 2 → (∀ j, j ∈ S b → sAt st j = 2) ∧ ¬ Path S b b
theorem DfsInv.path {S : Nat → List Nat} {n : Nat} {st : List Int} (h : DfsInv S n st) {b k : Nat} (hp : Path S b k) (hb : sAt st b = 2) : sAt st k = 2 := by
  induction hp with
  | one e => exact (h.2.2 _ hb).1 _ e
  | more e _ ih => exact ih ((h.2.2 _ hb).1 _ e)
theorem DfsInv.new (S : Nat → List Nat) (n : Nat) : DfsInv S n (List.replicate n 0) := by
  refine ⟨by simp, fun i v h => ?_, fun b h => ?_⟩
  · rw [List.getElem?_replicate] at h
    split at h
    · injection h with h; exact .inl h.symm
    · cases h
  · unfold sAt at h
    rw [List.getD_eq_getElem?_getD, List.getElem?_replicate] at h
    split at h <;> simp at h
theorem DfsInv.start {S : Nat → List Nat} {n : Nat} {st : List Int} (h : DfsInv S n st) {i : Nat} (hi : st[i]? = some 0) : DfsInv S n (st.set i 1) := by
  have hl := (List.getElem?_eq_some_iff.1 hi).1
  have h0 := sAt_get hi
  refine ⟨by simp [h.1], fun j v hv => ?_, fun b hb => ?_⟩
  · rw [List.getElem?_set] at hv
    split at hv
    · injection hv with hv; exact .inr (.inl hv.symm)
    · exact h.2.1 j v hv
  · rw [sAt_set hl] at hb
    by_cases e : i = b
    · rw [if_pos e] at hb; omega
    · rw [if_neg e] at hb
      refine ⟨fun j hj => ?_, (h.2.2 b hb).2⟩
      have := (h.2.2 b hb).1 j hj
      rw [sAt_set hl]
      by_cases e2 : i = j
      · subst e2; omega
      · rw [if_neg e2]; exact this
theorem DfsInv.done {S : Nat → List Nat} {n : Nat} {st : List Int} (h : DfsInv S n st) {i : Nat} (hi : i < n) (h1 : sAt st i = 1) (hs : ∀ j, j ∈ S i → sAt st j = 2) : DfsInv S n (st.set i 2) := by
  have hl : i < st.length := by rw [h.1]; exact hi
  have hno : ¬ Path S i i := by
    intro hp
    cases hp with
    | one e => have := hs _ e; omega
    | more e hp => have := h.path hp (hs _ e); omega
  refine ⟨by simp [h.1], fun j v hv => ?_, fun b hb => ?_⟩
  · rw [List.getElem?_set] at hv
    split at hv
    · injection hv with hv; exact .inr (.inr hv.symm)
    · exact h.2.1 j v hv
  · rw [sAt_set hl] at hb
    by_cases e : i = b
    · subst e
      refine ⟨fun j hj => ?_, hno⟩
      rw [sAt_set hl]
      by_cases e2 : i = j
      · rw [if_pos e2]
      · rw [if_neg e2]; exact hs j hj
    · rw [if_neg e] at hb
      refine ⟨fun j hj => ?_, (h.2.2 b hb).2⟩
      rw [sAt_set hl]
      by_cases e2 : i = j
      · rw [if_pos e2]
      · rw [if_neg e2]; exact (h.2.2 b hb).1 j hj
/-- What a call leaves that found no circle. -/
def DfsOn (st st' : List Int) : Prop := (∀ g, sAt st' g = 1 ↔ sAt st g = 1) ∧ (∀ b, sAt st b = 2 → sAt st' b = 2) ∧ zer st' ≤ zer st
theorem DfsOn.refl (st : List Int) : DfsOn st st := ⟨fun _ => Iff.rfl, fun _ h => h, Nat.le_refl _⟩
theorem DfsOn.trans {a b c : List Int} (h : DfsOn a b) (k : DfsOn b c) : DfsOn a c := ⟨fun g => (k.1 g).trans (h.1 g), fun g hg => k.2.1 g (h.2.1 g hg), Nat.le_trans k.2.2 h.2.2⟩
def DfsPre (S : Nat → List Nat) (st : List Int) (i : Nat) : Prop := ∀ g, sAt st g = 1 → Path S g i
def DfsPost (S : Nat → List Nat) (n : Nat) (st : List Int) (i : Nat) (b : Bool) (st' : List Int) : Prop :=
  st'.length = n ∧ (b = true → ∃ k, k < n ∧ Path S k k) ∧ (b = false → DfsInv S n st' ∧ DfsOn st st' ∧ sAt st' i = 2)
theorem dfs_pre {S : Nat → List Nat} {st st1 : List Int} {i j : Nat} (hp : DfsPre S st i) (hi : i < st.length) (ho : DfsOn (st.set i 1) st1) (hj : j ∈ S i) : DfsPre S st1 j := by
  intro g hg
  have := (ho.1 g).1 hg
  rw [sAt_set hi] at this
  by_cases e : i = g
  · subst e; exact .one hj
  · rw [if_neg e] at this; exact (hp g this).snoc hj
theorem dfs_post {S : Nat → List Nat} {n : Nat} {st st1 : List Int} {i : Nat} (h0 : st[i]? = some 0) (hin : i < n) (hv : DfsInv S n st1) (ho : DfsOn (st.set i 1) st1) (hs : ∀ j, j ∈ S i → sAt st1 j = 2) : DfsPost S n st i false (st1.set i 2) := by
  have hl := (List.getElem?_eq_some_iff.1 h0).1
  have h1 : sAt st1 i = 1 := (ho.1 i).2 (by rw [sAt_set hl, if_pos rfl])
  have hl1 : i < st1.length := by rw [hv.1]; exact hin
  refine ⟨(by rw [List.length_set]; exact hv.1), (fun e => by cases e), fun _ => ⟨hv.done hin h1 hs, ⟨fun g => ?_, fun b hb => ?_, ?_⟩, by rw [sAt_set hl1, if_pos rfl]⟩⟩
  · rw [sAt_set hl1]
    have e0 := sAt_get h0
    by_cases e : i = g
    · subst e; rw [if_pos rfl]; omega
    · rw [if_neg e]
      have := ho.1 g
      rw [sAt_set hl, if_neg e] at this
      exact this
  · rw [sAt_set hl1]
    by_cases e : i = b
    · rw [if_pos e]
    · rw [if_neg e]
      refine ho.2.1 b ?_
      rw [sAt_set hl, if_neg e]; exact hb
  · have h2 := zer_set (v := 1) h0 (by decide)
    have h3 : zer (st1.set i 2) ≤ zer st1 := zer_up (u := st1[i]) (List.getElem?_eq_getElem hl1) (by decide)
    have := ho.2.2
    omega
theorem dfs_loops {l : List CxV} (h : ∃ k, k < l.length ∧ Path (incIx l) k k) : Loops l := h
theorem dfs_none {l : List CxV} {st : List Int} (hv : DfsInv (incIx l) l.length st) (hs : ∀ i, i < l.length → sAt st i = 2) : ¬ Loops l := by
  rintro ⟨i, hi, hp⟩
  exact (hv.2.2 i (hs i hi)).2 hp

/-! What comes after one. -/
theorem cxIx_some {l : List CxV} {s : ByteArray} (h : 0 ≤ cxIx l s) : ∃ (i : Nat) (z : CxV), cxIx l s = i ∧ l[i]? = some z ∧ nb z.key = nb s := by
  unfold cxIx at h ⊢
  have ha : l.any (fun c : CxV => nb c.key == nb s) = true := by
    rw [← idxP_any]; exact decide_eq_true h
  obtain ⟨x, hx, hp⟩ := List.any_eq_true.1 ha
  have hlt : l.findIdx (fun c : CxV => nb c.key == nb s) < l.length := List.findIdx_lt_length_of_exists ⟨x, hx, hp⟩
  refine ⟨l.findIdx (fun c : CxV => nb c.key == nb s), l[l.findIdx (fun c : CxV => nb c.key == nb s)], ?_, List.getElem?_eq_getElem hlt, ?_⟩
  · unfold idxP; rw [if_pos ha]
  · have := List.findIdx_getElem (w := hlt)
    simpa using this
theorem mis_no {l : List CxV} (h : misB l = false) {i : Nat} {z : CxV} (hz : l[i]? = some z) {s : ByteArray} (hs : s ∈ z.incs) : 0 ≤ cxIx l s := by
  unfold misB at h
  rw [List.any_eq_false] at h
  have h1 := h z (List.mem_iff_getElem?.2 ⟨i, hz⟩)
  unfold misC at h1
  rw [Bool.not_eq_true, List.any_eq_false] at h1
  have h2 := h1 s hs
  simp at h2
  exact h2
theorem incIx_at {l : List CxV} {i : Nat} {z : CxV} (hz : l[i]? = some z) : incIx l i = z.incs.map fun s => (cxIx l s).toNat := by unfold incIx; rw [hz]; rfl
theorem nodup_le {l : List Nat} {n : Nat} (h : l.Nodup) (hb : ∀ x ∈ l, x < n) : l.length ≤ n := by
  have := h.length_le_of_subset (l₂ := List.range n) (fun x hx => List.mem_range.2 (hb x hx))
  rwa [List.length_range] at this
theorem nodup_snoc {l : List Nat} {k : Nat} (h : l.Nodup) (hk : k ∉ l) : (l ++ [k]).Nodup := by
  rw [List.nodup_append]
  exact ⟨h, by simp, fun a ha b hb => by rw [List.mem_singleton.1 hb]; exact fun e => hk (e ▸ ha)⟩
/-- Some are out, some still pend; all that comes after i0 is behind them. -/
structure AfInv (S : Nat → List Nat) (n i0 : Nat) (out pend : List Nat) : Prop where
  nd : out.Nodup
  outP : ∀ x ∈ out, Path S i0 x
  pendP : ∀ x ∈ pend, Path S i0 x
  first : ∀ j ∈ S i0, j ∈ out ∨ j ∈ pend
  step : ∀ x ∈ out, ∀ j ∈ S x, j ∈ out ∨ j ∈ pend
theorem AfInv.new (S : Nat → List Nat) (n i0 : Nat) : AfInv S n i0 [] (S i0) :=
  ⟨List.nodup_nil, (fun x h => by cases h), (fun x h => .one h), (fun j h => .inr h), (fun x h => by cases h)⟩
theorem AfInv.skip {S : Nat → List Nat} {n i0 k : Nat} {out rest : List Nat} (h : AfInv S n i0 out (k :: rest)) (hk : k ∈ out) : AfInv S n i0 out rest :=
  ⟨h.nd, h.outP, fun x hx => h.pendP x (List.mem_cons_of_mem _ hx), fun j hj => (h.first j hj).elim .inl fun e => (List.mem_cons.1 e).elim (fun e => .inl (e ▸ hk)) .inr,
    fun x hx j hj => (h.step x hx j hj).elim .inl fun e => (List.mem_cons.1 e).elim (fun e => .inl (e ▸ hk)) .inr⟩
theorem AfInv.take {S : Nat → List Nat} {n i0 k : Nat} {out rest : List Nat} (h : AfInv S n i0 out (k :: rest)) (hk : k ∉ out) : AfInv S n i0 (out ++ [k]) (rest ++ S k) := by
  have hp := h.pendP k (by simp)
  refine ⟨nodup_snoc h.nd hk, fun x hx => ?_, fun x hx => ?_, fun j hj => ?_, fun x hx j hj => ?_⟩
  · rcases List.mem_append.1 hx with e | e
    · exact h.outP x e
    · rw [List.mem_singleton.1 e]; exact hp
  · rcases List.mem_append.1 hx with e | e
    · exact h.pendP x (List.mem_cons_of_mem _ e)
    · exact hp.snoc e
  · rcases h.first j hj with e | e
    · exact .inl (List.mem_append.2 (.inl e))
    · rcases List.mem_cons.1 e with e | e
      · exact .inl (List.mem_append.2 (.inr (by simp [e])))
      · exact .inr (List.mem_append.2 (.inl e))
  · rcases List.mem_append.1 hx with e | e
    · rcases h.step x e j hj with e | e
      · exact .inl (List.mem_append.2 (.inl e))
      · rcases List.mem_cons.1 e with e | e
        · exact .inl (List.mem_append.2 (.inr (by simp [e])))
        · exact .inr (List.mem_append.2 (.inl e))
    · rw [List.mem_singleton.1 e] at hj
      exact .inr (List.mem_append.2 (.inr hj))
theorem AfInv.bd {S : Nat → List Nat} {n i0 : Nat} {out pend : List Nat} (h : AfInv S n i0 out pend) (hS : ∀ i j, j ∈ S i → j < n) : out.length ≤ n := nodup_le h.nd fun x hx => (h.outP x hx).bd hS

/-! The order in which contexts are asked. -/
inductive Ord (S : Nat → List Nat) : List Nat → List Nat → List Nat → Prop
  | nil {out : List Nat} : Ord S [] out out
  | skip {k : Nat} {rest out r : List Nat} : k ∈ out → Ord S rest out r → Ord S (k :: rest) out r
  | take {k : Nat} {rest out r : List Nat} : k ∉ out → Ord S (S k ++ rest) (out ++ [k]) r → Ord S (k :: rest) out r
theorem Ord.app {S : Nat → List Nat} {a b out m r : List Nat} (h : Ord S a out m) (k : Ord S b m r) : Ord S (a ++ b) out r := by
  induction h with
  | nil => exact k
  | skip e _ ih => exact .skip e (ih k)
  | take e _ ih => exact .take e (by have h := ih k; rw [List.append_assoc] at h; exact h)
theorem Ord.len {S : Nat → List Nat} {t out r : List Nat} (h : Ord S t out r) : out.length ≤ r.length := by
  induction h with
  | nil => exact Nat.le_refl _
  | skip _ _ ih => exact ih
  | take _ _ ih => rw [List.length_append] at ih; simp at ih; omega
theorem Ord.one {S : Nat → List Nat} {i : Nat} {out r : List Nat} (hi : i ∉ out) (h : Ord S (S i) (out ++ [i]) r) : Ord S [i] out r := .take hi (by rw [List.append_nil]; exact h)
end
end Go.Proofs.YtfakdalpaopjaaaGreatDoor
/- Slices of records that a call makes. Conditions: none. -/
namespace Go.Proofs.YtfakdalpaopjaaaGreatDoor
section
open Go.RowKit

theorem flat_set1' {α : Type} {row : α → List Value} {k : Nat} (hrow : ∀ a, (row a).length = k) {l : List α} {i : Nat} {a a' : α} (hi : l[i]? = some a) {j : Nat} (hj : j < k) {u : Value} (hr : row a' = (row a).set j u) : (l.flatMap row).set (i * k + j) u = (l.set i a').flatMap row := by
  have h := flat_set (row := row) (k := k) hrow (by omega) hi (a' := a') (ys := [u]) j (by simp; omega) (by
    rw [hr, List.set_eq_take_append_cons_drop, if_pos (by rw [hrow]; exact hj)]; simp)
  have hil := (List.getElem?_eq_some_iff.1 hi).1
  have hle : (i + 1) * k ≤ l.length * k := Nat.mul_le_mul_right k hil
  rw [Nat.succ_mul] at hle
  rw [← h, List.set_eq_take_append_cons_drop, if_pos (by rw [flat_len hrow]; omega)]
  simp

theorem reads_at (w : World) (t : TypeId) (cs : List Value) (size : Nat) (h : cs.length = size) {g : Nat} (hg : w.heap.size = g) : Reads (w.alloc (.cells cs.toArray t)) g size (some ⟨g, 0, none⟩) 1 1 cs := by
  subst hg; exact Reads.one w t cs size h
/-- A slice of records of the call's own. -/
def OwnR {α : Type} (row : α → List Value) (k : Nat) (w : World) (lo : Nat) (e : TypeId) (A : Option Addr) (n c : Nat) (l : List α) : Prop := Own w lo e k A n c (l.flatMap row) ∧ l.length = n
section
variable {α : Type} {row : α → List Value} {k : Nat} {w w' : World} {lo lo' n c : Nat} {e : TypeId} {A : Option Addr} {l : List α}
theorem OwnR.recs (h : OwnR row k w lo e A n c l) : Recs row k w lo A n c l := ⟨h.1.reads, h.2⟩
theorem OwnR.nil (w : World) (lo : Nat) (e : TypeId) : OwnR row k w lo e none 0 0 [] := ⟨Own.nil _ _ _ _, rfl⟩
theorem OwnR.kept (h : OwnR row k w lo e A n c l) {r : Option Nat} (hg : w.grownBy w' r) (hne : ∀ g, r = some g → blkOf A ≠ some g) : OwnR row k w' lo e A n c l := ⟨h.1.kept hg hne, h.2⟩
theorem OwnR.low (h : OwnR row k w lo e A n c l) {r : Option Nat} (hg : w.grownBy w' r) (hr : ∀ g, r = some g → g < lo) : OwnR row k w' lo e A n c l :=
  h.kept hg (fun g e e' => by have := hr g e; have := (h.1.lt e').1; omega)
theorem OwnR.lower (h : OwnR row k w lo e A n c l) (hl : lo' ≤ lo) : OwnR row k w lo' e A n c l := ⟨h.1.lower hl, h.2⟩
theorem OwnR.alloc (h : OwnR row k w lo e A n c l) (o : Obj) : OwnR row k (w.alloc o) lo e A n c l := ⟨h.1.alloc o, h.2⟩
theorem OwnR.app {a : α} (h : OwnR row k w lo e A n c l) {A1 : Option Addr} {c1 n1 : Nat} (hn : n1 = n + 1) (h1 : Appended w lo e k A A1 n1 c1 (l.flatMap row ++ row a) w') : OwnR row k w' lo e A1 n1 c1 (l ++ [a]) := by
  subst hn
  refine ⟨?_, by simp [h.2]⟩
  rw [List.flatMap_append]
  simpa using h1.1
theorem OwnR.set1 {g i j p : Nat} {a a' : α} {u : Value} (hrow : ∀ a, (row a).length = k) (h : OwnR row k w lo e (some ⟨g, 0, none⟩) n c l) (hi : l[i]? = some a) (hj : j < k) (hr : row a' = (row a).set j u) (hp : p = i * k + j) : OwnR row k (w.setCell ⟨g, p, none⟩ u) lo e (some ⟨g, 0, none⟩) n c (l.set i a') := by
  subst hp
  refine ⟨?_, by simp [h.2]⟩
  rw [← flat_set1' hrow hi hj hr]
  exact h.1.stored _ u
end
end
end Go.Proofs.YtfakdalpaopjaaaGreatDoor
/- Slices of ints: cells, appends; slices.Equal at two that read as the same list. Conditions: none. -/
namespace Go.Proofs.YtfakdalpaopjaaaGreatDoor
section
open Go.RowKit
/-- A cell that holds a number. -/
def nrow (n : Int) : List Value := [.int .i64 n]
theorem Tryz.inT : ElemT Tryz.prog 22 3 1 8 (.int .i64 0) := elemT_of Tryz.underlying22 (by kernel_rfl) rfl (by decide)
end
end Go.Proofs.YtfakdalpaopjaaaGreatDoor
/- Words for the generators of hours: slices of hours that a call makes, with their rows and holidays. Conditions: none. -/
namespace Go.Proofs.YtfakdalpaopjaaaGreatDoor
section
open Go.RowKit

def HrBd (a : HrV) : Prop := a.key.size ≤ 1000 ∧ a.rn ≤ 1000 ∧ a.hn ≤ 1000
def HrOwn (w : World) (lo : Nat) (a : HrV) : Prop := HrBd a ∧ OwnR r3Row 3 w lo 156 a.rA a.rn a.rc a.rows ∧ OwnR r3Row 3 w lo 158 a.hA a.hn a.hc a.hol
def HrApart (a b : HrV) : Prop := (∀ g, blkOf a.rA = some g → blkOf b.rA ≠ some g) ∧ (∀ g, blkOf a.hA = some g → blkOf b.hA ≠ some g)
def GHrs (w : World) (lo : Nat) (A : Option Addr) (n c : Nat) (l : List HrV) : Prop :=
  OwnR HrV.row 4 w lo 154 A n c l ∧ (∀ a ∈ l, HrOwn w lo a) ∧ ∀ (i j : Nat) (a b : HrV), i ≠ j → l[i]? = some a → l[j]? = some b → HrApart a b
theorem mem_setH {α : Type} {l : List α} {i : Nat} {a x : α} (h : x ∈ l.set i a) : x = a ∨ ∃ j, j ≠ i ∧ l[j]? = some x := by
  obtain ⟨j, hj⟩ := List.mem_iff_getElem?.1 h
  rw [List.getElem?_set] at hj
  split at hj
  · split at hj
    · injection hj with hj; exact .inl hj.symm
    · cases hj
  · rename_i hne
    exact .inr ⟨j, fun e => hne e.symm, hj⟩
section
variable {w w' : World} {lo n c : Nat} {A : Option Addr} {l : List HrV}
theorem HrOwn.ok {a : HrV} (h : HrOwn w lo a) : HrOk w lo a := ⟨h.1, h.2.1.recs, h.2.2.recs⟩
theorem GHrs.hrs (h : GHrs w lo A n c l) : Hrs w lo A n c l := ⟨h.1.recs, fun a ha => (h.2.1 a ha).ok⟩
theorem GHrs.nil (w : World) (lo : Nat) : GHrs w lo none 0 0 [] := ⟨OwnR.nil _ _ _, (fun a ha => by cases ha), fun i j a b _ h => by simp at h⟩
theorem HrOwn.kept {a : HrV} (h : HrOwn w lo a) {r : Option Nat} (hg : w.grownBy w' r) (h1 : ∀ g, r = some g → blkOf a.rA ≠ some g) (h2 : ∀ g, r = some g → blkOf a.hA ≠ some g) : HrOwn w' lo a := ⟨h.1, h.2.1.kept hg h1, h.2.2.kept hg h2⟩
theorem HrOwn.low {a : HrV} (h : HrOwn w lo a) {r : Option Nat} (hg : w.grownBy w' r) (hr : ∀ g, r = some g → g < lo) : HrOwn w' lo a := ⟨h.1, h.2.1.low hg hr, h.2.2.low hg hr⟩
theorem HrOwn.lower {a : HrV} {lo' : Nat} (h : HrOwn w lo a) (hl : lo' ≤ lo) : HrOwn w lo' a := ⟨h.1, h.2.1.lower hl, h.2.2.lower hl⟩
theorem GHrs.low (h : GHrs w lo A n c l) {r : Option Nat} (hg : w.grownBy w' r) (hr : ∀ g, r = some g → g < lo) : GHrs w' lo A n c l := ⟨h.1.low hg hr, fun a ha => (h.2.1 a ha).low hg hr, h.2.2⟩
theorem HrOwn.other {a : HrV} (h : HrOwn w lo a) {lo' n' c' k' : Nat} {A' : Option Addr} {xs : List Value} (ho : Own w lo' 154 k' A' n' c' xs) (hg : w.grownBy w' (blkOf A')) : HrOwn w' lo a :=
  h.kept hg (fun g e => Own.ne ho h.2.1.1 (by decide) e) (fun g e => Own.ne ho h.2.2.1 (by decide) e)
/-- Hours are appended whose slices lie behind those of the others. -/
theorem GHrs.app {a : HrV} {hi : Nat} (h : GHrs w lo A n c l) (ha : HrOwn w hi a) (hlo : lo ≤ hi) (hb : ∀ b ∈ l, (∀ g, blkOf b.rA = some g → g < hi) ∧ (∀ g, blkOf b.hA = some g → g < hi)) {A1 : Option Addr} {c1 n1 : Nat} (hn : n1 = n + 1)
    (h1 : Appended w lo 154 4 A A1 n1 c1 (l.flatMap HrV.row ++ a.row) w') : GHrs w' lo A1 n1 c1 (l ++ [a]) := by
  have ap : ∀ b ∈ l, HrApart a b ∧ HrApart b a := fun b hb1 => by
    obtain ⟨q1, q2⟩ := hb b hb1
    exact ⟨⟨fun g e e' => by have := q1 g e'; have := (ha.2.1.1.lt e).1; omega, fun g e e' => by have := q2 g e'; have := (ha.2.2.1.lt e).1; omega⟩,
      ⟨fun g e e' => by have := q1 g e; have := (ha.2.1.1.lt e').1; omega, fun g e e' => by have := q2 g e; have := (ha.2.2.1.lt e').1; omega⟩⟩
  refine ⟨h.1.app hn h1, fun b hb1 => ?_, fun i j x y hne hx hy => ?_⟩
  · rcases List.mem_append.1 hb1 with hb1 | hb1
    · exact (h.2.1 b hb1).other h.1.1 h1.2.1
    · rw [List.mem_singleton.1 hb1]; exact (ha.lower hlo).other h.1.1 h1.2.1
  · rw [List.getElem?_append] at hx hy
    split at hx <;> split at hy
    · exact h.2.2 i j x y hne hx hy
    · rename_i q1 q2
      have : y = a := by
        cases hj : j - l.length with
        | zero => rw [hj] at hy; simpa using hy.symm
        | succ q => rw [hj] at hy; simp at hy
      subst this
      exact (ap x (mem_of_get hx)).2
    · rename_i q1 q2
      have : x = a := by
        cases hj : i - l.length with
        | zero => rw [hj] at hx; simpa using hx.symm
        | succ q => rw [hj] at hx; simp at hx
      subst this
      exact (ap y (mem_of_get hy)).1
    · exfalso
      rename_i q1 q2
      have h3 : i - l.length = 0 := by
        cases hj : i - l.length with
        | zero => rfl
        | succ q => rw [hj] at hx; simp at hx
      have h4 : j - l.length = 0 := by
        cases hj : j - l.length with
        | zero => rfl
        | succ q => rw [hj] at hy; simp at hy
      omega
/-- One cell of some hours is stored anew: not one of its slices. -/
theorem GHrs.set1 {g i j p : Nat} {a a' : HrV} {u : Value} (h : GHrs w lo (some ⟨g, 0, none⟩) n c l) (hi : l[i]? = some a) (hj : j < 4) (hr : a'.row = a.row.set j u) (hb : HrBd a') (hs : a'.rA = a.rA ∧ a'.rn = a.rn ∧ a'.rc = a.rc ∧ a'.rows = a.rows ∧ a'.hA = a.hA ∧ a'.hn = a.hn ∧ a'.hc = a.hc ∧ a'.hol = a.hol) (hp : p = i * 4 + j) :
    GHrs (w.setCell ⟨g, p, none⟩ u) lo (some ⟨g, 0, none⟩) n c (l.set i a') := by
  have hg : w.grownBy (w.setCell ⟨g, p, none⟩ u) (blkOf (some ⟨g, 0, none⟩)) := gr_setCell (gr_refl _ _) (.inl rfl) _
  obtain ⟨s1, s2, s3, s4, s5, s6, s7, s8⟩ := hs
  refine ⟨h.1.set1 HrV.row_len hi hj hr hp, fun x hx => ?_, fun i1 j1 x y hne hx hy => ?_⟩
  · rcases mem_setH hx with rfl | ⟨q, _, hx⟩
    · have h1 := (h.2.1 a (mem_of_get hi)).other h.1.1 hg
      refine ⟨hb, ?_, ?_⟩
      · rw [s1, s2, s3, s4]; exact h1.2.1
      · rw [s5, s6, s7, s8]; exact h1.2.2
    · exact (h.2.1 x (mem_of_get hx)).other h.1.1 hg
  · have e1 : ∀ (q : Nat) (x : HrV), (l.set i a')[q]? = some x → ∃ z : HrV, l[q]? = some z ∧ x.rA = z.rA ∧ x.hA = z.hA := fun q x hx => by
      rw [List.getElem?_set] at hx
      split at hx
      · split at hx
        · rename_i e _
          injection hx with hx
          subst hx; subst e
          exact ⟨a, hi, s1, s5⟩
        · cases hx
      · exact ⟨x, hx, rfl, rfl⟩
    obtain ⟨z1, q1, q2, q3⟩ := e1 _ _ hx
    obtain ⟨z2, q4, q5, q6⟩ := e1 _ _ hy
    have := h.2.2 _ _ _ _ hne q1 q4
    unfold HrApart
    rw [q2, q3, q5, q6]
    exact this
/-- The rows of some hours are put anew, grown by an append. -/
theorem GHrs.rows {g i p : Nat} {a : HrV} {w1 : World} (h : GHrs w lo (some ⟨g, 0, none⟩) n c l) (hi : l[i]? = some a) {s : Int × Int × Int} {A1 : Option Addr} {c1 n1 : Nat} (hn : n1 = a.rn + 1) (hb : n1 ≤ 1000)
    (h1 : Appended w lo 156 3 a.rA A1 n1 c1 (a.rows.flatMap r3Row ++ r3Row s) w1) (hp : p = i * 4 + 2) :
    Hrs (w1.setCell ⟨g, p, none⟩ (.slice A1 n1 c1)) lo (some ⟨g, 0, none⟩) n c (l.set i { a with rA := A1, rn := n1, rc := c1, rows := a.rows ++ [s] }) := by
  have ho := h.2.1 a (mem_of_get hi)
  have hm : OwnR HrV.row 4 w1 lo 154 (some ⟨g, 0, none⟩) n c l := h.1.kept h1.2.1 (fun g' e => Own.ne ho.2.1.1 h.1.1 (by decide) e)
  have hg : w1.grownBy (w1.setCell ⟨g, p, none⟩ (.slice A1 n1 c1)) (blkOf (some ⟨g, 0, none⟩)) := gr_setCell (gr_refl _ _) (.inl rfl) _
  refine ⟨(hm.set1 (a' := { a with rA := A1, rn := n1, rc := c1, rows := a.rows ++ [s] }) HrV.row_len hi (j := 2) (by omega) rfl hp).recs, fun x hx => ?_⟩
  rcases mem_setH hx with rfl | ⟨q, hq, hx⟩
  · refine HrOwn.ok (HrOwn.other (w := w1) ⟨⟨ho.1.1, hb, ho.1.2.2⟩, ho.2.1.app hn h1, ?_⟩ hm.1 hg)
    exact ho.2.2.kept h1.2.1 (fun g' e => Own.ne ho.2.1.1 ho.2.2.1 (by decide) e)
  · have hx1 := h.2.1 x (mem_of_get hx)
    have hap := h.2.2 _ _ _ _ (fun e => hq e.symm) hi hx
    exact HrOwn.ok (HrOwn.other (hx1.kept h1.2.1 (fun g' e => hap.1 g' e) (fun g' e => Own.ne ho.2.1.1 hx1.2.2.1 (by decide) e)) hm.1 hg)
end
/-! Hours that are being made: they lie in block ab, their slices are the call's own. -/
def HrB (w : World) (sb ab : Nat) (m : Int) (a : HrV) (wr : World) : Prop :=
  Str wr sb m ∧ w.grownBy wr (some sb) ∧ w.heap.size ≤ ab ∧ Blk wr ab 154 #[.string a.key, .int .i64 a.zone, .slice a.rA a.rn a.rc, .slice a.hA a.hn a.hc] ∧ HrOwn wr w.heap.size a
section
variable {w wr wx w8 : World} {sb ab : Nat} {m m' : Int} {a : HrV}
theorem HrB.row1 (h : HrB w sb ab m a wr) (hsb : sb < w.heap.size) {s : Int × Int × Int} {n1 : Nat} (hn : n1 = a.rn + 1) (hb : n1 ≤ 1000) (hsx : Str wx sb m') (hgx : wr.grownBy wx (some sb)) {A1 : Option Addr} {c1 : Nat}
    (h8 : Appended wx w.heap.size 156 3 a.rA A1 n1 c1 (a.rows.flatMap r3Row ++ r3Row s) w8) :
    HrB w sb ab m' { a with rA := A1, rn := n1, rc := c1, rows := a.rows ++ [s] } (w8.setCell ⟨ab, 2, none⟩ (.slice A1 n1 c1)) := by
  obtain ⟨_, hg, hp, hbk, ho⟩ := h
  have hox : HrOwn wx w.heap.size a := ho.low hgx (fun g e => by injection e with e; omega)
  have hbx := hbk.grown hgx (by simp; omega)
  have hb8 := hbx.grown h8.2.1 (Ne.symm (hox.2.1.1.blk_ne hbx (by decide)))
  have hg8 : w.grownBy w8 (some sb) := gr_own (gr_same hg hgx) hox.2.1.1 (Nat.le_refl _) h8.2.1
  have hz := hg8.size
  have hs8 : Str w8 sb m' := hsx.grown h8.2.1 (fun g e => by have := (hox.2.1.1.lt e).1; omega)
  refine ⟨hs8.setCell (by simp; omega) _, gr_setCell hg8 (.inr (by simp; omega)) _, hp, hb8.set_ 2 _, ⟨hox.1.1, hb, hox.1.2.2⟩, ?_, ?_⟩
  · have h9 := hox.2.1.app hn h8
    exact ⟨h9.1.far (h9.1.blk_ne hb8 (by decide)) _, h9.2⟩
  · have h9 := hox.2.2.kept h8.2.1 (fun g' e => Own.ne hox.2.1.1 hox.2.2.1 (by decide) e)
    exact ⟨h9.1.far (h9.1.blk_ne hb8 (by decide)) _, h9.2⟩
theorem HrB.hol1 (h : HrB w sb ab m a wr) (hsb : sb < w.heap.size) {s : Int × Int × Int} {n1 : Nat} (hn : n1 = a.hn + 1) (hb : n1 ≤ 1000) (hsx : Str wx sb m') (hgx : wr.grownBy wx (some sb)) {A1 : Option Addr} {c1 : Nat}
    (h8 : Appended wx w.heap.size 158 3 a.hA A1 n1 c1 (a.hol.flatMap r3Row ++ r3Row s) w8) :
    HrB w sb ab m' { a with hA := A1, hn := n1, hc := c1, hol := a.hol ++ [s] } (w8.setCell ⟨ab, 3, none⟩ (.slice A1 n1 c1)) := by
  obtain ⟨_, hg, hp, hbk, ho⟩ := h
  have hox : HrOwn wx w.heap.size a := ho.low hgx (fun g e => by injection e with e; omega)
  have hbx := hbk.grown hgx (by simp; omega)
  have hb8 := hbx.grown h8.2.1 (Ne.symm (hox.2.2.1.blk_ne hbx (by decide)))
  have hg8 : w.grownBy w8 (some sb) := gr_own (gr_same hg hgx) hox.2.2.1 (Nat.le_refl _) h8.2.1
  have hz := hg8.size
  have hs8 : Str w8 sb m' := hsx.grown h8.2.1 (fun g e => by have := (hox.2.2.1.lt e).1; omega)
  refine ⟨hs8.setCell (by simp; omega) _, gr_setCell hg8 (.inr (by simp; omega)) _, hp, hb8.set_ 3 _, ⟨hox.1.1, hox.1.2.1, hb⟩, ?_, ?_⟩
  · have h9 := hox.2.1.kept h8.2.1 (fun g' e => Own.ne hox.2.2.1 hox.2.1.1 (by decide) e)
    exact ⟨h9.1.far (h9.1.blk_ne hb8 (by decide)) _, h9.2⟩
  · have h9 := hox.2.2.app hn h8
    exact ⟨h9.1.far (h9.1.blk_ne hb8 (by decide)) _, h9.2⟩
theorem HrB.step (h : HrB w sb ab m a wr) (hsb : sb < w.heap.size) (hsx : Str wx sb m') (hgx : wr.grownBy wx (some sb)) : HrB w sb ab m' a wx :=
  ⟨hsx, gr_same h.2.1 hgx, h.2.2.1, h.2.2.2.1.grown hgx (by have := h.2.2.1; simp; omega), h.2.2.2.2.low hgx (fun g e => by injection e with e; omega)⟩
end
/-- A block that the making of some hours' slices leaves alone. -/
theorem HrB.blk {w wr wx w8 : World} {sb ab : Nat} {m : Int} {a : HrV} (_h : HrB w sb ab m a wr) {e t : TypeId} {A A1 : Option Addr} {n c n1 c1 g j : Nat} {xs ys : List Value} {cs : Array Value} {v : Value} (hb : Blk wr g t cs) (hgx : wr.grownBy wx (some sb)) (hs : g ≠ sb) (hg : g ≠ ab)
    (ho : Own wx w.heap.size e 3 A n c xs) (hne : e ≠ t) (h8 : Appended wx w.heap.size e 3 A A1 n1 c1 ys w8) : Blk (w8.setCell ⟨ab, j, none⟩ v) g t cs := by
  have hbx := hb.grown hgx (by simpa using hs)
  exact (hbx.grown h8.2.1 (Ne.symm (ho.blk_ne hbx hne))).far (by simpa using hg) v
theorem Tryz.hrsT : ElemT Tryz.prog 46 154 4 72 (.agg #[.string ⟨#[]⟩, .int .i64 0, .slice none 0 0, .slice none 0 0]) := elemT_of Tryz.underlying46 (by kernel_rfl) rfl (by decide)
theorem Tryz.rwsT : ElemT Tryz.prog 151 156 3 24 (.agg #[.int .i64 0, .int .i64 0, .int .i64 0]) := elemT_of Tryz.underlying151 (by kernel_rfl) rfl (by decide)
theorem Tryz.hosT : ElemT Tryz.prog 152 158 3 24 (.agg #[.int .i64 0, .int .i64 0, .int .i64 0]) := elemT_of Tryz.underlying152 (by kernel_rfl) rfl (by decide)
end
end Go.Proofs.YtfakdalpaopjaaaGreatDoor
/- Contracts of cmp.Compare and cmp.Or at int. Conditions: none. -/
namespace Go.Proofs.YtfakdalpaopjaaaGreatDoor
section
open Go.RowKit

def cmpZ (a b : Int) : Int := if a < b then -1 else if b < a then 1 else 0
theorem cmpZ_any (a b : Int) (w : World) : Calls Tryz.prog 128 #[.int .i64 a, .int .i64 b] w (Same (.int .i64 (cmpZ a b)) w) := by
  refine (Tryz.cmp_Compare_int a b w).mono ?_
  rintro e w' ⟨rfl, rfl⟩
  exact ⟨rfl, rfl⟩
/-- The first of two numbers that is not 0. -/
def orZ (a b : Int) : Int := if a = 0 then b else a
set_option maxHeartbeats 2000000 in
theorem orZ_any (a b : Int) (g : Nat) (w : World) (hb : Blk w g 3 #[.int .i64 a, .int .i64 b]) : Calls Tryz.prog 127 #[.slice (some ⟨g, 0, none⟩) 2 2] w (Same (.int .i64 (orZ a b)) w) := by
  have c0 : w.cell? ⟨g, 0, none⟩ = some (.int .i64 a) := hb.cell 0
  have c1 : w.cell? ⟨g, 1, none⟩ = some (.int .i64 b) := hb.cell 1
  clear hb
  go_enter Tryz.func127, Tryz.ntmps127
  go_wp2_with fail
  go_loop [5, 8] (fun _ t => ∃ i : Nat, i ≤ 2 ∧ t = .int .i64 i ∧ (1 ≤ i → a = 0) ∧ (2 ≤ i → b = 0)) (fun _ t => 2 - (intOf t).toNat)
  case atStart => exact ⟨0, by omega, rfl, by omega, by omega⟩
  case round =>
    obtain ⟨i, hi, rfl, h1, h2⟩ := hrel
    have H1 := Lib.hid h1; have H2 := Lib.hid h2
    clear h1 h2
    rcases (by omega : i = 0 ∨ i = 1 ∨ i = 2) with rfl | rfl | rfl
    · by_cases hz : a = 0
      · have q : (a != 0) = false := by simp [hz]
        have HA := Lib.hid hz; clear hz
        go_wp2_with fail
        go_round
        case rel => exact ⟨1, by omega, rfl, fun _ => HA.out, fun h => by omega⟩
        case measure => simp [intOf]
      · have q : (a != 0) = true := by simpa using hz
        have HA := Lib.hid (show orZ a b = a by unfold orZ; rw [if_neg hz]); clear hz
        go_wp2_with fail
        go_ret
        exact ⟨by rw [HA.out]; rfl, rfl⟩
    · have ha := H1.out (by omega)
      have HA := Lib.hid (show orZ a b = b by unfold orZ; rw [if_pos ha])
      have HA0 := Lib.hid ha; clear ha
      by_cases hz : b = 0
      · have q : (b != 0) = false := by simp [hz]
        have HBZ := Lib.hid hz; clear hz
        go_wp2_with fail
        go_round
        case rel => exact ⟨2, by omega, rfl, fun _ => HA0.out, fun _ => HBZ.out⟩
        case measure => simp [intOf]
      · have q : (b != 0) = true := by simpa using hz
        go_wp2_with fail
        go_ret
        exact ⟨by rw [HA.out]; rfl, rfl⟩
    · have HA := Lib.hid (show orZ a b = 0 by unfold orZ; rw [if_pos (H1.out (by omega)), H2.out (by omega)])
      go_wp2_with fail
      go_ret
      exact ⟨by rw [HA.out]; rfl, rfl⟩
end
end Go.Proofs.YtfakdalpaopjaaaGreatDoor
/- Contract of cmp.Or at some ints. Conditions: none. -/
namespace Go.Proofs.YtfakdalpaopjaaaGreatDoor
section
open Go.RowKit

section
variable {α : Type} {f : α → α → Int}
end
end
end Go.Proofs.YtfakdalpaopjaaaGreatDoor
/- strings.Compare as a call that leaves the world as it is; an order of strings. Conditions: none. -/
namespace Go.Proofs.YtfakdalpaopjaaaGreatDoor
section
open Go.RowKit
theorem strCmp_any (a b : ByteArray) (w : World) : Calls Tryz.prog 75 #[.string a, .string b] w (Same (.int .i64 (cmpS a b)) w) := by
  refine (Tryz.strings_Compare a b w).mono ?_
  rintro e w' ⟨rfl, rfl⟩
  exact ⟨rfl, rfl⟩
end
end Go.Proofs.YtfakdalpaopjaaaGreatDoor
/- Contracts of cmp.Compare and slices.Compare at strings. Conditions: none. -/
namespace Go.Proofs.YtfakdalpaopjaaaGreatDoor
section
open Go.RowKit
end
end Go.Proofs.YtfakdalpaopjaaaGreatDoor
/- A region that draws its order and stores at its end: loads are taken first while the first store (number b) has not come up. Over any program. Conditions: none. -/
namespace Go.Proofs.YtfakdalpaopjaaaGreatDoor
section
section
open Go.RowKit

theorem set_take_drop {xs : List Value} {p : Nat} (hp : p < xs.length) (v : Value) (r : List Value) : (xs.set p v).take (p + 1) ++ r ++ (xs.set p v).drop (p + 1 + r.length) = xs.take p ++ (v :: r) ++ xs.drop (p + (v :: r).length) := by
  have h : (xs.set p v)[p]? = some v := by simp [hp]
  have e1 : (xs.set p v).take (p + 1) = xs.take p ++ [v] := by
    rw [take_snoc' h, List.take_set, List.set_eq_of_length_le (by rw [List.length_take]; omega)]
  have e2 : (xs.set p v).drop (p + 1 + r.length) = xs.drop (p + 1 + r.length) := List.drop_set_of_lt (by omega)
  rw [e1, e2, List.length_cons, show p + (r.length + 1) = p + 1 + r.length by omega]
  simp
section
variable {P : Program} {lo size n c g : Nat} {e : TypeId}
theorem run_storeCells_own : ∀ (vs : List Value) (s j : Nat) (w : World) (xs : List Value), Own w lo e size (some ⟨g, 0, none⟩) n c xs → (∀ v ∈ vs, v.oneCell' = true) → s + j + vs.length ≤ n * size →
    ∃ w', (storeCells ⟨g, s, none⟩ vs j).run P w = .ok () w' ∧ Own w' lo e size (some ⟨g, 0, none⟩) n c (xs.take (s + j) ++ vs ++ xs.drop (s + j + vs.length)) ∧ w.grownBy w' (some g)
  | [], s, j, w, xs, h, _, _ => ⟨w, rfl, by simpa using h, gr_refl _ _⟩
  | v :: rest, s, j, w, xs, h, h1, hl => by
    have hlen := h.len
    have hp : s + j < n * size := by simp at hl; omega
    have hcell := h.cell hp
    rw [List.getElem?_eq_getElem (by omega)] at hcell
    have hfro := h.frozen (s + j)
    have hst : (store ((⟨g, s, none⟩ : Addr).add j) v).run P w = .ok () (w.setCell ⟨g, s + j, none⟩ v) := by
      rw [add_mk, run_store P w _ v _ (h1 v (by simp)), hcell]
      simp [hfro]
    have h2 := h.stored (s + j) v
    obtain ⟨w', hrun, h3, hg⟩ := run_storeCells_own rest s (j + 1) (w.setCell ⟨g, s + j, none⟩ v) _ h2 (fun x hx => h1 x (by simp [hx])) (by simp at hl; omega)
    refine ⟨w', ?_, ?_, gr_same (gr_setCell (gr_refl w (some g)) (.inl rfl) v) hg⟩
    · simp only [storeCells, Sem.run_bind, hst, Result.andThen_ok, hrun]
    · rw [← Nat.add_assoc, set_take_drop (by omega)] at h3
      exact h3
variable {w : World} {o : Oper} {a : Act} {K : Act → World → Prop} {Q : Exit → Act → World → Prop} {α : Type} {row : α → List Value} {k : Nat} {l : List α}
theorem wp_store_rec {ty : TypeId} (T : StructT P ty k) (hrow : ∀ a, (row a).length = k) (hk : 0 < k) (x y : Operand) (ho : o.op = .store ty x y) (i p : Nat) (hp : p = i * k) (hx : a.eval x = .pointer (some ⟨g, p, none⟩)) (z : α) (hy : a.eval y = .agg (row z).toArray)
    (h : OwnR row k w lo e (some ⟨g, 0, none⟩) n c l) (hi : i < n) (h1 : ∀ u ∈ row z, u.oneCell' = true)
    (hK : ∀ w', OwnR row k w' lo e (some ⟨g, 0, none⟩) n c (l.set i z) → w.grownBy w' (some g) → K (a.put o.dst undef) w') : o.wp P a w K Q := by
  subst hp
  obtain ⟨d, hd1, hd2, hd3⟩ := T
  have hle : i * k + k ≤ n * k := by have := Nat.mul_le_mul_right k (show i + 1 ≤ n by omega); rw [Nat.succ_mul] at this; exact this
  obtain ⟨w', hrun, h2, hg⟩ := run_storeCells_own (P := P) (row z) (i * k) 0 w _ h.1 h1 (by rw [hrow]; omega)
  obtain ⟨b, hb⟩ : ∃ b, l[i]? = some b := ⟨_, List.getElem?_eq_getElem (by rw [h.2]; exact hi)⟩
  have hf := flat_set hrow hk hb (a' := z) (ys := row z) 0 (by rw [hrow]; omega) (by rw [List.take_zero, List.nil_append, List.drop_of_length_le (by rw [hrow, hrow]; omega), List.append_nil])
  rw [hf] at h2
  cases hq : P.info? ty with
  | none => simp [hq] at hd3
  | some inf =>
    have hs : inf.size = k := by simpa [hq] using hd3
    unfold Oper.wp execOp
    have hst : (Instr.storeAt ty (.pointer (some ⟨g, i * k, none⟩)) (.agg (row z).toArray)).run P w = .ok () w' := by
      simp [Instr.storeAt, Instr.sureAddr, storeVar, sizeOf, typeInfo, hq, hs, Value.cells, hrow, hrun]
    simp only [ho, hx, hy, Sem.run_bind, Sem.run_pure, Result.andThen_ok, hst]
    exact hK w' ⟨h2, by rw [List.length_set]; exact h.2⟩ hg
end
end
section
variable {P : Program} {ops : Array Oper} {Q : Exit → Act → World → Prop} {md : Region.Mode} {S : World → Prop} {b : Nat}

/-- Whatever order is picked from here on; S holds behind every operation till number b has come up. -/
def wpAnyB (P : Program) (md : Region.Mode) (ops : Array Oper) (Q : Exit → Act → World → Prop) (S : World → Prop) (b : Nat) : Nat → Array Bool → Act → World → Prop
  | 0, listed, a, w => Region.ready md ops listed = [] ∧ Q .normal a w
  | fuel + 1, listed, a, w =>
    (Region.ready md ops listed = [] → Q .normal a w) ∧
    ∀ i ∈ Region.ready md ops listed, wpOp P ops Q i (fun a' w' => ((listed.setIfInBounds i true).getD b false = true ∨ S w') ∧ wpAnyB P md ops Q S b fuel (listed.setIfInBounds i true) a' w') a w
theorem wpAny_of_B : ∀ (fuel : Nat) (listed : Array Bool) (a : Act) (w : World), wpAnyB P md ops Q S b fuel listed a w → wpAny P md ops Q fuel listed a w
  | 0, _, _, _, h => h
  | fuel + 1, _, _, _, h => ⟨h.1, fun i hi => wpOp_mono (fun a' w' h' => wpAny_of_B fuel _ a' w' h'.2) (h.2 i hi)⟩
theorem wp_region_B {id : Nat} {a : Act} {w : World} (S : World → Prop) (b : Nat) (hm : P.follows .mixedOrders = true)
    (h : wpAnyB P .any ops Q S b ops.size (Array.replicate ops.size false) a w.drew) : (Code.region id ops true).wp P Q a w :=
  wp_region_any hm (wpAny_of_B (S := S) (b := b) _ _ _ _ h)
/-- Number b waits for number i, over at most f others. -/
def waitsT (md : Region.Mode) (ops : Array Oper) : Nat → Nat → Nat → Bool
  | 0, b, i => Region.waitsFor md ops b i
  | f + 1, b, i => Region.waitsFor md ops b i || (List.range ops.size).any fun j => Region.waitsFor md ops b j && waitsT md ops f j i
theorem waitsT_spec {listed : Array Bool} (inv : HeadInv md ops ops.size listed) : ∀ (f b i : Nat), waitsT md ops f b i = true → listed.getD b false = true → listed.getD i false = true := by
  have one : ∀ b i, Region.waitsFor md ops b i = true → listed.getD b false = true → listed.getD i false = true := fun b i h hl => by
    obtain ⟨ob, hob, e, he, hb, hon⟩ := Region.waitsFor_spec h
    have := inv.closed b ob hob hl e he hb
    rwa [hon] at this
  intro f
  induction f with
  | zero => exact one
  | succ f ih =>
    intro b i h hl
    unfold waitsT at h
    rw [Bool.or_eq_true] at h
    rcases h with h | h
    · exact one b i h hl
    · obtain ⟨j, _, hj⟩ := List.any_eq_true.1 h
      rw [Bool.and_eq_true] at hj
      exact ih j i hj.2 (one b j hj.1 hl)
/-- S where the operation looks at memory, else nothing. -/
def memS0 (S : World → Prop) : Bool → World → Prop
  | true => S
  | false => fun _ => True
theorem wpAnyB_first {i : Nat} {oi : Oper} {v : Value} (mem : Bool) (hi : ops[i]? = some oi) (hsel : ∀ (j : Nat) (o : Oper) cs b, ops[j]? = some o → o.op ≠ .select cs b)
    (hQ : ∀ c a w, Q (.panic c) (a.put oi.dst v) w → Q (.panic c) a w) (hib : i ≠ b) (hwait : mem = true → waitsT md ops 4 b i = true) :
    ∀ (fuel : Nat) (listed : Array Bool) (a : Act) (w : World), HeadInv md ops ops.size listed →
      (∀ j oj, ops[j]? = some oj → j ≠ i → listed.getD j true = false → (∀ e ∈ oj.after, Region.binds md e = true → e.on ≠ i) → oi.apart ops oj = true) →
      i ∈ Region.ready md ops listed → YieldsIf P ops (memS0 S mem) oi v a → (listed.getD b false = true ∨ S w) →
      wpAnyB P md ops Q S b fuel (listed.setIfInBounds i true) (a.put oi.dst v) w → wpAnyB P md ops Q S b (fuel + 1) listed a w := by
  have hm : ∀ (listed : Array Bool) (w : World), HeadInv md ops ops.size listed → listed.getD i true = false → (listed.getD b false = true ∨ S w) → memS0 S mem w := by
    intro listed w inv hun hS
    cases mem with
    | false => trivial
    | true =>
      rcases hS with h | h
      · have := waitsT_spec inv 4 b i (hwait rfl) h
        rw [getD_both hun] at this
        cases this
      · exact h
  intro fuel
  induction fuel with
  | zero =>
    intro listed a w inv _ hr hy hS H
    have hun := (mem_ready.1 hr).1
    refine ⟨fun h => (by rw [h] at hr; cases hr), fun j hj => ?_⟩
    by_cases hji : j = i
    · subst hji; exact hy.wpOp hi (hm _ _ inv hun hS) ⟨by rw [getD_set_ne false hib]; exact hS, H⟩
    · have := ready_mono hj hji
      rw [H.1] at this
      cases this
  | succ fuel ih =>
    intro listed a w inv hfree hr hy hS H
    have hun := (mem_ready.1 hr).1
    refine ⟨fun h => (by rw [h] at hr; cases hr), fun j hj => ?_⟩
    by_cases hji : j = i
    · subst hji; exact hy.wpOp hi (hm _ _ inv hun hS) ⟨by rw [getD_set_ne false hib]; exact hS, H⟩
    · have h1 := H.2 j (ready_mono hj hji)
      obtain ⟨hjun, oj, hoj, hall⟩ := mem_ready.1 hj
      have hjn : j < ops.size := (Array.getElem?_eq_some_iff.1 hoj).1
      have hnot : ∀ e ∈ oj.after, Region.binds md e = true → e.on ≠ i := fun e he hb heq => by
        have h1 := hall e he hb
        rw [heq, getD_both hun] at h1
        cases h1
      have h2 := wpOp_putIf hoj (hfree j oj hoj hji hjun hnot) (fun cs b => hsel i oi cs b hi) (fun cs b => hsel j oj cs b hoj) hQ hy h1
      have hfree' : ∀ k ok, ops[k]? = some ok → k ≠ i → (listed.setIfInBounds j true).getD k true = false →
          (∀ e ∈ ok.after, Region.binds md e = true → e.on ≠ i) → oi.apart ops ok = true := fun k ok hk hki hkun hno => by
        refine hfree k ok hk hki ?_ hno
        by_cases hjk : j = k
        · subst hjk; exact hjun
        · rw [getD_set_ne true hjk] at hkun; exact hkun
      refine wpOp_mono (fun a' w' h3 => ?_) h2
      have hS' : (listed.setIfInBounds j true).getD b false = true ∨ S w' := by
        rcases h3.2.1 with h | h
        · left
          rw [Array.setIfInBounds_comm _ _ (Ne.symm hji), getD_set_ne false hib] at h
          exact h
        · exact .inr h
      refine ⟨hS', ih (listed.setIfInBounds j true) a' w' (inv.set hj hjn) hfree' (ready_mono hr (Ne.symm hji)) h3.1 hS' ?_⟩
      rw [Array.setIfInBounds_comm _ _ hji]
      exact h3.2.2
/-- What has come up is closed. -/
def closedB (md : Region.Mode) (ops : Array Oper) (listed : Array Bool) : Bool :=
  decide (listed.size = ops.size) && (List.range ops.size).all fun j => !listed.getD j false || (match ops[j]? with | some o => o.after.all fun e => !Region.binds md e || listed.getD e.on false | none => true)
theorem closedB_spec {listed : Array Bool} (h : closedB md ops listed = true) : HeadInv md ops ops.size listed := by
  unfold closedB at h
  simp only [Bool.and_eq_true, decide_eq_true_eq] at h
  obtain ⟨h1, h4⟩ := h
  refine ⟨h1, fun j oj hj hl e he hb => ?_, fun t ht ht2 => by omega⟩
  have hj2 := (Array.getElem?_eq_some_iff.1 hj).1
  have := List.all_eq_true.1 h4 j (List.mem_range.2 hj2)
  rw [hl, hj] at this
  simp only [Bool.not_true, Bool.false_or] at this
  have := Array.all_eq_true_iff_forall_mem.1 this e he
  rw [hb] at this
  simpa using this
def btakeB (md : Region.Mode) (ops : Array Oper) (b : Nat) (mem : Bool) (listed : Array Bool) (k : Nat) : Bool :=
  Region.noSelect ops && decide (k ≠ b) && (!mem || waitsT md ops 4 b k) && closedB md ops listed && (Region.ready md ops listed).contains k && Region.free md ops listed k
variable {ls : List Oper}
/-- One that reckons (mem = false) or loads (mem = true). -/
theorem B_take {fuel k : Nat} {listed : Array Bool} {o : Oper} {a : Act} {w : World} (mem : Bool) (v : Value) (ho : opAt ls k = some o) (hB : btakeB md ls.toArray b mem listed k = true)
    (hQ : ∀ c a w, Q (.panic c) (a.put o.dst v) w → Q (.panic c) a w) (hw : Region.wanted o (yielded ls.toArray a.tmps) = true) (hy : ∀ w, memS0 S mem w → (execOp a.eval o).run P w = .ok (.value v) w) (hS : listed.getD b false = true ∨ S w)
    (h : wpAnyB P md ls.toArray Q S b fuel (listed.setIfInBounds k true) (a.put o.dst v) w) : wpAnyB P md ls.toArray Q S b (fuel + 1) listed a w := by
  unfold btakeB at hB
  simp only [Bool.and_eq_true, decide_eq_true_eq, Bool.or_eq_true, Bool.not_eq_true'] at hB
  obtain ⟨⟨⟨⟨⟨h1, h2⟩, h3⟩, h4⟩, h5⟩, h6⟩ := hB
  rw [opAt_eq] at ho
  exact wpAnyB_first mem ho (Region.noSelect_spec h1) hQ h2 (fun e => h3.resolve_left (by rw [e]; decide)) fuel listed a w (closedB_spec h4) (Region.free_spec ho h6) (by simpa using h5) (.inl ⟨hw, hy⟩) hS h
/-- One that comes up alone. -/
theorem B_run {fuel k : Nat} {listed : Array Bool} {o : Oper} {a : Act} {w : World} (ho : opAt ls k = some o) (hr : Region.ready md ls.toArray listed = [k]) (hw : Region.wanted o (yielded ls.toArray a.tmps) = true)
    (h : ∀ K : Act → World → Prop, (∀ a' w', ((listed.setIfInBounds k true).getD b false = true ∨ S w') → wpAnyB P md ls.toArray Q S b fuel (listed.setIfInBounds k true) a' w' → K a' w') → o.wp P a w K Q) : wpAnyB P md ls.toArray Q S b (fuel + 1) listed a w := by
  refine ⟨fun h1 => (by rw [hr] at h1; cases h1), fun i hi => ?_⟩
  rw [hr] at hi
  have hik : i = k := by simpa using hi
  subst hik
  rw [opAt_eq] at ho
  unfold wpOp
  simp only [ho, hw, if_true]
  exact .inl (h _ fun a' w' h1 h2 => ⟨h1, h2⟩)
theorem B_done {listed : Array Bool} {a : Act} {w : World} (hr : Region.ready md ops listed = []) (h : Q .normal a w) : wpAnyB P md ops Q S b 0 listed a w := ⟨hr, h⟩
end
end
end Go.Proofs.YtfakdalpaopjaaaGreatDoor
/- Moves in drawn regions: two or three operations that come up in any order; whole loads. Conditions: none. -/
namespace Go.Proofs.YtfakdalpaopjaaaGreatDoor
section
open Go.RowKit

theorem exec_ldr {P : Program} {w : World} {o : Oper} {ev : Operand → Value} {ty : TypeId} {n : Nat} (T : StructT P ty n) (x : Operand) (ho : o.op = .load ty x) (a : Addr) (hx : ev x = .pointer (some a)) (cs : List Value) (hb : ∀ (j : Nat) (u : Value), cs[j]? = some u → w.cell? (a.add j) = some u) (hn : cs.length = n) :
    (execOp ev o).run P w = .ok (.value (.agg cs.toArray)) w := by
  unfold execOp
  simp only [ho, hx, Instr.loadAt, Instr.sureAddr, Sem.run_bind, Sem.run_pure, Result.andThen_ok, run_load_at T hn hb]
theorem exec_ldb {P : Program} {w : World} {o : Oper} {ev : Operand → Value} {ty : TypeId} {n : Nat} (T : StructT P ty n) (x : Operand) (ho : o.op = .load ty x) (g : Nat) (hx : ev x = .pointer (some ⟨g, 0, none⟩)) (t : TypeId) (cs : List Value) (hb : Blk w g t cs.toArray) (hn : cs.length = n) :
    (execOp ev o).run P w = .ok (.value (.agg cs.toArray)) w := by
  unfold execOp
  simp only [ho, hx, Instr.loadAt, Instr.sureAddr, Sem.run_bind, Sem.run_pure, Result.andThen_ok, run_load_at T hn (fun j u hu => by rw [add_mk, Nat.zero_add, hb.cell]; simpa using hu)]
section
variable {P : Program} {ls : List Oper} {md : Region.Mode} {Q : Exit → Act → World → Prop} {S : World → Prop} {b : Nat}
end
end
end Go.Proofs.YtfakdalpaopjaaaGreatDoor
/- A place of an own slice of one-cell elements is stored; the places behind one are cleared. Over any program. Conditions: none. -/
namespace Go.Proofs.YtfakdalpaopjaaaGreatDoor
section
open Go.RowKit

section
variable {P : Program} {lo n c g : Nat} {e : TypeId} {w : World} {o : Oper} {a : Act} {K : Act → World → Prop} {Q : Exit → Act → World → Prop} {α : Type} {row : α → List Value} {l : List α}
end
end
end Go.Proofs.YtfakdalpaopjaaaGreatDoor
/- The builtin clear at a slice of records: the places from one on are cleared. Conditions: none. -/
namespace Go.Proofs.YtfakdalpaopjaaaGreatDoor
section
open Go.RowKit
variable {P : Program}

theorem zero_mem {zs : Array Value} (h1 : ∀ v ∈ zs.toList, v.oneCell' = true) (hk : 0 < zs.size) (n : Nat) : ∀ v ∈ (Builtin.zeroCells zs n).toList, v.oneCell' = true := by
  intro v hv
  unfold Builtin.zeroCells at hv
  rw [Array.toList_map] at hv
  obtain ⟨i, _, rfl⟩ := List.mem_map.1 hv
  have hlt : i % zs.size < zs.size := Nat.mod_lt _ hk
  rw [getElem!_pos zs (i % zs.size) hlt]
  exact h1 _ (Array.getElem_mem_toList hlt)
theorem run_clear_rows {w : World} {lo n c g k : Nat} {e t : TypeId} {z : Value} (ht : P.underlying t = some (.slice e)) (hv : ∀ w, (zeroValue e).run P w = .ok z w) (hz : z.cells.size = k) (hk : 0 < k) (h1 : ∀ v ∈ z.cells.toList, v.oneCell' = true) {xs : List Value} (h : Own w lo e k (some ⟨g, 0, none⟩) n c xs) (i p : Nat) (hp : p = i * k) (hi : i < n) (m cc : Nat) (hm : m = n - i) :
    ∃ w', (∀ ty, (Builtin.clear_ #[t] ty #[.slice (some ⟨g, p, none⟩) m cc]).run P w = .ok (.tuple #[]) w') ∧ Own w' lo e k (some ⟨g, 0, none⟩) i c (xs.take (i * k)) ∧ w.grownBy w' (some g) := by
  subst hm hp
  have hl := h.len
  have hle : i * k + (n - i) * k = n * k := by rw [← Nat.add_mul]; congr 1; omega
  have hzl : (Builtin.zeroCells z.cells (n - i)).toList.length = (n - i) * k := by
    unfold Builtin.zeroCells
    simp [hz]
  obtain ⟨w', hrun, h2, hg⟩ := run_storeCells_own (P := P) (Builtin.zeroCells z.cells (n - i)).toList (i * k) 0 w xs h (zero_mem h1 (by omega) _) (by rw [hzl]; omega)
  refine ⟨w', fun ty => ?_, ?_, hg⟩
  · obtain ⟨q, hq⟩ : ∃ q, n - i = q + 1 := ⟨n - i - 1, by omega⟩
    rw [hq] at hrun ⊢
    simp [Builtin.clear_, run_underlying ht, hv, hrun]
  · have h3 := h2.prefix_ i (by omega)
    have e1 : i * k ≤ xs.length := by rw [hl, ← hle]; omega
    rw [Nat.add_zero, List.append_assoc, List.take_append_of_le_length (by rw [List.length_take]; omega), List.take_take, Nat.min_self] at h3
    exact h3
section
variable {lo n c g k : Nat} {e : TypeId} {w : World} {o : Oper} {a : Act} {Q : Exit → Act → World → Prop} {α : Type} {row : α → List Value} {l : List α}
theorem wpl_store_rec {ops : Array Oper} {rest : List Oper} {ty : TypeId} (hgd : o.guard = none) (T : StructT P ty k) (hrow : ∀ a, (row a).length = k) (hk : 0 < k) (x y : Operand) (ho : o.op = .store ty x y) (i p : Nat) (hp : p = i * k) (hx : a.eval x = .pointer (some ⟨g, p, none⟩)) (z : α) (hy : a.eval y = .agg (row z).toArray)
    (h : OwnR row k w lo e (some ⟨g, 0, none⟩) n c l) (hi : i < n) (h1 : ∀ u ∈ row z, u.oneCell' = true)
    (hK : ∀ w', OwnR row k w' lo e (some ⟨g, 0, none⟩) n c (l.set i z) → w.grownBy w' (some g) → wpList P ops Q rest (a.put o.dst undef) w') : wpList P ops Q (o :: rest) a w :=
  wpList_plain hgd fun _ hk' => wp_store_rec T hrow hk x y ho i p hp hx z hy h hi h1 fun w' h2 hg => hk' _ _ (hK w' h2 hg)
end
end
end Go.Proofs.YtfakdalpaopjaaaGreatDoor
/- slices.SortFunc at structs in a row of the call's own, at any length: a sorted permutation. Over any program that bears the library's text. Conditions: the order is a strict weak one. -/
namespace Go.Proofs.YtfakdalpaopjaaaGreatDoor
section
open Go.Shelf Go.RowKit Go.Lib Go.Sort

section
variable {P : Program} {ρ : Ren} {α : Type} {row : α → List Value} {k : Nat} {e : TypeId} {lo g n c : Nat} {l : List α} {w : World}
theorem flatK_toList [Inhabited α] (hk : ∀ a, (row a).length = k) (l : List α) : (flatK row k l.toArray).toList = l.flatMap row := by
  apply List.ext_getElem?
  intro t
  rw [Array.getElem?_toList]
  by_cases ht : t < l.length * k
  · have hs : t < (flatK row k l.toArray).size := by simpa using ht
    have k0 : 0 < k := by
      rcases Nat.eq_zero_or_pos k with h | h
      · subst h; simp at ht
      · exact h
    have hq : t / k < l.length := Nat.div_lt_of_lt_mul (by rw [Nat.mul_comm]; exact ht)
    have hm := Nat.mod_lt t k0
    have e := flat_get hk l (t / k) (t % k) hm
    rw [show t / k * k + t % k = t by rw [Nat.mul_comm]; exact Nat.div_add_mod t k] at e
    rw [e, Array.getElem?_eq_getElem hs, ← getElem!_pos _ t hs, get_flatK _ _ _ t (by simpa using ht), List.getElem?_eq_getElem hq]
    have h1 : (l.toArray)[t / k]! = l[t / k] := by rw [getElem!_pos _ _ (by simpa using hq)]; simp
    rw [h1]
    show _ = (row l[t / k])[t % k]?
    rw [List.getElem?_eq_getElem (by rw [hk]; exact hm), getElem!_pos _ _ (by rw [hk]; exact hm)]
  · rw [Array.getElem?_eq_none (by simpa using Nat.le_of_not_lt ht), List.getElem?_eq_none (by rw [flat_len hk]; omega)]
theorem OwnR.holds [Inhabited α] (hk : ∀ a, (row a).length = k) (h : OwnR row k w lo e (some ⟨g, 0, none⟩) n c l) : HoldsK row k w g 0 l.toArray := by
  intro j hj
  have hj' : j < n * k := by rw [← h.2]; simpa using hj
  rw [Nat.zero_add]
  refine ⟨(h.1.cell hj').trans ?_, h.1.frozen j⟩
  rw [← flatK_toList hk l, Array.getElem?_toList, Array.getElem?_eq_getElem hj, ← getElem!_pos _ j hj]
  rfl
/-- No later one is less than an earlier one. -/
def Asc (cf : α → α → Int) (l : List α) : Prop := l.Pairwise fun x y => ¬ cf y x < 0
end
end
end Go.Proofs.YtfakdalpaopjaaaGreatDoor
/- Insertion by exchanges sorts; equal neighbours once; two rising lists of the same elements. In plain Lean. Conditions: the order is a strict weak one. -/
namespace Go.Proofs.YtfakdalpaopjaaaGreatDoor
section
open Go.Shelf Go.RowKit Go.Lib Go.Sort

section
variable {α : Type} {cf : α → α → Int} {l : List α} {i j n : Nat} {x y z : α}
theorem swo_asym (h : SWO (ltOf cf)) (h1 : cf x y < 0) : ¬ cf y x < 0 := by
  intro h2
  have h3 := h.trans x y x (by unfold ltOf; exact decide_eq_true h1) (by unfold ltOf; exact decide_eq_true h2)
  have h4 := h.irrefl x
  rw [h3] at h4
  cases h4
theorem swo_ntr (h : SWO (ltOf cf)) (h1 : ¬ cf x y < 0) (h2 : ¬ cf y z < 0) : ¬ cf x z < 0 := by
  have h3 := h.ntrans x y z (by unfold ltOf; exact decide_eq_false h1) (by unfold ltOf; exact decide_eq_false h2)
  unfold ltOf at h3
  exact of_decide_eq_false h3
/-- The first i are in order. -/
def SrtTo (cf : α → α → Int) (l : List α) (i : Nat) : Prop := ∀ (p q : Nat) (x y : α), p < q → q < i → l[p]? = some x → l[q]? = some y → ¬ cf y x < 0
/-- The first i + 1 are in order, but for the one at place j, which may belong further to the front. -/
def Hole (cf : α → α → Int) (l : List α) (i j : Nat) : Prop := ∀ (p q : Nat) (x y : α), p < q → q ≤ i → q ≠ j → l[p]? = some x → l[q]? = some y → ¬ cf y x < 0
theorem SrtTo.one : SrtTo cf l 1 := fun p q x y h1 h2 => by omega
theorem SrtTo.hole (h : SrtTo cf l i) : Hole cf l i i := fun p q x y h1 h2 h3 hx hy => h p q x y h1 (by omega) hx hy
theorem Hole.done0 (h : Hole cf l i 0) : SrtTo cf l (i + 1) := fun p q x y h1 h2 hx hy => h p q x y h1 (by omega) (by omega) hx hy
theorem SrtTo.asc (h : SrtTo cf l n) (hl : l.length ≤ n) : Asc cf l := by
  refine List.pairwise_iff_getElem.2 fun p q hp hq hpq => ?_
  exact h p q l[p] l[q] hpq (by omega) (List.getElem?_eq_getElem hp) (List.getElem?_eq_getElem hq)
theorem Hole.done (hO : SWO (ltOf cf)) (h : Hole cf l i (j + 1)) (hx : l[j + 1]? = some x) (hy : l[j]? = some y) (hj : j + 1 ≤ i) (hc : ¬ cf x y < 0) : SrtTo cf l (i + 1) := by
  intro p q u v h1 h2 hu hv
  by_cases e : q = j + 1
  · subst e
    rw [hx] at hv
    obtain rfl := Option.some.inj hv
    by_cases e2 : p = j
    · subst e2
      rw [hy] at hu
      obtain rfl := Option.some.inj hu
      exact hc
    · exact swo_ntr hO hc (h p j u y (by omega) (by omega) (by omega) hu hy)
  · exact h p q u v h1 (by omega) e hu hv
theorem swap_get (hx : l[j + 1]? = some x) (hy : l[j]? = some y) (p : Nat) : ((l.set (j + 1) y).set j x)[p]? = if p = j then some x else if p = j + 1 then some y else l[p]? := by
  have h1 := (List.getElem?_eq_some_iff.1 hx).1
  by_cases e : p = j
  · subst e
    rw [if_pos rfl, List.getElem?_set_self (by rw [List.length_set]; omega)]
  · rw [if_neg e, List.getElem?_set_ne (by omega)]
    by_cases e2 : p = j + 1
    · subst e2
      rw [if_pos rfl, List.getElem?_set_self h1]
    · rw [if_neg e2, List.getElem?_set_ne (by omega)]
theorem Hole.swap (hO : SWO (ltOf cf)) (h : Hole cf l i (j + 1)) (hx : l[j + 1]? = some x) (hy : l[j]? = some y) (hj : j + 1 ≤ i) (hc : cf x y < 0) : Hole cf ((l.set (j + 1) y).set j x) i j := by
  intro p q u v h1 h2 h3 hu hv
  rw [swap_get hx hy] at hu hv
  rw [if_neg h3] at hv
  by_cases e : q = j + 1
  · rw [if_pos e] at hv
    obtain rfl := Option.some.inj hv
    by_cases e2 : p = j
    · rw [if_pos e2] at hu
      obtain rfl := Option.some.inj hu
      exact swo_asym hO hc
    · rw [if_neg e2, if_neg (by omega)] at hu
      exact h p j u _ (by omega) (by omega) (by omega) hu hy
  · rw [if_neg e] at hv
    by_cases e2 : p = j
    · rw [if_pos e2] at hu
      obtain rfl := Option.some.inj hu
      exact h (j + 1) q _ v (by omega) h2 e hx hv
    · rw [if_neg e2] at hu
      by_cases e3 : p = j + 1
      · rw [if_pos e3] at hu
        obtain rfl := Option.some.inj hu
        exact h j q _ v (by omega) h2 e hy hv
      · rw [if_neg e3] at hu
        exact h p q u v h1 h2 e hu hv
theorem swap_perm (hx : l[j + 1]? = some x) (hy : l[j]? = some y) : ((l.set (j + 1) y).set j x).Perm l := by
  obtain ⟨h1, rfl⟩ := List.getElem?_eq_some_iff.1 hx
  obtain ⟨h2, rfl⟩ := List.getElem?_eq_some_iff.1 hy
  exact List.set_set_perm h1 h2
end
section
variable {α : Type} [DecidableEq α] {cf : α → α → Int}
/-- No equal neighbours among the first k. -/
def NoEq (l : List α) (k : Nat) : Prop := ∀ (p : Nat) (x y : α), p + 1 < k → l[p]? = some x → l[p + 1]? = some y → x ≠ y
omit [DecidableEq α] in
theorem NoEq.one {l : List α} : NoEq l 1 := fun p x y h => by omega
omit [DecidableEq α] in
theorem NoEq.succ {l : List α} {k : Nat} {x y : α} (h : NoEq l k) (hk : 0 < k) (hx : l[k]? = some x) (hy : l[k - 1]? = some y) (hn : y ≠ x) : NoEq l (k + 1) := by
  intro p u v hp hu hv
  by_cases e : p + 1 = k
  · subst e
    rw [hx] at hv
    rw [Nat.add_sub_cancel, hu] at hy
    obtain rfl := Option.some.inj hv
    obtain rfl := Option.some.inj hy
    exact hn
  · exact h p u v (by omega) hu hv
omit [DecidableEq α] in
omit [DecidableEq α] in
end
end
end Go.Proofs.YtfakdalpaopjaaaGreatDoor
/- Calls and made slices that come up in any order, in a region whose condition holds till a store. Conditions: none. -/
namespace Go.Proofs.YtfakdalpaopjaaaGreatDoor
section
open Go.RowKit

section
variable {P : Program} {ops : Array Oper} {Q : Exit → Act → World → Prop} {md : Region.Mode} {S : World → Prop} {b : Nat} {ls : List Oper}
end
end
end Go.Proofs.YtfakdalpaopjaaaGreatDoor
/- Tariffs and payers as they lie in memory, what is wrong with them, and what a call costs, in plain Lean. Conditions: none. -/
namespace Go.Proofs.YtfakdalpaopjaaaGreatDoor
section
open Go.RowKit

def digSigns : List Nat := [48, 49, 50, 51, 52, 53, 54, 55, 56, 57]
/-- Has a string digits alone? -/
def digB (l : List Nat) : Bool := l.all (fun b => decide (b ∈ digSigns))
/-- What stands behind a plus; none: there is no plus. -/
def plusOf : List Nat → Option (List Nat)
  | 43 :: l => some l
  | _ => none
def pfOk (l : List Nat) : Bool := decide (l = []) || (plusOf l).elim false (fun d => decide (d.length ≤ 15) && digB d)
def phOk (l : List Nat) : Bool := (plusOf l).elim false (fun d => decide (4 ≤ d.length) && decide (d.length ≤ 15) && digB d && decide (d.getD 0 0 ≠ 48))

/-- A class. -/
structure ClV where
  pre : ByteArray
  name : ByteArray
  setup : Int
  first : Int
  step : Int
  rate : Int
def ClV.row (c : ClV) : List Value := [.string c.pre, .string c.name, .int .i64 c.setup, .int .i64 c.first, .int .i64 c.step, .int .i64 c.rate]
theorem ClV.row_len (c : ClV) : c.row.length = 6 := rfl
def ClOk (c : ClV) : Prop := c.pre.size ≤ 1000 ∧ c.name.size ≤ 1000
/-- A tariff, as it lies in memory. -/
structure TfV where
  cA : Option Addr
  cn : Nat
  cc : Nat
  free : Int
  iA : Option Addr
  en : Nat
  ic : Nat
  cl : List ClV
  ins : List ByteArray
def TfV.row (t : TfV) : List Value := [.slice t.cA t.cn t.cc, .int .i64 t.free, .slice t.iA t.en t.ic]
def TfOk (w : World) (lo : Nat) (t : TfV) : Prop := ((∀ c ∈ t.cl, ClOk c) ∧ (∀ s ∈ t.ins, s.size ≤ 1000) ∧ t.cn ≤ 1000 ∧ t.en ≤ 1000) ∧ Recs ClV.row 6 w lo t.cA t.cn t.cc t.cl ∧ Recs srow 1 w lo t.iA t.en t.ic t.ins
theorem TfOk.grown {w w' : World} {lo : Nat} {t : TfV} (h : TfOk w lo t) {r : Option Nat} (hg : w.grownBy w' r) (hr : ∀ g, r = some g → g < lo) : TfOk w' lo t := ⟨h.1, h.2.1.grown hg hr, h.2.2.grown hg hr⟩
/-- A payer, as it lies in memory. -/
structure PyV where
  key : ByteArray
  nA : Option Addr
  nn : Nat
  nc : Nat
  nums : List ByteArray
def PyV.row (p : PyV) : List Value := [.string p.key, .slice p.nA p.nn p.nc]
theorem PyV.row_len (p : PyV) : p.row.length = 2 := rfl
def PyOk (w : World) (lo : Nat) (p : PyV) : Prop := (p.key.size ≤ 1000 ∧ (∀ s ∈ p.nums, s.size ≤ 1000) ∧ p.nn ≤ 1000) ∧ Recs srow 1 w lo p.nA p.nn p.nc p.nums
def Pys (w : World) (lo : Nat) (A : Option Addr) (n c : Nat) (l : List PyV) : Prop := Recs PyV.row 2 w lo A n c l ∧ ∀ p ∈ l, PyOk w lo p
theorem PyOk.grown {w w' : World} {lo : Nat} {p : PyV} (h : PyOk w lo p) {r : Option Nat} (hg : w.grownBy w' r) (hr : ∀ g, r = some g → g < lo) : PyOk w' lo p := ⟨h.1, h.2.grown hg hr⟩
theorem Pys.grown {w w' : World} {lo : Nat} {A : Option Addr} {n c : Nat} {l : List PyV} (h : Pys w lo A n c l) {r : Option Nat} (hg : w.grownBy w' r) (hr : ∀ g, r = some g → g < lo) : Pys w' lo A n c l :=
  ⟨h.1.grown hg hr, fun p hp => (h.2 p hp).grown hg hr⟩

/-! What is wrong with a tariff. -/
def clNum (c : ClV) : Bool := inB c.setup 0 1000000 && inB c.rate 0 1000000 && inB c.first 0 86400000 && inB c.step 1 86400000
def clAt (l : List ClV) (i : Nat) : Int := (l[i]?).elim 0 fun c =>
  if pfOk (nb c.pre) then (if keyOk (nb c.name) then (if clNum c then (if decide (0 < i) && (l[i - 1]?).elim false (fun b => leS c.pre b.pre) then 7 else 0) else 1) else 5) else 3
def keyAt (l : List ByteArray) (i : Nat) : Int := (l[i]?).elim 0 fun s =>
  if keyOk (nb s) then (if decide (0 < i) && (l[i - 1]?).elim false (fun b => leS s b) then 7 else 0) else 5
def tarE (t : TfV) : Int :=
  if 200 < t.cn then 2 else if fstE (clAt t.cl) t.cn = 0 then (if inB t.free 0 2592000000 then (if 200 < t.en then 2 else fstE (keyAt t.ins) t.en) else 1) else fstE (clAt t.cl) t.cn
section
variable {l : List ClV} {i : Nat} {z b : ClV}
theorem clAt_3 (h : l[i]? = some z) (h1 : pfOk (nb z.pre) = false) : clAt l i = 3 := by simp only [clAt, h, Option.elim, h1]; rfl
theorem clAt_5 (h : l[i]? = some z) (h1 : pfOk (nb z.pre) = true) (h2 : keyOk (nb z.name) = false) : clAt l i = 5 := by simp only [clAt, h, Option.elim, h1, h2]; rfl
theorem clAt_1 (h : l[i]? = some z) (h1 : pfOk (nb z.pre) = true) (h2 : keyOk (nb z.name) = true) (h3 : clNum z = false) : clAt l i = 1 := by simp only [clAt, h, Option.elim, h1, h2, h3]; rfl
theorem clAt_7 (h : l[i]? = some z) (h1 : pfOk (nb z.pre) = true) (h2 : keyOk (nb z.name) = true) (h3 : clNum z = true) (hi : 0 < i) (hb : l[i - 1]? = some b) (h4 : leS z.pre b.pre = true) : clAt l i = 7 := by
  simp only [clAt, h, Option.elim, h1, h2, h3, hb, decide_eq_true hi, h4]; rfl
theorem clAt_e (h : l[i]? = some z) (h1 : pfOk (nb z.pre) = true) (h2 : keyOk (nb z.name) = true) (h3 : clNum z = true) (hb : l[i - 1]? = some b) (h4 : leS z.pre b.pre = false) : clAt l i = 0 := by
  simp only [clAt, h, Option.elim, h1, h2, h3, hb, h4, Bool.and_false]; rfl
theorem clAt_z (h : l[i]? = some z) (h1 : pfOk (nb z.pre) = true) (h2 : keyOk (nb z.name) = true) (h3 : clNum z = true) (hi : ¬ 0 < i) : clAt l i = 0 := by
  simp only [clAt, h, Option.elim, h1, h2, h3, decide_eq_false hi, Bool.false_and]; rfl
end
section
variable {l : List ByteArray} {i : Nat} {z b : ByteArray}
theorem keyAt_5 (h : l[i]? = some z) (h2 : keyOk (nb z) = false) : keyAt l i = 5 := by simp only [keyAt, h, Option.elim, h2]; rfl
theorem keyAt_7 (h : l[i]? = some z) (h2 : keyOk (nb z) = true) (hi : 0 < i) (hb : l[i - 1]? = some b) (h4 : leS z b = true) : keyAt l i = 7 := by
  simp only [keyAt, h, Option.elim, h2, hb, decide_eq_true hi, h4]; rfl
theorem keyAt_e (h : l[i]? = some z) (h2 : keyOk (nb z) = true) (hb : l[i - 1]? = some b) (h4 : leS z b = false) : keyAt l i = 0 := by
  simp only [keyAt, h, Option.elim, h2, hb, h4, Bool.and_false]; rfl
theorem keyAt_z (h : l[i]? = some z) (h2 : keyOk (nb z) = true) (hi : ¬ 0 < i) : keyAt l i = 0 := by
  simp only [keyAt, h, Option.elim, h2, decide_eq_false hi, Bool.false_and]; rfl
end

/-! What is wrong with payers. -/
def numAt (had ns : List ByteArray) (j : Nat) : Int := (ns[j]?).elim 0 fun s => if phOk (nb s) then (if memS (had ++ ns.take j) s then 6 else 0) else 3
def hadN (l : List PyV) (i : Nat) : List ByteArray := (l.take i).flatMap (·.nums)
def payAt (l : List PyV) (i : Nat) : Int := (l[i]?).elim 0 fun p =>
  if keyOk (nb p.key) then (if decide (0 < i) && (l[i - 1]?).elim false (fun b => leS p.key b.key) then 7 else (if 500 < p.nn then 2 else fstE (numAt (hadN l i) p.nums) p.nn)) else 5
def pysE (l : List PyV) : Int := if 500 < l.length then 2 else fstE (payAt l) l.length
theorem hadN_succ {l : List PyV} {i : Nat} {p : PyV} (h : l[i]? = some p) : hadN l (i + 1) = hadN l i ++ p.nums := by
  unfold hadN; rw [take_snoc' h, List.flatMap_append]; simp
section
variable {had ns : List ByteArray} {j : Nat} {s : ByteArray}
theorem numAt_3 (h : ns[j]? = some s) (h1 : phOk (nb s) = false) : numAt had ns j = 3 := by simp only [numAt, h, Option.elim, h1]; rfl
theorem numAt_6 (h : ns[j]? = some s) (h1 : phOk (nb s) = true) (h2 : memS (had ++ ns.take j) s = true) : numAt had ns j = 6 := by simp only [numAt, h, Option.elim, h1, h2]; rfl
theorem numAt_z (h : ns[j]? = some s) (h1 : phOk (nb s) = true) (h2 : memS (had ++ ns.take j) s = false) : numAt had ns j = 0 := by simp only [numAt, h, Option.elim, h1, h2]; rfl
end
section
variable {l : List PyV} {i : Nat} {z b : PyV}
theorem payAt_5 (h : l[i]? = some z) (h1 : keyOk (nb z.key) = false) : payAt l i = 5 := by simp only [payAt, h, Option.elim, h1]; rfl
theorem payAt_7 (h : l[i]? = some z) (h1 : keyOk (nb z.key) = true) (hi : 0 < i) (hb : l[i - 1]? = some b) (h3 : leS z.key b.key = true) : payAt l i = 7 := by simp only [payAt, h, Option.elim, h1, hb, h3, decide_eq_true hi]; rfl
/-- The key ahead of a place; none: the empty string. -/
def lastP (l : List PyV) (k : Nat) : ByteArray := if k = 0 then ⟨#[]⟩ else (l[k - 1]?).elim ⟨#[]⟩ (·.key)
theorem keyP_pos {s : ByteArray} (h : keyOk (nb s) = true) : s.toList ≠ [] := by
  intro e
  have : nb s = [] := by unfold nb; rw [← ByteArray.toList_eq, e]; rfl
  rw [this] at h
  exact absurd h (by decide)
theorem leS_nil {s : ByteArray} (h : s.toList ≠ []) : leS s ⟨#[]⟩ = false := by
  unfold leS
  have e : (⟨#[]⟩ : ByteArray).toList = [] := by rw [ByteArray.toList_eq]
  rw [e]
  cases hs : s.toList with
  | nil => exact absurd hs h
  | cons a l => rfl
theorem payAt_last (h : l[i]? = some z) (h1 : keyOk (nb z.key) = true) : payAt l i = if leS z.key (lastP l i) then 7 else (if 500 < z.nn then 2 else fstE (numAt (hadN l i) z.nums) z.nn) := by
  simp only [payAt, h, Option.elim, h1, if_true]
  by_cases hi : 0 < i
  · have hl := (List.getElem?_eq_some_iff.1 h).1
    obtain ⟨b, hb⟩ : ∃ b, l[i - 1]? = some b := ⟨_, List.getElem?_eq_getElem (by omega)⟩
    have e : lastP l i = b.key := by unfold lastP; rw [if_neg (by omega), hb]; rfl
    simp only [hb, e, decide_eq_true hi, Bool.true_and]
  · have e : lastP l i = ⟨#[]⟩ := by unfold lastP; rw [if_pos (by omega)]
    rw [decide_eq_false hi, e, leS_nil (keyP_pos h1)]
    simp
end

/-! Classes, prices, payers. -/
def clsAt (l : List ClV) (s : List Nat) : Option ClV := l.find? (fun c => nb c.pre == s)
/-- The class of the longest prefix of at most k bytes. -/
def clsTo (l : List ClV) (s : List Nat) : Nat → Option ClV
  | 0 => clsAt l []
  | k + 1 => (clsAt l (s.take (k + 1))).or (clsTo l s k)
def clsOf (l : List ClV) (s : List Nat) : Option ClV := clsTo l s s.length
def priceOf (c : ClV) (talk : Int) : Int := if talk = 0 then 0 else c.setup + c.rate * ((max 0 (talk - c.first) + c.step - 1) / c.step)
def payerOf (l : List PyV) (s : List Nat) : Option PyV := l.find? (fun p => p.nums.any (fun x => nb x == s))
theorem clsTo_hit {l : List ClV} {s : List Nat} {k : Nat} {c : ClV} (h : clsAt l (s.take k) = some c) : clsTo l s k = some c := by
  cases k with
  | zero => rw [List.take_zero] at h; exact h
  | succ k => unfold clsTo; rw [h]; rfl
theorem clsTo_miss {l : List ClV} {s : List Nat} {k : Nat} (h : clsAt l (s.take (k + 1)) = none) : clsTo l s (k + 1) = clsTo l s k := by
  show (clsAt l (s.take (k + 1))).or (clsTo l s k) = _
  rw [h]; rfl
end
end Go.Proofs.YtfakdalpaopjaaaGreatDoor
/- Tariffs and payers: plain laws: right classes stand in their order, prices agree, right payers have each number once. Conditions: none. -/
namespace Go.Proofs.YtfakdalpaopjaaaGreatDoor
section

theorem fstE_all {f : Nat → Int} {n : Nat} (h : fstE f n = 0) : ∀ i, i < n → f i = 0 := by
  induction n with
  | zero => intro i hi; omega
  | succ n ih =>
    intro i hi
    unfold fstE at h
    by_cases h0 : fstE f n = 0
    · rw [if_pos h0] at h
      rcases Nat.lt_succ_iff_lt_or_eq.1 hi with h1 | h1
      · exact ih h0 i h1
      · subst h1; exact h
    · rw [if_neg h0] at h; exact absurd h h0

/-! Classes in their order. -/
def Srt (l : List ClV) : Prop := ∀ (i j : Nat) (a b : ClV), i < j → l[i]? = some a → l[j]? = some b → cmpS a.pre b.pre < 0
theorem srt_of {l : List ClV} (h : ∀ (i : Nat) (a b : ClV), l[i]? = some a → l[i + 1]? = some b → cmpS a.pre b.pre < 0) : Srt l := by
  intro i j a b hij ha hb
  induction j generalizing b with
  | zero => omega
  | succ j ih =>
    by_cases e : i = j
    · subst e; exact h i a b ha hb
    · have hj : j + 1 < l.length := (List.getElem?_eq_some_iff.1 hb).1
      have hc : l[j]? = some l[j] := List.getElem?_eq_getElem (by omega)
      exact cmpS_trans (ih l[j] (by omega) hc) (h j _ b hc hb)
theorem clAt_right {l : List ClV} {i : Nat} {c : ClV} (h : l[i]? = some c) (h0 : clAt l i = 0) : pfOk (nb c.pre) = true ∧ keyOk (nb c.name) = true ∧ clNum c = true ∧ ∀ b, 0 < i → l[i - 1]? = some b → leS c.pre b.pre = false := by
  cases h1 : pfOk (nb c.pre)
  · rw [clAt_3 h h1] at h0; exact absurd h0 (by decide)
  · cases h2 : keyOk (nb c.name)
    · rw [clAt_5 h h1 h2] at h0; exact absurd h0 (by decide)
    · cases h3 : clNum c
      · rw [clAt_1 h h1 h2 h3] at h0; exact absurd h0 (by decide)
      · refine ⟨rfl, rfl, rfl, fun b hi hb => ?_⟩
        cases h4 : leS c.pre b.pre
        · rfl
        · rw [clAt_7 h h1 h2 h3 hi hb h4] at h0; exact absurd h0 (by decide)
theorem tar_right {t : TfV} (hc : t.cl.length = t.cn) (h : tarE t = 0) : Srt t.cl ∧ ∀ c ∈ t.cl, clNum c = true := by
  unfold tarE at h
  by_cases h1 : 200 < t.cn
  · rw [if_pos h1] at h; exact absurd h (by decide)
  · rw [if_neg h1] at h
    by_cases h2 : fstE (clAt t.cl) t.cn = 0
    · have hall := fstE_all h2
      refine ⟨srt_of fun i a b ha hb => ?_, fun c hc2 => ?_⟩
      · have hl := (List.getElem?_eq_some_iff.1 hb).1
        obtain ⟨_, _, _, q⟩ := clAt_right hb (hall (i + 1) (by omega))
        have := q a (by omega) (by rw [Nat.add_sub_cancel]; exact ha)
        unfold leS at this
        rw [leS_cmp, decide_eq_false_iff_not] at this
        have e := cmpS_neg a.pre b.pre
        omega
      · obtain ⟨i, hi⟩ := List.mem_iff_getElem?.1 hc2
        have hl := (List.getElem?_eq_some_iff.1 hi).1
        exact (clAt_right hi (hall i (by omega))).2.2.1
    · rw [if_neg h2] at h; exact absurd h h2
theorem clNum_bd {c : ClV} (h : clNum c = true) : (0 ≤ c.setup ∧ c.setup ≤ 1000000) ∧ (0 ≤ c.rate ∧ c.rate ≤ 1000000) ∧ (0 ≤ c.first ∧ c.first ≤ 86400000) ∧ 1 ≤ c.step ∧ c.step ≤ 86400000 := by
  unfold clNum inB at h
  simp only [Bool.and_eq_true, decide_eq_true_eq] at h
  omega
/-- What a search finds in classes that stand in their order. -/
def Found (l : List ClV) (s : ByteArray) (i : Nat) (f : Bool) : Prop := i ≤ l.length ∧ ((f = true ∧ ∃ c, l[i]? = some c ∧ clsAt l (nb s) = some c) ∨ (f = false ∧ clsAt l (nb s) = none))
theorem found_of {l : List ClV} (hs : Srt l) {s : ByteArray} {i : Nat} (h1 : ∀ (j : Nat) (c : ClV), j < i → l[j]? = some c → cmpS c.pre s < 0) (h2 : ∀ (j : Nat) (c : ClV), i ≤ j → l[j]? = some c → ¬ cmpS c.pre s < 0) (hi : i ≤ l.length) :
    Found l s i ((l[i]?).elim false (fun c => cmpS c.pre s == 0)) := by
  refine ⟨hi, ?_⟩
  have low : ∀ (j : Nat) (c : ClV), j < i → l[j]? = some c → ¬ nb c.pre = nb s := fun j c hj hc e => by
    have := h1 j c hj hc
    rw [cmpS_zero.2 e] at this
    exact absurd this (by decide)
  cases hc : l[i]? with
  | none =>
    right
    refine ⟨rfl, ?_⟩
    unfold clsAt
    rw [List.find?_eq_none]
    intro c hm
    obtain ⟨j, hj⟩ := List.mem_iff_getElem?.1 hm
    have hjl := (List.getElem?_eq_some_iff.1 hj).1
    have hil : l.length ≤ i := List.getElem?_eq_none_iff.1 hc
    have := low j c (by omega) hj
    simpa using this
  | some c =>
    show ((cmpS c.pre s == 0) = true ∧ _) ∨ ((cmpS c.pre s == 0) = false ∧ _)
    by_cases e : cmpS c.pre s = 0
    · left
      refine ⟨by simpa using e, c, rfl, ?_⟩
      unfold clsAt
      rw [List.find?_eq_some_iff_getElem]
      obtain ⟨hl, hg⟩ := List.getElem?_eq_some_iff.1 hc
      refine ⟨by simpa using cmpS_zero.1 e, i, hl, hg, fun j hj => ?_⟩
      have := low j l[j] hj (List.getElem?_eq_getElem (by omega))
      simpa using this
    · right
      refine ⟨by simpa using e, ?_⟩
      unfold clsAt
      rw [List.find?_eq_none]
      intro c' hm
      obtain ⟨j, hj⟩ := List.mem_iff_getElem?.1 hm
      have hne : ¬ nb c'.pre = nb s := by
        rcases Nat.lt_trichotomy j i with h | h | h
        · exact low j c' h hj
        · subst h
          rw [hc] at hj
          injection hj with hj
          subst hj
          exact fun e2 => e (cmpS_zero.2 e2)
        · intro e2
          have h3 := hs i j c c' h hc hj
          rw [cmpS_eqr e2] at h3
          exact h2 i c (Nat.le_refl _) hc h3
      simpa using hne

/-! Prices. -/
def stepsOf (c : ClV) (talk : Int) : Int := if 0 < talk - c.first then (if 0 < (talk - c.first) % c.step then (talk - c.first) / c.step + 1 else (talk - c.first) / c.step) else 0
theorem steps_eq {c : ClV} (h : 1 ≤ c.step) (talk : Int) : stepsOf c talk = (max 0 (talk - c.first) + c.step - 1) / c.step := by
  unfold stepsOf
  by_cases h0 : 0 < talk - c.first
  · rw [if_pos h0]
    generalize talk - c.first = v at *
    rw [show max 0 v = v by omega]
    have hd := Int.mul_ediv_add_emod v c.step
    have hm1 := Int.emod_nonneg v (show c.step ≠ 0 by omega)
    have hm2 := Int.emod_lt_of_pos v (show 0 < c.step by omega)
    generalize v / c.step = q at *
    generalize v % c.step = r at *
    by_cases hr : 0 < r
    · rw [if_pos hr]
      symm
      rw [show v + c.step - 1 = (r - 1) + c.step * (q + 1) by rw [Int.mul_add]; omega, Int.add_mul_ediv_left _ _ (by omega), Int.ediv_eq_zero_of_lt (by omega) (by omega)]
      omega
    · rw [if_neg hr]
      symm
      rw [show v + c.step - 1 = (c.step - 1) + c.step * q by omega, Int.add_mul_ediv_left _ _ (by omega), Int.ediv_eq_zero_of_lt (by omega) (by omega)]
      omega
  · rw [if_neg h0, show max 0 (talk - c.first) = 0 by omega]
    symm
    exact Int.ediv_eq_zero_of_lt (by omega) (by omega)
theorem steps_bd {c : ClV} (h : clNum c = true) {talk : Int} (h1 : 0 ≤ talk) (h2 : talk ≤ 86400000) : 0 ≤ stepsOf c talk ∧ stepsOf c talk ≤ 86400000 := by
  obtain ⟨_, _, b3, b4, b5⟩ := clNum_bd h
  rw [steps_eq b4]
  constructor
  · exact Int.ediv_nonneg (by omega) (by omega)
  · have := Int.ediv_lt_of_lt_mul (a := max 0 (talk - c.first) + c.step - 1) (b := 86400001) (c := c.step) (by omega) (by omega)
    omega
theorem price_bd {c : ClV} (h : clNum c = true) {talk : Int} (h1 : 0 ≤ talk) (h2 : talk ≤ 86400000) : 0 ≤ c.rate * stepsOf c talk ∧ c.rate * stepsOf c talk ≤ 86400000000000 := by
  obtain ⟨_, b2, _⟩ := clNum_bd h
  obtain ⟨s1, s2⟩ := steps_bd h h1 h2
  refine ⟨Int.mul_nonneg b2.1 s1, ?_⟩
  have := Int.mul_le_mul b2.2 s2 s1 (by omega)
  omega

/-! Payers. -/
def pairsOf (l : List PyV) : List (ByteArray × ByteArray) := l.flatMap fun p => p.nums.map fun n => (n, p.key)
def lastOf (ps : List (ByteArray × ByteArray)) (k : ByteArray) : Option ByteArray := (ps.reverse.find? fun p => nb p.1 == nb k).map (·.2)
theorem lastOf_snoc (ps : List (ByteArray × ByteArray)) (n v k : ByteArray) : lastOf (ps ++ [(n, v)]) k = if nb n = nb k then some v else lastOf ps k := by
  unfold lastOf
  rw [List.reverse_append]
  show (List.find? _ ((n, v) :: ps.reverse)).map _ = _
  rw [List.find?_cons]
  by_cases e : nb n = nb k
  · rw [if_pos e]
    have : (nb (n, v).1 == nb k) = true := by simpa using e
    rw [this]; rfl
  · rw [if_neg e]
    have : (nb (n, v).1 == nb k) = false := by simpa using e
    rw [this]
def Dist (l : List ByteArray) : Prop := l.Pairwise fun a b => nb a ≠ nb b
theorem find_one (p : ByteArray × ByteArray) (ps : List (ByteArray × ByteArray)) (k : ByteArray) : (p :: ps).find? (fun p => nb p.1 == nb k) = if nb p.1 = nb k then some p else ps.find? (fun p => nb p.1 == nb k) := by
  rw [List.find?_cons]
  by_cases e : nb p.1 = nb k
  · rw [if_pos e, beq_iff_eq.2 e]
  · rw [if_neg e, beq_eq_false_iff_ne.2 e]
theorem find_rev {ps : List (ByteArray × ByteArray)} (h : Dist (ps.map (·.1))) (k : ByteArray) : ps.reverse.find? (fun p => nb p.1 == nb k) = ps.find? (fun p => nb p.1 == nb k) := by
  induction ps with
  | nil => rfl
  | cons p ps ih =>
    unfold Dist at h
    rw [List.map_cons, List.pairwise_cons] at h
    rw [List.reverse_cons, List.find?_append, ih h.2, find_one, find_one]
    by_cases e : nb p.1 = nb k
    · have e2 : ps.find? (fun p => nb p.1 == nb k) = none := by
        rw [List.find?_eq_none]
        intro q hq
        have := h.1 q.1 (List.mem_map.2 ⟨q, hq, rfl⟩)
        rw [e] at this
        simpa using fun h2 : nb q.1 = nb k => this h2.symm
      rw [e2, if_pos e, if_pos e]
      rfl
    · rw [if_neg e, if_neg e]
      exact Option.or_none
theorem memS_false {L : List ByteArray} {s : ByteArray} (h : memS L s = false) : ∀ x ∈ L, nb x ≠ nb s := by
  intro x hx
  unfold memS at h
  rw [List.any_eq_false] at h
  simpa using h x hx
theorem nums_dist {had : List ByteArray} (hd : Dist had) {ns : List ByteArray} (h : ∀ j, j < ns.length → numAt had ns j = 0) : Dist (had ++ ns) := by
  have step : ∀ k, k ≤ ns.length → Dist (had ++ ns.take k) := by
    intro k
    induction k with
    | zero => intro _; rw [List.take_zero, List.append_nil]; exact hd
    | succ k ih =>
      intro hk
      have hs : ns[k]? = some ns[k] := List.getElem?_eq_getElem (by omega)
      have h0 := h k (by omega)
      cases h1 : phOk (nb ns[k])
      · rw [numAt_3 hs h1] at h0; exact absurd h0 (by decide)
      · cases h2 : memS (had ++ ns.take k) ns[k]
        · rw [take_snoc' hs, ← List.append_assoc]
          unfold Dist
          rw [List.pairwise_append]
          refine ⟨ih (by omega), List.pairwise_singleton _ _, fun a ha b hb => ?_⟩
          rw [List.mem_singleton.1 hb]
          exact memS_false h2 a ha
        · rw [numAt_6 hs h1 h2] at h0; exact absurd h0 (by decide)
  have := step ns.length (Nat.le_refl _)
  rwa [List.take_of_length_le (Nat.le_refl _)] at this
theorem pays_dist {l : List PyV} (hn : ∀ p ∈ l, p.nums.length = p.nn) (h : pysE l = 0) : Dist (l.flatMap (·.nums)) := by
  unfold pysE at h
  by_cases h1 : 500 < l.length
  · rw [if_pos h1] at h; exact absurd h (by decide)
  · rw [if_neg h1] at h
    have hall := fstE_all h
    have step : ∀ k, k ≤ l.length → Dist (hadN l k) := by
      intro k
      induction k with
      | zero => intro _; exact List.Pairwise.nil
      | succ k ih =>
        intro hk
        have hs : l[k]? = some l[k] := List.getElem?_eq_getElem (by omega)
        rw [hadN_succ hs]
        refine nums_dist (ih (by omega)) ?_
        rw [hn _ (List.getElem_mem _)]
        have h0 := hall k (by omega)
        cases h2 : keyOk (nb l[k].key)
        · rw [payAt_5 hs h2] at h0; exact absurd h0 (by decide)
        · rw [payAt_last hs h2] at h0
          split at h0
          · exact absurd h0 (by decide)
          · split at h0
            · exact absurd h0 (by decide)
            · exact fstE_all h0
    have := step l.length (Nat.le_refl _)
    unfold hadN at this
    rwa [List.take_of_length_le (Nat.le_refl _)] at this
theorem pairs_keys (l : List PyV) : (pairsOf l).map (·.1) = l.flatMap (·.nums) := by
  unfold pairsOf
  rw [List.map_flatMap]
  congr 1
  funext p
  rw [List.map_map]
  exact List.map_id _
theorem pairs_find (l : List PyV) (k : ByteArray) : ((pairsOf l).find? (fun p => nb p.1 == nb k)).map (·.2) = (payerOf l (nb k)).map (·.key) := by
  induction l with
  | nil => rfl
  | cons p l ih =>
    have e0 : pairsOf (p :: l) = (p.nums.map fun n => (n, p.key)) ++ pairsOf l := by unfold pairsOf; rw [List.flatMap_cons]
    rw [e0, List.find?_append]
    unfold payerOf at ih ⊢
    rw [List.find?_cons, List.find?_map]
    show (((p.nums.find? (fun n => nb n == nb k)).map fun n => (n, p.key)).or _).map _ = _
    cases h : p.nums.find? (fun n => nb n == nb k) with
    | none =>
      have : p.nums.any (fun x => nb x == nb k) = false := by
        rw [List.any_eq_false]
        intro x hx
        exact List.find?_eq_none.1 h x hx
      rw [this]
      exact ih
    | some n =>
      have : p.nums.any (fun x => nb x == nb k) = true := by
        rw [List.any_eq_true]
        exact ⟨n, List.mem_of_find?_eq_some h, by have := List.find?_some h; exact this⟩
      rw [this]
      rfl
/-- Right payers: who was put last under a number is the first one who has it. -/
theorem payer_last {l : List PyV} (hn : ∀ p ∈ l, p.nums.length = p.nn) (h : pysE l = 0) (k : ByteArray) : lastOf (pairsOf l) k = (payerOf l (nb k)).map (·.key) := by
  unfold lastOf
  rw [find_rev (by rw [pairs_keys]; exact pays_dist hn h), pairs_find]
end
end Go.Proofs.YtfakdalpaopjaaaGreatDoor
/- Records as they lie in memory, and what is wrong with them; what is charged, in plain Lean. Conditions: none. -/
namespace Go.Proofs.YtfakdalpaopjaaaGreatDoor
section
open Go.RowKit

/-- A record. -/
structure RcV where
  id : ByteArray
  frm : ByteArray
  too : ByteArray
  at_ : Int
  ring : Int
  talk : Int
  how : Int
  car : ByteArray
def RcV.row (r : RcV) : List Value := [.string r.id, .string r.frm, .string r.too, .int .i64 r.at_, .int .i64 r.ring, .int .i64 r.talk, .int .i64 r.how, .string r.car]
theorem RcV.row_len (r : RcV) : r.row.length = 8 := rfl
/-- What is known of a record whatever its errors. -/
def RcOk (r : RcV) : Prop := r.id.size ≤ 1000 ∧ r.frm.size ≤ 1000 ∧ r.too.size ≤ 1000 ∧ r.car.size ≤ 1000 ∧ -1152921504606846976 ≤ r.at_ ∧ r.at_ ≤ 1152921504606846976
def Rcs (w : World) (lo : Nat) (A : Option Addr) (n c : Nat) (l : List RcV) : Prop := Recs RcV.row 8 w lo A n c l ∧ ∀ r ∈ l, RcOk r
theorem Rcs.grown {w w' : World} {lo : Nat} {A : Option Addr} {n c : Nat} {l : List RcV} (h : Rcs w lo A n c l) {r : Option Nat} (hg : w.grownBy w' r) (hr : ∀ g, r = some g → g < lo) : Rcs w' lo A n c l := ⟨h.1.grown hg hr, h.2⟩
/-- The same with longer strings (what is read of a text). -/
def RcOkL (r : RcV) : Prop := r.id.size ≤ 1000000 ∧ r.frm.size ≤ 1000000 ∧ r.too.size ≤ 1000000 ∧ r.car.size ≤ 1000000 ∧ -1152921504606846976 ≤ r.at_ ∧ r.at_ ≤ 1152921504606846976
theorem RcOk.l {r : RcV} (h : RcOk r) : RcOkL r := ⟨Nat.le_trans h.1 (by decide), Nat.le_trans h.2.1 (by decide), Nat.le_trans h.2.2.1 (by decide), Nat.le_trans h.2.2.2.1 (by decide), h.2.2.2.2⟩
def RcsL (w : World) (lo : Nat) (A : Option Addr) (n c : Nat) (l : List RcV) : Prop := Recs RcV.row 8 w lo A n c l ∧ ∀ r ∈ l, RcOkL r
theorem Rcs.l {w : World} {lo : Nat} {A : Option Addr} {n c : Nat} {l : List RcV} (h : Rcs w lo A n c l) : RcsL w lo A n c l := ⟨h.1, fun r hr => (h.2 r hr).l⟩
/-- The order of records. -/
def rcCmp (a b : RcV) : Int := if a.at_ = b.at_ then cmpS a.id b.id else if a.at_ < b.at_ then -1 else 1
def rcNum (r : RcV) : Bool := momB r.at_ && inB r.ring 0 86400000 && inB r.talk 0 86400000
def rcCar (r : RcV) : Bool := decide (nb r.car = []) || keyOk (nb r.car)
def rcAt (l : List RcV) (i : Nat) : Int := (l[i]?).elim 0 fun r =>
  if keyOk (nb r.id) then (if phOk (nb r.frm) && phOk (nb r.too) then (if rcNum r then (if inB r.how 1 4 then (if (r.how == 1) == decide (0 < r.talk) then (if rcCar r then
    (if decide (0 < i) && (l[i - 1]?).elim false (fun b => decide (0 ≤ rcCmp b r)) then 7 else 0) else 5) else 3) else 4) else 1) else 3) else 5
/-- Has one of the first k records an Id that an earlier one has? -/
def dupB (l : List RcV) : Nat → Bool
  | 0 => false
  | k + 1 => dupB l k || (l[k]?).elim false (fun r => memS ((l.take k).map (·.id)) r.id)
def rcsE (l : List RcV) : Int := if 3000 < l.length then 2 else if fstE (rcAt l) l.length = 0 then (if dupB l l.length then 6 else 0) else fstE (rcAt l) l.length
section
variable {l : List RcV} {i : Nat} {z b : RcV}
theorem rcAt_5 (h : l[i]? = some z) (h1 : keyOk (nb z.id) = false) : rcAt l i = 5 := by simp only [rcAt, h, Option.elim, h1]; rfl
theorem rcAt_3 (h : l[i]? = some z) (h1 : keyOk (nb z.id) = true) (h2 : (phOk (nb z.frm) && phOk (nb z.too)) = false) : rcAt l i = 3 := by simp only [rcAt, h, Option.elim, h1, h2]; rfl
theorem rcAt_1 (h : l[i]? = some z) (h1 : keyOk (nb z.id) = true) (h2 : (phOk (nb z.frm) && phOk (nb z.too)) = true) (h3 : rcNum z = false) : rcAt l i = 1 := by simp only [rcAt, h, Option.elim, h1, h2, h3]; rfl
theorem rcAt_4 (h : l[i]? = some z) (h1 : keyOk (nb z.id) = true) (h2 : (phOk (nb z.frm) && phOk (nb z.too)) = true) (h3 : rcNum z = true) (h4 : inB z.how 1 4 = false) : rcAt l i = 4 := by simp only [rcAt, h, Option.elim, h1, h2, h3, h4]; rfl
theorem rcAt_3b (h : l[i]? = some z) (h1 : keyOk (nb z.id) = true) (h2 : (phOk (nb z.frm) && phOk (nb z.too)) = true) (h3 : rcNum z = true) (h4 : inB z.how 1 4 = true) (h5 : ((z.how == 1) == decide (0 < z.talk)) = false) : rcAt l i = 3 := by
  simp only [rcAt, h, Option.elim, h1, h2, h3, h4, h5]; rfl
theorem rcAt_5b (h : l[i]? = some z) (h1 : keyOk (nb z.id) = true) (h2 : (phOk (nb z.frm) && phOk (nb z.too)) = true) (h3 : rcNum z = true) (h4 : inB z.how 1 4 = true) (h5 : ((z.how == 1) == decide (0 < z.talk)) = true) (h6 : rcCar z = false) : rcAt l i = 5 := by
  simp only [rcAt, h, Option.elim, h1, h2, h3, h4, h5, h6]; rfl
theorem rcAt_7 (h : l[i]? = some z) (h1 : keyOk (nb z.id) = true) (h2 : (phOk (nb z.frm) && phOk (nb z.too)) = true) (h3 : rcNum z = true) (h4 : inB z.how 1 4 = true) (h5 : ((z.how == 1) == decide (0 < z.talk)) = true) (h6 : rcCar z = true) (hi : 0 < i) (hb : l[i - 1]? = some b) (h7 : 0 ≤ rcCmp b z) : rcAt l i = 7 := by
  simp only [rcAt, h, Option.elim, h1, h2, h3, h4, h5, h6, hb, decide_eq_true hi, decide_eq_true h7]; rfl
theorem rcAt_e (h : l[i]? = some z) (h1 : keyOk (nb z.id) = true) (h2 : (phOk (nb z.frm) && phOk (nb z.too)) = true) (h3 : rcNum z = true) (h4 : inB z.how 1 4 = true) (h5 : ((z.how == 1) == decide (0 < z.talk)) = true) (h6 : rcCar z = true) (hb : l[i - 1]? = some b) (h7 : ¬ 0 ≤ rcCmp b z) : rcAt l i = 0 := by
  simp only [rcAt, h, Option.elim, h1, h2, h3, h4, h5, h6, hb, decide_eq_false h7, Bool.and_false]; rfl
theorem rcAt_z (h : l[i]? = some z) (h1 : keyOk (nb z.id) = true) (h2 : (phOk (nb z.frm) && phOk (nb z.too)) = true) (h3 : rcNum z = true) (h4 : inB z.how 1 4 = true) (h5 : ((z.how == 1) == decide (0 < z.talk)) = true) (h6 : rcCar z = true) (hi : ¬ 0 < i) : rcAt l i = 0 := by
  simp only [rcAt, h, Option.elim, h1, h2, h3, h4, h5, h6, decide_eq_false hi, Bool.false_and]; rfl
end
/-- How many of the first k records have an Id of their own. -/
def ownC (l : List RcV) : Nat → Nat
  | 0 => 0
  | k + 1 => if (l[k]?).elim false (fun r => memS ((l.take k).map (·.id)) r.id) then ownC l k else ownC l k + 1
theorem ownC_le (l : List RcV) (k : Nat) : ownC l k ≤ k := by
  induction k with
  | zero => exact Nat.le_refl _
  | succ k ih => unfold ownC; split <;> omega
theorem ownC_dup (l : List RcV) (k : Nat) : decide (ownC l k < k) = dupB l k := by
  induction k with
  | zero => rfl
  | succ k ih =>
    unfold ownC dupB
    rw [← ih]
    have := ownC_le l k
    cases (l[k]?).elim false (fun r => memS ((l.take k).map (·.id)) r.id)
    · rw [if_neg (by decide), Bool.or_false, Bool.eq_iff_iff, decide_eq_true_eq, decide_eq_true_eq]; omega
    · rw [if_pos rfl, Bool.or_true, decide_eq_true_eq]; omega

/-! What is charged. -/
/-- A charge. -/
structure ChV where
  rec_ : ByteArray
  pay : ByteArray
  cls : ByteArray
  free : Int
  cost : Int
def ChV.row (c : ChV) : List Value := [.string c.rec_, .string c.pay, .string c.cls, .int .i64 c.free, .int .i64 c.cost]
theorem ChV.row_len (c : ChV) : c.row.length = 5 := rfl
section
variable {t : TfV} {p : List PyV} {month : Int} {l : List RcV} {k : Nat} {r : RcV}
end
end
end Go.Proofs.YtfakdalpaopjaaaGreatDoor

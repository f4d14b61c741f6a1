/- strings.Trim at the signs of keys, the document's 'only'; what a key is: number.IsKey and the document's Key; moments. Conditions: none. -/
import Derived.Test.YtgogiljplnninaaGreatDoorBun1
import Derived.Test.YtgogiljplnninaaGreatDoorShelfTrim
import Derived.Laws.Cover1
import Derived.WalkKit
import Derived.Deep.QuietTactic
import Derived.BigQuiet
import Derived.Lib.TrimByte
import Derived.Lib.IndexMore
import Derived.Shelf.GgClosure.StringsIndexFunc
import Derived.Laws.RangeString
import Derived.Laws.StructEq
namespace Go.Proofs.YtgogiljplnninaaGreatDoor
section
open Go.RowKit

/-! The first place of a byte, or -1. -/
def ixS (l : List Nat) (c : Nat) : Int := if c ∈ l then ((l.takeWhile (· != c)).length : Int) else -1
theorem ixS_eq (l : List UInt8) (c : Nat) (hc : c < 256) : Lib.indexByte l c.toUInt8 = ixS (l.map UInt8.toNat) c := by
  induction l with
  | nil => simp [Lib.indexByte, ixS]
  | cons b l ih =>
    have hb : (b == c.toUInt8) = (b.toNat == c) := by
      rw [Bool.eq_iff_iff, beq_iff_eq, beq_iff_eq]
      constructor
      · rintro rfl; simp [Nat.mod_eq_of_lt hc]
      · rintro rfl; simp
    unfold Lib.indexByte
    rw [ih, hb]
    unfold ixS
    by_cases h : b.toNat = c
    · simp [h]
    · have h' : (b.toNat == c) = false := by simpa using h
      rw [h']
      have hm : (c ∈ (b :: l).map UInt8.toNat) ↔ c ∈ l.map UInt8.toNat := by simp [Ne.symm h]
      by_cases h2 : c ∈ l.map UInt8.toNat
      · rw [if_pos h2, if_pos (hm.2 h2)]
        have h3 : (b.toNat != c) = true := by simpa using h
        simp only [List.map_cons, List.takeWhile_cons, h3, if_true, List.length_cons]
        have : ((((l.map UInt8.toNat).takeWhile (· != c)).length : Int) == -1) = false := by
          rw [beq_eq_false_iff_ne]; omega
        rw [this]
        simp
      · rw [if_neg h2, if_neg (fun h3 => h2 (hm.1 h3))]
        simp
theorem ixS_mem {l : List Nat} {c : Nat} : (0 ≤ ixS l c ↔ c ∈ l) ∧ (ixS l c < 0 ↔ ¬ c ∈ l) := by
  unfold ixS
  by_cases h : c ∈ l
  · rw [if_pos h]; exact ⟨⟨fun _ => h, fun _ => by omega⟩, ⟨fun h2 => by omega, fun h2 => absurd h h2⟩⟩
  · rw [if_neg h]; exact ⟨⟨fun h2 => by omega, fun h2 => absurd h2 h⟩, ⟨fun _ => h, fun _ => by omega⟩⟩
theorem ixS_any (s : ByteArray) (c : Nat) (w : World) (hc : c < 256) : Calls Tryz.prog 157 #[.string s, .int .u8 c] w (Same (.int .i64 (ixS (nb s) c)) w) := by
  refine (indexByte_any s c w).mono ?_
  rintro e w' ⟨rfl, rfl⟩
  refine ⟨?_, rfl⟩
  rw [Int.toNat_natCast, ixS_eq _ _ hc]
  rfl
set_option maxHeartbeats 2000000 in
theorem onlyS_any (s u : ByteArray) (w : World) (hs : s.size ≤ 1000000000) : Calls Tryz.prog 110 #[.string s, .string u] w (Same (.bool ((nb s).all (fun b => decide (b ∈ nb u)))) w) := by
  go_enter Tryz.func110, Tryz.ntmps110
  go_wp2_with fail
  go_loop [5, 8] (fun _ t => ∃ i : Nat, i ≤ s.size ∧ t = .int .i64 i ∧ ∀ j, j < i → (nb s).getD j 0 ∈ nb u) (fun _ t => s.size - (intOf t).toNat)
  case atStart => exact ⟨0, Nat.zero_le _, rfl, fun j hj => by omega⟩
  case round =>
    obtain ⟨i, hi, rfl, hin⟩ := hrel
    have HIN := Lib.hid hin; clear hin
    by_cases hil : i < s.size
    · obtain ⟨q, hq⟩ : ∃ q, s[i].toNat = q := ⟨_, rfl⟩
      have q256 : q < 256 := by rw [← hq]; exact UInt8.toNat_lt _
      have HQ := Lib.hid (show (nb s).getD i 0 = q by rw [← nb_get hil, hq])
      obtain ⟨z, hz⟩ : ∃ z, ixS (nb u) q = z := ⟨_, rfl⟩
      have HZ := Lib.hid hz
      have hi0 := ixS_mem (l := nb u) (c := q)
      rw [hz] at hi0
      clear hz
      by_cases hz0 : z < 0
      · have HF := Lib.hid (show (nb s).all (fun b => decide (b ∈ nb u)) = false by
          rw [List.all_eq_false]
          have hl : i < (nb s).length := by rw [nb_len]; exact hil
          refine ⟨q, ?_, by simpa using hi0.2.1 hz0⟩
          rw [← HQ.out, List.getD_eq_getElem?_getD, List.getElem?_eq_getElem hl]
          exact List.getElem_mem _)
        clear hi0
        go_wp2_with (first
          | (go_at_call 157; refine (ixS_any u q _ q256).mono ?_; rintro e w' ⟨rfl, rfl⟩; rw [HZ.out])
          | fail)
        go_ret
        exact ⟨by rw [HF.out]; rfl, rfl⟩
      · have HN := Lib.hid (hi0.1.1 (by omega))
        clear hi0
        go_wp2_with (first
          | (go_at_call 157; refine (ixS_any u q _ q256).mono ?_; rintro e w' ⟨rfl, rfl⟩; rw [HZ.out])
          | fail)
        go_round
        case rel => exact ⟨i + 1, by omega, by go_num, fun j hj => by
          rcases Nat.lt_succ_iff_lt_or_eq.1 hj with h1 | h1
          · exact HIN.out j h1
          · subst h1; rw [HQ.out]; exact HN.out⟩
        case measure => simp [intOf]; omega
    · obtain rfl : i = s.size := by omega
      have HT := Lib.hid (show (nb s).all (fun b => decide (b ∈ nb u)) = true by
        rw [List.all_eq_true]
        intro b hb
        obtain ⟨k, hk, rfl⟩ := List.mem_iff_getElem.1 hb
        have := HIN.out k (by rw [nb_len] at hk; exact hk)
        rw [List.getD_eq_getElem?_getD, List.getElem?_eq_getElem hk] at this
        exact decide_eq_true this)
      have d0 : decide ((s.size : Int) < (s.size : Int)) = false := decide_eq_false (by omega)
      go_wp2_with fail
      go_ret
      exact ⟨by rw [HT.out]; rfl, rfl⟩

/-! Trimmed strings. -/
theorem tr_head {p : UInt8 → Bool} {l : List UInt8} {a : UInt8} {r : List UInt8} (h : l.dropWhile p = a :: r) : p a = false := by
  induction l with
  | nil => cases h
  | cons b l ih =>
    rw [List.dropWhile_cons] at h
    split at h
    · exact ih h
    · rename_i hp
      injection h with h1 h2
      subst h1
      simpa using hp
theorem tr_all {p : UInt8 → Bool} {l : List UInt8} : l.dropWhile p = [] ↔ ∀ a ∈ l, p a = true := by
  induction l with
  | nil => simp
  | cons b l ih =>
    rw [List.dropWhile_cons]
    by_cases hp : p b = true
    · rw [if_pos hp, ih]; simp [hp]
    · rw [if_neg hp]; simp [hp]
theorem tr_nil (l cs : List UInt8) : Lib.trimS l cs = [] ↔ ∀ b ∈ l, cs.contains b = true := by
  unfold Lib.trimS Lib.trimLeftS Lib.trimRightS
  rw [tr_all]
  constructor
  · intro h
    cases hd : l.reverse.dropWhile (cs.contains ·) with
    | nil =>
      have := tr_all.1 hd
      intro b hb
      exact this b (by simpa using hb)
    | cons a r =>
      exfalso
      have h1 := tr_head hd
      have h2 := h a (by rw [hd]; simp)
      rw [h1] at h2
      cases h2
  · intro h
    have : l.reverse.dropWhile (cs.contains ·) = [] := tr_all.2 (fun a ha => h a (by simpa using ha))
    rw [this]
    simp
/-- A string is trimmed to nothing just if it has no other signs. -/
theorem tr_only (s : ByteArray) (cs : List UInt8) : (Lib.trimS s.data.toList cs = []) ↔ (nb s).all (fun b => decide (b ∈ cs.map UInt8.toNat)) = true := by
  rw [tr_nil, List.all_eq_true]
  unfold nb
  have hin : ∀ u : UInt8, cs.contains u = true ↔ u.toNat ∈ cs.map UInt8.toNat := fun u => by
    rw [List.contains_iff_mem]
    constructor
    · intro h; exact List.mem_map.2 ⟨u, h, rfl⟩
    · intro h
      obtain ⟨v, hv, he⟩ := List.mem_map.1 h
      rw [← UInt8.toNat_inj.1 he]; exact hv
  constructor
  · intro h b hb
    obtain ⟨u, hu, rfl⟩ := List.mem_map.1 hb
    exact decide_eq_true ((hin u).1 (h u hu))
  · intro h u hu
    exact (hin u).2 (of_decide_eq_true (h _ (List.mem_map.2 ⟨u, hu, rfl⟩)))

/-! Keys. -/
def keySigns : List Nat := [97, 98, 99, 100, 101, 102, 103, 104, 105, 106, 107, 108, 109, 110, 111, 112, 113, 114, 115, 116, 117, 118, 119, 120, 121, 122, 48, 49, 50, 51, 52, 53, 54, 55, 56, 57, 45, 95]
def smallSigns : List Nat := [97, 98, 99, 100, 101, 102, 103, 104, 105, 106, 107, 108, 109, 110, 111, 112, 113, 114, 115, 116, 117, 118, 119, 120, 121, 122]
def keyOk (l : List Nat) : Bool := decide (1 ≤ l.length) && decide (l.length ≤ 40) && decide (97 ≤ l.getD 0 0) && decide (l.getD 0 0 ≤ 122) && l.all (fun b => decide (b ∈ keySigns))
set_option maxRecDepth 100000 in
theorem trimKey_any (s : ByteArray) (w : World) (hs : s.size ≤ 1000000) : Calls Tryz.prog 126 #[.string s, .string ⟨#[97, 98, 99, 100, 101, 102, 103, 104, 105, 106, 107, 108, 109, 110, 111, 112, 113, 114, 115, 116, 117, 118, 119, 120, 121, 122, 48, 49, 50, 51, 52, 53, 54, 55, 56, 57, 45, 95]⟩] w
    (RetV (.string ⟨(Lib.trimS s.data.toList [97, 98, 99, 100, 101, 102, 103, 104, 105, 106, 107, 108, 109, 110, 111, 112, 113, 114, 115, 116, 117, 118, 119, 120, 121, 122, 48, 49, 50, 51, 52, 53, 54, 55, 56, 57, 45, 95]).toArray⟩) w) := by
  refine (Any.strings_Trim_laid Tryz.lays160 (by kernel_rfl) s ⟨#[97, 98, 99, 100, 101, 102, 103, 104, 105, 106, 107, 108, 109, 110, 111, 112, 113, 114, 115, 116, 117, 118, 119, 120, 121, 122, 48, 49, 50, 51, 52, 53, 54, 55, 56, 57, 45, 95]⟩ w (by omega) (by decide) (ascii_of_all (by decide))).mono ?_
  rintro e w' ⟨rfl, hb⟩
  exact ⟨rfl, gr_below hb none⟩
set_option maxHeartbeats 2000000 in
set_option maxRecDepth 100000 in
theorem isKey_any (s : ByteArray) (w : World) (hs : s.size ≤ 1000000) : Calls Tryz.prog 61 #[.string s] w (RetV (.bool (keyOk (nb s))) w) := by
  have hlen := nb_len s
  by_cases h1 : 1 ≤ s.size
  · have q1 : decide ((1 : Int) ≤ (s.size : Int)) = true := decide_eq_true (by omega)
    by_cases h2 : s.size ≤ 40
    · have q2 : decide ((s.size : Int) ≤ 40) = true := decide_eq_true (by omega)
      obtain ⟨b, hb⟩ : ∃ b, s[0].toNat = b := ⟨_, rfl⟩
      have hb0 : (nb s).getD 0 0 = b := by rw [← nb_get (by omega), hb]
      have HD := Lib.hid (show keyOk (nb s) = (decide (97 ≤ b) && decide (b ≤ 122) && (nb s).all (fun b => decide (b ∈ keySigns))) by
        unfold keyOk; rw [hlen, decide_eq_true h1, decide_eq_true h2, hb0]; simp only [Bool.true_and])
      clear hlen hb0
      by_cases h3 : 97 ≤ b
      · have q3 : decide ((97 : Int) ≤ (b : Int)) = true := decide_eq_true (by omega)
        by_cases h4 : b ≤ 122
        · have q4 : decide ((b : Int) ≤ 122) = true := decide_eq_true (by omega)
          obtain ⟨u, hu⟩ : ∃ u : ByteArray, (⟨(Lib.trimS s.data.toList [97, 98, 99, 100, 101, 102, 103, 104, 105, 106, 107, 108, 109, 110, 111, 112, 113, 114, 115, 116, 117, 118, 119, 120, 121, 122, 48, 49, 50, 51, 52, 53, 54, 55, 56, 57, 45, 95]).toArray⟩ : ByteArray) = u := ⟨_, rfl⟩
          have HU := Lib.hid hu
          obtain ⟨B, hB⟩ : ∃ B, (nb s).all (fun b => decide (b ∈ keySigns)) = B := ⟨_, rfl⟩
          have HB := Lib.hid (show keyOk (nb s) = B by rw [HD.out, decide_eq_true h3, decide_eq_true h4, hB]; rfl)
          have hul : u.toList = Lib.trimS s.data.toList [97, 98, 99, 100, 101, 102, 103, 104, 105, 106, 107, 108, 109, 110, 111, 112, 113, 114, 115, 116, 117, 118, 119, 120, 121, 122, 48, 49, 50, 51, 52, 53, 54, 55, 56, 57, 45, 95] := by rw [← hu]; exact ByteArray.toList_mk _
          cases B
          · have q3 : ¬ u.toList = [] := fun h => by
              rw [hul, tr_only] at h
              have : (nb s).all (fun b => decide (b ∈ keySigns)) = true := h
              rw [hB] at this; cases this
            have q4 : (u.toList == []) = false := by rw [beq_eq_false_iff_ne]; exact q3
            have q5 : u.toList.isEmpty = false := by rw [List.isEmpty_eq_false_iff]; exact q3
            clear hu hB hul q3
            go_enter Tryz.func61, Tryz.ntmps61
            go_wp2_with (first
              | (go_at_call 126; refine (trimKey_any s _ hs).mono ?_; rintro e w' ⟨rfl, hg⟩; rw [HU.out]; have HG := Lib.hid hg; clear hg)
              | fail)
            go_ret
            exact ⟨by rw [HB.out]; rfl, HG.out⟩
          · have q3 : u.toList = [] := by rw [hul, tr_only]; exact hB
            clear hu hB hul
            go_enter Tryz.func61, Tryz.ntmps61
            go_wp2_with (first
              | (go_at_call 126; refine (trimKey_any s _ hs).mono ?_; rintro e w' ⟨rfl, hg⟩; rw [HU.out]; have HG := Lib.hid hg; clear hg)
              | fail)
            go_ret
            exact ⟨by rw [HB.out]; rfl, HG.out⟩
        · have q4 : decide ((b : Int) ≤ 122) = false := decide_eq_false (by omega)
          have HB := Lib.hid (show keyOk (nb s) = false by rw [HD.out, decide_eq_false h4]; simp)
          go_enter Tryz.func61, Tryz.ntmps61
          go_wp2_with fail
          go_ret
          exact ⟨by rw [HB.out]; rfl, gr_refl _ _⟩
      · have q3 : decide ((97 : Int) ≤ (b : Int)) = false := decide_eq_false (by omega)
        have HB := Lib.hid (show keyOk (nb s) = false by rw [HD.out, decide_eq_false h3]; simp)
        go_enter Tryz.func61, Tryz.ntmps61
        go_wp2_with fail
        go_ret
        exact ⟨by rw [HB.out]; rfl, gr_refl _ _⟩
    · have q2 : decide ((s.size : Int) ≤ 40) = false := decide_eq_false (by omega)
      have HB := Lib.hid (show keyOk (nb s) = false by unfold keyOk; rw [hlen, decide_eq_false h2]; simp)
      clear hlen
      go_enter Tryz.func61, Tryz.ntmps61
      go_wp2_with fail
      go_ret
      exact ⟨by rw [HB.out]; rfl, gr_refl _ _⟩
  · have q1 : decide ((1 : Int) ≤ (s.size : Int)) = false := decide_eq_false (by omega)
    have HB := Lib.hid (show keyOk (nb s) = false by unfold keyOk; rw [hlen, decide_eq_false h1]; simp)
    clear hlen
    go_enter Tryz.func61, Tryz.ntmps61
    go_wp2_with fail
    go_ret
    exact ⟨by rw [HB.out]; rfl, gr_refl _ _⟩
theorem small_iff : ∀ c : Fin 256, decide (c.val ∈ smallSigns) = (decide (97 ≤ c.val) && decide (c.val ≤ 122)) := by decide +kernel
theorem nb_small : nb ⟨#[97, 98, 99, 100, 101, 102, 103, 104, 105, 106, 107, 108, 109, 110, 111, 112, 113, 114, 115, 116, 117, 118, 119, 120, 121, 122]⟩ = smallSigns := by decide +kernel
theorem nb_keyS : nb ⟨#[97, 98, 99, 100, 101, 102, 103, 104, 105, 106, 107, 108, 109, 110, 111, 112, 113, 114, 115, 116, 117, 118, 119, 120, 121, 122, 48, 49, 50, 51, 52, 53, 54, 55, 56, 57, 45, 95]⟩ = keySigns := by decide +kernel
set_option maxHeartbeats 2000000 in
set_option maxRecDepth 100000 in
theorem keyRef_any (s : ByteArray) (w : World) (hs : s.size ≤ 1000000) : Calls Tryz.prog 38 #[.string s] w (Same (.bool (keyOk (nb s))) w) := by
  have hlen := nb_len s
  obtain ⟨B1, h1⟩ : ∃ B1, inB (s.size : Int) 1 40 = B1 := ⟨_, rfl⟩
  have H1 := Lib.hid h1
  have hB1 : B1 = (decide (1 ≤ s.size) && decide (s.size ≤ 40)) := by
    rw [← h1]; unfold inB; rw [Bool.eq_iff_iff]; simp only [Bool.and_eq_true, decide_eq_true_eq]; omega
  clear h1
  cases B1
  · have HB := Lib.hid (show keyOk (nb s) = false by unfold keyOk; rw [hlen, ← hB1]; rfl)
    clear hlen hB1
    go_enter Tryz.func38, Tryz.ntmps38
    go_wp2_with (first
      | (go_at_call 60; refine (in_any _ _ _ _).mono ?_; rintro e w' ⟨rfl, rfl⟩; rw [H1.out])
      | fail)
    go_ret
    exact ⟨by rw [HB.out]; rfl, rfl⟩
  · have h12 : 1 ≤ s.size ∧ s.size ≤ 40 := by simpa using hB1.symm
    obtain ⟨u, hu⟩ : ∃ u, s.extract 0 1 = u := ⟨_, rfl⟩
    have hnu : nb u = [(nb s).getD 0 0] := by
      rw [← hu, nb_extract]
      cases hn : nb s with
      | nil => rw [hn] at hlen; simp at hlen; omega
      | cons x l => rfl
    have hus : u.size ≤ 1 := by rw [← nb_len, hnu]; simp
    have h256 : (nb s).getD 0 0 < 256 := nb_lt (s := u) (by rw [hnu]; simp)
    obtain ⟨B2, h2⟩ : ∃ B2, (nb u).all (fun b => decide (b ∈ smallSigns)) = B2 := ⟨_, rfl⟩
    obtain ⟨B3, h3⟩ : ∃ B3, (nb s).all (fun b => decide (b ∈ keySigns)) = B3 := ⟨_, rfl⟩
    have HB := Lib.hid (show keyOk (nb s) = (B2 && B3) by
      unfold keyOk
      rw [← h2, ← h3, hnu, hlen, decide_eq_true h12.1, decide_eq_true h12.2]
      have := small_iff ⟨_, h256⟩
      simp only [List.all_cons, List.all_nil, Bool.and_true, Bool.true_and]
      rw [this])
    have H2 := Lib.hid h2; have H3 := Lib.hid h3
    clear hB1 hnu h2 h3 hlen h256
    have g1 : (1 : Int) ≤ (s.size : Int) := by omega
    have g2 : (1 : Nat) ≤ s.size := by omega
    clear h12
    obtain ⟨sm, hsm⟩ : ∃ sm : ByteArray, (⟨#[97, 98, 99, 100, 101, 102, 103, 104, 105, 106, 107, 108, 109, 110, 111, 112, 113, 114, 115, 116, 117, 118, 119, 120, 121, 122]⟩ : ByteArray) = sm := ⟨_, rfl⟩
    obtain ⟨ks, hks⟩ : ∃ ks : ByteArray, (⟨#[97, 98, 99, 100, 101, 102, 103, 104, 105, 106, 107, 108, 109, 110, 111, 112, 113, 114, 115, 116, 117, 118, 119, 120, 121, 122, 48, 49, 50, 51, 52, 53, 54, 55, 56, 57, 45, 95]⟩ : ByteArray) = ks := ⟨_, rfl⟩
    have HSM := Lib.hid (show (nb u).all (fun b => decide (b ∈ nb sm)) = B2 by rw [← hsm, nb_small]; exact H2.out)
    have HKS := Lib.hid (show (nb s).all (fun b => decide (b ∈ nb ks)) = B3 by rw [← hks, nb_keyS]; exact H3.out)
    cases B2
    all_goals
      go_enter Tryz.func38, Tryz.ntmps38
      go_wp2_with (first
        | (go_at_call 60; refine (in_any _ _ _ _).mono ?_; rintro e w' ⟨rfl, rfl⟩; rw [H1.out])
        | (go_at_call 110; ((with_reducible refine (onlyS_any u sm _ (by omega)).mono ?_); rintro e w' ⟨rfl, rfl⟩; rw [HSM.out]))
        | (go_at_call 110; ((with_reducible refine (onlyS_any s ks _ (by omega)).mono ?_); rintro e w' ⟨rfl, rfl⟩; rw [HKS.out]))
        | fail)
      go_ret
      exact ⟨by rw [HB.out]; rfl, rfl⟩
end
end Go.Proofs.YtgogiljplnninaaGreatDoor
/- Small words that many texts share: Go's order of strings, the first error of some places, moments. Conditions: none. -/
namespace Go.Proofs.YtgogiljplnninaaGreatDoor
section
open Go.RowKit

/-- Go's <= on strings. -/
def leS (a b : ByteArray) : Bool := Op.bytesLess a.toList b.toList || a.toList == b.toList
/-- The first of f 0, f 1, .. f (n - 1) that is not 0; 0: there is none. -/
def fstE (f : Nat → Int) : Nat → Int
  | 0 => 0
  | n + 1 => if fstE f n = 0 then f n else fstE f n
theorem fstE_zero {f : Nat → Int} {i : Nat} (h : fstE f i = 0) (h1 : f i = 0) : fstE f (i + 1) = 0 := by simp [fstE, h, h1]
theorem fstE_stop {f : Nat → Int} {i n : Nat} (h : fstE f i = 0) (h1 : f i ≠ 0) (hn : i < n) : fstE f n = f i := by
  induction n with
  | zero => omega
  | succ n ih =>
    by_cases e : i = n
    · subst e; simp [fstE, h]
    · have := ih (by omega)
      simp [fstE, this, h1]

theorem fst_ret {f : Nat → Int} {i n : Nat} {X v : Int} (h : fstE f i = 0) (e : f i = v) (hv : v ≠ 0) (hn : i < n) : (if fstE f n = 0 then X else fstE f n) = v := by
  rw [fstE_stop h (by rw [e]; exact hv) hn, e, if_neg hv]
def momB (n : Int) : Bool := inB n 0 345686399999
set_option maxHeartbeats 1000000 in
theorem isMomB_any (n : Int) (w : World) : Calls Tryz.prog 63 #[.int .i64 n] w (Same (.bool (momB n)) w) := by
  have H := Lib.hid (show momB n = (decide (0 ≤ n) && decide (n ≤ 345686399999)) from rfl)
  by_cases h1 : 0 ≤ n <;> by_cases h2 : n < 345686400000
  all_goals
    go_enter Tryz.func63, Tryz.ntmps63
    go_wp2
    go_ret
    exact ⟨by rw [H.out]; simp [h1]; omega, rfl⟩
set_option maxHeartbeats 1000000 in
theorem momentB_any (n : Int) (w : World) : Calls Tryz.prog 59 #[.int .i64 n] w (Same (.bool (momB n)) w) := by
  go_enter Tryz.func59, Tryz.ntmps59
  go_wp2_with (first
    | (go_at_call 60; refine (in_any _ _ _ _).mono ?_; rintro e w' ⟨rfl, rfl⟩)
    | fail)
  go_ret
  exact ⟨rfl, rfl⟩
theorem keyRefR_any (s : ByteArray) (w : World) (hs : s.size ≤ 1000000) : Calls Tryz.prog 38 #[.string s] w (RetV (.bool (keyOk (nb s))) w) := by
  refine (keyRef_any s w hs).mono ?_
  rintro e w' ⟨rfl, rfl⟩
  exact ⟨rfl, gr_refl _ _⟩
theorem eqS_nb (s t : ByteArray) : (s.toList == t.toList) = (nb s == nb t) := by
  rw [Bool.eq_iff_iff, beq_iff_eq, beq_iff_eq, ByteArray.toList_eq, ByteArray.toList_eq]
  exact ⟨fun h => by unfold nb; rw [h], fun h => by rw [nb_inj h]⟩
theorem fstE_ev {f : Nat → Int} {n : Nat} (h : fstE f n = 0) : ∀ i, i < n → f i = 0 := by
  induction n with
  | zero => intro i hi; omega
  | succ n ih =>
    intro i hi
    unfold fstE at h
    by_cases h0 : fstE f n = 0
    · rw [if_pos h0] at h
      rcases Nat.lt_succ_iff_lt_or_eq.1 hi with h1 | h1
      · exact ih h0 i h1
      · subst h1; exact h
    · rw [if_neg h0] at h; exact absurd h h0
end
end Go.Proofs.YtgogiljplnninaaGreatDoor
/- Tariffs and payers as they lie in memory, what is wrong with them, and what a call costs, in plain Lean. Conditions: none. -/
namespace Go.Proofs.YtgogiljplnninaaGreatDoor
section
open Go.RowKit

def digSigns : List Nat := [48, 49, 50, 51, 52, 53, 54, 55, 56, 57]
/-- Has a string digits alone? -/
def digB (l : List Nat) : Bool := l.all (fun b => decide (b ∈ digSigns))
/-- What stands behind a plus; none: there is no plus. -/
def plusOf : List Nat → Option (List Nat)
  | 43 :: l => some l
  | _ => none
def pfOk (l : List Nat) : Bool := decide (l = []) || (plusOf l).elim false (fun d => decide (d.length ≤ 15) && digB d)
def phOk (l : List Nat) : Bool := (plusOf l).elim false (fun d => decide (4 ≤ d.length) && decide (d.length ≤ 15) && digB d && decide (d.getD 0 0 ≠ 48))

/-- A class. -/
structure ClV where
  pre : ByteArray
  name : ByteArray
  setup : Int
  first : Int
  step : Int
  rate : Int
def ClV.row (c : ClV) : List Value := [.string c.pre, .string c.name, .int .i64 c.setup, .int .i64 c.first, .int .i64 c.step, .int .i64 c.rate]
theorem ClV.row_len (c : ClV) : c.row.length = 6 := rfl
def ClOk (c : ClV) : Prop := c.pre.size ≤ 1000 ∧ c.name.size ≤ 1000
/-- A tariff, as it lies in memory. -/
structure TfV where
  cA : Option Addr
  cn : Nat
  cc : Nat
  free : Int
  iA : Option Addr
  en : Nat
  ic : Nat
  cl : List ClV
  ins : List ByteArray
def TfV.row (t : TfV) : List Value := [.slice t.cA t.cn t.cc, .int .i64 t.free, .slice t.iA t.en t.ic]
def TfOk (w : World) (lo : Nat) (t : TfV) : Prop := ((∀ c ∈ t.cl, ClOk c) ∧ (∀ s ∈ t.ins, s.size ≤ 1000) ∧ t.cn ≤ 1000 ∧ t.en ≤ 1000) ∧ Recs ClV.row 6 w lo t.cA t.cn t.cc t.cl ∧ Recs srow 1 w lo t.iA t.en t.ic t.ins
theorem TfOk.grown {w w' : World} {lo : Nat} {t : TfV} (h : TfOk w lo t) {r : Option Nat} (hg : w.grownBy w' r) (hr : ∀ g, r = some g → g < lo) : TfOk w' lo t := ⟨h.1, h.2.1.grown hg hr, h.2.2.grown hg hr⟩
/-- A payer, as it lies in memory. -/
structure PyV where
  key : ByteArray
  nA : Option Addr
  nn : Nat
  nc : Nat
  nums : List ByteArray
def PyV.row (p : PyV) : List Value := [.string p.key, .slice p.nA p.nn p.nc]
theorem PyV.row_len (p : PyV) : p.row.length = 2 := rfl
def PyOk (w : World) (lo : Nat) (p : PyV) : Prop := (p.key.size ≤ 1000 ∧ (∀ s ∈ p.nums, s.size ≤ 1000) ∧ p.nn ≤ 1000) ∧ Recs srow 1 w lo p.nA p.nn p.nc p.nums
def Pys (w : World) (lo : Nat) (A : Option Addr) (n c : Nat) (l : List PyV) : Prop := Recs PyV.row 2 w lo A n c l ∧ ∀ p ∈ l, PyOk w lo p
theorem PyOk.grown {w w' : World} {lo : Nat} {p : PyV} (h : PyOk w lo p) {r : Option Nat} (hg : w.grownBy w' r) (hr : ∀ g, r = some g → g < lo) : PyOk w' lo p := ⟨h.1, h.2.grown hg hr⟩
theorem Pys.grown {w w' : World} {lo : Nat} {A : Option Addr} {n c : Nat} {l : List PyV} (h : Pys w lo A n c l) {r : Option Nat} (hg : w.grownBy w' r) (hr : ∀ g, r = some g → g < lo) : Pys w' lo A n c l :=
  ⟨h.1.grown hg hr, fun p hp => (h.2 p hp).grown hg hr⟩

/-! What is wrong with a tariff. -/
def clNum (c : ClV) : Bool := inB c.setup 0 1000000 && inB c.rate 0 1000000 && inB c.first 0 86400000 && inB c.step 1 86400000
def clAt (l : List ClV) (i : Nat) : Int := (l[i]?).elim 0 fun c =>
  if pfOk (nb c.pre) then (if keyOk (nb c.name) then (if clNum c then (if decide (0 < i) && (l[i - 1]?).elim false (fun b => leS c.pre b.pre) then 7 else 0) else 1) else 5) else 3
def keyAt (l : List ByteArray) (i : Nat) : Int := (l[i]?).elim 0 fun s =>
  if keyOk (nb s) then (if decide (0 < i) && (l[i - 1]?).elim false (fun b => leS s b) then 7 else 0) else 5
def tarE (t : TfV) : Int :=
  if 200 < t.cn then 2 else if fstE (clAt t.cl) t.cn = 0 then (if inB t.free 0 2592000000 then (if 200 < t.en then 2 else fstE (keyAt t.ins) t.en) else 1) else fstE (clAt t.cl) t.cn
section
variable {l : List ClV} {i : Nat} {z b : ClV}
theorem clAt_3 (h : l[i]? = some z) (h1 : pfOk (nb z.pre) = false) : clAt l i = 3 := by simp only [clAt, h, Option.elim, h1]; rfl
theorem clAt_5 (h : l[i]? = some z) (h1 : pfOk (nb z.pre) = true) (h2 : keyOk (nb z.name) = false) : clAt l i = 5 := by simp only [clAt, h, Option.elim, h1, h2]; rfl
theorem clAt_1 (h : l[i]? = some z) (h1 : pfOk (nb z.pre) = true) (h2 : keyOk (nb z.name) = true) (h3 : clNum z = false) : clAt l i = 1 := by simp only [clAt, h, Option.elim, h1, h2, h3]; rfl
theorem clAt_7 (h : l[i]? = some z) (h1 : pfOk (nb z.pre) = true) (h2 : keyOk (nb z.name) = true) (h3 : clNum z = true) (hi : 0 < i) (hb : l[i - 1]? = some b) (h4 : leS z.pre b.pre = true) : clAt l i = 7 := by
  simp only [clAt, h, Option.elim, h1, h2, h3, hb, decide_eq_true hi, h4]; rfl
theorem clAt_e (h : l[i]? = some z) (h1 : pfOk (nb z.pre) = true) (h2 : keyOk (nb z.name) = true) (h3 : clNum z = true) (hb : l[i - 1]? = some b) (h4 : leS z.pre b.pre = false) : clAt l i = 0 := by
  simp only [clAt, h, Option.elim, h1, h2, h3, hb, h4, Bool.and_false]; rfl
theorem clAt_z (h : l[i]? = some z) (h1 : pfOk (nb z.pre) = true) (h2 : keyOk (nb z.name) = true) (h3 : clNum z = true) (hi : ¬ 0 < i) : clAt l i = 0 := by
  simp only [clAt, h, Option.elim, h1, h2, h3, decide_eq_false hi, Bool.false_and]; rfl
end
section
variable {l : List ByteArray} {i : Nat} {z b : ByteArray}
theorem keyAt_5 (h : l[i]? = some z) (h2 : keyOk (nb z) = false) : keyAt l i = 5 := by simp only [keyAt, h, Option.elim, h2]; rfl
theorem keyAt_7 (h : l[i]? = some z) (h2 : keyOk (nb z) = true) (hi : 0 < i) (hb : l[i - 1]? = some b) (h4 : leS z b = true) : keyAt l i = 7 := by
  simp only [keyAt, h, Option.elim, h2, hb, decide_eq_true hi, h4]; rfl
theorem keyAt_e (h : l[i]? = some z) (h2 : keyOk (nb z) = true) (hb : l[i - 1]? = some b) (h4 : leS z b = false) : keyAt l i = 0 := by
  simp only [keyAt, h, Option.elim, h2, hb, h4, Bool.and_false]; rfl
theorem keyAt_z (h : l[i]? = some z) (h2 : keyOk (nb z) = true) (hi : ¬ 0 < i) : keyAt l i = 0 := by
  simp only [keyAt, h, Option.elim, h2, decide_eq_false hi, Bool.false_and]; rfl
end

/-! What is wrong with payers. -/
def numAt (had ns : List ByteArray) (j : Nat) : Int := (ns[j]?).elim 0 fun s => if phOk (nb s) then (if memS (had ++ ns.take j) s then 6 else 0) else 3
def hadN (l : List PyV) (i : Nat) : List ByteArray := (l.take i).flatMap (·.nums)
def payAt (l : List PyV) (i : Nat) : Int := (l[i]?).elim 0 fun p =>
  if keyOk (nb p.key) then (if decide (0 < i) && (l[i - 1]?).elim false (fun b => leS p.key b.key) then 7 else (if 500 < p.nn then 2 else fstE (numAt (hadN l i) p.nums) p.nn)) else 5
def pysE (l : List PyV) : Int := if 500 < l.length then 2 else fstE (payAt l) l.length
theorem hadN_succ {l : List PyV} {i : Nat} {p : PyV} (h : l[i]? = some p) : hadN l (i + 1) = hadN l i ++ p.nums := by
  unfold hadN; rw [take_snoc' h, List.flatMap_append]; simp
section
variable {had ns : List ByteArray} {j : Nat} {s : ByteArray}
theorem numAt_3 (h : ns[j]? = some s) (h1 : phOk (nb s) = false) : numAt had ns j = 3 := by simp only [numAt, h, Option.elim, h1]; rfl
theorem numAt_6 (h : ns[j]? = some s) (h1 : phOk (nb s) = true) (h2 : memS (had ++ ns.take j) s = true) : numAt had ns j = 6 := by simp only [numAt, h, Option.elim, h1, h2]; rfl
theorem numAt_z (h : ns[j]? = some s) (h1 : phOk (nb s) = true) (h2 : memS (had ++ ns.take j) s = false) : numAt had ns j = 0 := by simp only [numAt, h, Option.elim, h1, h2]; rfl
end
section
variable {l : List PyV} {i : Nat} {z b : PyV}
theorem payAt_5 (h : l[i]? = some z) (h1 : keyOk (nb z.key) = false) : payAt l i = 5 := by simp only [payAt, h, Option.elim, h1]; rfl
theorem payAt_7 (h : l[i]? = some z) (h1 : keyOk (nb z.key) = true) (hi : 0 < i) (hb : l[i - 1]? = some b) (h3 : leS z.key b.key = true) : payAt l i = 7 := by simp only [payAt, h, Option.elim, h1, hb, h3, decide_eq_true hi]; rfl
/-- The key ahead of a place; none: the empty string. -/
def lastP (l : List PyV) (k : Nat) : ByteArray := if k = 0 then ⟨#[]⟩ else (l[k - 1]?).elim ⟨#[]⟩ (·.key)
theorem lastP_succ {l : List PyV} {k : Nat} {z : PyV} (h : l[k]? = some z) : lastP l (k + 1) = z.key := by unfold lastP; rw [if_neg (by omega), Nat.add_sub_cancel, h]; rfl
theorem keyP_pos {s : ByteArray} (h : keyOk (nb s) = true) : s.toList ≠ [] := by
  intro e
  have : nb s = [] := by unfold nb; rw [← ByteArray.toList_eq, e]; rfl
  rw [this] at h
  exact absurd h (by decide)
theorem leS_nil {s : ByteArray} (h : s.toList ≠ []) : leS s ⟨#[]⟩ = false := by
  unfold leS
  have e : (⟨#[]⟩ : ByteArray).toList = [] := by rw [ByteArray.toList_eq]
  rw [e]
  cases hs : s.toList with
  | nil => exact absurd hs h
  | cons a l => rfl
theorem payAt_last (h : l[i]? = some z) (h1 : keyOk (nb z.key) = true) : payAt l i = if leS z.key (lastP l i) then 7 else (if 500 < z.nn then 2 else fstE (numAt (hadN l i) z.nums) z.nn) := by
  simp only [payAt, h, Option.elim, h1, if_true]
  by_cases hi : 0 < i
  · have hl := (List.getElem?_eq_some_iff.1 h).1
    obtain ⟨b, hb⟩ : ∃ b, l[i - 1]? = some b := ⟨_, List.getElem?_eq_getElem (by omega)⟩
    have e : lastP l i = b.key := by unfold lastP; rw [if_neg (by omega), hb]; rfl
    simp only [hb, e, decide_eq_true hi, Bool.true_and]
  · have e : lastP l i = ⟨#[]⟩ := by unfold lastP; rw [if_pos (by omega)]
    rw [decide_eq_false hi, e, leS_nil (keyP_pos h1)]
    simp
theorem payAt_le (h : l[i]? = some z) (h1 : keyOk (nb z.key) = true) (h3 : leS z.key (lastP l i) = false) : payAt l i = if 500 < z.nn then 2 else fstE (numAt (hadN l i) z.nums) z.nn := by
  rw [payAt_last h h1, h3]; rfl
theorem payAt_l7 (h : l[i]? = some z) (h1 : keyOk (nb z.key) = true) (h3 : leS z.key (lastP l i) = true) : payAt l i = 7 := by
  rw [payAt_last h h1, h3]; rfl
end

/-! Classes, prices, payers. -/
def clsAt (l : List ClV) (s : List Nat) : Option ClV := l.find? (fun c => nb c.pre == s)
/-- The class of the longest prefix of at most k bytes. -/
def clsTo (l : List ClV) (s : List Nat) : Nat → Option ClV
  | 0 => clsAt l []
  | k + 1 => (clsAt l (s.take (k + 1))).or (clsTo l s k)
def clsOf (l : List ClV) (s : List Nat) : Option ClV := clsTo l s s.length
def priceOf (c : ClV) (talk : Int) : Int := if talk = 0 then 0 else c.setup + c.rate * ((max 0 (talk - c.first) + c.step - 1) / c.step)
def payerOf (l : List PyV) (s : List Nat) : Option PyV := l.find? (fun p => p.nums.any (fun x => nb x == s))
theorem clsTo_hit {l : List ClV} {s : List Nat} {k : Nat} {c : ClV} (h : clsAt l (s.take k) = some c) : clsTo l s k = some c := by
  cases k with
  | zero => rw [List.take_zero] at h; exact h
  | succ k => unfold clsTo; rw [h]; rfl
theorem clsTo_miss {l : List ClV} {s : List Nat} {k : Nat} (h : clsAt l (s.take (k + 1)) = none) : clsTo l s (k + 1) = clsTo l s k := by
  show (clsAt l (s.take (k + 1))).or (clsTo l s k) = _
  rw [h]; rfl
end
end Go.Proofs.YtgogiljplnninaaGreatDoor
/- Tariffs and payers: plain laws: right classes stand in their order, prices agree, right payers have each number once. Conditions: none. -/
namespace Go.Proofs.YtgogiljplnninaaGreatDoor
section

theorem fstE_all {f : Nat → Int} {n : Nat} (h : fstE f n = 0) : ∀ i, i < n → f i = 0 := by
  induction n with
  | zero => intro i hi; omega
  | succ n ih =>
    intro i hi
    unfold fstE at h
    by_cases h0 : fstE f n = 0
    · rw [if_pos h0] at h
      rcases Nat.lt_succ_iff_lt_or_eq.1 hi with h1 | h1
      · exact ih h0 i h1
      · subst h1; exact h
    · rw [if_neg h0] at h; exact absurd h h0

/-! Classes in their order. -/
def Srt (l : List ClV) : Prop := ∀ (i j : Nat) (a b : ClV), i < j → l[i]? = some a → l[j]? = some b → cmpS a.pre b.pre < 0
theorem srt_of {l : List ClV} (h : ∀ (i : Nat) (a b : ClV), l[i]? = some a → l[i + 1]? = some b → cmpS a.pre b.pre < 0) : Srt l := by
  intro i j a b hij ha hb
  induction j generalizing b with
  | zero => omega
  | succ j ih =>
    by_cases e : i = j
    · subst e; exact h i a b ha hb
    · have hj : j + 1 < l.length := (List.getElem?_eq_some_iff.1 hb).1
      have hc : l[j]? = some l[j] := List.getElem?_eq_getElem (by omega)
      exact cmpS_trans (ih l[j] (by omega) hc) (h j _ b hc hb)
theorem clAt_right {l : List ClV} {i : Nat} {c : ClV} (h : l[i]? = some c) (h0 : clAt l i = 0) : pfOk (nb c.pre) = true ∧ keyOk (nb c.name) = true ∧ clNum c = true ∧ ∀ b, 0 < i → l[i - 1]? = some b → leS c.pre b.pre = false := by
  cases h1 : pfOk (nb c.pre)
  · rw [clAt_3 h h1] at h0; exact absurd h0 (by decide)
  · cases h2 : keyOk (nb c.name)
    · rw [clAt_5 h h1 h2] at h0; exact absurd h0 (by decide)
    · cases h3 : clNum c
      · rw [clAt_1 h h1 h2 h3] at h0; exact absurd h0 (by decide)
      · refine ⟨rfl, rfl, rfl, fun b hi hb => ?_⟩
        cases h4 : leS c.pre b.pre
        · rfl
        · rw [clAt_7 h h1 h2 h3 hi hb h4] at h0; exact absurd h0 (by decide)
theorem tar_right {t : TfV} (hc : t.cl.length = t.cn) (h : tarE t = 0) : Srt t.cl ∧ ∀ c ∈ t.cl, clNum c = true := by
  unfold tarE at h
  by_cases h1 : 200 < t.cn
  · rw [if_pos h1] at h; exact absurd h (by decide)
  · rw [if_neg h1] at h
    by_cases h2 : fstE (clAt t.cl) t.cn = 0
    · have hall := fstE_all h2
      refine ⟨srt_of fun i a b ha hb => ?_, fun c hc2 => ?_⟩
      · have hl := (List.getElem?_eq_some_iff.1 hb).1
        obtain ⟨_, _, _, q⟩ := clAt_right hb (hall (i + 1) (by omega))
        have := q a (by omega) (by rw [Nat.add_sub_cancel]; exact ha)
        unfold leS at this
        rw [leS_cmp, decide_eq_false_iff_not] at this
        have e := cmpS_neg a.pre b.pre
        omega
      · obtain ⟨i, hi⟩ := List.mem_iff_getElem?.1 hc2
        have hl := (List.getElem?_eq_some_iff.1 hi).1
        exact (clAt_right hi (hall i (by omega))).2.2.1
    · rw [if_neg h2] at h; exact absurd h h2
theorem clNum_bd {c : ClV} (h : clNum c = true) : (0 ≤ c.setup ∧ c.setup ≤ 1000000) ∧ (0 ≤ c.rate ∧ c.rate ≤ 1000000) ∧ (0 ≤ c.first ∧ c.first ≤ 86400000) ∧ 1 ≤ c.step ∧ c.step ≤ 86400000 := by
  unfold clNum inB at h
  simp only [Bool.and_eq_true, decide_eq_true_eq] at h
  omega
/-- What a search finds in classes that stand in their order. -/
def Found (l : List ClV) (s : ByteArray) (i : Nat) (f : Bool) : Prop := i ≤ l.length ∧ ((f = true ∧ ∃ c, l[i]? = some c ∧ clsAt l (nb s) = some c) ∨ (f = false ∧ clsAt l (nb s) = none))
theorem found_of {l : List ClV} (hs : Srt l) {s : ByteArray} {i : Nat} (h1 : ∀ (j : Nat) (c : ClV), j < i → l[j]? = some c → cmpS c.pre s < 0) (h2 : ∀ (j : Nat) (c : ClV), i ≤ j → l[j]? = some c → ¬ cmpS c.pre s < 0) (hi : i ≤ l.length) :
    Found l s i ((l[i]?).elim false (fun c => cmpS c.pre s == 0)) := by
  refine ⟨hi, ?_⟩
  have low : ∀ (j : Nat) (c : ClV), j < i → l[j]? = some c → ¬ nb c.pre = nb s := fun j c hj hc e => by
    have := h1 j c hj hc
    rw [cmpS_zero.2 e] at this
    exact absurd this (by decide)
  cases hc : l[i]? with
  | none =>
    right
    refine ⟨rfl, ?_⟩
    unfold clsAt
    rw [List.find?_eq_none]
    intro c hm
    obtain ⟨j, hj⟩ := List.mem_iff_getElem?.1 hm
    have hjl := (List.getElem?_eq_some_iff.1 hj).1
    have hil : l.length ≤ i := List.getElem?_eq_none_iff.1 hc
    have := low j c (by omega) hj
    simpa using this
  | some c =>
    show ((cmpS c.pre s == 0) = true ∧ _) ∨ ((cmpS c.pre s == 0) = false ∧ _)
    by_cases e : cmpS c.pre s = 0
    · left
      refine ⟨by simpa using e, c, rfl, ?_⟩
      unfold clsAt
      rw [List.find?_eq_some_iff_getElem]
      obtain ⟨hl, hg⟩ := List.getElem?_eq_some_iff.1 hc
      refine ⟨by simpa using cmpS_zero.1 e, i, hl, hg, fun j hj => ?_⟩
      have := low j l[j] hj (List.getElem?_eq_getElem (by omega))
      simpa using this
    · right
      refine ⟨by simpa using e, ?_⟩
      unfold clsAt
      rw [List.find?_eq_none]
      intro c' hm
      obtain ⟨j, hj⟩ := List.mem_iff_getElem?.1 hm
      have hne : ¬ nb c'.pre = nb s := by
        rcases Nat.lt_trichotomy j i with h | h | h
        · exact low j c' h hj
        · subst h
          rw [hc] at hj
          injection hj with hj
          subst hj
          exact fun e2 => e (cmpS_zero.2 e2)
        · intro e2
          have h3 := hs i j c c' h hc hj
          rw [cmpS_eqr e2] at h3
          exact h2 i c (Nat.le_refl _) hc h3
      simpa using hne

/-! Prices. -/
def stepsOf (c : ClV) (talk : Int) : Int := if 0 < talk - c.first then (if 0 < (talk - c.first) % c.step then (talk - c.first) / c.step + 1 else (talk - c.first) / c.step) else 0
theorem steps_eq {c : ClV} (h : 1 ≤ c.step) (talk : Int) : stepsOf c talk = (max 0 (talk - c.first) + c.step - 1) / c.step := by
  unfold stepsOf
  by_cases h0 : 0 < talk - c.first
  · rw [if_pos h0]
    generalize talk - c.first = v at *
    rw [show max 0 v = v by omega]
    have hd := Int.mul_ediv_add_emod v c.step
    have hm1 := Int.emod_nonneg v (show c.step ≠ 0 by omega)
    have hm2 := Int.emod_lt_of_pos v (show 0 < c.step by omega)
    generalize v / c.step = q at *
    generalize v % c.step = r at *
    by_cases hr : 0 < r
    · rw [if_pos hr]
      symm
      rw [show v + c.step - 1 = (r - 1) + c.step * (q + 1) by rw [Int.mul_add]; omega, Int.add_mul_ediv_left _ _ (by omega), Int.ediv_eq_zero_of_lt (by omega) (by omega)]
      omega
    · rw [if_neg hr]
      symm
      rw [show v + c.step - 1 = (c.step - 1) + c.step * q by omega, Int.add_mul_ediv_left _ _ (by omega), Int.ediv_eq_zero_of_lt (by omega) (by omega)]
      omega
  · rw [if_neg h0, show max 0 (talk - c.first) = 0 by omega]
    symm
    exact Int.ediv_eq_zero_of_lt (by omega) (by omega)
theorem steps_bd {c : ClV} (h : clNum c = true) {talk : Int} (h1 : 0 ≤ talk) (h2 : talk ≤ 86400000) : 0 ≤ stepsOf c talk ∧ stepsOf c talk ≤ 86400000 := by
  obtain ⟨_, _, b3, b4, b5⟩ := clNum_bd h
  rw [steps_eq b4]
  constructor
  · exact Int.ediv_nonneg (by omega) (by omega)
  · have := Int.ediv_lt_of_lt_mul (a := max 0 (talk - c.first) + c.step - 1) (b := 86400001) (c := c.step) (by omega) (by omega)
    omega
theorem price_bd {c : ClV} (h : clNum c = true) {talk : Int} (h1 : 0 ≤ talk) (h2 : talk ≤ 86400000) : 0 ≤ c.rate * stepsOf c talk ∧ c.rate * stepsOf c talk ≤ 86400000000000 := by
  obtain ⟨_, b2, _⟩ := clNum_bd h
  obtain ⟨s1, s2⟩ := steps_bd h h1 h2
  refine ⟨Int.mul_nonneg b2.1 s1, ?_⟩
  have := Int.mul_le_mul b2.2 s2 s1 (by omega)
  omega

/-! Payers. -/
def pairsOf (l : List PyV) : List (ByteArray × ByteArray) := l.flatMap fun p => p.nums.map fun n => (n, p.key)
def lastOf (ps : List (ByteArray × ByteArray)) (k : ByteArray) : Option ByteArray := (ps.reverse.find? fun p => nb p.1 == nb k).map (·.2)
theorem lastOf_nil (k : ByteArray) : lastOf [] k = none := rfl
theorem lastOf_snoc (ps : List (ByteArray × ByteArray)) (n v k : ByteArray) : lastOf (ps ++ [(n, v)]) k = if nb n = nb k then some v else lastOf ps k := by
  unfold lastOf
  rw [List.reverse_append]
  show (List.find? _ ((n, v) :: ps.reverse)).map _ = _
  rw [List.find?_cons]
  by_cases e : nb n = nb k
  · rw [if_pos e]
    have : (nb (n, v).1 == nb k) = true := by simpa using e
    rw [this]; rfl
  · rw [if_neg e]
    have : (nb (n, v).1 == nb k) = false := by simpa using e
    rw [this]
def Dist (l : List ByteArray) : Prop := l.Pairwise fun a b => nb a ≠ nb b
theorem find_one (p : ByteArray × ByteArray) (ps : List (ByteArray × ByteArray)) (k : ByteArray) : (p :: ps).find? (fun p => nb p.1 == nb k) = if nb p.1 = nb k then some p else ps.find? (fun p => nb p.1 == nb k) := by
  rw [List.find?_cons]
  by_cases e : nb p.1 = nb k
  · rw [if_pos e, beq_iff_eq.2 e]
  · rw [if_neg e, beq_eq_false_iff_ne.2 e]
theorem find_rev {ps : List (ByteArray × ByteArray)} (h : Dist (ps.map (·.1))) (k : ByteArray) : ps.reverse.find? (fun p => nb p.1 == nb k) = ps.find? (fun p => nb p.1 == nb k) := by
  induction ps with
  | nil => rfl
  | cons p ps ih =>
    unfold Dist at h
    rw [List.map_cons, List.pairwise_cons] at h
    rw [List.reverse_cons, List.find?_append, ih h.2, find_one, find_one]
    by_cases e : nb p.1 = nb k
    · have e2 : ps.find? (fun p => nb p.1 == nb k) = none := by
        rw [List.find?_eq_none]
        intro q hq
        have := h.1 q.1 (List.mem_map.2 ⟨q, hq, rfl⟩)
        rw [e] at this
        simpa using fun h2 : nb q.1 = nb k => this h2.symm
      rw [e2, if_pos e, if_pos e]
      rfl
    · rw [if_neg e, if_neg e]
      exact Option.or_none
theorem memS_false {L : List ByteArray} {s : ByteArray} (h : memS L s = false) : ∀ x ∈ L, nb x ≠ nb s := by
  intro x hx
  unfold memS at h
  rw [List.any_eq_false] at h
  simpa using h x hx
theorem nums_dist {had : List ByteArray} (hd : Dist had) {ns : List ByteArray} (h : ∀ j, j < ns.length → numAt had ns j = 0) : Dist (had ++ ns) := by
  have step : ∀ k, k ≤ ns.length → Dist (had ++ ns.take k) := by
    intro k
    induction k with
    | zero => intro _; rw [List.take_zero, List.append_nil]; exact hd
    | succ k ih =>
      intro hk
      have hs : ns[k]? = some ns[k] := List.getElem?_eq_getElem (by omega)
      have h0 := h k (by omega)
      cases h1 : phOk (nb ns[k])
      · rw [numAt_3 hs h1] at h0; exact absurd h0 (by decide)
      · cases h2 : memS (had ++ ns.take k) ns[k]
        · rw [take_snoc' hs, ← List.append_assoc]
          unfold Dist
          rw [List.pairwise_append]
          refine ⟨ih (by omega), List.pairwise_singleton _ _, fun a ha b hb => ?_⟩
          rw [List.mem_singleton.1 hb]
          exact memS_false h2 a ha
        · rw [numAt_6 hs h1 h2] at h0; exact absurd h0 (by decide)
  have := step ns.length (Nat.le_refl _)
  rwa [List.take_of_length_le (Nat.le_refl _)] at this
theorem pays_dist {l : List PyV} (hn : ∀ p ∈ l, p.nums.length = p.nn) (h : pysE l = 0) : Dist (l.flatMap (·.nums)) := by
  unfold pysE at h
  by_cases h1 : 500 < l.length
  · rw [if_pos h1] at h; exact absurd h (by decide)
  · rw [if_neg h1] at h
    have hall := fstE_all h
    have step : ∀ k, k ≤ l.length → Dist (hadN l k) := by
      intro k
      induction k with
      | zero => intro _; exact List.Pairwise.nil
      | succ k ih =>
        intro hk
        have hs : l[k]? = some l[k] := List.getElem?_eq_getElem (by omega)
        rw [hadN_succ hs]
        refine nums_dist (ih (by omega)) ?_
        rw [hn _ (List.getElem_mem _)]
        have h0 := hall k (by omega)
        cases h2 : keyOk (nb l[k].key)
        · rw [payAt_5 hs h2] at h0; exact absurd h0 (by decide)
        · rw [payAt_last hs h2] at h0
          split at h0
          · exact absurd h0 (by decide)
          · split at h0
            · exact absurd h0 (by decide)
            · exact fstE_all h0
    have := step l.length (Nat.le_refl _)
    unfold hadN at this
    rwa [List.take_of_length_le (Nat.le_refl _)] at this
theorem pairs_keys (l : List PyV) : (pairsOf l).map (·.1) = l.flatMap (·.nums) := by
  unfold pairsOf
  rw [List.map_flatMap]
  congr 1
  funext p
  rw [List.map_map]
  exact List.map_id _
theorem pairs_find (l : List PyV) (k : ByteArray) : ((pairsOf l).find? (fun p => nb p.1 == nb k)).map (·.2) = (payerOf l (nb k)).map (·.key) := by
  induction l with
  | nil => rfl
  | cons p l ih =>
    have e0 : pairsOf (p :: l) = (p.nums.map fun n => (n, p.key)) ++ pairsOf l := by unfold pairsOf; rw [List.flatMap_cons]
    rw [e0, List.find?_append]
    unfold payerOf at ih ⊢
    rw [List.find?_cons, List.find?_map]
    show (((p.nums.find? (fun n => nb n == nb k)).map fun n => (n, p.key)).or _).map _ = _
    cases h : p.nums.find? (fun n => nb n == nb k) with
    | none =>
      have : p.nums.any (fun x => nb x == nb k) = false := by
        rw [List.any_eq_false]
        intro x hx
        exact List.find?_eq_none.1 h x hx
      rw [this]
      exact ih
    | some n =>
      have : p.nums.any (fun x => nb x == nb k) = true := by
        rw [List.any_eq_true]
        exact ⟨n, List.mem_of_find?_eq_some h, by have := List.find?_some h; exact this⟩
      rw [this]
      rfl
/-- Right payers: who was put last under a number is the first one who has it. -/
theorem payer_last {l : List PyV} (hn : ∀ p ∈ l, p.nums.length = p.nn) (h : pysE l = 0) (k : ByteArray) : lastOf (pairsOf l) k = (payerOf l (nb k)).map (·.key) := by
  unfold lastOf
  rw [find_rev (by rw [pairs_keys]; exact pays_dist hn h), pairs_find]
end
end Go.Proofs.YtgogiljplnninaaGreatDoor
/- Contracts of cmp.Compare and cmp.Or at int. Conditions: none. -/
namespace Go.Proofs.YtgogiljplnninaaGreatDoor
section
open Go.RowKit

def cmpZ (a b : Int) : Int := if a < b then -1 else if b < a then 1 else 0
theorem cmpZ_any (a b : Int) (w : World) : Calls Tryz.prog 121 #[.int .i64 a, .int .i64 b] w (Same (.int .i64 (cmpZ a b)) w) := by
  refine (Tryz.cmp_Compare_int a b w).mono ?_
  rintro e w' ⟨rfl, rfl⟩
  exact ⟨rfl, rfl⟩
/-- The first of two numbers that is not 0. -/
def orZ (a b : Int) : Int := if a = 0 then b else a
set_option maxHeartbeats 2000000 in
theorem orZ_any (a b : Int) (g : Nat) (w : World) (hb : Blk w g 3 #[.int .i64 a, .int .i64 b]) : Calls Tryz.prog 120 #[.slice (some ⟨g, 0, none⟩) 2 2] w (Same (.int .i64 (orZ a b)) w) := by
  have c0 : w.cell? ⟨g, 0, none⟩ = some (.int .i64 a) := hb.cell 0
  have c1 : w.cell? ⟨g, 1, none⟩ = some (.int .i64 b) := hb.cell 1
  clear hb
  go_enter Tryz.func120, Tryz.ntmps120
  go_wp2_with fail
  go_loop [5, 8] (fun _ t => ∃ i : Nat, i ≤ 2 ∧ t = .int .i64 i ∧ (1 ≤ i → a = 0) ∧ (2 ≤ i → b = 0)) (fun _ t => 2 - (intOf t).toNat)
  case atStart => exact ⟨0, by omega, rfl, by omega, by omega⟩
  case round =>
    obtain ⟨i, hi, rfl, h1, h2⟩ := hrel
    have H1 := Lib.hid h1; have H2 := Lib.hid h2
    clear h1 h2
    rcases (by omega : i = 0 ∨ i = 1 ∨ i = 2) with rfl | rfl | rfl
    · by_cases hz : a = 0
      · have q : (a != 0) = false := by simp [hz]
        have HA := Lib.hid hz; clear hz
        go_wp2_with fail
        go_round
        case rel => exact ⟨1, by omega, rfl, fun _ => HA.out, fun h => by omega⟩
        case measure => simp [intOf]
      · have q : (a != 0) = true := by simpa using hz
        have HA := Lib.hid (show orZ a b = a by unfold orZ; rw [if_neg hz]); clear hz
        go_wp2_with fail
        go_ret
        exact ⟨by rw [HA.out]; rfl, rfl⟩
    · have ha := H1.out (by omega)
      have HA := Lib.hid (show orZ a b = b by unfold orZ; rw [if_pos ha])
      have HA0 := Lib.hid ha; clear ha
      by_cases hz : b = 0
      · have q : (b != 0) = false := by simp [hz]
        have HBZ := Lib.hid hz; clear hz
        go_wp2_with fail
        go_round
        case rel => exact ⟨2, by omega, rfl, fun _ => HA0.out, fun _ => HBZ.out⟩
        case measure => simp [intOf]
      · have q : (b != 0) = true := by simpa using hz
        go_wp2_with fail
        go_ret
        exact ⟨by rw [HA.out]; rfl, rfl⟩
    · have HA := Lib.hid (show orZ a b = 0 by unfold orZ; rw [if_pos (H1.out (by omega)), H2.out (by omega)])
      go_wp2_with fail
      go_ret
      exact ⟨by rw [HA.out]; rfl, rfl⟩
end
end Go.Proofs.YtgogiljplnninaaGreatDoor
/- Slices of records that a call makes. Conditions: none. -/
namespace Go.Proofs.YtgogiljplnninaaGreatDoor
section
open Go.RowKit

theorem flat_set1' {α : Type} {row : α → List Value} {k : Nat} (hrow : ∀ a, (row a).length = k) {l : List α} {i : Nat} {a a' : α} (hi : l[i]? = some a) {j : Nat} (hj : j < k) {u : Value} (hr : row a' = (row a).set j u) : (l.flatMap row).set (i * k + j) u = (l.set i a').flatMap row := by
  have h := flat_set (row := row) (k := k) hrow (by omega) hi (a' := a') (ys := [u]) j (by simp; omega) (by
    rw [hr, List.set_eq_take_append_cons_drop, if_pos (by rw [hrow]; exact hj)]; simp)
  have hil := (List.getElem?_eq_some_iff.1 hi).1
  have hle : (i + 1) * k ≤ l.length * k := Nat.mul_le_mul_right k hil
  rw [Nat.succ_mul] at hle
  rw [← h, List.set_eq_take_append_cons_drop, if_pos (by rw [flat_len hrow]; omega)]
  simp

theorem reads_at (w : World) (t : TypeId) (cs : List Value) (size : Nat) (h : cs.length = size) {g : Nat} (hg : w.heap.size = g) : Reads (w.alloc (.cells cs.toArray t)) g size (some ⟨g, 0, none⟩) 1 1 cs := by
  subst hg; exact Reads.one w t cs size h
/-- A slice of records of the call's own. -/
def OwnR {α : Type} (row : α → List Value) (k : Nat) (w : World) (lo : Nat) (e : TypeId) (A : Option Addr) (n c : Nat) (l : List α) : Prop := Own w lo e k A n c (l.flatMap row) ∧ l.length = n
section
variable {α : Type} {row : α → List Value} {k : Nat} {w w' : World} {lo lo' n c : Nat} {e : TypeId} {A : Option Addr} {l : List α}
theorem OwnR.recs (h : OwnR row k w lo e A n c l) : Recs row k w lo A n c l := ⟨h.1.reads, h.2⟩
theorem OwnR.nil (w : World) (lo : Nat) (e : TypeId) : OwnR row k w lo e none 0 0 [] := ⟨Own.nil _ _ _ _, rfl⟩
theorem OwnR.kept (h : OwnR row k w lo e A n c l) {r : Option Nat} (hg : w.grownBy w' r) (hne : ∀ g, r = some g → blkOf A ≠ some g) : OwnR row k w' lo e A n c l := ⟨h.1.kept hg hne, h.2⟩
theorem OwnR.low (h : OwnR row k w lo e A n c l) {r : Option Nat} (hg : w.grownBy w' r) (hr : ∀ g, r = some g → g < lo) : OwnR row k w' lo e A n c l :=
  h.kept hg (fun g e e' => by have := hr g e; have := (h.1.lt e').1; omega)
theorem OwnR.lower (h : OwnR row k w lo e A n c l) (hl : lo' ≤ lo) : OwnR row k w lo' e A n c l := ⟨h.1.lower hl, h.2⟩
theorem OwnR.alloc (h : OwnR row k w lo e A n c l) (o : Obj) : OwnR row k (w.alloc o) lo e A n c l := ⟨h.1.alloc o, h.2⟩
theorem OwnR.app {a : α} (h : OwnR row k w lo e A n c l) {A1 : Option Addr} {c1 n1 : Nat} (hn : n1 = n + 1) (h1 : Appended w lo e k A A1 n1 c1 (l.flatMap row ++ row a) w') : OwnR row k w' lo e A1 n1 c1 (l ++ [a]) := by
  subst hn
  refine ⟨?_, by simp [h.2]⟩
  rw [List.flatMap_append]
  simpa using h1.1
theorem OwnR.set1 {g i j p : Nat} {a a' : α} {u : Value} (hrow : ∀ a, (row a).length = k) (h : OwnR row k w lo e (some ⟨g, 0, none⟩) n c l) (hi : l[i]? = some a) (hj : j < k) (hr : row a' = (row a).set j u) (hp : p = i * k + j) : OwnR row k (w.setCell ⟨g, p, none⟩ u) lo e (some ⟨g, 0, none⟩) n c (l.set i a') := by
  subst hp
  refine ⟨?_, by simp [h.2]⟩
  rw [← flat_set1' hrow hi hj hr]
  exact h.1.stored _ u
end
end
end Go.Proofs.YtgogiljplnninaaGreatDoor
/- Slices of ints: cells, appends; slices.Equal at two that read as the same list. Conditions: none. -/
namespace Go.Proofs.YtgogiljplnninaaGreatDoor
section
open Go.RowKit
/-- A cell that holds a number. -/
def nrow (n : Int) : List Value := [.int .i64 n]
theorem nrow_len (n : Int) : (nrow n).length = 1 := rfl
theorem nrow_map (l : List Int) : l.flatMap nrow = l.map (Value.int .i64) := by
  induction l with
  | nil => rfl
  | cons a l ih => rw [List.flatMap_cons, ih]; rfl
theorem Tryz.inT : ElemT Tryz.prog 22 3 1 8 (.int .i64 0) := elemT_of Tryz.underlying22 (by kernel_rfl) rfl (by decide)
/-- A slice of numbers of the call's own, and an error. -/
def InErr (l : List Int) (E : Int) (w : World) (e : Ending) (w' : World) : Prop := ∃ A n c, e = .returned (.tuple #[.slice A n c, .int .i64 E]) ∧ OwnR nrow 1 w' w.heap.size 3 A n c l ∧ w.grownBy w' none
end
end Go.Proofs.YtgogiljplnninaaGreatDoor
/- Contract of cmp.Or at some ints. Conditions: none. -/
namespace Go.Proofs.YtgogiljplnninaaGreatDoor
section
open Go.RowKit

/-- The first of some numbers that is not 0. -/
def orL : List Int → Int
  | [] => 0
  | a :: l => if a = 0 then orL l else a
theorem orL_at {l : List Int} {i : Nat} {a : Int} (h : l[i]? = some a) : orL (l.drop i) = if a = 0 then orL (l.drop (i + 1)) else a := by
  obtain ⟨h1, rfl⟩ := List.getElem?_eq_some_iff.1 h
  rw [List.drop_eq_getElem_cons h1]; rfl
set_option maxHeartbeats 2000000 in
theorem orL_any (l : List Int) (g n : Nat) (w : World) (hb : Blk w g 3 (l.map (Value.int .i64)).toArray) (hn : l.length = n) (hn2 : n ≤ 1000) : Calls Tryz.prog 120 #[.slice (some ⟨g, 0, none⟩) n n] w (Same (.int .i64 (orL l)) w) := by
  have HB := Lib.hid hb; have HN := Lib.hid hn; clear hb hn
  go_enter Tryz.func120, Tryz.ntmps120
  go_wp2_with fail
  go_loop [5, 8] (fun _ t => ∃ i : Nat, i ≤ n ∧ t = .int .i64 i ∧ orL l = orL (l.drop i)) (fun _ t => n - (intOf t).toNat)
  case atStart => exact ⟨0, Nat.zero_le _, rfl, rfl⟩
  case round =>
    obtain ⟨i, hi, rfl, he⟩ := hrel
    have HE := Lib.hid he; clear he
    by_cases hlt : i < n
    · obtain ⟨a, ha⟩ : ∃ a, l[i]? = some a := ⟨_, List.getElem?_eq_getElem (by rw [HN.out]; exact hlt)⟩
      have kc : w.cell? ⟨g, i, none⟩ = some (.int .i64 a) := by rw [HB.out.cell i]; simp [ha]
      have HA := Lib.hid (orL_at ha); clear ha
      by_cases hz : a = 0
      · have q : (a != 0) = false := by simp [hz]
        have HS := Lib.hid (show orL l = orL (l.drop (i + 1)) by rw [HE.out, HA.out, if_pos hz])
        clear hz
        go_wp2_with fail
        go_round
        case rel => exact ⟨i + 1, by omega, by go_num, HS.out⟩
        case measure => simp [intOf]; omega
      · have q : (a != 0) = true := by simpa using hz
        have HS := Lib.hid (show orL l = a by rw [HE.out, HA.out, if_neg hz])
        clear hz
        go_wp2_with fail
        go_ret
        exact ⟨by rw [HS.out]; rfl, rfl⟩
    · obtain rfl : i = n := by omega
      have HS := Lib.hid (show orL l = 0 by rw [HE.out, List.drop_eq_nil_of_le (by rw [HN.out]; exact Nat.le_refl _)]; rfl)
      go_wp2_with fail
      go_ret
      exact ⟨by rw [HS.out]; rfl, rfl⟩
/-- Two lists, place by place. -/
def cmpLL {α : Type} (f : α → α → Int) : List α → List α → Int
  | [], [] => 0
  | [], _ :: _ => -1
  | _ :: _, [] => 1
  | a :: l, b :: m => if f a b = 0 then cmpLL f l m else f a b
section
variable {α : Type} {f : α → α → Int}
theorem cmpLL_drop {l m : List α} {i : Nat} {a b : α} (hl : l[i]? = some a) (hm : m[i]? = some b) : cmpLL f (l.drop i) (m.drop i) = if f a b = 0 then cmpLL f (l.drop (i + 1)) (m.drop (i + 1)) else f a b := by
  obtain ⟨h1, rfl⟩ := List.getElem?_eq_some_iff.1 hl
  obtain ⟨h2, rfl⟩ := List.getElem?_eq_some_iff.1 hm
  rw [List.drop_eq_getElem_cons h1, List.drop_eq_getElem_cons h2, cmpLL]
theorem cmpLL_gt {l m : List α} {i : Nat} (hl : i < l.length) (hm : m.length ≤ i) : cmpLL f (l.drop i) (m.drop i) = 1 := by
  rw [List.drop_eq_nil_of_le hm, List.drop_eq_getElem_cons hl]; rfl
theorem cmpLL_end {l m : List α} {i : Nat} (hl : l.length = i) : cmpLL f (l.drop i) (m.drop i) = if i < m.length then -1 else 0 := by
  rw [List.drop_eq_nil_of_le (by omega)]
  by_cases h : i < m.length
  · rw [if_pos h, List.drop_eq_getElem_cons h]; rfl
  · rw [if_neg h, List.drop_eq_nil_of_le (by omega)]; rfl
end
end
end Go.Proofs.YtgogiljplnninaaGreatDoor
/- Beacons as they lie in memory, and what is wrong with them, in plain Lean. Conditions: none. -/
namespace Go.Proofs.YtgogiljplnninaaGreatDoor
section
open Go.RowKit

/-- A string of small bytes. -/
def ascB (s : ByteArray) : Prop := ∀ b ∈ s.data.toList, b.toNat < 128
/-- A byte that nobody prints. -/
def ctl1 (b : Nat) : Bool := decide (b < 32) || b == 127
def ctlB (l : List UInt8) : Bool := l.any fun b => ctl1 b.toNat
/-- A plain string, of small bytes. -/
def plB (s : ByteArray) : Bool := !Lib.hasPrefix s.data.toList [32] && !Lib.hasSuffix s.data.toList [32] && !Lib.contains s.data.toList [32, 32] && !ctlB s.data.toList
theorem sz_len (s : ByteArray) : s.data.toList.length = s.size := Array.length_toList
/-- The document's word for the same. -/
theorem idxFrom_ctl (s : ByteArray) (ha : ascB s) : ∀ (f pos : Nat), s.size ≤ pos + f → decide (0 ≤ Lib.idxFuncFrom ctl1 true s f pos) = ctlB (s.data.toList.drop pos)
  | 0, pos, h => by
    rw [List.drop_eq_nil_of_le (by rw [sz_len]; exact h)]
    rfl
  | f + 1, pos, h => by
    unfold Lib.idxFuncFrom
    by_cases hp : pos < s.size
    · have hl : pos < s.data.toList.length := by rw [sz_len]; exact hp
      have hb : s[pos].toNat < 128 := ha _ (by
        have : s[pos] = s.data.toList[pos] := rfl
        rw [this]; exact List.getElem_mem hl)
      rw [if_pos hp, decode_ascii s pos hp hb, List.drop_eq_getElem_cons hl]
      have hc : ctlB (s.data.toList[pos] :: s.data.toList.drop (pos + 1)) = (ctl1 s[pos].toNat || ctlB (s.data.toList.drop (pos + 1))) := rfl
      rw [hc]
      dsimp only
      cases hq : ctl1 s[pos].toNat
      · rw [if_neg (by decide), idxFrom_ctl s ha f (pos + 1) (by omega)]; rfl
      · rw [if_pos rfl]
        simp
    · rw [if_neg hp, List.drop_eq_nil_of_le (by rw [sz_len]; exact Nat.le_of_not_lt hp)]
      rfl
theorem idx_ctl (s : ByteArray) (ha : ascB s) : decide (0 ≤ Lib.idxFunc ctl1 true s) = ctlB s.data.toList := by
  unfold Lib.idxFunc
  exact idxFrom_ctl s ha s.size 0 (by omega)
theorem dropWhile_len {α : Type} (p : α → Bool) : ∀ l : List α, (l.dropWhile p).length ≤ l.length
  | [] => Nat.le_refl _
  | a :: l => by
    rw [List.dropWhile_cons]
    cases p a
    · exact Nat.le_refl _
    · simp only [if_true]
      have := dropWhile_len p l
      simp only [List.length_cons]; omega
theorem dropWhile_self {α : Type} (p : α → Bool) (a : α) (l : List α) : (a :: l).dropWhile p = a :: l ↔ p a = false := by
  rw [List.dropWhile_cons]
  cases h : p a
  · simp
  · simp only [if_true]
    constructor
    · intro e
      have := dropWhile_len p l
      rw [e] at this
      simp only [List.length_cons] at this; omega
    · intro e; cases e
theorem pre_one (l : List UInt8) (c : UInt8) : l.dropWhile (· == c) = l ↔ Lib.hasPrefix l [c] = false := by
  cases l with
  | nil => simp [Lib.hasPrefix]
  | cons a l =>
    rw [dropWhile_self]
    simp only [Lib.hasPrefix, List.isPrefixOf, Bool.and_true]
    constructor
    · intro h; rw [beq_eq_false_iff_ne] at h ⊢; exact fun e => h e.symm
    · intro h; rw [beq_eq_false_iff_ne] at h ⊢; exact fun e => h e.symm
theorem suf_one (l : List UInt8) (c : UInt8) : Lib.trimRightB l c = l ↔ Lib.hasSuffix l [c] = false := by
  have h1 : Lib.trimRightB l c = l ↔ l.reverse.dropWhile (· == c) = l.reverse := by
    unfold Lib.trimRightB
    constructor
    · intro h
      have := congrArg List.reverse h
      rwa [List.reverse_reverse] at this
    · intro h; rw [h, List.reverse_reverse]
  rw [h1, pre_one]
  have : Lib.hasSuffix l [c] = Lib.hasPrefix l.reverse [c] := by simp [Lib.hasSuffix, Lib.hasPrefix, List.isSuffixOf]
  rw [this]
theorem trim_one_iff (l : List UInt8) (c : UInt8) : Lib.trimB l c = l ↔ (Lib.hasPrefix l [c] = false ∧ Lib.hasSuffix l [c] = false) := by
  unfold Lib.trimB Lib.trimLeftB
  constructor
  · intro h
    have hl := congrArg List.length h
    have h1 := dropWhile_len (· == c) (Lib.trimRightB l c)
    have h2 : (Lib.trimRightB l c).length ≤ l.length := by
      unfold Lib.trimRightB
      have := dropWhile_len (· == c) l.reverse
      simpa using this
    have hr : Lib.trimRightB l c = l := by
      unfold Lib.trimRightB at *
      have h3 : (l.reverse.dropWhile (· == c)).length = l.reverse.length := by simp at h1 h2 hl ⊢; omega
      have h4 : l.reverse.dropWhile (· == c) = l.reverse := by
        have hsuf := List.dropWhile_suffix (p := (· == c)) (l := l.reverse)
        exact hsuf.eq_of_length h3
      rw [h4, List.reverse_reverse]
    rw [hr] at h
    exact ⟨(pre_one l c).1 h, (suf_one l c).1 hr⟩
  · rintro ⟨h1, h2⟩
    rw [(suf_one l c).2 h2]
    exact (pre_one l c).2 h1
/-- Both words for 'plain'. -/
theorem plain_doc (s : ByteArray) (ha : ascB s) : (!decide (0 ≤ Lib.idxFunc ctl1 true s) && ((⟨(Lib.trimB s.data.toList 32).toArray⟩ : ByteArray).toList == s.toList) && !Lib.contains s.data.toList [32, 32]) = plB s := by
  rw [idx_ctl s ha]
  have ht : ((⟨(Lib.trimB s.data.toList 32).toArray⟩ : ByteArray).toList == s.toList) = (!Lib.hasPrefix s.data.toList [32] && !Lib.hasSuffix s.data.toList [32]) := by
    rw [ByteArray.toList_eq, ByteArray.toList_eq, Bool.eq_iff_iff, beq_iff_eq]
    show Lib.trimB s.data.toList 32 = s.data.toList ↔ _
    rw [trim_one_iff, Bool.and_eq_true, Bool.not_eq_true', Bool.not_eq_true']
  rw [ht]
  unfold plB
  cases Lib.hasPrefix s.data.toList [32] <;> cases Lib.hasSuffix s.data.toList [32] <;> cases Lib.contains s.data.toList [32, 32] <;> cases ctlB s.data.toList <;> rfl

/-- A beacon. -/
structure BcV where
  psn : ByteArray
  dev : ByteArray
  st : Int
  at_ : Int
  un : Int
  note : ByteArray
deriving instance DecidableEq for BcV
def BcV.row (a : BcV) : List Value := [.string a.psn, .string a.dev, .int .i64 a.st, .int .i64 a.at_, .int .i64 a.un, .string a.note]
theorem BcV.row_len (a : BcV) : a.row.length = 6 := rfl
theorem BcV.one (z : BcV) : ∀ u ∈ z.row, u.oneCell' = true := fun u hu => by
  unfold BcV.row at hu
  simp only [List.mem_cons, List.not_mem_nil, or_false] at hu
  rcases hu with rfl | rfl | rfl | rfl | rfl | rfl <;> rfl
/-- What is known of a beacon that was drawn. -/
def BcOk (a : BcV) : Prop := (a.psn.size ≤ 1000 ∧ a.dev.size ≤ 1000 ∧ a.note.size ≤ 1000) ∧ (-1152921504606846976 ≤ a.at_ ∧ a.at_ ≤ 1152921504606846976) ∧ ascB a.note
def Bcs (w : World) (lo : Nat) (A : Option Addr) (n c : Nat) (l : List BcV) : Prop := Recs BcV.row 6 w lo A n c l ∧ ∀ a ∈ l, BcOk a
theorem Bcs.grown {w w' : World} {lo : Nat} {A : Option Addr} {n c : Nat} {l : List BcV} (h : Bcs w lo A n c l) {r : Option Nat} (hg : w.grownBy w' r) (hr : ∀ g, r = some g → g < lo) : Bcs w' lo A n c l := ⟨h.1.grown hg hr, h.2⟩
/-- The order of beacons. -/
def bcCmp (a b : BcV) : Int := orL [cmpS a.psn b.psn, cmpS a.dev b.dev, cmpZ a.at_ b.at_]
theorem bcCmp_doc (a b : BcV) : bcCmp a b = if cmpLL cmpS [a.psn, a.dev] [b.psn, b.dev] = 0 then cmpZ a.at_ b.at_ else cmpLL cmpS [a.psn, a.dev] [b.psn, b.dev] := by
  unfold bcCmp cmpLL cmpLL cmpLL orL orL orL orL
  by_cases h1 : cmpS a.psn b.psn = 0
  · simp only [h1, if_true]
    by_cases h2 : cmpS a.dev b.dev = 0
    · simp only [h2, if_true]
      by_cases h3 : cmpZ a.at_ b.at_ = 0
      · simp only [h3, if_true]
      · simp only [if_neg h3]
    · simp only [if_neg h2]
  · simp only [if_neg h1]
/-- What is wrong with a beacon by itself. -/
def bcF (a : BcV) : Int :=
  if keyOk (nb a.psn) && keyOk (nb a.dev) then (if inB a.st 0 4 then (if momB a.at_ && inB a.un a.at_ 345686400000 then (if plB a.note && decide (a.note.size ≤ 100) then 0 else 3) else 1) else 4) else 5
def bcAt (l : List BcV) (i : Nat) : Int := (l[i]?).elim 0 fun a => if bcF a = 0 then (if decide (0 < i) && (l[i - 1]?).elim false (fun b => decide (0 ≤ bcCmp b a)) then 7 else 0) else bcF a
def bcsE (l : List BcV) : Int := if 1000 < l.length then 2 else fstE (bcAt l) l.length
section
variable {l : List BcV} {i : Nat} {z b : BcV}
theorem bcAt_f (h : l[i]? = some z) (h1 : bcF z ≠ 0) : bcAt l i = bcF z := by unfold bcAt; rw [h]; exact if_neg h1
theorem bcAt_7 (h : l[i]? = some z) (h1 : bcF z = 0) (hi : 0 < i) (hb : l[i - 1]? = some b) (h7 : 0 ≤ bcCmp b z) : bcAt l i = 7 := by
  unfold bcAt; rw [h]
  show (if bcF z = 0 then _ else _) = _
  rw [if_pos h1, hb]
  simp only [Option.elim, decide_eq_true hi, decide_eq_true h7]; rfl
theorem bcAt_e (h : l[i]? = some z) (h1 : bcF z = 0) (hb : l[i - 1]? = some b) (h7 : ¬ 0 ≤ bcCmp b z) : bcAt l i = 0 := by
  unfold bcAt; rw [h]
  show (if bcF z = 0 then _ else _) = _
  rw [if_pos h1, hb]
  simp only [Option.elim, decide_eq_false h7, Bool.and_false]; rfl
theorem bcAt_z (h : l[i]? = some z) (h1 : bcF z = 0) (hi : ¬ 0 < i) : bcAt l i = 0 := by
  unfold bcAt; rw [h]
  show (if bcF z = 0 then _ else _) = _
  rw [if_pos h1, decide_eq_false hi]; rfl
theorem bcF_5 (h2 : (keyOk (nb z.psn) && keyOk (nb z.dev)) = false) : bcF z = 5 := by unfold bcF; rw [h2]; rfl
theorem bcF_4 (h2 : (keyOk (nb z.psn) && keyOk (nb z.dev)) = true) (h3 : inB z.st 0 4 = false) : bcF z = 4 := by unfold bcF; rw [h2, h3]; rfl
theorem bcF_1 (h2 : (keyOk (nb z.psn) && keyOk (nb z.dev)) = true) (h3 : inB z.st 0 4 = true) (h4 : (momB z.at_ && inB z.un z.at_ 345686400000) = false) : bcF z = 1 := by unfold bcF; rw [h2, h3, h4]; rfl
theorem bcF_3 (h2 : (keyOk (nb z.psn) && keyOk (nb z.dev)) = true) (h3 : inB z.st 0 4 = true) (h4 : (momB z.at_ && inB z.un z.at_ 345686400000) = true) (h5 : (plB z.note && decide (z.note.size ≤ 100)) = false) : bcF z = 3 := by unfold bcF; rw [h2, h3, h4, h5]; rfl
theorem bcF_0 (h2 : (keyOk (nb z.psn) && keyOk (nb z.dev)) = true) (h3 : inB z.st 0 4 = true) (h4 : (momB z.at_ && inB z.un z.at_ 345686400000) = true) (h5 : (plB z.note && decide (z.note.size ≤ 100)) = true) : bcF z = 0 := by unfold bcF; rw [h2, h3, h4, h5]; rfl
end
/-- What is known of a right beacon. -/
def BcRg (z : BcV) : Prop := keyOk (nb z.psn) = true ∧ keyOk (nb z.dev) = true ∧ (0 ≤ z.st ∧ z.st ≤ 4) ∧ (0 ≤ z.at_ ∧ z.at_ < 345686400000) ∧ (z.at_ ≤ z.un ∧ z.un ≤ 345686400000)
theorem bcF_rg {z : BcV} (h : bcF z = 0) : BcRg z := by
  cases h2 : (keyOk (nb z.psn) && keyOk (nb z.dev))
  · rw [bcF_5 h2] at h; exact absurd h (by decide)
  · cases h3 : inB z.st 0 4
    · rw [bcF_4 h2 h3] at h; exact absurd h (by decide)
    · cases h4 : (momB z.at_ && inB z.un z.at_ 345686400000)
      · rw [bcF_1 h2 h3 h4] at h; exact absurd h (by decide)
      · rw [Bool.and_eq_true] at h2 h4
        obtain ⟨h4, h5⟩ := h4
        unfold inB at h3 h5
        unfold momB inB at h4
        simp only [Bool.and_eq_true, decide_eq_true_eq] at h3 h4 h5
        exact ⟨h2.1, h2.2, h3, by omega, h5⟩
theorem bcs_all {l : List BcV} (h : bcsE l = 0) : l.length ≤ 1000 ∧ (∀ z ∈ l, BcRg z) ∧ ∀ i, 0 < i → ∀ z b, l[i]? = some z → l[i - 1]? = some b → bcCmp b z < 0 := by
  unfold bcsE at h
  split at h
  · cases h
  · refine ⟨by omega, fun z hz => ?_, fun i hi z b hz hb => ?_⟩
    · obtain ⟨i, hi⟩ := List.mem_iff_getElem?.1 hz
      have h0 := fstE_ev h i (List.getElem?_eq_some_iff.1 hi).1
      by_cases hf : bcF z = 0
      · exact bcF_rg hf
      · rw [bcAt_f hi hf] at h0
        exact absurd h0 hf
    · have h0 := fstE_ev h i (List.getElem?_eq_some_iff.1 hz).1
      by_cases hf : bcF z = 0
      · rcases Int.lt_or_le (bcCmp b z) 0 with h1 | h1
        · exact h1
        · rw [bcAt_7 hz hf hi hb h1] at h0
          exact absurd h0 (by decide)
      · rw [bcAt_f hz hf] at h0
        exact absurd h0 hf
end
end Go.Proofs.YtgogiljplnninaaGreatDoor
/- strings.Compare as a call that leaves the world as it is; an order of strings. Conditions: none. -/
namespace Go.Proofs.YtgogiljplnninaaGreatDoor
section
open Go.RowKit
theorem strCmp_any (a b : ByteArray) (w : World) : Calls Tryz.prog 119 #[.string a, .string b] w (Same (.int .i64 (cmpS a b)) w) := by
  refine (Tryz.strings_Compare a b w).mono ?_
  rintro e w' ⟨rfl, rfl⟩
  exact ⟨rfl, rfl⟩
theorem cmpS_ntrans {a b c : ByteArray} (h1 : ¬ cmpS a b < 0) (h2 : ¬ cmpS b c < 0) : ¬ cmpS a c < 0 := by
  intro h3
  have n1 := cmpS_neg a b; have n2 := cmpS_neg b c
  have r1 := cmpS_range a b; have r2 := cmpS_range b c
  by_cases e1 : cmpS a b = 0
  · rw [cmpS_eql (cmpS_zero.1 e1)] at h3; exact h2 h3
  · by_cases e2 : cmpS b c = 0
    · rw [← cmpS_eqr (cmpS_zero.1 e2)] at h3; exact h1 h3
    · have h4 : cmpS c a < 0 := cmpS_trans (b := b) (by omega) (by omega)
      have n3 := cmpS_neg a c
      omega
end
end Go.Proofs.YtgogiljplnninaaGreatDoor
/- Contracts of cmp.Compare and slices.Compare at strings. Conditions: none. -/
namespace Go.Proofs.YtgogiljplnninaaGreatDoor
section
open Go.RowKit

theorem isNaNS_any (a : ByteArray) (w : World) : Calls Tryz.prog 191 #[.string a] w (Same (.bool false) w) := by
  have q : (a.toList != a.toList) = false := by simp
  go_enter Tryz.func191, Tryz.ntmps191
  go_wp2_with fail
  go_ret
  exact ⟨rfl, rfl⟩
set_option maxHeartbeats 2000000 in
theorem cmpStr_any (a b : ByteArray) (w : World) : Calls Tryz.prog 129 #[.string a, .string b] w (Same (.int .i64 (cmpS a b)) w) := by
  have l1 := ltS_cmp a b
  have l2 := ltS_cmp b a
  have hr := cmpS_range a b
  have hn := cmpS_neg a b
  have hz := @cmpS_zero a b
  have he := eqS_nb a b
  obtain ⟨q, hq⟩ : ∃ q, cmpS a b = q := ⟨_, rfl⟩
  have HQ := Lib.hid hq
  rw [hq] at l1 hr hn hz
  rw [hn] at l2
  clear hq hn
  rcases hr with rfl | rfl | rfl
  · have d1 : Op.bytesLess a.toList b.toList = true := by rw [l1]; decide
    have d2 : Op.bytesLess b.toList a.toList = false := by rw [l2]; decide
    have d3 : (a.toList == b.toList) = false := by rw [he, beq_eq_false_iff_ne]; exact fun q => absurd (hz.2 q) (by decide)
    clear l1 l2 hz he
    go_enter Tryz.func129, Tryz.ntmps129
    go_wp2_with (first
      | (go_at_call 191; refine (isNaNS_any _ _).mono ?_; rintro e w' ⟨rfl, rfl⟩)
      | fail)
    go_ret
    exact ⟨by rw [HQ.out]; rfl, rfl⟩
  · have d3 : (a.toList == b.toList) = true := by rw [he]; simpa using hz.1 rfl
    have d1 : Op.bytesLess a.toList b.toList = false := by rw [l1]; decide
    have d2 : Op.bytesLess b.toList a.toList = false := by rw [l2]; decide
    clear l1 l2 hz he
    go_enter Tryz.func129, Tryz.ntmps129
    go_wp2_with (first
      | (go_at_call 191; refine (isNaNS_any _ _).mono ?_; rintro e w' ⟨rfl, rfl⟩)
      | fail)
    go_ret
    exact ⟨by rw [HQ.out]; rfl, rfl⟩
  · have d1 : Op.bytesLess a.toList b.toList = false := by rw [l1]; decide
    have d2 : Op.bytesLess b.toList a.toList = true := by rw [l2]; decide
    have d3 : (a.toList == b.toList) = false := by rw [he, beq_eq_false_iff_ne]; exact fun q => absurd (hz.2 q) (by decide)
    clear l1 l2 hz he
    go_enter Tryz.func129, Tryz.ntmps129
    go_wp2_with (first
      | (go_at_call 191; refine (isNaNS_any _ _).mono ?_; rintro e w' ⟨rfl, rfl⟩)
      | fail)
    go_ret
    exact ⟨by rw [HQ.out]; rfl, rfl⟩
set_option maxHeartbeats 2000000 in
theorem compareS_any (lo lo' : Nat) (A A' : Option Addr) (n c n' c' : Nat) (l m : List ByteArray) (w : World) (h : Recs srow 1 w lo A n c l) (h' : Recs srow 1 w lo' A' n' c' m) (hn : n ≤ 1000000) (_ : n' ≤ 1000000) :
    Calls Tryz.prog 69 #[.slice A n c, .slice A' n' c'] w (Same (.int .i64 (cmpLL cmpS l m)) w) := by
  have H := Lib.hid h; have H' := Lib.hid h'
  have HL := Lib.hid h.len; have HL' := Lib.hid h'.len
  clear h h'
  go_enter Tryz.func69, Tryz.ntmps69
  go_wp2_with fail
  go_loop [5, 6, 7, 8, 11] (fun _ _ _ _ t => ∃ i : Nat, i ≤ n ∧ t = .int .i64 i ∧ cmpLL cmpS l m = cmpLL cmpS (l.drop i) (m.drop i)) (fun _ _ _ _ t => n - (intOf t).toNat)
  case atStart => exact ⟨0, Nat.zero_le _, rfl, rfl⟩
  case round =>
    obtain ⟨i, hi, rfl, he⟩ := hrel
    have HE := Lib.hid he; clear he
    by_cases hlt : i < n
    · obtain ⟨g, o, z, rfl, _, _, hz, hc⟩ := H.out.get srow_len hlt
      have c0 := hc 0 _ rfl
      simp only [Nat.mul_one, Nat.add_zero] at c0
      clear hc
      by_cases hm : i < n'
      · obtain ⟨g', o', z', rfl, _, _, hz', hc'⟩ := H'.out.get srow_len hm
        have c1 := hc' 0 _ rfl
        simp only [Nat.mul_one, Nat.add_zero] at c1
        clear hc'
        have HS := Lib.hid (show cmpLL cmpS l m = if cmpS z z' = 0 then cmpLL cmpS (l.drop (i + 1)) (m.drop (i + 1)) else cmpS z z' by rw [HE.out, cmpLL_drop hz hz'])
        have d1 : decide ((n' : Int) ≤ (i : Int)) = false := decide_eq_false (by omega)
        have d1' : decide (n' ≤ i) = false := decide_eq_false (by omega)
        obtain ⟨q, hq⟩ : ∃ q, cmpS z z' = q := ⟨_, rfl⟩
        have HQ := Lib.hid hq
        clear hz hz' hq
        by_cases hq0 : q = 0
        · have b1 : (q != 0) = false := by simp [hq0]
          have HN := Lib.hid (show cmpLL cmpS l m = cmpLL cmpS (l.drop (i + 1)) (m.drop (i + 1)) by rw [HS.out, HQ.out, if_pos hq0])
          clear hq0
          go_wp2_with (first
            | (go_at_call 129; refine (cmpStr_any z z' _).mono ?_; rintro e w' ⟨rfl, rfl⟩; rw [HQ.out])
            | fail)
          go_round
          case rel => exact ⟨i + 1, by omega, by go_num, HN.out⟩
          case measure => simp [intOf]; omega
        · have b1 : (q != 0) = true := by simpa using hq0
          have HN := Lib.hid (show cmpLL cmpS l m = q by rw [HS.out, HQ.out, if_neg hq0])
          clear hq0
          go_wp2_with (first
            | (go_at_call 129; refine (cmpStr_any z z' _).mono ?_; rintro e w' ⟨rfl, rfl⟩; rw [HQ.out])
            | fail)
          go_ret
          exact ⟨by rw [HN.out]; rfl, rfl⟩
      · have HN := Lib.hid (show cmpLL cmpS l m = 1 by rw [HE.out, cmpLL_gt (by rw [HL.out]; exact hlt) (by rw [HL'.out]; omega)])
        have d1 : decide ((n' : Int) ≤ (i : Int)) = true := decide_eq_true (by omega)
        have d1' : decide (n' ≤ i) = true := decide_eq_true (by omega)
        clear hz
        go_wp2_with fail
        go_ret
        exact ⟨by rw [HN.out]; rfl, rfl⟩
    · obtain rfl : i = n := by omega
      have HN := Lib.hid (show cmpLL cmpS l m = if i < n' then -1 else 0 by rw [HE.out, cmpLL_end HL.out, HL'.out])
      by_cases hlt2 : i < n'
      · have d1 : decide ((i : Int) < (n' : Int)) = true := decide_eq_true (by omega)
        have d1' : decide (i < n') = true := decide_eq_true hlt2
        go_wp2_with fail
        go_ret
        exact ⟨by rw [HN.out, if_pos hlt2]; rfl, rfl⟩
      · have d1 : decide ((i : Int) < (n' : Int)) = false := decide_eq_false (by omega)
        have d1' : decide (i < n') = false := decide_eq_false hlt2
        go_wp2_with fail
        go_ret
        exact ⟨by rw [HN.out, if_neg hlt2]; rfl, rfl⟩
end
end Go.Proofs.YtgogiljplnninaaGreatDoor
/- Contract of the document's sign. Conditions: none. -/
namespace Go.Proofs.YtgogiljplnninaaGreatDoor
section
open Go.RowKit

def sgnZ (n : Int) : Int := if n < 0 then -1 else if 0 < n then 1 else 0
theorem sgnZ_any (n : Int) (w : World) : Calls Tryz.prog 118 #[.int .i64 n] w (Same (.int .i64 (sgnZ n)) w) := by
  by_cases h : n < 0
  · have d : decide (n < 0) = true := decide_eq_true h
    have HR := Lib.hid (show sgnZ n = -1 by unfold sgnZ; rw [if_pos h])
    clear h
    go_enter Tryz.func118, Tryz.ntmps118
    go_wp2_with fail
    go_ret
    exact ⟨by rw [HR.out]; rfl, rfl⟩
  · have d : decide (n < 0) = false := decide_eq_false h
    by_cases h2 : 0 < n
    · have d2 : decide (0 < n) = true := decide_eq_true h2
      have d3 : decide (n > 0) = true := decide_eq_true h2
      have HR := Lib.hid (show sgnZ n = 1 by unfold sgnZ; rw [if_neg h, if_pos h2])
      clear h h2
      go_enter Tryz.func118, Tryz.ntmps118
      go_wp2_with fail
      go_ret
      exact ⟨by rw [HR.out]; rfl, rfl⟩
    · have d2 : decide (0 < n) = false := decide_eq_false h2
      have d3 : decide (n > 0) = false := decide_eq_false h2
      have HR := Lib.hid (show sgnZ n = 0 by unfold sgnZ; rw [if_neg h, if_neg h2])
      clear h h2
      go_enter Tryz.func118, Tryz.ntmps118
      go_wp2_with fail
      go_ret
      exact ⟨by rw [HR.out]; rfl, rfl⟩
end
end Go.Proofs.YtgogiljplnninaaGreatDoor
/- A region that draws its order and stores at its end: loads are taken first while the first store (number b) has not come up. Over any program. Conditions: none. -/
namespace Go.Proofs.YtgogiljplnninaaGreatDoor
section
section
open Go.RowKit

theorem set_take_drop {xs : List Value} {p : Nat} (hp : p < xs.length) (v : Value) (r : List Value) : (xs.set p v).take (p + 1) ++ r ++ (xs.set p v).drop (p + 1 + r.length) = xs.take p ++ (v :: r) ++ xs.drop (p + (v :: r).length) := by
  have h : (xs.set p v)[p]? = some v := by simp [hp]
  have e1 : (xs.set p v).take (p + 1) = xs.take p ++ [v] := by
    rw [take_snoc' h, List.take_set, List.set_eq_of_length_le (by rw [List.length_take]; omega)]
  have e2 : (xs.set p v).drop (p + 1 + r.length) = xs.drop (p + 1 + r.length) := List.drop_set_of_lt (by omega)
  rw [e1, e2, List.length_cons, show p + (r.length + 1) = p + 1 + r.length by omega]
  simp
section
variable {P : Program} {lo size n c g : Nat} {e : TypeId}
theorem run_storeCells_own : ∀ (vs : List Value) (s j : Nat) (w : World) (xs : List Value), Own w lo e size (some ⟨g, 0, none⟩) n c xs → (∀ v ∈ vs, v.oneCell' = true) → s + j + vs.length ≤ n * size →
    ∃ w', (storeCells ⟨g, s, none⟩ vs j).run P w = .ok () w' ∧ Own w' lo e size (some ⟨g, 0, none⟩) n c (xs.take (s + j) ++ vs ++ xs.drop (s + j + vs.length)) ∧ w.grownBy w' (some g)
  | [], s, j, w, xs, h, _, _ => ⟨w, rfl, by simpa using h, gr_refl _ _⟩
  | v :: rest, s, j, w, xs, h, h1, hl => by
    have hlen := h.len
    have hp : s + j < n * size := by simp at hl; omega
    have hcell := h.cell hp
    rw [List.getElem?_eq_getElem (by omega)] at hcell
    have hfro := h.frozen (s + j)
    have hst : (store ((⟨g, s, none⟩ : Addr).add j) v).run P w = .ok () (w.setCell ⟨g, s + j, none⟩ v) := by
      rw [add_mk, run_store P w _ v _ (h1 v (by simp)), hcell]
      simp [hfro]
    have h2 := h.stored (s + j) v
    obtain ⟨w', hrun, h3, hg⟩ := run_storeCells_own rest s (j + 1) (w.setCell ⟨g, s + j, none⟩ v) _ h2 (fun x hx => h1 x (by simp [hx])) (by simp at hl; omega)
    refine ⟨w', ?_, ?_, gr_same (gr_setCell (gr_refl w (some g)) (.inl rfl) v) hg⟩
    · simp only [storeCells, Sem.run_bind, hst, Result.andThen_ok, hrun]
    · rw [← Nat.add_assoc, set_take_drop (by omega)] at h3
      exact h3
variable {w : World} {o : Oper} {a : Act} {K : Act → World → Prop} {Q : Exit → Act → World → Prop} {α : Type} {row : α → List Value} {k : Nat} {l : List α}
theorem wp_store_rec {ty : TypeId} (T : StructT P ty k) (hrow : ∀ a, (row a).length = k) (hk : 0 < k) (x y : Operand) (ho : o.op = .store ty x y) (i p : Nat) (hp : p = i * k) (hx : a.eval x = .pointer (some ⟨g, p, none⟩)) (z : α) (hy : a.eval y = .agg (row z).toArray)
    (h : OwnR row k w lo e (some ⟨g, 0, none⟩) n c l) (hi : i < n) (h1 : ∀ u ∈ row z, u.oneCell' = true)
    (hK : ∀ w', OwnR row k w' lo e (some ⟨g, 0, none⟩) n c (l.set i z) → w.grownBy w' (some g) → K (a.put o.dst undef) w') : o.wp P a w K Q := by
  subst hp
  obtain ⟨d, hd1, hd2, hd3⟩ := T
  have hle : i * k + k ≤ n * k := by have := Nat.mul_le_mul_right k (show i + 1 ≤ n by omega); rw [Nat.succ_mul] at this; exact this
  obtain ⟨w', hrun, h2, hg⟩ := run_storeCells_own (P := P) (row z) (i * k) 0 w _ h.1 h1 (by rw [hrow]; omega)
  obtain ⟨b, hb⟩ : ∃ b, l[i]? = some b := ⟨_, List.getElem?_eq_getElem (by rw [h.2]; exact hi)⟩
  have hf := flat_set hrow hk hb (a' := z) (ys := row z) 0 (by rw [hrow]; omega) (by rw [List.take_zero, List.nil_append, List.drop_of_length_le (by rw [hrow, hrow]; omega), List.append_nil])
  rw [hf] at h2
  cases hq : P.info? ty with
  | none => simp [hq] at hd3
  | some inf =>
    have hs : inf.size = k := by simpa [hq] using hd3
    unfold Oper.wp execOp
    have hst : (Instr.storeAt ty (.pointer (some ⟨g, i * k, none⟩)) (.agg (row z).toArray)).run P w = .ok () w' := by
      simp [Instr.storeAt, Instr.sureAddr, storeVar, sizeOf, typeInfo, hq, hs, Value.cells, hrow, hrun]
    simp only [ho, hx, hy, Sem.run_bind, Sem.run_pure, Result.andThen_ok, hst]
    exact hK w' ⟨h2, by rw [List.length_set]; exact h.2⟩ hg
end
end
section
variable {P : Program} {ops : Array Oper} {Q : Exit → Act → World → Prop} {md : Region.Mode} {S : World → Prop} {b : Nat}

/-- Whatever order is picked from here on; S holds behind every operation till number b has come up. -/
def wpAnyB (P : Program) (md : Region.Mode) (ops : Array Oper) (Q : Exit → Act → World → Prop) (S : World → Prop) (b : Nat) : Nat → Array Bool → Act → World → Prop
  | 0, listed, a, w => Region.ready md ops listed = [] ∧ Q .normal a w
  | fuel + 1, listed, a, w =>
    (Region.ready md ops listed = [] → Q .normal a w) ∧
    ∀ i ∈ Region.ready md ops listed, wpOp P ops Q i (fun a' w' => ((listed.setIfInBounds i true).getD b false = true ∨ S w') ∧ wpAnyB P md ops Q S b fuel (listed.setIfInBounds i true) a' w') a w
theorem wpAny_of_B : ∀ (fuel : Nat) (listed : Array Bool) (a : Act) (w : World), wpAnyB P md ops Q S b fuel listed a w → wpAny P md ops Q fuel listed a w
  | 0, _, _, _, h => h
  | fuel + 1, _, _, _, h => ⟨h.1, fun i hi => wpOp_mono (fun a' w' h' => wpAny_of_B fuel _ a' w' h'.2) (h.2 i hi)⟩
theorem wp_region_B {id : Nat} {a : Act} {w : World} (S : World → Prop) (b : Nat) (hm : P.follows .mixedOrders = true)
    (h : wpAnyB P .any ops Q S b ops.size (Array.replicate ops.size false) a w.drew) : (Code.region id ops true).wp P Q a w :=
  wp_region_any hm (wpAny_of_B (S := S) (b := b) _ _ _ _ h)
/-- Number b waits for number i, over at most f others. -/
def waitsT (md : Region.Mode) (ops : Array Oper) : Nat → Nat → Nat → Bool
  | 0, b, i => Region.waitsFor md ops b i
  | f + 1, b, i => Region.waitsFor md ops b i || (List.range ops.size).any fun j => Region.waitsFor md ops b j && waitsT md ops f j i
theorem waitsT_spec {listed : Array Bool} (inv : HeadInv md ops ops.size listed) : ∀ (f b i : Nat), waitsT md ops f b i = true → listed.getD b false = true → listed.getD i false = true := by
  have one : ∀ b i, Region.waitsFor md ops b i = true → listed.getD b false = true → listed.getD i false = true := fun b i h hl => by
    obtain ⟨ob, hob, e, he, hb, hon⟩ := Region.waitsFor_spec h
    have := inv.closed b ob hob hl e he hb
    rwa [hon] at this
  intro f
  induction f with
  | zero => exact one
  | succ f ih =>
    intro b i h hl
    unfold waitsT at h
    rw [Bool.or_eq_true] at h
    rcases h with h | h
    · exact one b i h hl
    · obtain ⟨j, _, hj⟩ := List.any_eq_true.1 h
      rw [Bool.and_eq_true] at hj
      exact ih j i hj.2 (one b j hj.1 hl)
/-- S where the operation looks at memory, else nothing. -/
def memS0 (S : World → Prop) : Bool → World → Prop
  | true => S
  | false => fun _ => True
theorem wpAnyB_first {i : Nat} {oi : Oper} {v : Value} (mem : Bool) (hi : ops[i]? = some oi) (hsel : ∀ (j : Nat) (o : Oper) cs b, ops[j]? = some o → o.op ≠ .select cs b)
    (hQ : ∀ c a w, Q (.panic c) (a.put oi.dst v) w → Q (.panic c) a w) (hib : i ≠ b) (hwait : mem = true → waitsT md ops 4 b i = true) :
    ∀ (fuel : Nat) (listed : Array Bool) (a : Act) (w : World), HeadInv md ops ops.size listed →
      (∀ j oj, ops[j]? = some oj → j ≠ i → listed.getD j true = false → (∀ e ∈ oj.after, Region.binds md e = true → e.on ≠ i) → oi.apart ops oj = true) →
      i ∈ Region.ready md ops listed → YieldsIf P ops (memS0 S mem) oi v a → (listed.getD b false = true ∨ S w) →
      wpAnyB P md ops Q S b fuel (listed.setIfInBounds i true) (a.put oi.dst v) w → wpAnyB P md ops Q S b (fuel + 1) listed a w := by
  have hm : ∀ (listed : Array Bool) (w : World), HeadInv md ops ops.size listed → listed.getD i true = false → (listed.getD b false = true ∨ S w) → memS0 S mem w := by
    intro listed w inv hun hS
    cases mem with
    | false => trivial
    | true =>
      rcases hS with h | h
      · have := waitsT_spec inv 4 b i (hwait rfl) h
        rw [getD_both hun] at this
        cases this
      · exact h
  intro fuel
  induction fuel with
  | zero =>
    intro listed a w inv _ hr hy hS H
    have hun := (mem_ready.1 hr).1
    refine ⟨fun h => (by rw [h] at hr; cases hr), fun j hj => ?_⟩
    by_cases hji : j = i
    · subst hji; exact hy.wpOp hi (hm _ _ inv hun hS) ⟨by rw [getD_set_ne false hib]; exact hS, H⟩
    · have := ready_mono hj hji
      rw [H.1] at this
      cases this
  | succ fuel ih =>
    intro listed a w inv hfree hr hy hS H
    have hun := (mem_ready.1 hr).1
    refine ⟨fun h => (by rw [h] at hr; cases hr), fun j hj => ?_⟩
    by_cases hji : j = i
    · subst hji; exact hy.wpOp hi (hm _ _ inv hun hS) ⟨by rw [getD_set_ne false hib]; exact hS, H⟩
    · have h1 := H.2 j (ready_mono hj hji)
      obtain ⟨hjun, oj, hoj, hall⟩ := mem_ready.1 hj
      have hjn : j < ops.size := (Array.getElem?_eq_some_iff.1 hoj).1
      have hnot : ∀ e ∈ oj.after, Region.binds md e = true → e.on ≠ i := fun e he hb heq => by
        have h1 := hall e he hb
        rw [heq, getD_both hun] at h1
        cases h1
      have h2 := wpOp_putIf hoj (hfree j oj hoj hji hjun hnot) (fun cs b => hsel i oi cs b hi) (fun cs b => hsel j oj cs b hoj) hQ hy h1
      have hfree' : ∀ k ok, ops[k]? = some ok → k ≠ i → (listed.setIfInBounds j true).getD k true = false →
          (∀ e ∈ ok.after, Region.binds md e = true → e.on ≠ i) → oi.apart ops ok = true := fun k ok hk hki hkun hno => by
        refine hfree k ok hk hki ?_ hno
        by_cases hjk : j = k
        · subst hjk; exact hjun
        · rw [getD_set_ne true hjk] at hkun; exact hkun
      refine wpOp_mono (fun a' w' h3 => ?_) h2
      have hS' : (listed.setIfInBounds j true).getD b false = true ∨ S w' := by
        rcases h3.2.1 with h | h
        · left
          rw [Array.setIfInBounds_comm _ _ (Ne.symm hji), getD_set_ne false hib] at h
          exact h
        · exact .inr h
      refine ⟨hS', ih (listed.setIfInBounds j true) a' w' (inv.set hj hjn) hfree' (ready_mono hr (Ne.symm hji)) h3.1 hS' ?_⟩
      rw [Array.setIfInBounds_comm _ _ hji]
      exact h3.2.2
/-- What has come up is closed. -/
def closedB (md : Region.Mode) (ops : Array Oper) (listed : Array Bool) : Bool :=
  decide (listed.size = ops.size) && (List.range ops.size).all fun j => !listed.getD j false || (match ops[j]? with | some o => o.after.all fun e => !Region.binds md e || listed.getD e.on false | none => true)
theorem closedB_spec {listed : Array Bool} (h : closedB md ops listed = true) : HeadInv md ops ops.size listed := by
  unfold closedB at h
  simp only [Bool.and_eq_true, decide_eq_true_eq] at h
  obtain ⟨h1, h4⟩ := h
  refine ⟨h1, fun j oj hj hl e he hb => ?_, fun t ht ht2 => by omega⟩
  have hj2 := (Array.getElem?_eq_some_iff.1 hj).1
  have := List.all_eq_true.1 h4 j (List.mem_range.2 hj2)
  rw [hl, hj] at this
  simp only [Bool.not_true, Bool.false_or] at this
  have := Array.all_eq_true_iff_forall_mem.1 this e he
  rw [hb] at this
  simpa using this
def btakeB (md : Region.Mode) (ops : Array Oper) (b : Nat) (mem : Bool) (listed : Array Bool) (k : Nat) : Bool :=
  Region.noSelect ops && decide (k ≠ b) && (!mem || waitsT md ops 4 b k) && closedB md ops listed && (Region.ready md ops listed).contains k && Region.free md ops listed k
variable {ls : List Oper}
/-- One that reckons (mem = false) or loads (mem = true). -/
theorem B_take {fuel k : Nat} {listed : Array Bool} {o : Oper} {a : Act} {w : World} (mem : Bool) (v : Value) (ho : opAt ls k = some o) (hB : btakeB md ls.toArray b mem listed k = true)
    (hQ : ∀ c a w, Q (.panic c) (a.put o.dst v) w → Q (.panic c) a w) (hw : Region.wanted o (yielded ls.toArray a.tmps) = true) (hy : ∀ w, memS0 S mem w → (execOp a.eval o).run P w = .ok (.value v) w) (hS : listed.getD b false = true ∨ S w)
    (h : wpAnyB P md ls.toArray Q S b fuel (listed.setIfInBounds k true) (a.put o.dst v) w) : wpAnyB P md ls.toArray Q S b (fuel + 1) listed a w := by
  unfold btakeB at hB
  simp only [Bool.and_eq_true, decide_eq_true_eq, Bool.or_eq_true, Bool.not_eq_true'] at hB
  obtain ⟨⟨⟨⟨⟨h1, h2⟩, h3⟩, h4⟩, h5⟩, h6⟩ := hB
  rw [opAt_eq] at ho
  exact wpAnyB_first mem ho (Region.noSelect_spec h1) hQ h2 (fun e => h3.resolve_left (by rw [e]; decide)) fuel listed a w (closedB_spec h4) (Region.free_spec ho h6) (by simpa using h5) (.inl ⟨hw, hy⟩) hS h
/-- One whose guard keeps it from running. -/
theorem B_skip {fuel k : Nat} {listed : Array Bool} {o : Oper} {a : Act} {w : World} (ho : opAt ls k = some o) (hB : btakeB md ls.toArray b false listed k = true)
    (hQ : ∀ c a w, Q (.panic c) (a.put o.dst undef) w → Q (.panic c) a w) (hw : Region.wanted o (yielded ls.toArray a.tmps) = false) (hS : listed.getD b false = true ∨ S w)
    (h : wpAnyB P md ls.toArray Q S b fuel (listed.setIfInBounds k true) (a.put o.dst undef) w) : wpAnyB P md ls.toArray Q S b (fuel + 1) listed a w := by
  unfold btakeB at hB
  simp only [Bool.and_eq_true, decide_eq_true_eq, Bool.or_eq_true, Bool.not_eq_true'] at hB
  obtain ⟨⟨⟨⟨⟨h1, h2⟩, h3⟩, h4⟩, h5⟩, h6⟩ := hB
  rw [opAt_eq] at ho
  exact wpAnyB_first false ho (Region.noSelect_spec h1) hQ h2 (fun e => by cases e) fuel listed a w (closedB_spec h4) (Region.free_spec ho h6) (by simpa using h5) (.inr ⟨hw, rfl⟩) hS h
/-- One that comes up alone. -/
theorem B_run {fuel k : Nat} {listed : Array Bool} {o : Oper} {a : Act} {w : World} (ho : opAt ls k = some o) (hr : Region.ready md ls.toArray listed = [k]) (hw : Region.wanted o (yielded ls.toArray a.tmps) = true)
    (h : ∀ K : Act → World → Prop, (∀ a' w', ((listed.setIfInBounds k true).getD b false = true ∨ S w') → wpAnyB P md ls.toArray Q S b fuel (listed.setIfInBounds k true) a' w' → K a' w') → o.wp P a w K Q) : wpAnyB P md ls.toArray Q S b (fuel + 1) listed a w := by
  refine ⟨fun h1 => (by rw [hr] at h1; cases h1), fun i hi => ?_⟩
  rw [hr] at hi
  have hik : i = k := by simpa using hi
  subst hik
  rw [opAt_eq] at ho
  unfold wpOp
  simp only [ho, hw, if_true]
  exact .inl (h _ fun a' w' h1 h2 => ⟨h1, h2⟩)
theorem B_done {listed : Array Bool} {a : Act} {w : World} (hr : Region.ready md ops listed = []) (h : Q .normal a w) : wpAnyB P md ops Q S b 0 listed a w := ⟨hr, h⟩
end
end
end Go.Proofs.YtgogiljplnninaaGreatDoor
/- Moves in drawn regions: two or three operations that come up in any order; whole loads. Conditions: none. -/
namespace Go.Proofs.YtgogiljplnninaaGreatDoor
section
open Go.RowKit

theorem exec_ldr {P : Program} {w : World} {o : Oper} {ev : Operand → Value} {ty : TypeId} {n : Nat} (T : StructT P ty n) (x : Operand) (ho : o.op = .load ty x) (a : Addr) (hx : ev x = .pointer (some a)) (cs : List Value) (hb : ∀ (j : Nat) (u : Value), cs[j]? = some u → w.cell? (a.add j) = some u) (hn : cs.length = n) :
    (execOp ev o).run P w = .ok (.value (.agg cs.toArray)) w := by
  unfold execOp
  simp only [ho, hx, Instr.loadAt, Instr.sureAddr, Sem.run_bind, Sem.run_pure, Result.andThen_ok, run_load_at T hn hb]
theorem exec_ldb {P : Program} {w : World} {o : Oper} {ev : Operand → Value} {ty : TypeId} {n : Nat} (T : StructT P ty n) (x : Operand) (ho : o.op = .load ty x) (g : Nat) (hx : ev x = .pointer (some ⟨g, 0, none⟩)) (t : TypeId) (cs : List Value) (hb : Blk w g t cs.toArray) (hn : cs.length = n) :
    (execOp ev o).run P w = .ok (.value (.agg cs.toArray)) w := by
  unfold execOp
  simp only [ho, hx, Instr.loadAt, Instr.sureAddr, Sem.run_bind, Sem.run_pure, Result.andThen_ok, run_load_at T hn (fun j u hu => by rw [add_mk, Nat.zero_add, hb.cell]; simpa using hu)]
theorem H_runTwo {P : Program} {ls : List Oper} {md : Region.Mode} {Q : Exit → Act → World → Prop} {S : World → Prop} {fuel k1 k2 : Nat} {listed : Array Bool} {o1 o2 : Oper} {a : Act} {w : World} (ho1 : opAt ls k1 = some o1) (ho2 : opAt ls k2 = some o2) (hr : Region.ready md ls.toArray listed = [k1, k2]) (hw1 : Region.wanted o1 (yielded ls.toArray a.tmps) = true) (hw2 : Region.wanted o2 (yielded ls.toArray a.tmps) = true)
    (h1 : ∀ K : Act → World → Prop, (∀ a' w', S w' → wpAnyH P md ls.toArray Q S fuel (listed.setIfInBounds k1 true) a' w' → K a' w') → o1.wp P a w K Q)
    (h2 : ∀ K : Act → World → Prop, (∀ a' w', S w' → wpAnyH P md ls.toArray Q S fuel (listed.setIfInBounds k2 true) a' w' → K a' w') → o2.wp P a w K Q) : wpAnyH P md ls.toArray Q S (fuel + 1) listed a w := by
  refine ⟨fun h => (by rw [hr] at h; cases h), fun i hi => ?_⟩
  rw [hr] at hi
  have hik : i = k1 ∨ i = k2 := by simpa using hi
  rcases hik with rfl | rfl
  · rw [opAt_eq] at ho1
    unfold wpOp
    simp only [ho1, hw1, if_true]
    exact .inl (h1 _ fun a' w' hs h => ⟨hs, h⟩)
  · rw [opAt_eq] at ho2
    unfold wpOp
    simp only [ho2, hw2, if_true]
    exact .inl (h2 _ fun a' w' hs h => ⟨hs, h⟩)
theorem H_runThree {P : Program} {ls : List Oper} {md : Region.Mode} {Q : Exit → Act → World → Prop} {S : World → Prop} {fuel k1 k2 k3 : Nat} {listed : Array Bool} {o1 o2 o3 : Oper} {a : Act} {w : World} (ho1 : opAt ls k1 = some o1) (ho2 : opAt ls k2 = some o2) (ho3 : opAt ls k3 = some o3) (hr : Region.ready md ls.toArray listed = [k1, k2, k3])
    (hw1 : Region.wanted o1 (yielded ls.toArray a.tmps) = true) (hw2 : Region.wanted o2 (yielded ls.toArray a.tmps) = true) (hw3 : Region.wanted o3 (yielded ls.toArray a.tmps) = true)
    (h1 : ∀ K : Act → World → Prop, (∀ a' w', S w' → wpAnyH P md ls.toArray Q S fuel (listed.setIfInBounds k1 true) a' w' → K a' w') → o1.wp P a w K Q)
    (h2 : ∀ K : Act → World → Prop, (∀ a' w', S w' → wpAnyH P md ls.toArray Q S fuel (listed.setIfInBounds k2 true) a' w' → K a' w') → o2.wp P a w K Q)
    (h3 : ∀ K : Act → World → Prop, (∀ a' w', S w' → wpAnyH P md ls.toArray Q S fuel (listed.setIfInBounds k3 true) a' w' → K a' w') → o3.wp P a w K Q) : wpAnyH P md ls.toArray Q S (fuel + 1) listed a w := by
  refine ⟨fun h => (by rw [hr] at h; cases h), fun i hi => ?_⟩
  rw [hr] at hi
  have hik : i = k1 ∨ i = k2 ∨ i = k3 := by simpa using hi
  rcases hik with rfl | rfl | rfl
  · rw [opAt_eq] at ho1
    unfold wpOp
    simp only [ho1, hw1, if_true]
    exact .inl (h1 _ fun a' w' hs h => ⟨hs, h⟩)
  · rw [opAt_eq] at ho2
    unfold wpOp
    simp only [ho2, hw2, if_true]
    exact .inl (h2 _ fun a' w' hs h => ⟨hs, h⟩)
  · rw [opAt_eq] at ho3
    unfold wpOp
    simp only [ho3, hw3, if_true]
    exact .inl (h3 _ fun a' w' hs h => ⟨hs, h⟩)
section
variable {P : Program} {ls : List Oper} {md : Region.Mode} {Q : Exit → Act → World → Prop} {S : World → Prop} {b : Nat}
/-- Two that can come up, either first. -/
theorem B_runTwo {fuel k1 k2 : Nat} {listed : Array Bool} {o1 o2 : Oper} {a : Act} {w : World} (ho1 : opAt ls k1 = some o1) (ho2 : opAt ls k2 = some o2) (hr : Region.ready md ls.toArray listed = [k1, k2]) (hw1 : Region.wanted o1 (yielded ls.toArray a.tmps) = true) (hw2 : Region.wanted o2 (yielded ls.toArray a.tmps) = true)
    (h1 : ∀ K : Act → World → Prop, (∀ a' w', ((listed.setIfInBounds k1 true).getD b false = true ∨ S w') → wpAnyB P md ls.toArray Q S b fuel (listed.setIfInBounds k1 true) a' w' → K a' w') → o1.wp P a w K Q)
    (h2 : ∀ K : Act → World → Prop, (∀ a' w', ((listed.setIfInBounds k2 true).getD b false = true ∨ S w') → wpAnyB P md ls.toArray Q S b fuel (listed.setIfInBounds k2 true) a' w' → K a' w') → o2.wp P a w K Q) : wpAnyB P md ls.toArray Q S b (fuel + 1) listed a w := by
  refine ⟨fun h => (by rw [hr] at h; cases h), fun i hi => ?_⟩
  rw [hr] at hi
  have hik : i = k1 ∨ i = k2 := by simpa using hi
  rcases hik with rfl | rfl
  · rw [opAt_eq] at ho1
    unfold wpOp
    simp only [ho1, hw1, if_true]
    exact .inl (h1 _ fun a' w' hs h => ⟨hs, h⟩)
  · rw [opAt_eq] at ho2
    unfold wpOp
    simp only [ho2, hw2, if_true]
    exact .inl (h2 _ fun a' w' hs h => ⟨hs, h⟩)
end
end
end Go.Proofs.YtgogiljplnninaaGreatDoor
/- What persons say through beacons, in plain Lean. Conditions: none. -/
namespace Go.Proofs.YtgogiljplnninaaGreatDoor
section
open Go.RowKit

theorem cmpZ_neg (x y : Int) : cmpZ x y < 0 ↔ x < y := by
  unfold cmpZ
  by_cases h1 : x < y
  · rw [if_pos h1]; omega
  · rw [if_neg h1]
    by_cases h2 : y < x
    · rw [if_pos h2]; omega
    · rw [if_neg h2]; omega
theorem cmpZ_pos (x y : Int) : 0 < cmpZ x y ↔ y < x := by
  unfold cmpZ
  by_cases h1 : x < y
  · rw [if_pos h1]; omega
  · rw [if_neg h1]
    by_cases h2 : y < x
    · rw [if_pos h2]; omega
    · rw [if_neg h2]; omega
theorem cmpZ_zero (x y : Int) : cmpZ x y = 0 ↔ x = y := by
  have h1 := cmpZ_neg x y
  have h2 := cmpZ_pos x y
  omega
theorem bcCmp_lt (a b : BcV) : bcCmp a b < 0 ↔ cmpS a.psn b.psn < 0 ∨ nb a.psn = nb b.psn ∧ (cmpS a.dev b.dev < 0 ∨ nb a.dev = nb b.dev ∧ a.at_ < b.at_) := by
  rw [← cmpS_zero, ← cmpS_zero]
  have h3 := cmpZ_neg a.at_ b.at_
  unfold bcCmp
  simp only [orL]
  by_cases h1 : cmpS a.psn b.psn = 0
  · rw [if_pos h1]
    by_cases h2 : cmpS a.dev b.dev = 0
    · rw [if_pos h2]
      by_cases h4 : cmpZ a.at_ b.at_ = 0
      · rw [if_pos h4]; omega
      · rw [if_neg h4]; omega
    · rw [if_neg h2]; omega
  · rw [if_neg h1]; omega
theorem cmpS_self (a : ByteArray) : cmpS a a = 0 := cmpS_zero.2 rfl
theorem bcCmp_trans {a b c : BcV} (h1 : bcCmp a b < 0) (h2 : bcCmp b c < 0) : bcCmp a c < 0 := by
  rw [bcCmp_lt] at *
  rcases h1 with h1 | ⟨e1, h1⟩
  · rcases h2 with h2 | ⟨e2, h2⟩
    · exact .inl (cmpS_trans h1 h2)
    · exact .inl (by rw [← cmpS_eqr e2]; exact h1)
  · rcases h2 with h2 | ⟨e2, h2⟩
    · exact .inl (by rw [cmpS_eql e1]; exact h2)
    · refine .inr ⟨e1.trans e2, ?_⟩
      rcases h1 with h1 | ⟨f1, h1⟩
      · rcases h2 with h2 | ⟨f2, h2⟩
        · exact .inl (cmpS_trans h1 h2)
        · exact .inl (by rw [← cmpS_eqr f2]; exact h1)
      · rcases h2 with h2 | ⟨f2, h2⟩
        · exact .inl (by rw [cmpS_eql f1]; exact h2)
        · exact .inr ⟨f1.trans f2, by omega⟩
/-- Beacons in order. -/
def BAsc (l : List BcV) : Prop := ∀ (i j : Nat) (a b : BcV), i < j → l[i]? = some a → l[j]? = some b → bcCmp a b < 0
theorem bAsc_of {l : List BcV} (h : ∀ i, 0 < i → ∀ z b, l[i]? = some z → l[i - 1]? = some b → bcCmp b z < 0) : BAsc l := by
  intro i j
  induction j with
  | zero => intro a b hij; omega
  | succ j ih =>
    intro a b hij ha hb
    have hjl : j < l.length := by have := (List.getElem?_eq_some_iff.1 hb).1; omega
    have hm := h (j + 1) (by omega) b l[j] hb (List.getElem?_eq_getElem hjl)
    by_cases e : i = j
    · subst e
      rw [List.getElem?_eq_getElem hjl] at ha
      rw [← Option.some.inj ha]
      exact hm
    · exact bcCmp_trans (ih a l[j] (by omega) ha (List.getElem?_eq_getElem hjl)) hm
/-- b counts at t: it is its person's device's last one that has begun, and it lasts. -/
def PrC (l : List BcV) (p : ByteArray) (t : Int) (b : BcV) : Prop := b ∈ l ∧ nb b.psn = nb p ∧ b.at_ ≤ t ∧ t < b.un ∧ ∀ d ∈ l, nb d.psn = nb p → nb d.dev = nb b.dev → d.at_ ≤ t → d.at_ ≤ b.at_
section
variable {l : List BcV} {p : ByteArray} {t : Int}
theorem bAsc_at (hl : BAsc l) {i j : Nat} {a b : BcV} (hij : i < j) (ha : l[i]? = some a) (hb : l[j]? = some b) (e1 : nb a.psn = nb b.psn) (e2 : nb a.dev = nb b.dev) : a.at_ < b.at_ := by
  have h := (bcCmp_lt a b).1 (hl i j a b hij ha hb)
  have z1 := cmpS_zero.2 e1
  have z2 := cmpS_zero.2 e2
  rcases h with h | ⟨_, h | h⟩ <;> omega
theorem prC_at (hl : BAsc l) {i : Nat} {b : BcV} (hb : l[i]? = some b) : PrC l p t b ↔ nb b.psn = nb p ∧ b.at_ ≤ t ∧ t < b.un ∧ ¬ (∃ d, l[i + 1]? = some d ∧ nb d.psn = nb p ∧ nb d.dev = nb b.dev ∧ d.at_ ≤ t) := by
  constructor
  · rintro ⟨_, h1, h2, h3, h4⟩
    refine ⟨h1, h2, h3, ?_⟩
    rintro ⟨d, hd, e1, e2, e3⟩
    have h5 := h4 d (List.mem_of_getElem? hd) e1 e2 e3
    have h6 := bAsc_at hl (Nat.lt_succ_self i) hb hd (h1.trans e1.symm) e2.symm
    omega
  · rintro ⟨h1, h2, h3, h4⟩
    refine ⟨List.mem_of_getElem? hb, h1, h2, h3, fun d hd e1 e2 e3 => ?_⟩
    obtain ⟨j, hj⟩ := List.mem_iff_getElem?.1 hd
    rcases Nat.lt_trichotomy j i with h | h | h
    · have := bAsc_at hl h hj hb (e1.trans h1.symm) e2
      omega
    · subst h
      rw [hb] at hj
      obtain rfl := Option.some.inj hj
      omega
    · exfalso
      have hjl := (List.getElem?_eq_some_iff.1 hj).1
      have hi1 : i + 1 < l.length := by omega
      have he := List.getElem?_eq_getElem hi1
      generalize l[i + 1] = e at he
      have c1 := (bcCmp_lt b e).1 (hl i (i + 1) b e (by omega) hb he)
      by_cases hji : j = i + 1
      · subst hji
        rw [he] at hj
        obtain rfl := Option.some.inj hj
        exact h4 ⟨_, he, e1, e2, e3⟩
      · have c2 := (bcCmp_lt e d).1 (hl (i + 1) j e d (by omega) he hj)
        have ep : nb b.psn = nb d.psn := h1.trans e1.symm
        have s1 : cmpS e.psn d.psn = - cmpS b.psn e.psn := by rw [← cmpS_eqr (a := e.psn) ep, cmpS_neg]
        have s2 : cmpS e.dev d.dev = - cmpS b.dev e.dev := by rw [cmpS_eqr (a := e.dev) e2, cmpS_neg]
        rw [← cmpS_zero, ← cmpS_zero] at c1 c2
        have k1 : cmpS b.psn e.psn = 0 := by omega
        have k2 : cmpS b.dev e.dev = 0 := by omega
        exact h4 ⟨e, he, (cmpS_zero.1 k1).symm.trans h1, (cmpS_zero.1 k2).symm, by omega⟩
/-- The last one of each device that has begun. -/
def pLast (p : ByteArray) (t : Int) (l : List BcV) : ByteArray → Option BcV := l.foldl (fun f b => if nb b.psn = nb p ∧ b.at_ ≤ t then (fun k => if nb b.dev = nb k then some b else f k) else f) (fun _ => none)
theorem pLast_snoc (p : ByteArray) (t : Int) (l : List BcV) (b : BcV) : pLast p t (l ++ [b]) = if nb b.psn = nb p ∧ b.at_ ≤ t then (fun k => if nb b.dev = nb k then some b else pLast p t l k) else pLast p t l := by
  unfold pLast
  rw [List.foldl_append]; rfl
def LsQ (p : ByteArray) (t : Int) (k : ByteArray) (d : BcV) : Prop := nb d.psn = nb p ∧ d.at_ ≤ t ∧ nb d.dev = nb k
theorem pLast_spec (p : ByteArray) (t : Int) (l : List BcV) (k : ByteArray) : ∀ m, m ≤ l.length → (pLast p t (l.take m) k = none ∧ ∀ j d, j < m → l[j]? = some d → ¬ LsQ p t k d) ∨
    ∃ b i, pLast p t (l.take m) k = some b ∧ i < m ∧ l[i]? = some b ∧ LsQ p t k b ∧ ∀ j d, i < j → j < m → l[j]? = some d → ¬ LsQ p t k d := by
  intro m
  induction m with
  | zero => intro _; exact .inl ⟨rfl, fun j d h => by omega⟩
  | succ m ih =>
    intro hm
    have hz := List.getElem?_eq_getElem (show m < l.length by omega)
    rw [List.take_succ_eq_append_getElem (by omega), pLast_snoc]
    generalize l[m] = z at hz
    by_cases h1 : nb z.psn = nb p ∧ z.at_ ≤ t
    · rw [if_pos h1]
      by_cases h2 : nb z.dev = nb k
      · exact .inr ⟨z, m, if_pos h2, by omega, hz, ⟨h1.1, h1.2, h2⟩, fun j d h h' => by omega⟩
      · have hq : ¬ LsQ p t k z := fun h => h2 h.2.2
        have step : ∀ j d, j < m + 1 → l[j]? = some d → (j < m → ¬ LsQ p t k d) → ¬ LsQ p t k d := fun j d hj hd hn => by
          by_cases e : j = m
          · subst e; rw [hz] at hd; rw [← Option.some.inj hd]; exact hq
          · exact hn (by omega)
        rw [if_neg h2]
        rcases ih (by omega) with ⟨a1, a2⟩ | ⟨b, i, a1, a2, a3, a4, a5⟩
        · exact .inl ⟨a1, fun j d hj hd => step j d hj hd (fun h => a2 j d h hd)⟩
        · exact .inr ⟨b, i, a1, by omega, a3, a4, fun j d h hj hd => step j d hj hd (fun h' => a5 j d h h' hd)⟩
    · rw [if_neg h1]
      have hq : ¬ LsQ p t k z := fun h => h1 ⟨h.1, h.2.1⟩
      have step : ∀ j d, j < m + 1 → l[j]? = some d → (j < m → ¬ LsQ p t k d) → ¬ LsQ p t k d := fun j d hj hd hn => by
        by_cases e : j = m
        · subst e; rw [hz] at hd; rw [← Option.some.inj hd]; exact hq
        · exact hn (by omega)
      rcases ih (by omega) with ⟨a1, a2⟩ | ⟨b, i, a1, a2, a3, a4, a5⟩
      · exact .inl ⟨a1, fun j d hj hd => step j d hj hd (fun h => a2 j d h hd)⟩
      · exact .inr ⟨b, i, a1, by omega, a3, a4, fun j d h hj hd => step j d hj hd (fun h' => a5 j d h h' hd)⟩
theorem pLast_dev {k : ByteArray} {b : BcV} (h : pLast p t l k = some b) : nb b.dev = nb k ∧ b ∈ l := by
  rcases pLast_spec p t l k l.length (Nat.le_refl _) with ⟨a1, _⟩ | ⟨b', i, a1, _, a3, a4, _⟩
  · rw [List.take_length] at a1; rw [a1] at h; cases h
  · rw [List.take_length] at a1; rw [a1] at h
    obtain rfl := Option.some.inj h
    exact ⟨a4.2.2, List.mem_of_getElem? a3⟩
theorem prC_last (hl : BAsc l) (b : BcV) : PrC l p t b ↔ (∃ k, pLast p t l k = some b) ∧ t < b.un := by
  constructor
  · rintro ⟨hb, h1, h2, h3, h4⟩
    refine ⟨⟨b.dev, ?_⟩, h3⟩
    obtain ⟨i, hi⟩ := List.mem_iff_getElem?.1 hb
    have hil := (List.getElem?_eq_some_iff.1 hi).1
    rcases pLast_spec p t l b.dev l.length (Nat.le_refl _) with ⟨a1, a2⟩ | ⟨b', i', a1, a2, a3, a4, a5⟩
    · exact absurd ⟨h1, h2, rfl⟩ (a2 i b hil hi)
    · rw [List.take_length] at a1
      rw [a1]
      rcases Nat.lt_trichotomy i i' with h | h | h
      · have h5 := bAsc_at hl h hi a3 (h1.trans a4.1.symm) a4.2.2.symm
        have h6 := h4 b' (List.mem_of_getElem? a3) a4.1 a4.2.2 a4.2.1
        omega
      · subst h; rw [a3] at hi; exact hi
      · exact absurd ⟨h1, h2, rfl⟩ (a5 i b h hil hi)
  · rintro ⟨⟨k, hk⟩, h3⟩
    rcases pLast_spec p t l k l.length (Nat.le_refl _) with ⟨a1, a2⟩ | ⟨b', i, a1, a2, a3, a4, a5⟩
    · rw [List.take_length] at a1; rw [a1] at hk; cases hk
    · rw [List.take_length] at a1
      rw [a1] at hk
      obtain rfl := Option.some.inj hk
      refine ⟨List.mem_of_getElem? a3, a4.1, a4.2.1, h3, fun d hd e1 e2 e3 => ?_⟩
      obtain ⟨j, hj⟩ := List.mem_iff_getElem?.1 hd
      have hjl := (List.getElem?_eq_some_iff.1 hj).1
      rcases Nat.lt_trichotomy j i with h | h | h
      · have := bAsc_at hl h hj a3 (e1.trans a4.1.symm) e2
        omega
      · subst h; rw [a3] at hj; obtain rfl := Option.some.inj hj; omega
      · exact absurd ⟨e1, e3, e2.trans a4.2.2⟩ (a5 j d h hjl hj)
/-! Which one counts. -/
def bc0 : BcV := ⟨⟨#[]⟩, ⟨#[]⟩, 0, 0, 0, ⟨#[]⟩⟩
/-- d counts more than c. -/
def PrB (d c : BcV) : Prop := c.st < d.st ∨ (d.st = c.st ∧ (c.at_ < d.at_ ∨ (d.at_ = c.at_ ∧ cmpS d.dev c.dev < 0)))
def IsW (S : BcV → Prop) (f : Bool) (b : BcV) : Prop := (f = true ∧ S b ∧ ∀ d, S d → ¬ PrB d b) ∨ (f = false ∧ b = bc0 ∧ ∀ d, ¬ S d)
theorem PrB.irr (b : BcV) : ¬ PrB b b := by
  have := cmpS_self b.dev
  unfold PrB; omega
theorem PrB.trans {a b c : BcV} (h1 : PrB a b) (h2 : PrB b c) : PrB a c := by
  unfold PrB at *
  rcases h1 with h1 | ⟨e1, h1 | ⟨f1, h1⟩⟩ <;> rcases h2 with h2 | ⟨e2, h2 | ⟨f2, h2⟩⟩
  all_goals first | (left; omega) | (right; refine ⟨by omega, ?_⟩; first | (left; omega) | (right; exact ⟨by omega, cmpS_trans h1 h2⟩))
section
variable {S S' : BcV → Prop} {f : Bool} {b c : BcV}
theorem IsW.same (h : IsW S f b) (e : ∀ d, S' d ↔ S d) : IsW S' f b := by
  rcases h with ⟨h1, h2, h3⟩ | ⟨h1, h2, h3⟩
  · exact .inl ⟨h1, (e b).2 h2, fun d hd => h3 d ((e d).1 hd)⟩
  · exact .inr ⟨h1, h2, fun d hd => h3 d ((e d).1 hd)⟩
theorem IsW.put (h : IsW S f b) (e : ∀ d, S' d ↔ S d ∨ d = c) (hc : f = false ∨ PrB c b) : IsW S' true c := by
  refine .inl ⟨rfl, (e c).2 (.inr rfl), fun d hd => ?_⟩
  rcases (e d).1 hd with h1 | rfl
  · rcases h with ⟨_, _, h3⟩ | ⟨_, _, h3⟩
    · rcases hc with hc | hc
      · subst hc; contradiction
      · exact fun h4 => h3 d h1 (h4.trans hc)
    · exact absurd h1 (h3 d)
  · exact PrB.irr _
theorem IsW.stay (h : IsW S f b) (e : ∀ d, S' d ↔ S d ∨ d = c) (hf : f = true) (hc : ¬ PrB c b) : IsW S' f b := by
  subst hf
  rcases h with ⟨_, h2, h3⟩ | ⟨h1, _⟩
  · refine .inl ⟨rfl, (e b).2 (.inl h2), fun d hd => ?_⟩
    rcases (e d).1 hd with h1 | rfl
    · exact h3 d h1
    · exact hc
  · cases h1
end
open Classical in
/-- What is known of a person at a moment. -/
noncomputable def prs (l : List BcV) (p : ByteArray) (t : Int) : Bool × BcV := if h : ∃ q : Bool × BcV, IsW (PrC l p t) q.1 q.2 then h.choose else (false, bc0)
theorem prC_one (hl : BAsc l) {b c : BcV} (h1 : PrC l p t b) (h2 : PrC l p t c) (n1 : ¬ PrB b c) (n2 : ¬ PrB c b) : b = c := by
  have e : nb b.dev = nb c.dev := by
    rw [← cmpS_zero]
    have := cmpS_neg b.dev c.dev
    unfold PrB at n1 n2
    omega
  have ea : b.at_ = c.at_ := by
    have x1 := h1.2.2.2.2 c h2.1 h2.2.1 e.symm h2.2.2.1
    have x2 := h2.2.2.2.2 b h1.1 h1.2.1 e h1.2.2.1
    omega
  obtain ⟨i, hi⟩ := List.mem_iff_getElem?.1 h1.1
  obtain ⟨j, hj⟩ := List.mem_iff_getElem?.1 h2.1
  rcases Nat.lt_trichotomy i j with h | h | h
  · have := bAsc_at hl h hi hj (h1.2.1.trans h2.2.1.symm) e; omega
  · subst h; rw [hi] at hj; exact Option.some.inj hj
  · have := bAsc_at hl h hj hi (h2.2.1.trans h1.2.1.symm) e.symm; omega
theorem prs_of (hl : BAsc l) {f : Bool} {b : BcV} (h : IsW (PrC l p t) f b) : prs l p t = (f, b) := by
  have hx : ∃ q : Bool × BcV, IsW (PrC l p t) q.1 q.2 := ⟨(f, b), h⟩
  unfold prs
  rw [dif_pos hx]
  have hs := hx.choose_spec
  generalize hx.choose = q at hs
  obtain ⟨f', b'⟩ := q
  rcases h with ⟨rfl, h2, h3⟩ | ⟨rfl, rfl, h3⟩ <;> rcases hs with ⟨g1, g2, g3⟩ | ⟨g1, g2, g3⟩
  · dsimp only at g1 g2 g3
    rw [g1, prC_one hl g2 h2 (h3 _ g2) (g3 _ h2)]
  · exact absurd h2 (g3 _)
  · exact absurd g2 (h3 _)
  · dsimp only at g1 g2 g3
    rw [g1, g2]
theorem prs_mem {f : Bool} {b : BcV} (h : prs l p t = (f, b)) : (f = true → b ∈ l ∧ nb b.psn = nb p) ∧ (f = false → b = bc0) := by
  unfold prs at h
  split at h
  · rename_i hx
    have hs := hx.choose_spec
    rw [h] at hs
    rcases hs with ⟨g1, g2, _⟩ | ⟨g1, g2, _⟩
    · exact ⟨fun _ => ⟨g2.1, g2.2.1⟩, fun e => (by dsimp only at g1; rw [g1] at e; cases e)⟩
    · exact ⟨fun e => (by dsimp only at g1; rw [g1] at e; cases e), fun _ => g2⟩
  · cases h
    exact ⟨fun e => (by cases e), fun _ => rfl⟩
/-- The program's candidates among the first i. -/
def SyC (l : List BcV) (p : ByteArray) (t : Int) (i : Nat) (b : BcV) : Prop := ∃ j, j < i ∧ l[j]? = some b ∧ PrC l p t b
theorem syC_skip {i : Nat} {b : BcV} (hb : l[i]? = some b) (hn : ¬ PrC l p t b) (d : BcV) : SyC l p t (i + 1) d ↔ SyC l p t i d := by
  constructor
  · rintro ⟨j, h1, h2, h3⟩
    refine ⟨j, ?_, h2, h3⟩
    by_cases e : j = i
    · subst e; rw [hb] at h2; rw [← Option.some.inj h2] at h3; exact absurd h3 hn
    · omega
  · rintro ⟨j, h1, h2, h3⟩; exact ⟨j, by omega, h2, h3⟩
theorem syC_add {i : Nat} {b : BcV} (hb : l[i]? = some b) (hn : PrC l p t b) (d : BcV) : SyC l p t (i + 1) d ↔ SyC l p t i d ∨ d = b := by
  constructor
  · rintro ⟨j, h1, h2, h3⟩
    by_cases e : j = i
    · subst e; rw [hb] at h2; exact .inr (Option.some.inj h2).symm
    · exact .inl ⟨j, by omega, h2, h3⟩
  · rintro (⟨j, h1, h2, h3⟩ | rfl)
    · exact ⟨j, by omega, h2, h3⟩
    · exact ⟨i, by omega, hb, hn⟩
theorem syC_all (d : BcV) : SyC l p t l.length d ↔ PrC l p t d := by
  constructor
  · rintro ⟨j, _, _, h⟩; exact h
  · intro h
    obtain ⟨i, hi⟩ := List.mem_iff_getElem?.1 h.1
    exact ⟨i, (List.getElem?_eq_some_iff.1 hi).1, hi, h⟩
/-- The program's comparison, of a later candidate with the best so far. -/
theorem prB_prog (hl : BAsc l) {i : Nat} {b c : BcV} (hb : l[i]? = some b) (hn : PrC l p t b) (hc : SyC l p t i c) : PrB b c ↔ 0 < orL [cmpZ b.st c.st, cmpZ b.at_ c.at_] := by
  obtain ⟨j, h1, h2, h3⟩ := hc
  have hlt := (bcCmp_lt c b).1 (hl j i c b h1 h2 hb)
  have ep := cmpS_zero.2 (h3.2.1.trans hn.2.1.symm)
  have z1 := cmpZ_pos b.st c.st
  have z2 := cmpZ_zero b.st c.st
  have z3 := cmpZ_pos b.at_ c.at_
  have hd := cmpS_neg c.dev b.dev
  have z4 : 0 < orL [cmpZ b.st c.st, cmpZ b.at_ c.at_] ↔ c.st < b.st ∨ (b.st = c.st ∧ c.at_ < b.at_) := by
    simp only [orL]
    by_cases h4 : cmpZ b.st c.st = 0
    · rw [if_pos h4]
      by_cases h5 : cmpZ b.at_ c.at_ = 0
      · rw [if_pos h5]; omega
      · rw [if_neg h5]; omega
    · rw [if_neg h4]; omega
  rw [z4]
  unfold PrB
  rw [← cmpS_zero, ← cmpS_zero] at hlt
  omega
/-- The document's comparison. -/
theorem prB_doc (b c : BcV) : PrB b c ↔ 0 < cmpLL cmpZ [b.st, b.at_] [c.st, c.at_] ∨ (cmpLL cmpZ [b.st, b.at_] [c.st, c.at_] = 0 ∧ cmpS b.dev c.dev < 0) := by
  have z1 := cmpZ_pos b.st c.st
  have z2 := cmpZ_zero b.st c.st
  have z3 := cmpZ_pos b.at_ c.at_
  have z5 := cmpZ_zero b.at_ c.at_
  have z4 : cmpLL cmpZ [b.st, b.at_] [c.st, c.at_] = if cmpZ b.st c.st = 0 then cmpZ b.at_ c.at_ else cmpZ b.st c.st := by
    simp only [cmpLL]
    by_cases h4 : cmpZ b.st c.st = 0
    · rw [if_pos h4, if_pos h4]
      by_cases h5 : cmpZ b.at_ c.at_ = 0
      · rw [if_pos h5, h5]
      · rw [if_neg h5]
    · rw [if_neg h4, if_neg h4]
  rw [z4]
  unfold PrB
  by_cases h4 : cmpZ b.st c.st = 0
  · rw [if_pos h4]; omega
  · rw [if_neg h4]; omega
/-- The document's candidates among the keys that have come. -/
def DoC (f : ByteArray → Option BcV) (L : ByteArray → Bool) (t : Int) (b : BcV) : Prop := (∃ k, f k = some b ∧ L k = false) ∧ t < b.un
theorem doC_skip {f : ByteArray → Option BcV} {L : ByteArray → Bool} {x : ByteArray} {c : BcV} (hx : f x = some c) (hn : ¬ t < c.un) (d : BcV) : DoC f (fun k => L k && decide (nb k ≠ nb x)) t d ↔ DoC f L t d := by
  constructor
  · rintro ⟨⟨k, h1, h2⟩, h3⟩
    refine ⟨⟨k, h1, ?_⟩, h3⟩
    by_cases e : nb k = nb x
    · rw [nb_inj e, hx] at h1; rw [← Option.some.inj h1] at h3; exact absurd h3 hn
    · simpa [e] using h2
  · rintro ⟨⟨k, h1, h2⟩, h3⟩; exact ⟨⟨k, h1, by simp [h2]⟩, h3⟩
theorem doC_add {f : ByteArray → Option BcV} {L : ByteArray → Bool} {x : ByteArray} {c : BcV} (hx : f x = some c) (hn : t < c.un) (d : BcV) : DoC f (fun k => L k && decide (nb k ≠ nb x)) t d ↔ DoC f L t d ∨ d = c := by
  constructor
  · rintro ⟨⟨k, h1, h2⟩, h3⟩
    by_cases e : nb k = nb x
    · rw [nb_inj e, hx] at h1; exact .inr (Option.some.inj h1).symm
    · exact .inl ⟨⟨k, h1, by simpa [e] using h2⟩, h3⟩
  · rintro (⟨⟨k, h1, h2⟩, h3⟩ | rfl)
    · exact ⟨⟨k, h1, by simp [h2]⟩, h3⟩
    · exact ⟨⟨x, hx, by simp⟩, hn⟩
theorem doC_all (hl : BAsc l) {L : ByteArray → Bool} (hL : ∀ k, L k = false) (d : BcV) : PrC l p t d ↔ DoC (pLast p t l) L t d := by
  rw [prC_last hl]
  constructor
  · rintro ⟨⟨k, h1⟩, h2⟩; exact ⟨⟨k, h1, hL k⟩, h2⟩
  · rintro ⟨⟨k, h1, _⟩, h2⟩; exact ⟨⟨k, h1⟩, h2⟩
end
end
end Go.Proofs.YtgogiljplnninaaGreatDoor
/- A place of an own slice of one-cell elements is stored; the places behind one are cleared. Over any program. Conditions: none. -/
namespace Go.Proofs.YtgogiljplnninaaGreatDoor
section
open Go.RowKit

section
variable {P : Program} {lo n c g : Nat} {e : TypeId} {w : World} {o : Oper} {a : Act} {K : Act → World → Prop} {Q : Exit → Act → World → Prop} {α : Type} {row : α → List Value} {l : List α}
theorem flat_one (hrow : ∀ a, (row a).length = 1) {i : Nat} (hi : i < l.length) {z : α} {v : Value} (hz : row z = [v]) : (l.flatMap row).take i ++ [v] ++ (l.flatMap row).drop (i + 1) = (l.set i z).flatMap row := by
  have h := flat_set hrow (by decide) (List.getElem?_eq_getElem hi) (a' := z) (ys := [v]) 0 (by simp) (by rw [hz, List.take_zero, List.nil_append, List.drop_of_length_le (by rw [hrow]; simp), List.append_nil])
  simpa [Nat.mul_one] using h
theorem wp_store_one {ty : TypeId} (hsz : (P.info? ty).map (·.size) = some 1) (hrow : ∀ a, (row a).length = 1) (x y : Operand) (ho : o.op = .store ty x y) (i : Nat) (hx : a.eval x = .pointer (some ⟨g, i, none⟩)) (z : α) (v : Value) (hy : a.eval y = v) (hv : v.cells = #[v]) (hz : row z = [v])
    (h : OwnR row 1 w lo e (some ⟨g, 0, none⟩) n c l) (hi : i < n) (h1 : v.oneCell' = true)
    (hK : ∀ w', OwnR row 1 w' lo e (some ⟨g, 0, none⟩) n c (l.set i z) → w.grownBy w' (some g) → K (a.put o.dst undef) w') : o.wp P a w K Q := by
  obtain ⟨w', hrun, h2, hg⟩ := run_storeCells_own (P := P) [v] i 0 w _ h.1 (by intro u hu; rw [List.mem_singleton.1 hu]; exact h1) (by simp; omega)
  have hf := flat_one hrow (l := l) (by rw [h.2]; exact hi) hz
  have h3 : Own w' lo e 1 (some ⟨g, 0, none⟩) n c ((l.set i z).flatMap row) := by rw [← hf]; simpa using h2
  cases hq : P.info? ty with
  | none => simp [hq] at hsz
  | some inf =>
    have hs : inf.size = 1 := by simpa [hq] using hsz
    unfold Oper.wp execOp
    have hst : (Instr.storeAt ty (.pointer (some ⟨g, i, none⟩)) v).run P w = .ok () w' := by
      simp [Instr.storeAt, Instr.sureAddr, storeVar, sizeOf, typeInfo, hq, hs, hv, hrun]
    simp only [ho, hx, hy, Sem.run_bind, Sem.run_pure, Result.andThen_ok, hst]
    exact hK w' ⟨h3, by rw [List.length_set]; exact h.2⟩ hg
theorem wpl_store_one {ops : Array Oper} {rest : List Oper} {ty : TypeId} (hgd : o.guard = none) (hsz : (P.info? ty).map (·.size) = some 1) (hrow : ∀ a, (row a).length = 1) (x y : Operand) (ho : o.op = .store ty x y) (i : Nat) (hx : a.eval x = .pointer (some ⟨g, i, none⟩)) (z : α) (v : Value) (hy : a.eval y = v) (hv : v.cells = #[v]) (hz : row z = [v])
    (h : OwnR row 1 w lo e (some ⟨g, 0, none⟩) n c l) (hi : i < n) (h1 : v.oneCell' = true)
    (hK : ∀ w', OwnR row 1 w' lo e (some ⟨g, 0, none⟩) n c (l.set i z) → w.grownBy w' (some g) → wpList P ops Q rest (a.put o.dst undef) w') : wpList P ops Q (o :: rest) a w :=
  wpList_plain hgd fun _ hk => wp_store_one hsz hrow x y ho i hx z v hy hv hz h hi h1 fun w' h2 hg => hk _ _ (hK w' h2 hg)
theorem wp_store_cell {ty : TypeId} (hsz : (P.info? ty).map (·.size) = some 1) (x y : Operand) (ho : o.op = .store ty x y) (b i : Nat) (hx : a.eval x = .pointer (some ⟨b, i, none⟩)) (v : Value) (hy : a.eval y = v) (hv : v.cells = #[v]) (h1 : v.oneCell' = true)
    (u : Value) (hc : w.cell? ⟨b, i, none⟩ = some u) (hf : w.frozen? ⟨b, i, none⟩ = false) (hK : K (a.put o.dst undef) (w.setCell ⟨b, i, none⟩ v)) : o.wp P a w K Q := by
  cases hq : P.info? ty with
  | none => simp [hq] at hsz
  | some inf =>
    have hs : inf.size = 1 := by simpa [hq] using hsz
    have hrun : (storeCells ⟨b, i, none⟩ [v] 0).run P w = .ok () (w.setCell ⟨b, i, none⟩ v) := by
      have hst : (store ((⟨b, i, none⟩ : Addr).add 0) v).run P w = .ok () (w.setCell ⟨b, i, none⟩ v) := by
        rw [add_mk, Nat.add_zero, run_store P w _ v _ h1, hc]
        simp [hf]
      simp only [storeCells, Sem.run_bind, hst, Result.andThen_ok]
      rfl
    unfold Oper.wp execOp
    have hst : (Instr.storeAt ty (.pointer (some ⟨b, i, none⟩)) v).run P w = .ok () (w.setCell ⟨b, i, none⟩ v) := by
      simp [Instr.storeAt, Instr.sureAddr, storeVar, sizeOf, typeInfo, hq, hs, hv, hrun]
    simp only [ho, hx, hy, Sem.run_bind, Sem.run_pure, Result.andThen_ok, hst]
    exact hK
/-- The places from i on are cleared. -/
theorem run_clear_own {t ty : TypeId} {z : Value} (ht : P.underlying t = some (.slice e)) (hv : ∀ w, (zeroValue e).run P w = .ok z w) (hz : z.cells = #[z]) (h1 : z.oneCell' = true) {xs : List Value} (h : Own w lo e 1 (some ⟨g, 0, none⟩) n c xs) (i : Nat) (hi : i ≤ n) (A : Option Addr) (hA : i < n → A = some ⟨g, i, none⟩) (m cc : Nat) (hm : m = n - i) :
    ∃ w', (Builtin.clear_ #[t] ty #[.slice A m cc]).run P w = .ok (.tuple #[]) w' ∧ Own w' lo e 1 (some ⟨g, 0, none⟩) n c (xs.take i ++ List.replicate m z) ∧ w.grownBy w' (some g) := by
  subst hm
  by_cases hlt : i < n
  · rw [hA hlt]
    have hzc : (Builtin.zeroCells z.cells (n - i)).toList = List.replicate (n - i) z := by rw [hz, zeroCells_one]; simp
    obtain ⟨w', hrun, h2, hg⟩ := run_storeCells_own (P := P) (List.replicate (n - i) z) i 0 w xs h (fun v hv' => by rw [List.eq_of_mem_replicate hv']; exact h1) (by simp; omega)
    refine ⟨w', ?_, ?_, hg⟩
    · obtain ⟨k, hk⟩ : ∃ k, n - i = k + 1 := ⟨n - i - 1, by omega⟩
      rw [hk] at hzc hrun ⊢
      simp [Builtin.clear_, run_underlying ht, hv, hzc, hrun]
    · have hl := h.len
      rw [List.drop_of_length_le (by simp; omega), List.append_nil] at h2
      simpa using h2
  · have h0 : n - i = 0 := by omega
    rw [h0]
    refine ⟨w, ?_, ?_, gr_refl _ _⟩
    · cases A <;> simp [Builtin.clear_, run_underlying ht]
    · have hl := h.len
      rw [List.take_of_length_le (by omega)]; simpa using h
end
end
end Go.Proofs.YtgogiljplnninaaGreatDoor
/- The builtin clear at a slice of records: the places from one on are cleared. Conditions: none. -/
namespace Go.Proofs.YtgogiljplnninaaGreatDoor
section
open Go.RowKit
variable {P : Program}

theorem zero_mem {zs : Array Value} (h1 : ∀ v ∈ zs.toList, v.oneCell' = true) (hk : 0 < zs.size) (n : Nat) : ∀ v ∈ (Builtin.zeroCells zs n).toList, v.oneCell' = true := by
  intro v hv
  unfold Builtin.zeroCells at hv
  rw [Array.toList_map] at hv
  obtain ⟨i, _, rfl⟩ := List.mem_map.1 hv
  have hlt : i % zs.size < zs.size := Nat.mod_lt _ hk
  rw [getElem!_pos zs (i % zs.size) hlt]
  exact h1 _ (Array.getElem_mem_toList hlt)
theorem run_clear_rows {w : World} {lo n c g k : Nat} {e t : TypeId} {z : Value} (ht : P.underlying t = some (.slice e)) (hv : ∀ w, (zeroValue e).run P w = .ok z w) (hz : z.cells.size = k) (hk : 0 < k) (h1 : ∀ v ∈ z.cells.toList, v.oneCell' = true) {xs : List Value} (h : Own w lo e k (some ⟨g, 0, none⟩) n c xs) (i p : Nat) (hp : p = i * k) (hi : i < n) (m cc : Nat) (hm : m = n - i) :
    ∃ w', (∀ ty, (Builtin.clear_ #[t] ty #[.slice (some ⟨g, p, none⟩) m cc]).run P w = .ok (.tuple #[]) w') ∧ Own w' lo e k (some ⟨g, 0, none⟩) i c (xs.take (i * k)) ∧ w.grownBy w' (some g) := by
  subst hm hp
  have hl := h.len
  have hle : i * k + (n - i) * k = n * k := by rw [← Nat.add_mul]; congr 1; omega
  have hzl : (Builtin.zeroCells z.cells (n - i)).toList.length = (n - i) * k := by
    unfold Builtin.zeroCells
    simp [hz]
  obtain ⟨w', hrun, h2, hg⟩ := run_storeCells_own (P := P) (Builtin.zeroCells z.cells (n - i)).toList (i * k) 0 w xs h (zero_mem h1 (by omega) _) (by rw [hzl]; omega)
  refine ⟨w', fun ty => ?_, ?_, hg⟩
  · obtain ⟨q, hq⟩ : ∃ q, n - i = q + 1 := ⟨n - i - 1, by omega⟩
    rw [hq] at hrun ⊢
    simp [Builtin.clear_, run_underlying ht, hv, hrun]
  · have h3 := h2.prefix_ i (by omega)
    have e1 : i * k ≤ xs.length := by rw [hl, ← hle]; omega
    rw [Nat.add_zero, List.append_assoc, List.take_append_of_le_length (by rw [List.length_take]; omega), List.take_take, Nat.min_self] at h3
    exact h3
section
variable {lo n c g k : Nat} {e : TypeId} {w : World} {o : Oper} {a : Act} {Q : Exit → Act → World → Prop} {α : Type} {row : α → List Value} {l : List α}
theorem wpl_store_rec {ops : Array Oper} {rest : List Oper} {ty : TypeId} (hgd : o.guard = none) (T : StructT P ty k) (hrow : ∀ a, (row a).length = k) (hk : 0 < k) (x y : Operand) (ho : o.op = .store ty x y) (i p : Nat) (hp : p = i * k) (hx : a.eval x = .pointer (some ⟨g, p, none⟩)) (z : α) (hy : a.eval y = .agg (row z).toArray)
    (h : OwnR row k w lo e (some ⟨g, 0, none⟩) n c l) (hi : i < n) (h1 : ∀ u ∈ row z, u.oneCell' = true)
    (hK : ∀ w', OwnR row k w' lo e (some ⟨g, 0, none⟩) n c (l.set i z) → w.grownBy w' (some g) → wpList P ops Q rest (a.put o.dst undef) w') : wpList P ops Q (o :: rest) a w :=
  wpList_plain hgd fun _ hk' => wp_store_rec T hrow hk x y ho i p hp hx z hy h hi h1 fun w' h2 hg => hk' _ _ (hK w' h2 hg)
end
end
end Go.Proofs.YtgogiljplnninaaGreatDoor
/- Two structs compared, as an operation; grown slices of structs. Over any program. Conditions: none. -/
namespace Go.Proofs.YtgogiljplnninaaGreatDoor
section
open Go.RowKit

section
variable {P : Program} {w : World} {o : Oper} {ops : Array Oper} {rest : List Oper} {a : Act} {K : Act → World → Prop} {Q : Exit → Act → World → Prop}
theorem exec_eqs {ev : Operand → Value} {op : BinOp} {T tr : TypeId} (x y : Operand) (ho : o.op = .binOp op T x y tr) (us vs : Array Value) (hx : ev x = .agg us) (hy : ev y = .agg vs) (hm : P.eqGuardType P.depth T = false) {v : Value} (hr : (binOp op T (.agg us) (.agg vs)).run P w = .ok v w) :
    (execOp ev o).run P w = .ok (.value v) w := by
  unfold execOp
  simp only [ho, hx, hy, Sem.run_bind, run_eqGuard_agg w op T x y us vs hm, Result.andThen_ok, hr, Sem.run_pure]
theorem wp_eqs {op : BinOp} {T tr : TypeId} (x y : Operand) (ho : o.op = .binOp op T x y tr) (us vs : Array Value) (hx : a.eval x = .agg us) (hy : a.eval y = .agg vs) (hm : P.eqGuardType P.depth T = false) {v : Value} (hr : (binOp op T (.agg us) (.agg vs)).run P w = .ok v w)
    (h : K (a.put o.dst v) w) : o.wp P a w K Q := by
  unfold Oper.wp
  rw [exec_eqs x y ho us vs hx hy hm hr]
  exact h
theorem wpl_eqs {op : BinOp} {T tr : TypeId} (hgd : o.guard = none) (x y : Operand) (ho : o.op = .binOp op T x y tr) (us vs : Array Value) (hx : a.eval x = .agg us) (hy : a.eval y = .agg vs) (hm : P.eqGuardType P.depth T = false) {v : Value} (hr : (binOp op T (.agg us) (.agg vs)).run P w = .ok v w)
    (h : wpList P ops Q rest (a.put o.dst v) w) : wpList P ops Q (o :: rest) a w :=
  wpList_plain hgd fun _ hK => wp_eqs x y ho us vs hx hy hm hr (hK _ _ h)
/-- 'append(nil, make([]T, m)...)': an empty prefix of what comes out is the call's own. -/
theorem wpl_app_nilK {t tn e : TypeId} {size bytes : Nat} {z : Value} (E : ElemT P t e size bytes z) {kn : IntKind} (htn : P.underlying tn = some (.int kn)) (hgd : o.guard = none) (s x : Operand)
    (ho : o.op = .call { callee := .builtin .append, args := #[s, x], argTypes := #[t, tn] }) (hs : a.eval s = .slice none 0 0) {kq : IntKind} (m : Nat) (hx : a.eval x = .int kq (m : Int)) (hm : 0 < m) (h63 : m ≤ maxLen) (hb : m * bytes ≤ 140737488355328)
    (h : ∀ c1 w', Own w' w.heap.size e size (some ⟨w.heap.size, 0, none⟩) 0 c1 [] → m ≤ c1 → c1 ≤ maxLen → w.grownBy w' none → wpList P ops Q rest (a.put o.dst (.slice (some ⟨w.heap.size, 0, none⟩) m c1)) w') : wpList P ops Q (o :: rest) a w := by
  obtain ⟨ht, ⟨i, hi, hz, hsize, hby⟩, hzs, hsz⟩ := E
  subst hby
  have hr := Lib.run_append_nil_zeros (P := P) w t tn o.type e i z kq kn ht htn hi hz m hm (by omega) (by unfold maxLen at h63; omega) (by omega)
  have hge := grownCap_ge w m 0 e
  have hcm : grownCap w m 0 e ≤ maxLen := grownCap_le_maxLen w m 0 e h63
  refine Lib.wpList_append_run w hgd s x t tn ho _ _ hs hx _ _ hr (h _ _ ⟨by simp, .inr ⟨w.heap.size, _, _, rfl, Nat.le_refl _, heap_alloc_new w.drew _, Nat.zero_le _, hcm, ?_, by simp⟩⟩ hge hcm (gr_alloc (gr_drew (gr_refl _ _)) _))
  simp only [Array.size_append, Builtin.zeroCells, Array.size_map, Array.size_range, hzs]
  rw [← Nat.add_mul]
  congr 1
  omega
end
end
end Go.Proofs.YtgogiljplnninaaGreatDoor
/- Contract of slices.Compare at ints. Conditions: none. -/
namespace Go.Proofs.YtgogiljplnninaaGreatDoor
section
open Go.RowKit

set_option maxHeartbeats 2000000 in
theorem compareI_any (lo lo' : Nat) (A A' : Option Addr) (n c n' c' : Nat) (l m : List Int) (w : World) (h : Recs nrow 1 w lo A n c l) (h' : Recs nrow 1 w lo' A' n' c' m) (hn : n ≤ 1000000) (_ : n' ≤ 1000000) :
    Calls Tryz.prog 68 #[.slice A n c, .slice A' n' c'] w (Same (.int .i64 (cmpLL cmpZ l m)) w) := by
  have H := Lib.hid h; have H' := Lib.hid h'
  have HL := Lib.hid h.len; have HL' := Lib.hid h'.len
  clear h h'
  go_enter Tryz.func68, Tryz.ntmps68
  go_wp2_with fail
  go_loop [5, 6, 7, 8, 11] (fun _ _ _ _ t => ∃ i : Nat, i ≤ n ∧ t = .int .i64 i ∧ cmpLL cmpZ l m = cmpLL cmpZ (l.drop i) (m.drop i)) (fun _ _ _ _ t => n - (intOf t).toNat)
  case atStart => exact ⟨0, Nat.zero_le _, rfl, rfl⟩
  case round =>
    obtain ⟨i, hi, rfl, he⟩ := hrel
    have HE := Lib.hid he; clear he
    by_cases hlt : i < n
    · obtain ⟨g, o, z, rfl, _, _, hz, hc⟩ := H.out.get nrow_len hlt
      have c0 := hc 0 _ rfl
      simp only [Nat.mul_one, Nat.add_zero] at c0
      clear hc
      by_cases hm : i < n'
      · obtain ⟨g', o', z', rfl, _, _, hz', hc'⟩ := H'.out.get nrow_len hm
        have c1 := hc' 0 _ rfl
        simp only [Nat.mul_one, Nat.add_zero] at c1
        clear hc'
        have HS := Lib.hid (show cmpLL cmpZ l m = if cmpZ z z' = 0 then cmpLL cmpZ (l.drop (i + 1)) (m.drop (i + 1)) else cmpZ z z' by rw [HE.out, cmpLL_drop hz hz'])
        have d1 : decide ((n' : Int) ≤ (i : Int)) = false := decide_eq_false (by omega)
        have d1' : decide (n' ≤ i) = false := decide_eq_false (by omega)
        obtain ⟨q, hq⟩ : ∃ q, cmpZ z z' = q := ⟨_, rfl⟩
        have HQ := Lib.hid hq
        clear hz hz' hq
        by_cases hq0 : q = 0
        · have b1 : (q != 0) = false := by simp [hq0]
          have HN := Lib.hid (show cmpLL cmpZ l m = cmpLL cmpZ (l.drop (i + 1)) (m.drop (i + 1)) by rw [HS.out, HQ.out, if_pos hq0])
          clear hq0
          go_wp2_with (first
            | (go_at_call 121; refine (cmpZ_any z z' _).mono ?_; rintro e w' ⟨rfl, rfl⟩; rw [HQ.out])
            | fail)
          go_round
          case rel => exact ⟨i + 1, by omega, by go_num, HN.out⟩
          case measure => simp [intOf]; omega
        · have b1 : (q != 0) = true := by simpa using hq0
          have HN := Lib.hid (show cmpLL cmpZ l m = q by rw [HS.out, HQ.out, if_neg hq0])
          clear hq0
          go_wp2_with (first
            | (go_at_call 121; refine (cmpZ_any z z' _).mono ?_; rintro e w' ⟨rfl, rfl⟩; rw [HQ.out])
            | fail)
          go_ret
          exact ⟨by rw [HN.out]; rfl, rfl⟩
      · have HN := Lib.hid (show cmpLL cmpZ l m = 1 by rw [HE.out, cmpLL_gt (by rw [HL.out]; exact hlt) (by rw [HL'.out]; omega)])
        have d1 : decide ((n' : Int) ≤ (i : Int)) = true := decide_eq_true (by omega)
        have d1' : decide (n' ≤ i) = true := decide_eq_true (by omega)
        clear hz
        go_wp2_with fail
        go_ret
        exact ⟨by rw [HN.out]; rfl, rfl⟩
    · obtain rfl : i = n := by omega
      have HN := Lib.hid (show cmpLL cmpZ l m = if i < n' then -1 else 0 by rw [HE.out, cmpLL_end HL.out, HL'.out])
      by_cases hlt2 : i < n'
      · have d1 : decide ((i : Int) < (n' : Int)) = true := decide_eq_true (by omega)
        have d1' : decide (i < n') = true := decide_eq_true hlt2
        go_wp2_with fail
        go_ret
        exact ⟨by rw [HN.out, if_pos hlt2]; rfl, rfl⟩
      · have d1 : decide ((i : Int) < (n' : Int)) = false := decide_eq_false (by omega)
        have d1' : decide (i < n') = false := decide_eq_false hlt2
        go_wp2_with fail
        go_ret
        exact ⟨by rw [HN.out, if_neg hlt2]; rfl, rfl⟩
end
end Go.Proofs.YtgogiljplnninaaGreatDoor
/- Contract of slices.Equal at beacons that read as the same list. Conditions: none. -/
namespace Go.Proofs.YtgogiljplnninaaGreatDoor
section
open Go.RowKit
set_option maxHeartbeats 4000000 in
theorem equalBc_same (lo lo' : Nat) (A A' : Option Addr) (n c n' c' : Nat) (l : List BcV) (w : World) (h1 : Recs BcV.row 6 w lo A n c l) (h2 : Recs BcV.row 6 w lo' A' n' c' l) (hn2 : n ≤ 1000000000000) :
    Calls Tryz.prog 42 #[.slice A n c, .slice A' n' c'] w fun e w' => e = .returned (.bool true) ∧ ∃ k, w' = w.drewN k := by
  obtain rfl : n = n' := by rw [← h1.len, ← h2.len]
  have H1 := Lib.hid h1; have H2 := Lib.hid h2; clear h1 h2
  go_enter Tryz.func42, Tryz.ntmps42
  go_wp2_with fail
  go_loopw [5, 13] (fun _ t wr => ∃ i : Nat, i ≤ n ∧ t = .int .i64 i ∧ ∃ k, wr = w.drewN k) (fun _ t _ => n - (intOf t).toNat)
  case atStart => exact ⟨0, Nat.zero_le _, rfl, 0, rfl⟩
  case round =>
    obtain ⟨i, hi, rfl, k, rfl⟩ := hrel
    by_cases hlt : i < n
    · obtain ⟨g, o, z, rfl, _, _, hz, hc⟩ := H1.out.get BcV.row_len hlt
      obtain ⟨g', o', z', rfl, _, _, hz', hc2⟩ := H2.out.get BcV.row_len hlt
      rw [hz] at hz'
      injection hz' with hz'
      subst hz'
      have c0 := hc 0 _ rfl
      have d0 := hc2 0 _ rfl
      have c1 := hc 1 _ rfl
      have d1 := hc2 1 _ rfl
      have c2 := hc 2 _ rfl
      have d2 := hc2 2 _ rfl
      have c3 := hc 3 _ rfl
      have d3 := hc2 3 _ rfl
      have c4 := hc 4 _ rfl
      have d4 := hc2 4 _ rfl
      have c5 := hc 5 _ rfl
      have d5 := hc2 5 _ rfl
      simp only [Nat.add_zero] at c0 d0
      clear hz hc hc2
      have hi0 : (0 : Int) ≤ (i : Int) := by omega
      have hi1 : (i : Int) < (n : Int) := by omega
      go_wp2_with fail
      go_quiet (fail)
      go_wp2_with fail
      go_roundw
      case rel => exact ⟨i + 1, by omega, by go_num, _, rfl⟩
      case measure => simp [intOf]; omega
    · obtain rfl : i = n := by omega
      go_wp2_with fail
      go_ret
      exact ⟨rfl, _, rfl⟩
end
end Go.Proofs.YtgogiljplnninaaGreatDoor
/- Contracts of the statements' when and momentFault. Conditions: none. -/
namespace Go.Proofs.YtgogiljplnninaaGreatDoor
section
open Go.RowKit
set_option maxHeartbeats 1000000 in
theorem whenF_any (b : Bool) (e : Int) (w : World) : Calls Tryz.prog 37 #[.bool b, .int .i64 e] w (Same (.int .i64 (if b then e else 0)) w) := by
  cases b
  all_goals
    go_enter Tryz.func37, Tryz.ntmps37
    go_wp2_with fail
    go_ret
    exact ⟨rfl, rfl⟩
def momF (t : Int) : Int := if momB t then 0 else 1
set_option maxHeartbeats 1000000 in
theorem momF_any (t : Int) (w : World) : Calls Tryz.prog 39 #[.int .i64 t] w (Same (.int .i64 (momF t)) w) := by
  have HV := Lib.hid (show momF t = if momB t then 0 else 1 from rfl)
  cases hm : momB t
  all_goals
    rw [hm] at HV
    go_enter Tryz.func39, Tryz.ntmps39
    go_wp2_with (first
      | (go_at_call 59; refine (momentB_any _ _).mono ?_; rintro e w' ⟨rfl, rfl⟩; rw [hm])
      | (go_at_call 37; refine (whenF_any _ _ _).mono ?_; rintro e w' ⟨rfl, rfl⟩)
      | fail)
    go_ret
    exact ⟨by rw [HV.out]; rfl, rfl⟩
end
end Go.Proofs.YtgogiljplnninaaGreatDoor
/- Acts as they lie in memory, and what is wrong with them, in plain Lean. Conditions: none. -/
namespace Go.Proofs.YtgogiljplnninaaGreatDoor
section
open Go.RowKit

/-- An act. -/
structure ActV where
  at_ : Int
  bx : ByteArray
  id : ByteArray
  kd : Int
  lg : Int
  frm : ByteArray
def ActV.row (a : ActV) : List Value := [.int .i64 a.at_, .string a.bx, .string a.id, .int .i64 a.kd, .int .i64 a.lg, .string a.frm]
theorem ActV.row_len (a : ActV) : a.row.length = 6 := rfl
theorem ActV.one (z : ActV) : ∀ u ∈ z.row, u.oneCell' = true := fun u hu => by
  unfold ActV.row at hu
  simp only [List.mem_cons, List.not_mem_nil, or_false] at hu
  rcases hu with rfl | rfl | rfl | rfl | rfl | rfl <;> rfl
/-- What is known of an act that was read. -/
def AcOkL (a : ActV) : Prop := (a.bx.size ≤ 1000000 ∧ a.id.size ≤ 1000000 ∧ a.frm.size ≤ 1000000) ∧ (-1152921504606846976 ≤ a.at_ ∧ a.at_ ≤ 1152921504606846976) ∧ (-1152921504606846976 ≤ a.kd ∧ a.kd ≤ 1152921504606846976)
/-- What is known of an act that was drawn. -/
def AcOk (a : ActV) : Prop := (a.bx.size ≤ 1000 ∧ a.id.size ≤ 1000 ∧ a.frm.size ≤ 1000) ∧ (-1152921504606846976 ≤ a.at_ ∧ a.at_ ≤ 1152921504606846976) ∧ (-1152921504606846976 ≤ a.kd ∧ a.kd ≤ 1152921504606846976)
theorem AcOk.l {a : ActV} (h : AcOk a) : AcOkL a := ⟨⟨Nat.le_trans h.1.1 (by decide), Nat.le_trans h.1.2.1 (by decide), Nat.le_trans h.1.2.2 (by decide)⟩, h.2⟩
def AcsL (w : World) (lo : Nat) (A : Option Addr) (n c : Nat) (l : List ActV) : Prop := Recs ActV.row 6 w lo A n c l ∧ ∀ a ∈ l, AcOkL a
def Acs (w : World) (lo : Nat) (A : Option Addr) (n c : Nat) (l : List ActV) : Prop := Recs ActV.row 6 w lo A n c l ∧ ∀ a ∈ l, AcOk a
theorem Acs.l {w : World} {lo : Nat} {A : Option Addr} {n c : Nat} {l : List ActV} (h : Acs w lo A n c l) : AcsL w lo A n c l := ⟨h.1, fun a ha => (h.2 a ha).l⟩
theorem Acs.grown {w w' : World} {lo : Nat} {A : Option Addr} {n c : Nat} {l : List ActV} (h : Acs w lo A n c l) {r : Option Nat} (hg : w.grownBy w' r) (hr : ∀ g, r = some g → g < lo) : Acs w' lo A n c l := ⟨h.1.grown hg hr, h.2⟩
/-- The order of acts. -/
def acCmp (a b : ActV) : Int := orL [cmpZ a.at_ b.at_, cmpS a.bx b.bx, cmpS a.id b.id, cmpZ a.kd b.kd]
/-- Empty, or + with 4 to 15 digits behind it. -/
def fromOk (l : List Nat) : Bool := decide (l = []) || (plusOf l).elim false (fun d => decide (4 ≤ d.length) && decide (d.length ≤ 15) && digB d)
/-- What is wrong with an act by itself. -/
def acF (a : ActV) : Int :=
  if momB a.at_ then (if keyOk (nb a.bx) && keyOk (nb a.id) then (if inB a.kd 1 5 then
    (if a.kd == 1 then (if inB a.lg 1 86400000 then (if fromOk (nb a.frm) then 0 else 3) else 1) else (if a.lg == 0 then (if decide (nb a.frm = []) then 0 else 3) else 3)) else 4) else 5) else 1
def acAt (l : List ActV) (i : Nat) : Int := (l[i]?).elim 0 fun a => if acF a = 0 then (if decide (0 < i) && (l[i - 1]?).elim false (fun b => decide (0 ≤ acCmp b a)) then 7 else 0) else acF a
def acsE (l : List ActV) : Int := if 1000 < l.length then 2 else fstE (acAt l) l.length
section
variable {l : List ActV} {i : Nat} {z b : ActV}
theorem acAt_f (h : l[i]? = some z) (h1 : acF z ≠ 0) : acAt l i = acF z := by unfold acAt; rw [h]; exact if_neg h1
theorem acAt_7 (h : l[i]? = some z) (h1 : acF z = 0) (hi : 0 < i) (hb : l[i - 1]? = some b) (h7 : 0 ≤ acCmp b z) : acAt l i = 7 := by
  unfold acAt; rw [h]
  show (if acF z = 0 then _ else _) = _
  rw [if_pos h1, hb]
  simp only [Option.elim, decide_eq_true hi, decide_eq_true h7]; rfl
theorem acAt_e (h : l[i]? = some z) (h1 : acF z = 0) (hb : l[i - 1]? = some b) (h7 : ¬ 0 ≤ acCmp b z) : acAt l i = 0 := by
  unfold acAt; rw [h]
  show (if acF z = 0 then _ else _) = _
  rw [if_pos h1, hb]
  simp only [Option.elim, decide_eq_false h7, Bool.and_false]; rfl
theorem acAt_z (h : l[i]? = some z) (h1 : acF z = 0) (hi : ¬ 0 < i) : acAt l i = 0 := by
  unfold acAt; rw [h]
  show (if acF z = 0 then _ else _) = _
  rw [if_pos h1, decide_eq_false hi]; rfl
theorem acF_1 (h1 : momB z.at_ = false) : acF z = 1 := by unfold acF; rw [h1]; rfl
theorem acF_5 (h1 : momB z.at_ = true) (h2 : (keyOk (nb z.bx) && keyOk (nb z.id)) = false) : acF z = 5 := by unfold acF; rw [h1, h2]; rfl
theorem acF_4 (h1 : momB z.at_ = true) (h2 : (keyOk (nb z.bx) && keyOk (nb z.id)) = true) (h3 : inB z.kd 1 5 = false) : acF z = 4 := by unfold acF; rw [h1, h2, h3]; rfl
theorem acF_l (h1 : momB z.at_ = true) (h2 : (keyOk (nb z.bx) && keyOk (nb z.id)) = true) (h3 : inB z.kd 1 5 = true) (h4 : (z.kd == 1) = true) : acF z = if inB z.lg 1 86400000 then (if fromOk (nb z.frm) then 0 else 3) else 1 := by unfold acF; rw [h1, h2, h3, h4]; rfl
theorem acF_o (h1 : momB z.at_ = true) (h2 : (keyOk (nb z.bx) && keyOk (nb z.id)) = true) (h3 : inB z.kd 1 5 = true) (h4 : (z.kd == 1) = false) : acF z = if z.lg == 0 then (if decide (nb z.frm = []) then 0 else 3) else 3 := by unfold acF; rw [h1, h2, h3, h4]; rfl
end
/-- What is known of right acts. -/
def AcRg (z : ActV) : Prop := (0 ≤ z.at_ ∧ z.at_ ≤ 1000000000000000) ∧ (1 ≤ z.kd ∧ z.kd ≤ 5) ∧ (0 ≤ z.lg ∧ z.lg ≤ 86400000) ∧ (z.kd ≠ 1 → z.lg = 0 ∧ nb z.frm = [])
theorem acF_rg {z : ActV} (h : acF z = 0) : AcRg z := by
  cases h1 : momB z.at_
  · rw [acF_1 h1] at h; exact absurd h (by decide)
  · cases h2 : (keyOk (nb z.bx) && keyOk (nb z.id))
    · rw [acF_5 h1 h2] at h; exact absurd h (by decide)
    · cases h3 : inB z.kd 1 5
      · rw [acF_4 h1 h2 h3] at h; exact absurd h (by decide)
      · have b1 := h1; have b3 := h3
        unfold momB inB at b1
        unfold inB at b3
        simp only [Bool.and_eq_true, decide_eq_true_eq] at b1 b3
        cases h4 : (z.kd == 1)
        · rw [acF_o h1 h2 h3 h4] at h
          by_cases h5 : (z.lg == 0) = true
          · rw [if_pos h5] at h
            by_cases h6 : decide (nb z.frm = []) = true
            · have e5 : z.lg = 0 := by simpa using h5
              exact ⟨by omega, b3, by omega, fun _ => ⟨e5, of_decide_eq_true h6⟩⟩
            · rw [if_neg h6] at h; exact absurd h (by decide)
          · rw [if_neg h5] at h; exact absurd h (by decide)
        · rw [acF_l h1 h2 h3 h4] at h
          by_cases h5 : inB z.lg 1 86400000 = true
          · have b5 := h5
            unfold inB at b5
            simp only [Bool.and_eq_true, decide_eq_true_eq] at b5
            have e4 : z.kd = 1 := by simpa using h4
            exact ⟨by omega, b3, by omega, fun q => absurd e4 q⟩
          · rw [if_neg h5] at h; exact absurd h (by decide)
theorem acs_all {l : List ActV} (h : acsE l = 0) : l.length ≤ 1000 ∧ ∀ z ∈ l, AcRg z := by
  unfold acsE at h
  split at h
  · cases h
  · refine ⟨by omega, fun z hz => ?_⟩
    obtain ⟨i, hi⟩ := List.mem_iff_getElem?.1 hz
    have h0 := fstE_ev h i (List.getElem?_eq_some_iff.1 hi).1
    by_cases hf : acF z = 0
    · exact acF_rg hf
    · rw [acAt_f hi hf] at h0
      exact absurd h0 hf
/-- The document's way to the same order. -/
theorem acCmp_doc (a b : ActV) : acCmp a b = if a.at_ = b.at_ then (if cmpLL cmpS [a.bx, a.id] [b.bx, b.id] = 0 then cmpZ a.kd b.kd else cmpLL cmpS [a.bx, a.id] [b.bx, b.id]) else cmpZ a.at_ b.at_ := by
  unfold acCmp cmpLL cmpLL cmpLL orL orL orL orL orL
  have hz : cmpZ a.at_ b.at_ = 0 ↔ a.at_ = b.at_ := by
    unfold cmpZ
    by_cases h1 : a.at_ < b.at_
    · rw [if_pos h1]; constructor
      · intro h; exact absurd h (by decide)
      · intro h; omega
    · rw [if_neg h1]
      by_cases h2 : b.at_ < a.at_
      · rw [if_pos h2]; constructor
        · intro h; exact absurd h (by decide)
        · intro h; omega
      · rw [if_neg h2]; constructor
        · intro _; omega
        · intro _; rfl
  by_cases h : a.at_ = b.at_
  · rw [if_pos h, if_pos (hz.2 h)]
    by_cases h1 : cmpS a.bx b.bx = 0
    · simp only [h1, if_true]
      by_cases h2 : cmpS a.id b.id = 0
      · simp only [h2, if_true]
        by_cases h3 : cmpZ a.kd b.kd = 0
        · simp only [h3, if_true]
        · simp only [if_neg h3]
      · simp only [if_neg h2]
    · simp only [if_neg h1]
  · rw [if_neg h, if_neg (fun q => h (hz.1 q))]
end
end Go.Proofs.YtgogiljplnninaaGreatDoor

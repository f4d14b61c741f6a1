/- strings.Trim at the signs of keys, the document's 'only'; what a key is: number.IsKey and the document's Key; moments. Conditions: none. -/
import Derived.Test.YtpjheibkacbbcaaGreatDoorBun1
import Derived.Test.YtpjheibkacbbcaaGreatDoorShelfTrim
import Derived.Laws.Cover1
import Derived.Test.YtpjheibkacbbcaaGreatDoorBun4
import Derived.Test.YtpjheibkacbbcaaGreatDoorBun5
import Derived.Test.YtpjheibkacbbcaaGreatDoorBun3
import Derived.Maps.Own
import Derived.Maps.OwnOps
import Derived.WalkKit
import Derived.Deep.QuietTactic
import Derived.BigQuiet
import Derived.Test.YtpjheibkacbbcaaGreatDoorBun2
namespace Go.Proofs.YtpjheibkacbbcaaGreatDoor
section
open Go.RowKit

/-! The first place of a byte, or -1. -/
def ixS (l : List Nat) (c : Nat) : Int := if c ∈ l then ((l.takeWhile (· != c)).length : Int) else -1
theorem ixS_eq (l : List UInt8) (c : Nat) (hc : c < 256) : Lib.indexByte l c.toUInt8 = ixS (l.map UInt8.toNat) c := by
  induction l with
  | nil => simp [Lib.indexByte, ixS]
  | cons b l ih =>
    have hb : (b == c.toUInt8) = (b.toNat == c) := by
      rw [Bool.eq_iff_iff, beq_iff_eq, beq_iff_eq]
      constructor
      · rintro rfl; simp [Nat.mod_eq_of_lt hc]
      · rintro rfl; simp
    unfold Lib.indexByte
    rw [ih, hb]
    unfold ixS
    by_cases h : b.toNat = c
    · simp [h]
    · have h' : (b.toNat == c) = false := by simpa using h
      rw [h']
      have hm : (c ∈ (b :: l).map UInt8.toNat) ↔ c ∈ l.map UInt8.toNat := by simp [Ne.symm h]
      by_cases h2 : c ∈ l.map UInt8.toNat
      · rw [if_pos h2, if_pos (hm.2 h2)]
        have h3 : (b.toNat != c) = true := by simpa using h
        simp only [List.map_cons, List.takeWhile_cons, h3, if_true, List.length_cons]
        have : ((((l.map UInt8.toNat).takeWhile (· != c)).length : Int) == -1) = false := by
          rw [beq_eq_false_iff_ne]; omega
        rw [this]
        simp
      · rw [if_neg h2, if_neg (fun h3 => h2 (hm.1 h3))]
        simp
theorem ixS_mem {l : List Nat} {c : Nat} : (0 ≤ ixS l c ↔ c ∈ l) ∧ (ixS l c < 0 ↔ ¬ c ∈ l) := by
  unfold ixS
  by_cases h : c ∈ l
  · rw [if_pos h]; exact ⟨⟨fun _ => h, fun _ => by omega⟩, ⟨fun h2 => by omega, fun h2 => absurd h h2⟩⟩
  · rw [if_neg h]; exact ⟨⟨fun h2 => by omega, fun h2 => absurd h2 h⟩, ⟨fun _ => h, fun _ => by omega⟩⟩
theorem ixS_any (s : ByteArray) (c : Nat) (w : World) (hc : c < 256) : Calls Tryz.prog 180 #[.string s, .int .u8 c] w (Same (.int .i64 (ixS (nb s) c)) w) := by
  refine (indexByte_any s c w).mono ?_
  rintro e w' ⟨rfl, rfl⟩
  refine ⟨?_, rfl⟩
  rw [Int.toNat_natCast, ixS_eq _ _ hc]
  rfl
set_option maxHeartbeats 2000000 in
theorem onlyS_any (s u : ByteArray) (w : World) (hs : s.size ≤ 1000000000) : Calls Tryz.prog 113 #[.string s, .string u] w (Same (.bool ((nb s).all (fun b => decide (b ∈ nb u)))) w) := by
  go_enter Tryz.func113, Tryz.ntmps113
  go_wp2_with fail
  go_loop [5, 8] (fun _ t => ∃ i : Nat, i ≤ s.size ∧ t = .int .i64 i ∧ ∀ j, j < i → (nb s).getD j 0 ∈ nb u) (fun _ t => s.size - (intOf t).toNat)
  case atStart => exact ⟨0, Nat.zero_le _, rfl, fun j hj => by omega⟩
  case round =>
    obtain ⟨i, hi, rfl, hin⟩ := hrel
    have HIN := Lib.hid hin; clear hin
    by_cases hil : i < s.size
    · obtain ⟨q, hq⟩ : ∃ q, s[i].toNat = q := ⟨_, rfl⟩
      have q256 : q < 256 := by rw [← hq]; exact UInt8.toNat_lt _
      have HQ := Lib.hid (show (nb s).getD i 0 = q by rw [← nb_get hil, hq])
      obtain ⟨z, hz⟩ : ∃ z, ixS (nb u) q = z := ⟨_, rfl⟩
      have HZ := Lib.hid hz
      have hi0 := ixS_mem (l := nb u) (c := q)
      rw [hz] at hi0
      clear hz
      by_cases hz0 : z < 0
      · have HF := Lib.hid (show (nb s).all (fun b => decide (b ∈ nb u)) = false by
          rw [List.all_eq_false]
          have hl : i < (nb s).length := by rw [nb_len]; exact hil
          refine ⟨q, ?_, by simpa using hi0.2.1 hz0⟩
          rw [← HQ.out, List.getD_eq_getElem?_getD, List.getElem?_eq_getElem hl]
          exact List.getElem_mem _)
        clear hi0
        go_wp2_with (first
          | (go_at_call 180; refine (ixS_any u q _ q256).mono ?_; rintro e w' ⟨rfl, rfl⟩; rw [HZ.out])
          | fail)
        go_ret
        exact ⟨by rw [HF.out]; rfl, rfl⟩
      · have HN := Lib.hid (hi0.1.1 (by omega))
        clear hi0
        go_wp2_with (first
          | (go_at_call 180; refine (ixS_any u q _ q256).mono ?_; rintro e w' ⟨rfl, rfl⟩; rw [HZ.out])
          | fail)
        go_round
        case rel => exact ⟨i + 1, by omega, by go_num, fun j hj => by
          rcases Nat.lt_succ_iff_lt_or_eq.1 hj with h1 | h1
          · exact HIN.out j h1
          · subst h1; rw [HQ.out]; exact HN.out⟩
        case measure => simp [intOf]; omega
    · obtain rfl : i = s.size := by omega
      have HT := Lib.hid (show (nb s).all (fun b => decide (b ∈ nb u)) = true by
        rw [List.all_eq_true]
        intro b hb
        obtain ⟨k, hk, rfl⟩ := List.mem_iff_getElem.1 hb
        have := HIN.out k (by rw [nb_len] at hk; exact hk)
        rw [List.getD_eq_getElem?_getD, List.getElem?_eq_getElem hk] at this
        exact decide_eq_true this)
      have d0 : decide ((s.size : Int) < (s.size : Int)) = false := decide_eq_false (by omega)
      go_wp2_with fail
      go_ret
      exact ⟨by rw [HT.out]; rfl, rfl⟩

/-! Trimmed strings. -/
theorem tr_head {p : UInt8 → Bool} {l : List UInt8} {a : UInt8} {r : List UInt8} (h : l.dropWhile p = a :: r) : p a = false := by
  induction l with
  | nil => cases h
  | cons b l ih =>
    rw [List.dropWhile_cons] at h
    split at h
    · exact ih h
    · rename_i hp
      injection h with h1 h2
      subst h1
      simpa using hp
theorem tr_all {p : UInt8 → Bool} {l : List UInt8} : l.dropWhile p = [] ↔ ∀ a ∈ l, p a = true := by
  induction l with
  | nil => simp
  | cons b l ih =>
    rw [List.dropWhile_cons]
    by_cases hp : p b = true
    · rw [if_pos hp, ih]; simp [hp]
    · rw [if_neg hp]; simp [hp]
theorem tr_nil (l cs : List UInt8) : Lib.trimS l cs = [] ↔ ∀ b ∈ l, cs.contains b = true := by
  unfold Lib.trimS Lib.trimLeftS Lib.trimRightS
  rw [tr_all]
  constructor
  · intro h
    cases hd : l.reverse.dropWhile (cs.contains ·) with
    | nil =>
      have := tr_all.1 hd
      intro b hb
      exact this b (by simpa using hb)
    | cons a r =>
      exfalso
      have h1 := tr_head hd
      have h2 := h a (by rw [hd]; simp)
      rw [h1] at h2
      cases h2
  · intro h
    have : l.reverse.dropWhile (cs.contains ·) = [] := tr_all.2 (fun a ha => h a (by simpa using ha))
    rw [this]
    simp
/-- A string is trimmed to nothing just if it has no other signs. -/
theorem tr_only (s : ByteArray) (cs : List UInt8) : (Lib.trimS s.data.toList cs = []) ↔ (nb s).all (fun b => decide (b ∈ cs.map UInt8.toNat)) = true := by
  rw [tr_nil, List.all_eq_true]
  unfold nb
  have hin : ∀ u : UInt8, cs.contains u = true ↔ u.toNat ∈ cs.map UInt8.toNat := fun u => by
    rw [List.contains_iff_mem]
    constructor
    · intro h; exact List.mem_map.2 ⟨u, h, rfl⟩
    · intro h
      obtain ⟨v, hv, he⟩ := List.mem_map.1 h
      rw [← UInt8.toNat_inj.1 he]; exact hv
  constructor
  · intro h b hb
    obtain ⟨u, hu, rfl⟩ := List.mem_map.1 hb
    exact decide_eq_true ((hin u).1 (h u hu))
  · intro h u hu
    exact (hin u).2 (of_decide_eq_true (h _ (List.mem_map.2 ⟨u, hu, rfl⟩)))

/-! Keys. -/
def keySigns : List Nat := [97, 98, 99, 100, 101, 102, 103, 104, 105, 106, 107, 108, 109, 110, 111, 112, 113, 114, 115, 116, 117, 118, 119, 120, 121, 122, 48, 49, 50, 51, 52, 53, 54, 55, 56, 57, 45, 95]
def smallSigns : List Nat := [97, 98, 99, 100, 101, 102, 103, 104, 105, 106, 107, 108, 109, 110, 111, 112, 113, 114, 115, 116, 117, 118, 119, 120, 121, 122]
def keyOk (l : List Nat) : Bool := decide (1 ≤ l.length) && decide (l.length ≤ 40) && decide (97 ≤ l.getD 0 0) && decide (l.getD 0 0 ≤ 122) && l.all (fun b => decide (b ∈ keySigns))
set_option maxRecDepth 100000 in
theorem trimKey_any (s : ByteArray) (w : World) (hs : s.size ≤ 1000000) : Calls Tryz.prog 132 #[.string s, .string ⟨#[97, 98, 99, 100, 101, 102, 103, 104, 105, 106, 107, 108, 109, 110, 111, 112, 113, 114, 115, 116, 117, 118, 119, 120, 121, 122, 48, 49, 50, 51, 52, 53, 54, 55, 56, 57, 45, 95]⟩] w
    (RetV (.string ⟨(Lib.trimS s.data.toList [97, 98, 99, 100, 101, 102, 103, 104, 105, 106, 107, 108, 109, 110, 111, 112, 113, 114, 115, 116, 117, 118, 119, 120, 121, 122, 48, 49, 50, 51, 52, 53, 54, 55, 56, 57, 45, 95]).toArray⟩) w) := by
  refine (Any.strings_Trim_laid Tryz.lays160 (by kernel_rfl) s ⟨#[97, 98, 99, 100, 101, 102, 103, 104, 105, 106, 107, 108, 109, 110, 111, 112, 113, 114, 115, 116, 117, 118, 119, 120, 121, 122, 48, 49, 50, 51, 52, 53, 54, 55, 56, 57, 45, 95]⟩ w (by omega) (by decide) (ascii_of_all (by decide))).mono ?_
  rintro e w' ⟨rfl, hb⟩
  exact ⟨rfl, gr_below hb none⟩
set_option maxHeartbeats 2000000 in
set_option maxRecDepth 100000 in
theorem isKey_any (s : ByteArray) (w : World) (hs : s.size ≤ 1000000) : Calls Tryz.prog 50 #[.string s] w (RetV (.bool (keyOk (nb s))) w) := by
  have hlen := nb_len s
  by_cases h1 : 1 ≤ s.size
  · have q1 : decide ((1 : Int) ≤ (s.size : Int)) = true := decide_eq_true (by omega)
    by_cases h2 : s.size ≤ 40
    · have q2 : decide ((s.size : Int) ≤ 40) = true := decide_eq_true (by omega)
      obtain ⟨b, hb⟩ : ∃ b, s[0].toNat = b := ⟨_, rfl⟩
      have hb0 : (nb s).getD 0 0 = b := by rw [← nb_get (by omega), hb]
      have HD := Lib.hid (show keyOk (nb s) = (decide (97 ≤ b) && decide (b ≤ 122) && (nb s).all (fun b => decide (b ∈ keySigns))) by
        unfold keyOk; rw [hlen, decide_eq_true h1, decide_eq_true h2, hb0]; simp only [Bool.true_and])
      clear hlen hb0
      by_cases h3 : 97 ≤ b
      · have q3 : decide ((97 : Int) ≤ (b : Int)) = true := decide_eq_true (by omega)
        by_cases h4 : b ≤ 122
        · have q4 : decide ((b : Int) ≤ 122) = true := decide_eq_true (by omega)
          obtain ⟨u, hu⟩ : ∃ u : ByteArray, (⟨(Lib.trimS s.data.toList [97, 98, 99, 100, 101, 102, 103, 104, 105, 106, 107, 108, 109, 110, 111, 112, 113, 114, 115, 116, 117, 118, 119, 120, 121, 122, 48, 49, 50, 51, 52, 53, 54, 55, 56, 57, 45, 95]).toArray⟩ : ByteArray) = u := ⟨_, rfl⟩
          have HU := Lib.hid hu
          obtain ⟨B, hB⟩ : ∃ B, (nb s).all (fun b => decide (b ∈ keySigns)) = B := ⟨_, rfl⟩
          have HB := Lib.hid (show keyOk (nb s) = B by rw [HD.out, decide_eq_true h3, decide_eq_true h4, hB]; rfl)
          have hul : u.toList = Lib.trimS s.data.toList [97, 98, 99, 100, 101, 102, 103, 104, 105, 106, 107, 108, 109, 110, 111, 112, 113, 114, 115, 116, 117, 118, 119, 120, 121, 122, 48, 49, 50, 51, 52, 53, 54, 55, 56, 57, 45, 95] := by rw [← hu]; exact ByteArray.toList_mk _
          cases B
          · have q3 : ¬ u.toList = [] := fun h => by
              rw [hul, tr_only] at h
              have : (nb s).all (fun b => decide (b ∈ keySigns)) = true := h
              rw [hB] at this; cases this
            have q4 : (u.toList == []) = false := by rw [beq_eq_false_iff_ne]; exact q3
            have q5 : u.toList.isEmpty = false := by rw [List.isEmpty_eq_false_iff]; exact q3
            clear hu hB hul q3
            go_enter Tryz.func50, Tryz.ntmps50
            go_wp2_with (first
              | (go_at_call 132; refine (trimKey_any s _ hs).mono ?_; rintro e w' ⟨rfl, hg⟩; rw [HU.out]; have HG := Lib.hid hg; clear hg)
              | fail)
            go_ret
            exact ⟨by rw [HB.out]; rfl, HG.out⟩
          · have q3 : u.toList = [] := by rw [hul, tr_only]; exact hB
            clear hu hB hul
            go_enter Tryz.func50, Tryz.ntmps50
            go_wp2_with (first
              | (go_at_call 132; refine (trimKey_any s _ hs).mono ?_; rintro e w' ⟨rfl, hg⟩; rw [HU.out]; have HG := Lib.hid hg; clear hg)
              | fail)
            go_ret
            exact ⟨by rw [HB.out]; rfl, HG.out⟩
        · have q4 : decide ((b : Int) ≤ 122) = false := decide_eq_false (by omega)
          have HB := Lib.hid (show keyOk (nb s) = false by rw [HD.out, decide_eq_false h4]; simp)
          go_enter Tryz.func50, Tryz.ntmps50
          go_wp2_with fail
          go_ret
          exact ⟨by rw [HB.out]; rfl, gr_refl _ _⟩
      · have q3 : decide ((97 : Int) ≤ (b : Int)) = false := decide_eq_false (by omega)
        have HB := Lib.hid (show keyOk (nb s) = false by rw [HD.out, decide_eq_false h3]; simp)
        go_enter Tryz.func50, Tryz.ntmps50
        go_wp2_with fail
        go_ret
        exact ⟨by rw [HB.out]; rfl, gr_refl _ _⟩
    · have q2 : decide ((s.size : Int) ≤ 40) = false := decide_eq_false (by omega)
      have HB := Lib.hid (show keyOk (nb s) = false by unfold keyOk; rw [hlen, decide_eq_false h2]; simp)
      clear hlen
      go_enter Tryz.func50, Tryz.ntmps50
      go_wp2_with fail
      go_ret
      exact ⟨by rw [HB.out]; rfl, gr_refl _ _⟩
  · have q1 : decide ((1 : Int) ≤ (s.size : Int)) = false := decide_eq_false (by omega)
    have HB := Lib.hid (show keyOk (nb s) = false by unfold keyOk; rw [hlen, decide_eq_false h1]; simp)
    clear hlen
    go_enter Tryz.func50, Tryz.ntmps50
    go_wp2_with fail
    go_ret
    exact ⟨by rw [HB.out]; rfl, gr_refl _ _⟩
theorem small_iff : ∀ c : Fin 256, decide (c.val ∈ smallSigns) = (decide (97 ≤ c.val) && decide (c.val ≤ 122)) := by decide +kernel
theorem nb_small : nb ⟨#[97, 98, 99, 100, 101, 102, 103, 104, 105, 106, 107, 108, 109, 110, 111, 112, 113, 114, 115, 116, 117, 118, 119, 120, 121, 122]⟩ = smallSigns := by decide +kernel
theorem nb_keyS : nb ⟨#[97, 98, 99, 100, 101, 102, 103, 104, 105, 106, 107, 108, 109, 110, 111, 112, 113, 114, 115, 116, 117, 118, 119, 120, 121, 122, 48, 49, 50, 51, 52, 53, 54, 55, 56, 57, 45, 95]⟩ = keySigns := by decide +kernel
set_option maxHeartbeats 2000000 in
set_option maxRecDepth 100000 in
theorem keyRef_any (s : ByteArray) (w : World) (hs : s.size ≤ 1000000) : Calls Tryz.prog 38 #[.string s] w (Same (.bool (keyOk (nb s))) w) := by
  have hlen := nb_len s
  obtain ⟨B1, h1⟩ : ∃ B1, inB (s.size : Int) 1 40 = B1 := ⟨_, rfl⟩
  have H1 := Lib.hid h1
  have hB1 : B1 = (decide (1 ≤ s.size) && decide (s.size ≤ 40)) := by
    rw [← h1]; unfold inB; rw [Bool.eq_iff_iff]; simp only [Bool.and_eq_true, decide_eq_true_eq]; omega
  clear h1
  cases B1
  · have HB := Lib.hid (show keyOk (nb s) = false by unfold keyOk; rw [hlen, ← hB1]; rfl)
    clear hlen hB1
    go_enter Tryz.func38, Tryz.ntmps38
    go_wp2_with (first
      | (go_at_call 105; refine (in_any _ _ _ _).mono ?_; rintro e w' ⟨rfl, rfl⟩; rw [H1.out])
      | fail)
    go_ret
    exact ⟨by rw [HB.out]; rfl, rfl⟩
  · have h12 : 1 ≤ s.size ∧ s.size ≤ 40 := by simpa using hB1.symm
    obtain ⟨u, hu⟩ : ∃ u, s.extract 0 1 = u := ⟨_, rfl⟩
    have hnu : nb u = [(nb s).getD 0 0] := by
      rw [← hu, nb_extract]
      cases hn : nb s with
      | nil => rw [hn] at hlen; simp at hlen; omega
      | cons x l => rfl
    have hus : u.size ≤ 1 := by rw [← nb_len, hnu]; simp
    have h256 : (nb s).getD 0 0 < 256 := nb_lt (s := u) (by rw [hnu]; simp)
    obtain ⟨B2, h2⟩ : ∃ B2, (nb u).all (fun b => decide (b ∈ smallSigns)) = B2 := ⟨_, rfl⟩
    obtain ⟨B3, h3⟩ : ∃ B3, (nb s).all (fun b => decide (b ∈ keySigns)) = B3 := ⟨_, rfl⟩
    have HB := Lib.hid (show keyOk (nb s) = (B2 && B3) by
      unfold keyOk
      rw [← h2, ← h3, hnu, hlen, decide_eq_true h12.1, decide_eq_true h12.2]
      have := small_iff ⟨_, h256⟩
      simp only [List.all_cons, List.all_nil, Bool.and_true, Bool.true_and]
      rw [this])
    have H2 := Lib.hid h2; have H3 := Lib.hid h3
    clear hB1 hnu h2 h3 hlen h256
    have g1 : (1 : Int) ≤ (s.size : Int) := by omega
    have g2 : (1 : Nat) ≤ s.size := by omega
    clear h12
    obtain ⟨sm, hsm⟩ : ∃ sm : ByteArray, (⟨#[97, 98, 99, 100, 101, 102, 103, 104, 105, 106, 107, 108, 109, 110, 111, 112, 113, 114, 115, 116, 117, 118, 119, 120, 121, 122]⟩ : ByteArray) = sm := ⟨_, rfl⟩
    obtain ⟨ks, hks⟩ : ∃ ks : ByteArray, (⟨#[97, 98, 99, 100, 101, 102, 103, 104, 105, 106, 107, 108, 109, 110, 111, 112, 113, 114, 115, 116, 117, 118, 119, 120, 121, 122, 48, 49, 50, 51, 52, 53, 54, 55, 56, 57, 45, 95]⟩ : ByteArray) = ks := ⟨_, rfl⟩
    have HSM := Lib.hid (show (nb u).all (fun b => decide (b ∈ nb sm)) = B2 by rw [← hsm, nb_small]; exact H2.out)
    have HKS := Lib.hid (show (nb s).all (fun b => decide (b ∈ nb ks)) = B3 by rw [← hks, nb_keyS]; exact H3.out)
    cases B2
    all_goals
      go_enter Tryz.func38, Tryz.ntmps38
      go_wp2_with (first
        | (go_at_call 105; refine (in_any _ _ _ _).mono ?_; rintro e w' ⟨rfl, rfl⟩; rw [H1.out])
        | (go_at_call 113; ((with_reducible refine (onlyS_any u sm _ (by omega)).mono ?_); rintro e w' ⟨rfl, rfl⟩; rw [HSM.out]))
        | (go_at_call 113; ((with_reducible refine (onlyS_any s ks _ (by omega)).mono ?_); rintro e w' ⟨rfl, rfl⟩; rw [HKS.out]))
        | fail)
      go_ret
      exact ⟨by rw [HB.out]; rfl, rfl⟩
end
end Go.Proofs.YtpjheibkacbbcaaGreatDoor
/- Small words that many texts share: Go's order of strings, the first error of some places, moments. Conditions: none. -/
namespace Go.Proofs.YtpjheibkacbbcaaGreatDoor
section
open Go.RowKit

/-- Go's <= on strings. -/
def leS (a b : ByteArray) : Bool := Op.bytesLess a.toList b.toList || a.toList == b.toList
/-- The first of f 0, f 1, .. f (n - 1) that is not 0; 0: there is none. -/
def fstE (f : Nat → Int) : Nat → Int
  | 0 => 0
  | n + 1 => if fstE f n = 0 then f n else fstE f n
theorem fstE_zero {f : Nat → Int} {i : Nat} (h : fstE f i = 0) (h1 : f i = 0) : fstE f (i + 1) = 0 := by simp [fstE, h, h1]
theorem fstE_stop {f : Nat → Int} {i n : Nat} (h : fstE f i = 0) (h1 : f i ≠ 0) (hn : i < n) : fstE f n = f i := by
  induction n with
  | zero => omega
  | succ n ih =>
    by_cases e : i = n
    · subst e; simp [fstE, h]
    · have := ih (by omega)
      simp [fstE, this, h1]

theorem fst_ret {f : Nat → Int} {i n : Nat} {X v : Int} (h : fstE f i = 0) (e : f i = v) (hv : v ≠ 0) (hn : i < n) : (if fstE f n = 0 then X else fstE f n) = v := by
  rw [fstE_stop h (by rw [e]; exact hv) hn, e, if_neg hv]
def momB (n : Int) : Bool := inB n 0 345686399999
set_option maxHeartbeats 1000000 in
theorem isMomB_any (n : Int) (w : World) : Calls Tryz.prog 51 #[.int .i64 n] w (Same (.bool (momB n)) w) := by
  have H := Lib.hid (show momB n = (decide (0 ≤ n) && decide (n ≤ 345686399999)) from rfl)
  by_cases h1 : 0 ≤ n <;> by_cases h2 : n < 345686400000
  all_goals
    go_enter Tryz.func51, Tryz.ntmps51
    go_wp2
    go_ret
    exact ⟨by rw [H.out]; simp [h1]; omega, rfl⟩
set_option maxHeartbeats 1000000 in
theorem momentB_any (n : Int) (w : World) : Calls Tryz.prog 114 #[.int .i64 n] w (Same (.bool (momB n)) w) := by
  go_enter Tryz.func114, Tryz.ntmps114
  go_wp2_with (first
    | (go_at_call 105; refine (in_any _ _ _ _).mono ?_; rintro e w' ⟨rfl, rfl⟩)
    | fail)
  go_ret
  exact ⟨rfl, rfl⟩
theorem keyRefR_any (s : ByteArray) (w : World) (hs : s.size ≤ 1000000) : Calls Tryz.prog 38 #[.string s] w (RetV (.bool (keyOk (nb s))) w) := by
  refine (keyRef_any s w hs).mono ?_
  rintro e w' ⟨rfl, rfl⟩
  exact ⟨rfl, gr_refl _ _⟩
theorem eqS_nb (s t : ByteArray) : (s.toList == t.toList) = (nb s == nb t) := by
  rw [Bool.eq_iff_iff, beq_iff_eq, beq_iff_eq, ByteArray.toList_eq, ByteArray.toList_eq]
  exact ⟨fun h => by unfold nb; rw [h], fun h => by rw [nb_inj h]⟩
theorem fstE_ev {f : Nat → Int} {n : Nat} (h : fstE f n = 0) : ∀ i, i < n → f i = 0 := by
  induction n with
  | zero => intro i hi; omega
  | succ n ih =>
    intro i hi
    unfold fstE at h
    by_cases h0 : fstE f n = 0
    · rw [if_pos h0] at h
      rcases Nat.lt_succ_iff_lt_or_eq.1 hi with h1 | h1
      · exact ih h0 i h1
      · subst h1; exact h
    · rw [if_neg h0] at h; exact absurd h h0
end
end Go.Proofs.YtpjheibkacbbcaaGreatDoor
/- Hours as they lie in memory, and what is wrong with them, in plain Lean. Conditions: none. -/
namespace Go.Proofs.YtpjheibkacbbcaaGreatDoor
section
open Go.RowKit

/-- Hours, as they lie in memory: rows are (days, from, to), holidays are (day, from, to). -/
structure HrV where
  key : ByteArray
  zone : Int
  rA : Option Addr
  rn : Nat
  rc : Nat
  hA : Option Addr
  hn : Nat
  hc : Nat
  rows : List (Int × Int × Int)
  hol : List (Int × Int × Int)
def HrV.row (a : HrV) : List Value := [.string a.key, .int .i64 a.zone, .slice a.rA a.rn a.rc, .slice a.hA a.hn a.hc]
theorem HrV.row_len (a : HrV) : a.row.length = 4 := rfl
def r3Row (p : Int × Int × Int) : List Value := [.int .i64 p.1, .int .i64 p.2.1, .int .i64 p.2.2]
theorem r3Row_len (p : Int × Int × Int) : (r3Row p).length = 3 := rfl
/-- What the slices of hours read as. -/
def HrOk (w : World) (lo : Nat) (a : HrV) : Prop := (a.key.size ≤ 1000 ∧ a.rn ≤ 1000 ∧ a.hn ≤ 1000) ∧ Recs r3Row 3 w lo a.rA a.rn a.rc a.rows ∧ Recs r3Row 3 w lo a.hA a.hn a.hc a.hol
def Hrs (w : World) (lo : Nat) (A : Option Addr) (n c : Nat) (l : List HrV) : Prop := Recs HrV.row 4 w lo A n c l ∧ ∀ a ∈ l, HrOk w lo a
theorem HrOk.grown {w w' : World} {lo : Nat} {a : HrV} (h : HrOk w lo a) {r : Option Nat} (hg : w.grownBy w' r) (hr : ∀ g, r = some g → g < lo) : HrOk w' lo a := ⟨h.1, h.2.1.grown hg hr, h.2.2.grown hg hr⟩
theorem Hrs.grown {w w' : World} {lo : Nat} {A : Option Addr} {n c : Nat} {l : List HrV} (h : Hrs w lo A n c l) {r : Option Nat} (hg : w.grownBy w' r) (hr : ∀ g, r = some g → g < lo) : Hrs w' lo A n c l :=
  ⟨h.1.grown hg hr, fun a ha => (h.2 a ha).grown hg hr⟩

/-! What is wrong with hours. -/
def timB (a b : Int) : Bool := decide (0 ≤ a) && (decide (a < b) && decide (b ≤ 1440))
def rwB (r : Int × Int × Int) : Bool := inB r.1 1 127 && timB r.2.1 r.2.2
def hoB (d : Int × Int × Int) : Bool := inB d.1 0 4000 && ((decide (d.2.1 = 0) && decide (d.2.2 = 0)) || timB d.2.1 d.2.2)
def rwAt (l : List (Int × Int × Int)) (i : Nat) : Int := (l[i]?).elim 0 fun r => if rwB r then 0 else 1
def hoAt (l : List (Int × Int × Int)) (i : Nat) : Int := (l[i]?).elim 0 fun d => if hoB d then (if decide (0 < i) && (l[i - 1]?).elim false (fun p => decide (d.1 ≤ p.1)) then 7 else 0) else 1
def htE (rn : Nat) (rows : List (Int × Int × Int)) (hn : Nat) (hol : List (Int × Int × Int)) : Int :=
  if 50 < rn then 2 else (if fstE (rwAt rows) rn = 0 then (if 200 < hn then 2 else fstE (hoAt hol) hn) else fstE (rwAt rows) rn)
def hrE (a : HrV) : Int := htE a.rn a.rows a.hn a.hol
def hrAt (l : List HrV) (i : Nat) : Int := (l[i]?).elim 0 fun a =>
  if keyOk (nb a.key) then (if decide (0 < i) && (l[i - 1]?).elim false (fun b => leS a.key b.key) then 7 else (if inB a.zone (-1440) 1440 then hrE a else 1)) else 5
def hrsE (l : List HrV) : Int := if 50 < l.length then 2 else fstE (hrAt l) l.length

section
variable {l : List (Int × Int × Int)} {i : Nat} {z b : Int × Int × Int}
theorem rwAt_1 (h : l[i]? = some z) (h1 : rwB z = false) : rwAt l i = 1 := by simp [rwAt, h, h1]
theorem rwAt_0 (h : l[i]? = some z) (h1 : rwB z = true) : rwAt l i = 0 := by simp [rwAt, h, h1]
theorem hoAt_1 (h : l[i]? = some z) (h1 : hoB z = false) : hoAt l i = 1 := by simp [hoAt, h, h1]
theorem hoAt_7 (h : l[i]? = some z) (h1 : hoB z = true) (hi : 0 < i) (hb : l[i - 1]? = some b) (h3 : z.1 ≤ b.1) : hoAt l i = 7 := by simp [hoAt, h, h1, hi, hb, h3]
theorem hoAt_e (h : l[i]? = some z) (h1 : hoB z = true) (hb : l[i - 1]? = some b) (h3 : ¬ z.1 ≤ b.1) : hoAt l i = 0 := by simp only [hoAt, h, Option.elim, h1, hb, decide_eq_false h3, Bool.and_false]; rfl
theorem hoAt_z (h : l[i]? = some z) (h1 : hoB z = true) (hi : ¬ 0 < i) : hoAt l i = 0 := by simp only [hoAt, h, Option.elim, h1, decide_eq_false hi, Bool.false_and]; rfl
end
section
variable {l : List HrV} {i : Nat} {z b : HrV}
theorem hrAt_5 (h : l[i]? = some z) (h1 : keyOk (nb z.key) = false) : hrAt l i = 5 := by simp only [hrAt, h, Option.elim, h1]; rfl
theorem hrAt_7 (h : l[i]? = some z) (h1 : keyOk (nb z.key) = true) (hi : 0 < i) (hb : l[i - 1]? = some b) (h3 : leS z.key b.key = true) : hrAt l i = 7 := by simp only [hrAt, h, Option.elim, h1, hb, h3, decide_eq_true hi]; rfl
theorem hrAt_e (h : l[i]? = some z) (h1 : keyOk (nb z.key) = true) (hb : l[i - 1]? = some b) (h3 : leS z.key b.key = false) : hrAt l i = if inB z.zone (-1440) 1440 then hrE z else 1 := by simp only [hrAt, h, Option.elim, h1, hb, h3, Bool.and_false]; rfl
theorem hrAt_z (h : l[i]? = some z) (h1 : keyOk (nb z.key) = true) (hi : ¬ 0 < i) : hrAt l i = if inB z.zone (-1440) 1440 then hrE z else 1 := by simp only [hrAt, h, Option.elim, h1, decide_eq_false hi, Bool.false_and]; rfl
end
/-- The key ahead of a place; none: the empty string. -/
def lastH (l : List HrV) (k : Nat) : ByteArray := if k = 0 then ⟨#[]⟩ else (l[k - 1]?).elim ⟨#[]⟩ (·.key)
theorem lastH_succ {l : List HrV} {k : Nat} {z : HrV} (h : l[k]? = some z) : lastH l (k + 1) = z.key := by unfold lastH; rw [if_neg (by omega), Nat.add_sub_cancel, h]; rfl
theorem keyOk_full {s : ByteArray} (h : keyOk (nb s) = true) : s.toList ≠ [] := by
  intro e
  have : nb s = [] := by unfold nb; rw [← ByteArray.toList_eq, e]; rfl
  rw [this] at h
  exact absurd h (by decide)
theorem hrAt_last {l : List HrV} {k : Nat} {z : HrV} (h : l[k]? = some z) (h1 : keyOk (nb z.key) = true) : hrAt l k = if leS z.key (lastH l k) then 7 else (if inB z.zone (-1440) 1440 then hrE z else 1) := by
  by_cases hk : 0 < k
  · have hl := (List.getElem?_eq_some_iff.1 h).1
    obtain ⟨b, hb⟩ : ∃ b, l[k - 1]? = some b := ⟨_, List.getElem?_eq_getElem (by omega)⟩
    have e : lastH l k = b.key := by unfold lastH; rw [if_neg (by omega), hb]; rfl
    rw [e]
    cases h3 : leS z.key b.key
    · rw [hrAt_e h h1 hb h3]; rfl
    · rw [hrAt_7 h h1 hk hb h3]; rfl
  · have e : lastH l k = ⟨#[]⟩ := by unfold lastH; rw [if_pos (by omega)]
    have h3 : leS z.key ⟨#[]⟩ = false := by
      unfold leS
      have h4 : (⟨#[]⟩ : ByteArray).toList = [] := by rw [ByteArray.toList_eq]
      rw [h4, Bool.or_eq_false_iff]
      refine ⟨?_, by rw [beq_eq_false_iff_ne]; exact keyOk_full h1⟩
      unfold Op.bytesLess
      cases z.key.toList <;> rfl
    rw [e, h3, hrAt_z h h1 hk]; rfl

/-! Hours that are right. -/
theorem fstE_alh {f : Nat → Int} {n i : Nat} (h : fstE f n = 0) (hi : i < n) : f i = 0 := by
  rcases Int.lt_trichotomy (f i) 0 with h1 | h1 | h1
  · by_cases h2 : fstE f i = 0
    · rw [fstE_stop h2 (by omega) hi] at h; omega
    · exfalso
      clear h1
      induction n with
      | zero => omega
      | succ n ih =>
        unfold fstE at h
        by_cases h3 : fstE f n = 0
        · by_cases e : i = n
          · subst e; exact h2 h3
          · exact ih h3 (by omega)
        · rw [if_neg h3] at h; exact h3 h
  · exact h1
  · by_cases h2 : fstE f i = 0
    · rw [fstE_stop h2 (by omega) hi] at h; omega
    · exfalso
      clear h1
      induction n with
      | zero => omega
      | succ n ih =>
        unfold fstE at h
        by_cases h3 : fstE f n = 0
        · by_cases e : i = n
          · subst e; exact h2 h3
          · exact ih h3 (by omega)
        · rw [if_neg h3] at h; exact h3 h
def RightH (zone : Int) (rows hol : List (Int × Int × Int)) : Prop := (-1440 ≤ zone ∧ zone ≤ 1440) ∧ (rows.length ≤ 50 ∧ hol.length ≤ 200) ∧ (∀ r ∈ rows, (1 ≤ r.1 ∧ r.1 ≤ 127) ∧ 0 ≤ r.2.1 ∧ r.2.1 ≤ 1440 ∧ 0 ≤ r.2.2 ∧ r.2.2 ≤ 1440) ∧ ∀ r ∈ hol, 0 ≤ r.2.1 ∧ r.2.1 ≤ 1440 ∧ 0 ≤ r.2.2 ∧ r.2.2 ≤ 1440
theorem right_of {a : HrV} (hr : a.rows.length = a.rn) (hh : a.hol.length = a.hn) (h : hrsE [a] = 0) : RightH a.zone a.rows a.hol := by
  have h1 : hrAt [a] 0 = 0 := fstE_alh (n := 1) (show fstE (hrAt [a]) 1 = 0 from h) (by omega)
  have h2 : hrAt [a] 0 = if keyOk (nb a.key) then (if inB a.zone (-1440) 1440 then hrE a else 1) else 5 := rfl
  rw [h2] at h1
  by_cases c1 : keyOk (nb a.key) = true
  · rw [if_pos c1] at h1
    by_cases c2 : inB a.zone (-1440) 1440 = true
    · rw [if_pos c2] at h1
      have c2' : -1440 ≤ a.zone ∧ a.zone ≤ 1440 := by unfold inB at c2; simpa using c2
      unfold hrE htE at h1
      by_cases c3 : 50 < a.rn
      · rw [if_pos c3] at h1; omega
      · rw [if_neg c3] at h1
        by_cases c4 : fstE (rwAt a.rows) a.rn = 0
        · rw [if_pos c4] at h1
          by_cases c5 : 200 < a.hn
          · rw [if_pos c5] at h1; omega
          · rw [if_neg c5] at h1
            refine ⟨c2', ⟨by omega, by omega⟩, fun r hrm => ?_, fun r hrm => ?_⟩
            · obtain ⟨i, hi⟩ := List.mem_iff_getElem?.1 hrm
              have hl := (List.getElem?_eq_some_iff.1 hi).1
              have := fstE_alh c4 (show i < a.rn by omega)
              cases c6 : rwB r
              · rw [rwAt_1 hi c6] at this; omega
              · unfold rwB inB timB at c6
                simp only [Bool.and_eq_true, decide_eq_true_eq] at c6
                omega
            · obtain ⟨i, hi⟩ := List.mem_iff_getElem?.1 hrm
              have hl := (List.getElem?_eq_some_iff.1 hi).1
              have := fstE_alh h1 (show i < a.hn by omega)
              cases c6 : hoB r
              · rw [hoAt_1 hi c6] at this; omega
              · unfold hoB inB timB at c6
                simp only [Bool.and_eq_true, Bool.or_eq_true, decide_eq_true_eq] at c6
                omega
        · rw [if_neg c4] at h1; exact absurd h1 c4
    · rw [if_neg c2] at h1; omega
  · rw [if_neg c1] at h1; omega
end
end Go.Proofs.YtpjheibkacbbcaaGreatDoor
/- Plans as they lie in memory, and what is wrong with them, in plain Lean. Conditions: none. -/
namespace Go.Proofs.YtpjheibkacbbcaaGreatDoor
section
open Go.RowKit

/-- A rule. -/
structure RuV where
  pat : ByteArray
  strip : Int
  pre : ByteArray
  to_ : Int
  nam : ByteArray
  hrs : ByteArray
def RuV.row (r : RuV) : List Value := [.string r.pat, .int .i64 r.strip, .string r.pre, .int .i64 r.to_, .string r.nam, .string r.hrs]
theorem RuV.row_len (r : RuV) : r.row.length = 6 := rfl
def RuOk (r : RuV) : Prop := r.pat.size ≤ 1000000 ∧ r.pre.size ≤ 1000000 ∧ r.nam.size ≤ 1000000 ∧ r.hrs.size ≤ 1000000
/-- A context, as it lies in memory. -/
structure CxV where
  key : ByteArray
  rA : Option Addr
  rn : Nat
  rc : Nat
  iA : Option Addr
  en : Nat
  ic : Nat
  rules : List RuV
  incs : List ByteArray
def CxV.row (c : CxV) : List Value := [.string c.key, .slice c.rA c.rn c.rc, .slice c.iA c.en c.ic]
theorem CxV.row_len (c : CxV) : c.row.length = 3 := rfl
structure CxOk (w : World) (lo : Nat) (c : CxV) : Prop where
  key : c.key.size ≤ 1000000
  rn : c.rn ≤ 1000000
  en : c.en ≤ 1000000
  rules : Recs RuV.row 6 w lo c.rA c.rn c.rc c.rules
  incs : Recs srow 1 w lo c.iA c.en c.ic c.incs
  rok : ∀ r ∈ c.rules, RuOk r
  iok : ∀ s ∈ c.incs, s.size ≤ 1000000
/-- A plan, as it lies in memory. -/
structure PlV where
  cA : Option Addr
  cn : Nat
  cc : Nat
  hA : Option Addr
  hn : Nat
  hc : Nat
  ctxs : List CxV
  hours : List HrV
structure PlOk (w : World) (lo : Nat) (p : PlV) : Prop where
  cn : p.cn ≤ 1000000
  hn : p.hn ≤ 1000000
  ctxs : Recs CxV.row 3 w lo p.cA p.cn p.cc p.ctxs
  cok : ∀ c ∈ p.ctxs, CxOk w lo c
  hours : Hrs w lo p.hA p.hn p.hc p.hours
section
variable {w w' : World} {lo : Nat} {r : Option Nat}
theorem CxOk.grown {c : CxV} (h : CxOk w lo c) (hg : w.grownBy w' r) (hr : ∀ g, r = some g → g < lo) : CxOk w' lo c := ⟨h.key, h.rn, h.en, h.rules.grown hg hr, h.incs.grown hg hr, h.rok, h.iok⟩
theorem PlOk.grown {p : PlV} (h : PlOk w lo p) (hg : w.grownBy w' r) (hr : ∀ g, r = some g → g < lo) : PlOk w' lo p := ⟨h.cn, h.hn, h.ctxs.grown hg hr, fun c hc => (h.cok c hc).grown hg hr, h.hours.grown hg hr⟩
end

/-! What is wrong with a plan. -/
/-- May a string be dialled, or is it empty? -/
def preOk (l : List Nat) : Bool := decide (l.length ≤ 30) && l.all (fun b => decide (b ∈ sgn))
def hrsOk (hs : List HrV) (k : ByteArray) : Bool := decide (nb k = []) || hs.any (fun h => nb h.key == nb k)
def sameR (r x : RuV) : Bool := (nb x.pat == nb r.pat) && (nb x.hrs == nb r.hrs)
def ruE2 (hs : List HrV) (prev : List RuV) (r : RuV) : Int := if hrsOk hs r.hrs = true then (if prev.any (sameR r) = true then 6 else 0) else 8
def ruE1 (hs : List HrV) (prev : List RuV) (r : RuV) : Int :=
  if inB r.to_ 3 5 = true then (if keyOk (nb r.nam) = true then ruE2 hs prev r else 5) else (if nb r.nam = [] then ruE2 hs prev r else 3)
def ruE (hs : List HrV) (prev : List RuV) (r : RuV) : Int :=
  if patF (nb r.pat) = 0 then (if inB r.strip 0 30 = true then (if preOk (nb r.pre) = true then (if inB r.to_ 1 6 = true then ruE1 hs prev r else 4) else 3) else 1) else patF (nb r.pat)
def ruAt (hs : List HrV) (rules : List RuV) (i : Nat) : Int := (rules[i]?).elim 0 (ruE hs (rules.take i))
def incAt (incs : List ByteArray) (k : Nat) : Int := (incs[k]?).elim 0 fun s => if memS (incs.take k) s = true then 6 else 0
def cxE (hs : List HrV) (c : CxV) : Int :=
  if 200 < c.rn then 2 else (if fstE (ruAt hs c.rules) c.rn = 0 then (if 10 < c.en then 2 else fstE (incAt c.incs) c.en) else fstE (ruAt hs c.rules) c.rn)
def cxAt (hs : List HrV) (l : List CxV) (i : Nat) : Int := (l[i]?).elim 0 fun c =>
  if keyOk (nb c.key) then (if decide (0 < i) && (l[i - 1]?).elim false (fun b => leS c.key b.key) then 7 else cxE hs c) else 5
/-- Where a context is; -1: nowhere. -/
def cxIx (l : List CxV) (key : ByteArray) : Int := idxP (fun c : CxV => nb c.key == nb key) l
def misC (l : List CxV) (c : CxV) : Bool := c.incs.any fun s => decide (cxIx l s < 0)
def misB (l : List CxV) : Bool := l.any (misC l)
/-- The contexts that one includes, by their places. -/
def incIx (l : List CxV) (i : Nat) : List Nat := (((l[i]?).elim [] (·.incs)).map fun s => (cxIx l s).toNat)
inductive Path (S : Nat → List Nat) : Nat → Nat → Prop
  | one {i j : Nat} : j ∈ S i → Path S i j
  | more {i j k : Nat} : j ∈ S i → Path S j k → Path S i k
def Loops (l : List CxV) : Prop := ∃ i, i < l.length ∧ Path (incIx l) i i
def plE (p : PlV) (LB : Bool) : Int :=
  if hrsE p.hours = 0 then (if 50 < p.cn then 2 else (if fstE (cxAt p.hours p.ctxs) p.cn = 0 then (if misB p.ctxs = true then 8 else (if LB = true then 14 else 0)) else fstE (cxAt p.hours p.ctxs) p.cn)) else hrsE p.hours

section
variable {hs : List HrV} {prev : List RuV} {r : RuV}
theorem ruE_p (h : patF (nb r.pat) ≠ 0) : ruE hs prev r = patF (nb r.pat) := by unfold ruE; rw [if_neg h]
theorem ruE_1 (h : patF (nb r.pat) = 0) (h1 : inB r.strip 0 30 = false) : ruE hs prev r = 1 := by unfold ruE; rw [if_pos h, if_neg (by rw [h1]; decide)]
theorem ruE_3 (h : patF (nb r.pat) = 0) (h1 : inB r.strip 0 30 = true) (h2 : preOk (nb r.pre) = false) : ruE hs prev r = 3 := by unfold ruE; rw [if_pos h, if_pos h1, if_neg (by rw [h2]; decide)]
theorem ruE_4 (h : patF (nb r.pat) = 0) (h1 : inB r.strip 0 30 = true) (h2 : preOk (nb r.pre) = true) (h3 : inB r.to_ 1 6 = false) : ruE hs prev r = 4 := by unfold ruE; rw [if_pos h, if_pos h1, if_pos h2, if_neg (by rw [h3]; decide)]
theorem ruE_s (h : patF (nb r.pat) = 0) (h1 : inB r.strip 0 30 = true) (h2 : preOk (nb r.pre) = true) (h3 : inB r.to_ 1 6 = true) : ruE hs prev r = ruE1 hs prev r := by unfold ruE; rw [if_pos h, if_pos h1, if_pos h2, if_pos h3]
theorem ruE1_5 (h4 : inB r.to_ 3 5 = true) (h5 : keyOk (nb r.nam) = false) : ruE1 hs prev r = 5 := by unfold ruE1; rw [if_pos h4, if_neg (by rw [h5]; decide)]
theorem ruE1_n (h4 : inB r.to_ 3 5 = true) (h5 : keyOk (nb r.nam) = true) : ruE1 hs prev r = ruE2 hs prev r := by unfold ruE1; rw [if_pos h4, if_pos h5]
theorem ruE1_3 (h4 : inB r.to_ 3 5 = false) (h5 : nb r.nam ≠ []) : ruE1 hs prev r = 3 := by unfold ruE1; rw [if_neg (by rw [h4]; decide), if_neg h5]
theorem ruE1_u (h4 : inB r.to_ 3 5 = false) (h5 : nb r.nam = []) : ruE1 hs prev r = ruE2 hs prev r := by unfold ruE1; rw [if_neg (by rw [h4]; decide), if_pos h5]
end
section
variable {hs : List HrV} {l : List CxV} {i : Nat} {z b : CxV}
theorem cxAt_5 (h : l[i]? = some z) (h1 : keyOk (nb z.key) = false) : cxAt hs l i = 5 := by simp only [cxAt, h, Option.elim, h1]; rfl
theorem cxAt_7 (h : l[i]? = some z) (h1 : keyOk (nb z.key) = true) (hi : 0 < i) (hb : l[i - 1]? = some b) (h3 : leS z.key b.key = true) : cxAt hs l i = 7 := by simp only [cxAt, h, Option.elim, h1, hb, h3, decide_eq_true hi]; rfl
theorem cxAt_e (h : l[i]? = some z) (h1 : keyOk (nb z.key) = true) (hb : l[i - 1]? = some b) (h3 : leS z.key b.key = false) : cxAt hs l i = cxE hs z := by simp only [cxAt, h, Option.elim, h1, hb, h3, Bool.and_false]; rfl
theorem cxAt_z (h : l[i]? = some z) (h1 : keyOk (nb z.key) = true) (hi : ¬ 0 < i) : cxAt hs l i = cxE hs z := by simp only [cxAt, h, Option.elim, h1, decide_eq_false hi, Bool.false_and]; rfl
/-- The key ahead of a place; none: the empty string. -/
def lastC (l : List CxV) (k : Nat) : ByteArray := if k = 0 then ⟨#[]⟩ else (l[k - 1]?).elim ⟨#[]⟩ (·.key)
theorem lastC_succ {k : Nat} (h : l[k]? = some z) : lastC l (k + 1) = z.key := by unfold lastC; rw [if_neg (by omega), Nat.add_sub_cancel, h]; rfl
theorem leS_none {s : ByteArray} (h1 : keyOk (nb s) = true) : leS s ⟨#[]⟩ = false := by
  unfold leS
  have h4 : (⟨#[]⟩ : ByteArray).toList = [] := by rw [ByteArray.toList_eq]
  rw [h4, Bool.or_eq_false_iff]
  refine ⟨?_, by rw [beq_eq_false_iff_ne]; exact keyOk_full h1⟩
  unfold Op.bytesLess
  cases s.toList <;> rfl
theorem cxAt_last {k : Nat} (h : l[k]? = some z) (h1 : keyOk (nb z.key) = true) : cxAt hs l k = if leS z.key (lastC l k) then 7 else cxE hs z := by
  by_cases hk : 0 < k
  · have hl := (List.getElem?_eq_some_iff.1 h).1
    obtain ⟨b, hb⟩ : ∃ b, l[k - 1]? = some b := ⟨_, List.getElem?_eq_getElem (by omega)⟩
    have e : lastC l k = b.key := by unfold lastC; rw [if_neg (by omega), hb]; rfl
    rw [e]
    cases h3 : leS z.key b.key
    · rw [cxAt_e h h1 hb h3]; rfl
    · rw [cxAt_7 h h1 hk hb h3]; rfl
  · have e : lastC l k = ⟨#[]⟩ := by unfold lastC; rw [if_pos (by omega)]
    rw [e, leS_none h1, cxAt_z h h1 hk]; rfl
end

/-! What holds of a plan that is right. -/
theorem plE_right {p : PlV} {LB : Bool} (h : plE p LB = 0) : hrsE p.hours = 0 ∧ p.cn ≤ 50 ∧ fstE (cxAt p.hours p.ctxs) p.cn = 0 ∧ misB p.ctxs = false ∧ LB = false := by
  unfold plE at h
  by_cases c1 : hrsE p.hours = 0
  · rw [if_pos c1] at h
    by_cases c2 : 50 < p.cn
    · rw [if_pos c2] at h; omega
    · rw [if_neg c2] at h
      by_cases c3 : fstE (cxAt p.hours p.ctxs) p.cn = 0
      · rw [if_pos c3] at h
        cases c4 : misB p.ctxs
        · rw [if_neg (by rw [c4]; decide)] at h
          cases LB
          · exact ⟨c1, by omega, c3, rfl, rfl⟩
          · rw [if_pos rfl] at h; omega
        · rw [if_pos c4] at h; omega
      · rw [if_neg c3] at h; exact absurd h c3
  · rw [if_neg c1] at h; exact absurd h c1
/-- A context that is right. -/
structure CxRight (hs : List HrV) (c : CxV) : Prop where
  key : keyOk (nb c.key) = true
  rn : c.rn ≤ 200
  en : c.en ≤ 10
  rules : ∀ i, i < c.rn → ruAt hs c.rules i = 0
theorem cx_right {hs : List HrV} {l : List CxV} {i : Nat} {c : CxV} (h : l[i]? = some c) (e : cxAt hs l i = 0) : CxRight hs c ∧ (∀ b, 0 < i → l[i - 1]? = some b → leS c.key b.key = false) := by
  cases h1 : keyOk (nb c.key)
  · rw [cxAt_5 h h1] at e; omega
  · rw [cxAt_last h h1] at e
    cases h2 : leS c.key (lastC l i)
    · rw [if_neg (by rw [h2]; decide)] at e
      unfold cxE at e
      by_cases c2 : 200 < c.rn
      · rw [if_pos c2] at e; omega
      · rw [if_neg c2] at e
        by_cases c3 : fstE (ruAt hs c.rules) c.rn = 0
        · rw [if_pos c3] at e
          by_cases c4 : 10 < c.en
          · rw [if_pos c4] at e; omega
          · refine ⟨⟨h1, by omega, by omega, fun i hi => fstE_alh c3 hi⟩, fun b hi hb => ?_⟩
            have : lastC l i = b.key := by unfold lastC; rw [if_neg (by omega), hb]; rfl
            rw [← this]; exact h2
        · rw [if_neg c3] at e; exact absurd e c3
    · rw [if_pos h2] at e; omega
end
end Go.Proofs.YtpjheibkacbbcaaGreatDoor
/- Contracts of isDialled, begins, Matches and CheckPattern. Conditions: none. -/
namespace Go.Proofs.YtpjheibkacbbcaaGreatDoor
section
open Go.RowKit

/-- What can be dialled. -/
def dialOk (l : List Nat) : Bool := decide (1 ≤ l.length) && decide (l.length ≤ 30) && l.all (fun b => decide (b ∈ sgn))
theorem head_drop {p : UInt8 → Bool} {l : List UInt8} {a : UInt8} {r : List UInt8} (h : l.dropWhile p = a :: r) : p a = false := by
  induction l with
  | nil => cases h
  | cons b l ih =>
    rw [List.dropWhile_cons] at h
    split at h
    · exact ih h
    · rename_i hp
      injection h with h1 h2
      subst h1
      simpa using hp
theorem drop_all {p : UInt8 → Bool} {l : List UInt8} : l.dropWhile p = [] ↔ ∀ a ∈ l, p a = true := by
  induction l with
  | nil => simp
  | cons b l ih =>
    rw [List.dropWhile_cons]
    by_cases hp : p b = true
    · rw [if_pos hp, ih]; simp [hp]
    · rw [if_neg hp]; simp [hp]
theorem trim_nil (l cs : List UInt8) : Lib.trimS l cs = [] ↔ ∀ b ∈ l, cs.contains b = true := by
  unfold Lib.trimS Lib.trimLeftS Lib.trimRightS
  rw [drop_all]
  constructor
  · intro h
    cases hd : l.reverse.dropWhile (cs.contains ·) with
    | nil =>
      have := drop_all.1 hd
      intro b hb
      exact this b (by simpa using hb)
    | cons a r =>
      exfalso
      have h1 := head_drop hd
      have h2 := h a (by rw [hd]; simp)
      rw [h1] at h2
      cases h2
  · intro h
    have : l.reverse.dropWhile (cs.contains ·) = [] := drop_all.2 (fun a ha => h a (by simpa using ha))
    rw [this]
    simp
theorem sgn_contains : ∀ c : Fin 256, ([35, 42, 48, 49, 50, 51, 52, 53, 54, 55, 56, 57] : List UInt8).contains c.val.toUInt8 = decide (c.val ∈ sgn) := by decide +kernel
theorem trim_signs (s : ByteArray) : (Lib.trimS s.data.toList [35, 42, 48, 49, 50, 51, 52, 53, 54, 55, 56, 57] = []) ↔ ∀ b ∈ nb s, b ∈ sgn := by
  rw [trim_nil]
  unfold nb
  constructor
  · intro h b hb
    obtain ⟨u, hu, rfl⟩ := List.mem_map.1 hb
    have h1 := h u hu
    have h2 := sgn_contains ⟨u.toNat, u.toNat_lt⟩
    dsimp only at h2
    rw [show u.toNat.toUInt8 = u by simp, h1] at h2
    exact of_decide_eq_true h2.symm
  · intro h u hu
    have h2 := sgn_contains ⟨u.toNat, u.toNat_lt⟩
    dsimp only at h2
    rw [show u.toNat.toUInt8 = u by simp, decide_eq_true (h _ (List.mem_map.2 ⟨u, hu, rfl⟩))] at h2
    exact h2
theorem trim_any (s : ByteArray) (w : World) (hs : s.size ≤ 1000000) : Calls Tryz.prog 132 #[.string s, .string ⟨#[35, 42, 48, 49, 50, 51, 52, 53, 54, 55, 56, 57]⟩] w
    (RetV (.string ⟨(Lib.trimS s.data.toList [35, 42, 48, 49, 50, 51, 52, 53, 54, 55, 56, 57]).toArray⟩) w) := by
  refine (Any.strings_Trim_laid Tryz.lays160 (by kernel_rfl) s ⟨#[35, 42, 48, 49, 50, 51, 52, 53, 54, 55, 56, 57]⟩ w (by omega) (by decide) (ascii_of_all (by decide))).mono ?_
  rintro e w' ⟨rfl, hb⟩
  exact ⟨rfl, gr_below hb none⟩
end
end Go.Proofs.YtpjheibkacbbcaaGreatDoor
/- Contracts of rank, before, Before, Matches and CheckPattern. Conditions: none. -/
namespace Go.Proofs.YtpjheibkacbbcaaGreatDoor
section
open Go.RowKit

set_option maxHeartbeats 2000000 in
theorem checkPattern_any (s : ByteArray) (w : World) : Calls Tryz.prog 267 #[.string s] w (RetV (.int .i64 (patF (nb s))) w) := by
  go_enter Tryz.func267, Tryz.ntmps267
  go_wp2_with fail
  refine (read_all s _).mono ?_
  rintro e w1 ⟨v1, rfl, hv1, hg1⟩
  have HG := Lib.hid hg1; clear hg1
  rcases hv1 with ⟨x, A, n, c, h1, rfl, h3, h4⟩ | ⟨h1, rfl⟩
  · have HV := Lib.hid (patF_some h1)
    clear h1 h3
    go_wp2_with fail
    go_ret
    exact ⟨by rw [HV.out]; rfl, gr_alloc HG.out _⟩
  · clear h1
    go_wp2_with fail
    go_ret
    exact ⟨rfl, gr_alloc HG.out _⟩
end
end Go.Proofs.YtpjheibkacbbcaaGreatDoor
/- Contracts of the document's order of patterns: only, DialledFault, places, slices.Compare, slices.CompareFunc, BeforeOf. Conditions: none. -/
namespace Go.Proofs.YtpjheibkacbbcaaGreatDoor
section
open Go.RowKit

set_option maxHeartbeats 2000000 in
theorem onlyRef_any (s u : ByteArray) (w : World) (hs : s.size ≤ 1000000000) : Calls Tryz.prog 113 #[.string s, .string u] w (Same (.bool ((nb s).all (fun b => decide (b ∈ nb u)))) w) := by
  go_enter Tryz.func113, Tryz.ntmps113
  go_wp2_with fail
  go_loop [5, 8] (fun _ t => ∃ i : Nat, i ≤ s.size ∧ t = .int .i64 i ∧ ∀ j, j < i → (nb s).getD j 0 ∈ nb u) (fun _ t => s.size - (intOf t).toNat)
  case atStart => exact ⟨0, Nat.zero_le _, rfl, fun j hj => by omega⟩
  case round =>
    obtain ⟨i, hi, rfl, hin⟩ := hrel
    have HIN := Lib.hid hin; clear hin
    by_cases hil : i < s.size
    · obtain ⟨q, hq⟩ : ∃ q, s[i].toNat = q := ⟨_, rfl⟩
      have q256 : q < 256 := by rw [← hq]; exact UInt8.toNat_lt _
      have HQ := Lib.hid (show (nb s).getD i 0 = q by rw [← nb_get hil, hq])
      obtain ⟨z, hz⟩ : ∃ z, idxL (nb u) q = z := ⟨_, rfl⟩
      have HZ := Lib.hid hz
      have hi0 := idx_mem (l := nb u) (c := q)
      rw [hz] at hi0
      clear hz
      by_cases hz0 : z < 0
      · have HF := Lib.hid (show (nb s).all (fun b => decide (b ∈ nb u)) = false by
          rw [List.all_eq_false]
          have hl : i < (nb s).length := by rw [nb_len]; exact hil
          refine ⟨q, ?_, by simpa using hi0.2.1 hz0⟩
          rw [← HQ.out, List.getD_eq_getElem?_getD, List.getElem?_eq_getElem hl]
          exact List.getElem_mem _)
        clear hi0
        go_wp2_with (first
          | (go_at_call 180; refine (indexByteN u q _ q256).mono ?_; rintro e w' ⟨rfl, rfl⟩; rw [HZ.out])
          | fail)
        go_ret
        exact ⟨by rw [HF.out]; rfl, rfl⟩
      · have HN := Lib.hid (hi0.1.1 (by omega))
        clear hi0
        go_wp2_with (first
          | (go_at_call 180; refine (indexByteN u q _ q256).mono ?_; rintro e w' ⟨rfl, rfl⟩; rw [HZ.out])
          | fail)
        go_round
        case rel => exact ⟨i + 1, by omega, by go_num, fun j hj => by
          rcases Nat.lt_succ_iff_lt_or_eq.1 hj with h1 | h1
          · exact HIN.out j h1
          · subst h1; rw [HQ.out]; exact HN.out⟩
        case measure => simp [intOf]; omega
    · obtain rfl : i = s.size := by omega
      have HT := Lib.hid (show (nb s).all (fun b => decide (b ∈ nb u)) = true by
        rw [List.all_eq_true]
        intro b hb
        obtain ⟨k, hk, rfl⟩ := List.mem_iff_getElem.1 hb
        have := HIN.out k (by rw [nb_len] at hk; exact hk)
        rw [List.getD_eq_getElem?_getD, List.getElem?_eq_getElem hk] at this
        exact decide_eq_true this)
      have d0 : decide ((s.size : Int) < (s.size : Int)) = false := decide_eq_false (by omega)
      go_wp2_with fail
      go_ret
      exact ⟨by rw [HT.out]; rfl, rfl⟩
def dialE (l : List Nat) : Int := if dialOk l then 0 else 3
set_option maxHeartbeats 2000000 in
theorem dialledFault_any (s : ByteArray) (w : World) (hs : s.size ≤ 1000000000) : Calls Tryz.prog 161 #[.string s] w (Same (.int .i64 (dialE (nb s))) w) := by
  have hlen := nb_len s
  have HD := Lib.hid (show dialOk (nb s) = (inB (s.size : Int) 1 30 && (nb s).all (fun b => decide (b ∈ sgn))) by
    unfold dialOk inB
    rw [hlen]
    congr 1
    rw [Bool.eq_iff_iff]
    simp only [Bool.and_eq_true, decide_eq_true_eq]
    omega)
  clear hlen
  obtain ⟨B1, h1⟩ : ∃ B1, inB (s.size : Int) 1 30 = B1 := ⟨_, rfl⟩
  obtain ⟨B2, h2⟩ : ∃ B2, (nb s).all (fun b => decide (b ∈ sgn)) = B2 := ⟨_, rfl⟩
  have HV := Lib.hid (show dialE (nb s) = if B1 && B2 then 0 else 3 by unfold dialE; rw [HD.out, h1, h2])
  have H1 := Lib.hid h1; have H2 := Lib.hid h2
  clear h1 h2
  cases B1
  · go_enter Tryz.func161, Tryz.ntmps161
    go_wp2_with (first
      | (go_at_call 105; refine (in_any _ _ _ _).mono ?_; rintro e w' ⟨rfl, rfl⟩; rw [H1.out])
      | fail)
    go_ret
    exact ⟨by rw [HV.out]; rfl, rfl⟩
  · cases B2
    all_goals
      go_enter Tryz.func161, Tryz.ntmps161
      go_wp2_with (first
        | (go_at_call 105; refine (in_any _ _ _ _).mono ?_; rintro e w' ⟨rfl, rfl⟩; rw [H1.out])
        | (go_at_call 113; refine (onlyRef_any s _ _ hs).mono ?_; rintro e w' ⟨rfl, rfl⟩; rw [nb_signs, H2.out])
        | fail)
      go_ret
      exact ⟨by rw [HV.out]; rfl, rfl⟩
end
end Go.Proofs.YtpjheibkacbbcaaGreatDoor
/- Contracts of slices.Index and slices.Contains at strings. Conditions: none. -/
namespace Go.Proofs.YtpjheibkacbbcaaGreatDoor
section
open Go.RowKit

set_option maxHeartbeats 2000000 in
theorem indexS_any (lo : Nat) (A : Option Addr) (n c : Nat) (l : List ByteArray) (s : ByteArray) (w : World) (h : Recs srow 1 w lo A n c l) (hn : n ≤ 1000000000) :
    Calls Tryz.prog 134 #[.slice A n c, .string s] w (Same (.int .i64 (idxP (fun x => nb x == nb s) l)) w) := by
  have H := Lib.hid h; clear h
  go_enter Tryz.func134, Tryz.ntmps134
  go_wp2_with fail
  go_loop [5, 8] (fun _ t => ∃ i : Nat, i ≤ n ∧ t = .int .i64 i ∧ (l.take i).all (fun x => !(nb x == nb s)) = true) (fun _ t => n - (intOf t).toNat)
  case atStart => exact ⟨0, Nat.zero_le _, rfl, rfl⟩
  case round =>
    obtain ⟨i, hi, rfl, ha⟩ := hrel
    have HA := Lib.hid ha; clear ha
    by_cases hlt : i < n
    · obtain ⟨g, o, x, rfl, _, hgl, hz, hcc⟩ := H.out.get srow_len hlt
      have ks := hcc 0 _ rfl
      simp only [Nat.mul_one, Nat.add_zero] at ks
      have HZ := Lib.hid hz; clear hz hcc
      obtain ⟨E, hE⟩ : ∃ E, (s.toList == x.toList) = E := ⟨_, rfl⟩
      have HE := Lib.hid (show (nb x == nb s) = E by rw [← hE, eqS_nb, Bool.eq_iff_iff, beq_iff_eq, beq_iff_eq]; exact eq_comm)
      cases E
      · go_wp2_with fail
        go_round
        case rel => exact ⟨i + 1, by omega, by go_num, allP_succ (p := fun x : ByteArray => nb x == nb s) HA.out HZ.out HE.out⟩
        case measure => simp [intOf]; omega
      · go_wp2_with fail
        go_ret
        exact ⟨by rw [idxP_some (p := fun x : ByteArray => nb x == nb s) HA.out HZ.out HE.out]; rfl, rfl⟩
    · obtain rfl : n = i := by omega
      go_wp2_with fail
      go_ret
      have h := HA.out
      rw [List.take_of_length_le (by rw [H.out.len]; exact Nat.le_refl _)] at h
      exact ⟨by rw [idxP_none (p := fun x : ByteArray => nb x == nb s) h]; rfl, rfl⟩
set_option maxHeartbeats 1000000 in
theorem containsS_any (lo : Nat) (A : Option Addr) (n c : Nat) (l : List ByteArray) (s : ByteArray) (w : World) (h : Recs srow 1 w lo A n c l) (hn : n ≤ 1000000000) :
    Calls Tryz.prog 54 #[.slice A n c, .string s] w (Same (.bool (l.any (fun x => nb x == nb s))) w) := by
  have H := Lib.hid h; clear h
  obtain ⟨I, hI⟩ : ∃ I, idxP (fun x => nb x == nb s) l = I := ⟨_, rfl⟩
  have HI := Lib.hid (show decide (0 ≤ I) = l.any (fun x => nb x == nb s) by rw [← hI]; exact idxP_any)
  have HI2 := Lib.hid hI; clear hI
  go_enter Tryz.func54, Tryz.ntmps54
  go_wp2_with (first
    | (go_at_call 134; refine (indexS_any lo _ _ _ l s _ H.out hn).mono ?_; rintro e w2 ⟨rfl, rfl⟩; rw [HI2.out])
    | fail)
  go_ret
  exact ⟨by rw [← HI.out]; rfl, rfl⟩
end
end Go.Proofs.YtpjheibkacbbcaaGreatDoor
/- Ways through the contexts of a plan, in plain Lean: colours, what comes after one, the order in which they are asked. Conditions: none. -/
namespace Go.Proofs.YtpjheibkacbbcaaGreatDoor
section

theorem Path.snoc {S : Nat → List Nat} {i j k : Nat} (h : Path S i j) (e : k ∈ S j) : Path S i k := by
  induction h with
  | one h => exact .more h (.one e)
  | more h _ ih => exact .more h (ih e)
theorem Path.bd {S : Nat → List Nat} {n i j : Nat} (hS : ∀ i j, j ∈ S i → j < n) (h : Path S i j) : j < n := by
  induction h with
  | one h => exact hS _ _ h
  | more _ _ ih => exact ih

/-! Colours: 0 not seen, 1 on the way, 2 done. -/
def sAt (st : List Int) (i : Nat) : Int := st.getD i 0
theorem sAt_get {st : List Int} {i : Nat} {v : Int} (h : st[i]? = some v) : sAt st i = v := by unfold sAt; rw [List.getD_eq_getElem?_getD, h]; rfl
theorem sAt_set {st : List Int} {i j : Nat} {v : Int} (hi : i < st.length) : sAt (st.set i v) j = if i = j then v else sAt st j := by
  unfold sAt
  rw [List.getD_eq_getElem?_getD, List.getD_eq_getElem?_getD, List.getElem?_set]
  by_cases e : i = j
  · subst e; simp [hi]
  · rw [if_neg e, if_neg e]
def zer (st : List Int) : Nat := st.count 0
theorem zer_set {st : List Int} {i : Nat} {v : Int} (h : st[i]? = some 0) (hv : v ≠ 0) : zer (st.set i v) < zer st := by
  obtain ⟨hl, e⟩ := List.getElem?_eq_some_iff.1 h
  have h1 : 0 < st.count 0 := List.count_pos_iff.2 (by rw [← e]; exact List.getElem_mem _)
  unfold zer
  rw [List.count_set hl, e]
  simp [hv]
  omega
theorem zer_up {st : List Int} {i : Nat} {v u : Int} (h : st[i]? = some u) (hv : v ≠ 0) : zer (st.set i v) ≤ zer st := by
  obtain ⟨hl, e⟩ := List.getElem?_eq_some_iff.1 h
  unfold zer
  rw [List.count_set hl, e]
  simp [hv]
/-- What is done is closed, and on no circle. -/
def DfsInv (S : Nat → List Nat) (n : Nat) (st : List Int) : Prop := st.length = n ∧ (∀ (i : Nat) (v : Int), st[i]? = some v → v = 0 ∨ v = 1 ∨ v = 2) ∧ ∀ b, sAt st b = 2 → (∀ j, j ∈ S b → sAt st j = 2) ∧ ¬ Path S b b
theorem DfsInv.path {S : Nat → List Nat} {n : Nat} {st : List Int} (h : DfsInv S n st) {b k : Nat} (hp : Path S b k) (hb : sAt st b = 2) : sAt st k = 2 := by
  induction hp with
  | one e => exact (h.2.2 _ hb).1 _ e
  | more e _ ih => exact ih ((h.2.2 _ hb).1 _ e)
theorem DfsInv.new (S : Nat → List Nat) (n : Nat) : DfsInv S n (List.replicate n 0) := by
  refine ⟨by simp, fun i v h => ?_, fun b h => ?_⟩
  · rw [List.getElem?_replicate] at h
    split at h
    · injection h with h; exact .inl h.symm
    · cases h
  · unfold sAt at h
    rw [List.getD_eq_getElem?_getD, List.getElem?_replicate] at h
    split at h <;> simp at h
theorem DfsInv.start {S : Nat → List Nat} {n : Nat} {st : List Int} (h : DfsInv S n st) {i : Nat} (hi : st[i]? = some 0) : DfsInv S n (st.set i 1) := by
  have hl := (List.getElem?_eq_some_iff.1 hi).1
  have h0 := sAt_get hi
  refine ⟨by simp [h.1], fun j v hv => ?_, fun b hb => ?_⟩
  · rw [List.getElem?_set] at hv
    split at hv
    · injection hv with hv; exact .inr (.inl hv.symm)
    · exact h.2.1 j v hv
  · rw [sAt_set hl] at hb
    by_cases e : i = b
    · rw [if_pos e] at hb; omega
    · rw [if_neg e] at hb
      refine ⟨fun j hj => ?_, (h.2.2 b hb).2⟩
      have := (h.2.2 b hb).1 j hj
      rw [sAt_set hl]
      by_cases e2 : i = j
      · subst e2; omega
      · rw [if_neg e2]; exact this
theorem DfsInv.done {S : Nat → List Nat} {n : Nat} {st : List Int} (h : DfsInv S n st) {i : Nat} (hi : i < n) (h1 : sAt st i = 1) (hs : ∀ j, j ∈ S i → sAt st j = 2) : DfsInv S n (st.set i 2) := by
  have hl : i < st.length := by rw [h.1]; exact hi
  have hno : ¬ Path S i i := by
    intro hp
    cases hp with
    | one e => have := hs _ e; omega
    | more e hp => have := h.path hp (hs _ e); omega
  refine ⟨by simp [h.1], fun j v hv => ?_, fun b hb => ?_⟩
  · rw [List.getElem?_set] at hv
    split at hv
    · injection hv with hv; exact .inr (.inr hv.symm)
    · exact h.2.1 j v hv
  · rw [sAt_set hl] at hb
    by_cases e : i = b
    · subst e
      refine ⟨fun j hj => ?_, hno⟩
      rw [sAt_set hl]
      by_cases e2 : i = j
      · rw [if_pos e2]
      · rw [if_neg e2]; exact hs j hj
    · rw [if_neg e] at hb
      refine ⟨fun j hj => ?_, (h.2.2 b hb).2⟩
      rw [sAt_set hl]
      by_cases e2 : i = j
      · rw [if_pos e2]
      · rw [if_neg e2]; exact (h.2.2 b hb).1 j hj
/-- What a call leaves that found no circle. -/
def DfsOn (st st' : List Int) : Prop := (∀ g, sAt st' g = 1 ↔ sAt st g = 1) ∧ (∀ b, sAt st b = 2 → sAt st' b = 2) ∧ zer st' ≤ zer st
theorem DfsOn.refl (st : List Int) : DfsOn st st := ⟨fun _ => Iff.rfl, fun _ h => h, Nat.le_refl _⟩
theorem DfsOn.trans {a b c : List Int} (h : DfsOn a b) (k : DfsOn b c) : DfsOn a c := ⟨fun g => (k.1 g).trans (h.1 g), fun g hg => k.2.1 g (h.2.1 g hg), Nat.le_trans k.2.2 h.2.2⟩
def DfsPre (S : Nat → List Nat) (st : List Int) (i : Nat) : Prop := ∀ g, sAt st g = 1 → Path S g i
def DfsPost (S : Nat → List Nat) (n : Nat) (st : List Int) (i : Nat) (b : Bool) (st' : List Int) : Prop :=
  st'.length = n ∧ (b = true → ∃ k, k < n ∧ Path S k k) ∧ (b = false → DfsInv S n st' ∧ DfsOn st st' ∧ sAt st' i = 2)
theorem dfs_pre {S : Nat → List Nat} {st st1 : List Int} {i j : Nat} (hp : DfsPre S st i) (hi : i < st.length) (ho : DfsOn (st.set i 1) st1) (hj : j ∈ S i) : DfsPre S st1 j := by
  intro g hg
  have := (ho.1 g).1 hg
  rw [sAt_set hi] at this
  by_cases e : i = g
  · subst e; exact .one hj
  · rw [if_neg e] at this; exact (hp g this).snoc hj
theorem dfs_post {S : Nat → List Nat} {n : Nat} {st st1 : List Int} {i : Nat} (h0 : st[i]? = some 0) (hin : i < n) (hv : DfsInv S n st1) (ho : DfsOn (st.set i 1) st1) (hs : ∀ j, j ∈ S i → sAt st1 j = 2) : DfsPost S n st i false (st1.set i 2) := by
  have hl := (List.getElem?_eq_some_iff.1 h0).1
  have h1 : sAt st1 i = 1 := (ho.1 i).2 (by rw [sAt_set hl, if_pos rfl])
  have hl1 : i < st1.length := by rw [hv.1]; exact hin
  refine ⟨(by rw [List.length_set]; exact hv.1), (fun e => by cases e), fun _ => ⟨hv.done hin h1 hs, ⟨fun g => ?_, fun b hb => ?_, ?_⟩, by rw [sAt_set hl1, if_pos rfl]⟩⟩
  · rw [sAt_set hl1]
    have e0 := sAt_get h0
    by_cases e : i = g
    · subst e; rw [if_pos rfl]; omega
    · rw [if_neg e]
      have := ho.1 g
      rw [sAt_set hl, if_neg e] at this
      exact this
  · rw [sAt_set hl1]
    by_cases e : i = b
    · rw [if_pos e]
    · rw [if_neg e]
      refine ho.2.1 b ?_
      rw [sAt_set hl, if_neg e]; exact hb
  · have h2 := zer_set (v := 1) h0 (by decide)
    have h3 : zer (st1.set i 2) ≤ zer st1 := zer_up (u := st1[i]) (List.getElem?_eq_getElem hl1) (by decide)
    have := ho.2.2
    omega
theorem dfs_loops {l : List CxV} (h : ∃ k, k < l.length ∧ Path (incIx l) k k) : Loops l := h
theorem dfs_none {l : List CxV} {st : List Int} (hv : DfsInv (incIx l) l.length st) (hs : ∀ i, i < l.length → sAt st i = 2) : ¬ Loops l := by
  rintro ⟨i, hi, hp⟩
  exact (hv.2.2 i (hs i hi)).2 hp

/-! What comes after one. -/
/-- The strings of some contexts' keys. -/
def keysOf (l : List CxV) (is : List Nat) : List ByteArray := is.map fun i => (l[i]?).elim ⟨#[]⟩ (·.key)
/-- No two contexts have one key. -/
def Keyed1 (l : List CxV) : Prop := ∀ (i j : Nat) (a b : CxV), l[i]? = some a → l[j]? = some b → nb a.key = nb b.key → i = j
theorem cxIx_at {l : List CxV} {i : Nat} {z : CxV} (hk : Keyed1 l) (h : l[i]? = some z) {s : ByteArray} (hs : nb z.key = nb s) : cxIx l s = i := by
  unfold cxIx
  refine idxP_some (i := i) (z := z) ?_ h (by simpa using hs)
  rw [List.all_eq_true]
  intro x hx
  obtain ⟨j, hj⟩ := List.mem_iff_getElem?.1 hx
  rw [List.getElem?_take] at hj
  split at hj
  · rename_i hlt
    have : nb x.key ≠ nb s := fun e => by
      have := hk j i x z hj h (e.trans hs.symm)
      omega
    simpa using this
  · cases hj
theorem cxIx_some {l : List CxV} {s : ByteArray} (h : 0 ≤ cxIx l s) : ∃ (i : Nat) (z : CxV), cxIx l s = i ∧ l[i]? = some z ∧ nb z.key = nb s := by
  unfold cxIx at h ⊢
  have ha : l.any (fun c : CxV => nb c.key == nb s) = true := by
    rw [← idxP_any]; exact decide_eq_true h
  obtain ⟨x, hx, hp⟩ := List.any_eq_true.1 ha
  have hlt : l.findIdx (fun c : CxV => nb c.key == nb s) < l.length := List.findIdx_lt_length_of_exists ⟨x, hx, hp⟩
  refine ⟨l.findIdx (fun c : CxV => nb c.key == nb s), l[l.findIdx (fun c : CxV => nb c.key == nb s)], ?_, List.getElem?_eq_getElem hlt, ?_⟩
  · unfold idxP; rw [if_pos ha]
  · have := List.findIdx_getElem (w := hlt)
    simpa using this
theorem mis_no {l : List CxV} (h : misB l = false) {i : Nat} {z : CxV} (hz : l[i]? = some z) {s : ByteArray} (hs : s ∈ z.incs) : 0 ≤ cxIx l s := by
  unfold misB at h
  rw [List.any_eq_false] at h
  have h1 := h z (List.mem_iff_getElem?.2 ⟨i, hz⟩)
  unfold misC at h1
  rw [Bool.not_eq_true, List.any_eq_false] at h1
  have h2 := h1 s hs
  simp at h2
  exact h2
theorem incIx_at {l : List CxV} {i : Nat} {z : CxV} (hz : l[i]? = some z) : incIx l i = z.incs.map fun s => (cxIx l s).toNat := by unfold incIx; rw [hz]; rfl
theorem incIx_bd {l : List CxV} (h : misB l = false) : ∀ i j, j ∈ incIx l i → j < l.length := by
  intro i j hj
  unfold incIx at hj
  cases hz : l[i]? with
  | none => rw [hz] at hj; simp at hj
  | some z =>
    rw [hz] at hj
    obtain ⟨s, hs, rfl⟩ := List.mem_map.1 hj
    obtain ⟨k, y, e, hy, _⟩ := cxIx_some (mis_no h hz hs)
    rw [e]
    exact (List.getElem?_eq_some_iff.1 hy).1
theorem nodup_le {l : List Nat} {n : Nat} (h : l.Nodup) (hb : ∀ x ∈ l, x < n) : l.length ≤ n := by
  have := h.length_le_of_subset (l₂ := List.range n) (fun x hx => List.mem_range.2 (hb x hx))
  rwa [List.length_range] at this
theorem nodup_snoc {l : List Nat} {k : Nat} (h : l.Nodup) (hk : k ∉ l) : (l ++ [k]).Nodup := by
  rw [List.nodup_append]
  exact ⟨h, by simp, fun a ha b hb => by rw [List.mem_singleton.1 hb]; exact fun e => hk (e ▸ ha)⟩
/-- Some are out, some still pend; all that comes after i0 is behind them. -/
structure AfInv (S : Nat → List Nat) (n i0 : Nat) (out pend : List Nat) : Prop where
  nd : out.Nodup
  outP : ∀ x ∈ out, Path S i0 x
  pendP : ∀ x ∈ pend, Path S i0 x
  first : ∀ j ∈ S i0, j ∈ out ∨ j ∈ pend
  step : ∀ x ∈ out, ∀ j ∈ S x, j ∈ out ∨ j ∈ pend
theorem AfInv.new (S : Nat → List Nat) (n i0 : Nat) : AfInv S n i0 [] (S i0) :=
  ⟨List.nodup_nil, (fun x h => by cases h), (fun x h => .one h), (fun j h => .inr h), (fun x h => by cases h)⟩
theorem AfInv.skip {S : Nat → List Nat} {n i0 k : Nat} {out rest : List Nat} (h : AfInv S n i0 out (k :: rest)) (hk : k ∈ out) : AfInv S n i0 out rest :=
  ⟨h.nd, h.outP, fun x hx => h.pendP x (List.mem_cons_of_mem _ hx), fun j hj => (h.first j hj).elim .inl fun e => (List.mem_cons.1 e).elim (fun e => .inl (e ▸ hk)) .inr,
    fun x hx j hj => (h.step x hx j hj).elim .inl fun e => (List.mem_cons.1 e).elim (fun e => .inl (e ▸ hk)) .inr⟩
theorem AfInv.take {S : Nat → List Nat} {n i0 k : Nat} {out rest : List Nat} (h : AfInv S n i0 out (k :: rest)) (hk : k ∉ out) : AfInv S n i0 (out ++ [k]) (rest ++ S k) := by
  have hp := h.pendP k (by simp)
  refine ⟨nodup_snoc h.nd hk, fun x hx => ?_, fun x hx => ?_, fun j hj => ?_, fun x hx j hj => ?_⟩
  · rcases List.mem_append.1 hx with e | e
    · exact h.outP x e
    · rw [List.mem_singleton.1 e]; exact hp
  · rcases List.mem_append.1 hx with e | e
    · exact h.pendP x (List.mem_cons_of_mem _ e)
    · exact hp.snoc e
  · rcases h.first j hj with e | e
    · exact .inl (List.mem_append.2 (.inl e))
    · rcases List.mem_cons.1 e with e | e
      · exact .inl (List.mem_append.2 (.inr (by simp [e])))
      · exact .inr (List.mem_append.2 (.inl e))
  · rcases List.mem_append.1 hx with e | e
    · rcases h.step x e j hj with e | e
      · exact .inl (List.mem_append.2 (.inl e))
      · rcases List.mem_cons.1 e with e | e
        · exact .inl (List.mem_append.2 (.inr (by simp [e])))
        · exact .inr (List.mem_append.2 (.inl e))
    · rw [List.mem_singleton.1 e] at hj
      exact .inr (List.mem_append.2 (.inr hj))
theorem AfInv.end_ {S : Nat → List Nat} {n i0 : Nat} {out : List Nat} (h : AfInv S n i0 out []) (x : Nat) : x ∈ out ↔ Path S i0 x := by
  refine ⟨h.outP x, fun hp => ?_⟩
  have hin : ∀ {a b : Nat}, Path S a b → (∀ j ∈ S a, j ∈ out) → b ∈ out := by
    intro a b hp
    induction hp with
    | one e => exact fun q => q _ e
    | more e _ ih => exact fun q => ih fun j hj => (h.step _ (q _ e) j hj).elim id fun e => by cases e
  exact hin hp fun j hj => (h.first j hj).elim id fun e => by cases e
theorem AfInv.bd {S : Nat → List Nat} {n i0 : Nat} {out pend : List Nat} (h : AfInv S n i0 out pend) (hS : ∀ i j, j ∈ S i → j < n) : out.length ≤ n := nodup_le h.nd fun x hx => (h.outP x hx).bd hS

/-! The order in which contexts are asked. -/
inductive Ord (S : Nat → List Nat) : List Nat → List Nat → List Nat → Prop
  | nil {out : List Nat} : Ord S [] out out
  | skip {k : Nat} {rest out r : List Nat} : k ∈ out → Ord S rest out r → Ord S (k :: rest) out r
  | take {k : Nat} {rest out r : List Nat} : k ∉ out → Ord S (S k ++ rest) (out ++ [k]) r → Ord S (k :: rest) out r
theorem Ord.app {S : Nat → List Nat} {a b out m r : List Nat} (h : Ord S a out m) (k : Ord S b m r) : Ord S (a ++ b) out r := by
  induction h with
  | nil => exact k
  | skip e _ ih => exact .skip e (ih k)
  | take e _ ih => exact .take e (by have h := ih k; rw [List.append_assoc] at h; exact h)
theorem Ord.len {S : Nat → List Nat} {t out r : List Nat} (h : Ord S t out r) : out.length ≤ r.length := by
  induction h with
  | nil => exact Nat.le_refl _
  | skip _ _ ih => exact ih
  | take _ _ ih => rw [List.length_append] at ih; simp at ih; omega
theorem Ord.one {S : Nat → List Nat} {i : Nat} {out r : List Nat} (hi : i ∉ out) (h : Ord S (S i) (out ++ [i]) r) : Ord S [i] out r := .take hi (by rw [List.append_nil]; exact h)
end
end Go.Proofs.YtpjheibkacbbcaaGreatDoor
/- Slices of records that a call makes. Conditions: none. -/
namespace Go.Proofs.YtpjheibkacbbcaaGreatDoor
section
open Go.RowKit

theorem flat_set1' {α : Type} {row : α → List Value} {k : Nat} (hrow : ∀ a, (row a).length = k) {l : List α} {i : Nat} {a a' : α} (hi : l[i]? = some a) {j : Nat} (hj : j < k) {u : Value} (hr : row a' = (row a).set j u) : (l.flatMap row).set (i * k + j) u = (l.set i a').flatMap row := by
  have h := flat_set (row := row) (k := k) hrow (by omega) hi (a' := a') (ys := [u]) j (by simp; omega) (by
    rw [hr, List.set_eq_take_append_cons_drop, if_pos (by rw [hrow]; exact hj)]; simp)
  have hil := (List.getElem?_eq_some_iff.1 hi).1
  have hle : (i + 1) * k ≤ l.length * k := Nat.mul_le_mul_right k hil
  rw [Nat.succ_mul] at hle
  rw [← h, List.set_eq_take_append_cons_drop, if_pos (by rw [flat_len hrow]; omega)]
  simp

theorem reads_at (w : World) (t : TypeId) (cs : List Value) (size : Nat) (h : cs.length = size) {g : Nat} (hg : w.heap.size = g) : Reads (w.alloc (.cells cs.toArray t)) g size (some ⟨g, 0, none⟩) 1 1 cs := by
  subst hg; exact Reads.one w t cs size h
/-- A slice of records of the call's own. -/
def OwnR {α : Type} (row : α → List Value) (k : Nat) (w : World) (lo : Nat) (e : TypeId) (A : Option Addr) (n c : Nat) (l : List α) : Prop := Own w lo e k A n c (l.flatMap row) ∧ l.length = n
section
variable {α : Type} {row : α → List Value} {k : Nat} {w w' : World} {lo lo' n c : Nat} {e : TypeId} {A : Option Addr} {l : List α}
theorem OwnR.recs (h : OwnR row k w lo e A n c l) : Recs row k w lo A n c l := ⟨h.1.reads, h.2⟩
theorem OwnR.nil (w : World) (lo : Nat) (e : TypeId) : OwnR row k w lo e none 0 0 [] := ⟨Own.nil _ _ _ _, rfl⟩
theorem OwnR.kept (h : OwnR row k w lo e A n c l) {r : Option Nat} (hg : w.grownBy w' r) (hne : ∀ g, r = some g → blkOf A ≠ some g) : OwnR row k w' lo e A n c l := ⟨h.1.kept hg hne, h.2⟩
theorem OwnR.low (h : OwnR row k w lo e A n c l) {r : Option Nat} (hg : w.grownBy w' r) (hr : ∀ g, r = some g → g < lo) : OwnR row k w' lo e A n c l :=
  h.kept hg (fun g e e' => by have := hr g e; have := (h.1.lt e').1; omega)
theorem OwnR.lower (h : OwnR row k w lo e A n c l) (hl : lo' ≤ lo) : OwnR row k w lo' e A n c l := ⟨h.1.lower hl, h.2⟩
theorem OwnR.alloc (h : OwnR row k w lo e A n c l) (o : Obj) : OwnR row k (w.alloc o) lo e A n c l := ⟨h.1.alloc o, h.2⟩
theorem OwnR.app {a : α} (h : OwnR row k w lo e A n c l) {A1 : Option Addr} {c1 n1 : Nat} (hn : n1 = n + 1) (h1 : Appended w lo e k A A1 n1 c1 (l.flatMap row ++ row a) w') : OwnR row k w' lo e A1 n1 c1 (l ++ [a]) := by
  subst hn
  refine ⟨?_, by simp [h.2]⟩
  rw [List.flatMap_append]
  simpa using h1.1
theorem OwnR.set1 {g i j p : Nat} {a a' : α} {u : Value} (hrow : ∀ a, (row a).length = k) (h : OwnR row k w lo e (some ⟨g, 0, none⟩) n c l) (hi : l[i]? = some a) (hj : j < k) (hr : row a' = (row a).set j u) (hp : p = i * k + j) : OwnR row k (w.setCell ⟨g, p, none⟩ u) lo e (some ⟨g, 0, none⟩) n c (l.set i a') := by
  subst hp
  refine ⟨?_, by simp [h.2]⟩
  rw [← flat_set1' hrow hi hj hr]
  exact h.1.stored _ u
end
end
end Go.Proofs.YtpjheibkacbbcaaGreatDoor
/- Slices of ints: cells, appends; slices.Equal at two that read as the same list. Conditions: none. -/
namespace Go.Proofs.YtpjheibkacbbcaaGreatDoor
section
open Go.RowKit
/-- A cell that holds a number. -/
def nrow (n : Int) : List Value := [.int .i64 n]
theorem Tryz.inT : ElemT Tryz.prog 22 3 1 8 (.int .i64 0) := elemT_of Tryz.underlying22 (by kernel_rfl) rfl (by decide)
end
end Go.Proofs.YtpjheibkacbbcaaGreatDoor
/- Words for the generators of hours: slices of hours that a call makes, with their rows and holidays. Conditions: none. -/
namespace Go.Proofs.YtpjheibkacbbcaaGreatDoor
section
open Go.RowKit

def HrBd (a : HrV) : Prop := a.key.size ≤ 1000 ∧ a.rn ≤ 1000 ∧ a.hn ≤ 1000
def HrOwn (w : World) (lo : Nat) (a : HrV) : Prop := HrBd a ∧ OwnR r3Row 3 w lo 159 a.rA a.rn a.rc a.rows ∧ OwnR r3Row 3 w lo 161 a.hA a.hn a.hc a.hol
def HrApart (a b : HrV) : Prop := (∀ g, blkOf a.rA = some g → blkOf b.rA ≠ some g) ∧ (∀ g, blkOf a.hA = some g → blkOf b.hA ≠ some g)
def GHrs (w : World) (lo : Nat) (A : Option Addr) (n c : Nat) (l : List HrV) : Prop :=
  OwnR HrV.row 4 w lo 157 A n c l ∧ (∀ a ∈ l, HrOwn w lo a) ∧ ∀ (i j : Nat) (a b : HrV), i ≠ j → l[i]? = some a → l[j]? = some b → HrApart a b
theorem mem_setH {α : Type} {l : List α} {i : Nat} {a x : α} (h : x ∈ l.set i a) : x = a ∨ ∃ j, j ≠ i ∧ l[j]? = some x := by
  obtain ⟨j, hj⟩ := List.mem_iff_getElem?.1 h
  rw [List.getElem?_set] at hj
  split at hj
  · split at hj
    · injection hj with hj; exact .inl hj.symm
    · cases hj
  · rename_i hne
    exact .inr ⟨j, fun e => hne e.symm, hj⟩
section
variable {w w' : World} {lo n c : Nat} {A : Option Addr} {l : List HrV}
theorem HrOwn.ok {a : HrV} (h : HrOwn w lo a) : HrOk w lo a := ⟨h.1, h.2.1.recs, h.2.2.recs⟩
theorem GHrs.hrs (h : GHrs w lo A n c l) : Hrs w lo A n c l := ⟨h.1.recs, fun a ha => (h.2.1 a ha).ok⟩
theorem GHrs.nil (w : World) (lo : Nat) : GHrs w lo none 0 0 [] := ⟨OwnR.nil _ _ _, (fun a ha => by cases ha), fun i j a b _ h => by simp at h⟩
theorem HrOwn.kept {a : HrV} (h : HrOwn w lo a) {r : Option Nat} (hg : w.grownBy w' r) (h1 : ∀ g, r = some g → blkOf a.rA ≠ some g) (h2 : ∀ g, r = some g → blkOf a.hA ≠ some g) : HrOwn w' lo a := ⟨h.1, h.2.1.kept hg h1, h.2.2.kept hg h2⟩
theorem HrOwn.low {a : HrV} (h : HrOwn w lo a) {r : Option Nat} (hg : w.grownBy w' r) (hr : ∀ g, r = some g → g < lo) : HrOwn w' lo a := ⟨h.1, h.2.1.low hg hr, h.2.2.low hg hr⟩
theorem HrOwn.lower {a : HrV} {lo' : Nat} (h : HrOwn w lo a) (hl : lo' ≤ lo) : HrOwn w lo' a := ⟨h.1, h.2.1.lower hl, h.2.2.lower hl⟩
theorem GHrs.low (h : GHrs w lo A n c l) {r : Option Nat} (hg : w.grownBy w' r) (hr : ∀ g, r = some g → g < lo) : GHrs w' lo A n c l := ⟨h.1.low hg hr, fun a ha => (h.2.1 a ha).low hg hr, h.2.2⟩
theorem HrOwn.other {a : HrV} (h : HrOwn w lo a) {lo' n' c' k' : Nat} {A' : Option Addr} {xs : List Value} (ho : Own w lo' 157 k' A' n' c' xs) (hg : w.grownBy w' (blkOf A')) : HrOwn w' lo a :=
  h.kept hg (fun g e => Own.ne ho h.2.1.1 (by decide) e) (fun g e => Own.ne ho h.2.2.1 (by decide) e)
/-- Hours are appended whose slices lie behind those of the others. -/
theorem GHrs.app {a : HrV} {hi : Nat} (h : GHrs w lo A n c l) (ha : HrOwn w hi a) (hlo : lo ≤ hi) (hb : ∀ b ∈ l, (∀ g, blkOf b.rA = some g → g < hi) ∧ (∀ g, blkOf b.hA = some g → g < hi)) {A1 : Option Addr} {c1 n1 : Nat} (hn : n1 = n + 1)
    (h1 : Appended w lo 157 4 A A1 n1 c1 (l.flatMap HrV.row ++ a.row) w') : GHrs w' lo A1 n1 c1 (l ++ [a]) := by
  have ap : ∀ b ∈ l, HrApart a b ∧ HrApart b a := fun b hb1 => by
    obtain ⟨q1, q2⟩ := hb b hb1
    exact ⟨⟨fun g e e' => by have := q1 g e'; have := (ha.2.1.1.lt e).1; omega, fun g e e' => by have := q2 g e'; have := (ha.2.2.1.lt e).1; omega⟩,
      ⟨fun g e e' => by have := q1 g e; have := (ha.2.1.1.lt e').1; omega, fun g e e' => by have := q2 g e; have := (ha.2.2.1.lt e').1; omega⟩⟩
  refine ⟨h.1.app hn h1, fun b hb1 => ?_, fun i j x y hne hx hy => ?_⟩
  · rcases List.mem_append.1 hb1 with hb1 | hb1
    · exact (h.2.1 b hb1).other h.1.1 h1.2.1
    · rw [List.mem_singleton.1 hb1]; exact (ha.lower hlo).other h.1.1 h1.2.1
  · rw [List.getElem?_append] at hx hy
    split at hx <;> split at hy
    · exact h.2.2 i j x y hne hx hy
    · rename_i q1 q2
      have : y = a := by
        cases hj : j - l.length with
        | zero => rw [hj] at hy; simpa using hy.symm
        | succ q => rw [hj] at hy; simp at hy
      subst this
      exact (ap x (mem_of_get hx)).2
    · rename_i q1 q2
      have : x = a := by
        cases hj : i - l.length with
        | zero => rw [hj] at hx; simpa using hx.symm
        | succ q => rw [hj] at hx; simp at hx
      subst this
      exact (ap y (mem_of_get hy)).1
    · exfalso
      rename_i q1 q2
      have h3 : i - l.length = 0 := by
        cases hj : i - l.length with
        | zero => rfl
        | succ q => rw [hj] at hx; simp at hx
      have h4 : j - l.length = 0 := by
        cases hj : j - l.length with
        | zero => rfl
        | succ q => rw [hj] at hy; simp at hy
      omega
/-- One cell of some hours is stored anew: not one of its slices. -/
theorem GHrs.set1 {g i j p : Nat} {a a' : HrV} {u : Value} (h : GHrs w lo (some ⟨g, 0, none⟩) n c l) (hi : l[i]? = some a) (hj : j < 4) (hr : a'.row = a.row.set j u) (hb : HrBd a') (hs : a'.rA = a.rA ∧ a'.rn = a.rn ∧ a'.rc = a.rc ∧ a'.rows = a.rows ∧ a'.hA = a.hA ∧ a'.hn = a.hn ∧ a'.hc = a.hc ∧ a'.hol = a.hol) (hp : p = i * 4 + j) :
    GHrs (w.setCell ⟨g, p, none⟩ u) lo (some ⟨g, 0, none⟩) n c (l.set i a') := by
  have hg : w.grownBy (w.setCell ⟨g, p, none⟩ u) (blkOf (some ⟨g, 0, none⟩)) := gr_setCell (gr_refl _ _) (.inl rfl) _
  obtain ⟨s1, s2, s3, s4, s5, s6, s7, s8⟩ := hs
  refine ⟨h.1.set1 HrV.row_len hi hj hr hp, fun x hx => ?_, fun i1 j1 x y hne hx hy => ?_⟩
  · rcases mem_setH hx with rfl | ⟨q, _, hx⟩
    · have h1 := (h.2.1 a (mem_of_get hi)).other h.1.1 hg
      refine ⟨hb, ?_, ?_⟩
      · rw [s1, s2, s3, s4]; exact h1.2.1
      · rw [s5, s6, s7, s8]; exact h1.2.2
    · exact (h.2.1 x (mem_of_get hx)).other h.1.1 hg
  · have e1 : ∀ (q : Nat) (x : HrV), (l.set i a')[q]? = some x → ∃ z : HrV, l[q]? = some z ∧ x.rA = z.rA ∧ x.hA = z.hA := fun q x hx => by
      rw [List.getElem?_set] at hx
      split at hx
      · split at hx
        · rename_i e _
          injection hx with hx
          subst hx; subst e
          exact ⟨a, hi, s1, s5⟩
        · cases hx
      · exact ⟨x, hx, rfl, rfl⟩
    obtain ⟨z1, q1, q2, q3⟩ := e1 _ _ hx
    obtain ⟨z2, q4, q5, q6⟩ := e1 _ _ hy
    have := h.2.2 _ _ _ _ hne q1 q4
    unfold HrApart
    rw [q2, q3, q5, q6]
    exact this
/-- The rows of some hours are put anew, grown by an append. -/
theorem GHrs.rows {g i p : Nat} {a : HrV} {w1 : World} (h : GHrs w lo (some ⟨g, 0, none⟩) n c l) (hi : l[i]? = some a) {s : Int × Int × Int} {A1 : Option Addr} {c1 n1 : Nat} (hn : n1 = a.rn + 1) (hb : n1 ≤ 1000)
    (h1 : Appended w lo 159 3 a.rA A1 n1 c1 (a.rows.flatMap r3Row ++ r3Row s) w1) (hp : p = i * 4 + 2) :
    Hrs (w1.setCell ⟨g, p, none⟩ (.slice A1 n1 c1)) lo (some ⟨g, 0, none⟩) n c (l.set i { a with rA := A1, rn := n1, rc := c1, rows := a.rows ++ [s] }) := by
  have ho := h.2.1 a (mem_of_get hi)
  have hm : OwnR HrV.row 4 w1 lo 157 (some ⟨g, 0, none⟩) n c l := h.1.kept h1.2.1 (fun g' e => Own.ne ho.2.1.1 h.1.1 (by decide) e)
  have hg : w1.grownBy (w1.setCell ⟨g, p, none⟩ (.slice A1 n1 c1)) (blkOf (some ⟨g, 0, none⟩)) := gr_setCell (gr_refl _ _) (.inl rfl) _
  refine ⟨(hm.set1 (a' := { a with rA := A1, rn := n1, rc := c1, rows := a.rows ++ [s] }) HrV.row_len hi (j := 2) (by omega) rfl hp).recs, fun x hx => ?_⟩
  rcases mem_setH hx with rfl | ⟨q, hq, hx⟩
  · refine HrOwn.ok (HrOwn.other (w := w1) ⟨⟨ho.1.1, hb, ho.1.2.2⟩, ho.2.1.app hn h1, ?_⟩ hm.1 hg)
    exact ho.2.2.kept h1.2.1 (fun g' e => Own.ne ho.2.1.1 ho.2.2.1 (by decide) e)
  · have hx1 := h.2.1 x (mem_of_get hx)
    have hap := h.2.2 _ _ _ _ (fun e => hq e.symm) hi hx
    exact HrOwn.ok (HrOwn.other (hx1.kept h1.2.1 (fun g' e => hap.1 g' e) (fun g' e => Own.ne ho.2.1.1 hx1.2.2.1 (by decide) e)) hm.1 hg)
/-- The holidays of some hours are put anew, grown by an append. -/
theorem GHrs.hols {g i p : Nat} {a : HrV} {w1 : World} (h : GHrs w lo (some ⟨g, 0, none⟩) n c l) (hi : l[i]? = some a) {s : Int × Int × Int} {A1 : Option Addr} {c1 n1 : Nat} (hn : n1 = a.hn + 1) (hb : n1 ≤ 1000)
    (h1 : Appended w lo 161 3 a.hA A1 n1 c1 (a.hol.flatMap r3Row ++ r3Row s) w1) (hp : p = i * 4 + 3) :
    Hrs (w1.setCell ⟨g, p, none⟩ (.slice A1 n1 c1)) lo (some ⟨g, 0, none⟩) n c (l.set i { a with hA := A1, hn := n1, hc := c1, hol := a.hol ++ [s] }) := by
  have ho := h.2.1 a (mem_of_get hi)
  have hm : OwnR HrV.row 4 w1 lo 157 (some ⟨g, 0, none⟩) n c l := h.1.kept h1.2.1 (fun g' e => Own.ne ho.2.2.1 h.1.1 (by decide) e)
  have hg : w1.grownBy (w1.setCell ⟨g, p, none⟩ (.slice A1 n1 c1)) (blkOf (some ⟨g, 0, none⟩)) := gr_setCell (gr_refl _ _) (.inl rfl) _
  refine ⟨(hm.set1 (a' := { a with hA := A1, hn := n1, hc := c1, hol := a.hol ++ [s] }) HrV.row_len hi (j := 3) (by omega) rfl hp).recs, fun x hx => ?_⟩
  rcases mem_setH hx with rfl | ⟨q, hq, hx⟩
  · refine HrOwn.ok (HrOwn.other (w := w1) ⟨⟨ho.1.1, ho.1.2.1, hb⟩, ?_, ho.2.2.app hn h1⟩ hm.1 hg)
    exact ho.2.1.kept h1.2.1 (fun g' e => Own.ne ho.2.2.1 ho.2.1.1 (by decide) e)
  · have hx1 := h.2.1 x (mem_of_get hx)
    have hap := h.2.2 _ _ _ _ (fun e => hq e.symm) hi hx
    exact HrOwn.ok (HrOwn.other (hx1.kept h1.2.1 (fun g' e => Own.ne ho.2.2.1 hx1.2.1.1 (by decide) e) (fun g' e => hap.2 g' e)) hm.1 hg)
end
/-- The answer of the generators of hours. -/
def IsHrs (lo most : Nat) (v : Value) (w : World) : Prop := ∃ (A : Option Addr) (c : Nat) (l : List HrV), v = .slice A most c ∧ Hrs w lo A most c l
def IsGHrs (lo most : Nat) (v : Value) (w : World) : Prop := ∃ (A : Option Addr) (c : Nat) (l : List HrV), v = .slice A most c ∧ GHrs w lo A most c l ∧ ∀ a ∈ l, a.rn ≤ 2 ∧ a.hn ≤ 3

/-! Hours that are being made: they lie in block ab, their slices are the call's own. -/
def HrB (w : World) (sb ab : Nat) (m : Int) (a : HrV) (wr : World) : Prop :=
  Str wr sb m ∧ w.grownBy wr (some sb) ∧ w.heap.size ≤ ab ∧ Blk wr ab 157 #[.string a.key, .int .i64 a.zone, .slice a.rA a.rn a.rc, .slice a.hA a.hn a.hc] ∧ HrOwn wr w.heap.size a
section
variable {w wr wx w8 : World} {sb ab : Nat} {m m' : Int} {a : HrV}
theorem HrB.row1 (h : HrB w sb ab m a wr) (hsb : sb < w.heap.size) {s : Int × Int × Int} {n1 : Nat} (hn : n1 = a.rn + 1) (hb : n1 ≤ 1000) (hsx : Str wx sb m') (hgx : wr.grownBy wx (some sb)) {A1 : Option Addr} {c1 : Nat}
    (h8 : Appended wx w.heap.size 159 3 a.rA A1 n1 c1 (a.rows.flatMap r3Row ++ r3Row s) w8) :
    HrB w sb ab m' { a with rA := A1, rn := n1, rc := c1, rows := a.rows ++ [s] } (w8.setCell ⟨ab, 2, none⟩ (.slice A1 n1 c1)) := by
  obtain ⟨_, hg, hp, hbk, ho⟩ := h
  have hox : HrOwn wx w.heap.size a := ho.low hgx (fun g e => by injection e with e; omega)
  have hbx := hbk.grown hgx (by simp; omega)
  have hb8 := hbx.grown h8.2.1 (Ne.symm (hox.2.1.1.blk_ne hbx (by decide)))
  have hg8 : w.grownBy w8 (some sb) := gr_own (gr_same hg hgx) hox.2.1.1 (Nat.le_refl _) h8.2.1
  have hz := hg8.size
  have hs8 : Str w8 sb m' := hsx.grown h8.2.1 (fun g e => by have := (hox.2.1.1.lt e).1; omega)
  refine ⟨hs8.setCell (by simp; omega) _, gr_setCell hg8 (.inr (by simp; omega)) _, hp, hb8.set_ 2 _, ⟨hox.1.1, hb, hox.1.2.2⟩, ?_, ?_⟩
  · have h9 := hox.2.1.app hn h8
    exact ⟨h9.1.far (h9.1.blk_ne hb8 (by decide)) _, h9.2⟩
  · have h9 := hox.2.2.kept h8.2.1 (fun g' e => Own.ne hox.2.1.1 hox.2.2.1 (by decide) e)
    exact ⟨h9.1.far (h9.1.blk_ne hb8 (by decide)) _, h9.2⟩
theorem HrB.hol1 (h : HrB w sb ab m a wr) (hsb : sb < w.heap.size) {s : Int × Int × Int} {n1 : Nat} (hn : n1 = a.hn + 1) (hb : n1 ≤ 1000) (hsx : Str wx sb m') (hgx : wr.grownBy wx (some sb)) {A1 : Option Addr} {c1 : Nat}
    (h8 : Appended wx w.heap.size 161 3 a.hA A1 n1 c1 (a.hol.flatMap r3Row ++ r3Row s) w8) :
    HrB w sb ab m' { a with hA := A1, hn := n1, hc := c1, hol := a.hol ++ [s] } (w8.setCell ⟨ab, 3, none⟩ (.slice A1 n1 c1)) := by
  obtain ⟨_, hg, hp, hbk, ho⟩ := h
  have hox : HrOwn wx w.heap.size a := ho.low hgx (fun g e => by injection e with e; omega)
  have hbx := hbk.grown hgx (by simp; omega)
  have hb8 := hbx.grown h8.2.1 (Ne.symm (hox.2.2.1.blk_ne hbx (by decide)))
  have hg8 : w.grownBy w8 (some sb) := gr_own (gr_same hg hgx) hox.2.2.1 (Nat.le_refl _) h8.2.1
  have hz := hg8.size
  have hs8 : Str w8 sb m' := hsx.grown h8.2.1 (fun g e => by have := (hox.2.2.1.lt e).1; omega)
  refine ⟨hs8.setCell (by simp; omega) _, gr_setCell hg8 (.inr (by simp; omega)) _, hp, hb8.set_ 3 _, ⟨hox.1.1, hox.1.2.1, hb⟩, ?_, ?_⟩
  · have h9 := hox.2.1.kept h8.2.1 (fun g' e => Own.ne hox.2.2.1 hox.2.1.1 (by decide) e)
    exact ⟨h9.1.far (h9.1.blk_ne hb8 (by decide)) _, h9.2⟩
  · have h9 := hox.2.2.app hn h8
    exact ⟨h9.1.far (h9.1.blk_ne hb8 (by decide)) _, h9.2⟩
theorem HrB.step (h : HrB w sb ab m a wr) (hsb : sb < w.heap.size) (hsx : Str wx sb m') (hgx : wr.grownBy wx (some sb)) : HrB w sb ab m' a wx :=
  ⟨hsx, gr_same h.2.1 hgx, h.2.2.1, h.2.2.2.1.grown hgx (by have := h.2.2.1; simp; omega), h.2.2.2.2.low hgx (fun g e => by injection e with e; omega)⟩
end
/-- A block that the making of some hours' slices leaves alone. -/
theorem HrB.blk {w wr wx w8 : World} {sb ab : Nat} {m : Int} {a : HrV} (_h : HrB w sb ab m a wr) {e t : TypeId} {A A1 : Option Addr} {n c n1 c1 g j : Nat} {xs ys : List Value} {cs : Array Value} {v : Value} (hb : Blk wr g t cs) (hgx : wr.grownBy wx (some sb)) (hs : g ≠ sb) (hg : g ≠ ab)
    (ho : Own wx w.heap.size e 3 A n c xs) (hne : e ≠ t) (h8 : Appended wx w.heap.size e 3 A A1 n1 c1 ys w8) : Blk (w8.setCell ⟨ab, j, none⟩ v) g t cs := by
  have hbx := hb.grown hgx (by simpa using hs)
  exact (hbx.grown h8.2.1 (Ne.symm (ho.blk_ne hbx hne))).far (by simpa using hg) v
theorem Tryz.hrsT : ElemT Tryz.prog 46 157 4 72 (.agg #[.string ⟨#[]⟩, .int .i64 0, .slice none 0 0, .slice none 0 0]) := elemT_of Tryz.underlying46 (by kernel_rfl) rfl (by decide)
theorem Tryz.rwsT : ElemT Tryz.prog 154 159 3 24 (.agg #[.int .i64 0, .int .i64 0, .int .i64 0]) := elemT_of Tryz.underlying154 (by kernel_rfl) rfl (by decide)
theorem Tryz.hosT : ElemT Tryz.prog 155 161 3 24 (.agg #[.int .i64 0, .int .i64 0, .int .i64 0]) := elemT_of Tryz.underlying155 (by kernel_rfl) rfl (by decide)
end
end Go.Proofs.YtpjheibkacbbcaaGreatDoor
/- Contracts of cmp.Compare and cmp.Or at int. Conditions: none. -/
namespace Go.Proofs.YtpjheibkacbbcaaGreatDoor
section
open Go.RowKit

end
end Go.Proofs.YtpjheibkacbbcaaGreatDoor
/- Contract of cmp.Or at some ints. Conditions: none. -/
namespace Go.Proofs.YtpjheibkacbbcaaGreatDoor
section
open Go.RowKit

/-- Two lists, place by place. -/
def cmpLL {α : Type} (f : α → α → Int) : List α → List α → Int
  | [], [] => 0
  | [], _ :: _ => -1
  | _ :: _, [] => 1
  | a :: l, b :: m => if f a b = 0 then cmpLL f l m else f a b
section
variable {α : Type} {f : α → α → Int}
theorem cmpLL_drop {l m : List α} {i : Nat} {a b : α} (hl : l[i]? = some a) (hm : m[i]? = some b) : cmpLL f (l.drop i) (m.drop i) = if f a b = 0 then cmpLL f (l.drop (i + 1)) (m.drop (i + 1)) else f a b := by
  obtain ⟨h1, rfl⟩ := List.getElem?_eq_some_iff.1 hl
  obtain ⟨h2, rfl⟩ := List.getElem?_eq_some_iff.1 hm
  rw [List.drop_eq_getElem_cons h1, List.drop_eq_getElem_cons h2, cmpLL]
theorem cmpLL_gt {l m : List α} {i : Nat} (hl : i < l.length) (hm : m.length ≤ i) : cmpLL f (l.drop i) (m.drop i) = 1 := by
  rw [List.drop_eq_nil_of_le hm, List.drop_eq_getElem_cons hl]; rfl
theorem cmpLL_end {l m : List α} {i : Nat} (hl : l.length = i) : cmpLL f (l.drop i) (m.drop i) = if i < m.length then -1 else 0 := by
  rw [List.drop_eq_nil_of_le (by omega)]
  by_cases h : i < m.length
  · rw [if_pos h, List.drop_eq_getElem_cons h]; rfl
  · rw [if_neg h, List.drop_eq_nil_of_le (by omega)]; rfl
end
end
end Go.Proofs.YtpjheibkacbbcaaGreatDoor
/- strings.Compare as a call that leaves the world as it is; an order of strings. Conditions: none. -/
namespace Go.Proofs.YtpjheibkacbbcaaGreatDoor
section
open Go.RowKit
theorem strCmp_any (a b : ByteArray) (w : World) : Calls Tryz.prog 140 #[.string a, .string b] w (Same (.int .i64 (cmpS a b)) w) := by
  refine (Tryz.strings_Compare a b w).mono ?_
  rintro e w' ⟨rfl, rfl⟩
  exact ⟨rfl, rfl⟩
end
end Go.Proofs.YtpjheibkacbbcaaGreatDoor
/- Contracts of cmp.Compare and slices.Compare at strings. Conditions: none. -/
namespace Go.Proofs.YtpjheibkacbbcaaGreatDoor
section
open Go.RowKit

theorem isNaNS_any (a : ByteArray) (w : World) : Calls Tryz.prog 240 #[.string a] w (Same (.bool false) w) := by
  have q : (a.toList != a.toList) = false := by simp
  go_enter Tryz.func240, Tryz.ntmps240
  go_wp2_with fail
  go_ret
  exact ⟨rfl, rfl⟩
set_option maxHeartbeats 2000000 in
theorem cmpStr_any (a b : ByteArray) (w : World) : Calls Tryz.prog 177 #[.string a, .string b] w (Same (.int .i64 (cmpS a b)) w) := by
  have l1 := ltS_cmp a b
  have l2 := ltS_cmp b a
  have hr := cmpS_range a b
  have hn := cmpS_neg a b
  have hz := @cmpS_zero a b
  have he := eqS_nb a b
  obtain ⟨q, hq⟩ : ∃ q, cmpS a b = q := ⟨_, rfl⟩
  have HQ := Lib.hid hq
  rw [hq] at l1 hr hn hz
  rw [hn] at l2
  clear hq hn
  rcases hr with rfl | rfl | rfl
  · have d1 : Op.bytesLess a.toList b.toList = true := by rw [l1]; decide
    have d2 : Op.bytesLess b.toList a.toList = false := by rw [l2]; decide
    have d3 : (a.toList == b.toList) = false := by rw [he, beq_eq_false_iff_ne]; exact fun q => absurd (hz.2 q) (by decide)
    clear l1 l2 hz he
    go_enter Tryz.func177, Tryz.ntmps177
    go_wp2_with (first
      | (go_at_call 240; refine (isNaNS_any _ _).mono ?_; rintro e w' ⟨rfl, rfl⟩)
      | fail)
    go_ret
    exact ⟨by rw [HQ.out]; rfl, rfl⟩
  · have d3 : (a.toList == b.toList) = true := by rw [he]; simpa using hz.1 rfl
    have d1 : Op.bytesLess a.toList b.toList = false := by rw [l1]; decide
    have d2 : Op.bytesLess b.toList a.toList = false := by rw [l2]; decide
    clear l1 l2 hz he
    go_enter Tryz.func177, Tryz.ntmps177
    go_wp2_with (first
      | (go_at_call 240; refine (isNaNS_any _ _).mono ?_; rintro e w' ⟨rfl, rfl⟩)
      | fail)
    go_ret
    exact ⟨by rw [HQ.out]; rfl, rfl⟩
  · have d1 : Op.bytesLess a.toList b.toList = false := by rw [l1]; decide
    have d2 : Op.bytesLess b.toList a.toList = true := by rw [l2]; decide
    have d3 : (a.toList == b.toList) = false := by rw [he, beq_eq_false_iff_ne]; exact fun q => absurd (hz.2 q) (by decide)
    clear l1 l2 hz he
    go_enter Tryz.func177, Tryz.ntmps177
    go_wp2_with (first
      | (go_at_call 240; refine (isNaNS_any _ _).mono ?_; rintro e w' ⟨rfl, rfl⟩)
      | fail)
    go_ret
    exact ⟨by rw [HQ.out]; rfl, rfl⟩
set_option maxHeartbeats 2000000 in
theorem compareS_any (lo lo' : Nat) (A A' : Option Addr) (n c n' c' : Nat) (l m : List ByteArray) (w : World) (h : Recs srow 1 w lo A n c l) (h' : Recs srow 1 w lo' A' n' c' m) (hn : n ≤ 1000000) (_ : n' ≤ 1000000) :
    Calls Tryz.prog 108 #[.slice A n c, .slice A' n' c'] w (Same (.int .i64 (cmpLL cmpS l m)) w) := by
  have H := Lib.hid h; have H' := Lib.hid h'
  have HL := Lib.hid h.len; have HL' := Lib.hid h'.len
  clear h h'
  go_enter Tryz.func108, Tryz.ntmps108
  go_wp2_with fail
  go_loop [5, 6, 7, 8, 11] (fun _ _ _ _ t => ∃ i : Nat, i ≤ n ∧ t = .int .i64 i ∧ cmpLL cmpS l m = cmpLL cmpS (l.drop i) (m.drop i)) (fun _ _ _ _ t => n - (intOf t).toNat)
  case atStart => exact ⟨0, Nat.zero_le _, rfl, rfl⟩
  case round =>
    obtain ⟨i, hi, rfl, he⟩ := hrel
    have HE := Lib.hid he; clear he
    by_cases hlt : i < n
    · obtain ⟨g, o, z, rfl, _, _, hz, hc⟩ := H.out.get srow_len hlt
      have c0 := hc 0 _ rfl
      simp only [Nat.mul_one, Nat.add_zero] at c0
      clear hc
      by_cases hm : i < n'
      · obtain ⟨g', o', z', rfl, _, _, hz', hc'⟩ := H'.out.get srow_len hm
        have c1 := hc' 0 _ rfl
        simp only [Nat.mul_one, Nat.add_zero] at c1
        clear hc'
        have HS := Lib.hid (show cmpLL cmpS l m = if cmpS z z' = 0 then cmpLL cmpS (l.drop (i + 1)) (m.drop (i + 1)) else cmpS z z' by rw [HE.out, cmpLL_drop hz hz'])
        have d1 : decide ((n' : Int) ≤ (i : Int)) = false := decide_eq_false (by omega)
        have d1' : decide (n' ≤ i) = false := decide_eq_false (by omega)
        obtain ⟨q, hq⟩ : ∃ q, cmpS z z' = q := ⟨_, rfl⟩
        have HQ := Lib.hid hq
        clear hz hz' hq
        by_cases hq0 : q = 0
        · have b1 : (q != 0) = false := by simp [hq0]
          have HN := Lib.hid (show cmpLL cmpS l m = cmpLL cmpS (l.drop (i + 1)) (m.drop (i + 1)) by rw [HS.out, HQ.out, if_pos hq0])
          clear hq0
          go_wp2_with (first
            | (go_at_call 177; refine (cmpStr_any z z' _).mono ?_; rintro e w' ⟨rfl, rfl⟩; rw [HQ.out])
            | fail)
          go_round
          case rel => exact ⟨i + 1, by omega, by go_num, HN.out⟩
          case measure => simp [intOf]; omega
        · have b1 : (q != 0) = true := by simpa using hq0
          have HN := Lib.hid (show cmpLL cmpS l m = q by rw [HS.out, HQ.out, if_neg hq0])
          clear hq0
          go_wp2_with (first
            | (go_at_call 177; refine (cmpStr_any z z' _).mono ?_; rintro e w' ⟨rfl, rfl⟩; rw [HQ.out])
            | fail)
          go_ret
          exact ⟨by rw [HN.out]; rfl, rfl⟩
      · have HN := Lib.hid (show cmpLL cmpS l m = 1 by rw [HE.out, cmpLL_gt (by rw [HL.out]; exact hlt) (by rw [HL'.out]; omega)])
        have d1 : decide ((n' : Int) ≤ (i : Int)) = true := decide_eq_true (by omega)
        have d1' : decide (n' ≤ i) = true := decide_eq_true (by omega)
        clear hz
        go_wp2_with fail
        go_ret
        exact ⟨by rw [HN.out]; rfl, rfl⟩
    · obtain rfl : i = n := by omega
      have HN := Lib.hid (show cmpLL cmpS l m = if i < n' then -1 else 0 by rw [HE.out, cmpLL_end HL.out, HL'.out])
      by_cases hlt2 : i < n'
      · have d1 : decide ((i : Int) < (n' : Int)) = true := decide_eq_true (by omega)
        have d1' : decide (i < n') = true := decide_eq_true hlt2
        go_wp2_with fail
        go_ret
        exact ⟨by rw [HN.out, if_pos hlt2]; rfl, rfl⟩
      · have d1 : decide ((i : Int) < (n' : Int)) = false := decide_eq_false (by omega)
        have d1' : decide (i < n') = false := decide_eq_false hlt2
        go_wp2_with fail
        go_ret
        exact ⟨by rw [HN.out, if_neg hlt2]; rfl, rfl⟩
end
end Go.Proofs.YtpjheibkacbbcaaGreatDoor
/- A region that draws its order and stores at its end: loads are taken first while the first store (number b) has not come up. Over any program. Conditions: none. -/
namespace Go.Proofs.YtpjheibkacbbcaaGreatDoor
section
section
open Go.RowKit

theorem set_take_drop {xs : List Value} {p : Nat} (hp : p < xs.length) (v : Value) (r : List Value) : (xs.set p v).take (p + 1) ++ r ++ (xs.set p v).drop (p + 1 + r.length) = xs.take p ++ (v :: r) ++ xs.drop (p + (v :: r).length) := by
  have h : (xs.set p v)[p]? = some v := by simp [hp]
  have e1 : (xs.set p v).take (p + 1) = xs.take p ++ [v] := by
    rw [take_snoc' h, List.take_set, List.set_eq_of_length_le (by rw [List.length_take]; omega)]
  have e2 : (xs.set p v).drop (p + 1 + r.length) = xs.drop (p + 1 + r.length) := List.drop_set_of_lt (by omega)
  rw [e1, e2, List.length_cons, show p + (r.length + 1) = p + 1 + r.length by omega]
  simp
section
variable {P : Program} {lo size n c g : Nat} {e : TypeId}
theorem run_storeCells_own : ∀ (vs : List Value) (s j : Nat) (w : World) (xs : List Value), Own w lo e size (some ⟨g, 0, none⟩) n c xs → (∀ v ∈ vs, v.oneCell' = true) → s + j + vs.length ≤ n * size →
    ∃ w', (storeCells ⟨g, s, none⟩ vs j).run P w = .ok () w' ∧ Own w' lo e size (some ⟨g, 0, none⟩) n c (xs.take (s + j) ++ vs ++ xs.drop (s + j + vs.length)) ∧ w.grownBy w' (some g)
  | [], s, j, w, xs, h, _, _ => ⟨w, rfl, by simpa using h, gr_refl _ _⟩
  | v :: rest, s, j, w, xs, h, h1, hl => by
    have hlen := h.len
    have hp : s + j < n * size := by simp at hl; omega
    have hcell := h.cell hp
    rw [List.getElem?_eq_getElem (by omega)] at hcell
    have hfro := h.frozen (s + j)
    have hst : (store ((⟨g, s, none⟩ : Addr).add j) v).run P w = .ok () (w.setCell ⟨g, s + j, none⟩ v) := by
      rw [add_mk, run_store P w _ v _ (h1 v (by simp)), hcell]
      simp [hfro]
    have h2 := h.stored (s + j) v
    obtain ⟨w', hrun, h3, hg⟩ := run_storeCells_own rest s (j + 1) (w.setCell ⟨g, s + j, none⟩ v) _ h2 (fun x hx => h1 x (by simp [hx])) (by simp at hl; omega)
    refine ⟨w', ?_, ?_, gr_same (gr_setCell (gr_refl w (some g)) (.inl rfl) v) hg⟩
    · simp only [storeCells, Sem.run_bind, hst, Result.andThen_ok, hrun]
    · rw [← Nat.add_assoc, set_take_drop (by omega)] at h3
      exact h3
variable {w : World} {o : Oper} {a : Act} {K : Act → World → Prop} {Q : Exit → Act → World → Prop} {α : Type} {row : α → List Value} {k : Nat} {l : List α}
theorem wp_store_rec {ty : TypeId} (T : StructT P ty k) (hrow : ∀ a, (row a).length = k) (hk : 0 < k) (x y : Operand) (ho : o.op = .store ty x y) (i p : Nat) (hp : p = i * k) (hx : a.eval x = .pointer (some ⟨g, p, none⟩)) (z : α) (hy : a.eval y = .agg (row z).toArray)
    (h : OwnR row k w lo e (some ⟨g, 0, none⟩) n c l) (hi : i < n) (h1 : ∀ u ∈ row z, u.oneCell' = true)
    (hK : ∀ w', OwnR row k w' lo e (some ⟨g, 0, none⟩) n c (l.set i z) → w.grownBy w' (some g) → K (a.put o.dst undef) w') : o.wp P a w K Q := by
  subst hp
  obtain ⟨d, hd1, hd2, hd3⟩ := T
  have hle : i * k + k ≤ n * k := by have := Nat.mul_le_mul_right k (show i + 1 ≤ n by omega); rw [Nat.succ_mul] at this; exact this
  obtain ⟨w', hrun, h2, hg⟩ := run_storeCells_own (P := P) (row z) (i * k) 0 w _ h.1 h1 (by rw [hrow]; omega)
  obtain ⟨b, hb⟩ : ∃ b, l[i]? = some b := ⟨_, List.getElem?_eq_getElem (by rw [h.2]; exact hi)⟩
  have hf := flat_set hrow hk hb (a' := z) (ys := row z) 0 (by rw [hrow]; omega) (by rw [List.take_zero, List.nil_append, List.drop_of_length_le (by rw [hrow, hrow]; omega), List.append_nil])
  rw [hf] at h2
  cases hq : P.info? ty with
  | none => simp [hq] at hd3
  | some inf =>
    have hs : inf.size = k := by simpa [hq] using hd3
    unfold Oper.wp execOp
    have hst : (Instr.storeAt ty (.pointer (some ⟨g, i * k, none⟩)) (.agg (row z).toArray)).run P w = .ok () w' := by
      simp [Instr.storeAt, Instr.sureAddr, storeVar, sizeOf, typeInfo, hq, hs, Value.cells, hrow, hrun]
    simp only [ho, hx, hy, Sem.run_bind, Sem.run_pure, Result.andThen_ok, hst]
    exact hK w' ⟨h2, by rw [List.length_set]; exact h.2⟩ hg
end
end
section
variable {P : Program} {ops : Array Oper} {Q : Exit → Act → World → Prop} {md : Region.Mode} {S : World → Prop} {b : Nat}

/-- Whatever order is picked from here on; S holds behind every operation till number b has come up. -/
def wpAnyB (P : Program) (md : Region.Mode) (ops : Array Oper) (Q : Exit → Act → World → Prop) (S : World → Prop) (b : Nat) : Nat → Array Bool → Act → World → Prop
  | 0, listed, a, w => Region.ready md ops listed = [] ∧ Q .normal a w
  | fuel + 1, listed, a, w =>
    (Region.ready md ops listed = [] → Q .normal a w) ∧
    ∀ i ∈ Region.ready md ops listed, wpOp P ops Q i (fun a' w' => ((listed.setIfInBounds i true).getD b false = true ∨ S w') ∧ wpAnyB P md ops Q S b fuel (listed.setIfInBounds i true) a' w') a w
theorem wpAny_of_B : ∀ (fuel : Nat) (listed : Array Bool) (a : Act) (w : World), wpAnyB P md ops Q S b fuel listed a w → wpAny P md ops Q fuel listed a w
  | 0, _, _, _, h => h
  | fuel + 1, _, _, _, h => ⟨h.1, fun i hi => wpOp_mono (fun a' w' h' => wpAny_of_B fuel _ a' w' h'.2) (h.2 i hi)⟩
theorem wp_region_B {id : Nat} {a : Act} {w : World} (S : World → Prop) (b : Nat) (hm : P.follows .mixedOrders = true)
    (h : wpAnyB P .any ops Q S b ops.size (Array.replicate ops.size false) a w.drew) : (Code.region id ops true).wp P Q a w :=
  wp_region_any hm (wpAny_of_B (S := S) (b := b) _ _ _ _ h)
/-- Number b waits for number i, over at most f others. -/
def waitsT (md : Region.Mode) (ops : Array Oper) : Nat → Nat → Nat → Bool
  | 0, b, i => Region.waitsFor md ops b i
  | f + 1, b, i => Region.waitsFor md ops b i || (List.range ops.size).any fun j => Region.waitsFor md ops b j && waitsT md ops f j i
theorem waitsT_spec {listed : Array Bool} (inv : HeadInv md ops ops.size listed) : ∀ (f b i : Nat), waitsT md ops f b i = true → listed.getD b false = true → listed.getD i false = true := by
  have one : ∀ b i, Region.waitsFor md ops b i = true → listed.getD b false = true → listed.getD i false = true := fun b i h hl => by
    obtain ⟨ob, hob, e, he, hb, hon⟩ := Region.waitsFor_spec h
    have := inv.closed b ob hob hl e he hb
    rwa [hon] at this
  intro f
  induction f with
  | zero => exact one
  | succ f ih =>
    intro b i h hl
    unfold waitsT at h
    rw [Bool.or_eq_true] at h
    rcases h with h | h
    · exact one b i h hl
    · obtain ⟨j, _, hj⟩ := List.any_eq_true.1 h
      rw [Bool.and_eq_true] at hj
      exact ih j i hj.2 (one b j hj.1 hl)
/-- S where the operation looks at memory, else nothing. -/
def memS0 (S : World → Prop) : Bool → World → Prop
  | true => S
  | false => fun _ => True
theorem wpAnyB_first {i : Nat} {oi : Oper} {v : Value} (mem : Bool) (hi : ops[i]? = some oi) (hsel : ∀ (j : Nat) (o : Oper) cs b, ops[j]? = some o → o.op ≠ .select cs b)
    (hQ : ∀ c a w, Q (.panic c) (a.put oi.dst v) w → Q (.panic c) a w) (hib : i ≠ b) (hwait : mem = true → waitsT md ops 4 b i = true) :
    ∀ (fuel : Nat) (listed : Array Bool) (a : Act) (w : World), HeadInv md ops ops.size listed →
      (∀ j oj, ops[j]? = some oj → j ≠ i → listed.getD j true = false → (∀ e ∈ oj.after, Region.binds md e = true → e.on ≠ i) → oi.apart ops oj = true) →
      i ∈ Region.ready md ops listed → YieldsIf P ops (memS0 S mem) oi v a → (listed.getD b false = true ∨ S w) →
      wpAnyB P md ops Q S b fuel (listed.setIfInBounds i true) (a.put oi.dst v) w → wpAnyB P md ops Q S b (fuel + 1) listed a w := by
  have hm : ∀ (listed : Array Bool) (w : World), HeadInv md ops ops.size listed → listed.getD i true = false → (listed.getD b false = true ∨ S w) → memS0 S mem w := by
    intro listed w inv hun hS
    cases mem with
    | false => trivial
    | true =>
      rcases hS with h | h
      · have := waitsT_spec inv 4 b i (hwait rfl) h
        rw [getD_both hun] at this
        cases this
      · exact h
  intro fuel
  induction fuel with
  | zero =>
    intro listed a w inv _ hr hy hS H
    have hun := (mem_ready.1 hr).1
    refine ⟨fun h => (by rw [h] at hr; cases hr), fun j hj => ?_⟩
    by_cases hji : j = i
    · subst hji; exact hy.wpOp hi (hm _ _ inv hun hS) ⟨by rw [getD_set_ne false hib]; exact hS, H⟩
    · have := ready_mono hj hji
      rw [H.1] at this
      cases this
  | succ fuel ih =>
    intro listed a w inv hfree hr hy hS H
    have hun := (mem_ready.1 hr).1
    refine ⟨fun h => (by rw [h] at hr; cases hr), fun j hj => ?_⟩
    by_cases hji : j = i
    · subst hji; exact hy.wpOp hi (hm _ _ inv hun hS) ⟨by rw [getD_set_ne false hib]; exact hS, H⟩
    · have h1 := H.2 j (ready_mono hj hji)
      obtain ⟨hjun, oj, hoj, hall⟩ := mem_ready.1 hj
      have hjn : j < ops.size := (Array.getElem?_eq_some_iff.1 hoj).1
      have hnot : ∀ e ∈ oj.after, Region.binds md e = true → e.on ≠ i := fun e he hb heq => by
        have h1 := hall e he hb
        rw [heq, getD_both hun] at h1
        cases h1
      have h2 := wpOp_putIf hoj (hfree j oj hoj hji hjun hnot) (fun cs b => hsel i oi cs b hi) (fun cs b => hsel j oj cs b hoj) hQ hy h1
      have hfree' : ∀ k ok, ops[k]? = some ok → k ≠ i → (listed.setIfInBounds j true).getD k true = false →
          (∀ e ∈ ok.after, Region.binds md e = true → e.on ≠ i) → oi.apart ops ok = true := fun k ok hk hki hkun hno => by
        refine hfree k ok hk hki ?_ hno
        by_cases hjk : j = k
        · subst hjk; exact hjun
        · rw [getD_set_ne true hjk] at hkun; exact hkun
      refine wpOp_mono (fun a' w' h3 => ?_) h2
      have hS' : (listed.setIfInBounds j true).getD b false = true ∨ S w' := by
        rcases h3.2.1 with h | h
        · left
          rw [Array.setIfInBounds_comm _ _ (Ne.symm hji), getD_set_ne false hib] at h
          exact h
        · exact .inr h
      refine ⟨hS', ih (listed.setIfInBounds j true) a' w' (inv.set hj hjn) hfree' (ready_mono hr (Ne.symm hji)) h3.1 hS' ?_⟩
      rw [Array.setIfInBounds_comm _ _ hji]
      exact h3.2.2
/-- What has come up is closed. -/
def closedB (md : Region.Mode) (ops : Array Oper) (listed : Array Bool) : Bool :=
  decide (listed.size = ops.size) && (List.range ops.size).all fun j => !listed.getD j false || (match ops[j]? with | some o => o.after.all fun e => !Region.binds md e || listed.getD e.on false | none => true)
theorem closedB_spec {listed : Array Bool} (h : closedB md ops listed = true) : HeadInv md ops ops.size listed := by
  unfold closedB at h
  simp only [Bool.and_eq_true, decide_eq_true_eq] at h
  obtain ⟨h1, h4⟩ := h
  refine ⟨h1, fun j oj hj hl e he hb => ?_, fun t ht ht2 => by omega⟩
  have hj2 := (Array.getElem?_eq_some_iff.1 hj).1
  have := List.all_eq_true.1 h4 j (List.mem_range.2 hj2)
  rw [hl, hj] at this
  simp only [Bool.not_true, Bool.false_or] at this
  have := Array.all_eq_true_iff_forall_mem.1 this e he
  rw [hb] at this
  simpa using this
def btakeB (md : Region.Mode) (ops : Array Oper) (b : Nat) (mem : Bool) (listed : Array Bool) (k : Nat) : Bool :=
  Region.noSelect ops && decide (k ≠ b) && (!mem || waitsT md ops 4 b k) && closedB md ops listed && (Region.ready md ops listed).contains k && Region.free md ops listed k
variable {ls : List Oper}
/-- One that reckons (mem = false) or loads (mem = true). -/
theorem B_take {fuel k : Nat} {listed : Array Bool} {o : Oper} {a : Act} {w : World} (mem : Bool) (v : Value) (ho : opAt ls k = some o) (hB : btakeB md ls.toArray b mem listed k = true)
    (hQ : ∀ c a w, Q (.panic c) (a.put o.dst v) w → Q (.panic c) a w) (hw : Region.wanted o (yielded ls.toArray a.tmps) = true) (hy : ∀ w, memS0 S mem w → (execOp a.eval o).run P w = .ok (.value v) w) (hS : listed.getD b false = true ∨ S w)
    (h : wpAnyB P md ls.toArray Q S b fuel (listed.setIfInBounds k true) (a.put o.dst v) w) : wpAnyB P md ls.toArray Q S b (fuel + 1) listed a w := by
  unfold btakeB at hB
  simp only [Bool.and_eq_true, decide_eq_true_eq, Bool.or_eq_true, Bool.not_eq_true'] at hB
  obtain ⟨⟨⟨⟨⟨h1, h2⟩, h3⟩, h4⟩, h5⟩, h6⟩ := hB
  rw [opAt_eq] at ho
  exact wpAnyB_first mem ho (Region.noSelect_spec h1) hQ h2 (fun e => h3.resolve_left (by rw [e]; decide)) fuel listed a w (closedB_spec h4) (Region.free_spec ho h6) (by simpa using h5) (.inl ⟨hw, hy⟩) hS h
/-- One that comes up alone. -/
theorem B_run {fuel k : Nat} {listed : Array Bool} {o : Oper} {a : Act} {w : World} (ho : opAt ls k = some o) (hr : Region.ready md ls.toArray listed = [k]) (hw : Region.wanted o (yielded ls.toArray a.tmps) = true)
    (h : ∀ K : Act → World → Prop, (∀ a' w', ((listed.setIfInBounds k true).getD b false = true ∨ S w') → wpAnyB P md ls.toArray Q S b fuel (listed.setIfInBounds k true) a' w' → K a' w') → o.wp P a w K Q) : wpAnyB P md ls.toArray Q S b (fuel + 1) listed a w := by
  refine ⟨fun h1 => (by rw [hr] at h1; cases h1), fun i hi => ?_⟩
  rw [hr] at hi
  have hik : i = k := by simpa using hi
  subst hik
  rw [opAt_eq] at ho
  unfold wpOp
  simp only [ho, hw, if_true]
  exact .inl (h _ fun a' w' h1 h2 => ⟨h1, h2⟩)
theorem B_done {listed : Array Bool} {a : Act} {w : World} (hr : Region.ready md ops listed = []) (h : Q .normal a w) : wpAnyB P md ops Q S b 0 listed a w := ⟨hr, h⟩
end
end
end Go.Proofs.YtpjheibkacbbcaaGreatDoor
/- Moves in drawn regions: two or three operations that come up in any order; whole loads. Conditions: none. -/
namespace Go.Proofs.YtpjheibkacbbcaaGreatDoor
section
open Go.RowKit

theorem exec_ldr {P : Program} {w : World} {o : Oper} {ev : Operand → Value} {ty : TypeId} {n : Nat} (T : StructT P ty n) (x : Operand) (ho : o.op = .load ty x) (a : Addr) (hx : ev x = .pointer (some a)) (cs : List Value) (hb : ∀ (j : Nat) (u : Value), cs[j]? = some u → w.cell? (a.add j) = some u) (hn : cs.length = n) :
    (execOp ev o).run P w = .ok (.value (.agg cs.toArray)) w := by
  unfold execOp
  simp only [ho, hx, Instr.loadAt, Instr.sureAddr, Sem.run_bind, Sem.run_pure, Result.andThen_ok, run_load_at T hn hb]
theorem exec_ldb {P : Program} {w : World} {o : Oper} {ev : Operand → Value} {ty : TypeId} {n : Nat} (T : StructT P ty n) (x : Operand) (ho : o.op = .load ty x) (g : Nat) (hx : ev x = .pointer (some ⟨g, 0, none⟩)) (t : TypeId) (cs : List Value) (hb : Blk w g t cs.toArray) (hn : cs.length = n) :
    (execOp ev o).run P w = .ok (.value (.agg cs.toArray)) w := by
  unfold execOp
  simp only [ho, hx, Instr.loadAt, Instr.sureAddr, Sem.run_bind, Sem.run_pure, Result.andThen_ok, run_load_at T hn (fun j u hu => by rw [add_mk, Nat.zero_add, hb.cell]; simpa using hu)]
section
variable {P : Program} {ls : List Oper} {md : Region.Mode} {Q : Exit → Act → World → Prop} {S : World → Prop} {b : Nat}
end
end
end Go.Proofs.YtpjheibkacbbcaaGreatDoor
/- A place of an own slice of one-cell elements is stored; the places behind one are cleared. Over any program. Conditions: none. -/
namespace Go.Proofs.YtpjheibkacbbcaaGreatDoor
section
open Go.RowKit

section
variable {P : Program} {lo n c g : Nat} {e : TypeId} {w : World} {o : Oper} {a : Act} {K : Act → World → Prop} {Q : Exit → Act → World → Prop} {α : Type} {row : α → List Value} {l : List α}
end
end
end Go.Proofs.YtpjheibkacbbcaaGreatDoor
/- The builtin clear at a slice of records: the places from one on are cleared. Conditions: none. -/
namespace Go.Proofs.YtpjheibkacbbcaaGreatDoor
section
open Go.RowKit
variable {P : Program}

theorem zero_mem {zs : Array Value} (h1 : ∀ v ∈ zs.toList, v.oneCell' = true) (hk : 0 < zs.size) (n : Nat) : ∀ v ∈ (Builtin.zeroCells zs n).toList, v.oneCell' = true := by
  intro v hv
  unfold Builtin.zeroCells at hv
  rw [Array.toList_map] at hv
  obtain ⟨i, _, rfl⟩ := List.mem_map.1 hv
  have hlt : i % zs.size < zs.size := Nat.mod_lt _ hk
  rw [getElem!_pos zs (i % zs.size) hlt]
  exact h1 _ (Array.getElem_mem_toList hlt)
theorem run_clear_rows {w : World} {lo n c g k : Nat} {e t : TypeId} {z : Value} (ht : P.underlying t = some (.slice e)) (hv : ∀ w, (zeroValue e).run P w = .ok z w) (hz : z.cells.size = k) (hk : 0 < k) (h1 : ∀ v ∈ z.cells.toList, v.oneCell' = true) {xs : List Value} (h : Own w lo e k (some ⟨g, 0, none⟩) n c xs) (i p : Nat) (hp : p = i * k) (hi : i < n) (m cc : Nat) (hm : m = n - i) :
    ∃ w', (∀ ty, (Builtin.clear_ #[t] ty #[.slice (some ⟨g, p, none⟩) m cc]).run P w = .ok (.tuple #[]) w') ∧ Own w' lo e k (some ⟨g, 0, none⟩) i c (xs.take (i * k)) ∧ w.grownBy w' (some g) := by
  subst hm hp
  have hl := h.len
  have hle : i * k + (n - i) * k = n * k := by rw [← Nat.add_mul]; congr 1; omega
  have hzl : (Builtin.zeroCells z.cells (n - i)).toList.length = (n - i) * k := by
    unfold Builtin.zeroCells
    simp [hz]
  obtain ⟨w', hrun, h2, hg⟩ := run_storeCells_own (P := P) (Builtin.zeroCells z.cells (n - i)).toList (i * k) 0 w xs h (zero_mem h1 (by omega) _) (by rw [hzl]; omega)
  refine ⟨w', fun ty => ?_, ?_, hg⟩
  · obtain ⟨q, hq⟩ : ∃ q, n - i = q + 1 := ⟨n - i - 1, by omega⟩
    rw [hq] at hrun ⊢
    simp [Builtin.clear_, run_underlying ht, hv, hrun]
  · have h3 := h2.prefix_ i (by omega)
    have e1 : i * k ≤ xs.length := by rw [hl, ← hle]; omega
    rw [Nat.add_zero, List.append_assoc, List.take_append_of_le_length (by rw [List.length_take]; omega), List.take_take, Nat.min_self] at h3
    exact h3
section
variable {lo n c g k : Nat} {e : TypeId} {w : World} {o : Oper} {a : Act} {Q : Exit → Act → World → Prop} {α : Type} {row : α → List Value} {l : List α}
theorem wpl_store_rec {ops : Array Oper} {rest : List Oper} {ty : TypeId} (hgd : o.guard = none) (T : StructT P ty k) (hrow : ∀ a, (row a).length = k) (hk : 0 < k) (x y : Operand) (ho : o.op = .store ty x y) (i p : Nat) (hp : p = i * k) (hx : a.eval x = .pointer (some ⟨g, p, none⟩)) (z : α) (hy : a.eval y = .agg (row z).toArray)
    (h : OwnR row k w lo e (some ⟨g, 0, none⟩) n c l) (hi : i < n) (h1 : ∀ u ∈ row z, u.oneCell' = true)
    (hK : ∀ w', OwnR row k w' lo e (some ⟨g, 0, none⟩) n c (l.set i z) → w.grownBy w' (some g) → wpList P ops Q rest (a.put o.dst undef) w') : wpList P ops Q (o :: rest) a w :=
  wpList_plain hgd fun _ hk' => wp_store_rec T hrow hk x y ho i p hp hx z hy h hi h1 fun w' h2 hg => hk' _ _ (hK w' h2 hg)
end
end
end Go.Proofs.YtpjheibkacbbcaaGreatDoor

/- strings.Trim at the signs of keys, the document's 'only'; what a key is: number.IsKey and the document's Key; moments. Conditions: none. -/
import Derived.Test.YtoddgaocochdgaaGreatDoorBun1
import Derived.Test.YtoddgaocochdgaaGreatDoorShelfTrim
import Derived.Laws.Cover1
import Derived.WalkKit
import Derived.Deep.QuietTactic
import Derived.BigQuiet
namespace Go.Proofs.YtoddgaocochdgaaGreatDoor
section
open Go.RowKit

/-! The first place of a byte, or -1. -/
def ixS (l : List Nat) (c : Nat) : Int := if c ∈ l then ((l.takeWhile (· != c)).length : Int) else -1
theorem ixS_eq (l : List UInt8) (c : Nat) (hc : c < 256) : Lib.indexByte l c.toUInt8 = ixS (l.map UInt8.toNat) c := by
  induction l with
  | nil => simp [Lib.indexByte, ixS]
  | cons b l ih =>
    have hb : (b == c.toUInt8) = (b.toNat == c) := by
      rw [Bool.eq_iff_iff, beq_iff_eq, beq_iff_eq]
      constructor
      · rintro rfl; simp [Nat.mod_eq_of_lt hc]
      · rintro rfl; simp
    unfold Lib.indexByte
    rw [ih, hb]
    unfold ixS
    by_cases h : b.toNat = c
    · simp [h]
    · have h' : (b.toNat == c) = false := by simpa using h
      rw [h']
      have hm : (c ∈ (b :: l).map UInt8.toNat) ↔ c ∈ l.map UInt8.toNat := by simp [Ne.symm h]
      by_cases h2 : c ∈ l.map UInt8.toNat
      · rw [if_pos h2, if_pos (hm.2 h2)]
        have h3 : (b.toNat != c) = true := by simpa using h
        simp only [List.map_cons, List.takeWhile_cons, h3, if_true, List.length_cons]
        have : ((((l.map UInt8.toNat).takeWhile (· != c)).length : Int) == -1) = false := by
          rw [beq_eq_false_iff_ne]; omega
        rw [this]
        simp
      · rw [if_neg h2, if_neg (fun h3 => h2 (hm.1 h3))]
        simp
theorem ixS_mem {l : List Nat} {c : Nat} : (0 ≤ ixS l c ↔ c ∈ l) ∧ (ixS l c < 0 ↔ ¬ c ∈ l) := by
  unfold ixS
  by_cases h : c ∈ l
  · rw [if_pos h]; exact ⟨⟨fun _ => h, fun _ => by omega⟩, ⟨fun h2 => by omega, fun h2 => absurd h h2⟩⟩
  · rw [if_neg h]; exact ⟨⟨fun h2 => by omega, fun h2 => absurd h2 h⟩, ⟨fun _ => h, fun _ => by omega⟩⟩
theorem ixS_any (s : ByteArray) (c : Nat) (w : World) (hc : c < 256) : Calls Tryz.prog 173 #[.string s, .int .u8 c] w (Same (.int .i64 (ixS (nb s) c)) w) := by
  refine (indexByte_any s c w).mono ?_
  rintro e w' ⟨rfl, rfl⟩
  refine ⟨?_, rfl⟩
  rw [Int.toNat_natCast, ixS_eq _ _ hc]
  rfl
set_option maxHeartbeats 2000000 in
theorem onlyS_any (s u : ByteArray) (w : World) (hs : s.size ≤ 1000000000) : Calls Tryz.prog 93 #[.string s, .string u] w (Same (.bool ((nb s).all (fun b => decide (b ∈ nb u)))) w) := by
  go_enter Tryz.func93, Tryz.ntmps93
  go_wp2_with fail
  go_loop [5, 8] (fun _ t => ∃ i : Nat, i ≤ s.size ∧ t = .int .i64 i ∧ ∀ j, j < i → (nb s).getD j 0 ∈ nb u) (fun _ t => s.size - (intOf t).toNat)
  case atStart => exact ⟨0, Nat.zero_le _, rfl, fun j hj => by omega⟩
  case round =>
    obtain ⟨i, hi, rfl, hin⟩ := hrel
    have HIN := Lib.hid hin; clear hin
    by_cases hil : i < s.size
    · obtain ⟨q, hq⟩ : ∃ q, s[i].toNat = q := ⟨_, rfl⟩
      have q256 : q < 256 := by rw [← hq]; exact UInt8.toNat_lt _
      have HQ := Lib.hid (show (nb s).getD i 0 = q by rw [← nb_get hil, hq])
      obtain ⟨z, hz⟩ : ∃ z, ixS (nb u) q = z := ⟨_, rfl⟩
      have HZ := Lib.hid hz
      have hi0 := ixS_mem (l := nb u) (c := q)
      rw [hz] at hi0
      clear hz
      by_cases hz0 : z < 0
      · have HF := Lib.hid (show (nb s).all (fun b => decide (b ∈ nb u)) = false by
          rw [List.all_eq_false]
          have hl : i < (nb s).length := by rw [nb_len]; exact hil
          refine ⟨q, ?_, by simpa using hi0.2.1 hz0⟩
          rw [← HQ.out, List.getD_eq_getElem?_getD, List.getElem?_eq_getElem hl]
          exact List.getElem_mem _)
        clear hi0
        go_wp2_with (first
          | (go_at_call 173; refine (ixS_any u q _ q256).mono ?_; rintro e w' ⟨rfl, rfl⟩; rw [HZ.out])
          | fail)
        go_ret
        exact ⟨by rw [HF.out]; rfl, rfl⟩
      · have HN := Lib.hid (hi0.1.1 (by omega))
        clear hi0
        go_wp2_with (first
          | (go_at_call 173; refine (ixS_any u q _ q256).mono ?_; rintro e w' ⟨rfl, rfl⟩; rw [HZ.out])
          | fail)
        go_round
        case rel => exact ⟨i + 1, by omega, by go_num, fun j hj => by
          rcases Nat.lt_succ_iff_lt_or_eq.1 hj with h1 | h1
          · exact HIN.out j h1
          · subst h1; rw [HQ.out]; exact HN.out⟩
        case measure => simp [intOf]; omega
    · obtain rfl : i = s.size := by omega
      have HT := Lib.hid (show (nb s).all (fun b => decide (b ∈ nb u)) = true by
        rw [List.all_eq_true]
        intro b hb
        obtain ⟨k, hk, rfl⟩ := List.mem_iff_getElem.1 hb
        have := HIN.out k (by rw [nb_len] at hk; exact hk)
        rw [List.getD_eq_getElem?_getD, List.getElem?_eq_getElem hk] at this
        exact decide_eq_true this)
      have d0 : decide ((s.size : Int) < (s.size : Int)) = false := decide_eq_false (by omega)
      go_wp2_with fail
      go_ret
      exact ⟨by rw [HT.out]; rfl, rfl⟩

/-! Trimmed strings. -/
theorem tr_head {p : UInt8 → Bool} {l : List UInt8} {a : UInt8} {r : List UInt8} (h : l.dropWhile p = a :: r) : p a = false := by
  induction l with
  | nil => cases h
  | cons b l ih =>
    rw [List.dropWhile_cons] at h
    split at h
    · exact ih h
    · rename_i hp
      injection h with h1 h2
      subst h1
      simpa using hp
theorem tr_all {p : UInt8 → Bool} {l : List UInt8} : l.dropWhile p = [] ↔ ∀ a ∈ l, p a = true := by
  induction l with
  | nil => simp
  | cons b l ih =>
    rw [List.dropWhile_cons]
    by_cases hp : p b = true
    · rw [if_pos hp, ih]; simp [hp]
    · rw [if_neg hp]; simp [hp]
theorem tr_nil (l cs : List UInt8) : Lib.trimS l cs = [] ↔ ∀ b ∈ l, cs.contains b = true := by
  unfold Lib.trimS Lib.trimLeftS Lib.trimRightS
  rw [tr_all]
  constructor
  · intro h
    cases hd : l.reverse.dropWhile (cs.contains ·) with
    | nil =>
      have := tr_all.1 hd
      intro b hb
      exact this b (by simpa using hb)
    | cons a r =>
      exfalso
      have h1 := tr_head hd
      have h2 := h a (by rw [hd]; simp)
      rw [h1] at h2
      cases h2
  · intro h
    have : l.reverse.dropWhile (cs.contains ·) = [] := tr_all.2 (fun a ha => h a (by simpa using ha))
    rw [this]
    simp
/-- A string is trimmed to nothing just if it has no other signs. -/
theorem tr_only (s : ByteArray) (cs : List UInt8) : (Lib.trimS s.data.toList cs = []) ↔ (nb s).all (fun b => decide (b ∈ cs.map UInt8.toNat)) = true := by
  rw [tr_nil, List.all_eq_true]
  unfold nb
  have hin : ∀ u : UInt8, cs.contains u = true ↔ u.toNat ∈ cs.map UInt8.toNat := fun u => by
    rw [List.contains_iff_mem]
    constructor
    · intro h; exact List.mem_map.2 ⟨u, h, rfl⟩
    · intro h
      obtain ⟨v, hv, he⟩ := List.mem_map.1 h
      rw [← UInt8.toNat_inj.1 he]; exact hv
  constructor
  · intro h b hb
    obtain ⟨u, hu, rfl⟩ := List.mem_map.1 hb
    exact decide_eq_true ((hin u).1 (h u hu))
  · intro h u hu
    exact (hin u).2 (of_decide_eq_true (h _ (List.mem_map.2 ⟨u, hu, rfl⟩)))

/-! Keys. -/
def keySigns : List Nat := [97, 98, 99, 100, 101, 102, 103, 104, 105, 106, 107, 108, 109, 110, 111, 112, 113, 114, 115, 116, 117, 118, 119, 120, 121, 122, 48, 49, 50, 51, 52, 53, 54, 55, 56, 57, 45, 95]
def smallSigns : List Nat := [97, 98, 99, 100, 101, 102, 103, 104, 105, 106, 107, 108, 109, 110, 111, 112, 113, 114, 115, 116, 117, 118, 119, 120, 121, 122]
def keyOk (l : List Nat) : Bool := decide (1 ≤ l.length) && decide (l.length ≤ 40) && decide (97 ≤ l.getD 0 0) && decide (l.getD 0 0 ≤ 122) && l.all (fun b => decide (b ∈ keySigns))
set_option maxRecDepth 100000 in
theorem trimKey_any (s : ByteArray) (w : World) (hs : s.size ≤ 1000000) : Calls Tryz.prog 156 #[.string s, .string ⟨#[97, 98, 99, 100, 101, 102, 103, 104, 105, 106, 107, 108, 109, 110, 111, 112, 113, 114, 115, 116, 117, 118, 119, 120, 121, 122, 48, 49, 50, 51, 52, 53, 54, 55, 56, 57, 45, 95]⟩] w
    (RetV (.string ⟨(Lib.trimS s.data.toList [97, 98, 99, 100, 101, 102, 103, 104, 105, 106, 107, 108, 109, 110, 111, 112, 113, 114, 115, 116, 117, 118, 119, 120, 121, 122, 48, 49, 50, 51, 52, 53, 54, 55, 56, 57, 45, 95]).toArray⟩) w) := by
  refine (Any.strings_Trim_laid Tryz.lays160 (by kernel_rfl) s ⟨#[97, 98, 99, 100, 101, 102, 103, 104, 105, 106, 107, 108, 109, 110, 111, 112, 113, 114, 115, 116, 117, 118, 119, 120, 121, 122, 48, 49, 50, 51, 52, 53, 54, 55, 56, 57, 45, 95]⟩ w (by omega) (by decide) (ascii_of_all (by decide))).mono ?_
  rintro e w' ⟨rfl, hb⟩
  exact ⟨rfl, gr_below hb none⟩
set_option maxHeartbeats 2000000 in
set_option maxRecDepth 100000 in
theorem isKey_any (s : ByteArray) (w : World) (hs : s.size ≤ 1000000) : Calls Tryz.prog 65 #[.string s] w (RetV (.bool (keyOk (nb s))) w) := by
  have hlen := nb_len s
  by_cases h1 : 1 ≤ s.size
  · have q1 : decide ((1 : Int) ≤ (s.size : Int)) = true := decide_eq_true (by omega)
    by_cases h2 : s.size ≤ 40
    · have q2 : decide ((s.size : Int) ≤ 40) = true := decide_eq_true (by omega)
      obtain ⟨b, hb⟩ : ∃ b, s[0].toNat = b := ⟨_, rfl⟩
      have hb0 : (nb s).getD 0 0 = b := by rw [← nb_get (by omega), hb]
      have HD := Lib.hid (show keyOk (nb s) = (decide (97 ≤ b) && decide (b ≤ 122) && (nb s).all (fun b => decide (b ∈ keySigns))) by
        unfold keyOk; rw [hlen, decide_eq_true h1, decide_eq_true h2, hb0]; simp only [Bool.true_and])
      clear hlen hb0
      by_cases h3 : 97 ≤ b
      · have q3 : decide ((97 : Int) ≤ (b : Int)) = true := decide_eq_true (by omega)
        by_cases h4 : b ≤ 122
        · have q4 : decide ((b : Int) ≤ 122) = true := decide_eq_true (by omega)
          obtain ⟨u, hu⟩ : ∃ u : ByteArray, (⟨(Lib.trimS s.data.toList [97, 98, 99, 100, 101, 102, 103, 104, 105, 106, 107, 108, 109, 110, 111, 112, 113, 114, 115, 116, 117, 118, 119, 120, 121, 122, 48, 49, 50, 51, 52, 53, 54, 55, 56, 57, 45, 95]).toArray⟩ : ByteArray) = u := ⟨_, rfl⟩
          have HU := Lib.hid hu
          obtain ⟨B, hB⟩ : ∃ B, (nb s).all (fun b => decide (b ∈ keySigns)) = B := ⟨_, rfl⟩
          have HB := Lib.hid (show keyOk (nb s) = B by rw [HD.out, decide_eq_true h3, decide_eq_true h4, hB]; rfl)
          have hul : u.toList = Lib.trimS s.data.toList [97, 98, 99, 100, 101, 102, 103, 104, 105, 106, 107, 108, 109, 110, 111, 112, 113, 114, 115, 116, 117, 118, 119, 120, 121, 122, 48, 49, 50, 51, 52, 53, 54, 55, 56, 57, 45, 95] := by rw [← hu]; exact ByteArray.toList_mk _
          cases B
          · have q3 : ¬ u.toList = [] := fun h => by
              rw [hul, tr_only] at h
              have : (nb s).all (fun b => decide (b ∈ keySigns)) = true := h
              rw [hB] at this; cases this
            have q4 : (u.toList == []) = false := by rw [beq_eq_false_iff_ne]; exact q3
            have q5 : u.toList.isEmpty = false := by rw [List.isEmpty_eq_false_iff]; exact q3
            clear hu hB hul q3
            go_enter Tryz.func65, Tryz.ntmps65
            go_wp2_with (first
              | (go_at_call 156; refine (trimKey_any s _ hs).mono ?_; rintro e w' ⟨rfl, hg⟩; rw [HU.out]; have HG := Lib.hid hg; clear hg)
              | fail)
            go_ret
            exact ⟨by rw [HB.out]; rfl, HG.out⟩
          · have q3 : u.toList = [] := by rw [hul, tr_only]; exact hB
            clear hu hB hul
            go_enter Tryz.func65, Tryz.ntmps65
            go_wp2_with (first
              | (go_at_call 156; refine (trimKey_any s _ hs).mono ?_; rintro e w' ⟨rfl, hg⟩; rw [HU.out]; have HG := Lib.hid hg; clear hg)
              | fail)
            go_ret
            exact ⟨by rw [HB.out]; rfl, HG.out⟩
        · have q4 : decide ((b : Int) ≤ 122) = false := decide_eq_false (by omega)
          have HB := Lib.hid (show keyOk (nb s) = false by rw [HD.out, decide_eq_false h4]; simp)
          go_enter Tryz.func65, Tryz.ntmps65
          go_wp2_with fail
          go_ret
          exact ⟨by rw [HB.out]; rfl, gr_refl _ _⟩
      · have q3 : decide ((97 : Int) ≤ (b : Int)) = false := decide_eq_false (by omega)
        have HB := Lib.hid (show keyOk (nb s) = false by rw [HD.out, decide_eq_false h3]; simp)
        go_enter Tryz.func65, Tryz.ntmps65
        go_wp2_with fail
        go_ret
        exact ⟨by rw [HB.out]; rfl, gr_refl _ _⟩
    · have q2 : decide ((s.size : Int) ≤ 40) = false := decide_eq_false (by omega)
      have HB := Lib.hid (show keyOk (nb s) = false by unfold keyOk; rw [hlen, decide_eq_false h2]; simp)
      clear hlen
      go_enter Tryz.func65, Tryz.ntmps65
      go_wp2_with fail
      go_ret
      exact ⟨by rw [HB.out]; rfl, gr_refl _ _⟩
  · have q1 : decide ((1 : Int) ≤ (s.size : Int)) = false := decide_eq_false (by omega)
    have HB := Lib.hid (show keyOk (nb s) = false by unfold keyOk; rw [hlen, decide_eq_false h1]; simp)
    clear hlen
    go_enter Tryz.func65, Tryz.ntmps65
    go_wp2_with fail
    go_ret
    exact ⟨by rw [HB.out]; rfl, gr_refl _ _⟩
theorem small_iff : ∀ c : Fin 256, decide (c.val ∈ smallSigns) = (decide (97 ≤ c.val) && decide (c.val ≤ 122)) := by decide +kernel
theorem nb_small : nb ⟨#[97, 98, 99, 100, 101, 102, 103, 104, 105, 106, 107, 108, 109, 110, 111, 112, 113, 114, 115, 116, 117, 118, 119, 120, 121, 122]⟩ = smallSigns := by decide +kernel
theorem nb_keyS : nb ⟨#[97, 98, 99, 100, 101, 102, 103, 104, 105, 106, 107, 108, 109, 110, 111, 112, 113, 114, 115, 116, 117, 118, 119, 120, 121, 122, 48, 49, 50, 51, 52, 53, 54, 55, 56, 57, 45, 95]⟩ = keySigns := by decide +kernel
set_option maxHeartbeats 2000000 in
set_option maxRecDepth 100000 in
theorem keyRef_any (s : ByteArray) (w : World) (hs : s.size ≤ 1000000) : Calls Tryz.prog 61 #[.string s] w (Same (.bool (keyOk (nb s))) w) := by
  have hlen := nb_len s
  obtain ⟨B1, h1⟩ : ∃ B1, inB (s.size : Int) 1 40 = B1 := ⟨_, rfl⟩
  have H1 := Lib.hid h1
  have hB1 : B1 = (decide (1 ≤ s.size) && decide (s.size ≤ 40)) := by
    rw [← h1]; unfold inB; rw [Bool.eq_iff_iff]; simp only [Bool.and_eq_true, decide_eq_true_eq]; omega
  clear h1
  cases B1
  · have HB := Lib.hid (show keyOk (nb s) = false by unfold keyOk; rw [hlen, ← hB1]; rfl)
    clear hlen hB1
    go_enter Tryz.func61, Tryz.ntmps61
    go_wp2_with (first
      | (go_at_call 59; refine (in_any _ _ _ _).mono ?_; rintro e w' ⟨rfl, rfl⟩; rw [H1.out])
      | fail)
    go_ret
    exact ⟨by rw [HB.out]; rfl, rfl⟩
  · have h12 : 1 ≤ s.size ∧ s.size ≤ 40 := by simpa using hB1.symm
    obtain ⟨u, hu⟩ : ∃ u, s.extract 0 1 = u := ⟨_, rfl⟩
    have hnu : nb u = [(nb s).getD 0 0] := by
      rw [← hu, nb_extract]
      cases hn : nb s with
      | nil => rw [hn] at hlen; simp at hlen; omega
      | cons x l => rfl
    have hus : u.size ≤ 1 := by rw [← nb_len, hnu]; simp
    have h256 : (nb s).getD 0 0 < 256 := nb_lt (s := u) (by rw [hnu]; simp)
    obtain ⟨B2, h2⟩ : ∃ B2, (nb u).all (fun b => decide (b ∈ smallSigns)) = B2 := ⟨_, rfl⟩
    obtain ⟨B3, h3⟩ : ∃ B3, (nb s).all (fun b => decide (b ∈ keySigns)) = B3 := ⟨_, rfl⟩
    have HB := Lib.hid (show keyOk (nb s) = (B2 && B3) by
      unfold keyOk
      rw [← h2, ← h3, hnu, hlen, decide_eq_true h12.1, decide_eq_true h12.2]
      have := small_iff ⟨_, h256⟩
      simp only [List.all_cons, List.all_nil, Bool.and_true, Bool.true_and]
      rw [this])
    have H2 := Lib.hid h2; have H3 := Lib.hid h3
    clear hB1 hnu h2 h3 hlen h256
    have g1 : (1 : Int) ≤ (s.size : Int) := by omega
    have g2 : (1 : Nat) ≤ s.size := by omega
    clear h12
    obtain ⟨sm, hsm⟩ : ∃ sm : ByteArray, (⟨#[97, 98, 99, 100, 101, 102, 103, 104, 105, 106, 107, 108, 109, 110, 111, 112, 113, 114, 115, 116, 117, 118, 119, 120, 121, 122]⟩ : ByteArray) = sm := ⟨_, rfl⟩
    obtain ⟨ks, hks⟩ : ∃ ks : ByteArray, (⟨#[97, 98, 99, 100, 101, 102, 103, 104, 105, 106, 107, 108, 109, 110, 111, 112, 113, 114, 115, 116, 117, 118, 119, 120, 121, 122, 48, 49, 50, 51, 52, 53, 54, 55, 56, 57, 45, 95]⟩ : ByteArray) = ks := ⟨_, rfl⟩
    have HSM := Lib.hid (show (nb u).all (fun b => decide (b ∈ nb sm)) = B2 by rw [← hsm, nb_small]; exact H2.out)
    have HKS := Lib.hid (show (nb s).all (fun b => decide (b ∈ nb ks)) = B3 by rw [← hks, nb_keyS]; exact H3.out)
    cases B2
    all_goals
      go_enter Tryz.func61, Tryz.ntmps61
      go_wp2_with (first
        | (go_at_call 59; refine (in_any _ _ _ _).mono ?_; rintro e w' ⟨rfl, rfl⟩; rw [H1.out])
        | (go_at_call 93; ((with_reducible refine (onlyS_any u sm _ (by omega)).mono ?_); rintro e w' ⟨rfl, rfl⟩; rw [HSM.out]))
        | (go_at_call 93; ((with_reducible refine (onlyS_any s ks _ (by omega)).mono ?_); rintro e w' ⟨rfl, rfl⟩; rw [HKS.out]))
        | fail)
      go_ret
      exact ⟨by rw [HB.out]; rfl, rfl⟩
end
end Go.Proofs.YtoddgaocochdgaaGreatDoor
/- Small words that many texts share: Go's order of strings, the first error of some places, moments. Conditions: none. -/
namespace Go.Proofs.YtoddgaocochdgaaGreatDoor
section
open Go.RowKit

/-- Go's <= on strings. -/
def leS (a b : ByteArray) : Bool := Op.bytesLess a.toList b.toList || a.toList == b.toList
/-- The first of f 0, f 1, .. f (n - 1) that is not 0; 0: there is none. -/
def fstE (f : Nat → Int) : Nat → Int
  | 0 => 0
  | n + 1 => if fstE f n = 0 then f n else fstE f n
theorem fstE_zero {f : Nat → Int} {i : Nat} (h : fstE f i = 0) (h1 : f i = 0) : fstE f (i + 1) = 0 := by simp [fstE, h, h1]
theorem fstE_stop {f : Nat → Int} {i n : Nat} (h : fstE f i = 0) (h1 : f i ≠ 0) (hn : i < n) : fstE f n = f i := by
  induction n with
  | zero => omega
  | succ n ih =>
    by_cases e : i = n
    · subst e; simp [fstE, h]
    · have := ih (by omega)
      simp [fstE, this, h1]

theorem fst_ret {f : Nat → Int} {i n : Nat} {X v : Int} (h : fstE f i = 0) (e : f i = v) (hv : v ≠ 0) (hn : i < n) : (if fstE f n = 0 then X else fstE f n) = v := by
  rw [fstE_stop h (by rw [e]; exact hv) hn, e, if_neg hv]
def momB (n : Int) : Bool := inB n 0 345686399999
set_option maxHeartbeats 1000000 in
theorem isMomB_any (n : Int) (w : World) : Calls Tryz.prog 178 #[.int .i64 n] w (Same (.bool (momB n)) w) := by
  have H := Lib.hid (show momB n = (decide (0 ≤ n) && decide (n ≤ 345686399999)) from rfl)
  by_cases h1 : 0 ≤ n <;> by_cases h2 : n < 345686400000
  all_goals
    go_enter Tryz.func178, Tryz.ntmps178
    go_wp2
    go_ret
    exact ⟨by rw [H.out]; simp [h1]; omega, rfl⟩
set_option maxHeartbeats 1000000 in
theorem momentB_any (n : Int) (w : World) : Calls Tryz.prog 95 #[.int .i64 n] w (Same (.bool (momB n)) w) := by
  go_enter Tryz.func95, Tryz.ntmps95
  go_wp2_with (first
    | (go_at_call 59; refine (in_any _ _ _ _).mono ?_; rintro e w' ⟨rfl, rfl⟩)
    | fail)
  go_ret
  exact ⟨rfl, rfl⟩
theorem keyRefR_any (s : ByteArray) (w : World) (hs : s.size ≤ 1000000) : Calls Tryz.prog 61 #[.string s] w (RetV (.bool (keyOk (nb s))) w) := by
  refine (keyRef_any s w hs).mono ?_
  rintro e w' ⟨rfl, rfl⟩
  exact ⟨rfl, gr_refl _ _⟩
theorem eqS_nb (s t : ByteArray) : (s.toList == t.toList) = (nb s == nb t) := by
  rw [Bool.eq_iff_iff, beq_iff_eq, beq_iff_eq, ByteArray.toList_eq, ByteArray.toList_eq]
  exact ⟨fun h => by unfold nb; rw [h], fun h => by rw [nb_inj h]⟩
end
end Go.Proofs.YtoddgaocochdgaaGreatDoor
/- Codecs as they lie in memory, what is wrong with them, which are agreed on, how they are written: plain Lean. Conditions: none. -/
namespace Go.Proofs.YtoddgaocochdgaaGreatDoor
section
open Go.RowKit

/-- A codec, as it lies in memory. -/
structure CdV where
  ty : Int
  rt : Int
  nm : ByteArray
def CdV.row (a : CdV) : List Value := [.int .i64 a.ty, .int .i64 a.rt, .string a.nm]
theorem CdV.row_len (a : CdV) : a.row.length = 3 := rfl
def CdOk (a : CdV) : Prop := a.nm.size ≤ 1000000
def Cds (w : World) (lo : Nat) (A : Option Addr) (n c : Nat) (l : List CdV) : Prop := Recs CdV.row 3 w lo A n c l ∧ ∀ a ∈ l, CdOk a
theorem Cds.grown {w w' : World} {lo : Nat} {A : Option Addr} {n c : Nat} {l : List CdV} (h : Cds w lo A n c l) {r : Option Nat} (hg : w.grownBy w' r) (hr : ∀ g, r = some g → g < lo) : Cds w' lo A n c l :=
  ⟨h.1.grown hg hr, h.2⟩
theorem Cds.take {w : World} {lo : Nat} {A : Option Addr} {n c : Nat} {l : List CdV} (h : Cds w lo A n c l) {i : Nat} (hi : i ≤ n) : Cds w lo A i c (l.take i) :=
  ⟨h.1.take CdV.row_len hi, fun a ha => h.2 a (List.mem_of_mem_take ha)⟩
theorem CdV.flat_take : ∀ (l : List CdV) (i : Nat), (l.flatMap CdV.row).take (i * 3) = (l.take i).flatMap CdV.row
  | [], i => by simp
  | z :: l, 0 => by simp
  | z :: l, i + 1 => by
    rw [List.flatMap_cons, List.take_succ_cons, List.flatMap_cons, show (i + 1) * 3 = z.row.length + i * 3 by rw [CdV.row_len]; omega, List.take_length_add_append, CdV.flat_take l i]
theorem idxP_cases {α : Type} (p : α → Bool) (l : List α) : (idxP p l = -1 ∧ ∀ x ∈ l, p x = false) ∨ ∃ (i : Nat) (z : α), idxP p l = i ∧ l[i]? = some z ∧ p z = true ∧ ∀ x ∈ l.take i, p x = false := by
  unfold idxP
  cases h : l.any p with
  | false => exact .inl ⟨rfl, fun x hx => by simpa using List.any_eq_false.1 h x hx⟩
  | true =>
    obtain ⟨x, hx, hp⟩ := List.any_eq_true.1 h
    have hlt : l.findIdx p < l.length := List.findIdx_lt_length_of_exists ⟨x, hx, hp⟩
    refine .inr ⟨l.findIdx p, l[l.findIdx p], rfl, List.getElem?_eq_getElem hlt, List.findIdx_getElem (w := hlt), fun y hy => ?_⟩
    obtain ⟨j, hj, rfl⟩ := List.mem_iff_getElem.1 hy
    rw [List.length_take] at hj
    rw [List.getElem_take]
    simpa using List.not_of_lt_findIdx (p := p) (xs := l) (show j < l.findIdx p by omega)
/-- The same number; the same form of sound. -/
def sameT (z x : CdV) : Bool := x.ty == z.ty
def sameF (z x : CdV) : Bool := nb z.nm == nb x.nm && z.rt == x.rt
theorem sameF_flip (z x : CdV) : (nb x.nm == nb z.nm && x.rt == z.rt) = sameF z x := by
  unfold sameF
  congr 1
  · exact Bool.eq_iff_iff.2 (by simp only [beq_iff_eq]; exact eq_comm)
  · exact Bool.eq_iff_iff.2 (by simp only [beq_iff_eq]; exact eq_comm)
def cdAt (l : List CdV) (i : Nat) : Int := (l[i]?).elim 0 fun z =>
  if inB z.ty 0 127 then (if (l.take i).any (sameT z) then 6 else (if keyOk (nb z.nm) then (if inB z.rt 1000 96000 then (if (l.take i).any (sameF z) then 6 else 0) else 1) else 5)) else 1
def cdE (l : List CdV) : Int := if 20 < l.length then 2 else fstE (cdAt l) l.length
section
variable {l : List CdV} {i : Nat} {z : CdV}
theorem cdAt_t (h : l[i]? = some z) (h1 : inB z.ty 0 127 = false) : cdAt l i = 1 := by simp only [cdAt, h, Option.elim, h1]; rfl
theorem cdAt_tw (h : l[i]? = some z) (h1 : inB z.ty 0 127 = true) (h2 : (l.take i).any (sameT z) = true) : cdAt l i = 6 := by simp only [cdAt, h, Option.elim, h1, h2]; rfl
theorem cdAt_n (h : l[i]? = some z) (h1 : inB z.ty 0 127 = true) (h2 : (l.take i).any (sameT z) = false) (h3 : keyOk (nb z.nm) = false) : cdAt l i = 5 := by simp only [cdAt, h, Option.elim, h1, h2, h3]; rfl
theorem cdAt_r (h : l[i]? = some z) (h1 : inB z.ty 0 127 = true) (h2 : (l.take i).any (sameT z) = false) (h3 : keyOk (nb z.nm) = true) (h4 : inB z.rt 1000 96000 = false) : cdAt l i = 1 := by simp only [cdAt, h, Option.elim, h1, h2, h3, h4]; rfl
theorem cdAt_fw (h : l[i]? = some z) (h1 : inB z.ty 0 127 = true) (h2 : (l.take i).any (sameT z) = false) (h3 : keyOk (nb z.nm) = true) (h4 : inB z.rt 1000 96000 = true) (h5 : (l.take i).any (sameF z) = true) : cdAt l i = 6 := by simp only [cdAt, h, Option.elim, h1, h2, h3, h4, h5]; rfl
theorem cdAt_z (h : l[i]? = some z) (h1 : inB z.ty 0 127 = true) (h2 : (l.take i).any (sameT z) = false) (h3 : keyOk (nb z.nm) = true) (h4 : inB z.rt 1000 96000 = true) (h5 : (l.take i).any (sameF z) = false) : cdAt l i = 0 := by simp only [cdAt, h, Option.elim, h1, h2, h3, h4, h5]; rfl
end
/-- What is agreed on. -/
def agreeV (a b : List CdV) : List CdV := a.filter fun z => b.any (sameF z)
theorem agreeV_succ {a b : List CdV} {i : Nat} {z : CdV} (h : a[i]? = some z) : agreeV (a.take (i + 1)) b = if b.any (sameF z) then agreeV (a.take i) b ++ [z] else agreeV (a.take i) b := by
  unfold agreeV
  rw [take_snoc' h, List.filter_append, List.filter_cons, List.filter_nil]
  cases b.any (sameF z)
  · exact List.append_nil _
  · rfl
/-- What is known of codecs in which nothing is wrong. -/
theorem cdE_parts {l : List CdV} (h : cdE l = 0) : l.length ≤ 20 ∧ ∀ z ∈ l, 0 ≤ z.ty ∧ z.ty ≤ 127 ∧ 1000 ≤ z.rt ∧ z.rt ≤ 96000 ∧ keyOk (nb z.nm) = true := by
  unfold cdE at h
  split at h
  · cases h
  · refine ⟨by omega, fun z hz => ?_⟩
    obtain ⟨i, hi⟩ := List.mem_iff_getElem?.1 hz
    have key : ∀ n, fstE (cdAt l) n = 0 → ∀ i, i < n → cdAt l i = 0 := by
      intro n
      induction n with
      | zero => intro _ i hi; omega
      | succ n ih =>
        intro hn i hi
        have h0 : fstE (cdAt l) n = 0 := by
          apply Classical.byContradiction
          intro h0
          rw [show fstE (cdAt l) (n + 1) = fstE (cdAt l) n by simp [fstE, h0]] at hn
          exact h0 hn
        by_cases e : i = n
        · subst e
          rw [show fstE (cdAt l) (i + 1) = cdAt l i by simp [fstE, h0]] at hn
          exact hn
        · exact ih h0 i (by omega)
    have h0 := key _ h i (List.getElem?_eq_some_iff.1 hi).1
    cases h1 : inB z.ty 0 127 with
    | false => rw [cdAt_t hi h1] at h0; cases h0
    | true =>
      cases h2 : (l.take i).any (sameT z) with
      | true => rw [cdAt_tw hi h1 h2] at h0; cases h0
      | false =>
        cases h3 : keyOk (nb z.nm) with
        | false => rw [cdAt_n hi h1 h2 h3] at h0; cases h0
        | true =>
          cases h4 : inB z.rt 1000 96000 with
          | false => rw [cdAt_r hi h1 h2 h3 h4] at h0; cases h0
          | true =>
            unfold inB at h1 h4
            simp only [Bool.and_eq_true, decide_eq_true_eq] at h1 h4
            exact ⟨h1.1, h1.2, h4.1, h4.2, rfl⟩
end
end Go.Proofs.YtoddgaocochdgaaGreatDoor
/- Slices of records that a call makes. Conditions: none. -/
namespace Go.Proofs.YtoddgaocochdgaaGreatDoor
section
open Go.RowKit

theorem flat_set1' {α : Type} {row : α → List Value} {k : Nat} (hrow : ∀ a, (row a).length = k) {l : List α} {i : Nat} {a a' : α} (hi : l[i]? = some a) {j : Nat} (hj : j < k) {u : Value} (hr : row a' = (row a).set j u) : (l.flatMap row).set (i * k + j) u = (l.set i a').flatMap row := by
  have h := flat_set (row := row) (k := k) hrow (by omega) hi (a' := a') (ys := [u]) j (by simp; omega) (by
    rw [hr, List.set_eq_take_append_cons_drop, if_pos (by rw [hrow]; exact hj)]; simp)
  have hil := (List.getElem?_eq_some_iff.1 hi).1
  have hle : (i + 1) * k ≤ l.length * k := Nat.mul_le_mul_right k hil
  rw [Nat.succ_mul] at hle
  rw [← h, List.set_eq_take_append_cons_drop, if_pos (by rw [flat_len hrow]; omega)]
  simp

theorem reads_at (w : World) (t : TypeId) (cs : List Value) (size : Nat) (h : cs.length = size) {g : Nat} (hg : w.heap.size = g) : Reads (w.alloc (.cells cs.toArray t)) g size (some ⟨g, 0, none⟩) 1 1 cs := by
  subst hg; exact Reads.one w t cs size h
/-- A slice of records of the call's own. -/
def OwnR {α : Type} (row : α → List Value) (k : Nat) (w : World) (lo : Nat) (e : TypeId) (A : Option Addr) (n c : Nat) (l : List α) : Prop := Own w lo e k A n c (l.flatMap row) ∧ l.length = n
section
variable {α : Type} {row : α → List Value} {k : Nat} {w w' : World} {lo lo' n c : Nat} {e : TypeId} {A : Option Addr} {l : List α}
theorem OwnR.recs (h : OwnR row k w lo e A n c l) : Recs row k w lo A n c l := ⟨h.1.reads, h.2⟩
theorem OwnR.nil (w : World) (lo : Nat) (e : TypeId) : OwnR row k w lo e none 0 0 [] := ⟨Own.nil _ _ _ _, rfl⟩
theorem OwnR.kept (h : OwnR row k w lo e A n c l) {r : Option Nat} (hg : w.grownBy w' r) (hne : ∀ g, r = some g → blkOf A ≠ some g) : OwnR row k w' lo e A n c l := ⟨h.1.kept hg hne, h.2⟩
theorem OwnR.low (h : OwnR row k w lo e A n c l) {r : Option Nat} (hg : w.grownBy w' r) (hr : ∀ g, r = some g → g < lo) : OwnR row k w' lo e A n c l :=
  h.kept hg (fun g e e' => by have := hr g e; have := (h.1.lt e').1; omega)
theorem OwnR.lower (h : OwnR row k w lo e A n c l) (hl : lo' ≤ lo) : OwnR row k w lo' e A n c l := ⟨h.1.lower hl, h.2⟩
theorem OwnR.alloc (h : OwnR row k w lo e A n c l) (o : Obj) : OwnR row k (w.alloc o) lo e A n c l := ⟨h.1.alloc o, h.2⟩
theorem OwnR.app {a : α} (h : OwnR row k w lo e A n c l) {A1 : Option Addr} {c1 n1 : Nat} (hn : n1 = n + 1) (h1 : Appended w lo e k A A1 n1 c1 (l.flatMap row ++ row a) w') : OwnR row k w' lo e A1 n1 c1 (l ++ [a]) := by
  subst hn
  refine ⟨?_, by simp [h.2]⟩
  rw [List.flatMap_append]
  simpa using h1.1
theorem OwnR.set1 {g i j p : Nat} {a a' : α} {u : Value} (hrow : ∀ a, (row a).length = k) (h : OwnR row k w lo e (some ⟨g, 0, none⟩) n c l) (hi : l[i]? = some a) (hj : j < k) (hr : row a' = (row a).set j u) (hp : p = i * k + j) : OwnR row k (w.setCell ⟨g, p, none⟩ u) lo e (some ⟨g, 0, none⟩) n c (l.set i a') := by
  subst hp
  refine ⟨?_, by simp [h.2]⟩
  rw [← flat_set1' hrow hi hj hr]
  exact h.1.stored _ u
end
end
end Go.Proofs.YtoddgaocochdgaaGreatDoor
/- A region that draws its order and stores at its end: loads are taken first while the first store (number b) has not come up. Over any program. Conditions: none. -/
namespace Go.Proofs.YtoddgaocochdgaaGreatDoor
section
section
open Go.RowKit

theorem set_take_drop {xs : List Value} {p : Nat} (hp : p < xs.length) (v : Value) (r : List Value) : (xs.set p v).take (p + 1) ++ r ++ (xs.set p v).drop (p + 1 + r.length) = xs.take p ++ (v :: r) ++ xs.drop (p + (v :: r).length) := by
  have h : (xs.set p v)[p]? = some v := by simp [hp]
  have e1 : (xs.set p v).take (p + 1) = xs.take p ++ [v] := by
    rw [take_snoc' h, List.take_set, List.set_eq_of_length_le (by rw [List.length_take]; omega)]
  have e2 : (xs.set p v).drop (p + 1 + r.length) = xs.drop (p + 1 + r.length) := List.drop_set_of_lt (by omega)
  rw [e1, e2, List.length_cons, show p + (r.length + 1) = p + 1 + r.length by omega]
  simp
section
variable {P : Program} {lo size n c g : Nat} {e : TypeId}
theorem run_storeCells_own : ∀ (vs : List Value) (s j : Nat) (w : World) (xs : List Value), Own w lo e size (some ⟨g, 0, none⟩) n c xs → (∀ v ∈ vs, v.oneCell' = true) → s + j + vs.length ≤ n * size →
    ∃ w', (storeCells ⟨g, s, none⟩ vs j).run P w = .ok () w' ∧ Own w' lo e size (some ⟨g, 0, none⟩) n c (xs.take (s + j) ++ vs ++ xs.drop (s + j + vs.length)) ∧ w.grownBy w' (some g)
  | [], s, j, w, xs, h, _, _ => ⟨w, rfl, by simpa using h, gr_refl _ _⟩
  | v :: rest, s, j, w, xs, h, h1, hl => by
    have hlen := h.len
    have hp : s + j < n * size := by simp at hl; omega
    have hcell := h.cell hp
    rw [List.getElem?_eq_getElem (by omega)] at hcell
    have hfro := h.frozen (s + j)
    have hst : (store ((⟨g, s, none⟩ : Addr).add j) v).run P w = .ok () (w.setCell ⟨g, s + j, none⟩ v) := by
      rw [add_mk, run_store P w _ v _ (h1 v (by simp)), hcell]
      simp [hfro]
    have h2 := h.stored (s + j) v
    obtain ⟨w', hrun, h3, hg⟩ := run_storeCells_own rest s (j + 1) (w.setCell ⟨g, s + j, none⟩ v) _ h2 (fun x hx => h1 x (by simp [hx])) (by simp at hl; omega)
    refine ⟨w', ?_, ?_, gr_same (gr_setCell (gr_refl w (some g)) (.inl rfl) v) hg⟩
    · simp only [storeCells, Sem.run_bind, hst, Result.andThen_ok, hrun]
    · rw [← Nat.add_assoc, set_take_drop (by omega)] at h3
      exact h3
variable {w : World} {o : Oper} {a : Act} {K : Act → World → Prop} {Q : Exit → Act → World → Prop} {α : Type} {row : α → List Value} {k : Nat} {l : List α}
theorem wp_store_rec {ty : TypeId} (T : StructT P ty k) (hrow : ∀ a, (row a).length = k) (hk : 0 < k) (x y : Operand) (ho : o.op = .store ty x y) (i p : Nat) (hp : p = i * k) (hx : a.eval x = .pointer (some ⟨g, p, none⟩)) (z : α) (hy : a.eval y = .agg (row z).toArray)
    (h : OwnR row k w lo e (some ⟨g, 0, none⟩) n c l) (hi : i < n) (h1 : ∀ u ∈ row z, u.oneCell' = true)
    (hK : ∀ w', OwnR row k w' lo e (some ⟨g, 0, none⟩) n c (l.set i z) → w.grownBy w' (some g) → K (a.put o.dst undef) w') : o.wp P a w K Q := by
  subst hp
  obtain ⟨d, hd1, hd2, hd3⟩ := T
  have hle : i * k + k ≤ n * k := by have := Nat.mul_le_mul_right k (show i + 1 ≤ n by omega); rw [Nat.succ_mul] at this; exact this
  obtain ⟨w', hrun, h2, hg⟩ := run_storeCells_own (P := P) (row z) (i * k) 0 w _ h.1 h1 (by rw [hrow]; omega)
  obtain ⟨b, hb⟩ : ∃ b, l[i]? = some b := ⟨_, List.getElem?_eq_getElem (by rw [h.2]; exact hi)⟩
  have hf := flat_set hrow hk hb (a' := z) (ys := row z) 0 (by rw [hrow]; omega) (by rw [List.take_zero, List.nil_append, List.drop_of_length_le (by rw [hrow, hrow]; omega), List.append_nil])
  rw [hf] at h2
  cases hq : P.info? ty with
  | none => simp [hq] at hd3
  | some inf =>
    have hs : inf.size = k := by simpa [hq] using hd3
    unfold Oper.wp execOp
    have hst : (Instr.storeAt ty (.pointer (some ⟨g, i * k, none⟩)) (.agg (row z).toArray)).run P w = .ok () w' := by
      simp [Instr.storeAt, Instr.sureAddr, storeVar, sizeOf, typeInfo, hq, hs, Value.cells, hrow, hrun]
    simp only [ho, hx, hy, Sem.run_bind, Sem.run_pure, Result.andThen_ok, hst]
    exact hK w' ⟨h2, by rw [List.length_set]; exact h.2⟩ hg
end
end
section
variable {P : Program} {ops : Array Oper} {Q : Exit → Act → World → Prop} {md : Region.Mode} {S : World → Prop} {b : Nat}

/-- Whatever order is picked from here on; S holds behind every operation till number b has come up. -/
def wpAnyB (P : Program) (md : Region.Mode) (ops : Array Oper) (Q : Exit → Act → World → Prop) (S : World → Prop) (b : Nat) : Nat → Array Bool → Act → World → Prop
  | 0, listed, a, w => Region.ready md ops listed = [] ∧ Q .normal a w
  | fuel + 1, listed, a, w =>
    (Region.ready md ops listed = [] → Q .normal a w) ∧
    ∀ i ∈ Region.ready md ops listed, wpOp P ops Q i (fun a' w' => ((listed.setIfInBounds i true).getD b false = true ∨ S w') ∧ wpAnyB P md ops Q S b fuel (listed.setIfInBounds i true) a' w') a w
theorem wpAny_of_B : ∀ (fuel : Nat) (listed : Array Bool) (a : Act) (w : World), wpAnyB P md ops Q S b fuel listed a w → wpAny P md ops Q fuel listed a w
  | 0, _, _, _, h => h
  | fuel + 1, _, _, _, h => ⟨h.1, fun i hi => wpOp_mono (fun a' w' h' => wpAny_of_B fuel _ a' w' h'.2) (h.2 i hi)⟩
theorem wp_region_B {id : Nat} {a : Act} {w : World} (S : World → Prop) (b : Nat) (hm : P.follows .mixedOrders = true)
    (h : wpAnyB P .any ops Q S b ops.size (Array.replicate ops.size false) a w.drew) : (Code.region id ops true).wp P Q a w :=
  wp_region_any hm (wpAny_of_B (S := S) (b := b) _ _ _ _ h)
/-- Number b waits for number i, over at most f others. -/
def waitsT (md : Region.Mode) (ops : Array Oper) : Nat → Nat → Nat → Bool
  | 0, b, i => Region.waitsFor md ops b i
  | f + 1, b, i => Region.waitsFor md ops b i || (List.range ops.size).any fun j => Region.waitsFor md ops b j && waitsT md ops f j i
theorem waitsT_spec {listed : Array Bool} (inv : HeadInv md ops ops.size listed) : ∀ (f b i : Nat), waitsT md ops f b i = true → listed.getD b false = true → listed.getD i false = true := by
  have one : ∀ b i, Region.waitsFor md ops b i = true → listed.getD b false = true → listed.getD i false = true := fun b i h hl => by
    obtain ⟨ob, hob, e, he, hb, hon⟩ := Region.waitsFor_spec h
    have := inv.closed b ob hob hl e he hb
    rwa [hon] at this
  intro f
  induction f with
  | zero => exact one
  | succ f ih =>
    intro b i h hl
    unfold waitsT at h
    rw [Bool.or_eq_true] at h
    rcases h with h | h
    · exact one b i h hl
    · obtain ⟨j, _, hj⟩ := List.any_eq_true.1 h
      rw [Bool.and_eq_true] at hj
      exact ih j i hj.2 (one b j hj.1 hl)
/-- S where the operation looks at memory, else nothing. -/
def memS0 (S : World → Prop) : Bool → World → Prop
  | true => S
  | false => fun _ => True
theorem wpAnyB_first {i : Nat} {oi : Oper} {v : Value} (mem : Bool) (hi : ops[i]? = some oi) (hsel : ∀ (j : Nat) (o : Oper) cs b, ops[j]? = some o → o.op ≠ .select cs b)
    (hQ : ∀ c a w, Q (.panic c) (a.put oi.dst v) w → Q (.panic c) a w) (hib : i ≠ b) (hwait : mem = true → waitsT md ops 4 b i = true) :
    ∀ (fuel : Nat) (listed : Array Bool) (a : Act) (w : World), HeadInv md ops ops.size listed →
      (∀ j oj, ops[j]? = some oj → j ≠ i → listed.getD j true = false → (∀ e ∈ oj.after, Region.binds md e = true → e.on ≠ i) → oi.apart ops oj = true) →
      i ∈ Region.ready md ops listed → YieldsIf P ops (memS0 S mem) oi v a → (listed.getD b false = true ∨ S w) →
      wpAnyB P md ops Q S b fuel (listed.setIfInBounds i true) (a.put oi.dst v) w → wpAnyB P md ops Q S b (fuel + 1) listed a w := by
  have hm : ∀ (listed : Array Bool) (w : World), HeadInv md ops ops.size listed → listed.getD i true = false → (listed.getD b false = true ∨ S w) → memS0 S mem w := by
    intro listed w inv hun hS
    cases mem with
    | false => trivial
    | true =>
      rcases hS with h | h
      · have := waitsT_spec inv 4 b i (hwait rfl) h
        rw [getD_both hun] at this
        cases this
      · exact h
  intro fuel
  induction fuel with
  | zero =>
    intro listed a w inv _ hr hy hS H
    have hun := (mem_ready.1 hr).1
    refine ⟨fun h => (by rw [h] at hr; cases hr), fun j hj => ?_⟩
    by_cases hji : j = i
    · subst hji; exact hy.wpOp hi (hm _ _ inv hun hS) ⟨by rw [getD_set_ne false hib]; exact hS, H⟩
    · have := ready_mono hj hji
      rw [H.1] at this
      cases this
  | succ fuel ih =>
    intro listed a w inv hfree hr hy hS H
    have hun := (mem_ready.1 hr).1
    refine ⟨fun h => (by rw [h] at hr; cases hr), fun j hj => ?_⟩
    by_cases hji : j = i
    · subst hji; exact hy.wpOp hi (hm _ _ inv hun hS) ⟨by rw [getD_set_ne false hib]; exact hS, H⟩
    · have h1 := H.2 j (ready_mono hj hji)
      obtain ⟨hjun, oj, hoj, hall⟩ := mem_ready.1 hj
      have hjn : j < ops.size := (Array.getElem?_eq_some_iff.1 hoj).1
      have hnot : ∀ e ∈ oj.after, Region.binds md e = true → e.on ≠ i := fun e he hb heq => by
        have h1 := hall e he hb
        rw [heq, getD_both hun] at h1
        cases h1
      have h2 := wpOp_putIf hoj (hfree j oj hoj hji hjun hnot) (fun cs b => hsel i oi cs b hi) (fun cs b => hsel j oj cs b hoj) hQ hy h1
      have hfree' : ∀ k ok, ops[k]? = some ok → k ≠ i → (listed.setIfInBounds j true).getD k true = false →
          (∀ e ∈ ok.after, Region.binds md e = true → e.on ≠ i) → oi.apart ops ok = true := fun k ok hk hki hkun hno => by
        refine hfree k ok hk hki ?_ hno
        by_cases hjk : j = k
        · subst hjk; exact hjun
        · rw [getD_set_ne true hjk] at hkun; exact hkun
      refine wpOp_mono (fun a' w' h3 => ?_) h2
      have hS' : (listed.setIfInBounds j true).getD b false = true ∨ S w' := by
        rcases h3.2.1 with h | h
        · left
          rw [Array.setIfInBounds_comm _ _ (Ne.symm hji), getD_set_ne false hib] at h
          exact h
        · exact .inr h
      refine ⟨hS', ih (listed.setIfInBounds j true) a' w' (inv.set hj hjn) hfree' (ready_mono hr (Ne.symm hji)) h3.1 hS' ?_⟩
      rw [Array.setIfInBounds_comm _ _ hji]
      exact h3.2.2
/-- What has come up is closed. -/
def closedB (md : Region.Mode) (ops : Array Oper) (listed : Array Bool) : Bool :=
  decide (listed.size = ops.size) && (List.range ops.size).all fun j => !listed.getD j false || (match ops[j]? with | some o => o.after.all fun e => !Region.binds md e || listed.getD e.on false | none => true)
theorem closedB_spec {listed : Array Bool} (h : closedB md ops listed = true) : HeadInv md ops ops.size listed := by
  unfold closedB at h
  simp only [Bool.and_eq_true, decide_eq_true_eq] at h
  obtain ⟨h1, h4⟩ := h
  refine ⟨h1, fun j oj hj hl e he hb => ?_, fun t ht ht2 => by omega⟩
  have hj2 := (Array.getElem?_eq_some_iff.1 hj).1
  have := List.all_eq_true.1 h4 j (List.mem_range.2 hj2)
  rw [hl, hj] at this
  simp only [Bool.not_true, Bool.false_or] at this
  have := Array.all_eq_true_iff_forall_mem.1 this e he
  rw [hb] at this
  simpa using this
def btakeB (md : Region.Mode) (ops : Array Oper) (b : Nat) (mem : Bool) (listed : Array Bool) (k : Nat) : Bool :=
  Region.noSelect ops && decide (k ≠ b) && (!mem || waitsT md ops 4 b k) && closedB md ops listed && (Region.ready md ops listed).contains k && Region.free md ops listed k
variable {ls : List Oper}
/-- One that reckons (mem = false) or loads (mem = true). -/
theorem B_take {fuel k : Nat} {listed : Array Bool} {o : Oper} {a : Act} {w : World} (mem : Bool) (v : Value) (ho : opAt ls k = some o) (hB : btakeB md ls.toArray b mem listed k = true)
    (hQ : ∀ c a w, Q (.panic c) (a.put o.dst v) w → Q (.panic c) a w) (hw : Region.wanted o (yielded ls.toArray a.tmps) = true) (hy : ∀ w, memS0 S mem w → (execOp a.eval o).run P w = .ok (.value v) w) (hS : listed.getD b false = true ∨ S w)
    (h : wpAnyB P md ls.toArray Q S b fuel (listed.setIfInBounds k true) (a.put o.dst v) w) : wpAnyB P md ls.toArray Q S b (fuel + 1) listed a w := by
  unfold btakeB at hB
  simp only [Bool.and_eq_true, decide_eq_true_eq, Bool.or_eq_true, Bool.not_eq_true'] at hB
  obtain ⟨⟨⟨⟨⟨h1, h2⟩, h3⟩, h4⟩, h5⟩, h6⟩ := hB
  rw [opAt_eq] at ho
  exact wpAnyB_first mem ho (Region.noSelect_spec h1) hQ h2 (fun e => h3.resolve_left (by rw [e]; decide)) fuel listed a w (closedB_spec h4) (Region.free_spec ho h6) (by simpa using h5) (.inl ⟨hw, hy⟩) hS h
/-- One whose guard keeps it from running. -/
theorem B_skip {fuel k : Nat} {listed : Array Bool} {o : Oper} {a : Act} {w : World} (ho : opAt ls k = some o) (hB : btakeB md ls.toArray b false listed k = true)
    (hQ : ∀ c a w, Q (.panic c) (a.put o.dst undef) w → Q (.panic c) a w) (hw : Region.wanted o (yielded ls.toArray a.tmps) = false) (hS : listed.getD b false = true ∨ S w)
    (h : wpAnyB P md ls.toArray Q S b fuel (listed.setIfInBounds k true) (a.put o.dst undef) w) : wpAnyB P md ls.toArray Q S b (fuel + 1) listed a w := by
  unfold btakeB at hB
  simp only [Bool.and_eq_true, decide_eq_true_eq, Bool.or_eq_true, Bool.not_eq_true'] at hB
  obtain ⟨⟨⟨⟨⟨h1, h2⟩, h3⟩, h4⟩, h5⟩, h6⟩ := hB
  rw [opAt_eq] at ho
  exact wpAnyB_first false ho (Region.noSelect_spec h1) hQ h2 (fun e => by cases e) fuel listed a w (closedB_spec h4) (Region.free_spec ho h6) (by simpa using h5) (.inr ⟨hw, rfl⟩) hS h
/-- One that comes up alone. -/
theorem B_run {fuel k : Nat} {listed : Array Bool} {o : Oper} {a : Act} {w : World} (ho : opAt ls k = some o) (hr : Region.ready md ls.toArray listed = [k]) (hw : Region.wanted o (yielded ls.toArray a.tmps) = true)
    (h : ∀ K : Act → World → Prop, (∀ a' w', ((listed.setIfInBounds k true).getD b false = true ∨ S w') → wpAnyB P md ls.toArray Q S b fuel (listed.setIfInBounds k true) a' w' → K a' w') → o.wp P a w K Q) : wpAnyB P md ls.toArray Q S b (fuel + 1) listed a w := by
  refine ⟨fun h1 => (by rw [hr] at h1; cases h1), fun i hi => ?_⟩
  rw [hr] at hi
  have hik : i = k := by simpa using hi
  subst hik
  rw [opAt_eq] at ho
  unfold wpOp
  simp only [ho, hw, if_true]
  exact .inl (h _ fun a' w' h1 h2 => ⟨h1, h2⟩)
theorem B_done {listed : Array Bool} {a : Act} {w : World} (hr : Region.ready md ops listed = []) (h : Q .normal a w) : wpAnyB P md ops Q S b 0 listed a w := ⟨hr, h⟩
end
end
end Go.Proofs.YtoddgaocochdgaaGreatDoor
/- A place of an own slice of one-cell elements is stored; the places behind one are cleared. Over any program. Conditions: none. -/
namespace Go.Proofs.YtoddgaocochdgaaGreatDoor
section
open Go.RowKit

section
variable {P : Program} {lo n c g : Nat} {e : TypeId} {w : World} {o : Oper} {a : Act} {K : Act → World → Prop} {Q : Exit → Act → World → Prop} {α : Type} {row : α → List Value} {l : List α}
theorem flat_one (hrow : ∀ a, (row a).length = 1) {i : Nat} (hi : i < l.length) {z : α} {v : Value} (hz : row z = [v]) : (l.flatMap row).take i ++ [v] ++ (l.flatMap row).drop (i + 1) = (l.set i z).flatMap row := by
  have h := flat_set hrow (by decide) (List.getElem?_eq_getElem hi) (a' := z) (ys := [v]) 0 (by simp) (by rw [hz, List.take_zero, List.nil_append, List.drop_of_length_le (by rw [hrow]; simp), List.append_nil])
  simpa [Nat.mul_one] using h
theorem wp_store_one {ty : TypeId} (hsz : (P.info? ty).map (·.size) = some 1) (hrow : ∀ a, (row a).length = 1) (x y : Operand) (ho : o.op = .store ty x y) (i : Nat) (hx : a.eval x = .pointer (some ⟨g, i, none⟩)) (z : α) (v : Value) (hy : a.eval y = v) (hv : v.cells = #[v]) (hz : row z = [v])
    (h : OwnR row 1 w lo e (some ⟨g, 0, none⟩) n c l) (hi : i < n) (h1 : v.oneCell' = true)
    (hK : ∀ w', OwnR row 1 w' lo e (some ⟨g, 0, none⟩) n c (l.set i z) → w.grownBy w' (some g) → K (a.put o.dst undef) w') : o.wp P a w K Q := by
  obtain ⟨w', hrun, h2, hg⟩ := run_storeCells_own (P := P) [v] i 0 w _ h.1 (by intro u hu; rw [List.mem_singleton.1 hu]; exact h1) (by simp; omega)
  have hf := flat_one hrow (l := l) (by rw [h.2]; exact hi) hz
  have h3 : Own w' lo e 1 (some ⟨g, 0, none⟩) n c ((l.set i z).flatMap row) := by rw [← hf]; simpa using h2
  cases hq : P.info? ty with
  | none => simp [hq] at hsz
  | some inf =>
    have hs : inf.size = 1 := by simpa [hq] using hsz
    unfold Oper.wp execOp
    have hst : (Instr.storeAt ty (.pointer (some ⟨g, i, none⟩)) v).run P w = .ok () w' := by
      simp [Instr.storeAt, Instr.sureAddr, storeVar, sizeOf, typeInfo, hq, hs, hv, hrun]
    simp only [ho, hx, hy, Sem.run_bind, Sem.run_pure, Result.andThen_ok, hst]
    exact hK w' ⟨h3, by rw [List.length_set]; exact h.2⟩ hg
theorem wpl_store_one {ops : Array Oper} {rest : List Oper} {ty : TypeId} (hgd : o.guard = none) (hsz : (P.info? ty).map (·.size) = some 1) (hrow : ∀ a, (row a).length = 1) (x y : Operand) (ho : o.op = .store ty x y) (i : Nat) (hx : a.eval x = .pointer (some ⟨g, i, none⟩)) (z : α) (v : Value) (hy : a.eval y = v) (hv : v.cells = #[v]) (hz : row z = [v])
    (h : OwnR row 1 w lo e (some ⟨g, 0, none⟩) n c l) (hi : i < n) (h1 : v.oneCell' = true)
    (hK : ∀ w', OwnR row 1 w' lo e (some ⟨g, 0, none⟩) n c (l.set i z) → w.grownBy w' (some g) → wpList P ops Q rest (a.put o.dst undef) w') : wpList P ops Q (o :: rest) a w :=
  wpList_plain hgd fun _ hk => wp_store_one hsz hrow x y ho i hx z v hy hv hz h hi h1 fun w' h2 hg => hk _ _ (hK w' h2 hg)
theorem wp_store_cell {ty : TypeId} (hsz : (P.info? ty).map (·.size) = some 1) (x y : Operand) (ho : o.op = .store ty x y) (b i : Nat) (hx : a.eval x = .pointer (some ⟨b, i, none⟩)) (v : Value) (hy : a.eval y = v) (hv : v.cells = #[v]) (h1 : v.oneCell' = true)
    (u : Value) (hc : w.cell? ⟨b, i, none⟩ = some u) (hf : w.frozen? ⟨b, i, none⟩ = false) (hK : K (a.put o.dst undef) (w.setCell ⟨b, i, none⟩ v)) : o.wp P a w K Q := by
  cases hq : P.info? ty with
  | none => simp [hq] at hsz
  | some inf =>
    have hs : inf.size = 1 := by simpa [hq] using hsz
    have hrun : (storeCells ⟨b, i, none⟩ [v] 0).run P w = .ok () (w.setCell ⟨b, i, none⟩ v) := by
      have hst : (store ((⟨b, i, none⟩ : Addr).add 0) v).run P w = .ok () (w.setCell ⟨b, i, none⟩ v) := by
        rw [add_mk, Nat.add_zero, run_store P w _ v _ h1, hc]
        simp [hf]
      simp only [storeCells, Sem.run_bind, hst, Result.andThen_ok]
      rfl
    unfold Oper.wp execOp
    have hst : (Instr.storeAt ty (.pointer (some ⟨b, i, none⟩)) v).run P w = .ok () (w.setCell ⟨b, i, none⟩ v) := by
      simp [Instr.storeAt, Instr.sureAddr, storeVar, sizeOf, typeInfo, hq, hs, hv, hrun]
    simp only [ho, hx, hy, Sem.run_bind, Sem.run_pure, Result.andThen_ok, hst]
    exact hK
/-- The places from i on are cleared. -/
theorem run_clear_own {t ty : TypeId} {z : Value} (ht : P.underlying t = some (.slice e)) (hv : ∀ w, (zeroValue e).run P w = .ok z w) (hz : z.cells = #[z]) (h1 : z.oneCell' = true) {xs : List Value} (h : Own w lo e 1 (some ⟨g, 0, none⟩) n c xs) (i : Nat) (hi : i ≤ n) (A : Option Addr) (hA : i < n → A = some ⟨g, i, none⟩) (m cc : Nat) (hm : m = n - i) :
    ∃ w', (Builtin.clear_ #[t] ty #[.slice A m cc]).run P w = .ok (.tuple #[]) w' ∧ Own w' lo e 1 (some ⟨g, 0, none⟩) n c (xs.take i ++ List.replicate m z) ∧ w.grownBy w' (some g) := by
  subst hm
  by_cases hlt : i < n
  · rw [hA hlt]
    have hzc : (Builtin.zeroCells z.cells (n - i)).toList = List.replicate (n - i) z := by rw [hz, zeroCells_one]; simp
    obtain ⟨w', hrun, h2, hg⟩ := run_storeCells_own (P := P) (List.replicate (n - i) z) i 0 w xs h (fun v hv' => by rw [List.eq_of_mem_replicate hv']; exact h1) (by simp; omega)
    refine ⟨w', ?_, ?_, hg⟩
    · obtain ⟨k, hk⟩ : ∃ k, n - i = k + 1 := ⟨n - i - 1, by omega⟩
      rw [hk] at hzc hrun ⊢
      simp [Builtin.clear_, run_underlying ht, hv, hzc, hrun]
    · have hl := h.len
      rw [List.drop_of_length_le (by simp; omega), List.append_nil] at h2
      simpa using h2
  · have h0 : n - i = 0 := by omega
    rw [h0]
    refine ⟨w, ?_, ?_, gr_refl _ _⟩
    · cases A <;> simp [Builtin.clear_, run_underlying ht]
    · have hl := h.len
      rw [List.take_of_length_le (by omega)]; simpa using h
end
end
end Go.Proofs.YtoddgaocochdgaaGreatDoor
/- The builtin clear at a slice of records: the places from one on are cleared. Conditions: none. -/
namespace Go.Proofs.YtoddgaocochdgaaGreatDoor
section
open Go.RowKit
variable {P : Program}

theorem zero_mem {zs : Array Value} (h1 : ∀ v ∈ zs.toList, v.oneCell' = true) (hk : 0 < zs.size) (n : Nat) : ∀ v ∈ (Builtin.zeroCells zs n).toList, v.oneCell' = true := by
  intro v hv
  unfold Builtin.zeroCells at hv
  rw [Array.toList_map] at hv
  obtain ⟨i, _, rfl⟩ := List.mem_map.1 hv
  have hlt : i % zs.size < zs.size := Nat.mod_lt _ hk
  rw [getElem!_pos zs (i % zs.size) hlt]
  exact h1 _ (Array.getElem_mem_toList hlt)
theorem run_clear_rows {w : World} {lo n c g k : Nat} {e t : TypeId} {z : Value} (ht : P.underlying t = some (.slice e)) (hv : ∀ w, (zeroValue e).run P w = .ok z w) (hz : z.cells.size = k) (hk : 0 < k) (h1 : ∀ v ∈ z.cells.toList, v.oneCell' = true) {xs : List Value} (h : Own w lo e k (some ⟨g, 0, none⟩) n c xs) (i p : Nat) (hp : p = i * k) (hi : i < n) (m cc : Nat) (hm : m = n - i) :
    ∃ w', (∀ ty, (Builtin.clear_ #[t] ty #[.slice (some ⟨g, p, none⟩) m cc]).run P w = .ok (.tuple #[]) w') ∧ Own w' lo e k (some ⟨g, 0, none⟩) i c (xs.take (i * k)) ∧ w.grownBy w' (some g) := by
  subst hm hp
  have hl := h.len
  have hle : i * k + (n - i) * k = n * k := by rw [← Nat.add_mul]; congr 1; omega
  have hzl : (Builtin.zeroCells z.cells (n - i)).toList.length = (n - i) * k := by
    unfold Builtin.zeroCells
    simp [hz]
  obtain ⟨w', hrun, h2, hg⟩ := run_storeCells_own (P := P) (Builtin.zeroCells z.cells (n - i)).toList (i * k) 0 w xs h (zero_mem h1 (by omega) _) (by rw [hzl]; omega)
  refine ⟨w', fun ty => ?_, ?_, hg⟩
  · obtain ⟨q, hq⟩ : ∃ q, n - i = q + 1 := ⟨n - i - 1, by omega⟩
    rw [hq] at hrun ⊢
    simp [Builtin.clear_, run_underlying ht, hv, hrun]
  · have h3 := h2.prefix_ i (by omega)
    have e1 : i * k ≤ xs.length := by rw [hl, ← hle]; omega
    rw [Nat.add_zero, List.append_assoc, List.take_append_of_le_length (by rw [List.length_take]; omega), List.take_take, Nat.min_self] at h3
    exact h3
section
variable {lo n c g k : Nat} {e : TypeId} {w : World} {o : Oper} {a : Act} {Q : Exit → Act → World → Prop} {α : Type} {row : α → List Value} {l : List α}
theorem wpl_store_rec {ops : Array Oper} {rest : List Oper} {ty : TypeId} (hgd : o.guard = none) (T : StructT P ty k) (hrow : ∀ a, (row a).length = k) (hk : 0 < k) (x y : Operand) (ho : o.op = .store ty x y) (i p : Nat) (hp : p = i * k) (hx : a.eval x = .pointer (some ⟨g, p, none⟩)) (z : α) (hy : a.eval y = .agg (row z).toArray)
    (h : OwnR row k w lo e (some ⟨g, 0, none⟩) n c l) (hi : i < n) (h1 : ∀ u ∈ row z, u.oneCell' = true)
    (hK : ∀ w', OwnR row k w' lo e (some ⟨g, 0, none⟩) n c (l.set i z) → w.grownBy w' (some g) → wpList P ops Q rest (a.put o.dst undef) w') : wpList P ops Q (o :: rest) a w :=
  wpList_plain hgd fun _ hk' => wp_store_rec T hrow hk x y ho i p hp hx z hy h hi h1 fun w' h2 hg => hk' _ _ (hK w' h2 hg)
end
end
end Go.Proofs.YtoddgaocochdgaaGreatDoor
/- Moves in drawn regions: two or three operations that come up in any order; whole loads. Conditions: none. -/
namespace Go.Proofs.YtoddgaocochdgaaGreatDoor
section
open Go.RowKit

theorem exec_ldr {P : Program} {w : World} {o : Oper} {ev : Operand → Value} {ty : TypeId} {n : Nat} (T : StructT P ty n) (x : Operand) (ho : o.op = .load ty x) (a : Addr) (hx : ev x = .pointer (some a)) (cs : List Value) (hb : ∀ (j : Nat) (u : Value), cs[j]? = some u → w.cell? (a.add j) = some u) (hn : cs.length = n) :
    (execOp ev o).run P w = .ok (.value (.agg cs.toArray)) w := by
  unfold execOp
  simp only [ho, hx, Instr.loadAt, Instr.sureAddr, Sem.run_bind, Sem.run_pure, Result.andThen_ok, run_load_at T hn hb]
theorem exec_ldb {P : Program} {w : World} {o : Oper} {ev : Operand → Value} {ty : TypeId} {n : Nat} (T : StructT P ty n) (x : Operand) (ho : o.op = .load ty x) (g : Nat) (hx : ev x = .pointer (some ⟨g, 0, none⟩)) (t : TypeId) (cs : List Value) (hb : Blk w g t cs.toArray) (hn : cs.length = n) :
    (execOp ev o).run P w = .ok (.value (.agg cs.toArray)) w := by
  unfold execOp
  simp only [ho, hx, Instr.loadAt, Instr.sureAddr, Sem.run_bind, Sem.run_pure, Result.andThen_ok, run_load_at T hn (fun j u hu => by rw [add_mk, Nat.zero_add, hb.cell]; simpa using hu)]
theorem H_runTwo {P : Program} {ls : List Oper} {md : Region.Mode} {Q : Exit → Act → World → Prop} {S : World → Prop} {fuel k1 k2 : Nat} {listed : Array Bool} {o1 o2 : Oper} {a : Act} {w : World} (ho1 : opAt ls k1 = some o1) (ho2 : opAt ls k2 = some o2) (hr : Region.ready md ls.toArray listed = [k1, k2]) (hw1 : Region.wanted o1 (yielded ls.toArray a.tmps) = true) (hw2 : Region.wanted o2 (yielded ls.toArray a.tmps) = true)
    (h1 : ∀ K : Act → World → Prop, (∀ a' w', S w' → wpAnyH P md ls.toArray Q S fuel (listed.setIfInBounds k1 true) a' w' → K a' w') → o1.wp P a w K Q)
    (h2 : ∀ K : Act → World → Prop, (∀ a' w', S w' → wpAnyH P md ls.toArray Q S fuel (listed.setIfInBounds k2 true) a' w' → K a' w') → o2.wp P a w K Q) : wpAnyH P md ls.toArray Q S (fuel + 1) listed a w := by
  refine ⟨fun h => (by rw [hr] at h; cases h), fun i hi => ?_⟩
  rw [hr] at hi
  have hik : i = k1 ∨ i = k2 := by simpa using hi
  rcases hik with rfl | rfl
  · rw [opAt_eq] at ho1
    unfold wpOp
    simp only [ho1, hw1, if_true]
    exact .inl (h1 _ fun a' w' hs h => ⟨hs, h⟩)
  · rw [opAt_eq] at ho2
    unfold wpOp
    simp only [ho2, hw2, if_true]
    exact .inl (h2 _ fun a' w' hs h => ⟨hs, h⟩)
theorem H_runThree {P : Program} {ls : List Oper} {md : Region.Mode} {Q : Exit → Act → World → Prop} {S : World → Prop} {fuel k1 k2 k3 : Nat} {listed : Array Bool} {o1 o2 o3 : Oper} {a : Act} {w : World} (ho1 : opAt ls k1 = some o1) (ho2 : opAt ls k2 = some o2) (ho3 : opAt ls k3 = some o3) (hr : Region.ready md ls.toArray listed = [k1, k2, k3])
    (hw1 : Region.wanted o1 (yielded ls.toArray a.tmps) = true) (hw2 : Region.wanted o2 (yielded ls.toArray a.tmps) = true) (hw3 : Region.wanted o3 (yielded ls.toArray a.tmps) = true)
    (h1 : ∀ K : Act → World → Prop, (∀ a' w', S w' → wpAnyH P md ls.toArray Q S fuel (listed.setIfInBounds k1 true) a' w' → K a' w') → o1.wp P a w K Q)
    (h2 : ∀ K : Act → World → Prop, (∀ a' w', S w' → wpAnyH P md ls.toArray Q S fuel (listed.setIfInBounds k2 true) a' w' → K a' w') → o2.wp P a w K Q)
    (h3 : ∀ K : Act → World → Prop, (∀ a' w', S w' → wpAnyH P md ls.toArray Q S fuel (listed.setIfInBounds k3 true) a' w' → K a' w') → o3.wp P a w K Q) : wpAnyH P md ls.toArray Q S (fuel + 1) listed a w := by
  refine ⟨fun h => (by rw [hr] at h; cases h), fun i hi => ?_⟩
  rw [hr] at hi
  have hik : i = k1 ∨ i = k2 ∨ i = k3 := by simpa using hi
  rcases hik with rfl | rfl | rfl
  · rw [opAt_eq] at ho1
    unfold wpOp
    simp only [ho1, hw1, if_true]
    exact .inl (h1 _ fun a' w' hs h => ⟨hs, h⟩)
  · rw [opAt_eq] at ho2
    unfold wpOp
    simp only [ho2, hw2, if_true]
    exact .inl (h2 _ fun a' w' hs h => ⟨hs, h⟩)
  · rw [opAt_eq] at ho3
    unfold wpOp
    simp only [ho3, hw3, if_true]
    exact .inl (h3 _ fun a' w' hs h => ⟨hs, h⟩)
section
variable {P : Program} {ls : List Oper} {md : Region.Mode} {Q : Exit → Act → World → Prop} {S : World → Prop} {b : Nat}
/-- Two that can come up, either first. -/
theorem B_runTwo {fuel k1 k2 : Nat} {listed : Array Bool} {o1 o2 : Oper} {a : Act} {w : World} (ho1 : opAt ls k1 = some o1) (ho2 : opAt ls k2 = some o2) (hr : Region.ready md ls.toArray listed = [k1, k2]) (hw1 : Region.wanted o1 (yielded ls.toArray a.tmps) = true) (hw2 : Region.wanted o2 (yielded ls.toArray a.tmps) = true)
    (h1 : ∀ K : Act → World → Prop, (∀ a' w', ((listed.setIfInBounds k1 true).getD b false = true ∨ S w') → wpAnyB P md ls.toArray Q S b fuel (listed.setIfInBounds k1 true) a' w' → K a' w') → o1.wp P a w K Q)
    (h2 : ∀ K : Act → World → Prop, (∀ a' w', ((listed.setIfInBounds k2 true).getD b false = true ∨ S w') → wpAnyB P md ls.toArray Q S b fuel (listed.setIfInBounds k2 true) a' w' → K a' w') → o2.wp P a w K Q) : wpAnyB P md ls.toArray Q S b (fuel + 1) listed a w := by
  refine ⟨fun h => (by rw [hr] at h; cases h), fun i hi => ?_⟩
  rw [hr] at hi
  have hik : i = k1 ∨ i = k2 := by simpa using hi
  rcases hik with rfl | rfl
  · rw [opAt_eq] at ho1
    unfold wpOp
    simp only [ho1, hw1, if_true]
    exact .inl (h1 _ fun a' w' hs h => ⟨hs, h⟩)
  · rw [opAt_eq] at ho2
    unfold wpOp
    simp only [ho2, hw2, if_true]
    exact .inl (h2 _ fun a' w' hs h => ⟨hs, h⟩)
end
end
end Go.Proofs.YtoddgaocochdgaaGreatDoor
/- Contract of slices.Equal at codecs that read as the same list. Conditions: none. -/
namespace Go.Proofs.YtoddgaocochdgaaGreatDoor
section
open Go.RowKit
set_option maxHeartbeats 4000000 in
theorem equalCd_same (lo lo' : Nat) (A A' : Option Addr) (n c n' c' : Nat) (l : List CdV) (w : World) (h1 : Recs CdV.row 3 w lo A n c l) (h2 : Recs CdV.row 3 w lo' A' n' c' l) (hn2 : n ≤ 1000000000000) :
    Calls Tryz.prog 19 #[.slice A n c, .slice A' n' c'] w fun e w' => e = .returned (.bool true) ∧ ∃ k, w' = w.drewN k := by
  obtain rfl : n = n' := by rw [← h1.len, ← h2.len]
  have H1 := Lib.hid h1; have H2 := Lib.hid h2; clear h1 h2
  go_enter Tryz.func19, Tryz.ntmps19
  go_wp2_with fail
  go_loopw [5, 13] (fun _ t wr => ∃ i : Nat, i ≤ n ∧ t = .int .i64 i ∧ ∃ k, wr = w.drewN k) (fun _ t _ => n - (intOf t).toNat)
  case atStart => exact ⟨0, Nat.zero_le _, rfl, 0, rfl⟩
  case round =>
    obtain ⟨i, hi, rfl, k, rfl⟩ := hrel
    by_cases hlt : i < n
    · obtain ⟨g, o, z, rfl, _, _, hz, hc⟩ := H1.out.get CdV.row_len hlt
      obtain ⟨g', o', z', rfl, _, _, hz', hc2⟩ := H2.out.get CdV.row_len hlt
      rw [hz] at hz'
      injection hz' with hz'
      subst hz'
      have c0 := hc 0 _ rfl
      have d0 := hc2 0 _ rfl
      have c1 := hc 1 _ rfl
      have d1 := hc2 1 _ rfl
      have c2 := hc 2 _ rfl
      have d2 := hc2 2 _ rfl
      simp only [Nat.add_zero] at c0 d0
      clear hz hc hc2
      have hi0 : (0 : Int) ≤ (i : Int) := by omega
      have hi1 : (i : Int) < (n : Int) := by omega
      go_wp2_with fail
      go_quiet (fail)
      go_wp2_with fail
      go_roundw
      case rel => exact ⟨i + 1, by omega, by go_num, _, rfl⟩
      case measure => simp [intOf]; omega
    · obtain rfl : i = n := by omega
      go_wp2_with fail
      go_ret
      exact ⟨rfl, _, rfl⟩
end
end Go.Proofs.YtoddgaocochdgaaGreatDoor

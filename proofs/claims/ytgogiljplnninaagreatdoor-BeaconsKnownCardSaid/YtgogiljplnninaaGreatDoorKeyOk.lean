/- strings.Trim at the signs of keys, the document's 'only'; what a key is: number.IsKey and the document's Key; moments. Conditions: none. -/
import Derived.Test.YtgogiljplnninaaGreatDoorBun1
import Derived.Test.YtgogiljplnninaaGreatDoorShelfTrim
namespace Go.Proofs.YtgogiljplnninaaGreatDoor
open Go.RowKit

/-! The first place of a byte, or -1. -/
def ixS (l : List Nat) (c : Nat) : Int := if c ∈ l then ((l.takeWhile (· != c)).length : Int) else -1
theorem ixS_eq (l : List UInt8) (c : Nat) (hc : c < 256) : Lib.indexByte l c.toUInt8 = ixS (l.map UInt8.toNat) c := by
  induction l with
  | nil => simp [Lib.indexByte, ixS]
  | cons b l ih =>
    have hb : (b == c.toUInt8) = (b.toNat == c) := by
      rw [Bool.eq_iff_iff, beq_iff_eq, beq_iff_eq]
      constructor
      · rintro rfl; simp [Nat.mod_eq_of_lt hc]
      · rintro rfl; simp
    unfold Lib.indexByte
    rw [ih, hb]
    unfold ixS
    by_cases h : b.toNat = c
    · simp [h]
    · have h' : (b.toNat == c) = false := by simpa using h
      rw [h']
      have hm : (c ∈ (b :: l).map UInt8.toNat) ↔ c ∈ l.map UInt8.toNat := by simp [Ne.symm h]
      by_cases h2 : c ∈ l.map UInt8.toNat
      · rw [if_pos h2, if_pos (hm.2 h2)]
        have h3 : (b.toNat != c) = true := by simpa using h
        simp only [List.map_cons, List.takeWhile_cons, h3, if_true, List.length_cons]
        have : ((((l.map UInt8.toNat).takeWhile (· != c)).length : Int) == -1) = false := by
          rw [beq_eq_false_iff_ne]; omega
        rw [this]
        simp
      · rw [if_neg h2, if_neg (fun h3 => h2 (hm.1 h3))]
        simp
theorem ixS_mem {l : List Nat} {c : Nat} : (0 ≤ ixS l c ↔ c ∈ l) ∧ (ixS l c < 0 ↔ ¬ c ∈ l) := by
  unfold ixS
  by_cases h : c ∈ l
  · rw [if_pos h]; exact ⟨⟨fun _ => h, fun _ => by omega⟩, ⟨fun h2 => by omega, fun h2 => absurd h h2⟩⟩
  · rw [if_neg h]; exact ⟨⟨fun h2 => by omega, fun h2 => absurd h2 h⟩, ⟨fun _ => h, fun _ => by omega⟩⟩
theorem ixS_any (s : ByteArray) (c : Nat) (w : World) (hc : c < 256) : Calls Tryz.prog 157 #[.string s, .int .u8 c] w (Same (.int .i64 (ixS (nb s) c)) w) := by
  refine (indexByte_any s c w).mono ?_
  rintro e w' ⟨rfl, rfl⟩
  refine ⟨?_, rfl⟩
  rw [Int.toNat_natCast, ixS_eq _ _ hc]
  rfl
set_option maxHeartbeats 2000000 in
theorem onlyS_any (s u : ByteArray) (w : World) (hs : s.size ≤ 1000000000) : Calls Tryz.prog 110 #[.string s, .string u] w (Same (.bool ((nb s).all (fun b => decide (b ∈ nb u)))) w) := by
  go_enter Tryz.func110, Tryz.ntmps110
  go_wp2_with fail
  go_loop [5, 8] (fun _ t => ∃ i : Nat, i ≤ s.size ∧ t = .int .i64 i ∧ ∀ j, j < i → (nb s).getD j 0 ∈ nb u) (fun _ t => s.size - (intOf t).toNat)
  case atStart => exact ⟨0, Nat.zero_le _, rfl, fun j hj => by omega⟩
  case round =>
    obtain ⟨i, hi, rfl, hin⟩ := hrel
    have HIN := Lib.hid hin; clear hin
    by_cases hil : i < s.size
    · obtain ⟨q, hq⟩ : ∃ q, s[i].toNat = q := ⟨_, rfl⟩
      have q256 : q < 256 := by rw [← hq]; exact UInt8.toNat_lt _
      have HQ := Lib.hid (show (nb s).getD i 0 = q by rw [← nb_get hil, hq])
      obtain ⟨z, hz⟩ : ∃ z, ixS (nb u) q = z := ⟨_, rfl⟩
      have HZ := Lib.hid hz
      have hi0 := ixS_mem (l := nb u) (c := q)
      rw [hz] at hi0
      clear hz
      by_cases hz0 : z < 0
      · have HF := Lib.hid (show (nb s).all (fun b => decide (b ∈ nb u)) = false by
          rw [List.all_eq_false]
          have hl : i < (nb s).length := by rw [nb_len]; exact hil
          refine ⟨q, ?_, by simpa using hi0.2.1 hz0⟩
          rw [← HQ.out, List.getD_eq_getElem?_getD, List.getElem?_eq_getElem hl]
          exact List.getElem_mem _)
        clear hi0
        go_wp2_with (first
          | (go_at_call 157; refine (ixS_any u q _ q256).mono ?_; rintro e w' ⟨rfl, rfl⟩; rw [HZ.out])
          | fail)
        go_ret
        exact ⟨by rw [HF.out]; rfl, rfl⟩
      · have HN := Lib.hid (hi0.1.1 (by omega))
        clear hi0
        go_wp2_with (first
          | (go_at_call 157; refine (ixS_any u q _ q256).mono ?_; rintro e w' ⟨rfl, rfl⟩; rw [HZ.out])
          | fail)
        go_round
        case rel => exact ⟨i + 1, by omega, by go_num, fun j hj => by
          rcases Nat.lt_succ_iff_lt_or_eq.1 hj with h1 | h1
          · exact HIN.out j h1
          · subst h1; rw [HQ.out]; exact HN.out⟩
        case measure => simp [intOf]; omega
    · obtain rfl : i = s.size := by omega
      have HT := Lib.hid (show (nb s).all (fun b => decide (b ∈ nb u)) = true by
        rw [List.all_eq_true]
        intro b hb
        obtain ⟨k, hk, rfl⟩ := List.mem_iff_getElem.1 hb
        have := HIN.out k (by rw [nb_len] at hk; exact hk)
        rw [List.getD_eq_getElem?_getD, List.getElem?_eq_getElem hk] at this
        exact decide_eq_true this)
      have d0 : decide ((s.size : Int) < (s.size : Int)) = false := decide_eq_false (by omega)
      go_wp2_with fail
      go_ret
      exact ⟨by rw [HT.out]; rfl, rfl⟩

/-! Trimmed strings. -/
theorem tr_head {p : UInt8 → Bool} {l : List UInt8} {a : UInt8} {r : List UInt8} (h : l.dropWhile p = a :: r) : p a = false := by
  induction l with
  | nil => cases h
  | cons b l ih =>
    rw [List.dropWhile_cons] at h
    split at h
    · exact ih h
    · rename_i hp
      injection h with h1 h2
      subst h1
      simpa using hp
theorem tr_all {p : UInt8 → Bool} {l : List UInt8} : l.dropWhile p = [] ↔ ∀ a ∈ l, p a = true := by
  induction l with
  | nil => simp
  | cons b l ih =>
    rw [List.dropWhile_cons]
    by_cases hp : p b = true
    · rw [if_pos hp, ih]; simp [hp]
    · rw [if_neg hp]; simp [hp]
theorem tr_nil (l cs : List UInt8) : Lib.trimS l cs = [] ↔ ∀ b ∈ l, cs.contains b = true := by
  unfold Lib.trimS Lib.trimLeftS Lib.trimRightS
  rw [tr_all]
  constructor
  · intro h
    cases hd : l.reverse.dropWhile (cs.contains ·) with
    | nil =>
      have := tr_all.1 hd
      intro b hb
      exact this b (by simpa using hb)
    | cons a r =>
      exfalso
      have h1 := tr_head hd
      have h2 := h a (by rw [hd]; simp)
      rw [h1] at h2
      cases h2
  · intro h
    have : l.reverse.dropWhile (cs.contains ·) = [] := tr_all.2 (fun a ha => h a (by simpa using ha))
    rw [this]
    simp
/-- A string is trimmed to nothing just if it has no other signs. -/
theorem tr_only (s : ByteArray) (cs : List UInt8) : (Lib.trimS s.data.toList cs = []) ↔ (nb s).all (fun b => decide (b ∈ cs.map UInt8.toNat)) = true := by
  rw [tr_nil, List.all_eq_true]
  unfold nb
  have hin : ∀ u : UInt8, cs.contains u = true ↔ u.toNat ∈ cs.map UInt8.toNat := fun u => by
    rw [List.contains_iff_mem]
    constructor
    · intro h; exact List.mem_map.2 ⟨u, h, rfl⟩
    · intro h
      obtain ⟨v, hv, he⟩ := List.mem_map.1 h
      rw [← UInt8.toNat_inj.1 he]; exact hv
  constructor
  · intro h b hb
    obtain ⟨u, hu, rfl⟩ := List.mem_map.1 hb
    exact decide_eq_true ((hin u).1 (h u hu))
  · intro h u hu
    exact (hin u).2 (of_decide_eq_true (h _ (List.mem_map.2 ⟨u, hu, rfl⟩)))

/-! Keys. -/
def keySigns : List Nat := [97, 98, 99, 100, 101, 102, 103, 104, 105, 106, 107, 108, 109, 110, 111, 112, 113, 114, 115, 116, 117, 118, 119, 120, 121, 122, 48, 49, 50, 51, 52, 53, 54, 55, 56, 57, 45, 95]
def smallSigns : List Nat := [97, 98, 99, 100, 101, 102, 103, 104, 105, 106, 107, 108, 109, 110, 111, 112, 113, 114, 115, 116, 117, 118, 119, 120, 121, 122]
def keyOk (l : List Nat) : Bool := decide (1 ≤ l.length) && decide (l.length ≤ 40) && decide (97 ≤ l.getD 0 0) && decide (l.getD 0 0 ≤ 122) && l.all (fun b => decide (b ∈ keySigns))
set_option maxRecDepth 100000 in
theorem trimKey_any (s : ByteArray) (w : World) (hs : s.size ≤ 1000000) : Calls Tryz.prog 126 #[.string s, .string ⟨#[97, 98, 99, 100, 101, 102, 103, 104, 105, 106, 107, 108, 109, 110, 111, 112, 113, 114, 115, 116, 117, 118, 119, 120, 121, 122, 48, 49, 50, 51, 52, 53, 54, 55, 56, 57, 45, 95]⟩] w
    (RetV (.string ⟨(Lib.trimS s.data.toList [97, 98, 99, 100, 101, 102, 103, 104, 105, 106, 107, 108, 109, 110, 111, 112, 113, 114, 115, 116, 117, 118, 119, 120, 121, 122, 48, 49, 50, 51, 52, 53, 54, 55, 56, 57, 45, 95]).toArray⟩) w) := by
  refine (Any.strings_Trim_laid Tryz.lays160 (by kernel_rfl) s ⟨#[97, 98, 99, 100, 101, 102, 103, 104, 105, 106, 107, 108, 109, 110, 111, 112, 113, 114, 115, 116, 117, 118, 119, 120, 121, 122, 48, 49, 50, 51, 52, 53, 54, 55, 56, 57, 45, 95]⟩ w (by omega) (by decide) (ascii_of_all (by decide))).mono ?_
  rintro e w' ⟨rfl, hb⟩
  exact ⟨rfl, gr_below hb none⟩
set_option maxHeartbeats 2000000 in
set_option maxRecDepth 100000 in
theorem isKey_any (s : ByteArray) (w : World) (hs : s.size ≤ 1000000) : Calls Tryz.prog 61 #[.string s] w (RetV (.bool (keyOk (nb s))) w) := by
  have hlen := nb_len s
  by_cases h1 : 1 ≤ s.size
  · have q1 : decide ((1 : Int) ≤ (s.size : Int)) = true := decide_eq_true (by omega)
    by_cases h2 : s.size ≤ 40
    · have q2 : decide ((s.size : Int) ≤ 40) = true := decide_eq_true (by omega)
      obtain ⟨b, hb⟩ : ∃ b, s[0].toNat = b := ⟨_, rfl⟩
      have hb0 : (nb s).getD 0 0 = b := by rw [← nb_get (by omega), hb]
      have HD := Lib.hid (show keyOk (nb s) = (decide (97 ≤ b) && decide (b ≤ 122) && (nb s).all (fun b => decide (b ∈ keySigns))) by
        unfold keyOk; rw [hlen, decide_eq_true h1, decide_eq_true h2, hb0]; simp only [Bool.true_and])
      clear hlen hb0
      by_cases h3 : 97 ≤ b
      · have q3 : decide ((97 : Int) ≤ (b : Int)) = true := decide_eq_true (by omega)
        by_cases h4 : b ≤ 122
        · have q4 : decide ((b : Int) ≤ 122) = true := decide_eq_true (by omega)
          obtain ⟨u, hu⟩ : ∃ u : ByteArray, (⟨(Lib.trimS s.data.toList [97, 98, 99, 100, 101, 102, 103, 104, 105, 106, 107, 108, 109, 110, 111, 112, 113, 114, 115, 116, 117, 118, 119, 120, 121, 122, 48, 49, 50, 51, 52, 53, 54, 55, 56, 57, 45, 95]).toArray⟩ : ByteArray) = u := ⟨_, rfl⟩
          have HU := Lib.hid hu
          obtain ⟨B, hB⟩ : ∃ B, (nb s).all (fun b => decide (b ∈ keySigns)) = B := ⟨_, rfl⟩
          have HB := Lib.hid (show keyOk (nb s) = B by rw [HD.out, decide_eq_true h3, decide_eq_true h4, hB]; rfl)
          have hul : u.toList = Lib.trimS s.data.toList [97, 98, 99, 100, 101, 102, 103, 104, 105, 106, 107, 108, 109, 110, 111, 112, 113, 114, 115, 116, 117, 118, 119, 120, 121, 122, 48, 49, 50, 51, 52, 53, 54, 55, 56, 57, 45, 95] := by rw [← hu]; exact ByteArray.toList_mk _
          cases B
          · have q3 : ¬ u.toList = [] := fun h => by
              rw [hul, tr_only] at h
              have : (nb s).all (fun b => decide (b ∈ keySigns)) = true := h
              rw [hB] at this; cases this
            have q4 : (u.toList == []) = false := by rw [beq_eq_false_iff_ne]; exact q3
            have q5 : u.toList.isEmpty = false := by rw [List.isEmpty_eq_false_iff]; exact q3
            clear hu hB hul q3
            go_enter Tryz.func61, Tryz.ntmps61
            go_wp2_with (first
              | (go_at_call 126; refine (trimKey_any s _ hs).mono ?_; rintro e w' ⟨rfl, hg⟩; rw [HU.out]; have HG := Lib.hid hg; clear hg)
              | fail)
            go_ret
            exact ⟨by rw [HB.out]; rfl, HG.out⟩
          · have q3 : u.toList = [] := by rw [hul, tr_only]; exact hB
            clear hu hB hul
            go_enter Tryz.func61, Tryz.ntmps61
            go_wp2_with (first
              | (go_at_call 126; refine (trimKey_any s _ hs).mono ?_; rintro e w' ⟨rfl, hg⟩; rw [HU.out]; have HG := Lib.hid hg; clear hg)
              | fail)
            go_ret
            exact ⟨by rw [HB.out]; rfl, HG.out⟩
        · have q4 : decide ((b : Int) ≤ 122) = false := decide_eq_false (by omega)
          have HB := Lib.hid (show keyOk (nb s) = false by rw [HD.out, decide_eq_false h4]; simp)
          go_enter Tryz.func61, Tryz.ntmps61
          go_wp2_with fail
          go_ret
          exact ⟨by rw [HB.out]; rfl, gr_refl _ _⟩
      · have q3 : decide ((97 : Int) ≤ (b : Int)) = false := decide_eq_false (by omega)
        have HB := Lib.hid (show keyOk (nb s) = false by rw [HD.out, decide_eq_false h3]; simp)
        go_enter Tryz.func61, Tryz.ntmps61
        go_wp2_with fail
        go_ret
        exact ⟨by rw [HB.out]; rfl, gr_refl _ _⟩
    · have q2 : decide ((s.size : Int) ≤ 40) = false := decide_eq_false (by omega)
      have HB := Lib.hid (show keyOk (nb s) = false by unfold keyOk; rw [hlen, decide_eq_false h2]; simp)
      clear hlen
      go_enter Tryz.func61, Tryz.ntmps61
      go_wp2_with fail
      go_ret
      exact ⟨by rw [HB.out]; rfl, gr_refl _ _⟩
  · have q1 : decide ((1 : Int) ≤ (s.size : Int)) = false := decide_eq_false (by omega)
    have HB := Lib.hid (show keyOk (nb s) = false by unfold keyOk; rw [hlen, decide_eq_false h1]; simp)
    clear hlen
    go_enter Tryz.func61, Tryz.ntmps61
    go_wp2_with fail
    go_ret
    exact ⟨by rw [HB.out]; rfl, gr_refl _ _⟩
theorem small_iff : ∀ c : Fin 256, decide (c.val ∈ smallSigns) = (decide (97 ≤ c.val) && decide (c.val ≤ 122)) := by decide +kernel
theorem nb_small : nb ⟨#[97, 98, 99, 100, 101, 102, 103, 104, 105, 106, 107, 108, 109, 110, 111, 112, 113, 114, 115, 116, 117, 118, 119, 120, 121, 122]⟩ = smallSigns := by decide +kernel
theorem nb_keyS : nb ⟨#[97, 98, 99, 100, 101, 102, 103, 104, 105, 106, 107, 108, 109, 110, 111, 112, 113, 114, 115, 116, 117, 118, 119, 120, 121, 122, 48, 49, 50, 51, 52, 53, 54, 55, 56, 57, 45, 95]⟩ = keySigns := by decide +kernel
set_option maxHeartbeats 2000000 in
set_option maxRecDepth 100000 in
theorem keyRef_any (s : ByteArray) (w : World) (hs : s.size ≤ 1000000) : Calls Tryz.prog 38 #[.string s] w (Same (.bool (keyOk (nb s))) w) := by
  have hlen := nb_len s
  obtain ⟨B1, h1⟩ : ∃ B1, inB (s.size : Int) 1 40 = B1 := ⟨_, rfl⟩
  have H1 := Lib.hid h1
  have hB1 : B1 = (decide (1 ≤ s.size) && decide (s.size ≤ 40)) := by
    rw [← h1]; unfold inB; rw [Bool.eq_iff_iff]; simp only [Bool.and_eq_true, decide_eq_true_eq]; omega
  clear h1
  cases B1
  · have HB := Lib.hid (show keyOk (nb s) = false by unfold keyOk; rw [hlen, ← hB1]; rfl)
    clear hlen hB1
    go_enter Tryz.func38, Tryz.ntmps38
    go_wp2_with (first
      | (go_at_call 60; refine (in_any _ _ _ _).mono ?_; rintro e w' ⟨rfl, rfl⟩; rw [H1.out])
      | fail)
    go_ret
    exact ⟨by rw [HB.out]; rfl, rfl⟩
  · have h12 : 1 ≤ s.size ∧ s.size ≤ 40 := by simpa using hB1.symm
    obtain ⟨u, hu⟩ : ∃ u, s.extract 0 1 = u := ⟨_, rfl⟩
    have hnu : nb u = [(nb s).getD 0 0] := by
      rw [← hu, nb_extract]
      cases hn : nb s with
      | nil => rw [hn] at hlen; simp at hlen; omega
      | cons x l => rfl
    have hus : u.size ≤ 1 := by rw [← nb_len, hnu]; simp
    have h256 : (nb s).getD 0 0 < 256 := nb_lt (s := u) (by rw [hnu]; simp)
    obtain ⟨B2, h2⟩ : ∃ B2, (nb u).all (fun b => decide (b ∈ smallSigns)) = B2 := ⟨_, rfl⟩
    obtain ⟨B3, h3⟩ : ∃ B3, (nb s).all (fun b => decide (b ∈ keySigns)) = B3 := ⟨_, rfl⟩
    have HB := Lib.hid (show keyOk (nb s) = (B2 && B3) by
      unfold keyOk
      rw [← h2, ← h3, hnu, hlen, decide_eq_true h12.1, decide_eq_true h12.2]
      have := small_iff ⟨_, h256⟩
      simp only [List.all_cons, List.all_nil, Bool.and_true, Bool.true_and]
      rw [this])
    have H2 := Lib.hid h2; have H3 := Lib.hid h3
    clear hB1 hnu h2 h3 hlen h256
    have g1 : (1 : Int) ≤ (s.size : Int) := by omega
    have g2 : (1 : Nat) ≤ s.size := by omega
    clear h12
    obtain ⟨sm, hsm⟩ : ∃ sm : ByteArray, (⟨#[97, 98, 99, 100, 101, 102, 103, 104, 105, 106, 107, 108, 109, 110, 111, 112, 113, 114, 115, 116, 117, 118, 119, 120, 121, 122]⟩ : ByteArray) = sm := ⟨_, rfl⟩
    obtain ⟨ks, hks⟩ : ∃ ks : ByteArray, (⟨#[97, 98, 99, 100, 101, 102, 103, 104, 105, 106, 107, 108, 109, 110, 111, 112, 113, 114, 115, 116, 117, 118, 119, 120, 121, 122, 48, 49, 50, 51, 52, 53, 54, 55, 56, 57, 45, 95]⟩ : ByteArray) = ks := ⟨_, rfl⟩
    have HSM := Lib.hid (show (nb u).all (fun b => decide (b ∈ nb sm)) = B2 by rw [← hsm, nb_small]; exact H2.out)
    have HKS := Lib.hid (show (nb s).all (fun b => decide (b ∈ nb ks)) = B3 by rw [← hks, nb_keyS]; exact H3.out)
    cases B2
    all_goals
      go_enter Tryz.func38, Tryz.ntmps38
      go_wp2_with (first
        | (go_at_call 60; refine (in_any _ _ _ _).mono ?_; rintro e w' ⟨rfl, rfl⟩; rw [H1.out])
        | (go_at_call 110; ((with_reducible refine (onlyS_any u sm _ (by omega)).mono ?_); rintro e w' ⟨rfl, rfl⟩; rw [HSM.out]))
        | (go_at_call 110; ((with_reducible refine (onlyS_any s ks _ (by omega)).mono ?_); rintro e w' ⟨rfl, rfl⟩; rw [HKS.out]))
        | fail)
      go_ret
      exact ⟨by rw [HB.out]; rfl, rfl⟩
end Go.Proofs.YtgogiljplnninaaGreatDoor

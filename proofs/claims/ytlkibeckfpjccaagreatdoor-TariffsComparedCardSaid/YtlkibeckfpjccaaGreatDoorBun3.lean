/- strings.Trim at the signs of keys, the document's 'only'; what a key is: number.IsKey and the document's Key; moments. Conditions: none. -/
import Derived.Test.YtlkibeckfpjccaaGreatDoorBun1
import Derived.Test.YtlkibeckfpjccaaGreatDoorShelfTrim
import Derived.Laws.Cover1
import Derived.Shelf.SlSortCmp.NoneTotal
import Derived.WalkKit
import Derived.Deep.QuietTactic
import Derived.BigQuiet
namespace Go.Proofs.YtlkibeckfpjccaaGreatDoor
section
open Go.RowKit

/-! The first place of a byte, or -1. -/
def ixS (l : List Nat) (c : Nat) : Int := if c ∈ l then ((l.takeWhile (· != c)).length : Int) else -1
theorem ixS_eq (l : List UInt8) (c : Nat) (hc : c < 256) : Lib.indexByte l c.toUInt8 = ixS (l.map UInt8.toNat) c := by
  induction l with
  | nil => simp [Lib.indexByte, ixS]
  | cons b l ih =>
    have hb : (b == c.toUInt8) = (b.toNat == c) := by
      rw [Bool.eq_iff_iff, beq_iff_eq, beq_iff_eq]
      constructor
      · rintro rfl; simp [Nat.mod_eq_of_lt hc]
      · rintro rfl; simp
    unfold Lib.indexByte
    rw [ih, hb]
    unfold ixS
    by_cases h : b.toNat = c
    · simp [h]
    · have h' : (b.toNat == c) = false := by simpa using h
      rw [h']
      have hm : (c ∈ (b :: l).map UInt8.toNat) ↔ c ∈ l.map UInt8.toNat := by simp [Ne.symm h]
      by_cases h2 : c ∈ l.map UInt8.toNat
      · rw [if_pos h2, if_pos (hm.2 h2)]
        have h3 : (b.toNat != c) = true := by simpa using h
        simp only [List.map_cons, List.takeWhile_cons, h3, if_true, List.length_cons]
        have : ((((l.map UInt8.toNat).takeWhile (· != c)).length : Int) == -1) = false := by
          rw [beq_eq_false_iff_ne]; omega
        rw [this]
        simp
      · rw [if_neg h2, if_neg (fun h3 => h2 (hm.1 h3))]
        simp
theorem ixS_mem {l : List Nat} {c : Nat} : (0 ≤ ixS l c ↔ c ∈ l) ∧ (ixS l c < 0 ↔ ¬ c ∈ l) := by
  unfold ixS
  by_cases h : c ∈ l
  · rw [if_pos h]; exact ⟨⟨fun _ => h, fun _ => by omega⟩, ⟨fun h2 => by omega, fun h2 => absurd h h2⟩⟩
  · rw [if_neg h]; exact ⟨⟨fun h2 => by omega, fun h2 => absurd h2 h⟩, ⟨fun _ => h, fun _ => by omega⟩⟩
theorem ixS_any (s : ByteArray) (c : Nat) (w : World) (hc : c < 256) : Calls Tryz.prog 71 #[.string s, .int .u8 c] w (Same (.int .i64 (ixS (nb s) c)) w) := by
  refine (indexByte_any s c w).mono ?_
  rintro e w' ⟨rfl, rfl⟩
  refine ⟨?_, rfl⟩
  rw [Int.toNat_natCast, ixS_eq _ _ hc]
  rfl
set_option maxHeartbeats 2000000 in
theorem onlyS_any (s u : ByteArray) (w : World) (hs : s.size ≤ 1000000000) : Calls Tryz.prog 37 #[.string s, .string u] w (Same (.bool ((nb s).all (fun b => decide (b ∈ nb u)))) w) := by
  go_enter Tryz.func37, Tryz.ntmps37
  go_wp2_with fail
  go_loop [5, 8] (fun _ t => ∃ i : Nat, i ≤ s.size ∧ t = .int .i64 i ∧ ∀ j, j < i → (nb s).getD j 0 ∈ nb u) (fun _ t => s.size - (intOf t).toNat)
  case atStart => exact ⟨0, Nat.zero_le _, rfl, fun j hj => by omega⟩
  case round =>
    obtain ⟨i, hi, rfl, hin⟩ := hrel
    have HIN := Lib.hid hin; clear hin
    by_cases hil : i < s.size
    · obtain ⟨q, hq⟩ : ∃ q, s[i].toNat = q := ⟨_, rfl⟩
      have q256 : q < 256 := by rw [← hq]; exact UInt8.toNat_lt _
      have HQ := Lib.hid (show (nb s).getD i 0 = q by rw [← nb_get hil, hq])
      obtain ⟨z, hz⟩ : ∃ z, ixS (nb u) q = z := ⟨_, rfl⟩
      have HZ := Lib.hid hz
      have hi0 := ixS_mem (l := nb u) (c := q)
      rw [hz] at hi0
      clear hz
      by_cases hz0 : z < 0
      · have HF := Lib.hid (show (nb s).all (fun b => decide (b ∈ nb u)) = false by
          rw [List.all_eq_false]
          have hl : i < (nb s).length := by rw [nb_len]; exact hil
          refine ⟨q, ?_, by simpa using hi0.2.1 hz0⟩
          rw [← HQ.out, List.getD_eq_getElem?_getD, List.getElem?_eq_getElem hl]
          exact List.getElem_mem _)
        clear hi0
        go_wp2_with (first
          | (go_at_call 71; refine (ixS_any u q _ q256).mono ?_; rintro e w' ⟨rfl, rfl⟩; rw [HZ.out])
          | fail)
        go_ret
        exact ⟨by rw [HF.out]; rfl, rfl⟩
      · have HN := Lib.hid (hi0.1.1 (by omega))
        clear hi0
        go_wp2_with (first
          | (go_at_call 71; refine (ixS_any u q _ q256).mono ?_; rintro e w' ⟨rfl, rfl⟩; rw [HZ.out])
          | fail)
        go_round
        case rel => exact ⟨i + 1, by omega, by go_num, fun j hj => by
          rcases Nat.lt_succ_iff_lt_or_eq.1 hj with h1 | h1
          · exact HIN.out j h1
          · subst h1; rw [HQ.out]; exact HN.out⟩
        case measure => simp [intOf]; omega
    · obtain rfl : i = s.size := by omega
      have HT := Lib.hid (show (nb s).all (fun b => decide (b ∈ nb u)) = true by
        rw [List.all_eq_true]
        intro b hb
        obtain ⟨k, hk, rfl⟩ := List.mem_iff_getElem.1 hb
        have := HIN.out k (by rw [nb_len] at hk; exact hk)
        rw [List.getD_eq_getElem?_getD, List.getElem?_eq_getElem hk] at this
        exact decide_eq_true this)
      have d0 : decide ((s.size : Int) < (s.size : Int)) = false := decide_eq_false (by omega)
      go_wp2_with fail
      go_ret
      exact ⟨by rw [HT.out]; rfl, rfl⟩

/-! Trimmed strings. -/
theorem tr_head {p : UInt8 → Bool} {l : List UInt8} {a : UInt8} {r : List UInt8} (h : l.dropWhile p = a :: r) : p a = false := by
  induction l with
  | nil => cases h
  | cons b l ih =>
    rw [List.dropWhile_cons] at h
    split at h
    · exact ih h
    · rename_i hp
      injection h with h1 h2
      subst h1
      simpa using hp
theorem tr_all {p : UInt8 → Bool} {l : List UInt8} : l.dropWhile p = [] ↔ ∀ a ∈ l, p a = true := by
  induction l with
  | nil => simp
  | cons b l ih =>
    rw [List.dropWhile_cons]
    by_cases hp : p b = true
    · rw [if_pos hp, ih]; simp [hp]
    · rw [if_neg hp]; simp [hp]
theorem tr_nil (l cs : List UInt8) : Lib.trimS l cs = [] ↔ ∀ b ∈ l, cs.contains b = true := by
  unfold Lib.trimS Lib.trimLeftS Lib.trimRightS
  rw [tr_all]
  constructor
  · intro h
    cases hd : l.reverse.dropWhile (cs.contains ·) with
    | nil =>
      have := tr_all.1 hd
      intro b hb
      exact this b (by simpa using hb)
    | cons a r =>
      exfalso
      have h1 := tr_head hd
      have h2 := h a (by rw [hd]; simp)
      rw [h1] at h2
      cases h2
  · intro h
    have : l.reverse.dropWhile (cs.contains ·) = [] := tr_all.2 (fun a ha => h a (by simpa using ha))
    rw [this]
    simp
/-- A string is trimmed to nothing just if it has no other signs. -/
theorem tr_only (s : ByteArray) (cs : List UInt8) : (Lib.trimS s.data.toList cs = []) ↔ (nb s).all (fun b => decide (b ∈ cs.map UInt8.toNat)) = true := by
  rw [tr_nil, List.all_eq_true]
  unfold nb
  have hin : ∀ u : UInt8, cs.contains u = true ↔ u.toNat ∈ cs.map UInt8.toNat := fun u => by
    rw [List.contains_iff_mem]
    constructor
    · intro h; exact List.mem_map.2 ⟨u, h, rfl⟩
    · intro h
      obtain ⟨v, hv, he⟩ := List.mem_map.1 h
      rw [← UInt8.toNat_inj.1 he]; exact hv
  constructor
  · intro h b hb
    obtain ⟨u, hu, rfl⟩ := List.mem_map.1 hb
    exact decide_eq_true ((hin u).1 (h u hu))
  · intro h u hu
    exact (hin u).2 (of_decide_eq_true (h _ (List.mem_map.2 ⟨u, hu, rfl⟩)))

/-! Keys. -/
def keySigns : List Nat := [97, 98, 99, 100, 101, 102, 103, 104, 105, 106, 107, 108, 109, 110, 111, 112, 113, 114, 115, 116, 117, 118, 119, 120, 121, 122, 48, 49, 50, 51, 52, 53, 54, 55, 56, 57, 45, 95]
def smallSigns : List Nat := [97, 98, 99, 100, 101, 102, 103, 104, 105, 106, 107, 108, 109, 110, 111, 112, 113, 114, 115, 116, 117, 118, 119, 120, 121, 122]
def keyOk (l : List Nat) : Bool := decide (1 ≤ l.length) && decide (l.length ≤ 40) && decide (97 ≤ l.getD 0 0) && decide (l.getD 0 0 ≤ 122) && l.all (fun b => decide (b ∈ keySigns))
set_option maxRecDepth 100000 in
theorem trimKey_any (s : ByteArray) (w : World) (hs : s.size ≤ 1000000) : Calls Tryz.prog 76 #[.string s, .string ⟨#[97, 98, 99, 100, 101, 102, 103, 104, 105, 106, 107, 108, 109, 110, 111, 112, 113, 114, 115, 116, 117, 118, 119, 120, 121, 122, 48, 49, 50, 51, 52, 53, 54, 55, 56, 57, 45, 95]⟩] w
    (RetV (.string ⟨(Lib.trimS s.data.toList [97, 98, 99, 100, 101, 102, 103, 104, 105, 106, 107, 108, 109, 110, 111, 112, 113, 114, 115, 116, 117, 118, 119, 120, 121, 122, 48, 49, 50, 51, 52, 53, 54, 55, 56, 57, 45, 95]).toArray⟩) w) := by
  refine (Any.strings_Trim_laid Tryz.lays160 (by kernel_rfl) s ⟨#[97, 98, 99, 100, 101, 102, 103, 104, 105, 106, 107, 108, 109, 110, 111, 112, 113, 114, 115, 116, 117, 118, 119, 120, 121, 122, 48, 49, 50, 51, 52, 53, 54, 55, 56, 57, 45, 95]⟩ w (by omega) (by decide) (ascii_of_all (by decide))).mono ?_
  rintro e w' ⟨rfl, hb⟩
  exact ⟨rfl, gr_below hb none⟩
set_option maxHeartbeats 2000000 in
set_option maxRecDepth 100000 in
theorem isKey_any (s : ByteArray) (w : World) (hs : s.size ≤ 1000000) : Calls Tryz.prog 59 #[.string s] w (RetV (.bool (keyOk (nb s))) w) := by
  have hlen := nb_len s
  by_cases h1 : 1 ≤ s.size
  · have q1 : decide ((1 : Int) ≤ (s.size : Int)) = true := decide_eq_true (by omega)
    by_cases h2 : s.size ≤ 40
    · have q2 : decide ((s.size : Int) ≤ 40) = true := decide_eq_true (by omega)
      obtain ⟨b, hb⟩ : ∃ b, s[0].toNat = b := ⟨_, rfl⟩
      have hb0 : (nb s).getD 0 0 = b := by rw [← nb_get (by omega), hb]
      have HD := Lib.hid (show keyOk (nb s) = (decide (97 ≤ b) && decide (b ≤ 122) && (nb s).all (fun b => decide (b ∈ keySigns))) by
        unfold keyOk; rw [hlen, decide_eq_true h1, decide_eq_true h2, hb0]; simp only [Bool.true_and])
      clear hlen hb0
      by_cases h3 : 97 ≤ b
      · have q3 : decide ((97 : Int) ≤ (b : Int)) = true := decide_eq_true (by omega)
        by_cases h4 : b ≤ 122
        · have q4 : decide ((b : Int) ≤ 122) = true := decide_eq_true (by omega)
          obtain ⟨u, hu⟩ : ∃ u : ByteArray, (⟨(Lib.trimS s.data.toList [97, 98, 99, 100, 101, 102, 103, 104, 105, 106, 107, 108, 109, 110, 111, 112, 113, 114, 115, 116, 117, 118, 119, 120, 121, 122, 48, 49, 50, 51, 52, 53, 54, 55, 56, 57, 45, 95]).toArray⟩ : ByteArray) = u := ⟨_, rfl⟩
          have HU := Lib.hid hu
          obtain ⟨B, hB⟩ : ∃ B, (nb s).all (fun b => decide (b ∈ keySigns)) = B := ⟨_, rfl⟩
          have HB := Lib.hid (show keyOk (nb s) = B by rw [HD.out, decide_eq_true h3, decide_eq_true h4, hB]; rfl)
          have hul : u.toList = Lib.trimS s.data.toList [97, 98, 99, 100, 101, 102, 103, 104, 105, 106, 107, 108, 109, 110, 111, 112, 113, 114, 115, 116, 117, 118, 119, 120, 121, 122, 48, 49, 50, 51, 52, 53, 54, 55, 56, 57, 45, 95] := by rw [← hu]; exact ByteArray.toList_mk _
          cases B
          · have q3 : ¬ u.toList = [] := fun h => by
              rw [hul, tr_only] at h
              have : (nb s).all (fun b => decide (b ∈ keySigns)) = true := h
              rw [hB] at this; cases this
            have q4 : (u.toList == []) = false := by rw [beq_eq_false_iff_ne]; exact q3
            have q5 : u.toList.isEmpty = false := by rw [List.isEmpty_eq_false_iff]; exact q3
            clear hu hB hul q3
            go_enter Tryz.func59, Tryz.ntmps59
            go_wp2_with (first
              | (go_at_call 76; refine (trimKey_any s _ hs).mono ?_; rintro e w' ⟨rfl, hg⟩; rw [HU.out]; have HG := Lib.hid hg; clear hg)
              | fail)
            go_ret
            exact ⟨by rw [HB.out]; rfl, HG.out⟩
          · have q3 : u.toList = [] := by rw [hul, tr_only]; exact hB
            clear hu hB hul
            go_enter Tryz.func59, Tryz.ntmps59
            go_wp2_with (first
              | (go_at_call 76; refine (trimKey_any s _ hs).mono ?_; rintro e w' ⟨rfl, hg⟩; rw [HU.out]; have HG := Lib.hid hg; clear hg)
              | fail)
            go_ret
            exact ⟨by rw [HB.out]; rfl, HG.out⟩
        · have q4 : decide ((b : Int) ≤ 122) = false := decide_eq_false (by omega)
          have HB := Lib.hid (show keyOk (nb s) = false by rw [HD.out, decide_eq_false h4]; simp)
          go_enter Tryz.func59, Tryz.ntmps59
          go_wp2_with fail
          go_ret
          exact ⟨by rw [HB.out]; rfl, gr_refl _ _⟩
      · have q3 : decide ((97 : Int) ≤ (b : Int)) = false := decide_eq_false (by omega)
        have HB := Lib.hid (show keyOk (nb s) = false by rw [HD.out, decide_eq_false h3]; simp)
        go_enter Tryz.func59, Tryz.ntmps59
        go_wp2_with fail
        go_ret
        exact ⟨by rw [HB.out]; rfl, gr_refl _ _⟩
    · have q2 : decide ((s.size : Int) ≤ 40) = false := decide_eq_false (by omega)
      have HB := Lib.hid (show keyOk (nb s) = false by unfold keyOk; rw [hlen, decide_eq_false h2]; simp)
      clear hlen
      go_enter Tryz.func59, Tryz.ntmps59
      go_wp2_with fail
      go_ret
      exact ⟨by rw [HB.out]; rfl, gr_refl _ _⟩
  · have q1 : decide ((1 : Int) ≤ (s.size : Int)) = false := decide_eq_false (by omega)
    have HB := Lib.hid (show keyOk (nb s) = false by unfold keyOk; rw [hlen, decide_eq_false h1]; simp)
    clear hlen
    go_enter Tryz.func59, Tryz.ntmps59
    go_wp2_with fail
    go_ret
    exact ⟨by rw [HB.out]; rfl, gr_refl _ _⟩
theorem small_iff : ∀ c : Fin 256, decide (c.val ∈ smallSigns) = (decide (97 ≤ c.val) && decide (c.val ≤ 122)) := by decide +kernel
theorem nb_small : nb ⟨#[97, 98, 99, 100, 101, 102, 103, 104, 105, 106, 107, 108, 109, 110, 111, 112, 113, 114, 115, 116, 117, 118, 119, 120, 121, 122]⟩ = smallSigns := by decide +kernel
theorem nb_keyS : nb ⟨#[97, 98, 99, 100, 101, 102, 103, 104, 105, 106, 107, 108, 109, 110, 111, 112, 113, 114, 115, 116, 117, 118, 119, 120, 121, 122, 48, 49, 50, 51, 52, 53, 54, 55, 56, 57, 45, 95]⟩ = keySigns := by decide +kernel
set_option maxHeartbeats 2000000 in
set_option maxRecDepth 100000 in
theorem keyRef_any (s : ByteArray) (w : World) (hs : s.size ≤ 1000000) : Calls Tryz.prog 38 #[.string s] w (Same (.bool (keyOk (nb s))) w) := by
  have hlen := nb_len s
  obtain ⟨B1, h1⟩ : ∃ B1, inB (s.size : Int) 1 40 = B1 := ⟨_, rfl⟩
  have H1 := Lib.hid h1
  have hB1 : B1 = (decide (1 ≤ s.size) && decide (s.size ≤ 40)) := by
    rw [← h1]; unfold inB; rw [Bool.eq_iff_iff]; simp only [Bool.and_eq_true, decide_eq_true_eq]; omega
  clear h1
  cases B1
  · have HB := Lib.hid (show keyOk (nb s) = false by unfold keyOk; rw [hlen, ← hB1]; rfl)
    clear hlen hB1
    go_enter Tryz.func38, Tryz.ntmps38
    go_wp2_with (first
      | (go_at_call 39; refine (in_any _ _ _ _).mono ?_; rintro e w' ⟨rfl, rfl⟩; rw [H1.out])
      | fail)
    go_ret
    exact ⟨by rw [HB.out]; rfl, rfl⟩
  · have h12 : 1 ≤ s.size ∧ s.size ≤ 40 := by simpa using hB1.symm
    obtain ⟨u, hu⟩ : ∃ u, s.extract 0 1 = u := ⟨_, rfl⟩
    have hnu : nb u = [(nb s).getD 0 0] := by
      rw [← hu, nb_extract]
      cases hn : nb s with
      | nil => rw [hn] at hlen; simp at hlen; omega
      | cons x l => rfl
    have hus : u.size ≤ 1 := by rw [← nb_len, hnu]; simp
    have h256 : (nb s).getD 0 0 < 256 := nb_lt (s := u) (by rw [hnu]; simp)
    obtain ⟨B2, h2⟩ : ∃ B2, (nb u).all (fun b => decide (b ∈ smallSigns)) = B2 := ⟨_, rfl⟩
    obtain ⟨B3, h3⟩ : ∃ B3, (nb s).all (fun b => decide (b ∈ keySigns)) = B3 := ⟨_, rfl⟩
    have HB := Lib.hid (show keyOk (nb s) = (B2 && B3) by
      unfold keyOk
      rw [← h2, ← h3, hnu, hlen, decide_eq_true h12.1, decide_eq_true h12.2]
      have := small_iff ⟨_, h256⟩
      simp only [List.all_cons, List.all_nil, Bool.and_true, Bool.true_and]
      rw [this])
    have H2 := Lib.hid h2; have H3 := Lib.hid h3
    clear hB1 hnu h2 h3 hlen h256
    have g1 : (1 : Int) ≤ (s.size : Int) := by omega
    have g2 : (1 : Nat) ≤ s.size := by omega
    clear h12
    obtain ⟨sm, hsm⟩ : ∃ sm : ByteArray, (⟨#[97, 98, 99, 100, 101, 102, 103, 104, 105, 106, 107, 108, 109, 110, 111, 112, 113, 114, 115, 116, 117, 118, 119, 120, 121, 122]⟩ : ByteArray) = sm := ⟨_, rfl⟩
    obtain ⟨ks, hks⟩ : ∃ ks : ByteArray, (⟨#[97, 98, 99, 100, 101, 102, 103, 104, 105, 106, 107, 108, 109, 110, 111, 112, 113, 114, 115, 116, 117, 118, 119, 120, 121, 122, 48, 49, 50, 51, 52, 53, 54, 55, 56, 57, 45, 95]⟩ : ByteArray) = ks := ⟨_, rfl⟩
    have HSM := Lib.hid (show (nb u).all (fun b => decide (b ∈ nb sm)) = B2 by rw [← hsm, nb_small]; exact H2.out)
    have HKS := Lib.hid (show (nb s).all (fun b => decide (b ∈ nb ks)) = B3 by rw [← hks, nb_keyS]; exact H3.out)
    cases B2
    all_goals
      go_enter Tryz.func38, Tryz.ntmps38
      go_wp2_with (first
        | (go_at_call 39; refine (in_any _ _ _ _).mono ?_; rintro e w' ⟨rfl, rfl⟩; rw [H1.out])
        | (go_at_call 37; ((with_reducible refine (onlyS_any u sm _ (by omega)).mono ?_); rintro e w' ⟨rfl, rfl⟩; rw [HSM.out]))
        | (go_at_call 37; ((with_reducible refine (onlyS_any s ks _ (by omega)).mono ?_); rintro e w' ⟨rfl, rfl⟩; rw [HKS.out]))
        | fail)
      go_ret
      exact ⟨by rw [HB.out]; rfl, rfl⟩
end
end Go.Proofs.YtlkibeckfpjccaaGreatDoor
/- Small words that many texts share: Go's order of strings, the first error of some places, moments. Conditions: none. -/
namespace Go.Proofs.YtlkibeckfpjccaaGreatDoor
section
open Go.RowKit

/-- Go's <= on strings. -/
def leS (a b : ByteArray) : Bool := Op.bytesLess a.toList b.toList || a.toList == b.toList
/-- The first of f 0, f 1, .. f (n - 1) that is not 0; 0: there is none. -/
def fstE (f : Nat → Int) : Nat → Int
  | 0 => 0
  | n + 1 => if fstE f n = 0 then f n else fstE f n
theorem fstE_zero {f : Nat → Int} {i : Nat} (h : fstE f i = 0) (h1 : f i = 0) : fstE f (i + 1) = 0 := by simp [fstE, h, h1]
theorem fstE_stop {f : Nat → Int} {i n : Nat} (h : fstE f i = 0) (h1 : f i ≠ 0) (hn : i < n) : fstE f n = f i := by
  induction n with
  | zero => omega
  | succ n ih =>
    by_cases e : i = n
    · subst e; simp [fstE, h]
    · have := ih (by omega)
      simp [fstE, this, h1]

theorem fst_ret {f : Nat → Int} {i n : Nat} {X v : Int} (h : fstE f i = 0) (e : f i = v) (hv : v ≠ 0) (hn : i < n) : (if fstE f n = 0 then X else fstE f n) = v := by
  rw [fstE_stop h (by rw [e]; exact hv) hn, e, if_neg hv]
def momB (n : Int) : Bool := inB n 0 345686399999
set_option maxHeartbeats 1000000 in
theorem isMomB_any (n : Int) (w : World) : Calls Tryz.prog 108 #[.int .i64 n] w (Same (.bool (momB n)) w) := by
  have H := Lib.hid (show momB n = (decide (0 ≤ n) && decide (n ≤ 345686399999)) from rfl)
  by_cases h1 : 0 ≤ n <;> by_cases h2 : n < 345686400000
  all_goals
    go_enter Tryz.func108, Tryz.ntmps108
    go_wp2
    go_ret
    exact ⟨by rw [H.out]; simp [h1]; omega, rfl⟩
set_option maxHeartbeats 1000000 in
theorem momentB_any (n : Int) (w : World) : Calls Tryz.prog 41 #[.int .i64 n] w (Same (.bool (momB n)) w) := by
  go_enter Tryz.func41, Tryz.ntmps41
  go_wp2_with (first
    | (go_at_call 39; refine (in_any _ _ _ _).mono ?_; rintro e w' ⟨rfl, rfl⟩)
    | fail)
  go_ret
  exact ⟨rfl, rfl⟩
theorem keyRefR_any (s : ByteArray) (w : World) (hs : s.size ≤ 1000000) : Calls Tryz.prog 38 #[.string s] w (RetV (.bool (keyOk (nb s))) w) := by
  refine (keyRef_any s w hs).mono ?_
  rintro e w' ⟨rfl, rfl⟩
  exact ⟨rfl, gr_refl _ _⟩
theorem eqS_nb (s t : ByteArray) : (s.toList == t.toList) = (nb s == nb t) := by
  rw [Bool.eq_iff_iff, beq_iff_eq, beq_iff_eq, ByteArray.toList_eq, ByteArray.toList_eq]
  exact ⟨fun h => by unfold nb; rw [h], fun h => by rw [nb_inj h]⟩
theorem fstE_ev {f : Nat → Int} {n : Nat} (h : fstE f n = 0) : ∀ i, i < n → f i = 0 := by
  induction n with
  | zero => intro i hi; omega
  | succ n ih =>
    intro i hi
    unfold fstE at h
    by_cases h0 : fstE f n = 0
    · rw [if_pos h0] at h
      rcases Nat.lt_succ_iff_lt_or_eq.1 hi with h1 | h1
      · exact ih h0 i h1
      · subst h1; exact h
    · rw [if_neg h0] at h; exact absurd h h0
end
end Go.Proofs.YtlkibeckfpjccaaGreatDoor
/- Tariffs and payers as they lie in memory, what is wrong with them, and what a call costs, in plain Lean. Conditions: none. -/
namespace Go.Proofs.YtlkibeckfpjccaaGreatDoor
section
open Go.RowKit

def digSigns : List Nat := [48, 49, 50, 51, 52, 53, 54, 55, 56, 57]
/-- Has a string digits alone? -/
def digB (l : List Nat) : Bool := l.all (fun b => decide (b ∈ digSigns))
/-- What stands behind a plus; none: there is no plus. -/
def plusOf : List Nat → Option (List Nat)
  | 43 :: l => some l
  | _ => none
def pfOk (l : List Nat) : Bool := decide (l = []) || (plusOf l).elim false (fun d => decide (d.length ≤ 15) && digB d)
def phOk (l : List Nat) : Bool := (plusOf l).elim false (fun d => decide (4 ≤ d.length) && decide (d.length ≤ 15) && digB d && decide (d.getD 0 0 ≠ 48))

/-- A class. -/
structure ClV where
  pre : ByteArray
  name : ByteArray
  setup : Int
  first : Int
  step : Int
  rate : Int
def ClV.row (c : ClV) : List Value := [.string c.pre, .string c.name, .int .i64 c.setup, .int .i64 c.first, .int .i64 c.step, .int .i64 c.rate]
theorem ClV.row_len (c : ClV) : c.row.length = 6 := rfl
def ClOk (c : ClV) : Prop := c.pre.size ≤ 1000 ∧ c.name.size ≤ 1000
/-- A tariff, as it lies in memory. -/
structure TfV where
  cA : Option Addr
  cn : Nat
  cc : Nat
  free : Int
  iA : Option Addr
  en : Nat
  ic : Nat
  cl : List ClV
  ins : List ByteArray
def TfV.row (t : TfV) : List Value := [.slice t.cA t.cn t.cc, .int .i64 t.free, .slice t.iA t.en t.ic]
def TfOk (w : World) (lo : Nat) (t : TfV) : Prop := ((∀ c ∈ t.cl, ClOk c) ∧ (∀ s ∈ t.ins, s.size ≤ 1000) ∧ t.cn ≤ 1000 ∧ t.en ≤ 1000) ∧ Recs ClV.row 6 w lo t.cA t.cn t.cc t.cl ∧ Recs srow 1 w lo t.iA t.en t.ic t.ins
theorem TfOk.grown {w w' : World} {lo : Nat} {t : TfV} (h : TfOk w lo t) {r : Option Nat} (hg : w.grownBy w' r) (hr : ∀ g, r = some g → g < lo) : TfOk w' lo t := ⟨h.1, h.2.1.grown hg hr, h.2.2.grown hg hr⟩
/-- A payer, as it lies in memory. -/
structure PyV where
  key : ByteArray
  nA : Option Addr
  nn : Nat
  nc : Nat
  nums : List ByteArray
def PyV.row (p : PyV) : List Value := [.string p.key, .slice p.nA p.nn p.nc]
theorem PyV.row_len (p : PyV) : p.row.length = 2 := rfl
def PyOk (w : World) (lo : Nat) (p : PyV) : Prop := (p.key.size ≤ 1000 ∧ (∀ s ∈ p.nums, s.size ≤ 1000) ∧ p.nn ≤ 1000) ∧ Recs srow 1 w lo p.nA p.nn p.nc p.nums
def Pys (w : World) (lo : Nat) (A : Option Addr) (n c : Nat) (l : List PyV) : Prop := Recs PyV.row 2 w lo A n c l ∧ ∀ p ∈ l, PyOk w lo p
theorem PyOk.grown {w w' : World} {lo : Nat} {p : PyV} (h : PyOk w lo p) {r : Option Nat} (hg : w.grownBy w' r) (hr : ∀ g, r = some g → g < lo) : PyOk w' lo p := ⟨h.1, h.2.grown hg hr⟩
theorem Pys.grown {w w' : World} {lo : Nat} {A : Option Addr} {n c : Nat} {l : List PyV} (h : Pys w lo A n c l) {r : Option Nat} (hg : w.grownBy w' r) (hr : ∀ g, r = some g → g < lo) : Pys w' lo A n c l :=
  ⟨h.1.grown hg hr, fun p hp => (h.2 p hp).grown hg hr⟩

/-! What is wrong with a tariff. -/
def clNum (c : ClV) : Bool := inB c.setup 0 1000000 && inB c.rate 0 1000000 && inB c.first 0 86400000 && inB c.step 1 86400000
def clAt (l : List ClV) (i : Nat) : Int := (l[i]?).elim 0 fun c =>
  if pfOk (nb c.pre) then (if keyOk (nb c.name) then (if clNum c then (if decide (0 < i) && (l[i - 1]?).elim false (fun b => leS c.pre b.pre) then 7 else 0) else 1) else 5) else 3
def keyAt (l : List ByteArray) (i : Nat) : Int := (l[i]?).elim 0 fun s =>
  if keyOk (nb s) then (if decide (0 < i) && (l[i - 1]?).elim false (fun b => leS s b) then 7 else 0) else 5
def tarE (t : TfV) : Int :=
  if 200 < t.cn then 2 else if fstE (clAt t.cl) t.cn = 0 then (if inB t.free 0 2592000000 then (if 200 < t.en then 2 else fstE (keyAt t.ins) t.en) else 1) else fstE (clAt t.cl) t.cn
section
variable {l : List ClV} {i : Nat} {z b : ClV}
theorem clAt_3 (h : l[i]? = some z) (h1 : pfOk (nb z.pre) = false) : clAt l i = 3 := by simp only [clAt, h, Option.elim, h1]; rfl
theorem clAt_5 (h : l[i]? = some z) (h1 : pfOk (nb z.pre) = true) (h2 : keyOk (nb z.name) = false) : clAt l i = 5 := by simp only [clAt, h, Option.elim, h1, h2]; rfl
theorem clAt_1 (h : l[i]? = some z) (h1 : pfOk (nb z.pre) = true) (h2 : keyOk (nb z.name) = true) (h3 : clNum z = false) : clAt l i = 1 := by simp only [clAt, h, Option.elim, h1, h2, h3]; rfl
theorem clAt_7 (h : l[i]? = some z) (h1 : pfOk (nb z.pre) = true) (h2 : keyOk (nb z.name) = true) (h3 : clNum z = true) (hi : 0 < i) (hb : l[i - 1]? = some b) (h4 : leS z.pre b.pre = true) : clAt l i = 7 := by
  simp only [clAt, h, Option.elim, h1, h2, h3, hb, decide_eq_true hi, h4]; rfl
theorem clAt_e (h : l[i]? = some z) (h1 : pfOk (nb z.pre) = true) (h2 : keyOk (nb z.name) = true) (h3 : clNum z = true) (hb : l[i - 1]? = some b) (h4 : leS z.pre b.pre = false) : clAt l i = 0 := by
  simp only [clAt, h, Option.elim, h1, h2, h3, hb, h4, Bool.and_false]; rfl
theorem clAt_z (h : l[i]? = some z) (h1 : pfOk (nb z.pre) = true) (h2 : keyOk (nb z.name) = true) (h3 : clNum z = true) (hi : ¬ 0 < i) : clAt l i = 0 := by
  simp only [clAt, h, Option.elim, h1, h2, h3, decide_eq_false hi, Bool.false_and]; rfl
end
section
variable {l : List ByteArray} {i : Nat} {z b : ByteArray}
theorem keyAt_5 (h : l[i]? = some z) (h2 : keyOk (nb z) = false) : keyAt l i = 5 := by simp only [keyAt, h, Option.elim, h2]; rfl
theorem keyAt_7 (h : l[i]? = some z) (h2 : keyOk (nb z) = true) (hi : 0 < i) (hb : l[i - 1]? = some b) (h4 : leS z b = true) : keyAt l i = 7 := by
  simp only [keyAt, h, Option.elim, h2, hb, decide_eq_true hi, h4]; rfl
theorem keyAt_e (h : l[i]? = some z) (h2 : keyOk (nb z) = true) (hb : l[i - 1]? = some b) (h4 : leS z b = false) : keyAt l i = 0 := by
  simp only [keyAt, h, Option.elim, h2, hb, h4, Bool.and_false]; rfl
theorem keyAt_z (h : l[i]? = some z) (h2 : keyOk (nb z) = true) (hi : ¬ 0 < i) : keyAt l i = 0 := by
  simp only [keyAt, h, Option.elim, h2, decide_eq_false hi, Bool.false_and]; rfl
end

/-! What is wrong with payers. -/
def numAt (had ns : List ByteArray) (j : Nat) : Int := (ns[j]?).elim 0 fun s => if phOk (nb s) then (if memS (had ++ ns.take j) s then 6 else 0) else 3
def hadN (l : List PyV) (i : Nat) : List ByteArray := (l.take i).flatMap (·.nums)
def payAt (l : List PyV) (i : Nat) : Int := (l[i]?).elim 0 fun p =>
  if keyOk (nb p.key) then (if decide (0 < i) && (l[i - 1]?).elim false (fun b => leS p.key b.key) then 7 else (if 500 < p.nn then 2 else fstE (numAt (hadN l i) p.nums) p.nn)) else 5
def pysE (l : List PyV) : Int := if 500 < l.length then 2 else fstE (payAt l) l.length
theorem hadN_succ {l : List PyV} {i : Nat} {p : PyV} (h : l[i]? = some p) : hadN l (i + 1) = hadN l i ++ p.nums := by
  unfold hadN; rw [take_snoc' h, List.flatMap_append]; simp
section
variable {had ns : List ByteArray} {j : Nat} {s : ByteArray}
theorem numAt_3 (h : ns[j]? = some s) (h1 : phOk (nb s) = false) : numAt had ns j = 3 := by simp only [numAt, h, Option.elim, h1]; rfl
theorem numAt_6 (h : ns[j]? = some s) (h1 : phOk (nb s) = true) (h2 : memS (had ++ ns.take j) s = true) : numAt had ns j = 6 := by simp only [numAt, h, Option.elim, h1, h2]; rfl
theorem numAt_z (h : ns[j]? = some s) (h1 : phOk (nb s) = true) (h2 : memS (had ++ ns.take j) s = false) : numAt had ns j = 0 := by simp only [numAt, h, Option.elim, h1, h2]; rfl
end
section
variable {l : List PyV} {i : Nat} {z b : PyV}
theorem payAt_5 (h : l[i]? = some z) (h1 : keyOk (nb z.key) = false) : payAt l i = 5 := by simp only [payAt, h, Option.elim, h1]; rfl
theorem payAt_7 (h : l[i]? = some z) (h1 : keyOk (nb z.key) = true) (hi : 0 < i) (hb : l[i - 1]? = some b) (h3 : leS z.key b.key = true) : payAt l i = 7 := by simp only [payAt, h, Option.elim, h1, hb, h3, decide_eq_true hi]; rfl
/-- The key ahead of a place; none: the empty string. -/
def lastP (l : List PyV) (k : Nat) : ByteArray := if k = 0 then ⟨#[]⟩ else (l[k - 1]?).elim ⟨#[]⟩ (·.key)
theorem lastP_succ {l : List PyV} {k : Nat} {z : PyV} (h : l[k]? = some z) : lastP l (k + 1) = z.key := by unfold lastP; rw [if_neg (by omega), Nat.add_sub_cancel, h]; rfl
theorem keyP_pos {s : ByteArray} (h : keyOk (nb s) = true) : s.toList ≠ [] := by
  intro e
  have : nb s = [] := by unfold nb; rw [← ByteArray.toList_eq, e]; rfl
  rw [this] at h
  exact absurd h (by decide)
theorem leS_nil {s : ByteArray} (h : s.toList ≠ []) : leS s ⟨#[]⟩ = false := by
  unfold leS
  have e : (⟨#[]⟩ : ByteArray).toList = [] := by rw [ByteArray.toList_eq]
  rw [e]
  cases hs : s.toList with
  | nil => exact absurd hs h
  | cons a l => rfl
theorem payAt_last (h : l[i]? = some z) (h1 : keyOk (nb z.key) = true) : payAt l i = if leS z.key (lastP l i) then 7 else (if 500 < z.nn then 2 else fstE (numAt (hadN l i) z.nums) z.nn) := by
  simp only [payAt, h, Option.elim, h1, if_true]
  by_cases hi : 0 < i
  · have hl := (List.getElem?_eq_some_iff.1 h).1
    obtain ⟨b, hb⟩ : ∃ b, l[i - 1]? = some b := ⟨_, List.getElem?_eq_getElem (by omega)⟩
    have e : lastP l i = b.key := by unfold lastP; rw [if_neg (by omega), hb]; rfl
    simp only [hb, e, decide_eq_true hi, Bool.true_and]
  · have e : lastP l i = ⟨#[]⟩ := by unfold lastP; rw [if_pos (by omega)]
    rw [decide_eq_false hi, e, leS_nil (keyP_pos h1)]
    simp
theorem payAt_le (h : l[i]? = some z) (h1 : keyOk (nb z.key) = true) (h3 : leS z.key (lastP l i) = false) : payAt l i = if 500 < z.nn then 2 else fstE (numAt (hadN l i) z.nums) z.nn := by
  rw [payAt_last h h1, h3]; rfl
theorem payAt_l7 (h : l[i]? = some z) (h1 : keyOk (nb z.key) = true) (h3 : leS z.key (lastP l i) = true) : payAt l i = 7 := by
  rw [payAt_last h h1, h3]; rfl
end

/-! Classes, prices, payers. -/
def clsAt (l : List ClV) (s : List Nat) : Option ClV := l.find? (fun c => nb c.pre == s)
/-- The class of the longest prefix of at most k bytes. -/
def clsTo (l : List ClV) (s : List Nat) : Nat → Option ClV
  | 0 => clsAt l []
  | k + 1 => (clsAt l (s.take (k + 1))).or (clsTo l s k)
def clsOf (l : List ClV) (s : List Nat) : Option ClV := clsTo l s s.length
def priceOf (c : ClV) (talk : Int) : Int := if talk = 0 then 0 else c.setup + c.rate * ((max 0 (talk - c.first) + c.step - 1) / c.step)
def payerOf (l : List PyV) (s : List Nat) : Option PyV := l.find? (fun p => p.nums.any (fun x => nb x == s))
theorem clsTo_hit {l : List ClV} {s : List Nat} {k : Nat} {c : ClV} (h : clsAt l (s.take k) = some c) : clsTo l s k = some c := by
  cases k with
  | zero => rw [List.take_zero] at h; exact h
  | succ k => unfold clsTo; rw [h]; rfl
theorem clsTo_miss {l : List ClV} {s : List Nat} {k : Nat} (h : clsAt l (s.take (k + 1)) = none) : clsTo l s (k + 1) = clsTo l s k := by
  show (clsAt l (s.take (k + 1))).or (clsTo l s k) = _
  rw [h]; rfl
end
end Go.Proofs.YtlkibeckfpjccaaGreatDoor
/- Tariffs and payers: plain laws: right classes stand in their order, prices agree, right payers have each number once. Conditions: none. -/
namespace Go.Proofs.YtlkibeckfpjccaaGreatDoor
section

theorem fstE_all {f : Nat → Int} {n : Nat} (h : fstE f n = 0) : ∀ i, i < n → f i = 0 := by
  induction n with
  | zero => intro i hi; omega
  | succ n ih =>
    intro i hi
    unfold fstE at h
    by_cases h0 : fstE f n = 0
    · rw [if_pos h0] at h
      rcases Nat.lt_succ_iff_lt_or_eq.1 hi with h1 | h1
      · exact ih h0 i h1
      · subst h1; exact h
    · rw [if_neg h0] at h; exact absurd h h0

/-! Classes in their order. -/
def Srt (l : List ClV) : Prop := ∀ (i j : Nat) (a b : ClV), i < j → l[i]? = some a → l[j]? = some b → cmpS a.pre b.pre < 0
theorem srt_of {l : List ClV} (h : ∀ (i : Nat) (a b : ClV), l[i]? = some a → l[i + 1]? = some b → cmpS a.pre b.pre < 0) : Srt l := by
  intro i j a b hij ha hb
  induction j generalizing b with
  | zero => omega
  | succ j ih =>
    by_cases e : i = j
    · subst e; exact h i a b ha hb
    · have hj : j + 1 < l.length := (List.getElem?_eq_some_iff.1 hb).1
      have hc : l[j]? = some l[j] := List.getElem?_eq_getElem (by omega)
      exact cmpS_trans (ih l[j] (by omega) hc) (h j _ b hc hb)
theorem clAt_right {l : List ClV} {i : Nat} {c : ClV} (h : l[i]? = some c) (h0 : clAt l i = 0) : pfOk (nb c.pre) = true ∧ keyOk (nb c.name) = true ∧ clNum c = true ∧ ∀ b, 0 < i → l[i - 1]? = some b → leS c.pre b.pre = false := by
  cases h1 : pfOk (nb c.pre)
  · rw [clAt_3 h h1] at h0; exact absurd h0 (by decide)
  · cases h2 : keyOk (nb c.name)
    · rw [clAt_5 h h1 h2] at h0; exact absurd h0 (by decide)
    · cases h3 : clNum c
      · rw [clAt_1 h h1 h2 h3] at h0; exact absurd h0 (by decide)
      · refine ⟨rfl, rfl, rfl, fun b hi hb => ?_⟩
        cases h4 : leS c.pre b.pre
        · rfl
        · rw [clAt_7 h h1 h2 h3 hi hb h4] at h0; exact absurd h0 (by decide)
theorem tar_right {t : TfV} (hc : t.cl.length = t.cn) (h : tarE t = 0) : Srt t.cl ∧ ∀ c ∈ t.cl, clNum c = true := by
  unfold tarE at h
  by_cases h1 : 200 < t.cn
  · rw [if_pos h1] at h; exact absurd h (by decide)
  · rw [if_neg h1] at h
    by_cases h2 : fstE (clAt t.cl) t.cn = 0
    · have hall := fstE_all h2
      refine ⟨srt_of fun i a b ha hb => ?_, fun c hc2 => ?_⟩
      · have hl := (List.getElem?_eq_some_iff.1 hb).1
        obtain ⟨_, _, _, q⟩ := clAt_right hb (hall (i + 1) (by omega))
        have := q a (by omega) (by rw [Nat.add_sub_cancel]; exact ha)
        unfold leS at this
        rw [leS_cmp, decide_eq_false_iff_not] at this
        have e := cmpS_neg a.pre b.pre
        omega
      · obtain ⟨i, hi⟩ := List.mem_iff_getElem?.1 hc2
        have hl := (List.getElem?_eq_some_iff.1 hi).1
        exact (clAt_right hi (hall i (by omega))).2.2.1
    · rw [if_neg h2] at h; exact absurd h h2
theorem clNum_bd {c : ClV} (h : clNum c = true) : (0 ≤ c.setup ∧ c.setup ≤ 1000000) ∧ (0 ≤ c.rate ∧ c.rate ≤ 1000000) ∧ (0 ≤ c.first ∧ c.first ≤ 86400000) ∧ 1 ≤ c.step ∧ c.step ≤ 86400000 := by
  unfold clNum inB at h
  simp only [Bool.and_eq_true, decide_eq_true_eq] at h
  omega
/-- What a search finds in classes that stand in their order. -/
def Found (l : List ClV) (s : ByteArray) (i : Nat) (f : Bool) : Prop := i ≤ l.length ∧ ((f = true ∧ ∃ c, l[i]? = some c ∧ clsAt l (nb s) = some c) ∨ (f = false ∧ clsAt l (nb s) = none))
theorem found_of {l : List ClV} (hs : Srt l) {s : ByteArray} {i : Nat} (h1 : ∀ (j : Nat) (c : ClV), j < i → l[j]? = some c → cmpS c.pre s < 0) (h2 : ∀ (j : Nat) (c : ClV), i ≤ j → l[j]? = some c → ¬ cmpS c.pre s < 0) (hi : i ≤ l.length) :
    Found l s i ((l[i]?).elim false (fun c => cmpS c.pre s == 0)) := by
  refine ⟨hi, ?_⟩
  have low : ∀ (j : Nat) (c : ClV), j < i → l[j]? = some c → ¬ nb c.pre = nb s := fun j c hj hc e => by
    have := h1 j c hj hc
    rw [cmpS_zero.2 e] at this
    exact absurd this (by decide)
  cases hc : l[i]? with
  | none =>
    right
    refine ⟨rfl, ?_⟩
    unfold clsAt
    rw [List.find?_eq_none]
    intro c hm
    obtain ⟨j, hj⟩ := List.mem_iff_getElem?.1 hm
    have hjl := (List.getElem?_eq_some_iff.1 hj).1
    have hil : l.length ≤ i := List.getElem?_eq_none_iff.1 hc
    have := low j c (by omega) hj
    simpa using this
  | some c =>
    show ((cmpS c.pre s == 0) = true ∧ _) ∨ ((cmpS c.pre s == 0) = false ∧ _)
    by_cases e : cmpS c.pre s = 0
    · left
      refine ⟨by simpa using e, c, rfl, ?_⟩
      unfold clsAt
      rw [List.find?_eq_some_iff_getElem]
      obtain ⟨hl, hg⟩ := List.getElem?_eq_some_iff.1 hc
      refine ⟨by simpa using cmpS_zero.1 e, i, hl, hg, fun j hj => ?_⟩
      have := low j l[j] hj (List.getElem?_eq_getElem (by omega))
      simpa using this
    · right
      refine ⟨by simpa using e, ?_⟩
      unfold clsAt
      rw [List.find?_eq_none]
      intro c' hm
      obtain ⟨j, hj⟩ := List.mem_iff_getElem?.1 hm
      have hne : ¬ nb c'.pre = nb s := by
        rcases Nat.lt_trichotomy j i with h | h | h
        · exact low j c' h hj
        · subst h
          rw [hc] at hj
          injection hj with hj
          subst hj
          exact fun e2 => e (cmpS_zero.2 e2)
        · intro e2
          have h3 := hs i j c c' h hc hj
          rw [cmpS_eqr e2] at h3
          exact h2 i c (Nat.le_refl _) hc h3
      simpa using hne

/-! Prices. -/
def stepsOf (c : ClV) (talk : Int) : Int := if 0 < talk - c.first then (if 0 < (talk - c.first) % c.step then (talk - c.first) / c.step + 1 else (talk - c.first) / c.step) else 0
theorem steps_eq {c : ClV} (h : 1 ≤ c.step) (talk : Int) : stepsOf c talk = (max 0 (talk - c.first) + c.step - 1) / c.step := by
  unfold stepsOf
  by_cases h0 : 0 < talk - c.first
  · rw [if_pos h0]
    generalize talk - c.first = v at *
    rw [show max 0 v = v by omega]
    have hd := Int.mul_ediv_add_emod v c.step
    have hm1 := Int.emod_nonneg v (show c.step ≠ 0 by omega)
    have hm2 := Int.emod_lt_of_pos v (show 0 < c.step by omega)
    generalize v / c.step = q at *
    generalize v % c.step = r at *
    by_cases hr : 0 < r
    · rw [if_pos hr]
      symm
      rw [show v + c.step - 1 = (r - 1) + c.step * (q + 1) by rw [Int.mul_add]; omega, Int.add_mul_ediv_left _ _ (by omega), Int.ediv_eq_zero_of_lt (by omega) (by omega)]
      omega
    · rw [if_neg hr]
      symm
      rw [show v + c.step - 1 = (c.step - 1) + c.step * q by omega, Int.add_mul_ediv_left _ _ (by omega), Int.ediv_eq_zero_of_lt (by omega) (by omega)]
      omega
  · rw [if_neg h0, show max 0 (talk - c.first) = 0 by omega]
    symm
    exact Int.ediv_eq_zero_of_lt (by omega) (by omega)
theorem steps_bd {c : ClV} (h : clNum c = true) {talk : Int} (h1 : 0 ≤ talk) (h2 : talk ≤ 86400000) : 0 ≤ stepsOf c talk ∧ stepsOf c talk ≤ 86400000 := by
  obtain ⟨_, _, b3, b4, b5⟩ := clNum_bd h
  rw [steps_eq b4]
  constructor
  · exact Int.ediv_nonneg (by omega) (by omega)
  · have := Int.ediv_lt_of_lt_mul (a := max 0 (talk - c.first) + c.step - 1) (b := 86400001) (c := c.step) (by omega) (by omega)
    omega
theorem price_bd {c : ClV} (h : clNum c = true) {talk : Int} (h1 : 0 ≤ talk) (h2 : talk ≤ 86400000) : 0 ≤ c.rate * stepsOf c talk ∧ c.rate * stepsOf c talk ≤ 86400000000000 := by
  obtain ⟨_, b2, _⟩ := clNum_bd h
  obtain ⟨s1, s2⟩ := steps_bd h h1 h2
  refine ⟨Int.mul_nonneg b2.1 s1, ?_⟩
  have := Int.mul_le_mul b2.2 s2 s1 (by omega)
  omega

/-! Payers. -/
def pairsOf (l : List PyV) : List (ByteArray × ByteArray) := l.flatMap fun p => p.nums.map fun n => (n, p.key)
def lastOf (ps : List (ByteArray × ByteArray)) (k : ByteArray) : Option ByteArray := (ps.reverse.find? fun p => nb p.1 == nb k).map (·.2)
theorem lastOf_nil (k : ByteArray) : lastOf [] k = none := rfl
theorem lastOf_snoc (ps : List (ByteArray × ByteArray)) (n v k : ByteArray) : lastOf (ps ++ [(n, v)]) k = if nb n = nb k then some v else lastOf ps k := by
  unfold lastOf
  rw [List.reverse_append]
  show (List.find? _ ((n, v) :: ps.reverse)).map _ = _
  rw [List.find?_cons]
  by_cases e : nb n = nb k
  · rw [if_pos e]
    have : (nb (n, v).1 == nb k) = true := by simpa using e
    rw [this]; rfl
  · rw [if_neg e]
    have : (nb (n, v).1 == nb k) = false := by simpa using e
    rw [this]
def Dist (l : List ByteArray) : Prop := l.Pairwise fun a b => nb a ≠ nb b
theorem find_one (p : ByteArray × ByteArray) (ps : List (ByteArray × ByteArray)) (k : ByteArray) : (p :: ps).find? (fun p => nb p.1 == nb k) = if nb p.1 = nb k then some p else ps.find? (fun p => nb p.1 == nb k) := by
  rw [List.find?_cons]
  by_cases e : nb p.1 = nb k
  · rw [if_pos e, beq_iff_eq.2 e]
  · rw [if_neg e, beq_eq_false_iff_ne.2 e]
theorem find_rev {ps : List (ByteArray × ByteArray)} (h : Dist (ps.map (·.1))) (k : ByteArray) : ps.reverse.find? (fun p => nb p.1 == nb k) = ps.find? (fun p => nb p.1 == nb k) := by
  induction ps with
  | nil => rfl
  | cons p ps ih =>
    unfold Dist at h
    rw [List.map_cons, List.pairwise_cons] at h
    rw [List.reverse_cons, List.find?_append, ih h.2, find_one, find_one]
    by_cases e : nb p.1 = nb k
    · have e2 : ps.find? (fun p => nb p.1 == nb k) = none := by
        rw [List.find?_eq_none]
        intro q hq
        have := h.1 q.1 (List.mem_map.2 ⟨q, hq, rfl⟩)
        rw [e] at this
        simpa using fun h2 : nb q.1 = nb k => this h2.symm
      rw [e2, if_pos e, if_pos e]
      rfl
    · rw [if_neg e, if_neg e]
      exact Option.or_none
theorem memS_false {L : List ByteArray} {s : ByteArray} (h : memS L s = false) : ∀ x ∈ L, nb x ≠ nb s := by
  intro x hx
  unfold memS at h
  rw [List.any_eq_false] at h
  simpa using h x hx
theorem nums_dist {had : List ByteArray} (hd : Dist had) {ns : List ByteArray} (h : ∀ j, j < ns.length → numAt had ns j = 0) : Dist (had ++ ns) := by
  have step : ∀ k, k ≤ ns.length → Dist (had ++ ns.take k) := by
    intro k
    induction k with
    | zero => intro _; rw [List.take_zero, List.append_nil]; exact hd
    | succ k ih =>
      intro hk
      have hs : ns[k]? = some ns[k] := List.getElem?_eq_getElem (by omega)
      have h0 := h k (by omega)
      cases h1 : phOk (nb ns[k])
      · rw [numAt_3 hs h1] at h0; exact absurd h0 (by decide)
      · cases h2 : memS (had ++ ns.take k) ns[k]
        · rw [take_snoc' hs, ← List.append_assoc]
          unfold Dist
          rw [List.pairwise_append]
          refine ⟨ih (by omega), List.pairwise_singleton _ _, fun a ha b hb => ?_⟩
          rw [List.mem_singleton.1 hb]
          exact memS_false h2 a ha
        · rw [numAt_6 hs h1 h2] at h0; exact absurd h0 (by decide)
  have := step ns.length (Nat.le_refl _)
  rwa [List.take_of_length_le (Nat.le_refl _)] at this
theorem pays_dist {l : List PyV} (hn : ∀ p ∈ l, p.nums.length = p.nn) (h : pysE l = 0) : Dist (l.flatMap (·.nums)) := by
  unfold pysE at h
  by_cases h1 : 500 < l.length
  · rw [if_pos h1] at h; exact absurd h (by decide)
  · rw [if_neg h1] at h
    have hall := fstE_all h
    have step : ∀ k, k ≤ l.length → Dist (hadN l k) := by
      intro k
      induction k with
      | zero => intro _; exact List.Pairwise.nil
      | succ k ih =>
        intro hk
        have hs : l[k]? = some l[k] := List.getElem?_eq_getElem (by omega)
        rw [hadN_succ hs]
        refine nums_dist (ih (by omega)) ?_
        rw [hn _ (List.getElem_mem _)]
        have h0 := hall k (by omega)
        cases h2 : keyOk (nb l[k].key)
        · rw [payAt_5 hs h2] at h0; exact absurd h0 (by decide)
        · rw [payAt_last hs h2] at h0
          split at h0
          · exact absurd h0 (by decide)
          · split at h0
            · exact absurd h0 (by decide)
            · exact fstE_all h0
    have := step l.length (Nat.le_refl _)
    unfold hadN at this
    rwa [List.take_of_length_le (Nat.le_refl _)] at this
theorem pairs_keys (l : List PyV) : (pairsOf l).map (·.1) = l.flatMap (·.nums) := by
  unfold pairsOf
  rw [List.map_flatMap]
  congr 1
  funext p
  rw [List.map_map]
  exact List.map_id _
theorem pairs_find (l : List PyV) (k : ByteArray) : ((pairsOf l).find? (fun p => nb p.1 == nb k)).map (·.2) = (payerOf l (nb k)).map (·.key) := by
  induction l with
  | nil => rfl
  | cons p l ih =>
    have e0 : pairsOf (p :: l) = (p.nums.map fun n => (n, p.key)) ++ pairsOf l := by unfold pairsOf; rw [List.flatMap_cons]
    rw [e0, List.find?_append]
    unfold payerOf at ih ⊢
    rw [List.find?_cons, List.find?_map]
    show (((p.nums.find? (fun n => nb n == nb k)).map fun n => (n, p.key)).or _).map _ = _
    cases h : p.nums.find? (fun n => nb n == nb k) with
    | none =>
      have : p.nums.any (fun x => nb x == nb k) = false := by
        rw [List.any_eq_false]
        intro x hx
        exact List.find?_eq_none.1 h x hx
      rw [this]
      exact ih
    | some n =>
      have : p.nums.any (fun x => nb x == nb k) = true := by
        rw [List.any_eq_true]
        exact ⟨n, List.mem_of_find?_eq_some h, by have := List.find?_some h; exact this⟩
      rw [this]
      rfl
/-- Right payers: who was put last under a number is the first one who has it. -/
theorem payer_last {l : List PyV} (hn : ∀ p ∈ l, p.nums.length = p.nn) (h : pysE l = 0) (k : ByteArray) : lastOf (pairsOf l) k = (payerOf l (nb k)).map (·.key) := by
  unfold lastOf
  rw [find_rev (by rw [pairs_keys]; exact pays_dist hn h), pairs_find]
end
end Go.Proofs.YtlkibeckfpjccaaGreatDoor
/- Records as they lie in memory, and what is wrong with them; what is charged, in plain Lean. Conditions: none. -/
namespace Go.Proofs.YtlkibeckfpjccaaGreatDoor
section
open Go.RowKit

/-- A record. -/
structure RcV where
  id : ByteArray
  frm : ByteArray
  too : ByteArray
  at_ : Int
  ring : Int
  talk : Int
  how : Int
  car : ByteArray
def RcV.row (r : RcV) : List Value := [.string r.id, .string r.frm, .string r.too, .int .i64 r.at_, .int .i64 r.ring, .int .i64 r.talk, .int .i64 r.how, .string r.car]
theorem RcV.row_len (r : RcV) : r.row.length = 8 := rfl
/-- What is known of a record whatever its errors. -/
def RcOk (r : RcV) : Prop := r.id.size ≤ 1000 ∧ r.frm.size ≤ 1000 ∧ r.too.size ≤ 1000 ∧ r.car.size ≤ 1000 ∧ -1152921504606846976 ≤ r.at_ ∧ r.at_ ≤ 1152921504606846976
def Rcs (w : World) (lo : Nat) (A : Option Addr) (n c : Nat) (l : List RcV) : Prop := Recs RcV.row 8 w lo A n c l ∧ ∀ r ∈ l, RcOk r
theorem Rcs.grown {w w' : World} {lo : Nat} {A : Option Addr} {n c : Nat} {l : List RcV} (h : Rcs w lo A n c l) {r : Option Nat} (hg : w.grownBy w' r) (hr : ∀ g, r = some g → g < lo) : Rcs w' lo A n c l := ⟨h.1.grown hg hr, h.2⟩
/-- The same with longer strings (what is read of a text). -/
def RcOkL (r : RcV) : Prop := r.id.size ≤ 1000000 ∧ r.frm.size ≤ 1000000 ∧ r.too.size ≤ 1000000 ∧ r.car.size ≤ 1000000 ∧ -1152921504606846976 ≤ r.at_ ∧ r.at_ ≤ 1152921504606846976
theorem RcOk.l {r : RcV} (h : RcOk r) : RcOkL r := ⟨Nat.le_trans h.1 (by decide), Nat.le_trans h.2.1 (by decide), Nat.le_trans h.2.2.1 (by decide), Nat.le_trans h.2.2.2.1 (by decide), h.2.2.2.2⟩
def RcsL (w : World) (lo : Nat) (A : Option Addr) (n c : Nat) (l : List RcV) : Prop := Recs RcV.row 8 w lo A n c l ∧ ∀ r ∈ l, RcOkL r
theorem Rcs.l {w : World} {lo : Nat} {A : Option Addr} {n c : Nat} {l : List RcV} (h : Rcs w lo A n c l) : RcsL w lo A n c l := ⟨h.1, fun r hr => (h.2 r hr).l⟩
/-- The order of records. -/
def rcCmp (a b : RcV) : Int := if a.at_ = b.at_ then cmpS a.id b.id else if a.at_ < b.at_ then -1 else 1
def rcNum (r : RcV) : Bool := momB r.at_ && inB r.ring 0 86400000 && inB r.talk 0 86400000
def rcCar (r : RcV) : Bool := decide (nb r.car = []) || keyOk (nb r.car)
def rcAt (l : List RcV) (i : Nat) : Int := (l[i]?).elim 0 fun r =>
  if keyOk (nb r.id) then (if phOk (nb r.frm) && phOk (nb r.too) then (if rcNum r then (if inB r.how 1 4 then (if (r.how == 1) == decide (0 < r.talk) then (if rcCar r then
    (if decide (0 < i) && (l[i - 1]?).elim false (fun b => decide (0 ≤ rcCmp b r)) then 7 else 0) else 5) else 3) else 4) else 1) else 3) else 5
/-- Has one of the first k records an Id that an earlier one has? -/
def dupB (l : List RcV) : Nat → Bool
  | 0 => false
  | k + 1 => dupB l k || (l[k]?).elim false (fun r => memS ((l.take k).map (·.id)) r.id)
def rcsE (l : List RcV) : Int := if 3000 < l.length then 2 else if fstE (rcAt l) l.length = 0 then (if dupB l l.length then 6 else 0) else fstE (rcAt l) l.length
section
variable {l : List RcV} {i : Nat} {z b : RcV}
theorem rcAt_5 (h : l[i]? = some z) (h1 : keyOk (nb z.id) = false) : rcAt l i = 5 := by simp only [rcAt, h, Option.elim, h1]; rfl
theorem rcAt_3 (h : l[i]? = some z) (h1 : keyOk (nb z.id) = true) (h2 : (phOk (nb z.frm) && phOk (nb z.too)) = false) : rcAt l i = 3 := by simp only [rcAt, h, Option.elim, h1, h2]; rfl
theorem rcAt_1 (h : l[i]? = some z) (h1 : keyOk (nb z.id) = true) (h2 : (phOk (nb z.frm) && phOk (nb z.too)) = true) (h3 : rcNum z = false) : rcAt l i = 1 := by simp only [rcAt, h, Option.elim, h1, h2, h3]; rfl
theorem rcAt_4 (h : l[i]? = some z) (h1 : keyOk (nb z.id) = true) (h2 : (phOk (nb z.frm) && phOk (nb z.too)) = true) (h3 : rcNum z = true) (h4 : inB z.how 1 4 = false) : rcAt l i = 4 := by simp only [rcAt, h, Option.elim, h1, h2, h3, h4]; rfl
theorem rcAt_3b (h : l[i]? = some z) (h1 : keyOk (nb z.id) = true) (h2 : (phOk (nb z.frm) && phOk (nb z.too)) = true) (h3 : rcNum z = true) (h4 : inB z.how 1 4 = true) (h5 : ((z.how == 1) == decide (0 < z.talk)) = false) : rcAt l i = 3 := by
  simp only [rcAt, h, Option.elim, h1, h2, h3, h4, h5]; rfl
theorem rcAt_5b (h : l[i]? = some z) (h1 : keyOk (nb z.id) = true) (h2 : (phOk (nb z.frm) && phOk (nb z.too)) = true) (h3 : rcNum z = true) (h4 : inB z.how 1 4 = true) (h5 : ((z.how == 1) == decide (0 < z.talk)) = true) (h6 : rcCar z = false) : rcAt l i = 5 := by
  simp only [rcAt, h, Option.elim, h1, h2, h3, h4, h5, h6]; rfl
theorem rcAt_7 (h : l[i]? = some z) (h1 : keyOk (nb z.id) = true) (h2 : (phOk (nb z.frm) && phOk (nb z.too)) = true) (h3 : rcNum z = true) (h4 : inB z.how 1 4 = true) (h5 : ((z.how == 1) == decide (0 < z.talk)) = true) (h6 : rcCar z = true) (hi : 0 < i) (hb : l[i - 1]? = some b) (h7 : 0 ≤ rcCmp b z) : rcAt l i = 7 := by
  simp only [rcAt, h, Option.elim, h1, h2, h3, h4, h5, h6, hb, decide_eq_true hi, decide_eq_true h7]; rfl
theorem rcAt_e (h : l[i]? = some z) (h1 : keyOk (nb z.id) = true) (h2 : (phOk (nb z.frm) && phOk (nb z.too)) = true) (h3 : rcNum z = true) (h4 : inB z.how 1 4 = true) (h5 : ((z.how == 1) == decide (0 < z.talk)) = true) (h6 : rcCar z = true) (hb : l[i - 1]? = some b) (h7 : ¬ 0 ≤ rcCmp b z) : rcAt l i = 0 := by
  simp only [rcAt, h, Option.elim, h1, h2, h3, h4, h5, h6, hb, decide_eq_false h7, Bool.and_false]; rfl
theorem rcAt_z (h : l[i]? = some z) (h1 : keyOk (nb z.id) = true) (h2 : (phOk (nb z.frm) && phOk (nb z.too)) = true) (h3 : rcNum z = true) (h4 : inB z.how 1 4 = true) (h5 : ((z.how == 1) == decide (0 < z.talk)) = true) (h6 : rcCar z = true) (hi : ¬ 0 < i) : rcAt l i = 0 := by
  simp only [rcAt, h, Option.elim, h1, h2, h3, h4, h5, h6, decide_eq_false hi, Bool.false_and]; rfl
end
/-- How many of the first k records have an Id of their own. -/
def ownC (l : List RcV) : Nat → Nat
  | 0 => 0
  | k + 1 => if (l[k]?).elim false (fun r => memS ((l.take k).map (·.id)) r.id) then ownC l k else ownC l k + 1
theorem ownC_le (l : List RcV) (k : Nat) : ownC l k ≤ k := by
  induction k with
  | zero => exact Nat.le_refl _
  | succ k ih => unfold ownC; split <;> omega
theorem ownC_dup (l : List RcV) (k : Nat) : decide (ownC l k < k) = dupB l k := by
  induction k with
  | zero => rfl
  | succ k ih =>
    unfold ownC dupB
    rw [← ih]
    have := ownC_le l k
    cases (l[k]?).elim false (fun r => memS ((l.take k).map (·.id)) r.id)
    · rw [if_neg (by decide), Bool.or_false, Bool.eq_iff_iff, decide_eq_true_eq, decide_eq_true_eq]; omega
    · rw [if_pos rfl, Bool.or_true, decide_eq_true_eq]; omega

/-! What is charged. -/
/-- A charge. -/
structure ChV where
  rec_ : ByteArray
  pay : ByteArray
  cls : ByteArray
  free : Int
  cost : Int
def ChV.row (c : ChV) : List Value := [.string c.rec_, .string c.pay, .string c.cls, .int .i64 c.free, .int .i64 c.cost]
theorem ChV.row_len (c : ChV) : c.row.length = 5 := rfl
/-- Who pays for a record, and its class; none: nobody, or it was not talked in this month. -/
def paysFor (t : TfV) (p : List PyV) (month : Int) (r : RcV) : Option (ByteArray × ClV) :=
  if r.talk = 0 ∨ r.at_ / 2592000000 ≠ month then none else (payerOf p (nb r.frm)).bind fun y => (clsOf t.cl (nb r.too)).map fun c => (y.key, c)
def freeOf (t : TfV) (used : ByteArray → Int) (who : ByteArray) (c : ClV) (r : RcV) : Int := if t.ins.any (fun x => nb x == nb c.name) then min (t.free - used who) r.talk else 0
def chgOf (t : TfV) (used : ByteArray → Int) (who : ByteArray) (c : ClV) (r : RcV) : ChV := ⟨r.id, who, c.name, freeOf t used who c r, priceOf c (r.talk - freeOf t used who c r)⟩
def addU (used : ByteArray → Int) (who : ByteArray) (n : Int) (k : ByteArray) : Int := if nb who = nb k then used who + n else used k
/-- The charges of the first k records, and what was free till then. -/
def chgTo (t : TfV) (p : List PyV) (month : Int) (l : List RcV) : Nat → List (ChV × RcV) × (ByteArray → Int)
  | 0 => ([], fun _ => 0)
  | k + 1 => match l[k]? with
    | none => chgTo t p month l k
    | some r => match paysFor t p month r with
      | none => chgTo t p month l k
      | some (who, c) => ((chgTo t p month l k).1 ++ [(chgOf t (chgTo t p month l k).2 who c r, r)], addU (chgTo t p month l k).2 who (freeOf t (chgTo t p month l k).2 who c r))
section
variable {t : TfV} {p : List PyV} {month : Int} {l : List RcV} {k : Nat} {r : RcV}
theorem chgTo_skip (h : l[k]? = some r) (hp : paysFor t p month r = none) : chgTo t p month l (k + 1) = chgTo t p month l k := by
  rw [chgTo, h]; simp only [hp]
theorem chgTo_add {who : ByteArray} {c : ClV} (h : l[k]? = some r) (hp : paysFor t p month r = some (who, c)) :
    chgTo t p month l (k + 1) = ((chgTo t p month l k).1 ++ [(chgOf t (chgTo t p month l k).2 who c r, r)], addU (chgTo t p month l k).2 who (freeOf t (chgTo t p month l k).2 who c r)) := by
  rw [chgTo, h]; simp only [hp]
theorem chgTo_mem : ∀ (k : Nat) (x : ChV × RcV), x ∈ (chgTo t p month l k).1 → x.2 ∈ l ∧ x.1.rec_ = x.2.id
  | 0, x, h => by cases h
  | k + 1, x, h => by
    cases hl : l[k]? with
    | none => rw [chgTo, hl] at h; exact chgTo_mem k x h
    | some r =>
      cases hp : paysFor t p month r with
      | none => rw [chgTo_skip hl hp] at h; exact chgTo_mem k x h
      | some q =>
        obtain ⟨who, c⟩ := q
        rw [chgTo_add hl hp] at h
        rcases List.mem_append.1 h with h | h
        · exact chgTo_mem k x h
        · rw [List.mem_singleton.1 h]; exact ⟨mem_of_get hl, rfl⟩
theorem paysFor_some {who : ByteArray} {c : ClV} (h : paysFor t p month r = some (who, c)) : r.talk ≠ 0 ∧ r.at_ / 2592000000 = month ∧ (∃ y, payerOf p (nb r.frm) = some y ∧ y.key = who) ∧ clsOf t.cl (nb r.too) = some c := by
  unfold paysFor at h
  split at h
  · cases h
  · rename_i hn
    cases h1 : payerOf p (nb r.frm) with
    | none => rw [h1] at h; cases h
    | some y =>
      rw [h1] at h
      cases h2 : clsOf t.cl (nb r.too) with
      | none => rw [h2] at h; cases h
      | some c' =>
        rw [h2] at h
        simp only [Option.bind_some, Option.map_some, Option.some.injEq, Prod.mk.injEq] at h
        obtain ⟨rfl, rfl⟩ := h
        exact ⟨fun e => hn (.inl e), by
          rcases Decidable.em (r.at_ / 2592000000 = month) with e | e
          · exact e
          · exact absurd (.inr e) hn, ⟨y, rfl, rfl⟩, rfl⟩
/-- What was free stays within what is free. -/
theorem used_bd (ht : 0 ≤ t.free) (hr : ∀ r ∈ l, 0 ≤ r.talk) : ∀ (k : Nat) (w : ByteArray), 0 ≤ (chgTo t p month l k).2 w ∧ (chgTo t p month l k).2 w ≤ t.free
  | 0, w => ⟨Int.le_refl _, ht⟩
  | k + 1, w => by
    cases hl : l[k]? with
    | none => rw [chgTo, hl]; exact used_bd ht hr k w
    | some r =>
      cases hp : paysFor t p month r with
      | none => rw [chgTo_skip hl hp]; exact used_bd ht hr k w
      | some q =>
        obtain ⟨who, c⟩ := q
        rw [chgTo_add hl hp]
        show 0 ≤ addU _ _ _ w ∧ addU _ _ _ w ≤ t.free
        have h1 := used_bd ht hr k who
        have h2 := used_bd ht hr k w
        have h3 := hr r (mem_of_get hl)
        unfold addU freeOf
        split
        · split <;> omega
        · exact h2
theorem free_bd (ht : 0 ≤ t.free) (hr : ∀ r ∈ l, 0 ≤ r.talk) (k : Nat) (hl : l[k]? = some r) (who : ByteArray) (c : ClV) : 0 ≤ freeOf t (chgTo t p month l k).2 who c r ∧ freeOf t (chgTo t p month l k).2 who c r ≤ r.talk := by
  have h1 := used_bd (p := p) (month := month) ht hr k who
  have h3 := hr r (mem_of_get hl)
  unfold freeOf
  split <;> omega
end
end
end Go.Proofs.YtlkibeckfpjccaaGreatDoor
/- Records, charges, invoices: plain laws: right records have their own Ids; sums of charges. Conditions: none. -/
namespace Go.Proofs.YtlkibeckfpjccaaGreatDoor
section

/-- What a right record is. -/
def RcRight (z : RcV) : Prop := keyOk (nb z.id) = true ∧ (phOk (nb z.frm) && phOk (nb z.too)) = true ∧ rcNum z = true ∧ inB z.how 1 4 = true ∧ ((z.how == 1) == decide (0 < z.talk)) = true
theorem rcAt_right {l : List RcV} {i : Nat} {z : RcV} (h : l[i]? = some z) (h0 : rcAt l i = 0) : RcRight z := by
  cases h1 : keyOk (nb z.id)
  · rw [rcAt_5 h h1] at h0; exact absurd h0 (by decide)
  · cases h2 : (phOk (nb z.frm) && phOk (nb z.too))
    · rw [rcAt_3 h h1 h2] at h0; exact absurd h0 (by decide)
    · cases h3 : rcNum z
      · rw [rcAt_1 h h1 h2 h3] at h0; exact absurd h0 (by decide)
      · cases h4 : inB z.how 1 4
        · rw [rcAt_4 h h1 h2 h3 h4] at h0; exact absurd h0 (by decide)
        · cases h5 : ((z.how == 1) == decide (0 < z.talk))
          · rw [rcAt_3b h h1 h2 h3 h4 h5] at h0; exact absurd h0 (by decide)
          · exact ⟨h1, h2, h3, h4, h5⟩
theorem RcRight.talk {z : RcV} (h : RcRight z) : 0 ≤ z.talk ∧ z.talk ≤ 86400000 ∧ (z.how = 1 ↔ 0 < z.talk) ∧ 0 ≤ z.at_ ∧ z.at_ ≤ 345686399999 ∧ 0 ≤ z.ring ∧ z.ring ≤ 86400000 := by
  obtain ⟨_, _, h3, _, h5⟩ := h
  unfold rcNum momB inB at h3
  simp only [Bool.and_eq_true, decide_eq_true_eq] at h3
  obtain ⟨⟨⟨a1, a2⟩, r1, r2⟩, t1, t2⟩ := h3
  refine ⟨t1, t2, ?_, a1, a2, r1, r2⟩
  rw [beq_iff_eq] at h5
  constructor
  · intro e
    rw [show (z.how == 1) = true from by rw [e]; rfl] at h5
    exact of_decide_eq_true h5.symm
  · intro e
    rw [decide_eq_true e, beq_iff_eq] at h5
    exact h5
theorem dup_dist {l : List RcV} : ∀ (k : Nat), k ≤ l.length → dupB l k = false → Dist ((l.take k).map (·.id))
  | 0, _, _ => by rw [List.take_zero]; exact List.Pairwise.nil
  | k + 1, hk, h => by
    have hs : l[k]? = some l[k] := List.getElem?_eq_getElem (by omega)
    unfold dupB at h
    rw [hs, Bool.or_eq_false_iff] at h
    obtain ⟨h1, h2⟩ := h
    rw [take_snoc' hs, List.map_append]
    unfold Dist
    rw [List.pairwise_append]
    refine ⟨dup_dist k (by omega) h1, List.pairwise_singleton _ _, fun a ha b hb => ?_⟩
    rw [List.mem_singleton.1 hb]
    exact memS_false h2 a ha
theorem rcs_right {l : List RcV} (h : rcsE l = 0) : l.length ≤ 3000 ∧ (∀ r ∈ l, RcRight r) ∧ Dist (l.map (·.id)) := by
  unfold rcsE at h
  by_cases h1 : 3000 < l.length
  · rw [if_pos h1] at h; exact absurd h (by decide)
  · rw [if_neg h1] at h
    by_cases h2 : fstE (rcAt l) l.length = 0
    · rw [if_pos h2] at h
      refine ⟨by omega, fun r hr => ?_, ?_⟩
      · obtain ⟨i, hi⟩ := List.mem_iff_getElem?.1 hr
        have hl := (List.getElem?_eq_some_iff.1 hi).1
        exact rcAt_right hi (fstE_all h2 i hl)
      · cases h3 : dupB l l.length
        · have := dup_dist l.length (Nat.le_refl _) h3
          rwa [List.take_of_length_le (Nat.le_refl _)] at this
        · rw [h3, if_pos rfl] at h; exact absurd h (by decide)
    · rw [if_neg h2] at h; exact absurd h h2
/-- In records with Ids of their own, a record is found by its Id. -/
theorem rc_find {l : List RcV} (hd : Dist (l.map (·.id))) {r : RcV} (hr : r ∈ l) {s : ByteArray} (hs : nb s = nb r.id) : ∃ k : Nat, idxP (fun x : RcV => nb x.id == nb s) l = k ∧ l[k]? = some r := by
  obtain ⟨k, hk⟩ := List.mem_iff_getElem?.1 hr
  refine ⟨k, idxP_some (p := fun x : RcV => nb x.id == nb s) ?_ hk (by rw [hs]; exact beq_self_eq_true _), hk⟩
  rw [List.all_eq_true]
  intro x hx
  obtain ⟨j, hj⟩ := List.mem_iff_getElem?.1 hx
  rw [List.getElem?_take] at hj
  by_cases hlt : j < k
  · rw [if_pos hlt] at hj
    have h1 := (List.getElem?_eq_some_iff.1 hj).1
    have h2 := (List.getElem?_eq_some_iff.1 hk).1
    have := List.pairwise_iff_getElem.1 hd j k (by simpa using h1) (by simpa using h2) hlt
    rw [List.getElem_map, List.getElem_map, (List.getElem?_eq_some_iff.1 hj).2, (List.getElem?_eq_some_iff.1 hk).2] at this
    rw [hs]
    simpa using this
  · rw [if_neg hlt] at hj; cases hj

/-! Bounds of prices. -/
theorem priceOf_bd {c : ClV} (h : clNum c = true) {talk : Int} (h1 : 0 ≤ talk) (h2 : talk ≤ 86400000) : 0 ≤ priceOf c talk ∧ priceOf c talk ≤ 86400001000000 := by
  unfold priceOf
  obtain ⟨b1, _, b3, b4, b5⟩ := clNum_bd h
  have := price_bd h h1 h2
  rw [steps_eq b4] at this
  split
  · omega
  · omega
/-- What is known of a charge with its record. -/
def ChOk (x : ChV × RcV) : Prop := 0 ≤ x.1.free ∧ x.1.free ≤ x.2.talk ∧ 0 ≤ x.1.cost ∧ x.1.cost ≤ 86400001000000
section
variable {t : TfV} {p : List PyV} {month : Int} {l : List RcV}
theorem chg_ok (ht : 0 ≤ t.free) (hc : ∀ c ∈ t.cl, clNum c = true) (hr : ∀ r ∈ l, RcRight r) (hcls : ∀ s c, clsOf t.cl s = some c → c ∈ t.cl) : ∀ (k : Nat) (x : ChV × RcV), x ∈ (chgTo t p month l k).1 → ChOk x
  | 0, x, h => by cases h
  | k + 1, x, h => by
    cases hl : l[k]? with
    | none => rw [chgTo, hl] at h; exact chg_ok ht hc hr hcls k x h
    | some r =>
      cases hp : paysFor t p month r with
      | none => rw [chgTo_skip hl hp] at h; exact chg_ok ht hc hr hcls k x h
      | some q =>
        obtain ⟨who, c⟩ := q
        rw [chgTo_add hl hp] at h
        rcases List.mem_append.1 h with h | h
        · exact chg_ok ht hc hr hcls k x h
        · rw [List.mem_singleton.1 h]
          have hrr := (hr r (mem_of_get hl)).talk
          have hf := free_bd (p := p) (month := month) ht (fun r h => (hr r h).talk.1) k hl who c
          have hcn := hc c (hcls _ _ (paysFor_some hp).2.2.2)
          have := priceOf_bd hcn (talk := r.talk - freeOf t (chgTo t p month l k).2 who c r) (by omega) (by omega)
          exact ⟨hf.1, hf.2, this.1, this.2⟩
end
theorem chgTo_len (t : TfV) (p : List PyV) (month : Int) (l : List RcV) : ∀ k, (chgTo t p month l k).1.length ≤ k
  | 0 => Nat.le_refl _
  | k + 1 => by
    have ih := chgTo_len t p month l k
    cases hl : l[k]? with
    | none => rw [chgTo, hl]; dsimp only; omega
    | some r =>
      cases hp : paysFor t p month r with
      | none => rw [chgTo_skip hl hp]; omega
      | some q =>
        obtain ⟨who, c⟩ := q
        rw [chgTo_add hl hp]
        simp; omega
def chgAll (t : TfV) (p : List PyV) (month : Int) (l : List RcV) : List (ChV × RcV) := (chgTo t p month l l.length).1

/-! Invoices. -/
structure InV where
  pay : ByteArray
  month : Int
  calls : Int
  talk : Int
  cents : Int
def InV.row (v : InV) : List Value := [.string v.pay, .int .i64 v.month, .int .i64 v.calls, .int .i64 v.talk, .int .i64 v.cents]
theorem InV.row_len (v : InV) : v.row.length = 5 := rfl
/-- Calls, talk and cost of the first k charges that somebody pays. -/
def inSum (ch : List (ChV × RcV)) (who : ByteArray) : Nat → Int × Int × Int
  | 0 => (0, 0, 0)
  | k + 1 => (ch[k]?).elim (inSum ch who k) fun x => if nb x.1.pay = nb who then ((inSum ch who k).1 + 1, (inSum ch who k).2.1 + x.2.talk, (inSum ch who k).2.2 + x.1.cost) else inSum ch who k
section
variable {ch : List (ChV × RcV)} {who : ByteArray} {k : Nat} {x : ChV × RcV}
theorem inSum_hit (h : ch[k]? = some x) (e : nb x.1.pay = nb who) : inSum ch who (k + 1) = ((inSum ch who k).1 + 1, (inSum ch who k).2.1 + x.2.talk, (inSum ch who k).2.2 + x.1.cost) := by
  rw [inSum, h]; simp only [Option.elim, if_pos e]
theorem inSum_miss (h : ch[k]? = some x) (e : ¬ nb x.1.pay = nb who) : inSum ch who (k + 1) = inSum ch who k := by
  rw [inSum, h]; simp only [Option.elim, if_neg e]
theorem inSum_bd (h : ∀ x ∈ ch, ChOk x ∧ x.2.talk ≤ 86400000) (who : ByteArray) : ∀ k : Nat, 0 ≤ (inSum ch who k).1 ∧ (inSum ch who k).1 ≤ k ∧ 0 ≤ (inSum ch who k).2.1 ∧ (inSum ch who k).2.1 ≤ 86400000 * k ∧ 0 ≤ (inSum ch who k).2.2 ∧ (inSum ch who k).2.2 ≤ 86400001000000 * k
  | 0 => by simp [inSum]
  | k + 1 => by
    have ih := inSum_bd h who k
    cases hc : ch[k]? with
    | none => rw [inSum, hc]; simp only [Option.elim]; omega
    | some x =>
      obtain ⟨⟨a1, a2, a3, a4⟩, a5⟩ := h x (mem_of_get hc)
      by_cases e : nb x.1.pay = nb who
      · rw [inSum_hit hc e]; dsimp only; omega
      · rw [inSum_miss hc e]; omega
end
def invOf (month : Int) (ch : List (ChV × RcV)) (who : ByteArray) : InV := ⟨who, month, (inSum ch who ch.length).1, (inSum ch who ch.length).2.1, (inSum ch who ch.length).2.2 / 1000⟩
def invTo (month : Int) (ch : List (ChV × RcV)) (p : List PyV) : Nat → List InV
  | 0 => []
  | k + 1 => invTo month ch p k ++ ((p[k]?).elim [] fun y => if 0 < (inSum ch y.key ch.length).1 then [invOf month ch y.key] else [])
section
variable {month : Int} {ch : List (ChV × RcV)} {p : List PyV} {k : Nat} {y : PyV}
theorem invTo_hit (h : p[k]? = some y) (e : 0 < (inSum ch y.key ch.length).1) : invTo month ch p (k + 1) = invTo month ch p k ++ [invOf month ch y.key] := by
  rw [invTo, h]; simp only [Option.elim, if_pos e]
theorem invTo_miss (h : p[k]? = some y) (e : ¬ 0 < (inSum ch y.key ch.length).1) : invTo month ch p (k + 1) = invTo month ch p k := by
  rw [invTo, h]; simp only [Option.elim, if_neg e, List.append_nil]
end
theorem invTo_len (month : Int) (ch : List (ChV × RcV)) (p : List PyV) : ∀ k, (invTo month ch p k).length ≤ k
  | 0 => Nat.le_refl _
  | k + 1 => by
    have ih := invTo_len month ch p k
    cases hl : p[k]? with
    | none => rw [invTo, hl]; simp; omega
    | some y =>
      by_cases e : 0 < (inSum ch y.key ch.length).1
      · rw [invTo_hit hl e]; simp; omega
      · rw [invTo_miss hl e]; omega

/-! Records of which nobody pays. -/
def paidB (t : TfV) (p : List PyV) (r : RcV) : Bool := (payerOf p (nb r.frm)).isSome && (clsOf t.cl (nb r.too)).isSome
def unpB (t : TfV) (p : List PyV) (r : RcV) : Bool := decide (0 < r.talk) && !paidB t p r
def unpTo (t : TfV) (p : List PyV) (l : List RcV) : Nat → List Int
  | 0 => []
  | k + 1 => unpTo t p l k ++ ((l[k]?).elim [] fun r => if unpB t p r then [(k : Int)] else [])
section
variable {t : TfV} {p : List PyV} {l : List RcV} {k : Nat} {r : RcV}
theorem unpTo_hit (h : l[k]? = some r) (e : unpB t p r = true) : unpTo t p l (k + 1) = unpTo t p l k ++ [(k : Int)] := by
  rw [unpTo, h]; simp only [Option.elim, e, if_true]
theorem unpTo_miss (h : l[k]? = some r) (e : unpB t p r = false) : unpTo t p l (k + 1) = unpTo t p l k := by
  rw [unpTo, h]; simp only [Option.elim, e, Bool.false_eq_true, if_false, List.append_nil]
end
theorem unpTo_len (t : TfV) (p : List PyV) (l : List RcV) : ∀ k, (unpTo t p l k).length ≤ k
  | 0 => Nat.le_refl _
  | k + 1 => by
    have ih := unpTo_len t p l k
    cases hl : l[k]? with
    | none => rw [unpTo, hl]; simp; omega
    | some y =>
      cases e : unpB t p y
      · rw [unpTo_miss hl e]; omega
      · rw [unpTo_hit hl e]; simp; omega
end
end Go.Proofs.YtlkibeckfpjccaaGreatDoor
/- Slices of records that a call makes. Conditions: none. -/
namespace Go.Proofs.YtlkibeckfpjccaaGreatDoor
section
open Go.RowKit

theorem flat_set1' {α : Type} {row : α → List Value} {k : Nat} (hrow : ∀ a, (row a).length = k) {l : List α} {i : Nat} {a a' : α} (hi : l[i]? = some a) {j : Nat} (hj : j < k) {u : Value} (hr : row a' = (row a).set j u) : (l.flatMap row).set (i * k + j) u = (l.set i a').flatMap row := by
  have h := flat_set (row := row) (k := k) hrow (by omega) hi (a' := a') (ys := [u]) j (by simp; omega) (by
    rw [hr, List.set_eq_take_append_cons_drop, if_pos (by rw [hrow]; exact hj)]; simp)
  have hil := (List.getElem?_eq_some_iff.1 hi).1
  have hle : (i + 1) * k ≤ l.length * k := Nat.mul_le_mul_right k hil
  rw [Nat.succ_mul] at hle
  rw [← h, List.set_eq_take_append_cons_drop, if_pos (by rw [flat_len hrow]; omega)]
  simp

theorem reads_at (w : World) (t : TypeId) (cs : List Value) (size : Nat) (h : cs.length = size) {g : Nat} (hg : w.heap.size = g) : Reads (w.alloc (.cells cs.toArray t)) g size (some ⟨g, 0, none⟩) 1 1 cs := by
  subst hg; exact Reads.one w t cs size h
/-- A slice of records of the call's own. -/
def OwnR {α : Type} (row : α → List Value) (k : Nat) (w : World) (lo : Nat) (e : TypeId) (A : Option Addr) (n c : Nat) (l : List α) : Prop := Own w lo e k A n c (l.flatMap row) ∧ l.length = n
section
variable {α : Type} {row : α → List Value} {k : Nat} {w w' : World} {lo lo' n c : Nat} {e : TypeId} {A : Option Addr} {l : List α}
theorem OwnR.recs (h : OwnR row k w lo e A n c l) : Recs row k w lo A n c l := ⟨h.1.reads, h.2⟩
theorem OwnR.nil (w : World) (lo : Nat) (e : TypeId) : OwnR row k w lo e none 0 0 [] := ⟨Own.nil _ _ _ _, rfl⟩
theorem OwnR.kept (h : OwnR row k w lo e A n c l) {r : Option Nat} (hg : w.grownBy w' r) (hne : ∀ g, r = some g → blkOf A ≠ some g) : OwnR row k w' lo e A n c l := ⟨h.1.kept hg hne, h.2⟩
theorem OwnR.low (h : OwnR row k w lo e A n c l) {r : Option Nat} (hg : w.grownBy w' r) (hr : ∀ g, r = some g → g < lo) : OwnR row k w' lo e A n c l :=
  h.kept hg (fun g e e' => by have := hr g e; have := (h.1.lt e').1; omega)
theorem OwnR.lower (h : OwnR row k w lo e A n c l) (hl : lo' ≤ lo) : OwnR row k w lo' e A n c l := ⟨h.1.lower hl, h.2⟩
theorem OwnR.alloc (h : OwnR row k w lo e A n c l) (o : Obj) : OwnR row k (w.alloc o) lo e A n c l := ⟨h.1.alloc o, h.2⟩
theorem OwnR.app {a : α} (h : OwnR row k w lo e A n c l) {A1 : Option Addr} {c1 n1 : Nat} (hn : n1 = n + 1) (h1 : Appended w lo e k A A1 n1 c1 (l.flatMap row ++ row a) w') : OwnR row k w' lo e A1 n1 c1 (l ++ [a]) := by
  subst hn
  refine ⟨?_, by simp [h.2]⟩
  rw [List.flatMap_append]
  simpa using h1.1
theorem OwnR.set1 {g i j p : Nat} {a a' : α} {u : Value} (hrow : ∀ a, (row a).length = k) (h : OwnR row k w lo e (some ⟨g, 0, none⟩) n c l) (hi : l[i]? = some a) (hj : j < k) (hr : row a' = (row a).set j u) (hp : p = i * k + j) : OwnR row k (w.setCell ⟨g, p, none⟩ u) lo e (some ⟨g, 0, none⟩) n c (l.set i a') := by
  subst hp
  refine ⟨?_, by simp [h.2]⟩
  rw [← flat_set1' hrow hi hj hr]
  exact h.1.stored _ u
end
end
end Go.Proofs.YtlkibeckfpjccaaGreatDoor
/- slices.SortFunc at structs in a row of the call's own, at any length: a sorted permutation. Over any program that bears the library's text. Conditions: the order is a strict weak one. -/
namespace Go.Proofs.YtlkibeckfpjccaaGreatDoor
section
open Go.Shelf Go.RowKit Go.Lib Go.Sort

section
variable {P : Program} {ρ : Ren} {α : Type} {row : α → List Value} {k : Nat} {e : TypeId} {lo g n c : Nat} {l : List α} {w : World}
theorem flatK_toList [Inhabited α] (hk : ∀ a, (row a).length = k) (l : List α) : (flatK row k l.toArray).toList = l.flatMap row := by
  apply List.ext_getElem?
  intro t
  rw [Array.getElem?_toList]
  by_cases ht : t < l.length * k
  · have hs : t < (flatK row k l.toArray).size := by simpa using ht
    have k0 : 0 < k := by
      rcases Nat.eq_zero_or_pos k with h | h
      · subst h; simp at ht
      · exact h
    have hq : t / k < l.length := Nat.div_lt_of_lt_mul (by rw [Nat.mul_comm]; exact ht)
    have hm := Nat.mod_lt t k0
    have e := flat_get hk l (t / k) (t % k) hm
    rw [show t / k * k + t % k = t by rw [Nat.mul_comm]; exact Nat.div_add_mod t k] at e
    rw [e, Array.getElem?_eq_getElem hs, ← getElem!_pos _ t hs, get_flatK _ _ _ t (by simpa using ht), List.getElem?_eq_getElem hq]
    have h1 : (l.toArray)[t / k]! = l[t / k] := by rw [getElem!_pos _ _ (by simpa using hq)]; simp
    rw [h1]
    show _ = (row l[t / k])[t % k]?
    rw [List.getElem?_eq_getElem (by rw [hk]; exact hm), getElem!_pos _ _ (by rw [hk]; exact hm)]
  · rw [Array.getElem?_eq_none (by simpa using Nat.le_of_not_lt ht), List.getElem?_eq_none (by rw [flat_len hk]; omega)]
theorem OwnR.holds [Inhabited α] (hk : ∀ a, (row a).length = k) (h : OwnR row k w lo e (some ⟨g, 0, none⟩) n c l) : HoldsK row k w g 0 l.toArray := by
  intro j hj
  have hj' : j < n * k := by rw [← h.2]; simpa using hj
  rw [Nat.zero_add]
  refine ⟨(h.1.cell hj').trans ?_, h.1.frozen j⟩
  rw [← flatK_toList hk l, Array.getElem?_toList, Array.getElem?_eq_getElem hj, ← getElem!_pos _ j hj]
  rfl
theorem OwnR.sorted [Inhabited α] (hk : ∀ a, (row a).length = k) (h : OwnR row k w lo e (some ⟨g, 0, none⟩) n c l) {d' : Array α} (hs : d'.size = l.length) (m : Nat) (os : Array Obj) :
    OwnR row k (sortWorldK row k w g 0 m d' os) lo e (some ⟨g, 0, none⟩) n c d'.toList ∧ w.grownBy (sortWorldK row k w g 0 m d' os) (some g) := by
  have hF : (flatK row k d').toList = d'.toList.flatMap row := by
    have := flatK_toList hk d'.toList
    simpa using this
  have hsz : (flatK row k d').size = n * k := by rw [size_flatK, hs, h.2]
  have hg : ∀ b, b ≠ g → b < w.heap.size → (sortWorldK row k w g 0 m d' os).heap[b]? = w.heap[b]? := by
    intro b hb hlt
    show (w.heap.modify g _ ++ os)[b]? = _
    rw [Array.getElem?_append_left (by simpa using hlt), Array.getElem?_modify, if_neg (Ne.symm hb)]
  have hsize : (sortWorldK row k w g 0 m d' os).heap.size = w.heap.size + os.size := by
    show (w.heap.modify g _ ++ os).size = _
    simp
  refine ⟨⟨⟨by rw [flat_len hk]; simp [hs, h.2], ?_⟩, by simpa [h.2] using hs⟩, ⟨rfl, rfl, rfl, by omega, fun b hb hne => hg b (fun e => hne (by rw [e])) hb⟩⟩
  rcases h.1.2 with ⟨hv, _⟩ | ⟨g', cap, cur, hv, hlo, hh, hnc, hcm, hcs, htk⟩
  · cases hv
  · injection hv with e1 e2 e3
    injection e1 with e1
    injection e1 with e1
    subst e1; subst e3
    have hlt : g < w.heap.size := Blk.lt (t := e) (cs := cur) hh
    refine .inr ⟨g, c, putCells id 0 (flatK row k d') cur, rfl, hlo, ?_, hnc, hcm, by simp [putCells, hcs], ?_⟩
    · show (w.heap.modify g _ ++ os)[g]? = _
      rw [Array.getElem?_append_left (by simpa using hlt), Array.getElem?_modify, if_pos rfl, hh]
      rfl
    · rw [← hF]
      apply List.ext_getElem?
      intro t
      rw [List.getElem?_take]
      by_cases ht : t < n * k
      · have htc : t < cur.size := by rw [hcs]; exact Nat.lt_of_lt_of_le ht (Nat.mul_le_mul_right _ hnc)
        have hs2 : t < (flatK row k d').size := by omega
        rw [if_pos ht, Array.getElem?_toList, Array.getElem?_toList, Array.getElem?_eq_getElem hs2, ← getElem!_pos _ t hs2]
        simp only [putCells, Array.getElem?_mapIdx, Array.getElem?_eq_getElem htc, Option.map_some, Nat.zero_add, Nat.sub_zero]
        rw [if_pos ⟨Nat.zero_le _, hs2⟩]
        rfl
      · rw [if_neg ht, Array.getElem?_toList, Array.getElem?_eq_none (by omega)]
theorem permIn_perm [Inhabited α] {d d' : Array α} (h : PermIn 0 d.size d d') : d'.size = d.size ∧ d'.toList.Perm d.toList := by
  obtain ⟨h1, _, h3⟩ := h
  refine ⟨h1, ?_⟩
  rw [Array.extract_eq_self_of_le (Nat.le_refl _)] at h3
  rw [Array.extract_eq_self_of_le (by omega)] at h3
  exact h3
/-- No later one is less than an earlier one. -/
def Asc (cf : α → α → Int) (l : List α) : Prop := l.Pairwise fun x y => ¬ cf y x < 0
theorem sortedIn_asc [Inhabited α] {cf : α → α → Int} {d : Array α} (h : SortedIn (ltOf cf) 0 d.size d) : Asc cf d.toList := by
  refine List.pairwise_iff_getElem.2 fun i j hi hj hij => ?_
  have := h i j (Nat.zero_le _) hij (by simpa using hj)
  rw [getElem!_pos d j (by simpa using hj), getElem!_pos d i (by simpa using hi)] at this
  unfold ltOf at this
  have h2 := of_decide_eq_false this
  simpa using h2
theorem asc_unique {cf : α → α → Int} : ∀ {l1 l2 : List α}, l1.Perm l2 → Asc cf l1 → Asc cf l2 → (∀ x ∈ l1, ∀ y ∈ l1, ¬ cf x y < 0 → ¬ cf y x < 0 → x = y) → l1 = l2
  | [], l2, hp, _, _, _ => hp.nil_eq
  | a :: l1, [], hp, _, _, _ => absurd hp.length_eq (by simp)
  | a :: l1, b :: l2, hp, h1, h2, hd => by
    have h1' := List.pairwise_cons.1 h1
    have h2' := List.pairwise_cons.1 h2
    have ha : a ∈ b :: l2 := hp.subset List.mem_cons_self
    have hb : b ∈ a :: l1 := hp.symm.subset List.mem_cons_self
    have hab : a = b := by
      rcases List.mem_cons.1 ha with e | ha'
      · exact e
      · rcases List.mem_cons.1 hb with e | hb'
        · exact e.symm
        · exact hd a List.mem_cons_self b (List.mem_cons_of_mem _ hb') (h2'.1 a ha') (h1'.1 b hb')
    subst hab
    rw [asc_unique ((List.perm_cons a).1 hp) h1'.2 h2'.2 (fun x hx y hy => hd x (List.mem_cons_of_mem _ hx) y (List.mem_cons_of_mem _ hy))]
/-- What a sort leaves. -/
def SortedQ (cf : α → α → Int) (row : α → List Value) (k : Nat) (lo : Nat) (e : TypeId) (A : Option Addr) (n c : Nat) (l : List α) (w : World) (q : Ending) (w' : World) : Prop :=
  q = .returned (.tuple #[]) ∧ ∃ l' : List α, l'.Perm l ∧ Asc cf l' ∧ OwnR row k w' lo e A n c l' ∧ w.grownBy w' (blkOf A)
theorem own_addr {size : Nat} {A : Option Addr} {xs : List Value} (h : Own w lo e size A n c xs) : (A = none ∧ n = 0) ∨ ∃ g, A = some ⟨g, 0, none⟩ ∧ g < w.heap.size := by
  rcases h.2 with ⟨hv, h0⟩ | ⟨g, cap, cur, hv, _, hh, _⟩
  · injection hv with h1
    exact .inl ⟨h1, h0⟩
  · injection hv with h1
    exact .inr ⟨g, h1, Blk.lt (t := e) (cs := cur) hh⟩
theorem sortRec_run [Inhabited α] (L : SlLaysF0.n6 P ρ) (aE : ∀ w, (isAgg (ρ.t 24)).run P w = .ok true w) (zE : ∀ w, (Go.sizeOf (ρ.t 24)).run P w = .ok k w) (hk : ∀ x, (row x).length = k) (h1 : ∀ x, ∀ v ∈ row x, v.oneCell' = true) (cf : α → α → Int) (hO : SWO (ltOf cf)) (gf : Nat) (cb : Array Value)
    (eg : ∀ args w, (callFunc gf args).run P w = .ok (.enter gf args) w) (hcmp : ∀ (x y : α) (w1 : World), Calls P gf (#[.agg (row x).toArray, .agg (row y).toArray] ++ cb) w1 (RetQ (.int .i64 (cf x y)) w1))
    (A : Option Addr) (h : OwnR row k w lo e A n c l) (hn : n < 4611686018427387904) : Calls P (ρ.f 6) #[.slice A n c, .func (.func gf) #[] cb] w (SortedQ cf row k lo e A n c l w) := by
  rcases own_addr h.1 with ⟨rfl, rfl⟩ | ⟨g, rfl, hlt⟩
  · have hl : l = [] := List.eq_nil_of_length_eq_zero h.2
    refine (AnyF.slices_SortFunc_none L none c _ w).mono ?_
    rintro q w' ⟨rfl, rfl⟩
    exact ⟨rfl, l, .refl _, by rw [hl]; exact List.Pairwise.nil, h, gr_refl _ _⟩
  · have hl : l.toArray.size = n := by simpa using h.2
    have hc : CmpLays P gf cb row k cf g 0 l.toArray.size w := fun m os dk _ x y => (hcmp x y _).mono fun q w' h => ⟨h.1, h.2⟩
    have hcon := AnyQ.slices_SortFunc L k aE zE row hk h1 cf hO gf cb g 0 c l.toArray w eg hc (h.holds hk) hlt (by rw [hl]; exact hn)
    rw [hl] at hcon
    refine hcon.mono ?_
    rintro q w' ⟨rfl, d', m, os, hp, hs, rfl⟩
    rw [← hl] at hp hs
    obtain ⟨hsz, hpm⟩ := permIn_perm hp
    rw [← hsz] at hs
    obtain ⟨ho, hg⟩ := h.sorted hk (d' := d') (by simpa using hsz) m os
    exact ⟨rfl, d'.toList, by simpa using hpm, sortedIn_asc hs, ho, hg⟩
/-- The order is asked of right elements alone. -/
theorem sortRec_any (L : SlLaysF0.n6 P ρ) (aE : ∀ w, (isAgg (ρ.t 24)).run P w = .ok true w) (zE : ∀ w, (Go.sizeOf (ρ.t 24)).run P w = .ok k w) (hk : ∀ x, (row x).length = k) (h1 : ∀ x, ∀ v ∈ row x, v.oneCell' = true) (cf : α → α → Int) (hO : SWO (ltOf cf)) (gf : Nat) (cb : Array Value)
    (eg : ∀ args w, (callFunc gf args).run P w = .ok (.enter gf args) w) {Ok : α → Prop} (hcmp : ∀ (x y : α) (w1 : World), Ok x → Ok y → Calls P gf (#[.agg (row x).toArray, .agg (row y).toArray] ++ cb) w1 (RetQ (.int .i64 (cf x y)) w1))
    (A : Option Addr) (h : OwnR row k w lo e A n c l) (hl : ∀ x ∈ l, Ok x) (hn : n < 4611686018427387904) : Calls P (ρ.f 6) #[.slice A n c, .func (.func gf) #[] cb] w (SortedQ cf row k lo e A n c l w) := by
  rcases l.eq_nil_or_concat with hnil | ⟨l0, x0, hx0⟩
  · subst hnil
    have h0 : n = 0 := by simpa using h.2.symm
    subst h0
    refine (AnyF.slices_SortFunc_none L A c _ w).mono ?_
    rintro q w' ⟨rfl, rfl⟩
    exact ⟨rfl, [], .refl _, List.Pairwise.nil, h, gr_refl _ _⟩
  · haveI : Inhabited {x : α // Ok x} := ⟨⟨x0, hl x0 (by rw [hx0]; simp)⟩⟩
    have hv : (l.attachWith Ok hl).map Subtype.val = l := List.attachWith_map_subtype_val hl
    have hfl : ∀ m : List {x : α // Ok x}, m.flatMap (fun x => row x.1) = (m.map Subtype.val).flatMap row := fun m => by rw [List.flatMap_map]
    have h' : OwnR (fun x : {x : α // Ok x} => row x.1) k w lo e A n c (l.attachWith Ok hl) := ⟨by rw [hfl, hv]; exact h.1, by rw [List.length_attachWith]; exact h.2⟩
    have hcon := sortRec_run (P := P) (ρ := ρ) (row := fun x : {x : α // Ok x} => row x.1) L aE zE (fun x => hk x.1) (fun x => h1 x.1) (fun x y => cf x.1 y.1) ⟨fun x => hO.irrefl x.1, fun x y z => hO.trans x.1 y.1 z.1, fun x y z => hO.ntrans x.1 y.1 z.1⟩ gf cb eg (fun x y w1 => hcmp x.1 y.1 w1 x.2 y.2) A h' hn
    refine hcon.mono ?_
    rintro q w' ⟨rfl, l', hp, ha, ho, hg⟩
    refine ⟨rfl, l'.map Subtype.val, ?_, ?_, ⟨by rw [← hfl]; exact ho.1, by rw [List.length_map]; exact ho.2⟩, hg⟩
    · have := hp.map Subtype.val
      rwa [hv] at this
    · exact List.pairwise_map.2 ha
end
end
end Go.Proofs.YtlkibeckfpjccaaGreatDoor
/- Insertion by exchanges sorts; equal neighbours once; two rising lists of the same elements. In plain Lean. Conditions: the order is a strict weak one. -/
namespace Go.Proofs.YtlkibeckfpjccaaGreatDoor
section
open Go.Shelf Go.RowKit Go.Lib Go.Sort

section
variable {α : Type} {cf : α → α → Int} {l : List α} {i j n : Nat} {x y z : α}
theorem swo_asym (h : SWO (ltOf cf)) (h1 : cf x y < 0) : ¬ cf y x < 0 := by
  intro h2
  have h3 := h.trans x y x (by unfold ltOf; exact decide_eq_true h1) (by unfold ltOf; exact decide_eq_true h2)
  have h4 := h.irrefl x
  rw [h3] at h4
  cases h4
theorem swo_trans (h : SWO (ltOf cf)) (h1 : cf x y < 0) (h2 : cf y z < 0) : cf x z < 0 := by
  have h3 := h.trans x y z (by unfold ltOf; exact decide_eq_true h1) (by unfold ltOf; exact decide_eq_true h2)
  unfold ltOf at h3
  exact of_decide_eq_true h3
theorem swo_self (h : SWO (ltOf cf)) (x : α) : ¬ cf x x < 0 := by
  have h4 := h.irrefl x
  unfold ltOf at h4
  exact of_decide_eq_false h4
theorem swo_ntr (h : SWO (ltOf cf)) (h1 : ¬ cf x y < 0) (h2 : ¬ cf y z < 0) : ¬ cf x z < 0 := by
  have h3 := h.ntrans x y z (by unfold ltOf; exact decide_eq_false h1) (by unfold ltOf; exact decide_eq_false h2)
  unfold ltOf at h3
  exact of_decide_eq_false h3
/-- The first i are in order. -/
def SrtTo (cf : α → α → Int) (l : List α) (i : Nat) : Prop := ∀ (p q : Nat) (x y : α), p < q → q < i → l[p]? = some x → l[q]? = some y → ¬ cf y x < 0
/-- The first i + 1 are in order, but for the one at place j, which may belong further to the front. -/
def Hole (cf : α → α → Int) (l : List α) (i j : Nat) : Prop := ∀ (p q : Nat) (x y : α), p < q → q ≤ i → q ≠ j → l[p]? = some x → l[q]? = some y → ¬ cf y x < 0
theorem SrtTo.one : SrtTo cf l 1 := fun p q x y h1 h2 => by omega
theorem SrtTo.hole (h : SrtTo cf l i) : Hole cf l i i := fun p q x y h1 h2 h3 hx hy => h p q x y h1 (by omega) hx hy
theorem Hole.done0 (h : Hole cf l i 0) : SrtTo cf l (i + 1) := fun p q x y h1 h2 hx hy => h p q x y h1 (by omega) (by omega) hx hy
theorem SrtTo.asc (h : SrtTo cf l n) (hl : l.length ≤ n) : Asc cf l := by
  refine List.pairwise_iff_getElem.2 fun p q hp hq hpq => ?_
  exact h p q l[p] l[q] hpq (by omega) (List.getElem?_eq_getElem hp) (List.getElem?_eq_getElem hq)
theorem Hole.done (hO : SWO (ltOf cf)) (h : Hole cf l i (j + 1)) (hx : l[j + 1]? = some x) (hy : l[j]? = some y) (hj : j + 1 ≤ i) (hc : ¬ cf x y < 0) : SrtTo cf l (i + 1) := by
  intro p q u v h1 h2 hu hv
  by_cases e : q = j + 1
  · subst e
    rw [hx] at hv
    obtain rfl := Option.some.inj hv
    by_cases e2 : p = j
    · subst e2
      rw [hy] at hu
      obtain rfl := Option.some.inj hu
      exact hc
    · exact swo_ntr hO hc (h p j u y (by omega) (by omega) (by omega) hu hy)
  · exact h p q u v h1 (by omega) e hu hv
theorem swap_get (hx : l[j + 1]? = some x) (hy : l[j]? = some y) (p : Nat) : ((l.set (j + 1) y).set j x)[p]? = if p = j then some x else if p = j + 1 then some y else l[p]? := by
  have h1 := (List.getElem?_eq_some_iff.1 hx).1
  by_cases e : p = j
  · subst e
    rw [if_pos rfl, List.getElem?_set_self (by rw [List.length_set]; omega)]
  · rw [if_neg e, List.getElem?_set_ne (by omega)]
    by_cases e2 : p = j + 1
    · subst e2
      rw [if_pos rfl, List.getElem?_set_self h1]
    · rw [if_neg e2, List.getElem?_set_ne (by omega)]
theorem Hole.swap (hO : SWO (ltOf cf)) (h : Hole cf l i (j + 1)) (hx : l[j + 1]? = some x) (hy : l[j]? = some y) (hj : j + 1 ≤ i) (hc : cf x y < 0) : Hole cf ((l.set (j + 1) y).set j x) i j := by
  intro p q u v h1 h2 h3 hu hv
  rw [swap_get hx hy] at hu hv
  rw [if_neg h3] at hv
  by_cases e : q = j + 1
  · rw [if_pos e] at hv
    obtain rfl := Option.some.inj hv
    by_cases e2 : p = j
    · rw [if_pos e2] at hu
      obtain rfl := Option.some.inj hu
      exact swo_asym hO hc
    · rw [if_neg e2, if_neg (by omega)] at hu
      exact h p j u _ (by omega) (by omega) (by omega) hu hy
  · rw [if_neg e] at hv
    by_cases e2 : p = j
    · rw [if_pos e2] at hu
      obtain rfl := Option.some.inj hu
      exact h (j + 1) q _ v (by omega) h2 e hx hv
    · rw [if_neg e2] at hu
      by_cases e3 : p = j + 1
      · rw [if_pos e3] at hu
        obtain rfl := Option.some.inj hu
        exact h j q _ v (by omega) h2 e hy hv
      · rw [if_neg e3] at hu
        exact h p q u v h1 h2 e hu hv
theorem swap_perm (hx : l[j + 1]? = some x) (hy : l[j]? = some y) : ((l.set (j + 1) y).set j x).Perm l := by
  obtain ⟨h1, rfl⟩ := List.getElem?_eq_some_iff.1 hx
  obtain ⟨h2, rfl⟩ := List.getElem?_eq_some_iff.1 hy
  exact List.set_set_perm h1 h2
end
section
variable {α : Type} [DecidableEq α] {cf : α → α → Int}
/-- Equal neighbours once. -/
def ddE : List α → List α
  | [] => []
  | [a] => [a]
  | a :: b :: r => if a = b then ddE (b :: r) else a :: ddE (b :: r)
theorem ddE_mem (x : α) : ∀ l : List α, x ∈ ddE l ↔ x ∈ l
  | [] => Iff.rfl
  | [a] => Iff.rfl
  | a :: b :: r => by
    by_cases e : a = b
    · rw [ddE, if_pos e, ddE_mem x (b :: r), List.mem_cons (a := x) (b := a)]
      subst e
      simp
    · rw [ddE, if_neg e, List.mem_cons, ddE_mem x (b :: r), ← List.mem_cons]
theorem ddE_len : ∀ l : List α, (ddE l).length ≤ l.length
  | [] => Nat.le_refl _
  | [a] => Nat.le_refl _
  | a :: b :: r => by
    have ih := ddE_len (b :: r)
    rw [ddE]
    split <;> simp only [List.length_cons] at * <;> omega
theorem ddE_snoc : ∀ (l : List α) (y x : α), ddE ((l ++ [y]) ++ [x]) = if y = x then ddE (l ++ [y]) else ddE (l ++ [y]) ++ [x]
  | [], y, x => by
    show ddE [y, x] = _
    rw [ddE]
    by_cases e : y = x
    · rw [if_pos e, if_pos e, e]; rfl
    · rw [if_neg e, if_neg e]; rfl
  | [a], y, x => by
    have ih := ddE_snoc ([] : List α) y x
    simp only [List.nil_append, List.cons_append] at ih ⊢
    have e1 : ddE [a, y, x] = if a = y then ddE [y, x] else a :: ddE [y, x] := rfl
    have e2 : ddE [a, y] = if a = y then ddE [y] else a :: ddE [y] := rfl
    rw [e1, e2, ih]
    by_cases e : a = y
    · rw [if_pos e, if_pos e]
    · rw [if_neg e, if_neg e]
      split <;> rfl
  | a :: b :: r, y, x => by
    have ih := ddE_snoc (b :: r) y x
    simp only [List.cons_append] at ih ⊢
    have e1 : ddE (a :: b :: ((r ++ [y]) ++ [x])) = if a = b then ddE (b :: ((r ++ [y]) ++ [x])) else a :: ddE (b :: ((r ++ [y]) ++ [x])) := rfl
    have e2 : ddE (a :: b :: (r ++ [y])) = if a = b then ddE (b :: (r ++ [y])) else a :: ddE (b :: (r ++ [y])) := rfl
    rw [e1, e2, ih]
    by_cases e : a = b
    · rw [if_pos e, if_pos e]
    · rw [if_neg e, if_neg e]
      split <;> rfl
theorem ddE_take {l : List α} {m : Nat} {x y : α} (hm : 0 < m) (hx : l[m]? = some x) (hy : l[m - 1]? = some y) : ddE (l.take (m + 1)) = if y = x then ddE (l.take m) else ddE (l.take m) ++ [x] := by
  obtain ⟨k, rfl⟩ : ∃ k, m = k + 1 := ⟨m - 1, by omega⟩
  rw [Nat.add_sub_cancel] at hy
  obtain ⟨h1, e1⟩ := List.getElem?_eq_some_iff.1 hx
  obtain ⟨h2, e2⟩ := List.getElem?_eq_some_iff.1 hy
  rw [List.take_succ_eq_append_getElem h1, List.take_succ_eq_append_getElem h2, e1, e2]
  exact ddE_snoc _ _ _
/-- No equal neighbours among the first k. -/
def NoEq (l : List α) (k : Nat) : Prop := ∀ (p : Nat) (x y : α), p + 1 < k → l[p]? = some x → l[p + 1]? = some y → x ≠ y
omit [DecidableEq α] in
theorem NoEq.one {l : List α} : NoEq l 1 := fun p x y h => by omega
omit [DecidableEq α] in
theorem NoEq.succ {l : List α} {k : Nat} {x y : α} (h : NoEq l k) (hk : 0 < k) (hx : l[k]? = some x) (hy : l[k - 1]? = some y) (hn : y ≠ x) : NoEq l (k + 1) := by
  intro p u v hp hu hv
  by_cases e : p + 1 = k
  · subst e
    rw [hx] at hv
    rw [Nat.add_sub_cancel, hu] at hy
    obtain rfl := Option.some.inj hv
    obtain rfl := Option.some.inj hy
    exact hn
  · exact h p u v (by omega) hu hv
theorem NoEq.dd {l : List α} : ∀ {k : Nat}, NoEq l k → k ≤ l.length → ddE (l.take k) = l.take k
  | 0, _, _ => by rw [List.take_zero]; rfl
  | 1, _, hl => by
    obtain ⟨a, r, rfl⟩ := List.exists_cons_of_length_pos (show 0 < l.length by omega)
    rfl
  | k + 2, h, hl => by
    have h1 : k + 1 < l.length := by omega
    have h2 : k < l.length := by omega
    rw [ddE_take (Nat.succ_pos k) (List.getElem?_eq_getElem h1) (show l[k + 1 - 1]? = some l[k] by rw [Nat.add_sub_cancel]; exact List.getElem?_eq_getElem h2), if_neg (h k _ _ (by omega) (List.getElem?_eq_getElem h2) (List.getElem?_eq_getElem h1)), NoEq.dd (k := k + 1) (fun p x y hp => h p x y (by omega)) (by omega), ← List.take_succ_eq_append_getElem h1]
theorem ddE_noeq : ∀ l : List α, NoEq (ddE l) (ddE l).length
  | [] => fun p x y h => by simp [ddE] at h
  | [a] => fun p x y h => by simp [ddE] at h
  | a :: b :: r => by
    have ih := ddE_noeq (b :: r)
    by_cases e : a = b
    · rw [ddE, if_pos e]; exact ih
    · rw [ddE, if_neg e]
      intro p x y hp hx hy
      cases p with
      | zero =>
        have hb : (ddE (b :: r))[0]? = some b := by
          clear ih hp hx hy e
          induction r generalizing b with
          | nil => rfl
          | cons c r ih2 =>
            rw [ddE]
            by_cases e : b = c
            · rw [if_pos e, e]; exact ih2 c
            · rw [if_neg e]; rfl
        rw [List.getElem?_cons_zero] at hx
        rw [List.getElem?_cons_succ, hb] at hy
        obtain rfl := Option.some.inj hx
        obtain rfl := Option.some.inj hy
        exact e
      | succ p =>
        rw [List.getElem?_cons_succ] at hx hy
        exact ih p x y (by rw [List.length_cons] at hp; omega) hx hy
theorem ddE_sub : ∀ l : List α, (ddE l).Sublist l
  | [] => List.Sublist.refl _
  | [a] => List.Sublist.refl _
  | a :: b :: r => by
    rw [ddE]
    split
    · exact (ddE_sub (b :: r)).trans (List.sublist_cons_self _ _)
    · exact (ddE_sub (b :: r)).cons_cons _
/-- Each is less than all that follow it. -/
def Rise (cf : α → α → Int) (l : List α) : Prop := l.Pairwise fun x y => cf x y < 0
omit [DecidableEq α] in
theorem rise_adj (hO : SWO (ltOf cf)) : ∀ {l : List α}, (∀ (p : Nat) (x y : α), l[p]? = some x → l[p + 1]? = some y → cf x y < 0) → Rise cf l
  | [], _ => List.Pairwise.nil
  | [a], _ => List.pairwise_singleton _ _
  | a :: b :: r, h => by
    have ih : Rise cf (b :: r) := rise_adj hO (fun p x y hx hy => h (p + 1) x y (by rw [List.getElem?_cons_succ]; exact hx) (by rw [List.getElem?_cons_succ]; exact hy))
    have hab := h 0 a b rfl rfl
    refine List.pairwise_cons.2 ⟨fun x hx => ?_, ih⟩
    rcases List.mem_cons.1 hx with rfl | hx
    · exact hab
    · exact swo_trans hO hab ((List.pairwise_cons.1 ih).1 x hx)
omit [DecidableEq α] in
/-- Two rising lists of the same elements are one. -/
theorem rise_one (hO : SWO (ltOf cf)) : ∀ {l m : List α}, Rise cf l → Rise cf m → (∀ x, x ∈ l ↔ x ∈ m) → l = m
  | [], [], _, _, _ => rfl
  | [], b :: m, _, _, h => absurd ((h b).2 (List.mem_cons_self ..)) (by simp)
  | a :: l, [], _, _, h => absurd ((h a).1 (List.mem_cons_self ..)) (by simp)
  | a :: l, b :: m, h1, h2, h => by
    obtain ⟨p1, p2⟩ := List.pairwise_cons.1 h1
    obtain ⟨q1, q2⟩ := List.pairwise_cons.1 h2
    have e : a = b := by
      rcases List.mem_cons.1 ((h a).1 (List.mem_cons_self ..)) with e | hm
      · exact e
      · rcases List.mem_cons.1 ((h b).2 (List.mem_cons_self ..)) with e | hn
        · exact e.symm
        · exact absurd (p1 b hn) (swo_asym hO (q1 a hm))
    subst e
    rw [rise_one hO p2 q2 (fun x => ⟨fun hx => by
      rcases List.mem_cons.1 ((h x).1 (List.mem_cons_of_mem _ hx)) with e | hm
      · subst e; exact absurd (p1 x hx) (swo_self hO x)
      · exact hm, fun hx => by
      rcases List.mem_cons.1 ((h x).2 (List.mem_cons_of_mem _ hx)) with e | hm
      · subst e; exact absurd (q1 x hx) (swo_self hO x)
      · exact hm⟩)]
end
end
end Go.Proofs.YtlkibeckfpjccaaGreatDoor
/- Contracts of cmp.Compare and cmp.Or at int. Conditions: none. -/
namespace Go.Proofs.YtlkibeckfpjccaaGreatDoor
section
open Go.RowKit

def cmpZ (a b : Int) : Int := if a < b then -1 else if b < a then 1 else 0
theorem cmpZ_any (a b : Int) (w : World) : Calls Tryz.prog 34 #[.int .i64 a, .int .i64 b] w (Same (.int .i64 (cmpZ a b)) w) := by
  refine (Tryz.cmp_Compare_int a b w).mono ?_
  rintro e w' ⟨rfl, rfl⟩
  exact ⟨rfl, rfl⟩
/-- The first of two numbers that is not 0. -/
def orZ (a b : Int) : Int := if a = 0 then b else a
set_option maxHeartbeats 2000000 in
theorem orZ_any (a b : Int) (g : Nat) (w : World) (hb : Blk w g 3 #[.int .i64 a, .int .i64 b]) : Calls Tryz.prog 33 #[.slice (some ⟨g, 0, none⟩) 2 2] w (Same (.int .i64 (orZ a b)) w) := by
  have c0 : w.cell? ⟨g, 0, none⟩ = some (.int .i64 a) := hb.cell 0
  have c1 : w.cell? ⟨g, 1, none⟩ = some (.int .i64 b) := hb.cell 1
  clear hb
  go_enter Tryz.func33, Tryz.ntmps33
  go_wp2_with fail
  go_loop [5, 8] (fun _ t => ∃ i : Nat, i ≤ 2 ∧ t = .int .i64 i ∧ (1 ≤ i → a = 0) ∧ (2 ≤ i → b = 0)) (fun _ t => 2 - (intOf t).toNat)
  case atStart => exact ⟨0, by omega, rfl, by omega, by omega⟩
  case round =>
    obtain ⟨i, hi, rfl, h1, h2⟩ := hrel
    have H1 := Lib.hid h1; have H2 := Lib.hid h2
    clear h1 h2
    rcases (by omega : i = 0 ∨ i = 1 ∨ i = 2) with rfl | rfl | rfl
    · by_cases hz : a = 0
      · have q : (a != 0) = false := by simp [hz]
        have HA := Lib.hid hz; clear hz
        go_wp2_with fail
        go_round
        case rel => exact ⟨1, by omega, rfl, fun _ => HA.out, fun h => by omega⟩
        case measure => simp [intOf]
      · have q : (a != 0) = true := by simpa using hz
        have HA := Lib.hid (show orZ a b = a by unfold orZ; rw [if_neg hz]); clear hz
        go_wp2_with fail
        go_ret
        exact ⟨by rw [HA.out]; rfl, rfl⟩
    · have ha := H1.out (by omega)
      have HA := Lib.hid (show orZ a b = b by unfold orZ; rw [if_pos ha])
      have HA0 := Lib.hid ha; clear ha
      by_cases hz : b = 0
      · have q : (b != 0) = false := by simp [hz]
        have HBZ := Lib.hid hz; clear hz
        go_wp2_with fail
        go_round
        case rel => exact ⟨2, by omega, rfl, fun _ => HA0.out, fun _ => HBZ.out⟩
        case measure => simp [intOf]
      · have q : (b != 0) = true := by simpa using hz
        go_wp2_with fail
        go_ret
        exact ⟨by rw [HA.out]; rfl, rfl⟩
    · have HA := Lib.hid (show orZ a b = 0 by unfold orZ; rw [if_pos (H1.out (by omega)), H2.out (by omega)])
      go_wp2_with fail
      go_ret
      exact ⟨by rw [HA.out]; rfl, rfl⟩
end
end Go.Proofs.YtlkibeckfpjccaaGreatDoor
/- Slices of ints: cells, appends; slices.Equal at two that read as the same list. Conditions: none. -/
namespace Go.Proofs.YtlkibeckfpjccaaGreatDoor
section
open Go.RowKit
/-- A cell that holds a number. -/
def nrow (n : Int) : List Value := [.int .i64 n]
theorem nrow_len (n : Int) : (nrow n).length = 1 := rfl
theorem nrow_map (l : List Int) : l.flatMap nrow = l.map (Value.int .i64) := by
  induction l with
  | nil => rfl
  | cons a l ih => rw [List.flatMap_cons, ih]; rfl
theorem Tryz.inT : ElemT Tryz.prog 22 3 1 8 (.int .i64 0) := elemT_of Tryz.underlying22 (by kernel_rfl) rfl (by decide)
/-- A slice of numbers of the call's own, and an error. -/
def InErr (l : List Int) (E : Int) (w : World) (e : Ending) (w' : World) : Prop := ∃ A n c, e = .returned (.tuple #[.slice A n c, .int .i64 E]) ∧ OwnR nrow 1 w' w.heap.size 3 A n c l ∧ w.grownBy w' none
end
end Go.Proofs.YtlkibeckfpjccaaGreatDoor
/- Contract of cmp.Or at some ints. Conditions: none. -/
namespace Go.Proofs.YtlkibeckfpjccaaGreatDoor
section
open Go.RowKit

/-- The first of some numbers that is not 0. -/
def orL : List Int → Int
  | [] => 0
  | a :: l => if a = 0 then orL l else a
theorem orL_at {l : List Int} {i : Nat} {a : Int} (h : l[i]? = some a) : orL (l.drop i) = if a = 0 then orL (l.drop (i + 1)) else a := by
  obtain ⟨h1, rfl⟩ := List.getElem?_eq_some_iff.1 h
  rw [List.drop_eq_getElem_cons h1]; rfl
set_option maxHeartbeats 2000000 in
theorem orL_any (l : List Int) (g n : Nat) (w : World) (hb : Blk w g 3 (l.map (Value.int .i64)).toArray) (hn : l.length = n) (hn2 : n ≤ 1000) : Calls Tryz.prog 33 #[.slice (some ⟨g, 0, none⟩) n n] w (Same (.int .i64 (orL l)) w) := by
  have HB := Lib.hid hb; have HN := Lib.hid hn; clear hb hn
  go_enter Tryz.func33, Tryz.ntmps33
  go_wp2_with fail
  go_loop [5, 8] (fun _ t => ∃ i : Nat, i ≤ n ∧ t = .int .i64 i ∧ orL l = orL (l.drop i)) (fun _ t => n - (intOf t).toNat)
  case atStart => exact ⟨0, Nat.zero_le _, rfl, rfl⟩
  case round =>
    obtain ⟨i, hi, rfl, he⟩ := hrel
    have HE := Lib.hid he; clear he
    by_cases hlt : i < n
    · obtain ⟨a, ha⟩ : ∃ a, l[i]? = some a := ⟨_, List.getElem?_eq_getElem (by rw [HN.out]; exact hlt)⟩
      have kc : w.cell? ⟨g, i, none⟩ = some (.int .i64 a) := by rw [HB.out.cell i]; simp [ha]
      have HA := Lib.hid (orL_at ha); clear ha
      by_cases hz : a = 0
      · have q : (a != 0) = false := by simp [hz]
        have HS := Lib.hid (show orL l = orL (l.drop (i + 1)) by rw [HE.out, HA.out, if_pos hz])
        clear hz
        go_wp2_with fail
        go_round
        case rel => exact ⟨i + 1, by omega, by go_num, HS.out⟩
        case measure => simp [intOf]; omega
      · have q : (a != 0) = true := by simpa using hz
        have HS := Lib.hid (show orL l = a by rw [HE.out, HA.out, if_neg hz])
        clear hz
        go_wp2_with fail
        go_ret
        exact ⟨by rw [HS.out]; rfl, rfl⟩
    · obtain rfl : i = n := by omega
      have HS := Lib.hid (show orL l = 0 by rw [HE.out, List.drop_eq_nil_of_le (by rw [HN.out]; exact Nat.le_refl _)]; rfl)
      go_wp2_with fail
      go_ret
      exact ⟨by rw [HS.out]; rfl, rfl⟩
/-- Two lists, place by place. -/
def cmpLL {α : Type} (f : α → α → Int) : List α → List α → Int
  | [], [] => 0
  | [], _ :: _ => -1
  | _ :: _, [] => 1
  | a :: l, b :: m => if f a b = 0 then cmpLL f l m else f a b
section
variable {α : Type} {f : α → α → Int}
theorem cmpLL_drop {l m : List α} {i : Nat} {a b : α} (hl : l[i]? = some a) (hm : m[i]? = some b) : cmpLL f (l.drop i) (m.drop i) = if f a b = 0 then cmpLL f (l.drop (i + 1)) (m.drop (i + 1)) else f a b := by
  obtain ⟨h1, rfl⟩ := List.getElem?_eq_some_iff.1 hl
  obtain ⟨h2, rfl⟩ := List.getElem?_eq_some_iff.1 hm
  rw [List.drop_eq_getElem_cons h1, List.drop_eq_getElem_cons h2, cmpLL]
theorem cmpLL_gt {l m : List α} {i : Nat} (hl : i < l.length) (hm : m.length ≤ i) : cmpLL f (l.drop i) (m.drop i) = 1 := by
  rw [List.drop_eq_nil_of_le hm, List.drop_eq_getElem_cons hl]; rfl
theorem cmpLL_end {l m : List α} {i : Nat} (hl : l.length = i) : cmpLL f (l.drop i) (m.drop i) = if i < m.length then -1 else 0 := by
  rw [List.drop_eq_nil_of_le (by omega)]
  by_cases h : i < m.length
  · rw [if_pos h, List.drop_eq_getElem_cons h]; rfl
  · rw [if_neg h, List.drop_eq_nil_of_le (by omega)]; rfl
end
end
end Go.Proofs.YtlkibeckfpjccaaGreatDoor
/- Contracts of the orders of records: account.compare and the document's RecordOrder. Conditions: none. -/
namespace Go.Proofs.YtlkibeckfpjccaaGreatDoor
section
open Go.RowKit

theorem Tryz.rcT : StructT Tryz.prog 69 8 := ⟨_, Tryz.underlying69, rfl, by kernel_rfl⟩
/-- A record's cells. -/
theorem rcCmp_or (a b : RcV) : orZ (cmpZ a.at_ b.at_) (cmpS a.id b.id) = rcCmp a b := by
  unfold orZ cmpZ rcCmp
  by_cases h : a.at_ = b.at_
  · rw [if_pos h, if_neg (show ¬ a.at_ < b.at_ by omega), if_neg (show ¬ b.at_ < a.at_ by omega), if_pos rfl]
  · rw [if_neg h]
    by_cases h1 : a.at_ < b.at_
    · rw [if_pos h1, if_pos h1, if_neg (by decide)]
    · rw [if_neg h1, if_pos (show b.at_ < a.at_ by omega), if_neg h1, if_neg (by decide)]
set_option maxHeartbeats 2000000 in
set_option maxRecDepth 100000 in
theorem compareR_any (a b : RcV) (w : World) :
    Calls Tryz.prog 109 #[.agg #[.string a.id, .string a.frm, .string a.too, .int .i64 a.at_, .int .i64 a.ring, .int .i64 a.talk, .int .i64 a.how, .string a.car], .agg #[.string b.id, .string b.frm, .string b.too, .int .i64 b.at_, .int .i64 b.ring, .int .i64 b.talk, .int .i64 b.how, .string b.car]] w (RetV (.int .i64 (rcCmp a b)) w) := by
  have HV := Lib.hid (rcCmp_or a b)
  obtain ⟨W1, hW⟩ : ∃ W1, (w.alloc (.cells #[.string a.id, .string a.frm, .string a.too, .int .i64 a.at_, .int .i64 a.ring, .int .i64 a.talk, .int .i64 a.how, .string a.car] 69)).alloc (.cells #[.string b.id, .string b.frm, .string b.too, .int .i64 b.at_, .int .i64 b.ring, .int .i64 b.talk, .int .i64 b.how, .string b.car] 69) = W1 := ⟨_, rfl⟩
  have HA := Lib.hid (show Blk W1 w.heap.size 69 #[.string a.id, .string a.frm, .string a.too, .int .i64 a.at_, .int .i64 a.ring, .int .i64 a.talk, .int .i64 a.how, .string a.car] by rw [← hW]; exact (Blk.new _ _ _).alloc _)
  have HB := Lib.hid (show Blk W1 (w.heap.size + 1) 69 #[.string b.id, .string b.frm, .string b.too, .int .i64 b.at_, .int .i64 b.ring, .int .i64 b.talk, .int .i64 b.how, .string b.car] by
    rw [← hW]
    have h := Blk.new (w.alloc (.cells #[.string a.id, .string a.frm, .string a.too, .int .i64 a.at_, .int .i64 a.ring, .int .i64 a.talk, .int .i64 a.how, .string a.car] 69)) 69 #[.string b.id, .string b.frm, .string b.too, .int .i64 b.at_, .int .i64 b.ring, .int .i64 b.talk, .int .i64 b.how, .string b.car]
    simpa using h)
  have HG := Lib.hid (show w.grownBy W1 none by rw [← hW]; exact gr_alloc (gr_alloc (gr_refl _ _) _) _)
  have HW := Lib.hid hW; clear hW
  go_enter Tryz.func109, Tryz.ntmps109
  go_wp2_with fail
  rw [HW.out]
  refine H_begin (fun w' => W1.grownBy w' none) (by kernel_rfl) ?_
  have hHeld : W1.grownBy W1.drew none := gr_drew (gr_refl _ _)
  refine H_take (k := 0) (v := ?_) (by rfl) (by kernel_rfl) (by kernel_rfl) (by kernel_rfl) (by exact fun _ _ _ h => h) (by rfl) ?_ (by assumption) ?_
  rotate_left 1
  · intro w hSw
    (try dsimp only at hSw)
    go_simp
    (try with_reducible rfl)
  (try simp only [Act.put, List.setIfInBounds_toArray, List.set_cons_zero, List.set_cons_succ])
  refine H_take (k := 1) (v := ?_) (by rfl) (by kernel_rfl) (by kernel_rfl) (by kernel_rfl) (by exact fun _ _ _ h => h) (by rfl) ?_ (by assumption) ?_
  rotate_left 1
  · intro w' hSw
    have kc := (HA.out.grown hSw (by simp)).cell 3
    go_simp
    (try with_reducible rfl)
  (try simp only [Act.put, List.setIfInBounds_toArray, List.set_cons_zero, List.set_cons_succ])
  refine H_take (k := 2) (v := ?_) (by rfl) (by kernel_rfl) (by kernel_rfl) (by kernel_rfl) (by exact fun _ _ _ h => h) (by rfl) ?_ (by assumption) ?_
  rotate_left 1
  · intro w hSw
    (try dsimp only at hSw)
    go_simp
    (try with_reducible rfl)
  (try simp only [Act.put, List.setIfInBounds_toArray, List.set_cons_zero, List.set_cons_succ])
  refine H_take (k := 3) (v := ?_) (by rfl) (by kernel_rfl) (by kernel_rfl) (by kernel_rfl) (by exact fun _ _ _ h => h) (by rfl) ?_ (by assumption) ?_
  rotate_left 1
  · intro w' hSw
    have kc := (HB.out.grown hSw (by simp)).cell 3
    go_simp
    (try with_reducible rfl)
  (try simp only [Act.put, List.setIfInBounds_toArray, List.set_cons_zero, List.set_cons_succ])
  refine H_take (k := 5) (v := ?_) (by rfl) (by kernel_rfl) (by kernel_rfl) (by kernel_rfl) (by exact fun _ _ _ h => h) (by rfl) ?_ (by assumption) ?_
  rotate_left 1
  · intro w hSw
    (try dsimp only at hSw)
    go_simp
    (try with_reducible rfl)
  (try simp only [Act.put, List.setIfInBounds_toArray, List.set_cons_zero, List.set_cons_succ])
  refine H_take (k := 6) (v := ?_) (by rfl) (by kernel_rfl) (by kernel_rfl) (by kernel_rfl) (by exact fun _ _ _ h => h) (by rfl) ?_ (by assumption) ?_
  rotate_left 1
  · intro w' hSw
    have kc := (HA.out.grown hSw (by simp)).cell 0
    go_simp
    (try with_reducible rfl)
  (try simp only [Act.put, List.setIfInBounds_toArray, List.set_cons_zero, List.set_cons_succ])
  refine H_take (k := 7) (v := ?_) (by rfl) (by kernel_rfl) (by kernel_rfl) (by kernel_rfl) (by exact fun _ _ _ h => h) (by rfl) ?_ (by assumption) ?_
  rotate_left 1
  · intro w hSw
    (try dsimp only at hSw)
    go_simp
    (try with_reducible rfl)
  (try simp only [Act.put, List.setIfInBounds_toArray, List.set_cons_zero, List.set_cons_succ])
  refine H_take (k := 8) (v := ?_) (by rfl) (by kernel_rfl) (by kernel_rfl) (by kernel_rfl) (by exact fun _ _ _ h => h) (by rfl) ?_ (by assumption) ?_
  rotate_left 1
  · intro w' hSw
    have kc := (HB.out.grown hSw (by simp)).cell 0
    go_simp
    (try with_reducible rfl)
  (try simp only [Act.put, List.setIfInBounds_toArray, List.set_cons_zero, List.set_cons_succ])
  refine H_run (k := 4) (by rfl) (by kernel_rfl) (by rfl) (fun K hK => ?_)
  go_simp
  refine (cmpZ_any _ _ _).mono ?_
  rintro e w' ⟨rfl, rfl⟩
  go_simp
  refine hK _ _ (gr_drew (gr_refl W1 none)) ?_
  clear hK K hHeld
  have hHeld := gr_drew (gr_refl W1 none)
  refine H_run (k := 9) (by rfl) (by kernel_rfl) (by rfl) (fun K hK => ?_)
  go_simp
  refine (Tryz.strings_Compare _ _ _).mono ?_
  rintro e w' ⟨rfl, rfl⟩
  go_simp
  refine hK _ _ (gr_drew (gr_refl W1 none)) ?_
  clear hK K hHeld
  have hHeld := gr_drew (gr_refl W1 none)
  refine H_run (k := 10) (by rfl) (by kernel_rfl) (by rfl) (fun K hK => ?_)
  go_simp
  obtain ⟨W2, hW2⟩ : ∃ W2, W1.alloc (.cells #[.int .i64 (cmpZ a.at_ b.at_), .int .i64 (cmpS a.id b.id)] 3) = W2 := ⟨_, rfl⟩
  rw [show Lib.compareBytes a.id.data.toList b.id.data.toList = cmpS a.id b.id from rfl, hW2]
  have HC := Lib.hid (show Blk W2 W1.heap.size 3 #[.int .i64 (cmpZ a.at_ b.at_), .int .i64 (cmpS a.id b.id)] by rw [← hW2]; exact Blk.new _ _ _)
  have HG2 := Lib.hid (show W1.grownBy W2 none by rw [← hW2]; exact gr_alloc (gr_refl _ _) _)
  clear hW2
  refine hK _ _ (gr_drew HG2.out) ?_
  clear hK K hHeld
  have hHeld := gr_drew HG2.out
  refine H_run (k := 11) (by rfl) (by kernel_rfl) (by rfl) (fun K hK => ?_)
  go_simp
  refine (orZ_any _ _ _ _ (by first | exact HC.out | exact HC.out.drew)).mono ?_
  rintro e w' ⟨rfl, rfl⟩
  rw [HV.out]
  go_simp
  refine hK _ _ (gr_drew HG2.out) ?_
  clear hK K hHeld
  have hHeld := gr_drew HG2.out
  refine H_take (k := 12) (v := ?_) (by rfl) (by kernel_rfl) (by kernel_rfl) (by kernel_rfl) (by exact fun _ _ _ h => h) (by rfl) ?_ (by assumption) ?_
  rotate_left 1
  · intro w hSw
    (try dsimp only at hSw)
    go_simp
    (try with_reducible rfl)
  (try simp only [Act.put, List.setIfInBounds_toArray, List.set_cons_zero, List.set_cons_succ])
  refine H_done (by kernel_rfl) ?_
  go_wp2_with fail
  go_ret
  exact ⟨rfl, gr_drew (gr_same HG.out HG2.out)⟩
end
end Go.Proofs.YtlkibeckfpjccaaGreatDoor
/- Contract of the document's sign. Conditions: none. -/
namespace Go.Proofs.YtlkibeckfpjccaaGreatDoor
section
open Go.RowKit

def sgnZ (n : Int) : Int := if n < 0 then -1 else if 0 < n then 1 else 0
theorem sgnZ_any (n : Int) (w : World) : Calls Tryz.prog 50 #[.int .i64 n] w (Same (.int .i64 (sgnZ n)) w) := by
  by_cases h : n < 0
  · have d : decide (n < 0) = true := decide_eq_true h
    have HR := Lib.hid (show sgnZ n = -1 by unfold sgnZ; rw [if_pos h])
    clear h
    go_enter Tryz.func50, Tryz.ntmps50
    go_wp2_with fail
    go_ret
    exact ⟨by rw [HR.out]; rfl, rfl⟩
  · have d : decide (n < 0) = false := decide_eq_false h
    by_cases h2 : 0 < n
    · have d2 : decide (0 < n) = true := decide_eq_true h2
      have d3 : decide (n > 0) = true := decide_eq_true h2
      have HR := Lib.hid (show sgnZ n = 1 by unfold sgnZ; rw [if_neg h, if_pos h2])
      clear h h2
      go_enter Tryz.func50, Tryz.ntmps50
      go_wp2_with fail
      go_ret
      exact ⟨by rw [HR.out]; rfl, rfl⟩
    · have d2 : decide (0 < n) = false := decide_eq_false h2
      have d3 : decide (n > 0) = false := decide_eq_false h2
      have HR := Lib.hid (show sgnZ n = 0 by unfold sgnZ; rw [if_neg h, if_neg h2])
      clear h h2
      go_enter Tryz.func50, Tryz.ntmps50
      go_wp2_with fail
      go_ret
      exact ⟨by rw [HR.out]; rfl, rfl⟩
end
end Go.Proofs.YtlkibeckfpjccaaGreatDoor
/- Contract of the document's RecordOrder. Conditions: the records are RcOk. -/
namespace Go.Proofs.YtlkibeckfpjccaaGreatDoor
section
open Go.RowKit

theorem rcCmp_sgn (a b : RcV) (h : a.at_ ≠ b.at_) : sgnZ (a.at_ - b.at_) = rcCmp a b := by
  unfold sgnZ rcCmp
  rw [if_neg h]
  by_cases h1 : a.at_ < b.at_
  · rw [if_pos h1, if_pos (by omega)]
  · rw [if_neg h1, if_neg (by omega), if_pos (by omega)]
set_option maxHeartbeats 2000000 in
set_option maxRecDepth 100000 in
theorem recordOrderL_any (a b : RcV) (w : World) (ha : RcOkL a) (hb : RcOkL b) :
    Calls Tryz.prog 42 #[.agg #[.string a.id, .string a.frm, .string a.too, .int .i64 a.at_, .int .i64 a.ring, .int .i64 a.talk, .int .i64 a.how, .string a.car], .agg #[.string b.id, .string b.frm, .string b.too, .int .i64 b.at_, .int .i64 b.ring, .int .i64 b.talk, .int .i64 b.how, .string b.car]] w (RetV (.int .i64 (rcCmp a b)) w) := by
  obtain ⟨-, -, -, -, a1, a2⟩ := ha
  obtain ⟨-, -, -, -, b1, b2⟩ := hb
  have hsub : IntKind.i64.wrap (a.at_ - b.at_) = a.at_ - b.at_ := IntWalk.i64_in _ (by omega)
  clear a1 a2 b1 b2
  obtain ⟨W1, hW⟩ : ∃ W1, (w.alloc (.cells #[.string a.id, .string a.frm, .string a.too, .int .i64 a.at_, .int .i64 a.ring, .int .i64 a.talk, .int .i64 a.how, .string a.car] 69)).alloc (.cells #[.string b.id, .string b.frm, .string b.too, .int .i64 b.at_, .int .i64 b.ring, .int .i64 b.talk, .int .i64 b.how, .string b.car] 69) = W1 := ⟨_, rfl⟩
  have HA : Blk W1 w.heap.size 69 #[.string a.id, .string a.frm, .string a.too, .int .i64 a.at_, .int .i64 a.ring, .int .i64 a.talk, .int .i64 a.how, .string a.car] := by rw [← hW]; exact (Blk.new _ _ _).alloc _
  have HB : Blk W1 (w.heap.size + 1) 69 #[.string b.id, .string b.frm, .string b.too, .int .i64 b.at_, .int .i64 b.ring, .int .i64 b.talk, .int .i64 b.how, .string b.car] := by
    rw [← hW]
    have h := Blk.new (w.alloc (.cells #[.string a.id, .string a.frm, .string a.too, .int .i64 a.at_, .int .i64 a.ring, .int .i64 a.talk, .int .i64 a.how, .string a.car] 69)) 69 #[.string b.id, .string b.frm, .string b.too, .int .i64 b.at_, .int .i64 b.ring, .int .i64 b.talk, .int .i64 b.how, .string b.car]
    simpa using h
  have a3 : W1.cell? ⟨w.heap.size, 3, none⟩ = some (.int .i64 a.at_) := HA.cell 3
  have a0 : W1.cell? ⟨w.heap.size, 0, none⟩ = some (.string a.id) := HA.cell 0
  have b3 : W1.cell? ⟨w.heap.size + 1, 3, none⟩ = some (.int .i64 b.at_) := HB.cell 3
  have b0 : W1.cell? ⟨w.heap.size + 1, 0, none⟩ = some (.string b.id) := HB.cell 0
  clear HA HB
  have HG := Lib.hid (show w.grownBy W1 none by rw [← hW]; exact gr_alloc (gr_alloc (gr_refl _ _) _) _)
  have HW := Lib.hid hW; clear hW
  by_cases e : a.at_ = b.at_
  · have d : (a.at_ != b.at_) = false := by simp [e]
    have HR := Lib.hid (show cmpS a.id b.id = rcCmp a b by unfold rcCmp; rw [if_pos e])
    clear e
    go_enter Tryz.func42, Tryz.ntmps42
    go_wp2_with fail
    rw [HW.out]
    go_wp2_with fail
    refine (Tryz.strings_Compare _ _ _).mono ?_
    rintro e w' ⟨rfl, rfl⟩
    go_wp2_with fail
    go_ret
    exact ⟨by rw [← HR.out]; rfl, HG.out⟩
  · have d : (a.at_ != b.at_) = true := by simpa using e
    have HR := Lib.hid (rcCmp_sgn a b e)
    clear e
    go_enter Tryz.func42, Tryz.ntmps42
    go_wp2_with fail
    rw [HW.out]
    go_wp2_with fail
    refine (sgnZ_any _ _).mono ?_
    rintro e w' ⟨rfl, rfl⟩
    go_wp2_with fail
    go_ret
    exact ⟨by rw [← HR.out]; rfl, HG.out⟩
theorem recordOrder_any (a b : RcV) (w : World) (ha : RcOk a) (hb : RcOk b) :
    Calls Tryz.prog 42 #[.agg #[.string a.id, .string a.frm, .string a.too, .int .i64 a.at_, .int .i64 a.ring, .int .i64 a.talk, .int .i64 a.how, .string a.car], .agg #[.string b.id, .string b.frm, .string b.too, .int .i64 b.at_, .int .i64 b.ring, .int .i64 b.talk, .int .i64 b.how, .string b.car]] w (RetV (.int .i64 (rcCmp a b)) w) := recordOrderL_any a b w ha.l hb.l
end
end Go.Proofs.YtlkibeckfpjccaaGreatDoor
/- Contracts of slices.Index and slices.Contains at strings. Conditions: none. -/
namespace Go.Proofs.YtlkibeckfpjccaaGreatDoor
section
open Go.RowKit

set_option maxHeartbeats 2000000 in
theorem indexS_any (lo : Nat) (A : Option Addr) (n c : Nat) (l : List ByteArray) (s : ByteArray) (w : World) (h : Recs srow 1 w lo A n c l) (hn : n ≤ 1000000000) :
    Calls Tryz.prog 81 #[.slice A n c, .string s] w (Same (.int .i64 (idxP (fun x => nb x == nb s) l)) w) := by
  have H := Lib.hid h; clear h
  go_enter Tryz.func81, Tryz.ntmps81
  go_wp2_with fail
  go_loop [5, 8] (fun _ t => ∃ i : Nat, i ≤ n ∧ t = .int .i64 i ∧ (l.take i).all (fun x => !(nb x == nb s)) = true) (fun _ t => n - (intOf t).toNat)
  case atStart => exact ⟨0, Nat.zero_le _, rfl, rfl⟩
  case round =>
    obtain ⟨i, hi, rfl, ha⟩ := hrel
    have HA := Lib.hid ha; clear ha
    by_cases hlt : i < n
    · obtain ⟨g, o, x, rfl, _, hgl, hz, hcc⟩ := H.out.get srow_len hlt
      have ks := hcc 0 _ rfl
      simp only [Nat.mul_one, Nat.add_zero] at ks
      have HZ := Lib.hid hz; clear hz hcc
      obtain ⟨E, hE⟩ : ∃ E, (s.toList == x.toList) = E := ⟨_, rfl⟩
      have HE := Lib.hid (show (nb x == nb s) = E by rw [← hE, eqS_nb, Bool.eq_iff_iff, beq_iff_eq, beq_iff_eq]; exact eq_comm)
      cases E
      · go_wp2_with fail
        go_round
        case rel => exact ⟨i + 1, by omega, by go_num, allP_succ (p := fun x : ByteArray => nb x == nb s) HA.out HZ.out HE.out⟩
        case measure => simp [intOf]; omega
      · go_wp2_with fail
        go_ret
        exact ⟨by rw [idxP_some (p := fun x : ByteArray => nb x == nb s) HA.out HZ.out HE.out]; rfl, rfl⟩
    · obtain rfl : n = i := by omega
      go_wp2_with fail
      go_ret
      have h := HA.out
      rw [List.take_of_length_le (by rw [H.out.len]; exact Nat.le_refl _)] at h
      exact ⟨by rw [idxP_none (p := fun x : ByteArray => nb x == nb s) h]; rfl, rfl⟩
set_option maxHeartbeats 1000000 in
theorem containsS_any (lo : Nat) (A : Option Addr) (n c : Nat) (l : List ByteArray) (s : ByteArray) (w : World) (h : Recs srow 1 w lo A n c l) (hn : n ≤ 1000000000) :
    Calls Tryz.prog 63 #[.slice A n c, .string s] w (Same (.bool (l.any (fun x => nb x == nb s))) w) := by
  have H := Lib.hid h; clear h
  obtain ⟨I, hI⟩ : ∃ I, idxP (fun x => nb x == nb s) l = I := ⟨_, rfl⟩
  have HI := Lib.hid (show decide (0 ≤ I) = l.any (fun x => nb x == nb s) by rw [← hI]; exact idxP_any)
  have HI2 := Lib.hid hI; clear hI
  go_enter Tryz.func63, Tryz.ntmps63
  go_wp2_with (first
    | (go_at_call 81; refine (indexS_any lo _ _ _ l s _ H.out hn).mono ?_; rintro e w2 ⟨rfl, rfl⟩; rw [HI2.out])
    | fail)
  go_ret
  exact ⟨by rw [← HI.out]; rfl, rfl⟩
end
end Go.Proofs.YtlkibeckfpjccaaGreatDoor
/- A region that draws its order and stores at its end: loads are taken first while the first store (number b) has not come up. Over any program. Conditions: none. -/
namespace Go.Proofs.YtlkibeckfpjccaaGreatDoor
section
section
open Go.RowKit

theorem set_take_drop {xs : List Value} {p : Nat} (hp : p < xs.length) (v : Value) (r : List Value) : (xs.set p v).take (p + 1) ++ r ++ (xs.set p v).drop (p + 1 + r.length) = xs.take p ++ (v :: r) ++ xs.drop (p + (v :: r).length) := by
  have h : (xs.set p v)[p]? = some v := by simp [hp]
  have e1 : (xs.set p v).take (p + 1) = xs.take p ++ [v] := by
    rw [take_snoc' h, List.take_set, List.set_eq_of_length_le (by rw [List.length_take]; omega)]
  have e2 : (xs.set p v).drop (p + 1 + r.length) = xs.drop (p + 1 + r.length) := List.drop_set_of_lt (by omega)
  rw [e1, e2, List.length_cons, show p + (r.length + 1) = p + 1 + r.length by omega]
  simp
section
variable {P : Program} {lo size n c g : Nat} {e : TypeId}
theorem run_storeCells_own : ∀ (vs : List Value) (s j : Nat) (w : World) (xs : List Value), Own w lo e size (some ⟨g, 0, none⟩) n c xs → (∀ v ∈ vs, v.oneCell' = true) → s + j + vs.length ≤ n * size →
    ∃ w', (storeCells ⟨g, s, none⟩ vs j).run P w = .ok () w' ∧ Own w' lo e size (some ⟨g, 0, none⟩) n c (xs.take (s + j) ++ vs ++ xs.drop (s + j + vs.length)) ∧ w.grownBy w' (some g)
  | [], s, j, w, xs, h, _, _ => ⟨w, rfl, by simpa using h, gr_refl _ _⟩
  | v :: rest, s, j, w, xs, h, h1, hl => by
    have hlen := h.len
    have hp : s + j < n * size := by simp at hl; omega
    have hcell := h.cell hp
    rw [List.getElem?_eq_getElem (by omega)] at hcell
    have hfro := h.frozen (s + j)
    have hst : (store ((⟨g, s, none⟩ : Addr).add j) v).run P w = .ok () (w.setCell ⟨g, s + j, none⟩ v) := by
      rw [add_mk, run_store P w _ v _ (h1 v (by simp)), hcell]
      simp [hfro]
    have h2 := h.stored (s + j) v
    obtain ⟨w', hrun, h3, hg⟩ := run_storeCells_own rest s (j + 1) (w.setCell ⟨g, s + j, none⟩ v) _ h2 (fun x hx => h1 x (by simp [hx])) (by simp at hl; omega)
    refine ⟨w', ?_, ?_, gr_same (gr_setCell (gr_refl w (some g)) (.inl rfl) v) hg⟩
    · simp only [storeCells, Sem.run_bind, hst, Result.andThen_ok, hrun]
    · rw [← Nat.add_assoc, set_take_drop (by omega)] at h3
      exact h3
variable {w : World} {o : Oper} {a : Act} {K : Act → World → Prop} {Q : Exit → Act → World → Prop} {α : Type} {row : α → List Value} {k : Nat} {l : List α}
theorem wp_store_rec {ty : TypeId} (T : StructT P ty k) (hrow : ∀ a, (row a).length = k) (hk : 0 < k) (x y : Operand) (ho : o.op = .store ty x y) (i p : Nat) (hp : p = i * k) (hx : a.eval x = .pointer (some ⟨g, p, none⟩)) (z : α) (hy : a.eval y = .agg (row z).toArray)
    (h : OwnR row k w lo e (some ⟨g, 0, none⟩) n c l) (hi : i < n) (h1 : ∀ u ∈ row z, u.oneCell' = true)
    (hK : ∀ w', OwnR row k w' lo e (some ⟨g, 0, none⟩) n c (l.set i z) → w.grownBy w' (some g) → K (a.put o.dst undef) w') : o.wp P a w K Q := by
  subst hp
  obtain ⟨d, hd1, hd2, hd3⟩ := T
  have hle : i * k + k ≤ n * k := by have := Nat.mul_le_mul_right k (show i + 1 ≤ n by omega); rw [Nat.succ_mul] at this; exact this
  obtain ⟨w', hrun, h2, hg⟩ := run_storeCells_own (P := P) (row z) (i * k) 0 w _ h.1 h1 (by rw [hrow]; omega)
  obtain ⟨b, hb⟩ : ∃ b, l[i]? = some b := ⟨_, List.getElem?_eq_getElem (by rw [h.2]; exact hi)⟩
  have hf := flat_set hrow hk hb (a' := z) (ys := row z) 0 (by rw [hrow]; omega) (by rw [List.take_zero, List.nil_append, List.drop_of_length_le (by rw [hrow, hrow]; omega), List.append_nil])
  rw [hf] at h2
  cases hq : P.info? ty with
  | none => simp [hq] at hd3
  | some inf =>
    have hs : inf.size = k := by simpa [hq] using hd3
    unfold Oper.wp execOp
    have hst : (Instr.storeAt ty (.pointer (some ⟨g, i * k, none⟩)) (.agg (row z).toArray)).run P w = .ok () w' := by
      simp [Instr.storeAt, Instr.sureAddr, storeVar, sizeOf, typeInfo, hq, hs, Value.cells, hrow, hrun]
    simp only [ho, hx, hy, Sem.run_bind, Sem.run_pure, Result.andThen_ok, hst]
    exact hK w' ⟨h2, by rw [List.length_set]; exact h.2⟩ hg
end
end
section
variable {P : Program} {ops : Array Oper} {Q : Exit → Act → World → Prop} {md : Region.Mode} {S : World → Prop} {b : Nat}

/-- Whatever order is picked from here on; S holds behind every operation till number b has come up. -/
def wpAnyB (P : Program) (md : Region.Mode) (ops : Array Oper) (Q : Exit → Act → World → Prop) (S : World → Prop) (b : Nat) : Nat → Array Bool → Act → World → Prop
  | 0, listed, a, w => Region.ready md ops listed = [] ∧ Q .normal a w
  | fuel + 1, listed, a, w =>
    (Region.ready md ops listed = [] → Q .normal a w) ∧
    ∀ i ∈ Region.ready md ops listed, wpOp P ops Q i (fun a' w' => ((listed.setIfInBounds i true).getD b false = true ∨ S w') ∧ wpAnyB P md ops Q S b fuel (listed.setIfInBounds i true) a' w') a w
theorem wpAny_of_B : ∀ (fuel : Nat) (listed : Array Bool) (a : Act) (w : World), wpAnyB P md ops Q S b fuel listed a w → wpAny P md ops Q fuel listed a w
  | 0, _, _, _, h => h
  | fuel + 1, _, _, _, h => ⟨h.1, fun i hi => wpOp_mono (fun a' w' h' => wpAny_of_B fuel _ a' w' h'.2) (h.2 i hi)⟩
theorem wp_region_B {id : Nat} {a : Act} {w : World} (S : World → Prop) (b : Nat) (hm : P.follows .mixedOrders = true)
    (h : wpAnyB P .any ops Q S b ops.size (Array.replicate ops.size false) a w.drew) : (Code.region id ops true).wp P Q a w :=
  wp_region_any hm (wpAny_of_B (S := S) (b := b) _ _ _ _ h)
/-- Number b waits for number i, over at most f others. -/
def waitsT (md : Region.Mode) (ops : Array Oper) : Nat → Nat → Nat → Bool
  | 0, b, i => Region.waitsFor md ops b i
  | f + 1, b, i => Region.waitsFor md ops b i || (List.range ops.size).any fun j => Region.waitsFor md ops b j && waitsT md ops f j i
theorem waitsT_spec {listed : Array Bool} (inv : HeadInv md ops ops.size listed) : ∀ (f b i : Nat), waitsT md ops f b i = true → listed.getD b false = true → listed.getD i false = true := by
  have one : ∀ b i, Region.waitsFor md ops b i = true → listed.getD b false = true → listed.getD i false = true := fun b i h hl => by
    obtain ⟨ob, hob, e, he, hb, hon⟩ := Region.waitsFor_spec h
    have := inv.closed b ob hob hl e he hb
    rwa [hon] at this
  intro f
  induction f with
  | zero => exact one
  | succ f ih =>
    intro b i h hl
    unfold waitsT at h
    rw [Bool.or_eq_true] at h
    rcases h with h | h
    · exact one b i h hl
    · obtain ⟨j, _, hj⟩ := List.any_eq_true.1 h
      rw [Bool.and_eq_true] at hj
      exact ih j i hj.2 (one b j hj.1 hl)
/-- S where the operation looks at memory, else nothing. -/
def memS0 (S : World → Prop) : Bool → World → Prop
  | true => S
  | false => fun _ => True
theorem wpAnyB_first {i : Nat} {oi : Oper} {v : Value} (mem : Bool) (hi : ops[i]? = some oi) (hsel : ∀ (j : Nat) (o : Oper) cs b, ops[j]? = some o → o.op ≠ .select cs b)
    (hQ : ∀ c a w, Q (.panic c) (a.put oi.dst v) w → Q (.panic c) a w) (hib : i ≠ b) (hwait : mem = true → waitsT md ops 4 b i = true) :
    ∀ (fuel : Nat) (listed : Array Bool) (a : Act) (w : World), HeadInv md ops ops.size listed →
      (∀ j oj, ops[j]? = some oj → j ≠ i → listed.getD j true = false → (∀ e ∈ oj.after, Region.binds md e = true → e.on ≠ i) → oi.apart ops oj = true) →
      i ∈ Region.ready md ops listed → YieldsIf P ops (memS0 S mem) oi v a → (listed.getD b false = true ∨ S w) →
      wpAnyB P md ops Q S b fuel (listed.setIfInBounds i true) (a.put oi.dst v) w → wpAnyB P md ops Q S b (fuel + 1) listed a w := by
  have hm : ∀ (listed : Array Bool) (w : World), HeadInv md ops ops.size listed → listed.getD i true = false → (listed.getD b false = true ∨ S w) → memS0 S mem w := by
    intro listed w inv hun hS
    cases mem with
    | false => trivial
    | true =>
      rcases hS with h | h
      · have := waitsT_spec inv 4 b i (hwait rfl) h
        rw [getD_both hun] at this
        cases this
      · exact h
  intro fuel
  induction fuel with
  | zero =>
    intro listed a w inv _ hr hy hS H
    have hun := (mem_ready.1 hr).1
    refine ⟨fun h => (by rw [h] at hr; cases hr), fun j hj => ?_⟩
    by_cases hji : j = i
    · subst hji; exact hy.wpOp hi (hm _ _ inv hun hS) ⟨by rw [getD_set_ne false hib]; exact hS, H⟩
    · have := ready_mono hj hji
      rw [H.1] at this
      cases this
  | succ fuel ih =>
    intro listed a w inv hfree hr hy hS H
    have hun := (mem_ready.1 hr).1
    refine ⟨fun h => (by rw [h] at hr; cases hr), fun j hj => ?_⟩
    by_cases hji : j = i
    · subst hji; exact hy.wpOp hi (hm _ _ inv hun hS) ⟨by rw [getD_set_ne false hib]; exact hS, H⟩
    · have h1 := H.2 j (ready_mono hj hji)
      obtain ⟨hjun, oj, hoj, hall⟩ := mem_ready.1 hj
      have hjn : j < ops.size := (Array.getElem?_eq_some_iff.1 hoj).1
      have hnot : ∀ e ∈ oj.after, Region.binds md e = true → e.on ≠ i := fun e he hb heq => by
        have h1 := hall e he hb
        rw [heq, getD_both hun] at h1
        cases h1
      have h2 := wpOp_putIf hoj (hfree j oj hoj hji hjun hnot) (fun cs b => hsel i oi cs b hi) (fun cs b => hsel j oj cs b hoj) hQ hy h1
      have hfree' : ∀ k ok, ops[k]? = some ok → k ≠ i → (listed.setIfInBounds j true).getD k true = false →
          (∀ e ∈ ok.after, Region.binds md e = true → e.on ≠ i) → oi.apart ops ok = true := fun k ok hk hki hkun hno => by
        refine hfree k ok hk hki ?_ hno
        by_cases hjk : j = k
        · subst hjk; exact hjun
        · rw [getD_set_ne true hjk] at hkun; exact hkun
      refine wpOp_mono (fun a' w' h3 => ?_) h2
      have hS' : (listed.setIfInBounds j true).getD b false = true ∨ S w' := by
        rcases h3.2.1 with h | h
        · left
          rw [Array.setIfInBounds_comm _ _ (Ne.symm hji), getD_set_ne false hib] at h
          exact h
        · exact .inr h
      refine ⟨hS', ih (listed.setIfInBounds j true) a' w' (inv.set hj hjn) hfree' (ready_mono hr (Ne.symm hji)) h3.1 hS' ?_⟩
      rw [Array.setIfInBounds_comm _ _ hji]
      exact h3.2.2
/-- What has come up is closed. -/
def closedB (md : Region.Mode) (ops : Array Oper) (listed : Array Bool) : Bool :=
  decide (listed.size = ops.size) && (List.range ops.size).all fun j => !listed.getD j false || (match ops[j]? with | some o => o.after.all fun e => !Region.binds md e || listed.getD e.on false | none => true)
theorem closedB_spec {listed : Array Bool} (h : closedB md ops listed = true) : HeadInv md ops ops.size listed := by
  unfold closedB at h
  simp only [Bool.and_eq_true, decide_eq_true_eq] at h
  obtain ⟨h1, h4⟩ := h
  refine ⟨h1, fun j oj hj hl e he hb => ?_, fun t ht ht2 => by omega⟩
  have hj2 := (Array.getElem?_eq_some_iff.1 hj).1
  have := List.all_eq_true.1 h4 j (List.mem_range.2 hj2)
  rw [hl, hj] at this
  simp only [Bool.not_true, Bool.false_or] at this
  have := Array.all_eq_true_iff_forall_mem.1 this e he
  rw [hb] at this
  simpa using this
def btakeB (md : Region.Mode) (ops : Array Oper) (b : Nat) (mem : Bool) (listed : Array Bool) (k : Nat) : Bool :=
  Region.noSelect ops && decide (k ≠ b) && (!mem || waitsT md ops 4 b k) && closedB md ops listed && (Region.ready md ops listed).contains k && Region.free md ops listed k
variable {ls : List Oper}
/-- One that reckons (mem = false) or loads (mem = true). -/
theorem B_take {fuel k : Nat} {listed : Array Bool} {o : Oper} {a : Act} {w : World} (mem : Bool) (v : Value) (ho : opAt ls k = some o) (hB : btakeB md ls.toArray b mem listed k = true)
    (hQ : ∀ c a w, Q (.panic c) (a.put o.dst v) w → Q (.panic c) a w) (hw : Region.wanted o (yielded ls.toArray a.tmps) = true) (hy : ∀ w, memS0 S mem w → (execOp a.eval o).run P w = .ok (.value v) w) (hS : listed.getD b false = true ∨ S w)
    (h : wpAnyB P md ls.toArray Q S b fuel (listed.setIfInBounds k true) (a.put o.dst v) w) : wpAnyB P md ls.toArray Q S b (fuel + 1) listed a w := by
  unfold btakeB at hB
  simp only [Bool.and_eq_true, decide_eq_true_eq, Bool.or_eq_true, Bool.not_eq_true'] at hB
  obtain ⟨⟨⟨⟨⟨h1, h2⟩, h3⟩, h4⟩, h5⟩, h6⟩ := hB
  rw [opAt_eq] at ho
  exact wpAnyB_first mem ho (Region.noSelect_spec h1) hQ h2 (fun e => h3.resolve_left (by rw [e]; decide)) fuel listed a w (closedB_spec h4) (Region.free_spec ho h6) (by simpa using h5) (.inl ⟨hw, hy⟩) hS h
/-- One whose guard keeps it from running. -/
theorem B_skip {fuel k : Nat} {listed : Array Bool} {o : Oper} {a : Act} {w : World} (ho : opAt ls k = some o) (hB : btakeB md ls.toArray b false listed k = true)
    (hQ : ∀ c a w, Q (.panic c) (a.put o.dst undef) w → Q (.panic c) a w) (hw : Region.wanted o (yielded ls.toArray a.tmps) = false) (hS : listed.getD b false = true ∨ S w)
    (h : wpAnyB P md ls.toArray Q S b fuel (listed.setIfInBounds k true) (a.put o.dst undef) w) : wpAnyB P md ls.toArray Q S b (fuel + 1) listed a w := by
  unfold btakeB at hB
  simp only [Bool.and_eq_true, decide_eq_true_eq, Bool.or_eq_true, Bool.not_eq_true'] at hB
  obtain ⟨⟨⟨⟨⟨h1, h2⟩, h3⟩, h4⟩, h5⟩, h6⟩ := hB
  rw [opAt_eq] at ho
  exact wpAnyB_first false ho (Region.noSelect_spec h1) hQ h2 (fun e => by cases e) fuel listed a w (closedB_spec h4) (Region.free_spec ho h6) (by simpa using h5) (.inr ⟨hw, rfl⟩) hS h
/-- One that comes up alone. -/
theorem B_run {fuel k : Nat} {listed : Array Bool} {o : Oper} {a : Act} {w : World} (ho : opAt ls k = some o) (hr : Region.ready md ls.toArray listed = [k]) (hw : Region.wanted o (yielded ls.toArray a.tmps) = true)
    (h : ∀ K : Act → World → Prop, (∀ a' w', ((listed.setIfInBounds k true).getD b false = true ∨ S w') → wpAnyB P md ls.toArray Q S b fuel (listed.setIfInBounds k true) a' w' → K a' w') → o.wp P a w K Q) : wpAnyB P md ls.toArray Q S b (fuel + 1) listed a w := by
  refine ⟨fun h1 => (by rw [hr] at h1; cases h1), fun i hi => ?_⟩
  rw [hr] at hi
  have hik : i = k := by simpa using hi
  subst hik
  rw [opAt_eq] at ho
  unfold wpOp
  simp only [ho, hw, if_true]
  exact .inl (h _ fun a' w' h1 h2 => ⟨h1, h2⟩)
theorem B_done {listed : Array Bool} {a : Act} {w : World} (hr : Region.ready md ops listed = []) (h : Q .normal a w) : wpAnyB P md ops Q S b 0 listed a w := ⟨hr, h⟩
end
end
end Go.Proofs.YtlkibeckfpjccaaGreatDoor
/- Moves in drawn regions: two or three operations that come up in any order; whole loads. Conditions: none. -/
namespace Go.Proofs.YtlkibeckfpjccaaGreatDoor
section
open Go.RowKit

theorem exec_ldr {P : Program} {w : World} {o : Oper} {ev : Operand → Value} {ty : TypeId} {n : Nat} (T : StructT P ty n) (x : Operand) (ho : o.op = .load ty x) (a : Addr) (hx : ev x = .pointer (some a)) (cs : List Value) (hb : ∀ (j : Nat) (u : Value), cs[j]? = some u → w.cell? (a.add j) = some u) (hn : cs.length = n) :
    (execOp ev o).run P w = .ok (.value (.agg cs.toArray)) w := by
  unfold execOp
  simp only [ho, hx, Instr.loadAt, Instr.sureAddr, Sem.run_bind, Sem.run_pure, Result.andThen_ok, run_load_at T hn hb]
theorem exec_ldb {P : Program} {w : World} {o : Oper} {ev : Operand → Value} {ty : TypeId} {n : Nat} (T : StructT P ty n) (x : Operand) (ho : o.op = .load ty x) (g : Nat) (hx : ev x = .pointer (some ⟨g, 0, none⟩)) (t : TypeId) (cs : List Value) (hb : Blk w g t cs.toArray) (hn : cs.length = n) :
    (execOp ev o).run P w = .ok (.value (.agg cs.toArray)) w := by
  unfold execOp
  simp only [ho, hx, Instr.loadAt, Instr.sureAddr, Sem.run_bind, Sem.run_pure, Result.andThen_ok, run_load_at T hn (fun j u hu => by rw [add_mk, Nat.zero_add, hb.cell]; simpa using hu)]
theorem H_runTwo {P : Program} {ls : List Oper} {md : Region.Mode} {Q : Exit → Act → World → Prop} {S : World → Prop} {fuel k1 k2 : Nat} {listed : Array Bool} {o1 o2 : Oper} {a : Act} {w : World} (ho1 : opAt ls k1 = some o1) (ho2 : opAt ls k2 = some o2) (hr : Region.ready md ls.toArray listed = [k1, k2]) (hw1 : Region.wanted o1 (yielded ls.toArray a.tmps) = true) (hw2 : Region.wanted o2 (yielded ls.toArray a.tmps) = true)
    (h1 : ∀ K : Act → World → Prop, (∀ a' w', S w' → wpAnyH P md ls.toArray Q S fuel (listed.setIfInBounds k1 true) a' w' → K a' w') → o1.wp P a w K Q)
    (h2 : ∀ K : Act → World → Prop, (∀ a' w', S w' → wpAnyH P md ls.toArray Q S fuel (listed.setIfInBounds k2 true) a' w' → K a' w') → o2.wp P a w K Q) : wpAnyH P md ls.toArray Q S (fuel + 1) listed a w := by
  refine ⟨fun h => (by rw [hr] at h; cases h), fun i hi => ?_⟩
  rw [hr] at hi
  have hik : i = k1 ∨ i = k2 := by simpa using hi
  rcases hik with rfl | rfl
  · rw [opAt_eq] at ho1
    unfold wpOp
    simp only [ho1, hw1, if_true]
    exact .inl (h1 _ fun a' w' hs h => ⟨hs, h⟩)
  · rw [opAt_eq] at ho2
    unfold wpOp
    simp only [ho2, hw2, if_true]
    exact .inl (h2 _ fun a' w' hs h => ⟨hs, h⟩)
theorem H_runThree {P : Program} {ls : List Oper} {md : Region.Mode} {Q : Exit → Act → World → Prop} {S : World → Prop} {fuel k1 k2 k3 : Nat} {listed : Array Bool} {o1 o2 o3 : Oper} {a : Act} {w : World} (ho1 : opAt ls k1 = some o1) (ho2 : opAt ls k2 = some o2) (ho3 : opAt ls k3 = some o3) (hr : Region.ready md ls.toArray listed = [k1, k2, k3])
    (hw1 : Region.wanted o1 (yielded ls.toArray a.tmps) = true) (hw2 : Region.wanted o2 (yielded ls.toArray a.tmps) = true) (hw3 : Region.wanted o3 (yielded ls.toArray a.tmps) = true)
    (h1 : ∀ K : Act → World → Prop, (∀ a' w', S w' → wpAnyH P md ls.toArray Q S fuel (listed.setIfInBounds k1 true) a' w' → K a' w') → o1.wp P a w K Q)
    (h2 : ∀ K : Act → World → Prop, (∀ a' w', S w' → wpAnyH P md ls.toArray Q S fuel (listed.setIfInBounds k2 true) a' w' → K a' w') → o2.wp P a w K Q)
    (h3 : ∀ K : Act → World → Prop, (∀ a' w', S w' → wpAnyH P md ls.toArray Q S fuel (listed.setIfInBounds k3 true) a' w' → K a' w') → o3.wp P a w K Q) : wpAnyH P md ls.toArray Q S (fuel + 1) listed a w := by
  refine ⟨fun h => (by rw [hr] at h; cases h), fun i hi => ?_⟩
  rw [hr] at hi
  have hik : i = k1 ∨ i = k2 ∨ i = k3 := by simpa using hi
  rcases hik with rfl | rfl | rfl
  · rw [opAt_eq] at ho1
    unfold wpOp
    simp only [ho1, hw1, if_true]
    exact .inl (h1 _ fun a' w' hs h => ⟨hs, h⟩)
  · rw [opAt_eq] at ho2
    unfold wpOp
    simp only [ho2, hw2, if_true]
    exact .inl (h2 _ fun a' w' hs h => ⟨hs, h⟩)
  · rw [opAt_eq] at ho3
    unfold wpOp
    simp only [ho3, hw3, if_true]
    exact .inl (h3 _ fun a' w' hs h => ⟨hs, h⟩)
section
variable {P : Program} {ls : List Oper} {md : Region.Mode} {Q : Exit → Act → World → Prop} {S : World → Prop} {b : Nat}
/-- Two that can come up, either first. -/
theorem B_runTwo {fuel k1 k2 : Nat} {listed : Array Bool} {o1 o2 : Oper} {a : Act} {w : World} (ho1 : opAt ls k1 = some o1) (ho2 : opAt ls k2 = some o2) (hr : Region.ready md ls.toArray listed = [k1, k2]) (hw1 : Region.wanted o1 (yielded ls.toArray a.tmps) = true) (hw2 : Region.wanted o2 (yielded ls.toArray a.tmps) = true)
    (h1 : ∀ K : Act → World → Prop, (∀ a' w', ((listed.setIfInBounds k1 true).getD b false = true ∨ S w') → wpAnyB P md ls.toArray Q S b fuel (listed.setIfInBounds k1 true) a' w' → K a' w') → o1.wp P a w K Q)
    (h2 : ∀ K : Act → World → Prop, (∀ a' w', ((listed.setIfInBounds k2 true).getD b false = true ∨ S w') → wpAnyB P md ls.toArray Q S b fuel (listed.setIfInBounds k2 true) a' w' → K a' w') → o2.wp P a w K Q) : wpAnyB P md ls.toArray Q S b (fuel + 1) listed a w := by
  refine ⟨fun h => (by rw [hr] at h; cases h), fun i hi => ?_⟩
  rw [hr] at hi
  have hik : i = k1 ∨ i = k2 := by simpa using hi
  rcases hik with rfl | rfl
  · rw [opAt_eq] at ho1
    unfold wpOp
    simp only [ho1, hw1, if_true]
    exact .inl (h1 _ fun a' w' hs h => ⟨hs, h⟩)
  · rw [opAt_eq] at ho2
    unfold wpOp
    simp only [ho2, hw2, if_true]
    exact .inl (h2 _ fun a' w' hs h => ⟨hs, h⟩)
end
end
end Go.Proofs.YtlkibeckfpjccaaGreatDoor

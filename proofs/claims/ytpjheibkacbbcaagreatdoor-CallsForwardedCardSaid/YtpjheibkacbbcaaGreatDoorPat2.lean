/- Contracts of the reading of a set and of an element of a pattern. Conditions: none. -/
import Derived.Test.YtpjheibkacbbcaaGreatDoorPat1
import Derived.Lib.Tables
import Derived.Lib.BitFns
namespace Go.Proofs.YtpjheibkacbbcaaGreatDoor
open Go.RowKit

/-- A function that only reads: draws of its order aside, the world stays. -/
def DrewV (v : Value) (w : World) (e : Ending) (w' : World) : Prop := e = .returned v ∧ ∃ k, w' = w.drewN k

/-- The first place of a byte, or -1. -/
def idxL (l : List Nat) (c : Nat) : Int := if c ∈ l then ((l.takeWhile (· != c)).length : Int) else -1
theorem idx_eq (l : List UInt8) (c : Nat) (hc : c < 256) : Lib.indexByte l c.toUInt8 = idxL (l.map UInt8.toNat) c := by
  induction l with
  | nil => simp [Lib.indexByte, idxL]
  | cons b l ih =>
    have hb : (b == c.toUInt8) = (b.toNat == c) := by
      rw [Bool.eq_iff_iff, beq_iff_eq, beq_iff_eq]
      constructor
      · rintro rfl; simp [Nat.mod_eq_of_lt hc]
      · rintro rfl; simp
    unfold Lib.indexByte
    rw [ih, hb]
    unfold idxL
    by_cases h : b.toNat = c
    · simp [h]
    · have h' : (b.toNat == c) = false := by simpa using h
      rw [h']
      have hm : (c ∈ (b :: l).map UInt8.toNat) ↔ c ∈ l.map UInt8.toNat := by simp [Ne.symm h]
      by_cases h2 : c ∈ l.map UInt8.toNat
      · rw [if_pos h2, if_pos (hm.2 h2)]
        have h3 : (b.toNat != c) = true := by simpa using h
        simp only [List.map_cons, List.takeWhile_cons, h3, if_true, List.length_cons]
        have : ((((l.map UInt8.toNat).takeWhile (· != c)).length : Int) == -1) = false := by
          rw [beq_eq_false_iff_ne]; omega
        rw [this]
        simp
      · rw [if_neg h2, if_neg (fun h3 => h2 (hm.1 h3))]
        simp
theorem indexByteN (s : ByteArray) (c : Nat) (w : World) (hc : c < 256) : Calls Tryz.prog 180 #[.string s, .int .u8 c] w (Same (.int .i64 (idxL (nb s) c)) w) := by
  refine (indexByte_any s c w).mono ?_
  rintro e w' ⟨rfl, rfl⟩
  refine ⟨?_, rfl⟩
  rw [Int.toNat_natCast, idx_eq _ _ hc]
  rfl

/-- Go's own table, as the translation writes it. -/
theorem pop_fold : (⟨((([0, 1, 1, 2, 1, 2, 2, 3, 1, 2, 2, 3, 2, 3, 3, 4, 1, 2, 2, 3, 2, 3, 3, 4, 2, 3, 3, 4, 3, 4, 4, 5, 1, 2, 2, 3, 2, 3, 3, 4, 2, 3, 3, 4, 3, 4, 4, 5, 2, 3, 3, 4, 3, 4, 4, 5, 3, 4, 4, 5, 4, 5, 5, 6] : List UInt8).append [1, 2, 2, 3, 2, 3, 3, 4, 2, 3, 3, 4, 3, 4, 4, 5, 2, 3, 3, 4, 3, 4, 4, 5, 3, 4, 4, 5, 4, 5, 5, 6, 2, 3, 3, 4, 3, 4, 4, 5, 3, 4, 4, 5, 4, 5, 5, 6, 3, 4, 4, 5, 4, 5, 5, 6, 4, 5, 5, 6, 5, 6, 6, 7]).append ([1, 2, 2, 3, 2, 3, 3, 4, 2, 3, 3, 4, 3, 4, 4, 5, 2, 3, 3, 4, 3, 4, 4, 5, 3, 4, 4, 5, 4, 5, 5, 6, 2, 3, 3, 4, 3, 4, 4, 5, 3, 4, 4, 5, 4, 5, 5, 6, 3, 4, 4, 5, 4, 5, 5, 6, 4, 5, 5, 6, 5, 6, 6, 7].append [2, 3, 3, 4, 3, 4, 4, 5, 3, 4, 4, 5, 4, 5, 5, 6, 3, 4, 4, 5, 4, 5, 5, 6, 4, 5, 5, 6, 5, 6, 6, 7, 3, 4, 4, 5, 4, 5, 5, 6, 4, 5, 5, 6, 5, 6, 6, 7, 4, 5, 5, 6, 5, 6, 6, 7, 5, 6, 6, 7, 6, 7, 7, 8])).toArray⟩ : ByteArray) = Lib.pop8tab := by decide +kernel
set_option maxRecDepth 100000 in
set_option maxHeartbeats 2000000 in
theorem ones_any (M : Nat) (w : World) (hM : M < 4096) : Calls Tryz.prog 294 #[.int .u16 M] w (DrewV (.int .i64 (cntM M : Nat)) w) := by
  have h1 : bits .and .u16 (M : Int) 255 = (M : Int) % 256 := by
    have := u16_and M 255 (by omega) (by omega)
    rw [show M &&& 255 = M % 256 from Nat.and_two_pow_sub_one_eq_mod M 8] at this
    rw [show ((M % 256 : Nat) : Int) = (M : Int) % 256 by omega] at this
    exact this
  have h4 : (0 : Int) ≤ (M : Int) / 256 := by omega
  have h5 : (M : Int) / 256 ≤ 255 := by omega
  have h6 : (0 : Int) ≤ (M : Int) % 256 := by omega
  have h7 : (M : Int) % 256 ≤ 255 := by omega
  have e1 := Lib.pop8_eq ⟨M / 256, by omega⟩
  have e2 := Lib.pop8_eq ⟨M % 256, by omega⟩
  have b1 := Lib.onesCount_le8 ⟨M / 256, by omega⟩
  have b2 := Lib.onesCount_le8 ⟨M % 256, by omega⟩
  dsimp only at e1 e2 b1 b2
  rw [show ((M / 256 : Nat) : Int) = (M : Int) / 256 by omega] at e1
  rw [show ((M % 256 : Nat) : Int) = (M : Int) % 256 by omega] at e2
  have HC := Lib.hid (show cntM M = Lib.onesCount (M / 256) + Lib.onesCount (M % 256) from rfl)
  generalize Lib.onesCount (M / 256) = p1 at *
  generalize Lib.onesCount (M % 256) = p2 at *
  have hfold := pop_fold
  go_enter Tryz.func294, Tryz.ntmps294
  go_wp2_with fail
  go_quiet (fail)
  go_wp2_with fail
  go_ret
  exact ⟨by rw [HC.out]; go_num, _, rfl⟩

/-- What readSet answers. -/
def rsOf (o : Option Nat) (n : Nat) : Nat × Nat := o.elim (0, 0) (fun M => (M, n + 1))
def rsL (l : List Nat) : Nat × Nat := rsOf (if 93 ∈ l then setM (l.takeWhile (· != 93)) else none) (l.takeWhile (· != 93)).length
theorem bnot_true {a B : Bool} (h : a = !B) (ha : a = false) : B = true := by subst ha; cases B <;> simp_all
section
variable {b : List Nat} {f i m : Nat}
theorem psF_end (h : ¬ i < b.length) : psF b f i m = some m := by
  cases f with
  | zero => rfl
  | succ f => rw [psF, if_neg h]
theorem psF_bad (h : i < b.length) (hc : b.getD i 0 < 48 ∨ 57 < b.getD i 0) : psF b (f + 1) i m = none := by
  rw [psF, if_pos h, if_pos (by simpa using hc)]
theorem psF_range {c d : Nat} (h : i + 2 < b.length) (hc : b.getD i 0 = c) (h0 : 48 ≤ c) (h1 : c ≤ 57) (h2 : b.getD (i + 1) 0 = 45) (hd : b.getD (i + 2) 0 = d) (h3 : c < d) (h4 : d ≤ 57) : psF b (f + 1) i m = psF b f (i + 3) (m ||| fromM c d) := by
  rw [psF, if_pos (by omega), hc, hd, h2, if_neg (by simp; omega), if_pos (by simp; omega)]
theorem psF_one {c : Nat} (h : i < b.length) (hc : b.getD i 0 = c) (h0 : 48 ≤ c) (h1 : c ≤ 57) (hn : ¬ (i + 2 < b.length ∧ b.getD (i + 1) 0 = 45 ∧ c < b.getD (i + 2) 0 ∧ b.getD (i + 2) 0 ≤ 57)) : psF b (f + 1) i m = psF b f (i + 1) (m ||| fromM c c) := by
  rw [psF, if_pos h, hc, if_neg (by simp; omega), if_neg (fun hx => hn (by simpa [and_assoc] using hx))]
end
theorem take_get {l : List Nat} {i : Nat} (h : i < (l.takeWhile (· != 93)).length) : (l.takeWhile (· != 93)).getD i 0 = l.getD i 0 := by
  obtain ⟨t, ht⟩ : ∃ t, l = l.takeWhile (· != 93) ++ t := ⟨l.dropWhile (· != 93), (List.takeWhile_append_dropWhile).symm⟩
  conv => rhs; rw [ht]
  rw [List.getD_eq_getElem?_getD, List.getD_eq_getElem?_getD, List.getElem?_append_left h]
theorem takeWhile_len {l : List Nat} (h : 93 ∈ l) : (l.takeWhile (· != 93)).length < l.length := by
  have ht : l.takeWhile (· != 93) ++ l.dropWhile (· != 93) = l := List.takeWhile_append_dropWhile
  have hl := congrArg List.length ht
  rw [List.length_append] at hl
  rcases Nat.eq_zero_or_pos (l.dropWhile (· != 93)).length with h0 | h0
  · exfalso
    have h1 : l.dropWhile (· != 93) = [] := List.eq_nil_of_length_eq_zero h0
    rw [h1, List.append_nil] at ht
    rw [← ht] at h
    have := List.all_takeWhile (l := l) (p := (· != 93))
    rw [List.all_eq_true] at this
    have := this 93 h
    simp at this
  · omega
theorem take_body (l : List Nat) : l.take (l.takeWhile (· != 93)).length = l.takeWhile (· != 93) := by
  have ht : l.takeWhile (· != 93) ++ l.dropWhile (· != 93) = l := List.takeWhile_append_dropWhile
  conv => lhs; rw [← ht]
  rw [List.takeWhile_append_dropWhile]
  conv => lhs; arg 2; rw [← ht]
  exact List.take_left' rfl
theorem list_beq_nb (s t : ByteArray) : (s.toList == t.toList) = (nb s == nb t) := by
  rw [ByteArray.toList_eq, ByteArray.toList_eq, Bool.eq_iff_iff, beq_iff_eq, beq_iff_eq]
  constructor
  · intro h; unfold nb; rw [h]
  · intro h; rw [nb_inj h]
theorem digF_bd {M f a : Nat} {s : List Nat} (h : ∀ b ∈ s, b < 256) (ha : a ≤ 60) : ∀ b ∈ digF M f a s, b < 256 := by
  induction f generalizing a s with
  | zero => exact h
  | succ f ih =>
    unfold digF
    split
    · split
      · have hr : ∀ (g b : Nat), b ≤ 57 → runE M g b ≤ 57 := by
          intro g
          induction g with
          | zero => intro b hb; exact hb
          | succ g ih2 =>
            intro b hb
            unfold runE
            split
            · rename_i hc
              simp only [Bool.and_eq_true, decide_eq_true_eq] at hc
              exact ih2 (b + 1) (by omega)
            · exact hb
        have := hr 10 a (by omega)
        refine ih (fun b hb => ?_) (by omega)
        rcases List.mem_append.1 hb with h1 | h1
        · exact h b h1
        · unfold piece at h1
          split at h1
          · simp at h1; omega
          · split at h1
            · simp at h1; omega
            · simp at h1; omega
      · exact ih h (by omega)
    · exact h
theorem nb_digL (M : Nat) : nb (strN (digL M)) = digL M := nb_strN (digF_bd (by simp) (by omega))

theorem from48 (w : World) : Calls Tryz.prog 259 #[.int .u8 48, .int .u8 57] w (Same (.int .u16 (fromM 48 57 : Nat)) w) := from_any 48 57 w (by omega) (by omega) (by omega)
theorem from49 (w : World) : Calls Tryz.prog 259 #[.int .u8 49, .int .u8 57] w (Same (.int .u16 (fromM 49 57 : Nat)) w) := from_any 49 57 w (by omega) (by omega) (by omega)
theorem from50 (w : World) : Calls Tryz.prog 259 #[.int .u8 50, .int .u8 57] w (Same (.int .u16 (fromM 50 57 : Nat)) w) := from_any 50 57 w (by omega) (by omega) (by omega)

end Go.Proofs.YtpjheibkacbbcaaGreatDoor

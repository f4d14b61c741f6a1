/- Contracts of element and read. Conditions: none. -/
import Derived.Test.YtpildcnoghojpaaGreatDoorPat3
namespace Go.Proofs.YtpildcnoghojpaaGreatDoor
open Go.RowKit

theorem Tryz.maskT : ElemT Tryz.prog 143 170 1 2 (.int .u16 0) := elemT_of Tryz.underlying143 (by kernel_rfl) rfl (by decide)
theorem Tryz.patT : StructT Tryz.prog 145 2 := ⟨_, Tryz.underlying145, rfl, by kernel_rfl⟩

def elR (l : List Nat) : Nat × Nat := (elemL l).getD (0, 0)
theorem nb_signs : nb ⟨#[35, 42, 48, 49, 50, 51, 52, 53, 54, 55, 56, 57]⟩ = sgn := by decide +kernel
theorem sg_idx : ∀ c : Fin 256, (c.val ∈ sgn → 0 ≤ idxL sgn c.val) ∧ (¬ c.val ∈ sgn → idxL sgn c.val < 0) := by decide +kernel
theorem nb_tail (s : ByteArray) : nb (s.extract 1 s.size) = (nb s).tail := by
  rw [nb_extract, ← nb_len, List.take_length, List.drop_one]
theorem nb_head {s : ByteArray} (h : 0 < s.size) : s[0].toNat = (nb s).headD 0 := by
  rw [nb_get h]; cases nb s <;> rfl
theorem elR_x (l : List Nat) (h : l.headD 0 = 88) : elR l = (fromM 48 57, 1) := by unfold elR elemL; rw [if_pos h]; rfl
theorem elR_z (l : List Nat) (h : l.headD 0 = 90) : elR l = (fromM 49 57, 1) := by unfold elR elemL; rw [if_neg (by omega), if_pos h]; rfl
theorem elR_n (l : List Nat) (h : l.headD 0 = 78) : elR l = (fromM 50 57, 1) := by unfold elR elemL; rw [if_neg (by omega), if_neg (by omega), if_pos h]; rfl
theorem elR_set (l : List Nat) (h : l.headD 0 = 91) : elR l = if (rsL l.tail).2 = 0 then (0, 0) else ((rsL l.tail).1, (rsL l.tail).2 + 1) := by
  unfold elR elemL rsL
  rw [if_neg (by omega), if_neg (by omega), if_neg (by omega), if_pos h]
  by_cases hm : 93 ∈ l.tail
  · rw [if_pos hm, if_pos hm]
    cases setM (l.tail.takeWhile (· != 93)) <;> simp [rsOf]
  · rw [if_neg hm, if_neg hm]; rfl
theorem elR_sg (l : List Nat) (c : Nat) (hl : l.headD 0 = c) (h : c ∈ sgn) : elR l = (onlyM c, 1) := by
  unfold elR elemL
  have hh := h
  simp [sgn] at hh
  rw [hl, if_neg (by omega), if_neg (by omega), if_neg (by omega), if_neg (by omega), if_pos h]; rfl
theorem elR_no (l : List Nat) (c : Nat) (hl : l.headD 0 = c) (h : ¬ c ∈ sgn) (h1 : ¬ c = 88) (h2 : ¬ c = 90) (h3 : ¬ c = 78) (h4 : ¬ c = 91) : elR l = (0, 0) := by
  subst hl
  unfold elR elemL
  rw [if_neg h1, if_neg h2, if_neg h3, if_neg h4, if_neg h]; rfl
theorem beq_no {c k : Nat} (h : ¬ c = k) : ((c : Int) == (k : Int)) = false ∧ (c == k) = false := ⟨by rw [beq_eq_false_iff_ne]; omega, by rw [beq_eq_false_iff_ne]; exact h⟩

set_option maxRecDepth 100000 in
set_option maxHeartbeats 4000000 in
theorem element_any (s : ByteArray) (w : World) (h0 : 0 < s.size) (hs : s.size ≤ 60) :
    Calls Tryz.prog 78 #[.string s] w (RetV (.tuple #[.int .u16 (elR (nb s)).1, .int .i64 (elR (nb s)).2]) w) := by
  obtain ⟨c, hc⟩ : ∃ c, s[0].toNat = c := ⟨_, rfl⟩
  have c256 : c < 256 := by rw [← hc]; exact UInt8.toNat_lt _
  have hhd : (nb s).headD 0 = c := by rw [← nb_head h0]; exact hc
  obtain ⟨t, ht⟩ : ∃ t, s.extract 1 s.size = t := ⟨_, rfl⟩
  have tsz : t.size ≤ 60 := by rw [← ht, ← nb_len, nb_tail, List.length_tail, nb_len]; omega
  have HT := Lib.hid (show nb t = (nb s).tail by rw [← ht, nb_tail])
  have j0 : (1 : Int) ≤ (s.size : Int) := by omega
  have j1 : 1 ≤ s.size := by omega
  by_cases k1 : c = 88
  · subst k1
    have HE := Lib.hid (elR_x _ hhd); clear hhd
    go_enter Tryz.func78, Tryz.ntmps78
    go_wp2_with (first | (go_at_call 92; refine (from48 _).mono ?_; rintro e w' ⟨rfl, rfl⟩) | fail)
    go_ret2
    exact ⟨by rw [HE.out]; rfl, gr_refl _ _⟩
  · obtain ⟨b1, b1'⟩ := beq_no k1
    by_cases k2 : c = 90
    · subst k2
      have HE := Lib.hid (elR_z _ hhd); clear hhd
      go_enter Tryz.func78, Tryz.ntmps78
      go_wp2_with (first | (go_at_call 92; refine (from49 _).mono ?_; rintro e w' ⟨rfl, rfl⟩) | fail)
      go_ret2
      exact ⟨by rw [HE.out]; rfl, gr_refl _ _⟩
    · obtain ⟨b2, b2'⟩ := beq_no k2
      by_cases k3 : c = 78
      · subst k3
        have HE := Lib.hid (elR_n _ hhd); clear hhd
        go_enter Tryz.func78, Tryz.ntmps78
        go_wp2_with (first | (go_at_call 92; refine (from50 _).mono ?_; rintro e w' ⟨rfl, rfl⟩) | fail)
        go_ret2
        exact ⟨by rw [HE.out]; rfl, gr_refl _ _⟩
      · obtain ⟨b3, b3'⟩ := beq_no k3
        by_cases k4 : c = 91
        · subst k4
          have HE := Lib.hid (elR_set _ hhd); clear hhd
          obtain ⟨M, n, hmn⟩ : ∃ M n, rsL (nb s).tail = (M, n) := ⟨_, _, rfl⟩
          have HMN := Lib.hid hmn
          have HE2 := Lib.hid (show elR (nb s) = if n = 0 then (0, 0) else (M, n + 1) by rw [HE.out, hmn])
          have nsz : n ≤ 61 := by
            have h := congrArg Prod.snd hmn
            dsimp only at h
            rw [← h]
            unfold rsL rsOf
            have h3 := (List.takeWhile_sublist (l := (nb s).tail) (· != 93)).length_le
            have h4 : (nb s).tail.length ≤ 60 := by rw [List.length_tail, nb_len]; omega
            split
            · cases setM ((nb s).tail.takeWhile (· != 93)) <;> simp <;> omega
            · simp
          clear hmn HE
          by_cases hn : n = 0
          · subst hn
            go_enter Tryz.func78, Tryz.ntmps78
            go_wp2_with (first | (go_at_call 93; refine (readSet_any t _ tsz).mono ?_; rintro e w' ⟨rfl, hg⟩; rw [HT.out, HMN.out]; have HG := Lib.hid hg; clear hg) | fail)
            go_ret2
            exact ⟨by rw [HE2.out]; rfl, HG.out⟩
          · obtain ⟨b4, b4'⟩ := beq_no hn
            go_enter Tryz.func78, Tryz.ntmps78
            go_wp2_with (first | (go_at_call 93; refine (readSet_any t _ tsz).mono ?_; rintro e w' ⟨rfl, hg⟩; rw [HT.out, HMN.out]; have HG := Lib.hid hg; clear hg) | fail)
            go_ret2
            exact ⟨by rw [HE2.out, if_neg hn]; go_num, HG.out⟩
        · obtain ⟨b4, b4'⟩ := beq_no k4
          by_cases hsg : c ∈ sgn
          · have HE := Lib.hid (elR_sg _ c hhd hsg)
            obtain ⟨z, hz⟩ : ∃ z, idxL sgn c = z := ⟨_, rfl⟩
            have z0 : 0 ≤ z := by rw [← hz]; exact (sg_idx ⟨c, c256⟩).1 hsg
            have HZ := Lib.hid hz; have HSG := Lib.hid hsg; clear hz hsg hhd
            go_enter Tryz.func78, Tryz.ntmps78
            go_wp2_with (first
              | (go_at_call 94; refine (indexByteN _ c _ c256).mono ?_; rintro e w' ⟨rfl, rfl⟩; rw [nb_signs, HZ.out])
              | (go_at_call 95; refine (only_any c _ HSG.out).mono ?_; rintro e w' ⟨rfl, rfl⟩)
              | fail)
            go_ret2
            exact ⟨by rw [HE.out]; rfl, gr_refl _ _⟩
          · have HE := Lib.hid (elR_no _ c hhd hsg k1 k2 k3 k4)
            obtain ⟨z, hz⟩ : ∃ z, idxL sgn c = z := ⟨_, rfl⟩
            have z0 : z < 0 := by rw [← hz]; exact (sg_idx ⟨c, c256⟩).2 hsg
            have HZ := Lib.hid hz; clear hz hsg hhd
            go_enter Tryz.func78, Tryz.ntmps78
            go_wp2_with (first
              | (go_at_call 94; refine (indexByteN _ c _ c256).mono ?_; rintro e w' ⟨rfl, rfl⟩; rw [nb_signs, HZ.out])
              | fail)
            go_ret2
            exact ⟨by rw [HE.out]; rfl, gr_refl _ _⟩

/-! read -/
theorem elemL_bd {l : List Nat} {M n : Nat} (h : elemL l = some (M, n)) (hl : l ≠ []) : 1 ≤ n ∧ n ≤ l.length ∧ M < 4096 := by
  have h0 : 0 < l.length := by cases l <;> simp at hl ⊢
  unfold elemL at h
  have hx := fromM_bd (c := 48) (d := 57) (by omega) (by omega) (by omega)
  have hz := fromM_bd (c := 49) (d := 57) (by omega) (by omega) (by omega)
  have hn := fromM_bd (c := 50) (d := 57) (by omega) (by omega) (by omega)
  split at h
  · injection h with h; injection h with h1 h2; omega
  · split at h
    · injection h with h; injection h with h1 h2; omega
    · split at h
      · injection h with h; injection h with h1 h2; omega
      · split at h
        · split at h
          · rename_i hm
            cases hs : setM (l.tail.takeWhile (· != 93)) with
            | none => rw [hs] at h; cases h
            | some M' =>
              rw [hs] at h
              injection h with h; injection h with h1 h2
              have := takeWhile_len hm
              rw [List.length_tail] at this
              have := (psL_bd (setM_some hs).1).2
              omega
          · cases h
        · split at h
          · rename_i hm
            injection h with h; injection h with h1 h2
            have := (only_fin _ hm).2
            omega
          · cases h
theorem elR_some {l : List Nat} {M n : Nat} (h : elemL l = some (M, n)) : elR l = (M, n) := by unfold elR; rw [h]; rfl
theorem elR_none {l : List Nat} (h : elemL l = none) : elR l = (0, 0) := by unfold elR; rw [h]; rfl
def mv (m : Nat) : Value := .int .u16 m
/-- What read answers of a string of at most 60 bytes. -/
def IsRead (lo : Nat) (l : List Nat) (v : Value) (w : World) : Prop :=
  (∃ (x : List Nat × Nat) (A : Option Addr) (n c : Nat), shpL l = some x ∧ v = .tuple #[.agg #[.slice A n c, .int .u8 x.2], .int .i64 0] ∧ Own w lo 170 1 A n c (x.1.map mv) ∧ x.1.length ≤ 30) ∨
  (shpL l = none ∧ v = .tuple #[.agg #[.slice none 0 0, .int .u8 0], .int .i64 9])
def RdRel (w wr : World) (l : List Nat) (t : ByteArray) (f : Nat) (S : List Nat) (A : Option Addr) (n c : Nat) : Prop :=
  Blk wr w.heap.size 145 #[.slice none 0 0, .int .u8 0] ∧ Blk wr (w.heap.size + 1) 145 #[.slice A n c, .int .u8 0] ∧
  Own wr w.heap.size 170 1 A n c (S.map mv) ∧ w.grownBy wr none ∧ S.length = n ∧ shpF f (nb t) S = shpF (l.length + 1) l []
def strSz : Value → Nat
  | .string t => t.size
  | _ => 0
/-- The end of read. -/
theorem shpL_of {l : List Nat} {x : List Nat × Nat} (h : shpF (l.length + 1) l [] = some x) : shpL l = if 1 ≤ many x ∧ many x ≤ 30 then some x else none := by unfold shpL; rw [h]
theorem shpL_none {l : List Nat} (h : shpF (l.length + 1) l [] = none) : shpL l = none := by unfold shpL; rw [h]
theorem shpF_end {f : Nat} {S : List Nat} : shpF (f + 1) [] S = some (S, 0) := by rw [shpF, if_pos rfl]
theorem shpF_tail {f b : Nat} {S : List Nat} (h : b = 46 ∨ b = 33) : shpF (f + 1) [b] S = some (S, b) := by
  rw [shpF, if_neg (by simp), if_pos (by simpa using h)]; rfl
theorem shpF_none {f : Nat} {l S : List Nat} (h0 : l ≠ []) (h : ¬ (l = [46] ∨ l = [33])) (he : elemL l = none) : shpF (f + 1) l S = none := by rw [shpF, if_neg h0, if_neg h, he]
theorem shpF_some {f M n : Nat} {l S : List Nat} (h0 : l ≠ []) (h : ¬ (l = [46] ∨ l = [33])) (he : elemL l = some (M, n)) : shpF (f + 1) l S = shpF f (l.drop n) (S ++ [M]) := by rw [shpF, if_neg h0, if_neg h, he]
theorem str_eq {t : ByteArray} {l : List UInt8} (h : nb t = l.map UInt8.toNat) : t.toList = l := by
  rw [ByteArray.toList_eq]
  unfold nb at h
  have hinj : Function.Injective UInt8.toNat := fun a b hab => UInt8.toNat_inj.1 hab
  exact (List.map_inj_right (fun a b hab => hinj hab)).1 h
theorem str_ne {t : ByteArray} {l : List UInt8} (h : ¬ nb t = l.map UInt8.toNat) : (t.toList == l) = false := by
  rw [beq_eq_false_iff_ne]
  intro h1
  apply h
  rw [← h1, ByteArray.toList_eq]
  rfl
end Go.Proofs.YtpildcnoghojpaaGreatDoor

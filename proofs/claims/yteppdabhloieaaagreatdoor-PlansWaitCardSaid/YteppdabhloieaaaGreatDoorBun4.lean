/- Contracts of element and read. Conditions: none. -/
import Derived.Test.YteppdabhloieaaaGreatDoorPat3
namespace Go.Proofs.YteppdabhloieaaaGreatDoor
section
open Go.RowKit
theorem Tryz.maskT : ElemT Tryz.prog 84 166 1 2 (.int .u16 0) := elemT_of Tryz.underlying84 (by kernel_rfl) rfl (by decide)
theorem Tryz.patT : StructT Tryz.prog 86 2 := ⟨_, Tryz.underlying86, rfl, by kernel_rfl⟩
def elR (l : List Nat) : Nat × Nat := (elemL l).getD (0, 0)
theorem nb_signs : nb ⟨#[35, 42, 48, 49, 50, 51, 52, 53, 54, 55, 56, 57]⟩ = sgn := by decide +kernel
theorem sg_idx : ∀ c : Fin 256, (c.val ∈ sgn → 0 ≤ idxL sgn c.val) ∧ (¬ c.val ∈ sgn → idxL sgn c.val < 0) := by decide +kernel
theorem nb_tail (s : ByteArray) : nb (s.extract 1 s.size) = (nb s).tail := by
 rw [nb_extract, ← nb_len, List.take_length, List.drop_one]
theorem nb_head {s : ByteArray} (h : 0 < s.size) : s[0].toNat = (nb s).headD 0 := by
 rw [nb_get h]; cases nb s <;> rfl
theorem elR_x (l : List Nat) (h : l.headD 0 = 88) : elR l = (fromM 48 57, 1) := by unfold elR elemL; rw [if_pos h]; rfl
theorem elR_z (l : List Nat) (h : l.headD 0 = 90) : elR l = (fromM 49 57, 1) := by unfold elR elemL; rw [if_neg (by omega), if_pos h]; rfl
theorem elR_n (l : List Nat) (h : l.headD 0 = 78) : elR l = (fromM 50 57, 1) := by unfold elR elemL; rw [if_neg (by omega), if_neg (by omega), if_pos h]; rfl
theorem elR_set (l : List Nat) (h : l.headD 0 = 91) : elR l = if (rsL l.tail).2 = 0 then (0, 0) else ((rsL l.tail).1, (rsL l.tail).2 + 1) := by
 unfold elR elemL rsL
 rw [if_neg (by omega), if_neg (by omega), if_neg (by omega), if_pos h]
 by_cases hm : 93 ∈ l.tail
 · rw [if_pos hm, if_pos hm]
   cases setM (l.tail.takeWhile (· != 93)) <;> simp [rsOf]
 · rw [if_neg hm, if_neg hm]; rfl
theorem elR_sg (l : List Nat) (c : Nat) (hl : l.headD 0 = c) (h : c ∈ sgn) : elR l = (onlyM c, 1) := by
 unfold elR elemL
 have hh := h
 simp [sgn] at hh
 rw [hl, if_neg (by omega), if_neg (by omega), if_neg (by omega), if_neg (by omega), if_pos h]; rfl
theorem elR_no (l : List Nat) (c : Nat) (hl : l.headD 0 = c) (h : ¬ c ∈ sgn) (h1 : ¬ c = 88) (h2 : ¬ c = 90) (h3 : ¬ c = 78) (h4 : ¬ c = 91) : elR l = (0, 0) := by
 subst hl
 unfold elR elemL
 rw [if_neg h1, if_neg h2, if_neg h3, if_neg h4, if_neg h]; rfl
theorem beq_no {c k : Nat} (h : ¬ c = k) : ((c : Int) == (k : Int)) = false ∧ (c == k) = false := ⟨by rw [beq_eq_false_iff_ne]; omega, by rw [beq_eq_false_iff_ne]; exact h⟩
set_option maxRecDepth 100000 in
set_option maxHeartbeats 4000000 in
theorem element_any (s : ByteArray) (w : World) (h0 : 0 < s.size) (hs : s.size ≤ 60) :
   Calls Tryz.prog 106 #[.string s] w (RetV (.tuple #[.int .u16 (elR (nb s)).1, .int .i64 (elR (nb s)).2]) w) := by
 obtain ⟨c, hc⟩ : ∃ c, s[0].toNat = c := ⟨_, rfl⟩
 have c256 : c < 256 := by rw [← hc]; exact UInt8.toNat_lt _
 have hhd : (nb s).headD 0 = c := by rw [← nb_head h0]; exact hc
 obtain ⟨t, ht⟩ : ∃ t, s.extract 1 s.size = t := ⟨_, rfl⟩
 have tsz : t.size ≤ 60 := by rw [← ht, ← nb_len, nb_tail, List.length_tail, nb_len]; omega
 have HT := Lib.hid (show nb t = (nb s).tail by rw [← ht, nb_tail])
 have j0 : (1 : Int) ≤ (s.size : Int) := by omega
 have j1 : 1 ≤ s.size := by omega
 by_cases k1 : c = 88
 · subst k1
   have HE := Lib.hid (elR_x _ hhd); clear hhd
   go_enter Tryz.func106, Tryz.ntmps106
   go_wp2_with (first | (go_at_call 153; refine (from48 _).mono ?_; rintro e w' ⟨rfl, rfl⟩) | fail)
   go_ret2
   exact ⟨by rw [HE.out]; rfl, gr_refl _ _⟩
 · obtain ⟨b1, b1'⟩ := beq_no k1
   by_cases k2 : c = 90
   · subst k2
     have HE := Lib.hid (elR_z _ hhd); clear hhd
     go_enter Tryz.func106, Tryz.ntmps106
     go_wp2_with (first | (go_at_call 153; refine (from49 _).mono ?_; rintro e w' ⟨rfl, rfl⟩) | fail)
     go_ret2
     exact ⟨by rw [HE.out]; rfl, gr_refl _ _⟩
   · obtain ⟨b2, b2'⟩ := beq_no k2
     by_cases k3 : c = 78
     · subst k3
       have HE := Lib.hid (elR_n _ hhd); clear hhd
       go_enter Tryz.func106, Tryz.ntmps106
       go_wp2_with (first | (go_at_call 153; refine (from50 _).mono ?_; rintro e w' ⟨rfl, rfl⟩) | fail)
       go_ret2
       exact ⟨by rw [HE.out]; rfl, gr_refl _ _⟩
     · obtain ⟨b3, b3'⟩ := beq_no k3
       by_cases k4 : c = 91
       · subst k4
         have HE := Lib.hid (elR_set _ hhd); clear hhd
         obtain ⟨M, n, hmn⟩ : ∃ M n, rsL (nb s).tail = (M, n) := ⟨_, _, rfl⟩
         have HMN := Lib.hid hmn
         have HE2 := Lib.hid (show elR (nb s) = if n = 0 then (0, 0) else (M, n + 1) by rw [HE.out, hmn])
         have nsz : n ≤ 61 := by
           have h := congrArg Prod.snd hmn
           dsimp only at h
           rw [← h]
           unfold rsL rsOf
           have h3 := (List.takeWhile_sublist (l := (nb s).tail) (· != 93)).length_le
           have h4 : (nb s).tail.length ≤ 60 := by rw [List.length_tail, nb_len]; omega
           split
           · cases setM ((nb s).tail.takeWhile (· != 93)) <;> simp <;> omega
           · simp
         clear hmn HE
         by_cases hn : n = 0
         · subst hn
           go_enter Tryz.func106, Tryz.ntmps106
           go_wp2_with (first | (go_at_call 154; refine (readSet_any t _ tsz).mono ?_; rintro e w' ⟨rfl, hg⟩; rw [HT.out, HMN.out]; have HG := Lib.hid hg; clear hg) | fail)
           go_ret2
           exact ⟨by rw [HE2.out]; rfl, HG.out⟩
         · obtain ⟨b4, b4'⟩ := beq_no hn
           go_enter Tryz.func106, Tryz.ntmps106
           go_wp2_with (first | (go_at_call 154; refine (readSet_any t _ tsz).mono ?_; rintro e w' ⟨rfl, hg⟩; rw [HT.out, HMN.out]; have HG := Lib.hid hg; clear hg) | fail)
           go_ret2
           exact ⟨by rw [HE2.out, if_neg hn]; go_num, HG.out⟩
       · obtain ⟨b4, b4'⟩ := beq_no k4
         by_cases hsg : c ∈ sgn
         · have HE := Lib.hid (elR_sg _ c hhd hsg)
           obtain ⟨z, hz⟩ : ∃ z, idxL sgn c = z := ⟨_, rfl⟩
           have z0 : 0 ≤ z := by rw [← hz]; exact (sg_idx ⟨c, c256⟩).1 hsg
           have HZ := Lib.hid hz; have HSG := Lib.hid hsg; clear hz hsg hhd
           go_enter Tryz.func106, Tryz.ntmps106
           go_wp2_with (first
             | (go_at_call 69; refine (indexByteN _ c _ c256).mono ?_; rintro e w' ⟨rfl, rfl⟩; rw [nb_signs, HZ.out])
             | (go_at_call 152; refine (only_any c _ HSG.out).mono ?_; rintro e w' ⟨rfl, rfl⟩)
             | fail)
           go_ret2
           exact ⟨by rw [HE.out]; rfl, gr_refl _ _⟩
         · have HE := Lib.hid (elR_no _ c hhd hsg k1 k2 k3 k4)
           obtain ⟨z, hz⟩ : ∃ z, idxL sgn c = z := ⟨_, rfl⟩
           have z0 : z < 0 := by rw [← hz]; exact (sg_idx ⟨c, c256⟩).2 hsg
           have HZ := Lib.hid hz; clear hz hsg hhd
           go_enter Tryz.func106, Tryz.ntmps106
           go_wp2_with (first
             | (go_at_call 69; refine (indexByteN _ c _ c256).mono ?_; rintro e w' ⟨rfl, rfl⟩; rw [nb_signs, HZ.out])
             | fail)
           go_ret2
           exact ⟨by rw [HE.out]; rfl, gr_refl _ _⟩
theorem elemL_bd {l : List Nat} {M n : Nat} (h : elemL l = some (M, n)) (hl : l ≠ []) : 1 ≤ n ∧ n ≤ l.length ∧ M < 4096 := by
 have h0 : 0 < l.length := by cases l <;> simp at hl ⊢
 unfold elemL at h
 have hx := fromM_bd (c := 48) (d := 57) (by omega) (by omega) (by omega)
 have hz := fromM_bd (c := 49) (d := 57) (by omega) (by omega) (by omega)
 have hn := fromM_bd (c := 50) (d := 57) (by omega) (by omega) (by omega)
 split at h
 · injection h with h; injection h with h1 h2; omega
 · split at h
   · injection h with h; injection h with h1 h2; omega
   · split at h
     · injection h with h; injection h with h1 h2; omega
     · split at h
       · split at h
         · rename_i hm
           cases hs : setM (l.tail.takeWhile (· != 93)) with
           | none => rw [hs] at h; cases h
           | some M' =>
             rw [hs] at h
             injection h with h; injection h with h1 h2
             have := takeWhile_len hm
             rw [List.length_tail] at this
             have := (psL_bd (setM_some hs).1).2
             omega
         · cases h
       · split at h
         · rename_i hm
           injection h with h; injection h with h1 h2
           have := (only_fin _ hm).2
           omega
         · cases h
theorem elR_some {l : List Nat} {M n : Nat} (h : elemL l = some (M, n)) : elR l = (M, n) := by unfold elR; rw [h]; rfl
theorem elR_none {l : List Nat} (h : elemL l = none) : elR l = (0, 0) := by unfold elR; rw [h]; rfl
def mv (m : Nat) : Value := .int .u16 m
def IsRead (lo : Nat) (l : List Nat) (v : Value) (w : World) : Prop :=
 (∃ (x : List Nat × Nat) (A : Option Addr) (n c : Nat), shpL l = some x ∧ v = .tuple #[.agg #[.slice A n c, .int .u8 x.2], .int .i64 0] ∧ Own w lo 166 1 A n c (x.1.map mv) ∧ x.1.length ≤ 30) ∨
 (shpL l = none ∧ v = .tuple #[.agg #[.slice none 0 0, .int .u8 0], .int .i64 9])
def RdRel (w wr : World) (l : List Nat) (t : ByteArray) (f : Nat) (S : List Nat) (A : Option Addr) (n c : Nat) : Prop :=
 Blk wr w.heap.size 86 #[.slice none 0 0, .int .u8 0] ∧ Blk wr (w.heap.size + 1) 86 #[.slice A n c, .int .u8 0] ∧
 Own wr w.heap.size 166 1 A n c (S.map mv) ∧ w.grownBy wr none ∧ S.length = n ∧ shpF f (nb t) S = shpF (l.length + 1) l []
def strSz : Value → Nat
 | .string t => t.size
 | _ => 0
theorem shpL_of {l : List Nat} {x : List Nat × Nat} (h : shpF (l.length + 1) l [] = some x) : shpL l = if 1 ≤ many x ∧ many x ≤ 30 then some x else none := by unfold shpL; rw [h]
theorem shpL_none {l : List Nat} (h : shpF (l.length + 1) l [] = none) : shpL l = none := by unfold shpL; rw [h]
theorem shpF_end {f : Nat} {S : List Nat} : shpF (f + 1) [] S = some (S, 0) := by rw [shpF, if_pos rfl]
theorem shpF_tail {f b : Nat} {S : List Nat} (h : b = 46 ∨ b = 33) : shpF (f + 1) [b] S = some (S, b) := by
 rw [shpF, if_neg (by simp), if_pos (by simpa using h)]; rfl
theorem shpF_none {f : Nat} {l S : List Nat} (h0 : l ≠ []) (h : ¬ (l = [46] ∨ l = [33])) (he : elemL l = none) : shpF (f + 1) l S = none := by rw [shpF, if_neg h0, if_neg h, he]
theorem shpF_some {f M n : Nat} {l S : List Nat} (h0 : l ≠ []) (h : ¬ (l = [46] ∨ l = [33])) (he : elemL l = some (M, n)) : shpF (f + 1) l S = shpF f (l.drop n) (S ++ [M]) := by rw [shpF, if_neg h0, if_neg h, he]
theorem str_eq {t : ByteArray} {l : List UInt8} (h : nb t = l.map UInt8.toNat) : t.toList = l := by
 rw [ByteArray.toList_eq]
 unfold nb at h
 have hinj : Function.Injective UInt8.toNat := fun a b hab => UInt8.toNat_inj.1 hab
 exact (List.map_inj_right (fun a b hab => hinj hab)).1 h
theorem str_ne {t : ByteArray} {l : List UInt8} (h : ¬ nb t = l.map UInt8.toNat) : (t.toList == l) = false := by
 rw [beq_eq_false_iff_ne]
 intro h1
 apply h
 rw [← h1, ByteArray.toList_eq]
 rfl
end
end Go.Proofs.YteppdabhloieaaaGreatDoor
namespace Go.Proofs.YteppdabhloieaaaGreatDoor
section
open Go.RowKit
theorem ext_one {s : ByteArray} {i : Nat} (h : i < s.size) : s.extract i (i + 1) = strN [(nb s).getD i 0] := by
 apply nb_eq
 have hi : i < (nb s).length := by rw [nb_len]; exact h
 rw [nb_extract, List.getD_eq_getElem?_getD, List.getElem?_eq_getElem hi]
 rw [List.take_succ_eq_append_getElem hi, List.drop_append_of_le_length (by rw [List.length_take]; omega)]
 rw [List.drop_eq_nil_of_le (by rw [List.length_take]; omega)]
 rfl
theorem ext_two {s : ByteArray} {i : Nat} (h : i + 1 < s.size) : s.extract i (i + 2) = strN [(nb s).getD i 0, (nb s).getD (i + 1) 0] := by
 apply nb_eq
 have hi : i < (nb s).length := by rw [nb_len]; omega
 have hi1 : i + 1 < (nb s).length := by rw [nb_len]; omega
 rw [nb_extract, List.getD_eq_getElem?_getD, List.getElem?_eq_getElem hi, List.getD_eq_getElem?_getD, List.getElem?_eq_getElem hi1]
 rw [List.take_succ_eq_append_getElem hi1, List.take_succ_eq_append_getElem hi, List.append_assoc, List.drop_append_of_le_length (by rw [List.length_take]; omega)]
 rw [List.drop_eq_nil_of_le (by rw [List.length_take]; omega)]
 rfl
section
variable {set : List Nat} {f i k : Nat} {o : List Nat}
theorem rowE_stop (h : (decide (k + 1 < set.length) && set.getD (k + 1) 0 == set.getD k 0 + 1) = false) : rowE set f k = k := by
 cases f with
 | zero => rfl
 | succ f => rw [rowE, h]; rfl
theorem rowE_go (h : (decide (k + 1 < set.length) && set.getD (k + 1) 0 == set.getD k 0 + 1) = true) : rowE set (f + 1) k = rowE set f (k + 1) := by rw [rowE, if_pos h]
theorem stF_end (h : ¬ i < set.length) : stF set f i o = o := by
 cases f with
 | zero => rfl
 | succ f => rw [stF, if_neg h]
theorem stF_go (h : i < set.length) (hk : rowE set set.length i = k) : stF set (f + 1) i o = stF set f (k + 1) (o ++ pc set i k) := by rw [stF, if_pos h, hk]
end
def StLoop (w : World) (set : List Nat) (v t : Value) (wr : World) : Prop := ∃ (i f : Nat) (o : List Nat), v = .string (strN o) ∧ t = .int .i64 i ∧ i ≤ set.length ∧ set.length - i ≤ f ∧ o.length ≤ 3 * i ∧ stF set f i o = stF set set.length 0 [] ∧ w.grownBy wr none
def StIn (w : World) (set : List Nat) (i : Nat) (u : Value) (wr : World) : Prop := ∃ (k g : Nat), u = .int .i64 k ∧ i ≤ k ∧ k < set.length ∧ set.length - k ≤ g ∧ rowE set g k = rowE set set.length i ∧ w.grownBy wr none
set_option maxRecDepth 100000 in
set_option maxHeartbeats 8000000 in
theorem setText_any (s : ByteArray) (set : List Nat) (w : World) (hs : nb s = set) (hb : ∀ b ∈ set, b ≤ 57) (hn : s.size ≤ 10) :
   Calls Tryz.prog 161 #[.string s] w (RetV (.string (strN (stL set))) w) := by
 have hlen : set.length = s.size := by rw [← hs, nb_len]
 have HS := Lib.hid hs; have HB := Lib.hid hb
 have hap := strN_append
 have hsz := strN_size
 have h45 : (⟨#[45]⟩ : ByteArray) = strN [45] := by decide
 have h91 : (⟨#[91]⟩ : ByteArray) = strN [91] := by decide
 have h93 : (⟨#[93]⟩ : ByteArray) = strN [93] := by decide
 have HLN := Lib.hid hlen
 clear hs hb hlen
 go_enter Tryz.func161, Tryz.ntmps161
 go_wp2_with fail
 go_loopw [3, 4, 5] (fun v t _ wr => StLoop w set v t wr) (fun _ t _ _ => 11 - (intOf t).toNat)
 case atStart => exact ⟨0, set.length, [], rfl, rfl, by omega, by omega, by simp, rfl, gr_refl _ _⟩
 case round =>
   obtain ⟨i, f, o, rfl, rfl, hi, hf, ho, hst, hg⟩ := hrel
   have HST := Lib.hid hst; have HG := Lib.hid hg
   rw [HLN.out] at hi hf
   clear hst hg
   by_cases hlt : i < s.size
   · have d0 : decide ((i : Int) < (s.size : Int)) = true := decide_eq_true (by omega)
     have d0' : decide (i < s.size) = true := decide_eq_true (by omega)
     obtain ⟨f, rfl⟩ : ∃ f', f = f' + 1 := ⟨f - 1, by omega⟩
     obtain ⟨wo, rfl⟩ : ∃ wo : World, wo = wr := ⟨_, rfl⟩
     go_wp2_with fail
     go_loopw [5] (fun u wr2 => StIn wo set i u wr2) (fun u _ => 11 - (intOf u).toNat)
     case atStart => exact ⟨i, set.length, rfl, by omega, by rw [HLN.out]; exact hlt, by omega, rfl, gr_refl _ _⟩
     case round =>
       obtain ⟨k, g, rfl, hik, hkl, hg2, hrow, hgr⟩ := hrel
       have HRW := Lib.hid hrow; have HGR := Lib.hid hgr
       rw [HLN.out] at hkl hg2
       clear hrow hgr
       obtain ⟨a, ha⟩ : ∃ a, s[k].toNat = a := ⟨_, rfl⟩
       have HA := Lib.hid (show set.getD k 0 = a by rw [← HS.out, ← nb_get hkl, ha])
       have a57 : a ≤ 57 := by
         rw [← HA.out]
         have hk' : k < set.length := by rw [HLN.out]; exact hkl
         rw [List.getD_eq_getElem?_getD, List.getElem?_eq_getElem hk']
         exact HB.out _ (List.getElem_mem _)
       by_cases hk1 : k + 1 < s.size
       · obtain ⟨b, hb⟩ : ∃ b, s[k + 1].toNat = b := ⟨_, rfl⟩
         have HBB := Lib.hid (show set.getD (k + 1) 0 = b by rw [← HS.out, ← nb_get hk1, hb])
         have b256 : b < 256 := by rw [← hb]; exact UInt8.toNat_lt _
         have d1 : decide ((k : Int) + 1 < (s.size : Int)) = true := decide_eq_true (by omega)
         have j1 : (0 : Int) ≤ (k : Int) + 1 := by omega
         have j2 : (k : Int) + 1 < (s.size : Int) := by omega
         have j3 : ((k : Int) + 1).toNat = k + 1 := by omega
         have j4 : IntKind.i64.wrap ((k : Int) + 1) = (k : Int) + 1 := IntWalk.i64_in _ (by omega)
         have j5 : (0 : Int) ≤ (k : Int) := by omega
         have j6 : (k : Int) < (s.size : Int) := by omega
         have j7 : IntKind.u8.wrap ((a : Int) + 1) = (a : Int) + 1 := by rw [IntKind.wrap_u8]; omega
         by_cases hab : b = a + 1
         · have q1 : ((b : Int) == (a : Int) + 1) = true := by rw [beq_iff_eq]; omega
           have HGO := Lib.hid (show (decide (k + 1 < set.length) && set.getD (k + 1) 0 == set.getD k 0 + 1) = true by rw [HLN.out, HBB.out, HA.out]; simp [hk1, hab])
           obtain ⟨g, rfl⟩ : ∃ g', g = g' + 1 := ⟨g - 1, by omega⟩
           clear hab
           go_wp2_with fail
           go_quiet (fail)
           go_wp2_with fail
           go_roundw
           case rel => exact ⟨k + 1, g, by go_num, by omega, by rw [HLN.out]; omega, by rw [HLN.out]; omega, by rw [← rowE_go HGO.out]; exact HRW.out, gr_drewN HGR.out _⟩
           case measure => simp [intOf]; omega
         · have q1 : ((b : Int) == (a : Int) + 1) = false := by rw [beq_eq_false_iff_ne]; omega
           have HSTOP := Lib.hid (show (decide (k + 1 < set.length) && set.getD (k + 1) 0 == set.getD k 0 + 1) = false by rw [HLN.out, HBB.out, HA.out]; simp [hab])
           have HK := Lib.hid (show rowE set set.length i = k by rw [← HRW.out, rowE_stop HSTOP.out])
           clear hab
           have HGO2 := Lib.hid (stF_go (set := set) (f := f) (o := o) (show i < set.length by rw [HLN.out]; exact hlt) HK.out)
           have hx1 := ext_one hlt
           rw [HS.out] at hx1
           obtain ⟨x, hx⟩ : ∃ x, set.getD i 0 = x := ⟨_, rfl⟩
           rw [hx] at hx1
           have HX := Lib.hid hx
           clear hx
           have ol : o.length ≤ 30 := by omega
           rcases (by omega : k = i ∨ k = i + 1 ∨ i + 1 < k) with h1 | h1 | h1
           · subst h1
             have HPC := Lib.hid (show pc set k k = [x] by unfold pc; rw [if_pos (by omega), HX.out])
             go_wp2_with fail
             go_quiet (fail)
             go_wp2_with fail
             go_roundw
             case rel => exact ⟨k + 1, f, o ++ [x], rfl, by go_num, by rw [HLN.out]; omega, by rw [HLN.out]; omega, by simp; omega, by rw [← HPC.out, ← HGO2.out]; exact HST.out, gr_drewN (gr_none HG.out HGR.out) _⟩
             case measure => simp [intOf]; omega
           · have hi1 : i + 1 < s.size := by omega
             have hx2 := ext_two hi1
             rw [HS.out, HX.out] at hx2
             obtain ⟨y, hy⟩ : ∃ y, set.getD (i + 1) 0 = y := ⟨_, rfl⟩
             rw [hy] at hx2
             have HPC := Lib.hid (show pc set i k = [x, y] by subst h1; unfold pc; rw [if_neg (by omega), if_pos (by omega), HX.out, hy])
             have hd : (k : Int) - (i : Int) = 1 := by omega
             have l3 : (i : Int) + 2 ≤ (s.size : Int) := by omega
             clear hy h1
             go_wp2_with fail
             go_quiet (fail)
             go_wp2_with fail
             go_roundw
             case rel => exact ⟨k + 1, f, o ++ [x, y], rfl, by go_num, by rw [HLN.out]; omega, by rw [HLN.out]; omega, by simp; omega, by rw [← HPC.out, ← HGO2.out]; exact HST.out, gr_drewN (gr_none HG.out HGR.out) _⟩
             case measure => simp [intOf]; omega
           · have hx2 := ext_one (s := s) (i := k) (by omega)
             rw [HS.out] at hx2
             obtain ⟨y, hy⟩ : ∃ y, set.getD k 0 = y := ⟨_, rfl⟩
             rw [hy] at hx2
             have HPC := Lib.hid (show pc set i k = [x, 45, y] by unfold pc; rw [if_neg (by omega), if_neg (by omega), HX.out, hy])
             clear hy
             obtain ⟨d, hd⟩ : ∃ d : Nat, (k : Int) - (i : Int) = (d : Int) := ⟨k - i, by omega⟩
             have p1 : ((d : Int) == 0) = false := by rw [beq_eq_false_iff_ne]; omega
             have p2 : ((d : Int) == 1) = false := by rw [beq_eq_false_iff_ne]; omega
             have p1' : (d == 0) = false := by rw [beq_eq_false_iff_ne]; omega
             have p2' : (d == 1) = false := by rw [beq_eq_false_iff_ne]; omega
             have l1 : (0 : Int) ≤ (i : Int) := by omega
             have l2 : (i : Int) ≤ (i : Int) + 1 := by omega
             have l3 : (i : Int) + 1 ≤ (s.size : Int) := by omega
             have l4 : IntKind.i64.wrap ((i : Int) + 1) = (i : Int) + 1 := IntWalk.i64_in _ (by omega)
             have l5 : ((i : Int) + 1).toNat = i + 1 := by omega
             have m2 : (k : Int) ≤ (k : Int) + 1 := by omega
             have m3 : (k : Int) + 1 ≤ (s.size : Int) := by omega
             have m5 : ((k : Int) + 1).toNat = k + 1 := by omega
             have o1 : ¬ 9223372036854775807 < o.length + 3 := by omega
             have o2 : ¬ 9223372036854775804 < o.length := by omega
             have o3 : o.length + 3 ≤ 9223372036854775807 := by omega
             have o4 : o.length ≤ 9223372036854775804 := by omega
             go_wp2_with fail
             go_quiet (fail)
             go_wp2_with fail
             go_quiet (fail)
             go_wp2_with fail
             go_roundw
             case rel => exact ⟨k + 1, f, o ++ [x, 45, y], rfl, by go_num, by rw [HLN.out]; omega, by rw [HLN.out]; omega, by simp; omega, by rw [← HPC.out, ← HGO2.out]; exact HST.out, gr_drewN (gr_none HG.out HGR.out) _⟩
             case measure => simp [intOf]; omega
       · have d1 : decide ((k : Int) + 1 < (s.size : Int)) = false := decide_eq_false (by omega)
         have j4 : IntKind.i64.wrap ((k : Int) + 1) = (k : Int) + 1 := IntWalk.i64_in _ (by omega)
         have HSTOP := Lib.hid (show (decide (k + 1 < set.length) && set.getD (k + 1) 0 == set.getD k 0 + 1) = false by rw [HLN.out]; simp [hk1])
         have HK := Lib.hid (show rowE set set.length i = k by rw [← HRW.out, rowE_stop HSTOP.out])
         have HGO2 := Lib.hid (stF_go (set := set) (f := f) (o := o) (show i < set.length by rw [HLN.out]; exact hlt) HK.out)
         have hx1 := ext_one hlt
         rw [HS.out] at hx1
         obtain ⟨x, hx⟩ : ∃ x, set.getD i 0 = x := ⟨_, rfl⟩
         rw [hx] at hx1
         have HX := Lib.hid hx
         clear hx
         have ol : o.length ≤ 30 := by omega
         rcases (by omega : k = i ∨ k = i + 1 ∨ i + 1 < k) with h1 | h1 | h1
         · subst h1
           have HPC := Lib.hid (show pc set k k = [x] by unfold pc; rw [if_pos (by omega), HX.out])
           go_wp2_with fail
           go_quiet (fail)
           go_wp2_with fail
           go_roundw
           case rel => exact ⟨k + 1, f, o ++ [x], rfl, by go_num, by rw [HLN.out]; omega, by rw [HLN.out]; omega, by simp; omega, by rw [← HPC.out, ← HGO2.out]; exact HST.out, gr_drewN (gr_none HG.out HGR.out) _⟩
           case measure => simp [intOf]; omega
         · have hi1 : i + 1 < s.size := by omega
           have hx2 := ext_two hi1
           rw [HS.out, HX.out] at hx2
           obtain ⟨y, hy⟩ : ∃ y, set.getD (i + 1) 0 = y := ⟨_, rfl⟩
           rw [hy] at hx2
           have HPC := Lib.hid (show pc set i k = [x, y] by subst h1; unfold pc; rw [if_neg (by omega), if_pos (by omega), HX.out, hy])
           have hd : (k : Int) - (i : Int) = 1 := by omega
           have l3 : (i : Int) + 2 ≤ (s.size : Int) := by omega
           clear hy h1
           go_wp2_with fail
           go_quiet (fail)
           go_wp2_with fail
           go_roundw
           case rel => exact ⟨k + 1, f, o ++ [x, y], rfl, by go_num, by rw [HLN.out]; omega, by rw [HLN.out]; omega, by simp; omega, by rw [← HPC.out, ← HGO2.out]; exact HST.out, gr_drewN (gr_none HG.out HGR.out) _⟩
           case measure => simp [intOf]; omega
         · have hx2 := ext_one (s := s) (i := k) (by omega)
           rw [HS.out] at hx2
           obtain ⟨y, hy⟩ : ∃ y, set.getD k 0 = y := ⟨_, rfl⟩
           rw [hy] at hx2
           have HPC := Lib.hid (show pc set i k = [x, 45, y] by unfold pc; rw [if_neg (by omega), if_neg (by omega), HX.out, hy])
           clear hy
           obtain ⟨d, hd⟩ : ∃ d : Nat, (k : Int) - (i : Int) = (d : Int) := ⟨k - i, by omega⟩
           have p1 : ((d : Int) == 0) = false := by rw [beq_eq_false_iff_ne]; omega
           have p2 : ((d : Int) == 1) = false := by rw [beq_eq_false_iff_ne]; omega
           have p1' : (d == 0) = false := by rw [beq_eq_false_iff_ne]; omega
           have p2' : (d == 1) = false := by rw [beq_eq_false_iff_ne]; omega
           have l1 : (0 : Int) ≤ (i : Int) := by omega
           have l2 : (i : Int) ≤ (i : Int) + 1 := by omega
           have l3 : (i : Int) + 1 ≤ (s.size : Int) := by omega
           have l4 : IntKind.i64.wrap ((i : Int) + 1) = (i : Int) + 1 := IntWalk.i64_in _ (by omega)
           have l5 : ((i : Int) + 1).toNat = i + 1 := by omega
           have m2 : (k : Int) ≤ (k : Int) + 1 := by omega
           have m3 : (k : Int) + 1 ≤ (s.size : Int) := by omega
           have m5 : ((k : Int) + 1).toNat = k + 1 := by omega
           have o1 : ¬ 9223372036854775807 < o.length + 3 := by omega
           have o2 : ¬ 9223372036854775804 < o.length := by omega
           have o3 : o.length + 3 ≤ 9223372036854775807 := by omega
           have o4 : o.length ≤ 9223372036854775804 := by omega
           go_wp2_with fail
           go_quiet (fail)
           go_wp2_with fail
           go_quiet (fail)
           go_wp2_with fail
           go_roundw
           case rel => exact ⟨k + 1, f, o ++ [x, 45, y], rfl, by go_num, by rw [HLN.out]; omega, by rw [HLN.out]; omega, by simp; omega, by rw [← HPC.out, ← HGO2.out]; exact HST.out, gr_drewN (gr_none HG.out HGR.out) _⟩
           case measure => simp [intOf]; omega
   · obtain rfl : i = s.size := by omega
     have d0 : decide ((s.size : Int) < (s.size : Int)) = false := decide_eq_false (by omega)
     have HE := Lib.hid (show o = stF set set.length 0 [] by rw [← HST.out, stF_end (by rw [HLN.out]; omega)])
     go_wp2_with fail
     go_ret
     exact ⟨by rw [HE.out]; rfl, HG.out⟩
end
end Go.Proofs.YteppdabhloieaaaGreatDoor
namespace Go.Proofs.YteppdabhloieaaaGreatDoor
section
open Go.RowKit
theorem bv64 (a : Nat) (ha : a < 9223372036854775808) : (BitVec.ofInt 64 (a : Int)).toNat = a := by
 rw [BitVec.ofInt_natCast, BitVec.toNat_ofNat]; exact Nat.mod_eq_of_lt (by omega)
theorem i64_and' (a b : Nat) (ha : a < 9223372036854775808) (hb : b < 9223372036854775808) : bits .and .i64 (a : Int) (b : Int) = ((a &&& b : Nat) : Int) := by
 have hx : a &&& b < 2 ^ 63 := Nat.and_lt_two_pow _ (by omega)
 show IntKind.i64.wrap ((BitVec.ofInt 64 (a : Int) &&& BitVec.ofInt 64 (b : Int)).toNat : Int) = _
 rw [BitVec.toNat_and, bv64 a ha, bv64 b hb, IntKind.wrap_i64]
 omega
theorem bit_test (k d : Nat) (hk : k < 9223372036854775808) : bits .and .i64 ((k : Int) / 2 ^ d) 1 = if k.testBit d then 1 else 0 := by
 have e : (k : Int) / 2 ^ d = ((k / 2 ^ d : Nat) : Int) := by rw [Int.natCast_ediv, Int.natCast_pow]; rfl
 have hle : k / 2 ^ d ≤ k := Nat.div_le_self _ _
 have h := i64_and' (k / 2 ^ d) 1 (by omega) (by omega)
 rw [e]
 have h2 : (k / 2 ^ d) &&& 1 = k / 2 ^ d % 2 := Nat.and_one_is_mod _
 rw [h2] at h
 have h3 : k.testBit d = decide (k / 2 ^ d % 2 = 1) := Nat.testBit_eq_decide_div_mod_eq
 rw [h3]
 have h4 : ((1 : Nat) : Int) = 1 := rfl
 rw [h4] at h
 rw [h]
 by_cases hc : k / 2 ^ d % 2 = 1
 · simp [hc]
 · have : k / 2 ^ d % 2 = 0 := by omega
   simp [this]
def setTo (m : Nat) : Nat → List Nat
 | 0 => []
 | d + 1 => setTo m d ++ (if m.testBit d then [48 + d] else [])
theorem setTo_range (m d : Nat) : setTo m d = (List.range' 48 d).filter (fun c => m.testBit (c - 48)) := by
 induction d with
 | zero => rfl
 | succ d ih =>
   rw [setTo, ih, List.range'_concat, List.filter_append]
   congr 1
   rw [Nat.one_mul, List.filter_cons, List.filter_nil, Nat.add_sub_cancel_left]
theorem setTo_ten (m : Nat) : setTo m 10 = setS m := setTo_range m 10
theorem setTo_len (m d : Nat) : (setTo m d).length ≤ d := by
 induction d with
 | zero => simp [setTo]
 | succ d ih => unfold setTo; rw [List.length_append]; split <;> simp <;> omega
theorem setTo_bd (m d : Nat) (hd : d ≤ 10) : ∀ b ∈ setTo m d, 48 ≤ b ∧ b ≤ 57 := by
 induction d with
 | zero => simp [setTo]
 | succ d ih =>
   unfold setTo
   intro b hb
   rcases List.mem_append.1 hb with h | h
   · exact ih (by omega) b h
   · split at h
     · rw [List.mem_singleton.1 h]; omega
     · cases h
def fndS (l : List Nat) : List Nat := (findM l 1024).elim [] setS
theorem findM_next {l : List Nat} {k : Nat} (h : findM l k = none) (hn : (goodS (setS k) && stL (setS k) == l) = false) : findM l (k + 1) = none := by
 rw [findM, h]; simp only; rw [hn]; rfl
theorem findM_hit {l : List Nat} {k : Nat} (h : findM l k = none) (hn : (goodS (setS k) && stL (setS k) == l) = true) : findM l (k + 1) = some k := by
 rw [findM, h]; simp only; rw [if_pos hn]
theorem findM_more {l : List Nat} {k m : Nat} (h : findM l k = some m) (j : Nat) : findM l (k + j) = some m := by
 induction j with
 | zero => exact h
 | succ j ih => rw [← Nat.add_assoc, findM, ih]
theorem fndS_hit {l : List Nat} {k : Nat} (h : findM l (k + 1) = some k) (hk : k < 1024) : fndS l = setS k := by
 unfold fndS
 obtain ⟨j, hj⟩ : ∃ j, 1024 = k + 1 + j := ⟨1023 - k, by omega⟩
 rw [hj, findM_more h j]
 rfl
theorem fndS_none {l : List Nat} (N : Nat) (hN : N = 1024) (h : findM l N = none) : fndS l = [] := by unfold fndS; rw [← hN, h]; rfl
theorem stF_bd {set : List Nat} (hs : ∀ b ∈ set, b ≤ 57) {f i : Nat} {o : List Nat} (ho : ∀ b ∈ o, b < 256) : ∀ b ∈ stF set f i o, b < 256 := by
 have hget : ∀ j, set.getD j 0 < 256 := by
   intro j
   rw [List.getD_eq_getElem?_getD]
   cases hj : set[j]? with
   | none => simp
   | some z => have := hs z (mem_of_get hj); simp; omega
 induction f generalizing i o with
 | zero => exact ho
 | succ f ih =>
   unfold stF
   split
   · refine ih (fun b hb => ?_)
     rcases List.mem_append.1 hb with h | h
     · exact ho b h
     · unfold pc at h
       split at h
       · rw [List.mem_singleton.1 h]; exact hget _
       · split at h
         · rcases List.mem_cons.1 h with rfl | h
           · exact hget _
           · rw [List.mem_singleton.1 h]; exact hget _
         · rcases List.mem_cons.1 h with rfl | h
           · exact hget _
           · rcases List.mem_cons.1 h with rfl | h
             · omega
             · rw [List.mem_singleton.1 h]; exact hget _
   · exact ho
theorem stL_bd {set : List Nat} (hs : ∀ b ∈ set, b ≤ 57) : ∀ b ∈ stL set, b < 256 := by
 unfold stL
 intro b hb
 rcases List.mem_append.1 hb with h | h
 · rcases List.mem_append.1 h with h | h
   · rw [List.mem_singleton.1 h]; omega
   · exact stF_bd hs (by simp) b h
 · rw [List.mem_singleton.1 h]; omega
theorem nb_dgs : nb ⟨#[48, 49, 50, 51, 52, 53, 54, 55, 56, 57]⟩ = dgs := by decide +kernel
def SoLoop (w : World) (l : List Nat) (v : Value) (wr : World) : Prop := ∃ k : Nat, v = .int .i64 k ∧ k ≤ 1024 ∧ findM l k = none ∧ w.grownBy wr none
set_option maxRecDepth 100000 in
set_option maxHeartbeats 8000000 in
theorem setOf_any (s : ByteArray) (w : World) (hs : s.size ≤ 1000) : Calls Tryz.prog 124 #[.string s] w (RetV (.string (strN (fndS (nb s)))) w) := by
 obtain ⟨l, hl⟩ : ∃ l, nb s = l := ⟨_, rfl⟩
 have HL := Lib.hid hl
 rw [hl]; clear hl
 obtain ⟨dg, hdg⟩ : ∃ dg, (⟨#[48, 49, 50, 51, 52, 53, 54, 55, 56, 57]⟩ : ByteArray) = dg := ⟨_, rfl⟩
 have HDG := Lib.hid (show nb dg = dgs by rw [← hdg]; exact nb_dgs)
 have dgz : dg.size = 10 := by rw [← nb_len, HDG.out]; rfl
 have dg10 : 10 ≤ dg.size := by omega
 have j0 : (1 : Int) ≤ (dg.size : Int) := by omega
 have j1 : (2 : Int) ≤ (dg.size : Int) := by omega
 have hap := strN_append
 have HDZ := Lib.hid dgz; clear dgz
 go_enter Tryz.func124, Tryz.ntmps124
 go_wp2_with fail
 go_loopw [3, 4, 5, 6, 9] (fun _ _ _ t _ wr => SoLoop w l t wr) (fun _ _ _ t _ _ => 1024 - (intOf t).toNat)
 case atStart => exact ⟨0, rfl, by omega, rfl, gr_refl _ _⟩
 case round =>
   obtain ⟨k, rfl, hk, hfm, hg⟩ := hrel
   have HF := Lib.hid hfm; have HG := Lib.hid hg
   clear hfm hg
   by_cases hlt : k < 1024
   · have d0 : decide ((k : Int) < 1024) = true := decide_eq_true (by omega)
     obtain ⟨wo, rfl⟩ : ∃ wo : World, wo = wr := ⟨_, rfl⟩
     go_wp2_with fail
     go_loop [4, 5, 9] (fun v _ t => ∃ d : Nat, d ≤ 10 ∧ t = .int .i64 d ∧ v = .string (strN (setTo k d))) (fun _ _ t => 10 - (intOf t).toNat)
     case atStart => exact ⟨0, by omega, rfl, rfl⟩
     case round =>
       obtain ⟨d, hd, rfl, rfl⟩ := hrel
       have hsl := setTo_len k d
       have hss : (strN (setTo k d)).size ≤ 10 := by rw [strN_size]; omega
       by_cases hdl : d < 10
       · have d1 : decide ((d : Int) < 10) = true := decide_eq_true (by omega)
         have hbt := bit_test k d (by omega)
         have hx := ext_one (s := dg) (i := d) (by omega)
         rw [HDG.out, show dgs.getD d 0 = 48 + d by rcases (by omega : d = 0 ∨ d = 1 ∨ d = 2 ∨ d = 3 ∨ d = 4 ∨ d = 5 ∨ d = 6 ∨ d = 7 ∨ d = 8 ∨ d = 9) with rfl | rfl | rfl | rfl | rfl | rfl | rfl | rfl | rfl | rfl <;> rfl] at hx
         obtain ⟨x, hxx⟩ : ∃ x, 48 + d = x := ⟨_, rfl⟩
         rw [hxx] at hx
         have HX := Lib.hid hxx
         have hxs : (strN [x]).size ≤ 1 := by rw [strN_size]; simp
         have hdz : (d : Int) + 1 ≤ (dg.size : Int) := by omega
         clear hxx
         cases hb : k.testBit d
         · rw [hb, if_neg (by simp)] at hbt
           have HN := Lib.hid (show setTo k (d + 1) = setTo k d by rw [setTo, hb]; simp)
           clear hb
           go_wp2_with fail
           go_round
           case rel => exact ⟨d + 1, by omega, by go_num, by rw [HN.out]⟩
           case measure => simp [intOf]; omega
         · rw [hb, if_pos rfl] at hbt
           have HN := Lib.hid (show setTo k (d + 1) = setTo k d ++ [x] by rw [setTo, hb, ← HX.out]; rfl)
           clear hb
           go_wp2_with fail
           go_round
           case rel => exact ⟨d + 1, by omega, by go_num, by rw [HN.out]⟩
           case measure => simp [intOf]; omega
       · obtain rfl : d = 10 := by omega
         have hbd := setTo_bd k 10 (by omega)
         rw [setTo_ten] at hbd hsl hss
         rw [setTo_ten]
         obtain ⟨L, hL⟩ : ∃ L, setS k = L := ⟨_, rfl⟩
         rw [hL] at hbd hsl hss
         rw [hL]
         have HLL := Lib.hid hL
         obtain ⟨u, hu⟩ : ∃ u, strN L = u := ⟨_, rfl⟩
         rw [hu] at hss
         rw [hu]
         have HNU := Lib.hid (show nb u = L by rw [← hu]; exact nb_strN (fun b hb => by have := hbd b hb; omega))
         have HUZ := Lib.hid (show u.size = L.length by rw [← nb_len, HNU.out])
         have HU := Lib.hid hu; have HBD := Lib.hid hbd
         obtain ⟨B, hB⟩ : ∃ B, (goodS L && stL L == l) = B := ⟨_, rfl⟩
         have HB := Lib.hid hB
         have d1 : decide (((10 : Nat) : Int) < 10) = false := by decide
         clear hL hu hbd hsl hB
         go_upto_region 11 with (fail)
         go_cut [46] (fun v wx => v = .bool B ∧ wo.grownBy wx none)
         case first =>
           obtain ⟨e1, he1⟩ : ∃ e1, dg.extract 1 dg.size = e1 := ⟨_, rfl⟩
           obtain ⟨e2, he2⟩ : ∃ e2, dg.extract 2 dg.size = e2 := ⟨_, rfl⟩
           have HE1 := Lib.hid (show nb e1 = dgs.drop 1 by rw [← he1, nb_extract, ← nb_len, List.take_length, HDG.out])
           have HE2 := Lib.hid (show nb e2 = dgs.drop 2 by rw [← he2, nb_extract, ← nb_len, List.take_length, HDG.out])
           have HGS := Lib.hid (show goodS L = (decide (1 < u.size) && L != dgs && L != dgs.drop 1 && L != dgs.drop 2) by unfold goodS; rw [HUZ.out])
           by_cases h1 : 1 < u.size
           · have q1 : decide ((1 : Int) < (u.size : Int)) = true := decide_eq_true (by omega)
             by_cases h2 : L = dgs
             · have q2 : (u.toList == dg.toList) = true := by rw [list_beq_nb, HNU.out, HDG.out, h2]; exact beq_self_eq_true _
               have HQ := Lib.hid (show B = false by rw [← HB.out, HGS.out]; simp [h2])
               go_wp2_with fail
               go_meet
               exact ⟨by rw [HQ.out], gr_refl _ _⟩
             · have q2 : (u.toList == dg.toList) = false := by rw [list_beq_nb, HNU.out, HDG.out]; rw [beq_eq_false_iff_ne]; exact h2
               by_cases h3 : L = dgs.drop 1
               · have q3 : (u.toList == e1.toList) = true := by rw [list_beq_nb, HNU.out, HE1.out, h3]; exact beq_self_eq_true _
                 have HQ := Lib.hid (show B = false by rw [← HB.out, HGS.out]; simp [h3])
                 go_wp2_with fail
                 go_meet
                 exact ⟨by rw [HQ.out], gr_refl _ _⟩
               · have q3 : (u.toList == e1.toList) = false := by rw [list_beq_nb, HNU.out, HE1.out]; rw [beq_eq_false_iff_ne]; exact h3
                 by_cases h4 : L = dgs.drop 2
                 · have q4 : (u.toList == e2.toList) = true := by rw [list_beq_nb, HNU.out, HE2.out, h4]; exact beq_self_eq_true _
                   have HQ := Lib.hid (show B = false by rw [← HB.out, HGS.out]; simp [h4])
                   go_wp2_with fail
                   go_meet
                   exact ⟨by rw [HQ.out], gr_refl _ _⟩
                 · have q4 : (u.toList == e2.toList) = false := by rw [list_beq_nb, HNU.out, HE2.out]; rw [beq_eq_false_iff_ne]; exact h4
                   obtain ⟨x, hx⟩ : ∃ x, strN (stL L) = x := ⟨_, rfl⟩
                   have q5 : (x.toList == s.toList) = B := by
                     rw [list_beq_nb, ← hx, nb_strN (stL_bd (fun b hb => (HBD.out b hb).2)), HL.out, ← HB.out, HGS.out]
                     have h3' : ¬ L = dgs.tail := h3
                     simp [h1, h2, h3', h4]
                   have HX := Lib.hid hx
                   clear h2 h3 h4 hx
                   go_wp2_with (first
                     | (go_at_call 161
                        refine (setText_any u L _ HNU.out (fun b hb => (HBD.out b hb).2) (by omega)).mono ?_
                        rintro e w3 ⟨rfl, hg3⟩
                        rw [HX.out]
                        have HG3 := Lib.hid hg3; clear hg3)
                     | fail)
                   go_meet
                   exact ⟨rfl, HG3.out⟩
           · have q1 : decide ((1 : Int) < (u.size : Int)) = false := decide_eq_false (by omega)
             have HQ := Lib.hid (show B = false by rw [← HB.out, HGS.out, decide_eq_false h1]; rfl)
             go_wp2_with fail
             go_meet
             exact ⟨by rw [HQ.out], gr_refl _ _⟩
         case rest =>
           obtain ⟨rfl, hgc⟩ := hcut
           have HGC := Lib.hid (gr_none HG.out hgc); clear hgc
           cases B
           · have HN := Lib.hid (show findM l (k + 1) = none from findM_next HF.out (by rw [HLL.out]; exact HB.out))
             go_wp2_with fail
             go_roundw
             case rel => exact ⟨k + 1, by go_num, by omega, HN.out, HGC.out⟩
             case measure => simp [intOf]; omega
           · have HN := Lib.hid (show fndS l = setS k from fndS_hit (findM_hit HF.out (by rw [HLL.out]; exact HB.out)) hlt)
             go_wp2_with fail
             go_ret
             exact ⟨by rw [HN.out, HLL.out, HU.out]; rfl, HGC.out⟩
   · obtain rfl : k = 1024 := by omega
     have d0 : decide (((1024 : Nat) : Int) < 1024) = false := by decide
     go_wp2_with fail
     go_ret
     exact ⟨by rw [fndS_none 1024 rfl HF.out]; rfl, HG.out⟩
end
end Go.Proofs.YteppdabhloieaaaGreatDoor
namespace Go.Proofs.YteppdabhloieaaaGreatDoor
section
open Go.RowKit
theorem mem_tail_of {l : List Nat} (h : l.headD 0 = 91) (h0 : l ≠ []) : l = 91 :: l.tail := by
 cases l with
 | nil => exact absurd rfl h0
 | cons a l => simp at h; rw [h]; rfl
theorem idx_brk {l : List Nat} (h : l.headD 0 = 91) (h0 : l ≠ []) : idxL l 93 = if 93 ∈ l.tail then (((l.tail.takeWhile (· != 93)).length + 1 : Nat) : Int) else -1 := by
 cases l with
 | nil => exact absurd rfl h0
 | cons a t =>
   have ha : a = 91 := h
   subst ha
   show idxL (91 :: t) 93 = if 93 ∈ t then (((t.takeWhile (· != 93)).length + 1 : Nat) : Int) else -1
   unfold idxL
   have e : (93 ∈ (91 :: t)) ↔ 93 ∈ t := by simp
   by_cases hm : 93 ∈ t
   · rw [if_pos (e.2 hm), if_pos hm]; rfl
   · rw [if_neg (fun h => hm (e.1 h)), if_neg hm]
theorem drop_brk {l : List Nat} (h : 93 ∈ l) : ∃ r, l = l.takeWhile (· != 93) ++ 93 :: r := by
 induction l with
 | nil => cases h
 | cons a l ih =>
   by_cases ha : a = 93
   · subst ha; exact ⟨l, by simp⟩
   · have : 93 ∈ l := by simpa [Ne.symm ha] using h
     obtain ⟨r, hr⟩ := ih this
     refine ⟨r, ?_⟩
     have hb : (a != 93) = true := by simpa using ha
     rw [List.takeWhile_cons, hb]
     simp only [if_true, List.cons_append]
     rw [← hr]
theorem take_brk {l : List Nat} (h : l.headD 0 = 91) (h0 : l ≠ []) (hm : 93 ∈ l.tail) : l.take ((l.tail.takeWhile (· != 93)).length + 2) = [91] ++ l.tail.takeWhile (· != 93) ++ [93] := by
 obtain ⟨r, hr⟩ := drop_brk hm
 conv => lhs; rw [mem_tail_of h h0]
 simp only [List.tail_cons]
 rw [List.take_succ_cons]
 conv => lhs; arg 2; arg 2; rw [hr]
 rw [List.take_append, List.take_of_length_le (by omega)]
 simp
theorem fnd_some {b : List Nat} {M : Nat} (h : setM b = some M) : fndS ([91] ++ b ++ [93]) = setStr M := by
 obtain ⟨N, hN⟩ : ∃ N, N = 1024 := ⟨_, rfl⟩
 have h1 := (setM_findN b N hN).1
 have h2 := (setM_findN b N hN).2 M h
 unfold fndS
 rw [← hN, h1, h]
 show setS (M / 4) = setStr M
 have h3 := (psL_bd (setM_some h).1).2
 have := setStr_four ⟨M / 4, by omega⟩
 dsimp only at this
 rw [← this]
 congr 1
 omega
theorem fnd_none {b : List Nat} (h : setM b = none) : fndS ([91] ++ b ++ [93]) = [] := by
 obtain ⟨N, hN⟩ : ∃ N, N = 1024 := ⟨_, rfl⟩
 have h1 := (setM_findN b N hN).1
 unfold fndS
 rw [← hN, h1, h]
 rfl
theorem setStr_bd (M : Nat) : ∀ b ∈ setStr M, b < 256 := fun b hb => sgn_lt (mem_setStr.1 hb).1
theorem setStr_len (M : Nat) : (setStr M).length ≤ 12 := by unfold setStr; exact List.length_filter_le _ _
theorem elem_ne {l : List Nat} {M k : Nat} (h : elemL l = some (M, k)) : setStr M ≠ [] := by
 have key : ∀ c ∈ sgn, hasM M c = true → setStr M ≠ [] := by
   intro c hc hh e
   have : c ∈ setStr M := mem_setStr.2 ⟨hc, hh⟩
   rw [e] at this; cases this
 unfold elemL at h
 split at h
 · injection h with h; injection h with h1 h2; rw [← h1, setStr_X.1]; decide
 · split at h
   · injection h with h; injection h with h1 h2; rw [← h1, setStr_X.2.1]; decide
   · split at h
     · injection h with h; injection h with h1 h2; rw [← h1, setStr_X.2.2]; decide
     · split at h
       · split at h
         · cases hs : setM (l.tail.takeWhile (· != 93)) with
           | none => rw [hs] at h; cases h
           | some M' =>
             rw [hs] at h
             injection h with h; injection h with h1 h2
             subst h1
             obtain ⟨h3, h4, _⟩ := setM_some hs
             have hM0 : M' ≠ 0 := by rintro rfl; revert h4; decide
             obtain ⟨c, hc, hh⟩ := find_zero (psL_bd h3).2 hM0
             exact key c hc hh
         · cases h
       · split at h
         · rename_i hm
           injection h with h; injection h with h1 h2
           rw [← h1, setStr_only _ hm]
           simp
         · cases h
def sv (M : Nat) : Value := .string (strN (setStr M))
def IsShp (lo : Nat) (l : List Nat) (v : Value) (w : World) : Prop :=
 (∃ (x : List Nat × Nat) (A : Option Addr) (n c : Nat), shpL l = some x ∧ v = .tuple #[.agg #[.slice A n c, .int .u8 x.2], .bool true] ∧ Own w lo 9 1 A n c (x.1.map sv) ∧ x.1.length ≤ 30) ∨
 (shpL l = none ∧ ∃ (A : Option Addr) (n c t : Nat), v = .tuple #[.agg #[.slice A n c, .int .u8 t], .bool false])
def ShpRel (w wr : World) (l : List Nat) (t : ByteArray) (f : Nat) (S : List Nat) (A : Option Addr) (n c : Nat) : Prop :=
 Blk wr w.heap.size 109 #[.slice none 0 0, .int .u8 0] ∧ Blk wr (w.heap.size + 1) 109 #[.slice A n c, .int .u8 0] ∧
 Own wr w.heap.size 9 1 A n c (S.map sv) ∧ w.grownBy wr none ∧ S.length = n ∧ shpF f (nb t) S = shpF (l.length + 1) l []
def ShpLoop (w : World) (l : List Nat) (v : Value) (wr : World) : Prop := ∃ (t : ByteArray) (f : Nat) (S : List Nat) (A : Option Addr) (n c : Nat), v = .string t ∧ t.size + 1 ≤ f ∧ n + t.size ≤ 60 ∧ ShpRel w wr l t f S A n c
theorem Tryz.strT : ElemT Tryz.prog 57 9 1 16 (.string ⟨#[]⟩) := elemT_of Tryz.underlying57 (by kernel_rfl) rfl (by decide)
theorem Tryz.shpT : StructT Tryz.prog 109 2 := ⟨_, Tryz.underlying109, rfl, by kernel_rfl⟩
theorem elem_sg {l : List Nat} {c M k : Nat} (hl : l.headD 0 = c) (h : c ∈ sgn) (he : elemL l = some (M, k)) : setStr M = [c] ∧ k = 1 := by
 have h1 := elR_sg l c hl h
 rw [elR_some he] at h1
 injection h1 with h1 h2
 rw [h1, setStr_only c h]
 exact ⟨rfl, h2⟩
theorem elem_X {l : List Nat} {M k : Nat} (hl : l.headD 0 = 88) (he : elemL l = some (M, k)) : setStr M = dgs ∧ k = 1 := by
 have h1 := elR_x l hl
 rw [elR_some he] at h1
 injection h1 with h1 h2
 rw [h1]; exact ⟨setStr_X.1, h2⟩
theorem elem_Z {l : List Nat} {M k : Nat} (hl : l.headD 0 = 90) (he : elemL l = some (M, k)) : setStr M = dgs.drop 1 ∧ k = 1 := by
 have h1 := elR_z l hl
 rw [elR_some he] at h1
 injection h1 with h1 h2
 rw [h1]; exact ⟨setStr_X.2.1, h2⟩
theorem elem_N {l : List Nat} {M k : Nat} (hl : l.headD 0 = 78) (he : elemL l = some (M, k)) : setStr M = dgs.drop 2 ∧ k = 1 := by
 have h1 := elR_n l hl
 rw [elR_some he] at h1
 injection h1 with h1 h2
 rw [h1]; exact ⟨setStr_X.2.2, h2⟩
theorem elem_B {l : List Nat} {M k : Nat} (hl : l.headD 0 = 91) (h0 : l ≠ []) (he : elemL l = some (M, k)) : idxL l 93 = ((k - 1 : Nat) : Int) ∧ 2 ≤ k ∧ fndS (l.take k) = setStr M := by
 unfold elemL at he
 rw [if_neg (by omega), if_neg (by omega), if_neg (by omega), if_pos hl] at he
 split at he
 · rename_i hm
   cases hs : setM (l.tail.takeWhile (· != 93)) with
   | none => rw [hs] at he; cases he
   | some M' =>
     rw [hs] at he
     injection he with he; injection he with h1 h2
     subst h1; subst h2
     refine ⟨by rw [idx_brk hl h0, if_pos hm]; rfl, by omega, ?_⟩
     rw [take_brk hl h0 hm, fnd_some hs]
 · cases he
theorem elem_Bno {l : List Nat} (hl : l.headD 0 = 91) (h0 : l ≠ []) (he : elemL l = none) : idxL l 93 = -1 ∨ ∃ k : Nat, idxL l 93 = (k : Int) ∧ k < l.length ∧ fndS (l.take (k + 1)) = [] := by
 unfold elemL at he
 rw [if_neg (by omega), if_neg (by omega), if_neg (by omega), if_pos hl] at he
 split at he
 · rename_i hm
   cases hs : setM (l.tail.takeWhile (· != 93)) with
   | none =>
     refine .inr ⟨_, by rw [idx_brk hl h0, if_pos hm], ?_, ?_⟩
     · have := takeWhile_len hm
       rw [List.length_tail] at this
       omega
     · rw [take_brk hl h0 hm, fnd_none hs]
   | some M' => rw [hs] at he; cases he
 · rename_i hm
   exact .inl (by rw [idx_brk hl h0, if_neg hm])
theorem elem_head {l : List Nat} {c M k : Nat} (hl : l.headD 0 = c) (he : elemL l = some (M, k)) : c ∈ sgn ∨ c = 88 ∨ c = 90 ∨ c = 78 ∨ c = 91 := by
 subst hl
 unfold elemL at he
 split at he
 · omega
 · split at he
   · omega
   · split at he
     · omega
     · split at he
       · omega
       · split at he
         · exact .inl (by assumption)
         · cases he
end
end Go.Proofs.YteppdabhloieaaaGreatDoor
namespace Go.Proofs.YteppdabhloieaaaGreatDoor
section
def cmpI (a b : Int) : Int := if a < b then -1 else if b < a then 1 else 0
def cmpL : List Int → List Int → Int
 | [], [] => 0
 | [], _ :: _ => -1
 | _ :: _, [] => 1
 | a :: l, b :: m => if cmpI a b = 0 then cmpL l m else cmpI a b
def cmpLL : List (List Int) → List (List Int) → Int
 | [], [] => 0
 | [], _ :: _ => -1
 | _ :: _, [] => 1
 | a :: l, b :: m => if cmpL a b = 0 then cmpLL l m else cmpL a b
theorem cmpI_zero {a b : Int} : cmpI a b = 0 ↔ a = b := by unfold cmpI; split <;> (try split) <;> omega
def ints (l : List Nat) : List Int := l.map (fun n : Nat => (n : Int))
def rankL (x : List Nat × Nat) (k : Nat) : Nat × List Nat :=
 if k < x.1.length then ((setStr (x.1.getD k 0)).length, setStr (x.1.getD k 0)) else if k = x.1.length ∧ x.2 = 46 then (100, []) else if k = x.1.length ∧ x.2 = 33 then (102, []) else (101, [])
def rkC (x y : List Nat × Nat) (k : Nat) : Int := if cmpI (rankL x k).1 (rankL y k).1 = 0 then cmpL (ints (rankL x k).2) (ints (rankL y k).2) else cmpI (rankL x k).1 (rankL y k).1
def befF (x y : List Nat × Nat) : Nat → Nat → Int
 | 0, _ => 0
 | f + 1, k => if k ≤ max x.1.length y.1.length then (if rkC x y k = 0 then befF x y f (k + 1) else rkC x y k) else 0
def befL (x y : List Nat × Nat) : Int := befF x y (max x.1.length y.1.length + 1) 0
def tailN (t : Nat) : Nat := if t = 46 then 100 else if t = 33 then 102 else 101
def rowsL (x : List Nat × Nat) : List (List Int) := x.1.map (fun M => ((setStr M).length : Int) :: ints (setStr M)) ++ [[(tailN x.2 : Int)]]
theorem rowsL_len (x : List Nat × Nat) : (rowsL x).length = x.1.length + 1 := by simp [rowsL]
theorem rowsL_drop {x : List Nat × Nat} {k : Nat} (hk : k ≤ x.1.length) : (rowsL x).drop k = (((rankL x k).1 : Int) :: ints (rankL x k).2) :: (rowsL x).drop (k + 1) := by
 have hl : k < (rowsL x).length := by rw [rowsL_len]; omega
 rw [List.drop_eq_getElem_cons hl]
 congr 1
 have h : (rowsL x)[k]? = some (((rankL x k).1 : Int) :: ints (rankL x k).2) := by
   unfold rowsL rankL
   by_cases h : k < x.1.length
   · rw [List.getElem?_append_left (by simpa using h), List.getElem?_map, List.getElem?_eq_getElem h, if_pos h, List.getD_eq_getElem?_getD, List.getElem?_eq_getElem h]
     rfl
   · obtain rfl : k = x.1.length := by omega
     rw [List.getElem?_append_right (by simp), if_neg h]
     simp only [List.length_map, Nat.sub_self, List.getElem?_cons_zero]
     unfold tailN
     by_cases h1 : x.2 = 46
     · simp [h1, ints]
     · by_cases h2 : x.2 = 33
       · simp [h2, ints]
       · simp [h1, h2, ints]
 rw [List.getElem?_eq_getElem hl] at h
 injection h
theorem befF_rows {x y : List Nat × Nat} (f k : Nat) (hk : k ≤ x.1.length) (hk2 : k ≤ y.1.length) (hf : max x.1.length y.1.length + 1 ≤ f + k) : befF x y f k = cmpLL ((rowsL x).drop k) ((rowsL y).drop k) := by
 induction f generalizing k with
 | zero => omega
 | succ f ih =>
   rw [befF, if_pos (by omega), rowsL_drop hk, rowsL_drop hk2, cmpLL]
   have hc : cmpL (((rankL x k).1 : Int) :: ints (rankL x k).2) (((rankL y k).1 : Int) :: ints (rankL y k).2) = rkC x y k := by rw [cmpL]; rfl
   rw [hc]
   by_cases hz : rkC x y k = 0
   · rw [if_pos hz, if_pos hz]
     have hr : (rankL x k).1 = (rankL y k).1 := by
       unfold rkC at hz
       split at hz
       · rename_i h; have := cmpI_zero.1 h; omega
       · rename_i h; exact absurd hz h
     have hbx : ∀ z : List Nat × Nat, k ≤ z.1.length → (k < z.1.length → (rankL z k).1 ≤ 12) ∧ (¬ k < z.1.length → 100 ≤ (rankL z k).1) := by
       intro z _
       unfold rankL
       constructor
       · intro h; rw [if_pos h]; exact setStr_len _
       · intro h; rw [if_neg h]; split
         · simp
         · split <;> simp
     have h1 := hbx x hk
     have h2 := hbx y hk2
     by_cases hx : k < x.1.length
     · have hy : k < y.1.length := by
         rcases Nat.lt_or_ge k y.1.length with h | h
         · exact h
         · have := h1.1 hx; have := h2.2 (by omega); omega
       exact ih (k + 1) (by omega) (by omega) (by omega)
     · have hy : ¬ k < y.1.length := fun h => by have := h1.2 hx; have := h2.1 h; omega
       have e1 : (rowsL x).drop (k + 1) = [] := List.drop_eq_nil_of_le (by rw [rowsL_len]; omega)
       have e2 : (rowsL y).drop (k + 1) = [] := List.drop_eq_nil_of_le (by rw [rowsL_len]; omega)
       rw [e1, e2, cmpLL]
       cases f with
       | zero => rfl
       | succ f => rw [befF, if_neg (by omega)]
   · rw [if_neg hz, if_neg hz]
theorem befL_rows (x y : List Nat × Nat) : befL x y = cmpLL (rowsL x) (rowsL y) := by
 unfold befL
 rw [befF_rows _ 0 (by omega) (by omega) (by omega)]
 rfl
end
end Go.Proofs.YteppdabhloieaaaGreatDoor

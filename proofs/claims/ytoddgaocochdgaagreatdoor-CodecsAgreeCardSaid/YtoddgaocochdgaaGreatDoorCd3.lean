/- Contracts of OfferText and OfferLines. Conditions: the table of powers of ten. -/
import Derived.Test.YtoddgaocochdgaaGreatDoorCd2
import Derived.Test.YtoddgaocochdgaaGreatDoorBun4
import Derived.Test.YtoddgaocochdgaaGreatDoorBun1
import Derived.Test.YtoddgaocochdgaaGreatDoorBun3
import Derived.Lib.ItoaLen
namespace Go.Proofs.YtoddgaocochdgaaGreatDoor
open Go.RowKit

def itB (n : Int) : ByteArray := ⟨(Lib.itoa n).toArray⟩
def spB : ByteArray := ⟨#[32]⟩
def nlB : ByteArray := ⟨#[10]⟩
theorem itB_size {n : Int} (h0 : -9000000000000000000 ≤ n) (h1 : n ≤ 9000000000000000000) : (itB n).size ≤ 21 := by
  show (Lib.itoa n).toArray.size ≤ 21
  rw [List.size_toArray]
  exact Lib.itoa_length_le n (by omega) (by omega)
theorem appC (s t : ByteArray) : (s ++ t).size = s.size + t.size := by
  show (s ++ t).data.size = _
  rw [ByteArray.data_append, Array.size_append]; rfl
def cdLine (z : CdV) : ByteArray := itB z.ty ++ spB ++ z.nm ++ spB ++ itB z.rt ++ nlB
def cdTo (l : List CdV) : Nat → ByteArray
  | 0 => ⟨#[]⟩
  | k + 1 => (l[k]?).elim (cdTo l k) fun z => cdTo l k ++ cdLine z
theorem cdTo_succ {l : List CdV} {k : Nat} {z : CdV} (h : l[k]? = some z) : cdTo l (k + 1) = cdTo l k ++ cdLine z := by
  show (l[k]?).elim _ _ = _; rw [h]; rfl
/-- Codecs whose numbers can be written. -/
def CdN (z : CdV) : Prop := -1000000000000000 ≤ z.ty ∧ z.ty ≤ 1000000000000000 ∧ -1000000000000000 ≤ z.rt ∧ z.rt ≤ 1000000000000000
theorem cdLine_size {z : CdV} (h : CdN z) : (cdLine z).size ≤ z.nm.size + 45 := by
  obtain ⟨a1, a2, a3, a4⟩ := h
  have h1 := itB_size (n := z.ty) (by omega) (by omega)
  have h2 := itB_size (n := z.rt) (by omega) (by omega)
  unfold cdLine
  rw [appC, appC, appC, appC, appC]
  show _ + 1 + _ + 1 + _ + 1 ≤ _
  omega
theorem cdTo_size {l : List CdV} {M : Nat} (h : ∀ z ∈ l, CdN z ∧ z.nm.size ≤ M) (k : Nat) : (cdTo l k).size ≤ (M + 45) * k := by
  induction k with
  | zero => exact Nat.le_refl _
  | succ k ih =>
    cases e : l[k]? with
    | none =>
      show ((l[k]?).elim _ _ : ByteArray).size ≤ _
      rw [e]
      rw [Nat.mul_succ]
      exact Nat.le_trans ih (Nat.le_add_right _ _)
    | some z =>
      rw [cdTo_succ e, appC, Nat.mul_succ]
      have := cdLine_size (h z (mem_of_get e)).1
      have := (h z (mem_of_get e)).2
      omega
set_option maxHeartbeats 8000000 in
set_option maxRecDepth 100000 in
theorem offerLines_any (lo : Nat) (A : Option Addr) (n c : Nat) (l : List CdV) (w : World) (h : Cds w lo A n c l) (hn : n ≤ 1000) (hN : ∀ z ∈ l, CdN z ∧ z.nm.size ≤ 1000000) (hp : PwT w) :
    Calls Tryz.prog 16 #[.slice A n c] w (RetV (.string (cdTo l n)) w) := by
  have H := Lib.hid h; have HN := Lib.hid hN; have HPW := Lib.hid hp
  have HLEN := Lib.hid (fun k => cdTo_size (M := 1000000) hN k)
  clear h hN hp
  go_enter Tryz.func16, Tryz.ntmps16
  go_wp2_with fail
  go_loopw [3, 5, 8] (fun v _ t wr => ∃ (k : Nat) (s : ByteArray), k ≤ n ∧ t = .int .i64 k ∧ v = .string s ∧ cdTo l k = s ∧ w.grownBy wr none) (fun _ _ t _ => n - (intOf t).toNat)
  case atStart => exact ⟨0, ⟨#[]⟩, Nat.zero_le _, rfl, rfl, rfl, gr_refl _ _⟩
  case round =>
    obtain ⟨k, s, hk, rfl, rfl, hsd, hg⟩ := hrel
    have HG := Lib.hid hg; have HSD := Lib.hid hsd
    clear hg hsd
    by_cases hlt : k < n
    · obtain ⟨g, o, ⟨ty, rt, nm⟩, rfl, _, hgl, hz, hc⟩ := (H.out.1.grown HG.out (fun g e => by cases e)).get CdV.row_len hlt
      obtain ⟨⟨a1, a2, a3, a4⟩, hnm⟩ := HN.out _ (mem_of_get hz)
      dsimp only at a1 a2 a3 a4 hnm
      have HT := Lib.hid (cdTo_succ hz)
      have HC := Lib.hid hc
      have hsz : s.size ≤ 1000045 * k := by rw [← HSD.out]; exact HLEN.out k
      have hlt2 : (k : Int) < (n : Int) := by omega
      clear hz hc
      obtain ⟨I1, hI1⟩ : ∃ I, (⟨(Lib.itoa ty).toArray⟩ : ByteArray) = I := ⟨_, rfl⟩
      obtain ⟨I2, hI2⟩ : ∃ I, (⟨(Lib.itoa rt).toArray⟩ : ByteArray) = I := ⟨_, rfl⟩
      have s1 : I1.size ≤ 21 := by rw [← hI1]; exact itB_size (by omega) (by omega)
      have s2 : I2.size ≤ 21 := by rw [← hI2]; exact itB_size (by omega) (by omega)
      have HL := Lib.hid (show cdLine ⟨ty, rt, nm⟩ = I1 ++ spB ++ nm ++ spB ++ I2 ++ nlB by unfold cdLine; rw [← hI1, ← hI2]; rfl)
      have HI1 := Lib.hid hI1; have HI2 := Lib.hid hI2
      clear hI1 hI2
      obtain ⟨w1, hw1⟩ : ∃ w1, wr.alloc (.cells #[.int .i64 ty, .int .i64 rt, .string nm] 43) = w1 := ⟨_, rfl⟩
      obtain ⟨zb, hzb⟩ : ∃ zb, wr.heap.size = zb := ⟨_, rfl⟩
      have HB := Lib.hid (show Blk w1 zb 43 #[.int .i64 ty, .int .i64 rt, .string nm] by rw [← hw1, ← hzb]; exact Blk.new _ _ _)
      have hga : wr.grownBy w1 none := by rw [← hw1]; exact gr_alloc (gr_refl _ _) _
      have HW1 := Lib.hid hw1; have HZB := Lib.hid hzb
      clear hw1 hzb
      replace HG := Lib.hid (gr_none HG.out hga)
      clear hga
      go_upto_region 5 with (first
        | (refine wpl_load_at Tryz.cdT rfl _ rfl _ rfl [.int .i64 ty, .int .i64 rt, .string nm] rfl (fun j u hu => by rw [add_mk]; exact HC.out j u hu) ?_)
        | fail)
      rw [HW1.out]
      (try rw [HZB.out])
      clear HC HW1 HZB
      refine H_begin (fun w' => w1.grownBy w' none) (by kernel_rfl) ?_
      have hHeld : w1.grownBy w1.drew none := gr_drew (gr_refl _ _)
      generalize w1.drew = wd at hHeld ⊢
      refine H_take (k := 0) (v := ?_) (by rfl) (by kernel_rfl) (by kernel_rfl) (by kernel_rfl) (by exact fun _ _ _ h => h) (by rfl) ?_ (by assumption) ?_
      rotate_left 1
      · intro w hSw
        (try dsimp only at hSw)
        go_simp
        (try with_reducible rfl)
      (try simp only [Act.put, List.setIfInBounds_toArray, List.set_cons_zero, List.set_cons_succ])
      refine H_take (k := 1) (v := ?_) (by rfl) (by kernel_rfl) (by kernel_rfl) (by kernel_rfl) (by exact fun _ _ _ h => h) (by rfl) ?_ (by assumption) ?_
      rotate_left 1
      · intro w hSw
        (try dsimp only at hSw)
        go_simp
        (try with_reducible rfl)
      (try simp only [Act.put, List.setIfInBounds_toArray, List.set_cons_zero, List.set_cons_succ])
      refine H_take (k := 2) (v := ?_) (by rfl) (by kernel_rfl) (by kernel_rfl) (by kernel_rfl) (by exact fun _ _ _ h => h) (by rfl) ?_ (by assumption) ?_
      rotate_left 1
      · intro w' hSw
        have kc := (HB.out.grown hSw (by simp)).cell 0
        go_simp
        (try with_reducible rfl)
      (try simp only [Act.put, List.setIfInBounds_toArray, List.set_cons_zero, List.set_cons_succ])
      refine H_take (k := 5) (v := ?_) (by rfl) (by kernel_rfl) (by kernel_rfl) (by kernel_rfl) (by exact fun _ _ _ h => h) (by rfl) ?_ (by assumption) ?_
      rotate_left 1
      · intro w hSw
        (try dsimp only at hSw)
        go_simp
        (try with_reducible rfl)
      (try simp only [Act.put, List.setIfInBounds_toArray, List.set_cons_zero, List.set_cons_succ])
      refine H_take (k := 6) (v := ?_) (by rfl) (by kernel_rfl) (by kernel_rfl) (by kernel_rfl) (by exact fun _ _ _ h => h) (by rfl) ?_ (by assumption) ?_
      rotate_left 1
      · intro w' hSw
        have kc := (HB.out.grown hSw (by simp)).cell 2
        go_simp
        (try with_reducible rfl)
      (try simp only [Act.put, List.setIfInBounds_toArray, List.set_cons_zero, List.set_cons_succ])
      refine H_take (k := 9) (v := ?_) (by rfl) (by kernel_rfl) (by kernel_rfl) (by kernel_rfl) (by exact fun _ _ _ h => h) (by rfl) ?_ (by assumption) ?_
      rotate_left 1
      · intro w hSw
        (try dsimp only at hSw)
        go_simp
        (try with_reducible rfl)
      (try simp only [Act.put, List.setIfInBounds_toArray, List.set_cons_zero, List.set_cons_succ])
      refine H_take (k := 10) (v := ?_) (by rfl) (by kernel_rfl) (by kernel_rfl) (by kernel_rfl) (by exact fun _ _ _ h => h) (by rfl) ?_ (by assumption) ?_
      rotate_left 1
      · intro w' hSw
        have kc := (HB.out.grown hSw (by simp)).cell 1
        go_simp
        (try with_reducible rfl)
      (try simp only [Act.put, List.setIfInBounds_toArray, List.set_cons_zero, List.set_cons_succ])
      refine H_run (k := 3) (by rfl) (by kernel_rfl) (by rfl) (fun K hK => ?_)
      go_simp
      refine (itoa_any ty _ (by omega) (by omega) (HPW.out.grown (gr_none HG.out hHeld))).mono ?_
      rintro e wx ⟨rfl, hgx⟩
      rw [HI1.out]
      have hgz := gr_none hHeld hgx
      refine hK _ _ hgz ?_
      clear hK K
      clear hHeld hgx
      have hHeld := hgz
      clear hgz
      (try simp only [Act.put, List.setIfInBounds_toArray, List.set_cons_zero, List.set_cons_succ])
      obtain ⟨sp, hsp⟩ : ∃ x : ByteArray, spB = x := ⟨_, rfl⟩
      obtain ⟨nl, hnl⟩ : ∃ x : ByteArray, nlB = x := ⟨_, rfl⟩
      have hsp1 : sp.size = 1 := by rw [← hsp]; rfl
      have hnl1 : nl.size = 1 := by rw [← hnl]; rfl
      rw [hsp, hnl] at HL
      change spB = sp at hsp
      obtain ⟨X1, hX1⟩ : ∃ x, I1 ++ sp = x := ⟨_, rfl⟩
      obtain ⟨X2, hX2⟩ : ∃ x, X1 ++ nm = x := ⟨_, rfl⟩
      obtain ⟨X3, hX3⟩ : ∃ x, X2 ++ sp = x := ⟨_, rfl⟩
      obtain ⟨X4, hX4⟩ : ∃ x, X3 ++ I2 = x := ⟨_, rfl⟩
      obtain ⟨X5, hX5⟩ : ∃ x, X4 ++ nl = x := ⟨_, rfl⟩
      obtain ⟨S2, hS2⟩ : ∃ x, s ++ X5 = x := ⟨_, rfl⟩
      have b1 : X1.size = I1.size + 1 := by rw [← hX1, appC, hsp1]
      have b2 : X2.size = X1.size + nm.size := by rw [← hX2, appC]
      have b3 : X3.size = X2.size + 1 := by rw [← hX3, appC, hsp1]
      have b4 : X4.size = X3.size + I2.size := by rw [← hX4, appC]
      have b5 : X5.size = X4.size + 1 := by rw [← hX5, appC, hnl1]
      have HS2 := Lib.hid (show S2 = cdTo l (k + 1) by rw [HT.out, HL.out, hX1, hX2, hX3, hX4, hX5, HSD.out, hS2])
      have c1 : ¬ 9223372036854775807 < I1.size + sp.size := by omega
      have c2 : ¬ 9223372036854775807 < X1.size + nm.size := by omega
      have c3 : ¬ 9223372036854775807 < X2.size + sp.size := by omega
      have c4 : ¬ 9223372036854775807 < X3.size + I2.size := by omega
      have c5 : ¬ 9223372036854775807 < X4.size + nl.size := by omega
      have c6 : ¬ 9223372036854775807 < s.size + X5.size := by omega
      rw [show (⟨#[32]⟩ : ByteArray) = sp from hsp, show (⟨#[10]⟩ : ByteArray) = nl from hnl]
      clear hsp hnl b1 b2 b3 b4 b5 hsp1 hnl1
      refine H_take (k := 4) (v := ?_) (by rfl) (by kernel_rfl) (by kernel_rfl) (by kernel_rfl) (by exact fun _ _ _ h => h) (by rfl) ?_ (by assumption) ?_
      rotate_left 1
      · intro w hSw
        (try dsimp only at hSw)
        go_simp
        (try with_reducible rfl)
      (try simp only [Act.put, List.setIfInBounds_toArray, List.set_cons_zero, List.set_cons_succ])
      refine H_take (k := 7) (v := ?_) (by rfl) (by kernel_rfl) (by kernel_rfl) (by kernel_rfl) (by exact fun _ _ _ h => h) (by rfl) ?_ (by assumption) ?_
      rotate_left 1
      · intro w hSw
        (try dsimp only at hSw)
        go_simp
        (try with_reducible rfl)
      (try simp only [Act.put, List.setIfInBounds_toArray, List.set_cons_zero, List.set_cons_succ])
      refine H_take (k := 8) (v := ?_) (by rfl) (by kernel_rfl) (by kernel_rfl) (by kernel_rfl) (by exact fun _ _ _ h => h) (by rfl) ?_ (by assumption) ?_
      rotate_left 1
      · intro w hSw
        (try dsimp only at hSw)
        go_simp
        (try with_reducible rfl)
      (try simp only [Act.put, List.setIfInBounds_toArray, List.set_cons_zero, List.set_cons_succ])
      refine H_run (k := 11) (by rfl) (by kernel_rfl) (by rfl) (fun K hK => ?_)
      go_simp
      refine (itoa_any rt _ (by omega) (by omega) (HPW.out.grown (gr_none HG.out hHeld))).mono ?_
      rintro e wx ⟨rfl, hgx⟩
      rw [HI2.out]
      have hgz := gr_none hHeld hgx
      refine hK _ _ hgz ?_
      clear hK K
      clear hHeld hgx
      have hHeld := hgz
      clear hgz
      (try simp only [Act.put, List.setIfInBounds_toArray, List.set_cons_zero, List.set_cons_succ])
      refine H_take (k := 12) (v := ?_) (by rfl) (by kernel_rfl) (by kernel_rfl) (by kernel_rfl) (by exact fun _ _ _ h => h) (by rfl) ?_ (by assumption) ?_
      rotate_left 1
      · intro w hSw
        (try dsimp only at hSw)
        go_simp
        (try with_reducible rfl)
      (try simp only [Act.put, List.setIfInBounds_toArray, List.set_cons_zero, List.set_cons_succ])
      refine H_take (k := 13) (v := ?_) (by rfl) (by kernel_rfl) (by kernel_rfl) (by kernel_rfl) (by exact fun _ _ _ h => h) (by rfl) ?_ (by assumption) ?_
      rotate_left 1
      · intro w hSw
        (try dsimp only at hSw)
        go_simp
        (try with_reducible rfl)
      (try simp only [Act.put, List.setIfInBounds_toArray, List.set_cons_zero, List.set_cons_succ])
      refine H_take (k := 14) (v := ?_) (by rfl) (by kernel_rfl) (by kernel_rfl) (by kernel_rfl) (by exact fun _ _ _ h => h) (by rfl) ?_ (by assumption) ?_
      rotate_left 1
      · intro w hSw
        (try dsimp only at hSw)
        go_simp
        (try with_reducible rfl)
      (try simp only [Act.put, List.setIfInBounds_toArray, List.set_cons_zero, List.set_cons_succ])
      refine H_take (k := 15) (v := ?_) (by rfl) (by kernel_rfl) (by kernel_rfl) (by kernel_rfl) (by exact fun _ _ _ h => h) (by rfl) ?_ (by assumption) ?_
      rotate_left 1
      · intro w hSw
        (try dsimp only at hSw)
        go_simp
        (try with_reducible rfl)
      (try simp only [Act.put, List.setIfInBounds_toArray, List.set_cons_zero, List.set_cons_succ])
      refine H_done (by kernel_rfl) ?_
      replace HG := Lib.hid (gr_none HG.out hHeld)
      clear hHeld
      go_wp2_with fail
      go_roundw
      case rel => exact ⟨k + 1, S2, by omega, by go_num, rfl, HS2.out.symm, HG.out⟩
      case measure => simp [intOf]; omega
    · obtain rfl : k = n := by omega
      go_wp2_with fail
      go_ret
      exact ⟨by rw [HSD.out]; try rfl, HG.out⟩
def offT (l : List CdV) (n : Nat) : ByteArray := if cdE l = 0 then cdTo l n else ⟨#[]⟩
set_option maxHeartbeats 8000000 in
set_option maxRecDepth 100000 in
theorem offerText_any (lo : Nat) (A : Option Addr) (n c : Nat) (l : List CdV) (w : World) (h : Cds w lo A n c l) (hn : n ≤ 1000000) (hp : PwT w) :
    Calls Tryz.prog 10 #[.slice A n c] w (RetV (.tuple #[.string (offT l n), .int .i64 (cdE l)]) w) := by
  have H := Lib.hid h; have HPW := Lib.hid hp
  have hlen := h.1.len
  obtain ⟨E, hE⟩ : ∃ E, cdE l = E := ⟨_, rfl⟩
  obtain ⟨V, hV⟩ : ∃ V, offT l n = V := ⟨_, rfl⟩
  rw [hE, hV]
  have HE := Lib.hid hE; have HV := Lib.hid hV
  clear h hp hE hV
  go_enter Tryz.func10, Tryz.ntmps10
  go_wp2_with fail
  refine (checkCodecs_any lo A n c l _ H.out (by omega)).mono ?_
  rintro e w1 ⟨rfl, hg1⟩
  rw [HE.out]
  have HG1 := Lib.hid hg1
  clear hg1
  by_cases hz1 : E = 0
  rotate_left 1
  · have d1 : (E != 0) = true := by simpa using hz1
    obtain rfl : (⟨#[]⟩ : ByteArray) = V := by rw [← HV.out]; exact (if_neg (fun q => hz1 (HE.out.symm.trans q))).symm
    go_wp2_with fail
    go_ret2
    exact ⟨rfl, HG1.out⟩
  have d1 : (E != 0) = false := by simpa using hz1
  obtain ⟨hn2, hrt⟩ := cdE_parts (HE.out.trans hz1)
  have hN : ∀ z ∈ l, CdN z ∧ z.nm.size ≤ 1000000 := fun z hz => by
    obtain ⟨q1, q2, q3, q4, _⟩ := hrt z hz
    exact ⟨⟨by omega, by omega, by omega, by omega⟩, H.out.2 z hz⟩
  have HN := Lib.hid hN
  have HLEN := Lib.hid (fun k => cdTo_size (M := 1000000) hN k)
  have HVV := Lib.hid (show cdTo l n = V by rw [← HV.out]; exact (if_pos (HE.out.trans hz1)).symm)
  subst hz1
  clear hN hrt
  go_wp2_with fail
  go_loopw [5, 7, 15] (fun v _ t wr => ∃ (k : Nat) (s : ByteArray), k ≤ n ∧ t = .int .i64 k ∧ v = .string s ∧ cdTo l k = s ∧ w.grownBy wr none) (fun _ _ t _ => n - (intOf t).toNat)
  case atStart => exact ⟨0, ⟨#[]⟩, Nat.zero_le _, rfl, rfl, rfl, HG1.out⟩
  case round =>
    clear HG1
    obtain ⟨k, s, hk, rfl, rfl, hsd, hg⟩ := hrel
    have HG := Lib.hid hg; have HSD := Lib.hid hsd
    clear hg hsd
    by_cases hlt : k < n
    · obtain ⟨g, o, ⟨ty, rt, nm⟩, rfl, _, hgl, hz, hc⟩ := (H.out.1.grown HG.out (fun g e => by cases e)).get CdV.row_len hlt
      obtain ⟨⟨a1, a2, a3, a4⟩, hnm⟩ := HN.out _ (mem_of_get hz)
      dsimp only at a1 a2 a3 a4 hnm
      have HT := Lib.hid (cdTo_succ hz)
      have HC := Lib.hid hc
      have hsz : s.size ≤ 1000045 * k := by rw [← HSD.out]; exact HLEN.out k
      have hlt2 : (k : Int) < (n : Int) := by omega
      clear hz hc
      obtain ⟨I1, hI1⟩ : ∃ I, (⟨(Lib.itoa ty).toArray⟩ : ByteArray) = I := ⟨_, rfl⟩
      obtain ⟨I2, hI2⟩ : ∃ I, (⟨(Lib.itoa rt).toArray⟩ : ByteArray) = I := ⟨_, rfl⟩
      have s1 : I1.size ≤ 21 := by rw [← hI1]; exact itB_size (by omega) (by omega)
      have s2 : I2.size ≤ 21 := by rw [← hI2]; exact itB_size (by omega) (by omega)
      have HL := Lib.hid (show cdLine ⟨ty, rt, nm⟩ = I1 ++ spB ++ nm ++ spB ++ I2 ++ nlB by unfold cdLine; rw [← hI1, ← hI2]; rfl)
      have HI1 := Lib.hid hI1; have HI2 := Lib.hid hI2
      clear hI1 hI2
      obtain ⟨w1, hw1⟩ : ∃ w1, wr.alloc (.cells #[.int .i64 ty, .int .i64 rt, .string nm] 43) = w1 := ⟨_, rfl⟩
      obtain ⟨zb, hzb⟩ : ∃ zb, wr.heap.size = zb := ⟨_, rfl⟩
      have HB := Lib.hid (show Blk w1 zb 43 #[.int .i64 ty, .int .i64 rt, .string nm] by rw [← hw1, ← hzb]; exact Blk.new _ _ _)
      have hga : wr.grownBy w1 none := by rw [← hw1]; exact gr_alloc (gr_refl _ _) _
      have HW1 := Lib.hid hw1; have HZB := Lib.hid hzb
      clear hw1 hzb
      replace HG := Lib.hid (gr_none HG.out hga)
      clear hga
      go_upto_region 8 with (first
        | (refine wpl_load_at Tryz.cdT rfl _ rfl _ rfl [.int .i64 ty, .int .i64 rt, .string nm] rfl (fun j u hu => by rw [add_mk]; exact HC.out j u hu) ?_)
        | fail)
      rw [HW1.out]
      (try rw [HZB.out])
      clear HC HW1 HZB
      refine H_begin (fun w' => w1.grownBy w' none) (by kernel_rfl) ?_
      have hHeld : w1.grownBy w1.drew none := gr_drew (gr_refl _ _)
      generalize w1.drew = wd at hHeld ⊢
      refine H_take (k := 0) (v := ?_) (by rfl) (by kernel_rfl) (by kernel_rfl) (by kernel_rfl) (by exact fun _ _ _ h => h) (by rfl) ?_ (by assumption) ?_
      rotate_left 1
      · intro w hSw
        (try dsimp only at hSw)
        go_simp
        (try with_reducible rfl)
      (try simp only [Act.put, List.setIfInBounds_toArray, List.set_cons_zero, List.set_cons_succ])
      refine H_take (k := 1) (v := ?_) (by rfl) (by kernel_rfl) (by kernel_rfl) (by kernel_rfl) (by exact fun _ _ _ h => h) (by rfl) ?_ (by assumption) ?_
      rotate_left 1
      · intro w hSw
        (try dsimp only at hSw)
        go_simp
        (try with_reducible rfl)
      (try simp only [Act.put, List.setIfInBounds_toArray, List.set_cons_zero, List.set_cons_succ])
      refine H_take (k := 2) (v := ?_) (by rfl) (by kernel_rfl) (by kernel_rfl) (by kernel_rfl) (by exact fun _ _ _ h => h) (by rfl) ?_ (by assumption) ?_
      rotate_left 1
      · intro w' hSw
        have kc := (HB.out.grown hSw (by simp)).cell 0
        go_simp
        (try with_reducible rfl)
      (try simp only [Act.put, List.setIfInBounds_toArray, List.set_cons_zero, List.set_cons_succ])
      refine H_take (k := 5) (v := ?_) (by rfl) (by kernel_rfl) (by kernel_rfl) (by kernel_rfl) (by exact fun _ _ _ h => h) (by rfl) ?_ (by assumption) ?_
      rotate_left 1
      · intro w hSw
        (try dsimp only at hSw)
        go_simp
        (try with_reducible rfl)
      (try simp only [Act.put, List.setIfInBounds_toArray, List.set_cons_zero, List.set_cons_succ])
      refine H_take (k := 6) (v := ?_) (by rfl) (by kernel_rfl) (by kernel_rfl) (by kernel_rfl) (by exact fun _ _ _ h => h) (by rfl) ?_ (by assumption) ?_
      rotate_left 1
      · intro w' hSw
        have kc := (HB.out.grown hSw (by simp)).cell 2
        go_simp
        (try with_reducible rfl)
      (try simp only [Act.put, List.setIfInBounds_toArray, List.set_cons_zero, List.set_cons_succ])
      refine H_take (k := 9) (v := ?_) (by rfl) (by kernel_rfl) (by kernel_rfl) (by kernel_rfl) (by exact fun _ _ _ h => h) (by rfl) ?_ (by assumption) ?_
      rotate_left 1
      · intro w hSw
        (try dsimp only at hSw)
        go_simp
        (try with_reducible rfl)
      (try simp only [Act.put, List.setIfInBounds_toArray, List.set_cons_zero, List.set_cons_succ])
      refine H_take (k := 10) (v := ?_) (by rfl) (by kernel_rfl) (by kernel_rfl) (by kernel_rfl) (by exact fun _ _ _ h => h) (by rfl) ?_ (by assumption) ?_
      rotate_left 1
      · intro w' hSw
        have kc := (HB.out.grown hSw (by simp)).cell 1
        go_simp
        (try with_reducible rfl)
      (try simp only [Act.put, List.setIfInBounds_toArray, List.set_cons_zero, List.set_cons_succ])
      refine H_run (k := 3) (by rfl) (by kernel_rfl) (by rfl) (fun K hK => ?_)
      go_simp
      refine (itoa_any ty _ (by omega) (by omega) (HPW.out.grown (gr_none HG.out hHeld))).mono ?_
      rintro e wx ⟨rfl, hgx⟩
      rw [HI1.out]
      have hgz := gr_none hHeld hgx
      refine hK _ _ hgz ?_
      clear hK K
      clear hHeld hgx
      have hHeld := hgz
      clear hgz
      (try simp only [Act.put, List.setIfInBounds_toArray, List.set_cons_zero, List.set_cons_succ])
      obtain ⟨sp, hsp⟩ : ∃ x : ByteArray, spB = x := ⟨_, rfl⟩
      obtain ⟨nl, hnl⟩ : ∃ x : ByteArray, nlB = x := ⟨_, rfl⟩
      have hsp1 : sp.size = 1 := by rw [← hsp]; rfl
      have hnl1 : nl.size = 1 := by rw [← hnl]; rfl
      rw [hsp, hnl] at HL
      change spB = sp at hsp
      obtain ⟨X1, hX1⟩ : ∃ x, I1 ++ sp = x := ⟨_, rfl⟩
      obtain ⟨X2, hX2⟩ : ∃ x, X1 ++ nm = x := ⟨_, rfl⟩
      obtain ⟨X3, hX3⟩ : ∃ x, X2 ++ sp = x := ⟨_, rfl⟩
      obtain ⟨X4, hX4⟩ : ∃ x, X3 ++ I2 = x := ⟨_, rfl⟩
      obtain ⟨X5, hX5⟩ : ∃ x, X4 ++ nl = x := ⟨_, rfl⟩
      obtain ⟨S2, hS2⟩ : ∃ x, s ++ X5 = x := ⟨_, rfl⟩
      have b1 : X1.size = I1.size + 1 := by rw [← hX1, appC, hsp1]
      have b2 : X2.size = X1.size + nm.size := by rw [← hX2, appC]
      have b3 : X3.size = X2.size + 1 := by rw [← hX3, appC, hsp1]
      have b4 : X4.size = X3.size + I2.size := by rw [← hX4, appC]
      have b5 : X5.size = X4.size + 1 := by rw [← hX5, appC, hnl1]
      have HS2 := Lib.hid (show S2 = cdTo l (k + 1) by rw [HT.out, HL.out, hX1, hX2, hX3, hX4, hX5, HSD.out, hS2])
      have c1 : ¬ 9223372036854775807 < I1.size + sp.size := by omega
      have c2 : ¬ 9223372036854775807 < X1.size + nm.size := by omega
      have c3 : ¬ 9223372036854775807 < X2.size + sp.size := by omega
      have c4 : ¬ 9223372036854775807 < X3.size + I2.size := by omega
      have c5 : ¬ 9223372036854775807 < X4.size + nl.size := by omega
      have c6 : ¬ 9223372036854775807 < s.size + X5.size := by omega
      rw [show (⟨#[32]⟩ : ByteArray) = sp from hsp, show (⟨#[10]⟩ : ByteArray) = nl from hnl]
      clear hsp hnl b1 b2 b3 b4 b5 hsp1 hnl1
      refine H_take (k := 4) (v := ?_) (by rfl) (by kernel_rfl) (by kernel_rfl) (by kernel_rfl) (by exact fun _ _ _ h => h) (by rfl) ?_ (by assumption) ?_
      rotate_left 1
      · intro w hSw
        (try dsimp only at hSw)
        go_simp
        (try with_reducible rfl)
      (try simp only [Act.put, List.setIfInBounds_toArray, List.set_cons_zero, List.set_cons_succ])
      refine H_take (k := 7) (v := ?_) (by rfl) (by kernel_rfl) (by kernel_rfl) (by kernel_rfl) (by exact fun _ _ _ h => h) (by rfl) ?_ (by assumption) ?_
      rotate_left 1
      · intro w hSw
        (try dsimp only at hSw)
        go_simp
        (try with_reducible rfl)
      (try simp only [Act.put, List.setIfInBounds_toArray, List.set_cons_zero, List.set_cons_succ])
      refine H_take (k := 8) (v := ?_) (by rfl) (by kernel_rfl) (by kernel_rfl) (by kernel_rfl) (by exact fun _ _ _ h => h) (by rfl) ?_ (by assumption) ?_
      rotate_left 1
      · intro w hSw
        (try dsimp only at hSw)
        go_simp
        (try with_reducible rfl)
      (try simp only [Act.put, List.setIfInBounds_toArray, List.set_cons_zero, List.set_cons_succ])
      refine H_run (k := 11) (by rfl) (by kernel_rfl) (by rfl) (fun K hK => ?_)
      go_simp
      refine (itoa_any rt _ (by omega) (by omega) (HPW.out.grown (gr_none HG.out hHeld))).mono ?_
      rintro e wx ⟨rfl, hgx⟩
      rw [HI2.out]
      have hgz := gr_none hHeld hgx
      refine hK _ _ hgz ?_
      clear hK K
      clear hHeld hgx
      have hHeld := hgz
      clear hgz
      (try simp only [Act.put, List.setIfInBounds_toArray, List.set_cons_zero, List.set_cons_succ])
      refine H_take (k := 12) (v := ?_) (by rfl) (by kernel_rfl) (by kernel_rfl) (by kernel_rfl) (by exact fun _ _ _ h => h) (by rfl) ?_ (by assumption) ?_
      rotate_left 1
      · intro w hSw
        (try dsimp only at hSw)
        go_simp
        (try with_reducible rfl)
      (try simp only [Act.put, List.setIfInBounds_toArray, List.set_cons_zero, List.set_cons_succ])
      refine H_take (k := 13) (v := ?_) (by rfl) (by kernel_rfl) (by kernel_rfl) (by kernel_rfl) (by exact fun _ _ _ h => h) (by rfl) ?_ (by assumption) ?_
      rotate_left 1
      · intro w hSw
        (try dsimp only at hSw)
        go_simp
        (try with_reducible rfl)
      (try simp only [Act.put, List.setIfInBounds_toArray, List.set_cons_zero, List.set_cons_succ])
      refine H_take (k := 14) (v := ?_) (by rfl) (by kernel_rfl) (by kernel_rfl) (by kernel_rfl) (by exact fun _ _ _ h => h) (by rfl) ?_ (by assumption) ?_
      rotate_left 1
      · intro w hSw
        (try dsimp only at hSw)
        go_simp
        (try with_reducible rfl)
      (try simp only [Act.put, List.setIfInBounds_toArray, List.set_cons_zero, List.set_cons_succ])
      refine H_take (k := 15) (v := ?_) (by rfl) (by kernel_rfl) (by kernel_rfl) (by kernel_rfl) (by exact fun _ _ _ h => h) (by rfl) ?_ (by assumption) ?_
      rotate_left 1
      · intro w hSw
        (try dsimp only at hSw)
        go_simp
        (try with_reducible rfl)
      (try simp only [Act.put, List.setIfInBounds_toArray, List.set_cons_zero, List.set_cons_succ])
      refine H_done (by kernel_rfl) ?_
      replace HG := Lib.hid (gr_none HG.out hHeld)
      clear hHeld
      go_wp2_with fail
      go_roundw
      case rel => exact ⟨k + 1, S2, by omega, by go_num, rfl, HS2.out.symm, HG.out⟩
      case measure => simp [intOf]; omega
    · obtain rfl : k = n := by omega
      obtain rfl : s = V := HSD.out.symm.trans HVV.out
      go_wp2_with fail
      go_ret2
      exact ⟨rfl, HG.out⟩
end Go.Proofs.YtoddgaocochdgaaGreatDoor

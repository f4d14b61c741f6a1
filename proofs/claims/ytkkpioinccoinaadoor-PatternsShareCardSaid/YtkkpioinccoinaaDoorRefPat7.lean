/- Contract of SharedOf. Conditions: none. -/
import Derived.Test.YtkkpioinccoinaaDoorRefPat6
namespace Go.Proofs.YtkkpioinccoinaaDoor
open Go.RowKit

theorem find_at {p : Nat → Bool} {l : List Nat} {j : Nat} (hj : j < l.length) (h : ∀ k, k < j → p (l.getD k 0) = false) (hp : p (l.getD j 0) = true) : l.find? p = some (l.getD j 0) := by
  induction l generalizing j with
  | nil => simp at hj
  | cons a l ih =>
    cases j with
    | zero => simp at hp ⊢; exact .inl hp
    | succ j =>
      have h0 : p a = false := h 0 (by omega)
      rw [List.find?_cons_of_neg (by rw [h0]; simp)]
      exact ih (by simpa using hj) (fun k hk => h (k + 1) (by omega)) hp
theorem find_no {p : Nat → Bool} {l : List Nat} (h : ∀ k, k < l.length → p (l.getD k 0) = false) : l.find? p = none := by
  rw [List.find?_eq_none]
  intro c hc
  obtain ⟨k, hk, rfl⟩ := List.mem_iff_getElem.1 hc
  have := h k hk
  rw [List.getD_eq_getElem?_getD, List.getElem?_eq_getElem hk] at this
  simpa using this
theorem enc_sgn : ∀ q ∈ sgn, Utf8.encode (q : Int) = strN [q] := by decide +kernel
theorem setAt_bd (x : List Nat × Nat) (i : Nat) : ∀ b ∈ setAtL x i, b < 256 := by
  unfold setAtL
  split
  · exact setStr_bd _
  · exact fun b hb => sgn_lt hb
theorem nb_setAt (x : List Nat × Nat) (i : Nat) : nb (strN (setAtL x i)) = setAtL x i := nb_strN (setAt_bd x i)
theorem candAt_mem (P Q : List Nat × Nat) (i : Nat) : ∀ b ∈ candAt P Q i, b < 256 := by
  unfold candAt
  cases h : sgn.find? (fun c => decide (c ∈ setAtL P i) && decide (c ∈ setAtL Q i)) with
  | none => intro b hb; cases hb
  | some c => intro b hb; simp at hb; subst hb; exact sgn_lt (List.mem_of_find?_eq_some h)
theorem candL_bd (P Q : List Nat × Nat) (n : Nat) : ∀ b ∈ candL P Q n, b < 256 := by
  induction n with
  | zero => intro b hb; cases hb
  | succ n ih =>
    unfold candL
    intro b hb
    rcases List.mem_append.1 hb with h | h
    · exact ih b h
    · exact candAt_mem P Q n b h
def RfLoop (wb : World) (x y : List Nat × Nat) (v : Value) (wr : World) : Prop := ∃ n f : Nat, v = .int .i64 n ∧ 1 ≤ n ∧ n ≤ 31 ∧ f = 31 - n ∧ refF x y f n = refL x y ∧ wb.grownBy wr none
def RfIn (wb : World) (x y : List Nat × Nat) (n : Nat) (s v : Value) (wr : World) : Prop := ∃ i : Nat, i ≤ n ∧ v = .int .i64 i ∧ s = .string (strN (candL x y i)) ∧ wb.grownBy wr none
def RfByte (wb : World) (x y : List Nat × Nat) (i : Nat) (v : Value) (wr : World) : Prop := ∃ j : Nat, j ≤ 12 ∧ v = .int .i64 j ∧ (∀ k, k < j → (decide (sgn.getD k 0 ∈ setAtL x i) && decide (sgn.getD k 0 ∈ setAtL y i)) = false) ∧ wb.grownBy wr none
theorem sgn_cell {w : World} {t : TypeId} {m : Nat × Nat} {j : Nat} (hj : j < 12) : (w.alloc (.cells #[.int .u8 35, .int .u8 42, .int .u8 48, .int .u8 49, .int .u8 50, .int .u8 51, .int .u8 52, .int .u8 53, .int .u8 54, .int .u8 55, .int .u8 56, .int .u8 57] t m)).cell? ⟨w.heap.size, j, none⟩ = some (.int .u8 (sgn.getD j 0 : Nat)) := by
  rw [cell_of_row _ w.heap.size j _ t m (heap_alloc_new w _)]
  rcases (by omega : j = 0 ∨ j = 1 ∨ j = 2 ∨ j = 3 ∨ j = 4 ∨ j = 5 ∨ j = 6 ∨ j = 7 ∨ j = 8 ∨ j = 9 ∨ j = 10 ∨ j = 11) with rfl | rfl | rfl | rfl | rfl | rfl | rfl | rfl | rfl | rfl | rfl | rfl <;> rfl

set_option maxRecDepth 100000 in
set_option maxHeartbeats 8000000 in
theorem sharedOf_any (p q : ByteArray) (x y : List Nat × Nat) (w : World) (hp : patX (nb p) = some x) (hq : patX (nb q) = some y) :
    Calls Tryd.prog 12 #[.string p, .string q] w (RetV (.tuple #[.string (strN (refL x y).1), .bool (refL x y).2]) w) := by
  have HPX := Lib.hid hp; have HQY := Lib.hid hq; clear hp hq
  have hap := strN_append
  have kc := fun (w : World) (C : Array Value) (n c : Nat) => Lib.run_convert_bytes_const (P := Tryd.prog) w 104 5 C n c Tryd.underlying104 Tryd.underlying5
  go_enter Tryd.func12, Tryd.ntmps12
  go_wp2_with fail
  refine (shape_ok p _ _ HPX.out).mono ?_
  rintro e w1 ⟨v1, rfl, ⟨A, n1, c, rfl, hst, hn1⟩, hg1⟩
  have HG1 := Lib.hid hg1
  have HXB := Lib.hid (Blk.new w1 100 #[.slice A n1 c, .int .u8 x.2])
  have HXS := Lib.hid (show Strs w1 0 A n1 c x.1 from Reads.lower hst (Nat.zero_le _))
  clear hst hg1
  go_wp2_with fail
  refine (shape_ok q _ _ HQY.out).mono ?_
  rintro e w2 ⟨v2, rfl, ⟨A', n2, c', rfl, hst2, hn2⟩, hg2⟩
  have HG2 := Lib.hid (gr_none (gr_alloc HG1.out _) hg2)
  have HXB2 := Lib.hid ((HXB.out.grown hg2 (by simp)).alloc (.cells #[.slice A' n2 c', .int .u8 y.2] 100))
  have HXS2 := Lib.hid (((HXS.out.grown (gr_none (gr_alloc (gr_refl w1 none) _) hg2) (fun g e => by cases e))).grown (gr_alloc (gr_refl w2 none) (.cells #[.slice A' n2 c', .int .u8 y.2] 100)) (fun g e => by cases e))
  have HYB := Lib.hid (Blk.new w2 100 #[.slice A' n2 c', .int .u8 y.2])
  have HYS := Lib.hid ((show Strs w2 0 A' n2 c' y.1 from Reads.lower hst2 (Nat.zero_le _)).grown (gr_alloc (gr_refl w2 none) (.cells #[.slice A' n2 c', .int .u8 y.2] 100)) (fun g e => by cases e))
  have HG3 := Lib.hid (gr_alloc HG2.out (.cells #[.slice A' n2 c', .int .u8 y.2] 100))
  clear hst2 hg2 HXB HXS HG2 HG1
  go_wp2_with fail
  generalize w2.alloc (.cells #[.slice A' n2 c', .int .u8 y.2] 100) = wb at *
  go_loopw [10, 11, 12, 14, 30, 36] (fun v _ _ _ _ _ wr => RfLoop wb x y v wr) (fun v _ _ _ _ _ _ => 31 - (intOf v).toNat)
  case atStart => exact ⟨1, 30, rfl, by omega, by omega, rfl, rfl, gr_refl _ _⟩
  case round =>
    obtain ⟨n, f, rfl, hn, hn31, rfl, hrf, hg⟩ := hrel
    have HRF := Lib.hid hrf; have HG := Lib.hid hg
    clear hrf hg
    by_cases hn30 : n ≤ 30
    · have d30 : decide ((n : Int) ≤ 30) = true := decide_eq_true (by omega)
      obtain ⟨wo, rfl⟩ : ∃ wo : World, wo = wr := ⟨_, rfl⟩
      go_wp2_with fail
      go_loopw [11, 12, 14, 30, 36] (fun s _ _ v _ wr => RfIn wb x y n s v wr) (fun _ _ _ v _ _ => n - (intOf v).toNat)
      case atStart => exact ⟨0, Nat.zero_le _, rfl, rfl, HG.out⟩
      case round =>
        obtain ⟨i, hi, rfl, rfl, hg⟩ := hrel
        have HGI := Lib.hid hg; clear hg
        have hcl := (candL_len x y i).1
        by_cases hin : i < n
        · have dl : decide ((i : Int) < (n : Int)) = true := decide_eq_true (by omega)
          have dl' : decide (i < n) = true := decide_eq_true hin
          have hss : (strN (candL x y i)).size ≤ 30 := by rw [strN_size]; omega
          obtain ⟨wi, rfl⟩ : ∃ wi : World, wi = wr := ⟨_, rfl⟩
          go_wp2_with fail
          have HC := Lib.hid (fun (j : Nat) (hj : j < 12) => sgn_cell (w := wi) (t := 5) (m := (12, 13)) hj)
          have HGA := Lib.hid (gr_alloc HGI.out (.cells #[.int .u8 35, .int .u8 42, .int .u8 48, .int .u8 49, .int .u8 50, .int .u8 51, .int .u8 52, .int .u8 53, .int .u8 54, .int .u8 55, .int .u8 56, .int .u8 57] 5 (12, 13)))
          have zi : wi.heap.size < (wi.alloc (.cells #[.int .u8 35, .int .u8 42, .int .u8 48, .int .u8 49, .int .u8 50, .int .u8 51, .int .u8 52, .int .u8 53, .int .u8 54, .int .u8 55, .int .u8 56, .int .u8 57] 5 (12, 13))).heap.size := by simp
          generalize wi.alloc (.cells #[.int .u8 35, .int .u8 42, .int .u8 48, .int .u8 49, .int .u8 50, .int .u8 51, .int .u8 52, .int .u8 53, .int .u8 54, .int .u8 55, .int .u8 56, .int .u8 57] 5 (12, 13)) = wa at *
          go_loopw [11, 14, 36] (fun s _ v wr => s = .string (strN (candL x y i)) ∧ RfByte wa x y i v wr) (fun _ _ v _ => 12 - (intOf v).toNat)
          case atStart => exact ⟨rfl, 0, by omega, rfl, fun k hk => by omega, gr_refl _ _⟩
          case round =>
            obtain ⟨rfl, j, hj, rfl, hno, hgj⟩ := hrel
            have HNO := Lib.hid hno; have HGJ := Lib.hid hgj
            have HGB := Lib.hid (gr_none HGA.out hgj)
            clear hno
            by_cases hjl : j < 12
            · have hcj := (World.cell?_of_block (hgj.block wi.heap.size zi (by simp))).trans (HC.out j hjl)
              have hmem : sgn.getD j 0 ∈ sgn := by
                rw [List.getD_eq_getElem?_getD, List.getElem?_eq_getElem (by simp [sgn]; omega)]; exact List.getElem_mem _
              obtain ⟨b, hb⟩ : ∃ b, sgn.getD j 0 = b := ⟨_, rfl⟩
              rw [hb] at hcj hmem
              have henc := enc_sgn b hmem
              have b256 := sgn_lt hmem
              have bz : (strN [b]).size ≤ 1 := by rw [strN_size]; simp
              have HBJ := Lib.hid hb
              have dj : decide ((j : Int) < 12) = true := decide_eq_true (by omega)
              obtain ⟨s1, hs1⟩ : ∃ s1, strN (setAtL x i) = s1 := ⟨_, rfl⟩
              obtain ⟨s2, hs2⟩ : ∃ s2, strN (setAtL y i) = s2 := ⟨_, rfl⟩
              have HS1 := Lib.hid hs1; have HS2 := Lib.hid hs2
              have HN1 := Lib.hid (show nb s1 = setAtL x i by rw [← hs1]; exact nb_setAt x i)
              have HN2 := Lib.hid (show nb s2 = setAtL y i by rw [← hs2]; exact nb_setAt y i)
              obtain ⟨z1, hz1⟩ : ∃ z1, idxL (setAtL x i) b = z1 := ⟨_, rfl⟩
              obtain ⟨z2, hz2⟩ : ∃ z2, idxL (setAtL y i) b = z2 := ⟨_, rfl⟩
              have HZ1 := Lib.hid hz1; have HZ2 := Lib.hid hz2
              have m1 := idx_mem (l := setAtL x i) (c := b)
              have m2 := idx_mem (l := setAtL y i) (c := b)
              rw [hz1] at m1
              rw [hz2] at m2
              clear hgj hb hs1 hs2 hz1 hz2 hmem
              by_cases hz1 : z1 < 0
              · have HNX := Lib.hid (show ∀ k, k < j + 1 → (decide (sgn.getD k 0 ∈ setAtL x i) && decide (sgn.getD k 0 ∈ setAtL y i)) = false by
                  intro k hk
                  rcases Nat.lt_succ_iff_lt_or_eq.1 hk with h1 | h1
                  · exact HNO.out k h1
                  · subst h1; rw [HBJ.out, decide_eq_false (m1.2.1 hz1)]; rfl)
                have dz : decide (0 ≤ z1) = false := decide_eq_false (by omega)
                clear m1 m2
                go_wp2_with (first
                  | (refine wpl_load_all Tryd.shpT rfl _ rfl _ rfl _ _ (HXB2.out.grown HGB.out (by simp)) rfl ?_)
                  | (refine wpl_load_all Tryd.shpT rfl _ rfl _ rfl _ _ ((HYB.out.grown HGB.out (by simp)).grown HG4.out (by simp)) rfl ?_)
                  | (go_at_call 62
                     ((with_reducible refine (setAt_any A n1 c i x _ (HXS2.out.grown HGB.out (fun g e => by cases e)) (by omega) hn1).mono ?_)
                      rintro e w4 ⟨rfl, hg4⟩
                      rw [HS1.out]
                      have cY := ((HYB.out.grown HGB.out (by simp)).grown hg4 (by simp)).cell
                      have HG4 := Lib.hid hg4; clear hg4))
                  | (go_at_call 62
                     ((with_reducible refine (setAt_any A' n2 c' i y _ ((HYS.out.grown HGB.out (fun g e => by cases e)).grown HG4.out (fun g e => by cases e)) (by omega) hn2).mono ?_)
                      rintro e w5 ⟨rfl, hg5⟩
                      rw [HS2.out]
                      have HG5 := Lib.hid hg5; clear hg5))
                  | (go_at_call 61; ((with_reducible refine (indexByteN s1 b _ b256).mono ?_); rintro e w' ⟨rfl, rfl⟩; rw [HN1.out, HZ1.out]))
                  | (go_at_call 61; ((with_reducible refine (indexByteN s2 b _ b256).mono ?_); rintro e w' ⟨rfl, rfl⟩; rw [HN2.out, HZ2.out]))
                  | fail)
                go_roundw
                case rel => exact ⟨rfl, j + 1, by omega, by go_num, HNX.out, gr_none HGJ.out HG4.out⟩
                case measure => simp [intOf]; omega
              · have dz : decide (0 ≤ z1) = true := decide_eq_true (by omega)
                by_cases hz2 : z2 < 0
                · have HNX := Lib.hid (show ∀ k, k < j + 1 → (decide (sgn.getD k 0 ∈ setAtL x i) && decide (sgn.getD k 0 ∈ setAtL y i)) = false by
                    intro k hk
                    rcases Nat.lt_succ_iff_lt_or_eq.1 hk with h1 | h1
                    · exact HNO.out k h1
                    · subst h1; rw [HBJ.out, decide_eq_false (m2.2.1 hz2)]; simp)
                  have dz2 : decide (0 ≤ z2) = false := decide_eq_false (by omega)
                  clear m1 m2
                  go_wp2_with (first
                    | (refine wpl_load_all Tryd.shpT rfl _ rfl _ rfl _ _ (HXB2.out.grown HGB.out (by simp)) rfl ?_)
                    | (refine wpl_load_all Tryd.shpT rfl _ rfl _ rfl _ _ ((HYB.out.grown HGB.out (by simp)).grown HG4.out (by simp)) rfl ?_)
                    | (go_at_call 62
                       ((with_reducible refine (setAt_any A n1 c i x _ (HXS2.out.grown HGB.out (fun g e => by cases e)) (by omega) hn1).mono ?_)
                        rintro e w4 ⟨rfl, hg4⟩
                        rw [HS1.out]
                        have cY := ((HYB.out.grown HGB.out (by simp)).grown hg4 (by simp)).cell
                        have HG4 := Lib.hid hg4; clear hg4))
                    | (go_at_call 62
                       ((with_reducible refine (setAt_any A' n2 c' i y _ ((HYS.out.grown HGB.out (fun g e => by cases e)).grown HG4.out (fun g e => by cases e)) (by omega) hn2).mono ?_)
                        rintro e w5 ⟨rfl, hg5⟩
                        rw [HS2.out]
                        have HG5 := Lib.hid hg5; clear hg5))
                    | (go_at_call 61; ((with_reducible refine (indexByteN s1 b _ b256).mono ?_); rintro e w' ⟨rfl, rfl⟩; rw [HN1.out, HZ1.out]))
                    | (go_at_call 61; ((with_reducible refine (indexByteN s2 b _ b256).mono ?_); rintro e w' ⟨rfl, rfl⟩; rw [HN2.out, HZ2.out]))
                    | fail)
                  go_roundw
                  case rel => exact ⟨rfl, j + 1, by omega, by go_num, HNX.out, gr_none (gr_none HGJ.out HG4.out) HG5.out⟩
                  case measure => simp [intOf]; omega
                · have dz2 : decide (0 ≤ z2) = true := decide_eq_true (by omega)
                  have HCA := Lib.hid (show candL x y (i + 1) = candL x y i ++ [b] by
                    rw [candL]
                    unfold candAt
                    rw [find_at (j := j) (by simp [sgn]; omega) HNO.out (by rw [HBJ.out, decide_eq_true (m1.1.1 (by omega)), decide_eq_true (m2.1.1 (by omega))]; rfl), HBJ.out]
                    rfl)
                  clear m1 m2
                  go_wp2_with (first
                    | (refine wpl_load_all Tryd.shpT rfl _ rfl _ rfl _ _ (HXB2.out.grown HGB.out (by simp)) rfl ?_)
                    | (refine wpl_load_all Tryd.shpT rfl _ rfl _ rfl _ _ ((HYB.out.grown HGB.out (by simp)).grown HG4.out (by simp)) rfl ?_)
                    | (go_at_call 62
                       ((with_reducible refine (setAt_any A n1 c i x _ (HXS2.out.grown HGB.out (fun g e => by cases e)) (by omega) hn1).mono ?_)
                        rintro e w4 ⟨rfl, hg4⟩
                        rw [HS1.out]
                        have cY := ((HYB.out.grown HGB.out (by simp)).grown hg4 (by simp)).cell
                        have HG4 := Lib.hid hg4; clear hg4))
                    | (go_at_call 62
                       ((with_reducible refine (setAt_any A' n2 c' i y _ ((HYS.out.grown HGB.out (fun g e => by cases e)).grown HG4.out (fun g e => by cases e)) (by omega) hn2).mono ?_)
                        rintro e w5 ⟨rfl, hg5⟩
                        rw [HS2.out]
                        have HG5 := Lib.hid hg5; clear hg5))
                    | (go_at_call 61; ((with_reducible refine (indexByteN s1 b _ b256).mono ?_); rintro e w' ⟨rfl, rfl⟩; rw [HN1.out, HZ1.out]))
                    | (go_at_call 61; ((with_reducible refine (indexByteN s2 b _ b256).mono ?_); rintro e w' ⟨rfl, rfl⟩; rw [HN2.out, HZ2.out]))
                    | fail)
                  go_roundw
                  case rel => exact ⟨i + 1, by omega, by go_num, by rw [HCA.out], gr_none (gr_none HGB.out HG4.out) HG5.out⟩
                  case measure => simp [intOf]; omega
            · obtain rfl : j = 12 := by omega
              have HCA := Lib.hid (show candL x y (i + 1) = candL x y i by
                rw [candL]
                unfold candAt
                rw [find_no (fun k hk => HNO.out k (by simpa [sgn] using hk))]
                simp)
              clear hgj
              go_wp2_with fail
              go_roundw
              case rel => exact ⟨i + 1, by omega, by go_num, by rw [HCA.out], HGB.out⟩
              case measure => simp [intOf]; omega
        · obtain rfl : i = n := by omega
          obtain ⟨f, hf⟩ : ∃ f, 31 - i = f + 1 := ⟨30 - i, by omega⟩
          have HF := Lib.hid hf
          have HR2 := Lib.hid (show (if decide ((candL x y i).length = i) && matchL x (candL x y i) && matchL y (candL x y i) then (candL x y i, true) else refF x y f (i + 1)) = refL x y by rw [← HRF.out, hf, refF])
          obtain ⟨us, hus⟩ : ∃ us, strN (candL x y i) = us := ⟨_, rfl⟩
          have HUS := Lib.hid hus
          have HNU := Lib.hid (show nb us = candL x y i by rw [← hus]; exact nb_strN (candL_bd x y i))
          have husz : us.size ≤ 30 := by rw [← hus, strN_size]; omega
          have HUZ := Lib.hid (show us.size = (candL x y i).length by rw [← nb_len, HNU.out])
          rw [hus]
          have dl : decide ((i : Int) < (i : Int)) = false := decide_eq_false (by omega)
          clear hf hus
          obtain ⟨B1, hB1⟩ : ∃ B1, decide ((candL x y i).length = i) = B1 := ⟨_, rfl⟩
          have q1 : ((us.size : Int) == (i : Int)) = B1 := by rw [beq_nat, HUZ.out]; exact hB1
          have q1' : (us.size == i) = B1 := by rw [← hB1, HUZ.out]; rw [Bool.eq_iff_iff, beq_iff_eq, decide_eq_true_iff]
          obtain ⟨B2, hB2⟩ : ∃ B2, matchL x (candL x y i) = B2 := ⟨_, rfl⟩
          obtain ⟨B3, hB3⟩ : ∃ B3, matchL y (candL x y i) = B3 := ⟨_, rfl⟩
          have HM1 := Lib.hid (show matchL x (nb us) = B2 by rw [HNU.out, hB2])
          have HM2 := Lib.hid (show matchL y (nb us) = B3 by rw [HNU.out, hB3])
          have HR3 := Lib.hid (show (if B1 && B2 && B3 then (candL x y i, true) else refF x y f (i + 1)) = refL x y by rw [← HR2.out, hB1, hB2, hB3])
          clear hB1 hB2 hB3 HR2
          cases B1
          · have HR4 := Lib.hid (show refF x y f (i + 1) = refL x y by rw [← HR3.out]; rfl)
            go_wp2_with fail
            go_roundw
            case rel => exact ⟨i + 1, f, by go_num, by omega, by omega, by have := HF.out; omega, HR4.out, HGI.out⟩
            case measure => simp [intOf]; omega
          · cases B2
            · have HR4 := Lib.hid (show refF x y f (i + 1) = refL x y by rw [← HR3.out]; rfl)
              go_wp2_with (first
                | (go_at_call 52
                   ((with_reducible refine (matchesOf_any p us x _ HPX.out (by omega)).mono ?_)
                    rintro e w6 ⟨rfl, hg6⟩
                    rw [HM1.out]
                    have HG6 := Lib.hid hg6; clear hg6 HM1))
                | (go_at_call 52
                   ((with_reducible refine (matchesOf_any q us y _ HQY.out (by omega)).mono ?_)
                    rintro e w7 ⟨rfl, hg7⟩
                    rw [HM2.out]
                    have HG7 := Lib.hid hg7; clear hg7 HM2))
                | fail)
              go_roundw
              case rel => exact ⟨i + 1, f, by go_num, by omega, by omega, by have := HF.out; omega, HR4.out, gr_none HGI.out HG6.out⟩
              case measure => simp [intOf]; omega
            · cases B3
              · have HR4 := Lib.hid (show refF x y f (i + 1) = refL x y by rw [← HR3.out]; rfl)
                go_wp2_with (first
                  | (go_at_call 52
                     ((with_reducible refine (matchesOf_any p us x _ HPX.out (by omega)).mono ?_)
                      rintro e w6 ⟨rfl, hg6⟩
                      rw [HM1.out]
                      have HG6 := Lib.hid hg6; clear hg6 HM1))
                  | (go_at_call 52
                     ((with_reducible refine (matchesOf_any q us y _ HQY.out (by omega)).mono ?_)
                      rintro e w7 ⟨rfl, hg7⟩
                      rw [HM2.out]
                      have HG7 := Lib.hid hg7; clear hg7 HM2))
                  | fail)
                go_roundw
                case rel => exact ⟨i + 1, f, by go_num, by omega, by omega, by have := HF.out; omega, HR4.out, gr_none (gr_none HGI.out HG6.out) HG7.out⟩
                case measure => simp [intOf]; omega
              · go_wp2_with (first
                  | (go_at_call 52
                     ((with_reducible refine (matchesOf_any p us x _ HPX.out (by omega)).mono ?_)
                      rintro e w6 ⟨rfl, hg6⟩
                      rw [HM1.out]
                      have HG6 := Lib.hid hg6; clear hg6 HM1))
                  | (go_at_call 52
                     ((with_reducible refine (matchesOf_any q us y _ HQY.out (by omega)).mono ?_)
                      rintro e w7 ⟨rfl, hg7⟩
                      rw [HM2.out]
                      have HG7 := Lib.hid hg7; clear hg7 HM2))
                  | fail)
                go_ret2
                exact ⟨by rw [← HR3.out, ← HUS.out]; rfl, gr_none HG3.out (gr_none (gr_none HGI.out HG6.out) HG7.out)⟩
    · obtain rfl : n = 31 := by omega
      go_wp2_with fail
      go_ret2
      exact ⟨by rw [← HRF.out]; rfl, gr_none HG3.out HG.out⟩
end Go.Proofs.YtkkpioinccoinaaDoor

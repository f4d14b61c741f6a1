/- Contract of readSet. Conditions: none. -/
import Derived.Test.YtpildcnoghojpaaGreatDoorBun2
namespace Go.Proofs.YtpildcnoghojpaaGreatDoor
open Go.RowKit

set_option maxRecDepth 100000 in
set_option maxHeartbeats 8000000 in
theorem readSet_any (s : ByteArray) (w : World) (hs : s.size ≤ 60) :
    Calls Tryz.prog 93 #[.string s] w (RetV (.tuple #[.int .u16 (rsL (nb s)).1, .int .i64 (rsL (nb s)).2]) w) := by
  by_cases hm : 93 ∈ nb s
  · obtain ⟨bd, hbd⟩ : ∃ bd, (nb s).takeWhile (· != 93) = bd := ⟨_, rfl⟩
    obtain ⟨e, he⟩ : ∃ e, bd.length = e := ⟨_, rfl⟩
    have HI := Lib.hid (show idxL (nb s) 93 = (e : Int) by unfold idxL; rw [if_pos hm, hbd, he])
    have HR := Lib.hid (show rsL (nb s) = rsOf (setM bd) e by unfold rsL; rw [if_pos hm, hbd, he])
    have hlt : e < s.size := by rw [← he, ← hbd, ← nb_len]; exact takeWhile_len hm
    have HG := Lib.hid (show ∀ i, i < e → bd.getD i 0 = (nb s).getD i 0 by intro i hi; rw [← hbd]; exact take_get (by rw [hbd, he]; exact hi))
    have HT := Lib.hid (show nb (s.extract 0 e) = bd by rw [nb_extract, List.drop_zero, ← he, ← hbd, take_body])
    have HE := Lib.hid he
    clear hbd he hm
    go_enter Tryz.func93, Tryz.ntmps93
    go_wp2_with (first
      | (go_at_call 94; refine (indexByteN s 93 _ (by omega)).mono ?_; rintro e w' ⟨rfl, rfl⟩; rw [HI.out])
      | fail)
    go_loop [5, 6, 7, 8] (fun v5 v6 _ _ => ∃ i m f : Nat, i ≤ e ∧ e - i ≤ f ∧ m < 4096 ∧ v5 = .int .u16 m ∧ v6 = .int .i64 i ∧ psF bd f i m = psL bd) (fun _ v6 _ _ => 61 - (intOf v6).toNat)
    case atStart => exact ⟨0, 0, e, by omega, by omega, by omega, rfl, rfl, by unfold psL; rw [HE.out]⟩
    case round =>
      obtain ⟨i, m, f, i0, hf, hm, rfl, rfl, hps⟩ := hrel
      have HP := Lib.hid hps; clear hps
      by_cases hie : i < e
      · obtain ⟨f, rfl⟩ : ∃ f', f = f' + 1 := ⟨f - 1, by omega⟩
        have hi : i < s.size := by omega
        obtain ⟨c, hc⟩ : ∃ c, s[i].toNat = c := ⟨_, rfl⟩
        have c256 : c < 256 := by rw [← hc]; exact UInt8.toNat_lt _
        have HC := Lib.hid (show bd.getD i 0 = c by rw [HG.out i hie, ← nb_get hi, hc])
        by_cases hd : c < 48 ∨ 57 < c
        · have HB := Lib.hid (show setM bd = none by
            unfold setM
            rw [← HP.out, psF_bad (by rw [HE.out]; exact hie) (by rw [HC.out]; exact hd)])
          rcases hd with hd | hd
          · have d1 : decide ((c : Int) < 48) = true := decide_eq_true (by omega)
            go_wp2_with fail
            go_ret2
            exact ⟨by rw [HR.out, HB.out]; rfl, gr_refl _ _⟩
          · have d1 : decide ((c : Int) < 48) = false := decide_eq_false (by omega)
            have d2 : decide ((57 : Int) < (c : Int)) = true := decide_eq_true (by omega)
            go_wp2_with fail
            go_ret2
            exact ⟨by rw [HR.out, HB.out]; rfl, gr_refl _ _⟩
        · have c48 : 48 ≤ c := by omega
          have c57 : c ≤ 57 := by omega
          have d1 : decide ((c : Int) < 48) = false := decide_eq_false (by omega)
          have d2 : decide ((57 : Int) < (c : Int)) = false := decide_eq_false (by omega)
          clear hd
          by_cases h2 : i + 2 < e
          · have hi1 : i + 1 < s.size := by omega
            have hi2 : i + 2 < s.size := by omega
            obtain ⟨x, hx⟩ : ∃ x, s[i + 1].toNat = x := ⟨_, rfl⟩
            obtain ⟨d, hd⟩ : ∃ d, s[i + 2].toNat = d := ⟨_, rfl⟩
            have HX := Lib.hid (show bd.getD (i + 1) 0 = x by rw [HG.out _ (by omega), ← nb_get hi1, hx])
            have HD := Lib.hid (show bd.getD (i + 2) 0 = d by rw [HG.out _ (by omega), ← nb_get hi2, hd])
            have x256 : x < 256 := by rw [← hx]; exact UInt8.toNat_lt _
            have d256 : d < 256 := by rw [← hd]; exact UInt8.toNat_lt _
            have d3 : decide ((i : Int) + 2 < (e : Int)) = true := decide_eq_true (by omega)
            by_cases hx45 : x = 45
            · have d4 : ((x : Int) == 45) = true := by rw [beq_iff_eq]; omega
              have d4' : (x == 45) = true := by rw [beq_iff_eq]; omega
              by_cases hcd : c < d
              · by_cases hd57 : d ≤ 57
                · have d5 : decide ((d : Int) ≤ 57) = true := decide_eq_true (by omega)
                  have HPN := Lib.hid (show psF bd f (i + 3) (m ||| fromM c d) = psL bd by rw [← psF_range (by rw [HE.out]; exact h2) HC.out c48 c57 (by rw [HX.out, hx45]) HD.out hcd hd57]; exact HP.out)
                  have hfb := fromM_bd c48 (Nat.le_of_lt hcd) hd57
                  have hob := Nat.or_lt_two_pow (n := 12) hm hfb.2
                  have HOR := Lib.hid (u16_or m (fromM c d) (by omega) (by omega))
                  clear hfb hx45
                  go_wp2_with (first
                    | (go_at_call 92; refine (from_any c d _ (by omega) (by omega) (by omega)).mono ?_; rintro e w' ⟨rfl, rfl⟩)
                    | fail)
                  go_round
                  case rel => exact ⟨i + 3, m ||| fromM c d, f, by omega, by omega, hob, by rw [HOR.out], by go_num, HPN.out⟩
                  case measure => simp [intOf]; omega
                · have d5 : decide ((d : Int) ≤ 57) = false := decide_eq_false (by omega)
                  have HPN := Lib.hid (show psF bd f (i + 1) (m ||| fromM c c) = psL bd by
                    rw [← psF_one (by rw [HE.out]; exact hie) HC.out c48 c57 (by rw [HE.out]; first | omega | (rw [HX.out]; omega) | (rw [HD.out]; omega) | fail)]; exact HP.out)
                  have hfb := fromM_bd c48 (Nat.le_refl _) c57
                  have hob := Nat.or_lt_two_pow (n := 12) hm hfb.2
                  have HOR := Lib.hid (u16_or m (fromM c c) (by omega) (by omega))
                  clear hfb
                  go_wp2_with (first
                    | (go_at_call 92; refine (from_any c c _ (by omega) (by omega) (by omega)).mono ?_; rintro e w' ⟨rfl, rfl⟩)
                    | fail)
                  go_round
                  case rel => exact ⟨i + 1, m ||| fromM c c, f, by omega, by omega, hob, by rw [HOR.out], by go_num, HPN.out⟩
                  case measure => simp [intOf]; omega
              · have HPN := Lib.hid (show psF bd f (i + 1) (m ||| fromM c c) = psL bd by
                  rw [← psF_one (by rw [HE.out]; exact hie) HC.out c48 c57 (by rw [HE.out]; first | omega | (rw [HX.out]; omega) | (rw [HD.out]; omega) | fail)]; exact HP.out)
                have hfb := fromM_bd c48 (Nat.le_refl _) c57
                have hob := Nat.or_lt_two_pow (n := 12) hm hfb.2
                have HOR := Lib.hid (u16_or m (fromM c c) (by omega) (by omega))
                clear hfb
                go_wp2_with (first
                  | (go_at_call 92; refine (from_any c c _ (by omega) (by omega) (by omega)).mono ?_; rintro e w' ⟨rfl, rfl⟩)
                  | fail)
                go_round
                case rel => exact ⟨i + 1, m ||| fromM c c, f, by omega, by omega, hob, by rw [HOR.out], by go_num, HPN.out⟩
                case measure => simp [intOf]; omega
            · have d4 : ((x : Int) == 45) = false := by rw [beq_eq_false_iff_ne]; omega
              have d4' : (x == 45) = false := by rw [beq_eq_false_iff_ne]; omega
              have HPN := Lib.hid (show psF bd f (i + 1) (m ||| fromM c c) = psL bd by
                rw [← psF_one (by rw [HE.out]; exact hie) HC.out c48 c57 (by rw [HE.out]; first | omega | (rw [HX.out]; omega) | (rw [HD.out]; omega) | fail)]; exact HP.out)
              have hfb := fromM_bd c48 (Nat.le_refl _) c57
              have hob := Nat.or_lt_two_pow (n := 12) hm hfb.2
              have HOR := Lib.hid (u16_or m (fromM c c) (by omega) (by omega))
              clear hfb
              go_wp2_with (first
                | (go_at_call 92; refine (from_any c c _ (by omega) (by omega) (by omega)).mono ?_; rintro e w' ⟨rfl, rfl⟩)
                | fail)
              go_round
              case rel => exact ⟨i + 1, m ||| fromM c c, f, by omega, by omega, hob, by rw [HOR.out], by go_num, HPN.out⟩
              case measure => simp [intOf]; omega
          · have d3 : decide ((i : Int) + 2 < (e : Int)) = false := decide_eq_false (by omega)
            have HPN := Lib.hid (show psF bd f (i + 1) (m ||| fromM c c) = psL bd by
              rw [← psF_one (by rw [HE.out]; exact hie) HC.out c48 c57 (by rw [HE.out]; first | omega | (rw [HX.out]; omega) | (rw [HD.out]; omega) | fail)]; exact HP.out)
            have hfb := fromM_bd c48 (Nat.le_refl _) c57
            have hob := Nat.or_lt_two_pow (n := 12) hm hfb.2
            have HOR := Lib.hid (u16_or m (fromM c c) (by omega) (by omega))
            clear hfb
            go_wp2_with (first
              | (go_at_call 92; refine (from_any c c _ (by omega) (by omega) (by omega)).mono ?_; rintro e w' ⟨rfl, rfl⟩)
              | fail)
            go_round
            case rel => exact ⟨i + 1, m ||| fromM c c, f, by omega, by omega, hob, by rw [HOR.out], by go_num, HPN.out⟩
            case measure => simp [intOf]; omega
      · obtain rfl : i = e := by omega
        have HPS := Lib.hid (show psL bd = some m by rw [← HP.out, psF_end (by rw [HE.out]; omega)])
        have HSM := Lib.hid (show setM bd = if goodM m && digL m == bd then some m else none by unfold setM; rw [HPS.out])
        have hi : i < s.size := hlt
        obtain ⟨B, hB⟩ : ∃ B, (goodM m && digL m == bd) = !B := ⟨!(goodM m && digL m == bd), by simp⟩
        have HB := Lib.hid hB; clear hB
        go_upto_region 16 with (fail)
        go_cut [90] (fun v wx => v = .bool B ∧ w.grownBy wx none)
        case first =>
          obtain ⟨n, hn⟩ : ∃ n, cntM m = n := ⟨_, rfl⟩
          have HN := Lib.hid hn
          have HGM := Lib.hid (show goodM m = (decide (2 ≤ n) && m != fromM 48 57 && m != fromM 49 57 && m != fromM 50 57) by unfold goodM; rw [hn])
          obtain ⟨f1, hf1⟩ : ∃ f1, fromM 48 57 = f1 := ⟨_, rfl⟩
          obtain ⟨f2, hf2⟩ : ∃ f2, fromM 49 57 = f2 := ⟨_, rfl⟩
          obtain ⟨f3, hf3⟩ : ∃ f3, fromM 50 57 = f3 := ⟨_, rfl⟩
          have HF1 := Lib.hid hf1; have HF2 := Lib.hid hf2; have HF3 := Lib.hid hf3
          have HGM := Lib.hid (show goodM m = (decide (2 ≤ n) && m != f1 && m != f2 && m != f3) by rw [HGM.out, hf1, hf2, hf3])
          have hones : ∀ k, Calls Tryz.prog 115 #[.int .u16 m] (w.drewN k) (fun e w' => e = .returned (.int .i64 n) ∧ ∃ j, w' = (w.drewN k).drewN j) := fun k => by
            have h := ones_any m (w.drewN k) hm
            rw [hn] at h
            exact h
          have hfr1 : ∀ k, Calls Tryz.prog 92 #[.int .u8 48, .int .u8 57] (w.drewN k) (fun e w' => e = .returned (.int .u16 f1) ∧ w' = w.drewN k) := fun k => (from48 _).mono (fun _ _ h => by rw [hf1] at h; exact ⟨h.1, h.2.symm⟩)
          have hfr2 : ∀ k, Calls Tryz.prog 92 #[.int .u8 49, .int .u8 57] (w.drewN k) (fun e w' => e = .returned (.int .u16 f2) ∧ w' = w.drewN k) := fun k => (from49 _).mono (fun _ _ h => by rw [hf2] at h; exact ⟨h.1, h.2.symm⟩)
          have hfr3 : ∀ k, Calls Tryz.prog 92 #[.int .u8 50, .int .u8 57] (w.drewN k) (fun e w' => e = .returned (.int .u16 f3) ∧ w' = w.drewN k) := fun k => (from50 _).mono (fun _ _ h => by rw [hf3] at h; exact ⟨h.1, h.2.symm⟩)
          have HO1 := Lib.hid hones; have HR1 := Lib.hid hfr1; have HR2 := Lib.hid hfr2; have HR3 := Lib.hid hfr3
          clear hn hf1 hf2 hf3 hones hfr1 hfr2 hfr3
          by_cases h1 : n < 2
          · have q1 : decide ((n : Int) < 2) = true := decide_eq_true (by omega)
            have HQ := Lib.hid (bnot_true HB.out (by rw [HGM.out, decide_eq_false (show ¬ 2 ≤ n by omega)]; rfl))
            go_wp2_with fail
            go_quiet ((first
              | (go_at_call 115; exact Calls.quiet_of (HO1.out _))
              | (go_at_call 92; (with_reducible exact Calls.quiet_of_same (HR1.out _)))
              | (go_at_call 92; (with_reducible exact Calls.quiet_of_same (HR2.out _)))
              | (go_at_call 92; (with_reducible exact Calls.quiet_of_same (HR3.out _)))
              | fail))
            go_wp2_with fail
            go_meet
            exact ⟨by rw [HQ.out], gr_drewN (gr_refl _ _) _⟩
          · have q1 : decide ((n : Int) < 2) = false := decide_eq_false (by omega)
            by_cases h2 : m = f1
            · have q2 : ((m : Int) == (f1 : Int)) = true := by rw [beq_iff_eq]; omega
              have q2' : (m == f1) = true := by rw [beq_iff_eq]; omega
              have HQ := Lib.hid (bnot_true HB.out (by rw [HGM.out]; simp [h2]))
              clear h2
              go_wp2_with fail
              go_quiet ((first
                | (go_at_call 115; exact Calls.quiet_of (HO1.out _))
                | (go_at_call 92; (with_reducible exact Calls.quiet_of_same (HR1.out _)))
                | (go_at_call 92; (with_reducible exact Calls.quiet_of_same (HR2.out _)))
                | (go_at_call 92; (with_reducible exact Calls.quiet_of_same (HR3.out _)))
                | fail))
              go_wp2_with fail
              go_meet
              exact ⟨by rw [HQ.out], gr_drewN (gr_refl _ _) _⟩
            · have q2 : ((m : Int) == (f1 : Int)) = false := by rw [beq_eq_false_iff_ne]; omega
              have q2' : (m == f1) = false := by rw [beq_eq_false_iff_ne]; omega
              by_cases h3 : m = f2
              · have q3 : ((m : Int) == (f2 : Int)) = true := by rw [beq_iff_eq]; omega
                have q3' : (m == f2) = true := by rw [beq_iff_eq]; omega
                have HQ := Lib.hid (bnot_true HB.out (by rw [HGM.out]; simp [h3]))
                clear h3
                go_wp2_with fail
                go_quiet ((first
                  | (go_at_call 115; exact Calls.quiet_of (HO1.out _))
                  | (go_at_call 92; (with_reducible exact Calls.quiet_of_same (HR1.out _)))
                  | (go_at_call 92; (with_reducible exact Calls.quiet_of_same (HR2.out _)))
                  | (go_at_call 92; (with_reducible exact Calls.quiet_of_same (HR3.out _)))
                  | fail))
                go_wp2_with fail
                go_meet
                exact ⟨by rw [HQ.out], gr_drewN (gr_refl _ _) _⟩
              · have q3 : ((m : Int) == (f2 : Int)) = false := by rw [beq_eq_false_iff_ne]; omega
                have q3' : (m == f2) = false := by rw [beq_eq_false_iff_ne]; omega
                by_cases h4 : m = f3
                · have q4 : ((m : Int) == (f3 : Int)) = true := by rw [beq_iff_eq]; omega
                  have q4' : (m == f3) = true := by rw [beq_iff_eq]; omega
                  have HQ := Lib.hid (bnot_true HB.out (by rw [HGM.out]; simp [h4]))
                  clear h4
                  go_wp2_with fail
                  go_quiet ((first
                    | (go_at_call 115; exact Calls.quiet_of (HO1.out _))
                    | (go_at_call 92; (with_reducible exact Calls.quiet_of_same (HR1.out _)))
                    | (go_at_call 92; (with_reducible exact Calls.quiet_of_same (HR2.out _)))
                    | (go_at_call 92; (with_reducible exact Calls.quiet_of_same (HR3.out _)))
                    | fail))
                  go_wp2_with fail
                  go_meet
                  exact ⟨by rw [HQ.out], gr_drewN (gr_refl _ _) _⟩
                · have q4 : ((m : Int) == (f3 : Int)) = false := by rw [beq_eq_false_iff_ne]; omega
                  have q4' : (m == f3) = false := by rw [beq_eq_false_iff_ne]; omega
                  have q5 : ((strN (digL m)).toList == (s.extract 0 i).toList) = !B := by
                    rw [list_beq_nb, nb_digL, HT.out, ← HB.out, HGM.out]
                    have n2 : 2 ≤ n := by omega
                    simp [h2, h3, h4, n2]
                  clear h2 h3 h4
                  have j0 : (0 : Int) ≤ (i : Int) := by omega
                  have j1 : (i : Int) ≤ (s.size : Int) := by omega
                  have j2 : i ≤ s.size := by omega
                  go_wp2_with fail
                  go_region_held3 (fun w' => w.grownBy w' none)
                    ((repeat (first | (with_reducible exact HG5.out) | (with_reducible exact HG2.out) | (with_reducible refine gr_drew ?_) | (with_reducible exact gr_refl _ _))))
                    (first
                      | (go_at_call 115
                         have hS' : w.grownBy _ none := (by rename_i hS _ _; exact hS)
                         refine (ones_any m _ (by omega)).mono ?_
                         rintro e w2 ⟨rfl, k2, hk2⟩
                         have HG2 := Lib.hid (show w.grownBy w2 none by rw [hk2]; exact gr_drewN hS' _)
                         rw [HN.out]
                         clear hS' hk2)
                      | (go_at_call 92
                         ((with_reducible refine (from48 _).mono ?_)
                          rintro e w' ⟨rfl, rfl⟩
                          rw [HF1.out]))
                      | (go_at_call 92
                         ((with_reducible refine (from49 _).mono ?_)
                          rintro e w' ⟨rfl, rfl⟩
                          rw [HF2.out]))
                      | (go_at_call 92
                         ((with_reducible refine (from50 _).mono ?_)
                          rintro e w' ⟨rfl, rfl⟩
                          rw [HF3.out]))
                      | (go_at_call 116
                         refine (digits_any m _ hm).mono ?_
                         rintro e w5 ⟨rfl, hg5⟩
                         have HG5 := Lib.hid (gr_none HG2.out hg5)
                         clear hg5)
                      | fail)
                  go_wp2_with fail
                  go_meet
                  exact ⟨by first | (rw [q5]; cases B <;> rfl) | rfl | (simp [q5]) | fail, by first | exact HG5.out | exact HG2.out | fail⟩
        case rest =>
          obtain ⟨rfl, hgc⟩ := hcut
          have HGC := Lib.hid hgc; clear hgc
          cases B
          · go_wp2_with fail
            go_ret2
            exact ⟨by rw [HR.out, HSM.out, HB.out]; first | rfl | go_num | fail, HGC.out⟩
          · go_wp2_with fail
            go_ret2
            exact ⟨by rw [HR.out, HSM.out, HB.out]; first | rfl | go_num | fail, HGC.out⟩
  · have HI := Lib.hid (show idxL (nb s) 93 = -1 by unfold idxL; rw [if_neg hm])
    have HR := Lib.hid (show rsL (nb s) = (0, 0) by unfold rsL; rw [if_neg hm]; rfl)
    clear hm
    go_enter Tryz.func93, Tryz.ntmps93
    go_wp2_with (first
      | (go_at_call 94; refine (indexByteN s 93 _ (by omega)).mono ?_; rintro e w' ⟨rfl, rfl⟩; rw [HI.out])
      | fail)
    go_ret2
    exact ⟨by rw [HR.out]; rfl, gr_refl _ _⟩
end Go.Proofs.YtpildcnoghojpaaGreatDoor

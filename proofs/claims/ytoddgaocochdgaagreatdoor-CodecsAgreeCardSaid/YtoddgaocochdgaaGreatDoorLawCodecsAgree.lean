/- The law CodecsAgree: codecs are agreed on, written and read as specified. Conditions: the table of powers of ten and bytealg.MaxLen as laid. -/
import Derived.Test.YtoddgaocochdgaaGreatDoorBun1
import Derived.Test.YtoddgaocochdgaaGreatDoorCd7
import Derived.Test.YtoddgaocochdgaaGreatDoorBun3
import Derived.Test.YtoddgaocochdgaaGreatDoorBun2
import Derived.Test.YtoddgaocochdgaaGreatDoorTie
import Derived.Test.YtoddgaocochdgaaGreatDoorCards
import Derived.ChangeKeysEq
import Derived.ProofKit
import Derived.Lay
import Derived.OpenShut
import Derived.Stop.Joined
import Derived.SevenTiedAt
import Derived.LaidMore
import Derived.MakeChecks
import Derived.LaidHandle
import Derived.Lib.LaidTab
import Derived.Shelf.Vars
namespace Go.Proofs.YtoddgaocochdgaaGreatDoor
open Go.ChangeShapes Go.WideShapes Go.ChangeAt Go.RowKit

theorem soundedC_true (w : World) : Calls Tryz.prog 20 #[] w (Same (.bool true) w) := by
  go_enter Tryz.func20, Tryz.ntmps20
  go_wp2
  go_ret
  exact ⟨rfl, rfl⟩
theorem whenC_any (b : Bool) (e : Int) (w : World) : Calls Tryz.prog 15 #[.bool b, .int .i64 e] w (Same (.int .i64 (if b then e else 0)) w) := by
  cases b
  all_goals
    go_enter Tryz.func15, Tryz.ntmps15
    go_wp2_with fail
    go_ret
    exact ⟨rfl, rfl⟩
/-- What is read has three parts. -/
theorem RdC.ret {s : ByteArray} {w w' : World} {e : Ending} (h : RdC s w e w') : ∃ (B : Option Addr) (n c : Nat) (i E : Int), e = .returned (.tuple #[.slice B n c, .int .i64 i, .int .i64 E]) := by
  rcases h.2 with ⟨_, rfl⟩ | ⟨_, i, b, _, ⟨_, rfl⟩ | ⟨_, _, rfl⟩ | ⟨_, _, B, c, rfl, _⟩⟩
  · exact ⟨_, _, _, _, _, rfl⟩
  · exact ⟨_, _, _, _, _, rfl⟩
  · exact ⟨_, _, _, _, _, rfl⟩
  · exact ⟨_, _, _, _, _, rfl⟩
/-- What both ways read is the same, named part for part. -/
theorem RdC.same3 {s : ByteArray} {w1 w1' w2 w2' : World} {B1 B2 : Option Addr} {n1 c1 n2 c2 : Nat} {i1 E1 i2 E2 : Int}
    (h1 : RdC s w1 (.returned (.tuple #[.slice B1 n1 c1, .int .i64 i1, .int .i64 E1])) w1') (h2 : RdC s w2 (.returned (.tuple #[.slice B2 n2 c2, .int .i64 i2, .int .i64 E2])) w2') :
    n2 = n1 ∧ i2 = i1 ∧ E2 = E1 ∧ n1 ≤ 1000000 ∧ ∃ l, Recs CdV.row 3 w1' 0 B1 n1 c1 l ∧ Recs CdV.row 3 w2' 0 B2 n2 c2 l := by
  obtain ⟨i, E, n, l, A1, A2, d1, d2, e1, e2, hn, r1, r2⟩ := h1.same h2
  simp only [Ending.returned.injEq, Value.tuple.injEq, Array.mk.injEq, List.cons.injEq, Value.slice.injEq, Value.int.injEq, true_and, and_true] at e1 e2
  obtain ⟨⟨rfl, rfl, rfl⟩, rfl, rfl⟩ := e1
  obtain ⟨⟨rfl, rfl, rfl⟩, rfl, rfl⟩ := e2
  exact ⟨rfl, rfl, rfl, hn, l, r1, r2⟩
set_option maxRecDepth 100000 in
set_option maxHeartbeats 8000000 in
theorem walk_CodecsAgree (a0 : Option Addr) (len cap : Nat) (zs : List Int) (W : World) (h : IsRow .i64 W a0 len cap zs) (ht : PwT W ∧ MxT W) :
    Calls Tryz.prog 3 #[.slice a0 len cap] W (fun e w' => e = .returned (.bool true) ∧ Below W.heap.size W w') := by
  have hs := str_new h
  obtain ⟨sb, hsb⟩ : ∃ sb, W.heap.size = sb := ⟨_, rfl⟩
  have hp1 := ht.1.lt
  have hp2 := ht.2.lt
  have hg0 : W.grownBy (W.alloc (.cells #[.slice a0 len cap, .int .i64 0] 25)) (some sb) := gr_alloc (gr_refl _ _) _
  have HG := Lib.hid hg0
  rw [hsb] at hs hp1 hp2
  have HPW := Lib.hid (ht.1.low hg0 (fun g e => by injection e with e; rw [← e]; omega))
  have HMX := Lib.hid (ht.2.low hg0 (fun g e => by injection e with e; rw [← e]; omega))
  have hlt := hs.lt
  have HS := Lib.hid hs
  have HSB := Lib.hid hsb
  clear h hs hg0 ht
  go_enter Tryz.func3, Tryz.ntmps3
  go_wp2_with fail
  refine (codecs_any sb _ _ HS.out (by omega)).mono ?_
  rintro e w1 ⟨v1, rfl, ⟨aA, an, ac, la, rfl, hca, hla, han⟩, hs1, hg1⟩
  replace HS := Lib.hid hs1
  replace HG := Lib.hid (gr_same HG.out hg1)
  replace HPW := Lib.hid (HPW.out.low hg1 (fun g e => by injection e with e; rw [← e]; omega))
  replace HMX := Lib.hid (HMX.out.low hg1 (fun g e => by injection e with e; rw [← e]; omega))
  have z1 := hg1.size
  obtain ⟨lo1, hlo1⟩ : ∃ lo, (W.alloc (.cells #[.slice a0 len cap, .int .i64 0] 25)).heap.size = lo := ⟨_, rfl⟩
  rw [hlo1] at hca z1 hlt
  have HA := Lib.hid hca
  have HLA := Lib.hid hla
  clear hca hla hlo1 hs1 hg1
  go_wp2_with fail
  refine (codecs_any sb _ _ HS.out (by omega)).mono ?_
  rintro e w2 ⟨v2, rfl, ⟨bA, bn, bc, lb, rfl, hcb, hlb, hbn⟩, hs2, hg2⟩
  replace HS := Lib.hid hs2
  replace HG := Lib.hid (gr_same HG.out hg2)
  replace HPW := Lib.hid (HPW.out.low hg2 (fun g e => by injection e with e; rw [← e]; omega))
  replace HMX := Lib.hid (HMX.out.low hg2 (fun g e => by injection e with e; rw [← e]; omega))
  have z2 := hg2.size
  replace HA := Lib.hid (HA.out.grown hg2 (fun g e => by first | (cases e; done) | (injection e with e; omega)))
  obtain ⟨lo2, hlo2⟩ : ∃ lo, w1.heap.size = lo := ⟨_, rfl⟩
  rw [hlo2] at hcb z1 z2
  have HB := Lib.hid hcb
  clear hcb hlb hlo2 hs2 hg2
  go_wp2_with fail
  refine (offerTextG_any sb _ _ HS.out (by omega) HPW.out (by omega)).mono ?_
  rintro e w3 ⟨v3, rfl, ⟨t, rfl, htz⟩, hs3, hg3⟩
  replace HS := Lib.hid hs3
  replace HG := Lib.hid (gr_same HG.out hg3)
  replace HPW := Lib.hid (HPW.out.low hg3 (fun g e => by injection e with e; rw [← e]; omega))
  replace HMX := Lib.hid (HMX.out.low hg3 (fun g e => by injection e with e; rw [← e]; omega))
  have z3 := hg3.size
  replace HA := Lib.hid (HA.out.grown hg3 (fun g e => by first | (cases e; done) | (injection e with e; omega)))
  replace HB := Lib.hid (HB.out.grown hg3 (fun g e => by first | (cases e; done) | (injection e with e; omega)))
  clear hs3 hg3 HS z1 z2 z3
  obtain ⟨E1, hE1⟩ : ∃ E, cdE la = E := ⟨_, rfl⟩
  obtain ⟨E2, hE2⟩ : ∃ E, cdE lb = E := ⟨_, rfl⟩
  obtain ⟨AE, hAE⟩ : ∃ E, agE la lb = E := ⟨_, rfl⟩
  obtain ⟨T, hT⟩ : ∃ T, offT la an = T := ⟨_, rfl⟩
  have HE1 := Lib.hid hE1; have HE2 := Lib.hid hE2; have HT := Lib.hid hT
  have HAE := Lib.hid (show AE = if E1 = 0 then (if E2 = 0 then (if (agreeV la lb).length = 0 then 8 else 0) else E2) else E1 by rw [← hAE, ← hE1, ← hE2]; rfl)
  have HAX := Lib.hid hAE
  clear hE1 hE2 hT hAE
  go_wp2_with fail
  refine (agree_any lo1 lo2 aA an ac la bA bn bc lb _ HA.out HB.out (by omega) (by omega)).mono ?_
  rintro e w4 ⟨xA, xn, xc, X, rfl, hx, hx0, hx1, hg4, hxn⟩
  rw [HAX.out] at hx0 hx1 ⊢
  have HX1 := Lib.hid hx; have HX0 := Lib.hid hx0; have HXN := Lib.hid hx1
  replace HG := Lib.hid (gr_none HG.out hg4)
  replace HPW := Lib.hid (HPW.out.grown hg4)
  replace HMX := Lib.hid (HMX.out.grown hg4)
  replace HA := Lib.hid (HA.out.grown hg4 (fun g e => by cases e))
  replace HB := Lib.hid (HB.out.grown hg4 (fun g e => by cases e))
  clear hg4
  clear hx hx0 hx1 HAX
  go_wp2_with fail
  refine (offerText_any lo1 aA an ac la _ HA.out (by omega) HPW.out).mono ?_
  rintro e w5 ⟨rfl, hg5⟩
  rw [HE1.out, HT.out]
  replace HG := Lib.hid (gr_none HG.out hg5)
  replace HPW := Lib.hid (HPW.out.grown hg5)
  replace HMX := Lib.hid (HMX.out.grown hg5)
  replace HA := Lib.hid (HA.out.grown hg5 (fun g e => by cases e))
  replace HB := Lib.hid (HB.out.grown hg5 (fun g e => by cases e))
  replace HX1 := Lib.hid (HX1.out.grown hg5 (fun g e => by cases e))
  clear hg5
  go_wp2_with fail
  refine (codecsFault_any lo1 aA an ac la _ HA.out (by omega)).mono ?_
  rintro e w6 ⟨rfl, hg6⟩
  rw [HE1.out]
  replace HG := Lib.hid (gr_none HG.out hg6)
  replace HPW := Lib.hid (HPW.out.grown hg6)
  replace HMX := Lib.hid (HMX.out.grown hg6)
  replace HA := Lib.hid (HA.out.grown hg6 (fun g e => by cases e))
  replace HB := Lib.hid (HB.out.grown hg6 (fun g e => by cases e))
  replace HX1 := Lib.hid (HX1.out.grown hg6 (fun g e => by cases e))
  clear hg6
  go_wp2_with fail
  refine (codecsFault_any lo1 aA an ac la _ HA.out (by omega)).mono ?_
  rintro e w6 ⟨rfl, hg6⟩
  rw [HE1.out]
  replace HG := Lib.hid (gr_none HG.out hg6)
  replace HPW := Lib.hid (HPW.out.grown hg6)
  replace HMX := Lib.hid (HMX.out.grown hg6)
  replace HA := Lib.hid (HA.out.grown hg6 (fun g e => by cases e))
  replace HB := Lib.hid (HB.out.grown hg6 (fun g e => by cases e))
  replace HX1 := Lib.hid (HX1.out.grown hg6 (fun g e => by cases e))
  clear hg6
  go_wp2_with fail
  refine (codecsFault_any lo2 bA bn bc lb _ HB.out (by omega)).mono ?_
  rintro e w6 ⟨rfl, hg6⟩
  rw [HE2.out]
  replace HG := Lib.hid (gr_none HG.out hg6)
  replace HPW := Lib.hid (HPW.out.grown hg6)
  replace HMX := Lib.hid (HMX.out.grown hg6)
  replace HA := Lib.hid (HA.out.grown hg6 (fun g e => by cases e))
  replace HB := Lib.hid (HB.out.grown hg6 (fun g e => by cases e))
  replace HX1 := Lib.hid (HX1.out.grown hg6 (fun g e => by cases e))
  clear hg6
  obtain ⟨TW, hTW⟩ : ∃ x, firstE [E1, E2] = x := ⟨_, rfl⟩
  go_wp2_with fail
  refine (errs_new (n := 2) [E1, E2] _ rfl (by simp) rfl (by omega)).mono ?_
  rintro e w6 ⟨rfl, hg6⟩
  rw [hTW]
  replace HG := Lib.hid (gr_none HG.out hg6)
  replace HPW := Lib.hid (HPW.out.grown hg6)
  replace HMX := Lib.hid (HMX.out.grown hg6)
  replace HA := Lib.hid (HA.out.grown hg6 (fun g e => by cases e))
  replace HB := Lib.hid (HB.out.grown hg6 (fun g e => by cases e))
  replace HX1 := Lib.hid (HX1.out.grown hg6 (fun g e => by cases e))
  clear hg6
  go_wp2_with fail
  refine (checkCodecs_any lo1 aA an ac la _ HA.out (by omega)).mono ?_
  rintro e w6 ⟨rfl, hg6⟩
  rw [HE1.out]
  replace HG := Lib.hid (gr_none HG.out hg6)
  replace HPW := Lib.hid (HPW.out.grown hg6)
  replace HMX := Lib.hid (HMX.out.grown hg6)
  replace HA := Lib.hid (HA.out.grown hg6 (fun g e => by cases e))
  replace HB := Lib.hid (HB.out.grown hg6 (fun g e => by cases e))
  replace HX1 := Lib.hid (HX1.out.grown hg6 (fun g e => by cases e))
  clear hg6
  have d0 : (E1 != E1) = false := by simp
  have q0 : (E1 == E1) = true := by simp
  have qT : (T.toList == T.toList) = true := by simp
  by_cases h1 : E1 = 0
  · have HTT := Lib.hid (show cdTo la an = T by rw [← HT.out]; exact (if_pos (HE1.out.trans h1)).symm)
    have d1 : (E1 == 0) = true := by simpa using h1
    by_cases h2 : E2 = 0
    · have hw : TW = 0 := by rw [← hTW, h1, h2]; rfl
      have dw : (TW == 0) = true := by simpa using hw
      have hae := HAE.out
      rw [if_pos h1, if_pos h2] at hae
      have hag : X = agreeV la lb := by
        by_cases hl : (agreeV la lb).length = 0
        · rw [if_pos hl] at hae
          rw [HXN.out (by rw [hae]; decide), List.eq_nil_of_length_eq_zero hl]
        · rw [if_neg hl] at hae
          exact HX0.out hae
      have HAG := Lib.hid hag; have HAE2 := Lib.hid hae
      clear hTW hw hae hag h1 h2 HAE HX0 HXN
      go_wp2_with fail
      refine (agreeOf_any lo1 lo2 aA an ac la bA bn bc lb _ HA.out.1 HB.out.1 (by omega) (by omega)).mono ?_
      rintro e w7 ⟨yA, yn, yc, rfl, hy, hg7, hyn⟩
      rw [← HAG.out] at hy
      have HX2 := Lib.hid hy
      replace HG := Lib.hid (gr_none HG.out hg7)
      replace HPW := Lib.hid (HPW.out.grown hg7)
      replace HMX := Lib.hid (HMX.out.grown hg7)
      replace HA := Lib.hid (HA.out.grown hg7 (fun g e => by cases e))
      replace HB := Lib.hid (HB.out.grown hg7 (fun g e => by cases e))
      replace HX1 := Lib.hid (HX1.out.grown hg7 (fun g e => by cases e))
      clear hg7
      have hxn2 := HX1.out.len
      have hyn2 := HX2.out.len
      have HW := Lib.hid (show (if decide (yn = 0) then (8 : Int) else 0) = AE by rw [HAE2.out, ← HAG.out, hyn2]; by_cases h : yn = 0 <;> simp [h])
      have q3 : (AE == AE) = true := by simp
      obtain ⟨YB, hYB⟩ : ∃ b, ((yn : Int) == 0) = b := ⟨_, rfl⟩
      have HYB := Lib.hid (show (if YB then (8 : Int) else 0) = AE by rw [← HW.out, ← hYB]; by_cases h : yn = 0 <;> simp [h])
      clear hy
      go_wp2_with (first
        | (go_at_call 15; refine (whenC_any _ _ _).mono ?_; rintro e w' ⟨rfl, rfl⟩; rw [HYB.out])
        | fail)
      go_wp2_with fail
      refine (offerLines_any lo1 aA an ac la _ HA.out (by omega) (fun z hz => ⟨(HLA.out z hz).n, by have := (HLA.out z hz).1; omega⟩) HPW.out).mono ?_
      rintro e w8 ⟨rfl, hg8⟩
      rw [HTT.out]
      replace HG := Lib.hid (gr_none HG.out hg8)
      replace HPW := Lib.hid (HPW.out.grown hg8)
      replace HMX := Lib.hid (HMX.out.grown hg8)
      replace HA := Lib.hid (HA.out.grown hg8 (fun g e => by cases e))
      replace HB := Lib.hid (HB.out.grown hg8 (fun g e => by cases e))
      replace HX1 := Lib.hid (HX1.out.grown hg8 (fun g e => by cases e))
      replace HX2 := Lib.hid (HX2.out.grown hg8 (fun g e => by cases e))
      clear hg8
      clear HA HB
      go_wp2_with fail
      refine (readOffer_any t _ (by omega) HMX.out HPW.out).mono ?_
      rintro e wa hra
      obtain ⟨B1, n1, c1, i1, F1, rfl⟩ := hra.ret
      have hga := hra.1
      have HRA := Lib.hid hra
      replace HG := Lib.hid (gr_none HG.out hga)
      replace HPW := Lib.hid (HPW.out.grown hga)
      replace HMX := Lib.hid (HMX.out.grown hga)
      replace HX1 := Lib.hid (HX1.out.grown hga (fun g e => by cases e))
      replace HX2 := Lib.hid (HX2.out.grown hga (fun g e => by cases e))
      clear hga
      clear hra
      go_wp2_with fail
      refine (offerRead_any t _ (by omega) HMX.out HPW.out).mono ?_
      rintro e wb hrb
      obtain ⟨B2, n2, c2, i2, F2, rfl⟩ := hrb.ret
      have hgb := hrb.1
      obtain ⟨rfl, rfl, rfl, hn1, L, hR1, hR2⟩ := HRA.out.same3 hrb
      have HR1 := Lib.hid (hR1.grown hgb (fun g e => by cases e))
      have HR2 := Lib.hid hR2
      replace HG := Lib.hid (gr_none HG.out hgb)
      replace HPW := Lib.hid (HPW.out.grown hgb)
      replace HMX := Lib.hid (HMX.out.grown hgb)
      replace HX1 := Lib.hid (HX1.out.grown hgb (fun g e => by cases e))
      replace HX2 := Lib.hid (HX2.out.grown hgb (fun g e => by cases e))
      clear hgb
      clear hrb hR1 hR2 HRA HPW HMX
      have q1 : (F2 == F2) = true := by simp
      have q2 : (i2 == i2) = true := by simp
      go_wp2_with fail
      refine (equalCd_same 0 0 xA yA xn xc yn yc X _ HX1.out HX2.out (by omega)).mono ?_
      rintro e wc ⟨rfl, k1, rfl⟩
      go_wp2_with fail
      refine (equalCd_same _ _ B1 B2 _ c1 _ c2 _ _ (HR1.out.grown (gr_drewN (gr_refl _ none) k1) (fun g e => by cases e)) (HR2.out.grown (gr_drewN (gr_refl _ none) k1) (fun g e => by cases e)) (by omega)).mono ?_
      rintro e wd ⟨rfl, k2, rfl⟩
      have HGY := Lib.hid (gr_drewN HG.out (k1 + k2))
      go_wp2_with (first
        | (go_at_call 20; refine (soundedC_true _).mono ?_; rintro e wz ⟨rfl, rfl⟩)
        | fail)
      go_ret
      refine ⟨rfl, ?_⟩
      have hfin := HGY.out
      rw [← HSB.out] at hfin
      exact below_of_gr hfin
    · have hw : TW = E2 := by rw [← hTW, h1]; unfold firstE; simp [h2]
      have dw : (TW == 0) = false := by rw [hw]; simpa using h2
      have hae : AE = E2 := by have := HAE.out; rwa [if_pos h1, if_neg h2] at this
      have hX : X = [] := HXN.out (by rw [hae]; exact h2)
      subst hX
      obtain rfl : AE = TW := by rw [hae, hw]
      have q3 : (AE == AE) = true := by simp
      have HX2 := Lib.hid (show Recs CdV.row 3 _ 0 none 0 0 [] from (OwnR.nil (row := CdV.row) (k := 3) w6 0 0).recs)
      clear hTW hw hae HAE HX0 HXN h1 h2
      go_wp2_with fail
      refine (offerLines_any lo1 aA an ac la _ HA.out (by omega) (fun z hz => ⟨(HLA.out z hz).n, by have := (HLA.out z hz).1; omega⟩) HPW.out).mono ?_
      rintro e w8 ⟨rfl, hg8⟩
      rw [HTT.out]
      replace HG := Lib.hid (gr_none HG.out hg8)
      replace HPW := Lib.hid (HPW.out.grown hg8)
      replace HMX := Lib.hid (HMX.out.grown hg8)
      replace HA := Lib.hid (HA.out.grown hg8 (fun g e => by cases e))
      replace HB := Lib.hid (HB.out.grown hg8 (fun g e => by cases e))
      replace HX1 := Lib.hid (HX1.out.grown hg8 (fun g e => by cases e))
      replace HX2 := Lib.hid (HX2.out.grown hg8 (fun g e => by cases e))
      clear hg8
      clear HA HB
      go_wp2_with fail
      refine (readOffer_any t _ (by omega) HMX.out HPW.out).mono ?_
      rintro e wa hra
      obtain ⟨B1, n1, c1, i1, F1, rfl⟩ := hra.ret
      have hga := hra.1
      have HRA := Lib.hid hra
      replace HG := Lib.hid (gr_none HG.out hga)
      replace HPW := Lib.hid (HPW.out.grown hga)
      replace HMX := Lib.hid (HMX.out.grown hga)
      replace HX1 := Lib.hid (HX1.out.grown hga (fun g e => by cases e))
      replace HX2 := Lib.hid (HX2.out.grown hga (fun g e => by cases e))
      clear hga
      clear hra
      go_wp2_with fail
      refine (offerRead_any t _ (by omega) HMX.out HPW.out).mono ?_
      rintro e wb hrb
      obtain ⟨B2, n2, c2, i2, F2, rfl⟩ := hrb.ret
      have hgb := hrb.1
      obtain ⟨rfl, rfl, rfl, hn1, L, hR1, hR2⟩ := HRA.out.same3 hrb
      have HR1 := Lib.hid (hR1.grown hgb (fun g e => by cases e))
      have HR2 := Lib.hid hR2
      replace HG := Lib.hid (gr_none HG.out hgb)
      replace HPW := Lib.hid (HPW.out.grown hgb)
      replace HMX := Lib.hid (HMX.out.grown hgb)
      replace HX1 := Lib.hid (HX1.out.grown hgb (fun g e => by cases e))
      replace HX2 := Lib.hid (HX2.out.grown hgb (fun g e => by cases e))
      clear hgb
      clear hrb hR1 hR2 HRA HPW HMX
      have q1 : (F2 == F2) = true := by simp
      have q2 : (i2 == i2) = true := by simp
      go_wp2_with fail
      refine (equalCd_same 0 0 xA none xn xc 0 0 [] _ HX1.out HX2.out (by omega)).mono ?_
      rintro e wc ⟨rfl, k1, rfl⟩
      go_wp2_with fail
      refine (equalCd_same _ _ B1 B2 _ c1 _ c2 _ _ (HR1.out.grown (gr_drewN (gr_refl _ none) k1) (fun g e => by cases e)) (HR2.out.grown (gr_drewN (gr_refl _ none) k1) (fun g e => by cases e)) (by omega)).mono ?_
      rintro e wd ⟨rfl, k2, rfl⟩
      have HGY := Lib.hid (gr_drewN HG.out (k1 + k2))
      go_wp2_with (first
        | (go_at_call 20; refine (soundedC_true _).mono ?_; rintro e wz ⟨rfl, rfl⟩)
        | fail)
      go_ret
      refine ⟨rfl, ?_⟩
      have hfin := HGY.out
      rw [← HSB.out] at hfin
      exact below_of_gr hfin
  · have d1 : (E1 == 0) = false := by simpa using h1
    have hw : TW = E1 := by rw [← hTW]; unfold firstE; simp [h1]
    have dw : (TW == 0) = false := by rw [hw]; simpa using h1
    have hae : AE = E1 := by have := HAE.out; rwa [if_neg h1] at this
    have hX : X = [] := HXN.out (by rw [hae]; exact h1)
    subst hX
    obtain rfl : AE = TW := by rw [hae, hw]
    obtain rfl : (⟨#[]⟩ : ByteArray) = T := by rw [← HT.out]; exact (if_neg (fun q => h1 (HE1.out.symm.trans q))).symm
    have q3 : (AE == AE) = true := by simp
    have HX2 := Lib.hid (show Recs CdV.row 3 _ 0 none 0 0 [] from (OwnR.nil (row := CdV.row) (k := 3) w6 0 0).recs)
    clear hTW hw hae HAE HX0 HXN h1
    clear HA HB
    go_wp2_with fail
    refine (readOffer_any t _ (by omega) HMX.out HPW.out).mono ?_
    rintro e wa hra
    obtain ⟨B1, n1, c1, i1, F1, rfl⟩ := hra.ret
    have hga := hra.1
    have HRA := Lib.hid hra
    replace HG := Lib.hid (gr_none HG.out hga)
    replace HPW := Lib.hid (HPW.out.grown hga)
    replace HMX := Lib.hid (HMX.out.grown hga)
    replace HX1 := Lib.hid (HX1.out.grown hga (fun g e => by cases e))
    replace HX2 := Lib.hid (HX2.out.grown hga (fun g e => by cases e))
    clear hga
    clear hra
    go_wp2_with fail
    refine (offerRead_any t _ (by omega) HMX.out HPW.out).mono ?_
    rintro e wb hrb
    obtain ⟨B2, n2, c2, i2, F2, rfl⟩ := hrb.ret
    have hgb := hrb.1
    obtain ⟨rfl, rfl, rfl, hn1, L, hR1, hR2⟩ := HRA.out.same3 hrb
    have HR1 := Lib.hid (hR1.grown hgb (fun g e => by cases e))
    have HR2 := Lib.hid hR2
    replace HG := Lib.hid (gr_none HG.out hgb)
    replace HPW := Lib.hid (HPW.out.grown hgb)
    replace HMX := Lib.hid (HMX.out.grown hgb)
    replace HX1 := Lib.hid (HX1.out.grown hgb (fun g e => by cases e))
    replace HX2 := Lib.hid (HX2.out.grown hgb (fun g e => by cases e))
    clear hgb
    clear hrb hR1 hR2 HRA HPW HMX
    have q1 : (F2 == F2) = true := by simp
    have q2 : (i2 == i2) = true := by simp
    go_wp2_with fail
    refine (equalCd_same 0 0 xA none xn xc 0 0 [] _ HX1.out HX2.out (by omega)).mono ?_
    rintro e wc ⟨rfl, k1, rfl⟩
    go_wp2_with fail
    refine (equalCd_same _ _ B1 B2 _ c1 _ c2 _ _ (HR1.out.grown (gr_drewN (gr_refl _ none) k1) (fun g e => by cases e)) (HR2.out.grown (gr_drewN (gr_refl _ none) k1) (fun g e => by cases e)) (by omega)).mono ?_
    rintro e wd ⟨rfl, k2, rfl⟩
    have HGY := Lib.hid (gr_drewN HG.out (k1 + k2))
    go_wp2_with (first
      | (go_at_call 20; refine (soundedC_true _).mono ?_; rintro e wz ⟨rfl, rfl⟩)
      | fail)
    go_ret
    refine ⟨rfl, ?_⟩
    have hfin := HGY.out
    rw [← HSB.out] at hfin
    exact below_of_gr hfin
/-! The row's frame, the world's shape kept. -/
section
variable {H : Type} {enc : TypeId × Value → H}
theorem rih_shape {a : Assume} {C : Checked} {os : Os} {f : FuncId} {fn : Func} {s : ChangeSpec} {conds : List PathCond} {apart fresh handsOn again : Bool} {X : World → Array Value → Prop}
    (hX : ∀ (w w' : World) (args : Array Value), w.heap = w'.heap → X w args → X w' args)
    (own : ownKnob C.prog.godebug = none) (started : os.Started) (noInit : C.prog.inits.idxOf? f = none) (hfn : C.prog.funcs[f]? = some fn)
    (witness : ∃ (w : World) (tape : Tape) (i : Input), w.os = os ∧ (w.forCall tape i).Shaped C.prog ∧ i.vars = [] ∧ Input.okWide C.prog (w.forCall tape i) .any w.heap.size f i ∧
      ((s.pre enc C.prog fn conds apart (w.forCall tape i).memory i.args ∧ X (w.forCall tape i).memory i.args) ∧ sizedMet enc C.prog fn (OpenSpec.ofChange s) apart (w.forCall tape i).memory i.args) ∧ a.holds C.prog (lone (Frame.enter C.prog f i.args .normal) [] (w.forCall tape i)))
    (contract : ∀ (W : World) (base : Nat) (args : Array Value) (ds gs : List (DataW H)) (before : List MemPlace),
      (∀ (j : Nat) t v, fn.params[j]? = some t → args[j]? = some v → Value.okWide C.prog W .any base t v) →
      DataW.Whole enc C.prog fn.params.toList s.vars apart W args.toList ds gs before →
      X W args → W.ShapedOpen C.prog →
      Calls C.prog f args W fun e W' => ∃ v, e = .returned v ∧ s.post enc C.prog fn apart fresh handsOn again W args v W') :
    ReturnsInHanded a C os f .any (fun w args => (s.pre enc C.prog fn conds apart w args ∧ X w args) ∧ sizedMet enc C.prog fn (OpenSpec.ofChange s) apart w args) (s.post enc C.prog fn apart fresh handsOn again) := by
  refine returnsInHanded_of_calls own started noInit witness ?_
  intro w tape i _ hsh _ hok hpre _
  obtain ⟨_, _, _, fn', hfn', _, _, _, _, hval⟩ := hok
  obtain rfl : fn' = fn := Option.some.inj (hfn'.symm.trans hfn)
  obtain ⟨⟨⟨ds, gs, before, hw, _⟩, hx⟩, _⟩ := hpre
  refine (contract (w.forCall tape i) w.heap.size i.args ds gs before hval (DataW.Whole.of_heap (w' := w.forCall tape i) (by rfl) hw) (hX _ _ _ (by rfl) hx) hsh).mono fun e W' ⟨v, he, hp⟩ => ?_
  subst he
  exact ChangeSpec.post_blind hp
end
theorem gPw : Tryz.prog.globalNamed "internal/strconv.uint64pow10" = some 2 := by kernel_rfl
theorem tPw : (Tryz.prog.globals[2]?).map (·.type) = some 316 := by kernel_rfl
theorem laid_pw : (Rows.laid_internal_strconv_uint64pow10 : DataW Unit) = Lib.tabData .u64 Lib.pow10Tab := rfl
theorem met_CodecsAgree {W : World} (h : laidMetH Tryz.prog Rows.codecsAgreeRow.laid W) (hsh : W.ShapedOpen Tryz.prog) : PwT W ∧ MxT W := by
  refine ⟨?_, cell_of_shapedOpen_int (zero := #[.int .i64 0]) (t := 3) hsh (of_decide_eq_true (by kernel_rfl)) (by kernel_rfl) rfl (by kernel_rfl) (by kernel_rfl) Tryz.underlying3⟩
  rw [MakeChecks.laidMetH_plain _ _ _ (by kernel_rfl)] at h
  obtain ⟨ps, ⟨_, _, _, _, _, _, _, _, _, _, ⟨_, _, _, _, _, _, _, _, _, _, ⟨g0, t0, cs0, f0, p0, q0, hg0, ht0, hv0, hd0, _⟩, _⟩, _⟩, _, _⟩ := h
  obtain rfl := Option.some.inj (gPw.symm.trans hg0)
  obtain rfl := Option.some.inj (tPw.symm.trans ht0)
  rw [laid_pw] at hd0
  show W.var? _ _ = _
  rw [hv0, ← Lib.cells_of_tab Tryz.underlying316 Tryz.underlying257 (by kernel_rfl) (by kernel_rfl) hd0]

theorem own_CodecsAgree : ownKnob Tryz.prog.godebug = none := by kernel_rfl
theorem laidOut_CodecsAgree : laidOutB Tryz.prog = true := by kernel_rfl
set_option maxRecDepth 100000 in
theorem lifted_CodecsAgree (os : Os) (started : os.Started) (H : Type) (enc : TypeId × Value → H) :
    ReturnsInHanded {} Tryz.checked os 3 .any (fun w args => (Rows.codecsAgreeSpec.pre enc Tryz.prog Tryz.f3 [] false w args ∧ laidMetH Tryz.prog Rows.codecsAgreeRow.laid w) ∧ sizedMet enc Tryz.prog Tryz.f3 (OpenSpec.ofChange Rows.codecsAgreeSpec) false w args) (Rows.codecsAgreeSpec.post enc Tryz.prog Tryz.f3 false true false false) := by
  refine rih_shape (C := Tryz.checked) (X := fun w _ => laidMetH Tryz.prog Rows.codecsAgreeRow.laid w) (fun _ _ _ hh h => h.of_heap hh) own_CodecsAgree started (by kernel_rfl) Tryz.func3
    (ChangeSpec.witness_shaped (enc := enc) (C := Tryz.checked) (os := os) (X := fun w _ => laidMetH Tryz.prog Rows.codecsAgreeRow.laid w) false (World.laidAll Tryz.prog os Rows.codecsAgreeRow.laid) #[.slice none 0 0] 8 (World.laidAll_os _ _ _) (World.shaped_of_ZipB (by kernel_rfl) (by kernel_rfl)) (by kernel_rfl) (by kernel_rfl) (by kernel_rfl)
      (by rw [MakeChecks.laidMetH_plain _ _ _ (by kernel_rfl)]; exact laidMet_laidAll _ (by kernel_rfl) (by kernel_rfl))) ?_
  intro W base args ds gs before hval0 hW hL hsh
  have hval : ∀ (j : Nat) t v, Tryz.f3.params[j]? = some t → args[j]? = some v → Value.okWide Tryz.prog W .any base t v := hval0
  have hW' := hW
  obtain ⟨p, q, hA0, hV, rfl, hfz, hnd⟩ := hW
  have hA : DataW.TrodAll enc Tryz.prog W 0 (fun _ => true) true Tryz.f3.params.toList args.toList ds p := hA0
  rw [Tryz.params3] at hA hval
  obtain ⟨v0, vs0, d0, ds0, p0, q0, hargs, rfl, rfl, h0, r0⟩ := trodAll_cons hA
  obtain ⟨rfl, rfl, rfl⟩ := trodAll_nil r0
  obtain rfl : args = #[v0] := by cases args; simp_all
  obtain ⟨rfl, rfl⟩ := trodVars_none hV
  obtain ⟨a0, len0, cap0, rfl⟩ := okWide_slice Tryz.underlying22 (hval 0 22 v0 rfl rfl)
  have k0 := h0
  have lt0 : ∀ x ∈ p0, x.block < W.heap.size := by obtain ⟨m, hm⟩ := k0; exact DataW.trod_lt m _ _ _ hm
  obtain ⟨z0, w0⟩ : ∃ zs, IsRow .i64 W a0 len0 cap0 zs := by
    obtain ⟨fuel, hf⟩ := h0
    rcases open_ints Tryz.underlying22 Tryz.underlying3 (by kernel_rfl) hf with ⟨hcs, _⟩ | ⟨x, l, c, zs, hcs, _, hl, hm, hz, _, hcell, hwz⟩
    · simp [Value.cells] at hcs
      obtain ⟨rfl, rfl, rfl⟩ := hcs
      exact ⟨[], .inl ⟨rfl, rfl, rfl, rfl⟩⟩
    · simp [Value.cells] at hcs
      obtain ⟨rfl, rfl, rfl⟩ := hcs
      exact ⟨zs, .inr ⟨_, rfl, hl, hm, by simpa using hz, hcell, hwz⟩⟩
  clear hA0 hval0
  refine (walk_CodecsAgree a0 len0 cap0 z0 W w0 (met_CodecsAgree hL hsh)).mono fun e W' ⟨he, bel⟩ => ?_
  subst he
  exact ⟨_, rfl, _, _, _, [], _, [], hW', trodAll_mk1 (shut_bool Tryz.underlying4 _), (trodAll_cons_mk (Below.trod laidOut_CodecsAgree (by kernel_rfl) (of_decide_eq_true (by kernel_rfl)) k0 bel lt0) trodAll_mk0), rfl, bel.frame _, fun h => by cases h⟩

theorem over_CodecsAgree : Rows.codecsAgreeRow.holds Tryz.pinned (OpenSpec.ofChange Rows.codecsAgreeSpec) :=
  OpenClaim.holds_of_wide 3 Tryz.f3 rfl rfl rfl rfl rfl rfl rfl ⟨rfl, rfl, rfl, rfl, rfl⟩ rfl rfl rfl rfl rfl (by kernel_rfl) Tryz.func3 (by kernel_rfl)
    (of_decide_eq_true (by kernel_rfl)) (by unfold Func.isWrapper; first | (rw [if_pos (by decide +kernel)]; kernel_rfl) | (rw [if_neg (by decide +kernel)]; exact ⟨rfl, rfl⟩))
    (fun os started H enc _ => lifted_CodecsAgree os started H enc)

theorem proved_CodecsAgree : Rows.CodecsAgreeCardSaid :=
  Claim7.holds_tied_plain_at .later [] [.data, .data, .data, .data, .sentinel, .sentinel, .pinned] true Rows.codecsAgreeCard.stood.harness true
    over_CodecsAgree (fun _ h => by cases h) (by kernel_rfl) (fun _ h => by cases h) codecsAgree_row_tie rfl ⟨rfl, rfl⟩ (by kernel_rfl) rfl
    (fun f fn hf hfn => by
      obtain rfl : f = 3 := Option.some.inj ((show Tryz.prog.funcNamed Rows.codecsAgreeRow.func = some 3 by kernel_rfl).symm.trans hf) |>.symm
      obtain rfl : fn = Tryz.f3 := (Option.some.inj (Tryz.func3.symm.trans hfn)).symm
      exact ⟨by kernel_rfl, fun j t ht => by
        rw [Tryz.params3] at ht
        have h3 : t = 22 := by
          rcases j with _ | j
          · simpa using ht.symm
          · simp at ht
        subst h3
        exact (show Tryz.prog.wantsStandIn 22 = false by kernel_rfl)⟩)
    (by kernel_rfl)
end Go.Proofs.YtoddgaocochdgaaGreatDoor


/- The law QueuesServe: CheckSeats, Served, Lost and Waited are as specified for all callers and seats. Conditions: none beside the row's own. -/
import Derived.Test.YtofncndjcegpdaaGreatDoorBun1
import Derived.Test.YtofncndjcegpdaaGreatDoorSe7
import Derived.Test.YtofncndjcegpdaaGreatDoorTie
import Derived.Test.YtofncndjcegpdaaGreatDoorCards
import Derived.ChangeKeysEq
import Derived.ProofKit
import Derived.Lay
import Derived.OpenShut
import Derived.Stop.Joined
import Derived.SevenTiedAt
import Derived.LaidMore
import Derived.MakeChecks
import Derived.LaidHandle
namespace Go.Proofs.YtofncndjcegpdaaGreatDoor
open Go.ChangeShapes Go.WideShapes Go.ChangeAt Go.RowKit

theorem Tryz.eqFr (p q : Int) (w : World) : (Op.equalIn 10000 32 (.agg #[.int .i64 p, .int .i64 q]) (.agg #[.int .i64 p, .int .i64 q])).run Tryz.prog w = .ok true w := by
  have hpI : ∀ (cs : Array Value) (j : Nat) (v : Value) (w : World), cs[j]? = some v → (part 3 cs j).run Tryz.prog w = .ok v w := by
    intro cs j v w h
    simp [part, isAgg, run_underlying Tryz.underlying3, h]
  have hI : ∀ (z : Int) (w : World), (Op.equalIn 9999 3 (.int .i64 z) (.int .i64 z)).run Tryz.prog w = .ok true w := fun z w => by
    rw [run_equalIn_int w 9998 3 .i64 .i64 _ _ Tryz.underlying3]; simp
  rw [run_equalIn_struct w 9999 _ _ _ (by kernel_rfl) (by kernel_rfl)]
  simp [Program.fieldsOf, Tryz.underlying32, Op.eqFields, hpI, hI]
theorem part_both (a b : Nat) : ∃ (P Q : Int) (B : Bool), partV a b = frV P Q (if B then 0 else 8) ∧ partD a b = .tuple #[.agg #[.int .i64 P, .int .i64 Q], .bool B] := by
  unfold partV partD
  by_cases h : b = 0
  · rw [if_pos h, if_pos h]; exact ⟨0, 0, false, rfl, rfl⟩
  · rw [if_neg h, if_neg h]; exact ⟨_, _, true, rfl, rfl⟩
theorem wait_both (C : List CaV) (l : List SeV) : ∃ (P Q : Int) (B : Bool), waitV C l = frV P Q (if B then 0 else 8) ∧ waitD C l = .tuple #[.agg #[.int .i64 P, .int .i64 Q], .bool B] := by
  unfold waitV waitD
  by_cases h : waN l l.length = 0
  · rw [if_pos h, if_pos h]; exact ⟨0, 0, false, rfl, rfl⟩
  · rw [if_neg h, if_neg h]; exact ⟨_, _, true, rfl, rfl⟩
/-- An answer and the document's: alike if nothing is wrong; else the first error. -/
def Alike (one P Q E : Int) (D : Value) : Prop := (one = 0 → ∃ B : Bool, D = .tuple #[.agg #[.int .i64 P, .int .i64 Q], .bool B] ∧ E = if B then 0 else 8) ∧ (one ≠ 0 → P = 0 ∧ Q = 0 ∧ E = one)
theorem served_law (C : List CaV) (l : List SeV) (most short : Int) (WB SB : Bool) (hW : inB most 0 86400000 = !WB) (hS : inB short 0 86400000 = !SB) :
    ∃ P Q E, servedV C l most short = frV P Q E ∧ Alike (firstE [chkE C l, if WB then 1 else 0, if SB then 1 else 0]) P Q E (partD (soN (inTime most) C l (partL (inTime most) short C l)) (partL (inTime most) short C l).length) := by
  unfold servedV
  rw [hW, hS]
  obtain ⟨P, Q, B, h1, h2⟩ := part_both (soN (inTime most) C l (partL (inTime most) short C l)) (partL (inTime most) short C l).length
  rw [h1, h2]
  unfold Alike
  simp only [firstE_cons, firstE_nil]
  by_cases h : chkE C l = 0
  · rw [if_pos h, if_pos h]
    cases WB <;> cases SB
    · exact ⟨P, Q, _, rfl, fun _ => ⟨B, rfl, rfl⟩, fun e => absurd rfl e⟩
    · exact ⟨0, 0, 1, rfl, fun e => absurd e (by decide), fun _ => ⟨rfl, rfl, rfl⟩⟩
    · exact ⟨0, 0, 1, rfl, fun e => absurd e (by decide), fun _ => ⟨rfl, rfl, rfl⟩⟩
    · exact ⟨0, 0, 1, rfl, fun e => absurd e (by decide), fun _ => ⟨rfl, rfl, rfl⟩⟩
  · rw [if_neg h, if_neg h]
    exact ⟨0, 0, _, rfl, fun e => absurd e h, fun _ => ⟨rfl, rfl, rfl⟩⟩
theorem lost_law (C : List CaV) (l : List SeV) (short : Int) (SB : Bool) (hS : inB short 0 86400000 = !SB) :
    ∃ P Q E, lostV C l short = frV P Q E ∧ Alike (firstE [chkE C l, if SB then 1 else 0]) P Q E (partD (soN goneB C l (partL goneB short C l)) (partL goneB short C l).length) := by
  unfold lostV
  rw [hS]
  obtain ⟨P, Q, B, h1, h2⟩ := part_both (soN goneB C l (partL goneB short C l)) (partL goneB short C l).length
  rw [h1, h2]
  unfold Alike
  simp only [firstE_cons, firstE_nil]
  by_cases h : chkE C l = 0
  · rw [if_pos h, if_pos h]
    cases SB
    · exact ⟨P, Q, _, rfl, fun _ => ⟨B, rfl, rfl⟩, fun e => absurd rfl e⟩
    · exact ⟨0, 0, 1, rfl, fun e => absurd e (by decide), fun _ => ⟨rfl, rfl, rfl⟩⟩
  · rw [if_neg h, if_neg h]
    exact ⟨0, 0, _, rfl, fun e => absurd e h, fun _ => ⟨rfl, rfl, rfl⟩⟩
theorem waited_law (C : List CaV) (l : List SeV) : ∃ P Q E, waitedV C l = frV P Q E ∧ Alike (chkE C l) P Q E (waitD C l) := by
  unfold waitedV
  obtain ⟨P, Q, B, h1, h2⟩ := wait_both C l
  rw [h1, h2]
  unfold Alike
  by_cases h : chkE C l = 0
  · rw [if_pos h]; exact ⟨P, Q, _, rfl, fun _ => ⟨B, rfl, rfl⟩, fun e => absurd h e⟩
  · rw [if_neg h]; exact ⟨0, 0, _, rfl, fun e => absurd e h, fun _ => ⟨rfl, rfl, rfl⟩⟩
theorem firstE_all0 {a : Int} {l : List Int} (h : firstE (a :: l) = 0) : a = 0 := by
  rw [firstE_cons] at h
  by_cases c : a = 0
  · exact c
  · rw [if_neg c] at h; exact absurd h c
theorem in_not (x : Int) : inB x 0 86400000 = !(decide (x < 0) || decide (86400000 < x)) := by
  unfold inB
  by_cases h1 : x < 0 <;> by_cases h2 : 86400000 < x <;> simp [h1, h2] <;> omega
set_option maxRecDepth 100000 in
set_option maxHeartbeats 16000000 in
theorem walk_QueuesServe (a0 : Option Addr) (len cap : Nat) (zs : List Int) (W : World) (h : IsRow .i64 W a0 len cap zs) (_ht : True) :
    Calls Tryz.prog 3 #[.slice a0 len cap] W (fun e w' => e = .returned (.bool true) ∧ Below W.heap.size W w') := by
  have hs := str_new h
  obtain ⟨sb, hsb⟩ : ∃ sb, W.heap.size = sb := ⟨_, rfl⟩
  have HG := Lib.hid (show W.grownBy (W.alloc (.cells #[.slice a0 len cap, .int .i64 0] 25)) (some sb) from gr_alloc (gr_refl _ _) _)
  rw [hsb] at hs
  have hlt := hs.lt
  have HS := Lib.hid hs
  have HSB := Lib.hid hsb
  clear h hs
  go_enter Tryz.func3, Tryz.ntmps3
  go_wp2_with fail
  refine (callers_any sb _ 8 _ HS.out (by omega) (by omega) (by omega)).mono ?_
  rintro e w1 ⟨v1, rfl, ⟨cA, n, cc, C, rfl, hcas, hn⟩, hs1, hg1⟩
  have HC := Lib.hid (hcas.cas); have HS1 := Lib.hid hs1
  replace HG := Lib.hid (gr_same HG.out hg1)
  have z1 := hg1.size
  clear hcas hs1 hg1 HS
  go_wp2_with fail
  refine (pick_new sb _ [0, 5, 20, 1000, -1, 86400001] _ HS1.out (by omega) rfl rfl rfl (by simp) (by simp)).mono ?_
  rintro e w2 ⟨v2, rfl, ⟨most, hmost, rfl⟩, hs2, hg2⟩
  have HS2 := Lib.hid hs2
  replace HG := Lib.hid (gr_same HG.out hg2)
  replace HC := Lib.hid (HC.out.grown hg2 (fun g e => by injection e with e; omega))
  have z2 := hg2.size
  clear hs2 hg2 HS1 hmost
  go_wp2_with fail
  refine (pick_new sb _ [0, 0, 6, 21, -1] _ HS2.out (by omega) rfl rfl rfl (by simp) (by simp)).mono ?_
  rintro e w3 ⟨v3, rfl, ⟨short, hshort, rfl⟩, hs3, hg3⟩
  have HS3 := Lib.hid hs3
  replace HG := Lib.hid (gr_same HG.out hg3)
  replace HC := Lib.hid (HC.out.grown hg3 (fun g e => by injection e with e; omega))
  have z3 := hg3.size
  clear hs3 hg3 HS2 hshort
  have hn8 : n ≤ 8 := by simpa using hn
  obtain ⟨lo1, hlo1⟩ : ∃ lo, (W.alloc (.cells #[.slice a0 len cap, .int .i64 0] 25)).heap.size = lo := ⟨_, rfl⟩
  rw [hlo1] at HC hlt z1
  clear hlo1 hn
  go_wp2_with fail
  refine (seats_any sb lo1 _ cA n cc C _ HS3.out (by omega) HC.out hlt (by omega)).mono ?_
  rintro e w4 ⟨v4, rfl, ⟨sA, k, sc, l, rfl, hses, hk⟩, hs4, hg4⟩
  have HSE := Lib.hid hses
  replace HG := Lib.hid (gr_same HG.out hg4)
  replace HC := Lib.hid (HC.out.grown hg4 (fun g e => by injection e with e; omega))
  have z4 := hg4.size
  clear hses hs4 hg4 HS3
  obtain ⟨lo2, hlo2⟩ : ∃ lo, w3.heap.size = lo := ⟨_, rfl⟩
  rw [hlo2] at HSE z4
  have hl2 : sb < lo2 := by omega
  clear hlo2
  obtain ⟨F, hF⟩ : ∃ F, chkE C l = F := ⟨_, rfl⟩
  obtain ⟨S1, hS1⟩ : ∃ S, decide (short < 0) = S := ⟨_, rfl⟩
  obtain ⟨S2, hS2⟩ : ∃ S, decide (86400000 < short) = S := ⟨_, rfl⟩
  obtain ⟨M1, hM1⟩ : ∃ S, decide (most < 0) = S := ⟨_, rfl⟩
  obtain ⟨M2, hM2⟩ : ∃ S, decide (86400000 < most) = S := ⟨_, rfl⟩
  obtain ⟨P1, Q1, E1, hv1, hal1⟩ := served_law C l most short (M1 || M2) (S1 || S2) (by rw [in_not, hM1, hM2]) (by rw [in_not, hS1, hS2])
  obtain ⟨P2, Q2, E2, hv2, hal2⟩ := lost_law C l short (S1 || S2) (by rw [in_not, hS1, hS2])
  obtain ⟨P3, Q3, E3, hv3, hal3⟩ := waited_law C l
  rw [hF] at hal1 hal2 hal3
  obtain ⟨ONE, hONE⟩ : ∃ X, firstE [F, if (M1 || M2) = true then 1 else 0, if (S1 || S2) = true then 1 else 0] = X := ⟨_, rfl⟩
  obtain ⟨TWO, hTWO⟩ : ∃ X, firstE [F, if (S1 || S2) = true then 1 else 0] = X := ⟨_, rfl⟩
  rw [hONE] at hal1
  rw [hTWO] at hal2
  have HF := Lib.hid hF; have HO1 := Lib.hid hONE; have HO2 := Lib.hid hTWO
  have HAL1 := Lib.hid hal1; have HAL2 := Lib.hid hal2; have HAL3 := Lib.hid hal3
  have HV1 := Lib.hid hv1; have HV2 := Lib.hid hv2; have HV3 := Lib.hid hv3
  clear hF hONE hTWO hal1 hal2 hal3 hv1 hv2 hv3
  go_wp2_with fail
  refine (Served_any lo1 lo2 cA n cc C sA k sc l _ most short HC.out HSE.out (by omega) (by omega)).mono ?_
  rintro e w5 ⟨rfl, hg5⟩
  rw [HV1.out]
  unfold frV
  replace HG := Lib.hid (gr_none HG.out hg5)
  replace HC := Lib.hid (HC.out.grown hg5 (fun g e => by first | (cases e; done) | (injection e with e; omega)))
  replace HSE := Lib.hid (HSE.out.grown hg5 (fun g e => by first | (cases e; done) | (injection e with e; omega)))
  clear hg5
  obtain ⟨w5b, hw5b⟩ : ∃ v, w5.alloc (.cells #[.int .i64 P1, .int .i64 Q1] 32) = v := ⟨_, rfl⟩
  obtain ⟨b1, hb1⟩ : ∃ b, w5.heap.size = b := ⟨_, rfl⟩
  have HW5 := Lib.hid hw5b; have HZ5 := Lib.hid hb1
  have Yb1 := Lib.hid (show Blk w5b b1 32 #[.int .i64 P1, .int .i64 Q1] by rw [← hw5b, ← hb1]; exact Blk.new _ _ _)
  have hgb5 : w5.grownBy w5b none := by rw [← hw5b]; exact gr_alloc (gr_refl _ _) _
  have zz5 : w5b.heap.size = b1 + 1 := by rw [← hw5b, ← hb1]; simp
  replace HG := Lib.hid (gr_none HG.out hgb5)
  replace HC := Lib.hid (HC.out.grown hgb5 (fun g e => by first | (cases e; done) | (injection e with e; omega)))
  replace HSE := Lib.hid (HSE.out.grown hgb5 (fun g e => by first | (cases e; done) | (injection e with e; omega)))
  clear hw5b hb1 hgb5
  go_upto_region 5 with (fail)
  rw [HW5.out]
  (try rw [HZ5.out])
  clear HW5 HZ5
  go_wp2_with fail
  refine (Lost_any lo1 lo2 cA n cc C sA k sc l _ short HC.out HSE.out (by omega) (by omega)).mono ?_
  rintro e w6 ⟨rfl, hg6⟩
  rw [HV2.out]
  unfold frV
  have z6 := hg6.size
  replace HG := Lib.hid (gr_none HG.out hg6)
  replace HC := Lib.hid (HC.out.grown hg6 (fun g e => by first | (cases e; done) | (injection e with e; omega)))
  replace HSE := Lib.hid (HSE.out.grown hg6 (fun g e => by first | (cases e; done) | (injection e with e; omega)))
  replace Yb1 := Lib.hid (Yb1.out.grown hg6 (by simp))
  clear hg6
  obtain ⟨w6b, hw6b⟩ : ∃ v, w6.alloc (.cells #[.int .i64 P2, .int .i64 Q2] 32) = v := ⟨_, rfl⟩
  obtain ⟨b2, hb2⟩ : ∃ b, w6.heap.size = b := ⟨_, rfl⟩
  have HW6 := Lib.hid hw6b; have HZ6 := Lib.hid hb2
  have Yb2 := Lib.hid (show Blk w6b b2 32 #[.int .i64 P2, .int .i64 Q2] by rw [← hw6b, ← hb2]; exact Blk.new _ _ _)
  have hgb6 : w6.grownBy w6b none := by rw [← hw6b]; exact gr_alloc (gr_refl _ _) _
  have zz6 : w6b.heap.size = b2 + 1 := by rw [← hw6b, ← hb2]; simp
  replace HG := Lib.hid (gr_none HG.out hgb6)
  replace HC := Lib.hid (HC.out.grown hgb6 (fun g e => by first | (cases e; done) | (injection e with e; omega)))
  replace HSE := Lib.hid (HSE.out.grown hgb6 (fun g e => by first | (cases e; done) | (injection e with e; omega)))
  replace Yb1 := Lib.hid (Yb1.out.grown hgb6 (by simp))
  have n12 : b1 < b2 := by omega
  clear hw6b hb2 hgb6
  go_upto_region 6 with (fail)
  rw [HW6.out]
  (try rw [HZ6.out])
  clear HW6 HZ6
  go_wp2_with fail
  refine (Waited_any lo1 lo2 cA n cc C sA k sc l _ HC.out HSE.out (by omega) (by omega)).mono ?_
  rintro e w7 ⟨rfl, hg7⟩
  rw [HV3.out]
  unfold frV
  have z7 := hg7.size
  replace HG := Lib.hid (gr_none HG.out hg7)
  replace HC := Lib.hid (HC.out.grown hg7 (fun g e => by first | (cases e; done) | (injection e with e; omega)))
  replace HSE := Lib.hid (HSE.out.grown hg7 (fun g e => by first | (cases e; done) | (injection e with e; omega)))
  replace Yb1 := Lib.hid (Yb1.out.grown hg7 (by simp)); replace Yb2 := Lib.hid (Yb2.out.grown hg7 (by simp))
  clear hg7
  obtain ⟨w7b, hw7b⟩ : ∃ v, w7.alloc (.cells #[.int .i64 P3, .int .i64 Q3] 32) = v := ⟨_, rfl⟩
  obtain ⟨b3, hb3⟩ : ∃ b, w7.heap.size = b := ⟨_, rfl⟩
  have HW7 := Lib.hid hw7b; have HZ7 := Lib.hid hb3
  have Yb3 := Lib.hid (show Blk w7b b3 32 #[.int .i64 P3, .int .i64 Q3] by rw [← hw7b, ← hb3]; exact Blk.new _ _ _)
  have hgb7 : w7.grownBy w7b none := by rw [← hw7b]; exact gr_alloc (gr_refl _ _) _
  have zz7 : w7b.heap.size = b3 + 1 := by rw [← hw7b, ← hb3]; simp
  replace HG := Lib.hid (gr_none HG.out hgb7)
  replace HC := Lib.hid (HC.out.grown hgb7 (fun g e => by first | (cases e; done) | (injection e with e; omega)))
  replace HSE := Lib.hid (HSE.out.grown hgb7 (fun g e => by first | (cases e; done) | (injection e with e; omega)))
  replace Yb1 := Lib.hid (Yb1.out.grown hgb7 (by simp)); replace Yb2 := Lib.hid (Yb2.out.grown hgb7 (by simp))
  have n23 : b2 < b3 := by omega
  clear hw7b hb3 hgb7
  go_upto_region 7 with (fail)
  rw [HW7.out]
  (try rw [HZ7.out])
  clear HW7 HZ7
  obtain ⟨CE, hCE⟩ : ∃ E, casE C = E := ⟨_, rfl⟩
  have HCE := Lib.hid hCE
  clear hCE
  go_wp2_with fail
  refine (callersFault_any lo1 cA n cc C _ HC.out (by omega)).mono ?_
  rintro e w8 ⟨rfl, hg8⟩
  rw [HCE.out]
  replace HG := Lib.hid (gr_none HG.out hg8)
  replace HC := Lib.hid (HC.out.grown hg8 (fun g e => by first | (cases e; done) | (injection e with e; omega)))
  replace HSE := Lib.hid (HSE.out.grown hg8 (fun g e => by first | (cases e; done) | (injection e with e; omega)))
  replace Yb1 := Lib.hid (Yb1.out.grown hg8 (by simp)); replace Yb2 := Lib.hid (Yb2.out.grown hg8 (by simp)); replace Yb3 := Lib.hid (Yb3.out.grown hg8 (by simp))
  clear hg8
  go_upto_if 66 with (fail)
  obtain ⟨wv, rfl⟩ : ∃ wv : World, wv = w8 := ⟨_, rfl⟩
  go_cut [14] (fun v wx => v = .int .i64 F ∧ wv.grownBy wx none)
  case first =>
    by_cases c0 : CE = 0
    · have d0 : (CE == 0) = true := by simpa using c0
      have hce := HCE.out.trans c0
      have HFS := Lib.hid (show seatsE C l = F by rw [← HF.out]; unfold chkE; rw [if_pos hce])
      clear c0
      go_wp2_with fail
      refine (seatsFault_any lo1 lo2 cA n cc C sA k sc l _ HC.out HSE.out (by omega) (by omega) (fun x hx => caNum_n (casE_num hce x hx))).mono ?_
      rintro e w9 ⟨rfl, hg9⟩
      rw [HFS.out]
      go_wp2_with fail
      go_meet
      exact ⟨rfl, hg9⟩
    · have d0 : (CE == 0) = false := by simpa using c0
      have HFS := Lib.hid (show CE = F by rw [← HF.out]; unfold chkE; rw [if_neg (by rw [HCE.out]; exact c0)]; exact HCE.out.symm)
      clear c0
      go_wp2_with fail
      go_meet
      exact ⟨by rw [HFS.out], gr_refl _ _⟩
  case rest =>
    obtain ⟨rfl, hg10⟩ := hcut
    obtain ⟨w10, rfl⟩ : ∃ w10 : World, w10 = wc := ⟨_, rfl⟩
    replace HG := Lib.hid (gr_none HG.out hg10)
    replace HC := Lib.hid (HC.out.grown hg10 (fun g e => by first | (cases e; done) | (injection e with e; omega)))
    replace HSE := Lib.hid (HSE.out.grown hg10 (fun g e => by first | (cases e; done) | (injection e with e; omega)))
    replace Yb1 := Lib.hid (Yb1.out.grown hg10 (by simp)); replace Yb2 := Lib.hid (Yb2.out.grown hg10 (by simp)); replace Yb3 := Lib.hid (Yb3.out.grown hg10 (by simp))
    clear hg10
    have qF : (F != F) = false := by simp
    go_wp2_with fail
    refine (checkSeats_any lo1 lo2 cA n cc C sA k sc l _ HC.out HSE.out (by omega) (by omega)).mono ?_
    rintro e w11 ⟨rfl, hg11⟩
    rw [HF.out]
    replace HG := Lib.hid (gr_none HG.out hg11)
    replace HC := Lib.hid (HC.out.grown hg11 (fun g e => by first | (cases e; done) | (injection e with e; omega)))
    replace HSE := Lib.hid (HSE.out.grown hg11 (fun g e => by first | (cases e; done) | (injection e with e; omega)))
    replace Yb1 := Lib.hid (Yb1.out.grown hg11 (by simp)); replace Yb2 := Lib.hid (Yb2.out.grown hg11 (by simp)); replace Yb3 := Lib.hid (Yb3.out.grown hg11 (by simp))
    clear hg11
    go_upto_region 12 with (fail)
    clear qF
    obtain ⟨SE, hSE⟩ : ∃ X : Int, (if (S1 || S2) = true then 1 else 0) = X := ⟨_, rfl⟩
    have HSE0 := Lib.hid hSE
    rw [hSE] at HO1 HO2
    clear hSE
    obtain ⟨wv2, rfl⟩ : ∃ wv2 : World, wv2 = w11 := ⟨_, rfl⟩
    go_cut [15] (fun v wx => v = .int .i64 SE ∧ wx = wv2)
    case first =>
      cases S1 <;> cases S2
      all_goals
        go_wp2_with (first
          | (go_at_call 17; refine (when_any _ 1 _).mono ?_; rintro e w' ⟨rfl, rfl⟩)
          | fail)
        go_meet
        exact ⟨by rw [← HSE0.out]; rfl, rfl⟩
    case rest =>
      obtain ⟨rfl, rfl⟩ := hcut
      obtain ⟨wv3, rfl⟩ : ∃ wv3 : World, wv3 = wc := ⟨_, rfl⟩
      go_upto_region 13 with (fail)
      go_cut [16, 17, 18] (fun x y z wx => x = .int .i64 ONE ∧ y = .int .i64 TWO ∧ z = .int .i64 F ∧ wv3.grownBy wx none)
      case first =>
        cases M1 <;> cases M2
        · go_wp2_with (first
            | (go_at_call 17; refine (when_any _ 1 _).mono ?_; rintro e w' ⟨rfl, rfl⟩)
            | fail)
          refine (errs_new (n := 3) [F, 0, SE] _ rfl (by simp) rfl (by omega)).mono ?_
          rintro e w12 ⟨rfl, hg12⟩
          rw [show firstE [F, 0, SE] = ONE from HO1.out]
          go_wp2_with fail
          refine (errs_new (n := 2) [F, SE] _ rfl (by simp) rfl (by omega)).mono ?_
          rintro e w13 ⟨rfl, hg13⟩
          rw [HO2.out]
          go_wp2_with fail
          go_meet
          exact ⟨rfl, rfl, rfl, gr_none hg12 hg13⟩
        · go_wp2_with (first
            | (go_at_call 17; refine (when_any _ 1 _).mono ?_; rintro e w' ⟨rfl, rfl⟩)
            | fail)
          refine (errs_new (n := 3) [F, 1, SE] _ rfl (by simp) rfl (by omega)).mono ?_
          rintro e w12 ⟨rfl, hg12⟩
          rw [show firstE [F, 1, SE] = ONE from HO1.out]
          go_wp2_with fail
          refine (errs_new (n := 2) [F, SE] _ rfl (by simp) rfl (by omega)).mono ?_
          rintro e w13 ⟨rfl, hg13⟩
          rw [HO2.out]
          go_wp2_with fail
          go_meet
          exact ⟨rfl, rfl, rfl, gr_none hg12 hg13⟩
        · go_wp2_with (first
            | (go_at_call 17; refine (when_any _ 1 _).mono ?_; rintro e w' ⟨rfl, rfl⟩)
            | fail)
          refine (errs_new (n := 3) [F, 1, SE] _ rfl (by simp) rfl (by omega)).mono ?_
          rintro e w12 ⟨rfl, hg12⟩
          rw [show firstE [F, 1, SE] = ONE from HO1.out]
          go_wp2_with fail
          refine (errs_new (n := 2) [F, SE] _ rfl (by simp) rfl (by omega)).mono ?_
          rintro e w13 ⟨rfl, hg13⟩
          rw [HO2.out]
          go_wp2_with fail
          go_meet
          exact ⟨rfl, rfl, rfl, gr_none hg12 hg13⟩
        · go_wp2_with (first
            | (go_at_call 17; refine (when_any _ 1 _).mono ?_; rintro e w' ⟨rfl, rfl⟩)
            | fail)
          refine (errs_new (n := 3) [F, 1, SE] _ rfl (by simp) rfl (by omega)).mono ?_
          rintro e w12 ⟨rfl, hg12⟩
          rw [show firstE [F, 1, SE] = ONE from HO1.out]
          go_wp2_with fail
          refine (errs_new (n := 2) [F, SE] _ rfl (by simp) rfl (by omega)).mono ?_
          rintro e w13 ⟨rfl, hg13⟩
          rw [HO2.out]
          go_wp2_with fail
          go_meet
          exact ⟨rfl, rfl, rfl, gr_none hg12 hg13⟩
      case rest =>
        obtain ⟨rfl, rfl, rfl, hg13⟩ := hcut
        obtain ⟨wq, rfl⟩ : ∃ wq : World, wq = wc := ⟨_, rfl⟩
        replace HG := Lib.hid (gr_none HG.out hg13)
        replace HC := Lib.hid (HC.out.grown hg13 (fun g e => by first | (cases e; done) | (injection e with e; omega)))
        replace HSE := Lib.hid (HSE.out.grown hg13 (fun g e => by first | (cases e; done) | (injection e with e; omega)))
        replace Yb1 := Lib.hid (Yb1.out.grown hg13 (by simp)); replace Yb2 := Lib.hid (Yb2.out.grown hg13 (by simp)); replace Yb3 := Lib.hid (Yb3.out.grown hg13 (by simp))
        clear hg13 hS1 hS2 hM1 hM2
        obtain ⟨u1, hu1⟩ : ∃ u, wq.alloc (.cells #[.int .i64 0, .int .i64 0] 32) = u := ⟨_, rfl⟩
        obtain ⟨u2, hu2⟩ : ∃ u, u1.alloc (.cells #[.int .i64 0, .int .i64 0] 32) = u := ⟨_, rfl⟩
        obtain ⟨wcur, hu3⟩ : ∃ u, u2.alloc (.cells #[.int .i64 0, .int .i64 0] 32) = u := ⟨_, rfl⟩
        obtain ⟨b4, hb4⟩ : ∃ b, wq.heap.size = b := ⟨_, rfl⟩
        have hb5 : u1.heap.size = b4 + 1 := by rw [← hu1, ← hb4]; simp
        have hb6 : u2.heap.size = b4 + 2 := by rw [← hu2]; simp [hb5]
        obtain ⟨b5, hb55⟩ : ∃ b, b4 + 1 = b := ⟨_, rfl⟩
        obtain ⟨b6, hb66⟩ : ∃ b, b4 + 2 = b := ⟨_, rfl⟩
        have hlt3 := Yb3.out.lt
        rw [hb55] at hb5
        rw [hb66] at hb6
        have Yb4 := Lib.hid (show Blk wcur b4 32 #[.int .i64 0, .int .i64 0] by rw [← hu3, ← hu2, ← hu1, ← hb4]; exact ((Blk.new _ _ _).alloc _).alloc _)
        have Yb5 := Lib.hid (show Blk wcur b5 32 #[.int .i64 0, .int .i64 0] by rw [← hu3, ← hu2, ← hb5]; exact (Blk.new _ _ _).alloc _)
        have Yb6 := Lib.hid (show Blk wcur b6 32 #[.int .i64 0, .int .i64 0] by rw [← hu3, ← hb6]; exact Blk.new _ _ _)
        have hgq : wq.grownBy wcur none := by rw [← hu3, ← hu2, ← hu1]; exact gr_alloc (gr_alloc (gr_alloc (gr_refl _ _) _) _) _
        have HGQ := Lib.hid hgq
        replace Yb1 := Lib.hid (Yb1.out.grown hgq (by simp)); replace Yb2 := Lib.hid (Yb2.out.grown hgq (by simp)); replace Yb3 := Lib.hid (Yb3.out.grown hgq (by simp))
        have HU1 := Lib.hid hu1; have HU2 := Lib.hid hu2; have HU3 := Lib.hid hu3; have HB4 := Lib.hid hb4; have HB5 := Lib.hid hb5; have HB6 := Lib.hid hb6
        have HE5 := Lib.hid (show b4 + 1 = b5 from hb55); have HE6 := Lib.hid (show b5 + 1 = b6 by omega)
        have n34 : b3 < b4 := by omega
        have n45 : b4 < b5 := by omega
        have n56 : b5 < b6 := by omega
        have hq4 : wq.heap.size ≤ b4 := by omega
        clear hu1 hu2 hu3 hb4 hb5 hb6 hb55 hb66 hgq hlt3
        go_upto_region 15 with (fail)
        rw [HU1.out, HU2.out, HU3.out]
        (try rw [HB4.out])
        (try rw [HB5.out])
        (try rw [HB6.out])
        (try rw [HE5.out])
        (try rw [HE6.out])
        clear HU1 HU2 HU3 HB4 HB5 HB6
        go_upto_if 99 with (fail)
        obtain ⟨wv, rfl⟩ : ∃ wv : World, wv = wcur := ⟨_, rfl⟩
        go_cut [16, 22, 23] (fun v _ _ wx => v = .int .i64 E1 ∧ wv.grownBy wx (some b4) ∧ Blk wx b4 32 #[.int .i64 P1, .int .i64 Q1])
        case first =>
          by_cases hz : ONE = 0
          · obtain ⟨B, hD, hE⟩ := HAL1.out.1 hz
            have dz : (ONE == 0) = true := by simpa using hz
            have hF0 : F = 0 := firstE_all0 (HO1.out.trans hz)
            have hc0 := HF.out.trans hF0
            obtain ⟨h1, h2, h3, h4⟩ := chkE_num hc0
            obtain rfl : k = n := by rw [← HSE.out.1.len, ← HC.out.1.len]; exact h3
            clear hz hF0
            go_wp2_with fail
            refine (servedOf_any lo1 lo2 cA k cc C sA sc l _ most short (HC.out.grown HGQ.out (fun g e => by cases e)) (HSE.out.grown HGQ.out (fun g e => by cases e)) (by omega) (fun x hx => caNum_n (casE_num h1 x hx))).mono ?_
            rintro e wd ⟨rfl, hgd⟩
            rw [hD]
            have HE := Lib.hid hE
            have hbd := Yb4.out.lt
            clear hD hE dz
            obtain ⟨we, hwe⟩ : ∃ v, wd.alloc (.cells #[.int .i64 P1, .int .i64 Q1] 32) = v := ⟨_, rfl⟩
            obtain ⟨eb, heb⟩ : ∃ b, wd.heap.size = b := ⟨_, rfl⟩
            have HWE := Lib.hid hwe; have HEB := Lib.hid heb
            have YE := Lib.hid (show Blk we eb 32 #[.int .i64 P1, .int .i64 Q1] by rw [← hwe, ← heb]; exact Blk.new _ _ _)
            have hge : wv.grownBy we none := by rw [← hwe]; exact gr_alloc hgd _
            have hne : eb ≠ b4 := by have := hgd.size; omega
            have YB := Lib.hid (Yb4.out.grown hge (by simp))
            have HGE := Lib.hid hge
            clear hwe heb hgd hge
            go_upto_region 17 with (fail)
            rw [HWE.out]
            (try rw [HEB.out])
            clear HWE HEB
            refine H_begin (fun w' => we.grownBy w' (some b4)) (by kernel_rfl) ?_
            have hHeld : we.grownBy we.drew (some b4) := gr_drew (gr_refl _ _)
            refine H_take (k := 0) (v := .agg #[.int .i64 P1, .int .i64 Q1]) (by rfl) (by kernel_rfl) (by kernel_rfl) (by kernel_rfl) (by exact fun _ _ _ h => h) (by rfl) (fun w' hSw => exec_ldb Tryz.frT _ rfl _ rfl 32 [.int .i64 P1, .int .i64 Q1] (YE.out.grown hSw (by intro e; injection e with e; omega)) rfl) (by assumption) ?_
            (try simp only [Act.put, List.setIfInBounds_toArray, List.set_cons_zero, List.set_cons_succ])
            refine H_take (k := 1) (v := ?_) (by rfl) (by kernel_rfl) (by kernel_rfl) (by kernel_rfl) (by exact fun _ _ _ h => h) (by rfl) ?_ (by assumption) ?_
            rotate_left 1
            · intro w hSw
              (try dsimp only at hSw)
              go_simp
              (try with_reducible rfl)
            (try simp only [Act.put, List.setIfInBounds_toArray, List.set_cons_zero, List.set_cons_succ])
            refine H_take (k := 2) (v := ?_) (by rfl) (by kernel_rfl) (by kernel_rfl) (by kernel_rfl) (by exact fun _ _ _ h => h) (by rfl) ?_ (by assumption) ?_
            rotate_left 1
            · intro w hSw
              (try dsimp only at hSw)
              go_simp
              (try with_reducible rfl)
            (try simp only [Act.put, List.setIfInBounds_toArray, List.set_cons_zero, List.set_cons_succ])
            refine H_run (k := 3) (by rfl) (by kernel_rfl) (by rfl) (fun K hK => ?_)
            go_simp
            refine (when_any (!B) 8 _).mono ?_
            rintro e wf ⟨rfl, rfl⟩
            rw [show (if (!B) = true then (8 : Int) else 0) = E1 from by rw [HE.out]; cases B <;> rfl]
            refine hK _ _ hHeld ?_
            clear hK K
            (try simp only [Act.put, List.setIfInBounds_toArray, List.set_cons_zero, List.set_cons_succ])
            refine H_run (k := 4) (by rfl) (by kernel_rfl) (by rfl) (fun K hK => ?_)
            refine wp_store_all Tryz.frT _ _ (by rfl) b4 (by rfl) 32 _ #[.int .i64 P1, .int .i64 Q1] (by rfl) YB.out.drew rfl rfl (by simp [Value.oneCell']) ?_
            intro wg hwg
            have hgg : we.grownBy wg (some b4) := gr_same hHeld hwg.2.1
            have YG := Lib.hid hwg.1
            refine hK _ _ hgg ?_
            clear hK K hwg
            (try simp only [Act.put, List.setIfInBounds_toArray, List.set_cons_zero, List.set_cons_succ])
            refine H_take (k := 5) (v := ?_) (by rfl) (by kernel_rfl) (by kernel_rfl) (by kernel_rfl) (by exact fun _ _ _ h => h) (by rfl) ?_ (by assumption) ?_
            rotate_left 1
            · intro w hSw
              (try dsimp only at hSw)
              go_simp
              (try with_reducible rfl)
            (try simp only [Act.put, List.setIfInBounds_toArray, List.set_cons_zero, List.set_cons_succ])
            refine H_done (by kernel_rfl) ?_
            go_wp2_with fail
            go_meet
            exact ⟨rfl, gr_same (gr_trans (gr_refl _ _) HGE.out (fun g e => by cases e)) hgg, YG.out⟩
          · obtain ⟨rfl, rfl, hE⟩ := HAL1.out.2 hz
            have dz : (ONE == 0) = false := by simpa using hz
            have HE := Lib.hid hE
            clear hE hz
            go_wp2_with fail
            go_meet
            exact ⟨by rw [HE.out], gr_refl _ _, Yb4.out⟩
        case rest =>
          obtain ⟨rfl, hgx, hyx⟩ := hcut
          obtain ⟨wcur, rfl⟩ : ∃ wcur : World, wcur = wc := ⟨_, rfl⟩
          replace HGQ := Lib.hid (gr_trans HGQ.out hgx (fun g e => .inr (by injection e with e; omega)))
          replace Yb1 := Lib.hid (Yb1.out.grown hgx (by simp; omega)); replace Yb2 := Lib.hid (Yb2.out.grown hgx (by simp; omega)); replace Yb3 := Lib.hid (Yb3.out.grown hgx (by simp; omega)); replace Yb5 := Lib.hid (Yb5.out.grown hgx (by simp; omega)); replace Yb6 := Lib.hid (Yb6.out.grown hgx (by simp; omega))
          replace Yb4 := Lib.hid hyx
          clear hgx hyx
          go_upto_if 113 with (fail)
          obtain ⟨wv, rfl⟩ : ∃ wv : World, wv = wcur := ⟨_, rfl⟩
          go_cut [17, 24, 25] (fun v _ _ wx => v = .int .i64 E2 ∧ wv.grownBy wx (some b5) ∧ Blk wx b5 32 #[.int .i64 P2, .int .i64 Q2])
          case first =>
            by_cases hz : TWO = 0
            · obtain ⟨B, hD, hE⟩ := HAL2.out.1 hz
              have dz : (TWO == 0) = true := by simpa using hz
              have hF0 : F = 0 := firstE_all0 (HO2.out.trans hz)
              have hc0 := HF.out.trans hF0
              obtain ⟨h1, h2, h3, h4⟩ := chkE_num hc0
              obtain rfl : k = n := by rw [← HSE.out.1.len, ← HC.out.1.len]; exact h3
              clear hz hF0
              go_wp2_with fail
              refine (lostOf_any lo1 lo2 cA k cc C sA sc l _ short (HC.out.grown HGQ.out (fun g e => by cases e)) (HSE.out.grown HGQ.out (fun g e => by cases e)) (by omega) (fun x hx => caNum_n (casE_num h1 x hx))).mono ?_
              rintro e wd ⟨rfl, hgd⟩
              rw [hD]
              have HE := Lib.hid hE
              have hbd := Yb5.out.lt
              clear hD hE dz
              obtain ⟨we, hwe⟩ : ∃ v, wd.alloc (.cells #[.int .i64 P2, .int .i64 Q2] 32) = v := ⟨_, rfl⟩
              obtain ⟨eb, heb⟩ : ∃ b, wd.heap.size = b := ⟨_, rfl⟩
              have HWE := Lib.hid hwe; have HEB := Lib.hid heb
              have YE := Lib.hid (show Blk we eb 32 #[.int .i64 P2, .int .i64 Q2] by rw [← hwe, ← heb]; exact Blk.new _ _ _)
              have hge : wv.grownBy we none := by rw [← hwe]; exact gr_alloc hgd _
              have hne : eb ≠ b5 := by have := hgd.size; omega
              have YB := Lib.hid (Yb5.out.grown hge (by simp))
              have HGE := Lib.hid hge
              clear hwe heb hgd hge
              go_upto_region 20 with (fail)
              rw [HWE.out]
              (try rw [HEB.out])
              clear HWE HEB
              refine H_begin (fun w' => we.grownBy w' (some b5)) (by kernel_rfl) ?_
              have hHeld : we.grownBy we.drew (some b5) := gr_drew (gr_refl _ _)
              refine H_take (k := 0) (v := .agg #[.int .i64 P2, .int .i64 Q2]) (by rfl) (by kernel_rfl) (by kernel_rfl) (by kernel_rfl) (by exact fun _ _ _ h => h) (by rfl) (fun w' hSw => exec_ldb Tryz.frT _ rfl _ rfl 32 [.int .i64 P2, .int .i64 Q2] (YE.out.grown hSw (by intro e; injection e with e; omega)) rfl) (by assumption) ?_
              (try simp only [Act.put, List.setIfInBounds_toArray, List.set_cons_zero, List.set_cons_succ])
              refine H_take (k := 1) (v := ?_) (by rfl) (by kernel_rfl) (by kernel_rfl) (by kernel_rfl) (by exact fun _ _ _ h => h) (by rfl) ?_ (by assumption) ?_
              rotate_left 1
              · intro w hSw
                (try dsimp only at hSw)
                go_simp
                (try with_reducible rfl)
              (try simp only [Act.put, List.setIfInBounds_toArray, List.set_cons_zero, List.set_cons_succ])
              refine H_take (k := 2) (v := ?_) (by rfl) (by kernel_rfl) (by kernel_rfl) (by kernel_rfl) (by exact fun _ _ _ h => h) (by rfl) ?_ (by assumption) ?_
              rotate_left 1
              · intro w hSw
                (try dsimp only at hSw)
                go_simp
                (try with_reducible rfl)
              (try simp only [Act.put, List.setIfInBounds_toArray, List.set_cons_zero, List.set_cons_succ])
              refine H_run (k := 3) (by rfl) (by kernel_rfl) (by rfl) (fun K hK => ?_)
              go_simp
              refine (when_any (!B) 8 _).mono ?_
              rintro e wf ⟨rfl, rfl⟩
              rw [show (if (!B) = true then (8 : Int) else 0) = E2 from by rw [HE.out]; cases B <;> rfl]
              refine hK _ _ hHeld ?_
              clear hK K
              (try simp only [Act.put, List.setIfInBounds_toArray, List.set_cons_zero, List.set_cons_succ])
              refine H_run (k := 4) (by rfl) (by kernel_rfl) (by rfl) (fun K hK => ?_)
              refine wp_store_all Tryz.frT _ _ (by rfl) b5 (by rfl) 32 _ #[.int .i64 P2, .int .i64 Q2] (by rfl) YB.out.drew rfl rfl (by simp [Value.oneCell']) ?_
              intro wg hwg
              have hgg : we.grownBy wg (some b5) := gr_same hHeld hwg.2.1
              have YG := Lib.hid hwg.1
              refine hK _ _ hgg ?_
              clear hK K hwg
              (try simp only [Act.put, List.setIfInBounds_toArray, List.set_cons_zero, List.set_cons_succ])
              refine H_take (k := 5) (v := ?_) (by rfl) (by kernel_rfl) (by kernel_rfl) (by kernel_rfl) (by exact fun _ _ _ h => h) (by rfl) ?_ (by assumption) ?_
              rotate_left 1
              · intro w hSw
                (try dsimp only at hSw)
                go_simp
                (try with_reducible rfl)
              (try simp only [Act.put, List.setIfInBounds_toArray, List.set_cons_zero, List.set_cons_succ])
              refine H_done (by kernel_rfl) ?_
              go_wp2_with fail
              go_meet
              exact ⟨rfl, gr_same (gr_trans (gr_refl _ _) HGE.out (fun g e => by cases e)) hgg, YG.out⟩
            · obtain ⟨rfl, rfl, hE⟩ := HAL2.out.2 hz
              have dz : (TWO == 0) = false := by simpa using hz
              have HE := Lib.hid hE
              clear hE hz
              go_wp2_with fail
              go_meet
              exact ⟨by rw [HE.out], gr_refl _ _, Yb5.out⟩
          case rest =>
            obtain ⟨rfl, hgx, hyx⟩ := hcut
            obtain ⟨wcur, rfl⟩ : ∃ wcur : World, wcur = wc := ⟨_, rfl⟩
            replace HGQ := Lib.hid (gr_trans HGQ.out hgx (fun g e => .inr (by injection e with e; omega)))
            replace Yb1 := Lib.hid (Yb1.out.grown hgx (by simp; omega)); replace Yb2 := Lib.hid (Yb2.out.grown hgx (by simp; omega)); replace Yb3 := Lib.hid (Yb3.out.grown hgx (by simp; omega)); replace Yb4 := Lib.hid (Yb4.out.grown hgx (by simp; omega)); replace Yb6 := Lib.hid (Yb6.out.grown hgx (by simp; omega))
            replace Yb5 := Lib.hid hyx
            clear hgx hyx
            go_upto_if 126 with (fail)
            obtain ⟨wv, rfl⟩ : ∃ wv : World, wv = wcur := ⟨_, rfl⟩
            go_cut [18, 26, 27] (fun v _ _ wx => v = .int .i64 E3 ∧ wv.grownBy wx (some b6) ∧ Blk wx b6 32 #[.int .i64 P3, .int .i64 Q3])
            case first =>
              by_cases hz : F = 0
              · obtain ⟨B, hD, hE⟩ := HAL3.out.1 hz
                have dz : (F == 0) = true := by simpa using hz
                have hF0 : F = 0 := hz
                have hc0 := HF.out.trans hF0
                obtain ⟨h1, h2, h3, h4⟩ := chkE_num hc0
                obtain rfl : k = n := by rw [← HSE.out.1.len, ← HC.out.1.len]; exact h3
                clear hz hF0
                go_wp2_with fail
                refine (waitedOf_any lo1 lo2 cA k cc C sA sc l _ (HC.out.grown HGQ.out (fun g e => by cases e)) (HSE.out.grown HGQ.out (fun g e => by cases e)) hc0).mono ?_
                rintro e wd ⟨rfl, hgd⟩
                rw [hD]
                have HE := Lib.hid hE
                have hbd := Yb6.out.lt
                clear hD hE dz
                obtain ⟨we, hwe⟩ : ∃ v, wd.alloc (.cells #[.int .i64 P3, .int .i64 Q3] 32) = v := ⟨_, rfl⟩
                obtain ⟨eb, heb⟩ : ∃ b, wd.heap.size = b := ⟨_, rfl⟩
                have HWE := Lib.hid hwe; have HEB := Lib.hid heb
                have YE := Lib.hid (show Blk we eb 32 #[.int .i64 P3, .int .i64 Q3] by rw [← hwe, ← heb]; exact Blk.new _ _ _)
                have hge : wv.grownBy we none := by rw [← hwe]; exact gr_alloc hgd _
                have hne : eb ≠ b6 := by have := hgd.size; omega
                have YB := Lib.hid (Yb6.out.grown hge (by simp))
                have HGE := Lib.hid hge
                clear hwe heb hgd hge
                go_upto_region 23 with (fail)
                rw [HWE.out]
                (try rw [HEB.out])
                clear HWE HEB
                refine H_begin (fun w' => we.grownBy w' (some b6)) (by kernel_rfl) ?_
                have hHeld : we.grownBy we.drew (some b6) := gr_drew (gr_refl _ _)
                refine H_take (k := 0) (v := .agg #[.int .i64 P3, .int .i64 Q3]) (by rfl) (by kernel_rfl) (by kernel_rfl) (by kernel_rfl) (by exact fun _ _ _ h => h) (by rfl) (fun w' hSw => exec_ldb Tryz.frT _ rfl _ rfl 32 [.int .i64 P3, .int .i64 Q3] (YE.out.grown hSw (by intro e; injection e with e; omega)) rfl) (by assumption) ?_
                (try simp only [Act.put, List.setIfInBounds_toArray, List.set_cons_zero, List.set_cons_succ])
                refine H_take (k := 1) (v := ?_) (by rfl) (by kernel_rfl) (by kernel_rfl) (by kernel_rfl) (by exact fun _ _ _ h => h) (by rfl) ?_ (by assumption) ?_
                rotate_left 1
                · intro w hSw
                  (try dsimp only at hSw)
                  go_simp
                  (try with_reducible rfl)
                (try simp only [Act.put, List.setIfInBounds_toArray, List.set_cons_zero, List.set_cons_succ])
                refine H_take (k := 2) (v := ?_) (by rfl) (by kernel_rfl) (by kernel_rfl) (by kernel_rfl) (by exact fun _ _ _ h => h) (by rfl) ?_ (by assumption) ?_
                rotate_left 1
                · intro w hSw
                  (try dsimp only at hSw)
                  go_simp
                  (try with_reducible rfl)
                (try simp only [Act.put, List.setIfInBounds_toArray, List.set_cons_zero, List.set_cons_succ])
                refine H_run (k := 3) (by rfl) (by kernel_rfl) (by rfl) (fun K hK => ?_)
                go_simp
                refine (when_any (!B) 8 _).mono ?_
                rintro e wf ⟨rfl, rfl⟩
                rw [show (if (!B) = true then (8 : Int) else 0) = E3 from by rw [HE.out]; cases B <;> rfl]
                refine hK _ _ hHeld ?_
                clear hK K
                (try simp only [Act.put, List.setIfInBounds_toArray, List.set_cons_zero, List.set_cons_succ])
                refine H_run (k := 4) (by rfl) (by kernel_rfl) (by rfl) (fun K hK => ?_)
                refine wp_store_all Tryz.frT _ _ (by rfl) b6 (by rfl) 32 _ #[.int .i64 P3, .int .i64 Q3] (by rfl) YB.out.drew rfl rfl (by simp [Value.oneCell']) ?_
                intro wg hwg
                have hgg : we.grownBy wg (some b6) := gr_same hHeld hwg.2.1
                have YG := Lib.hid hwg.1
                refine hK _ _ hgg ?_
                clear hK K hwg
                (try simp only [Act.put, List.setIfInBounds_toArray, List.set_cons_zero, List.set_cons_succ])
                refine H_take (k := 5) (v := ?_) (by rfl) (by kernel_rfl) (by kernel_rfl) (by kernel_rfl) (by exact fun _ _ _ h => h) (by rfl) ?_ (by assumption) ?_
                rotate_left 1
                · intro w hSw
                  (try dsimp only at hSw)
                  go_simp
                  (try with_reducible rfl)
                (try simp only [Act.put, List.setIfInBounds_toArray, List.set_cons_zero, List.set_cons_succ])
                refine H_done (by kernel_rfl) ?_
                go_wp2_with fail
                go_meet
                exact ⟨rfl, gr_same (gr_trans (gr_refl _ _) HGE.out (fun g e => by cases e)) hgg, YG.out⟩
              · obtain ⟨rfl, rfl, hE⟩ := HAL3.out.2 hz
                have dz : (F == 0) = false := by simpa using hz
                have HE := Lib.hid hE
                clear hE hz
                go_wp2_with fail
                go_meet
                exact ⟨by rw [HE.out], gr_refl _ _, Yb6.out⟩
            case rest =>
              obtain ⟨rfl, hgx, hyx⟩ := hcut
              obtain ⟨wcur, rfl⟩ : ∃ wcur : World, wcur = wc := ⟨_, rfl⟩
              replace HGQ := Lib.hid (gr_trans HGQ.out hgx (fun g e => .inr (by injection e with e; omega)))
              replace Yb1 := Lib.hid (Yb1.out.grown hgx (by simp; omega)); replace Yb2 := Lib.hid (Yb2.out.grown hgx (by simp; omega)); replace Yb3 := Lib.hid (Yb3.out.grown hgx (by simp; omega)); replace Yb4 := Lib.hid (Yb4.out.grown hgx (by simp; omega)); replace Yb5 := Lib.hid (Yb5.out.grown hgx (by simp; omega))
              replace Yb6 := Lib.hid hyx
              clear hgx hyx
              have y1 := Yb1.out.cell
              have y2 := Yb2.out.cell
              have y3 := Yb3.out.cell
              have y4 := Yb4.out.cell
              have y5 := Yb5.out.cell
              have y6 := Yb6.out.cell
              have f1 := fun w => Tryz.eqFr P1 Q1 w
              have f2 := fun w => Tryz.eqFr P2 Q2 w
              have f3 := fun w => Tryz.eqFr P3 Q3 w
              have r1 : (E1 == E1) = true := by simp
              have r2 : (E2 == E2) = true := by simp
              have r3 : (E3 == E3) = true := by simp
              go_wp2_with (first
                | (go_at_call 22; refine (queued_true _).mono ?_; rintro e wz ⟨rfl, hgz⟩; have HGZ := Lib.hid hgz; clear hgz)
                | fail)
              go_ret
              refine ⟨rfl, ?_⟩
              have hfin := gr_none HG.out (gr_none HGQ.out HGZ.out)
              rw [← HSB.out] at hfin
              exact below_of_gr hfin
theorem met_QueuesServe {W : World} (_h : laidMetH Tryz.prog Rows.queuesServeRow.laid W) : True := trivial

theorem own_QueuesServe : ownKnob Tryz.prog.godebug = none := by kernel_rfl
theorem laidOut_QueuesServe : laidOutB Tryz.prog = true := by kernel_rfl
set_option maxRecDepth 100000 in
theorem lifted_QueuesServe (os : Os) (started : os.Started) (H : Type) (enc : TypeId × Value → H) :
    ReturnsInHanded {} Tryz.checked os 3 .any (fun w args => (Rows.queuesServeSpec.pre enc Tryz.prog Tryz.f3 [] false w args ∧ laidMetH Tryz.prog Rows.queuesServeRow.laid w) ∧ sizedMet enc Tryz.prog Tryz.f3 (OpenSpec.ofChange Rows.queuesServeSpec) false w args) (Rows.queuesServeSpec.post enc Tryz.prog Tryz.f3 false true false false) := by
  refine returnsInHanded_of_change_and (C := Tryz.checked) (X := fun w _ => laidMetH Tryz.prog Rows.queuesServeRow.laid w) (fun _ _ _ hh h => h.of_heap hh) own_QueuesServe started (by kernel_rfl) Tryz.func3
    (ChangeSpec.witness_shaped (enc := enc) (C := Tryz.checked) (os := os) (X := fun w _ => laidMetH Tryz.prog Rows.queuesServeRow.laid w) false (World.laidAll Tryz.prog os Rows.queuesServeRow.laid) #[.slice none 0 0] 8 (World.laidAll_os _ _ _) (World.shaped_of_ZipB (by kernel_rfl) (by kernel_rfl)) (by kernel_rfl) (by kernel_rfl) (by kernel_rfl)
      (by rw [MakeChecks.laidMetH_plain _ _ _ (by kernel_rfl)]; exact laidMet_laidAll _ (by kernel_rfl) (by kernel_rfl))) ?_
  intro W base args ds gs before hval0 hW _ _ hL _
  have hval : ∀ (j : Nat) t v, Tryz.f3.params[j]? = some t → args[j]? = some v → Value.okWide Tryz.prog W .any base t v := hval0
  have hW' := hW
  obtain ⟨p, q, hA0, hV, rfl, hfz, hnd⟩ := hW
  have hA : DataW.TrodAll enc Tryz.prog W 0 (fun _ => true) true Tryz.f3.params.toList args.toList ds p := hA0
  rw [Tryz.params3] at hA hval
  obtain ⟨v0, vs0, d0, ds0, p0, q0, hargs, rfl, rfl, h0, r0⟩ := trodAll_cons hA
  obtain ⟨rfl, rfl, rfl⟩ := trodAll_nil r0
  obtain rfl : args = #[v0] := by cases args; simp_all
  obtain ⟨rfl, rfl⟩ := trodVars_none hV
  obtain ⟨a0, len0, cap0, rfl⟩ := okWide_slice Tryz.underlying22 (hval 0 22 v0 rfl rfl)
  have k0 := h0
  have lt0 : ∀ x ∈ p0, x.block < W.heap.size := by obtain ⟨m, hm⟩ := k0; exact DataW.trod_lt m _ _ _ hm
  obtain ⟨z0, w0⟩ : ∃ zs, IsRow .i64 W a0 len0 cap0 zs := by
    obtain ⟨fuel, hf⟩ := h0
    rcases open_ints Tryz.underlying22 Tryz.underlying3 (by kernel_rfl) hf with ⟨hcs, _⟩ | ⟨x, l, c, zs, hcs, _, hl, hm, hz, _, hcell, hwz⟩
    · simp [Value.cells] at hcs
      obtain ⟨rfl, rfl, rfl⟩ := hcs
      exact ⟨[], .inl ⟨rfl, rfl, rfl, rfl⟩⟩
    · simp [Value.cells] at hcs
      obtain ⟨rfl, rfl, rfl⟩ := hcs
      exact ⟨zs, .inr ⟨_, rfl, hl, hm, by simpa using hz, hcell, hwz⟩⟩
  clear hA0 hval0
  refine (walk_QueuesServe a0 len0 cap0 z0 W w0 (met_QueuesServe hL)).mono fun e W' ⟨he, bel⟩ => ?_
  subst he
  exact ⟨_, rfl, _, _, _, [], _, [], hW', trodAll_mk1 (shut_bool Tryz.underlying4 _), (trodAll_cons_mk (Below.trod laidOut_QueuesServe (by kernel_rfl) (of_decide_eq_true (by kernel_rfl)) k0 bel lt0) trodAll_mk0), rfl, bel.frame _, fun h => by cases h⟩

theorem over_QueuesServe : Rows.queuesServeRow.holds Tryz.pinned (OpenSpec.ofChange Rows.queuesServeSpec) :=
  OpenClaim.holds_of_wide 3 Tryz.f3 rfl rfl rfl rfl rfl rfl rfl ⟨rfl, rfl, rfl, rfl, rfl⟩ rfl rfl rfl rfl rfl (by kernel_rfl) Tryz.func3 (by kernel_rfl)
    (of_decide_eq_true (by kernel_rfl)) (by unfold Func.isWrapper; first | (rw [if_pos (by decide +kernel)]; kernel_rfl) | (rw [if_neg (by decide +kernel)]; exact ⟨rfl, rfl⟩))
    (fun os started H enc _ => lifted_QueuesServe os started H enc)

theorem proved_QueuesServe : Rows.QueuesServeCardSaid :=
  Claim7.holds_tied_plain_at .later [] [.data, .pinned] true Rows.queuesServeCard.stood.harness false
    over_QueuesServe (fun _ h => by cases h) (by kernel_rfl) (fun _ h => by cases h) queuesServe_row_tie rfl ⟨rfl, rfl⟩ (by kernel_rfl) rfl
    (fun f fn hf hfn => by
      obtain rfl : f = 3 := Option.some.inj ((show Tryz.prog.funcNamed Rows.queuesServeRow.func = some 3 by kernel_rfl).symm.trans hf) |>.symm
      obtain rfl : fn = Tryz.f3 := (Option.some.inj (Tryz.func3.symm.trans hfn)).symm
      exact ⟨by kernel_rfl, fun j t ht => by
        rw [Tryz.params3] at ht
        have h3 : t = 22 := by
          rcases j with _ | j
          · simpa using ht.symm
          · simp at ht
        subst h3
        exact (show Tryz.prog.wantsStandIn 22 = false by kernel_rfl)⟩)
    (by kernel_rfl)
end Go.Proofs.YtofncndjcegpdaaGreatDoor


/- The law NumbersPriced: CheckTariff, CheckPayers, ClassOf, Price and PayerOf are as specified for all tariffs, payers and numbers. Conditions: none beside the row's own. -/
import Derived.Test.YtddabpcdjgmooaaDoorLawBase
import Derived.Test.YtddabpcdjgmooaaDoorGenTar
import Derived.Test.YtddabpcdjgmooaaDoorErrs
import Derived.Test.YtddabpcdjgmooaaDoorTar6
import Derived.Test.YtddabpcdjgmooaaDoorTie
import Derived.Test.YtddabpcdjgmooaaDoorCards
import Derived.ProofKit
import Derived.Lay
import Derived.OpenShut
import Derived.Stop.Joined
import Derived.SevenTiedAt
import Derived.LaidMore
import Derived.MakeChecks
import Derived.LaidHandle
import Derived.Deep.CutBlock
import Derived.Deep.RegionHeld3
namespace Go.Proofs.YtddabpcdjgmooaaDoor
open Go.ChangeShapes Go.WideShapes Go.ChangeAt Go.RowKit

theorem whenE_any (b : Bool) (e : Int) (w : World) : Calls Tryd.prog 29 #[.bool b, .int .i64 e] w (Same (.int .i64 (if b then e else 0)) w) := by
  cases b
  all_goals
    go_enter Tryd.func29, Tryd.ntmps29
    go_wp2_with fail
    go_ret
    exact ⟨rfl, rfl⟩
theorem acc_ans : priAns ⟨none, 1, 1, 0, none, 0, 0, [⟨⟨#[43, 49]⟩, ⟨#[97]⟩, 0, 0, 1000, 7⟩], []⟩ ⟨#[43, 49, 50, 48, 48]⟩ 1500 = 14 ∧ priErr ⟨none, 1, 1, 0, none, 0, 0, [⟨⟨#[43, 49]⟩, ⟨#[97]⟩, 0, 0, 1000, 7⟩], []⟩ ⟨#[43, 49, 50, 48, 48]⟩ 1500 = 0 := by
  constructor <;> decide +kernel
set_option maxHeartbeats 2000000 in
theorem accounted_true (w : World) : Calls Tryd.prog 38 #[] w (RetV (.bool true) w) := by
  have hT := Reads.one w 64 [.string ⟨#[43, 49]⟩, .string ⟨#[97]⟩, .int .i64 0, .int .i64 0, .int .i64 1000, .int .i64 7] 6 rfl
  have HOK := Lib.hid (show TfOk (w.alloc (.cells #[.string ⟨#[43, 49]⟩, .string ⟨#[97]⟩, .int .i64 0, .int .i64 0, .int .i64 1000, .int .i64 7] 64)) w.heap.size ⟨some ⟨w.heap.size, 0, none⟩, 1, 1, 0, none, 0, 0, [⟨⟨#[43, 49]⟩, ⟨#[97]⟩, 0, 0, 1000, 7⟩], []⟩ from
    ⟨⟨fun c hc => by rw [List.mem_singleton.1 hc]; exact ⟨by decide, by decide⟩, (fun s hs => by cases hs), by dsimp only; omega, by dsimp only; omega⟩, ⟨hT, rfl⟩, ⟨Reads.none_, rfl⟩⟩)
  have HA := Lib.hid acc_ans
  have HA2 := Lib.hid (show priAns ⟨some ⟨w.heap.size, 0, none⟩, 1, 1, 0, none, 0, 0, [⟨⟨#[43, 49]⟩, ⟨#[97]⟩, 0, 0, 1000, 7⟩], []⟩ ⟨#[43, 49, 50, 48, 48]⟩ 1500 = 14 ∧ priErr ⟨some ⟨w.heap.size, 0, none⟩, 1, 1, 0, none, 0, 0, [⟨⟨#[43, 49]⟩, ⟨#[97]⟩, 0, 0, 1000, 7⟩], []⟩ ⟨#[43, 49, 50, 48, 48]⟩ 1500 = 0 from HA.out)
  clear hT HA
  go_enter Tryd.func38, Tryd.ntmps38
  go_wp2_with fail
  refine (Price_any w.heap.size ⟨some ⟨w.heap.size, 0, none⟩, 1, 1, 0, none, 0, 0, [⟨⟨#[43, 49]⟩, ⟨#[97]⟩, 0, 0, 1000, 7⟩], []⟩ ⟨#[43, 49, 50, 48, 48]⟩ 1500 _ HOK.out (by decide)).mono ?_
  rintro e w2 ⟨rfl, hg2⟩
  rw [HA2.out.1, HA2.out.2]
  have HG := Lib.hid (gr_none (gr_alloc (gr_refl w none) _) hg2)
  clear hg2
  go_wp2_with fail
  go_ret
  exact ⟨rfl, HG.out⟩

theorem cls_row (o : Option ClV) : ∃ (p q : ByteArray) (i1 i2 i3 i4 : Int), clsRow o = #[.string p, .string q, .int .i64 i1, .int .i64 i2, .int .i64 i3, .int .i64 i4] := by
  cases o with
  | none => exact ⟨_, _, _, _, _, _, rfl⟩
  | some c => exact ⟨_, _, _, _, _, _, rfl⟩

theorem npS {w w' : World} {g : Nat} {t : TypeId} {x y z : Value} (h : Blk w g t #[x, y, z]) (hg : w.grownBy w' none) : (w'.cell? ⟨g, 0, none⟩ = some x ∧ w'.cell? ⟨g, 1, none⟩ = some y ∧ w'.cell? ⟨g, 2, none⟩ = some z) ∧ w.grownBy w' none :=
  ⟨⟨(h.grown hg (by simp)).cell 0, (h.grown hg (by simp)).cell 1, (h.grown hg (by simp)).cell 2⟩, hg⟩
/-! What the program answers, in the law's own words. -/
theorem np_one (t : TfV) (s : ByteArray) (F N : Int) (hF : F = if phOk (nb s) then 0 else 3) (hN : N = if (clsOf t.cl (nb s)).isSome then 0 else 8) :
    clsErr t s = firstE [firstE [tarE t, F], N] ∧ (clsErr t s = 0 → clsAns t s = clsOf t.cl (nb s)) ∧ (clsErr t s ≠ 0 → clsAns t s = none) := by
  subst hF; subst hN
  simp only [firstE_cons, firstE_nil]
  unfold clsErr clsAns
  by_cases h : tarE t = 0
  · simp only [h, if_true]
    cases phOk (nb s) <;> cases clsOf t.cl (nb s) <;> simp
  · simp [h]
theorem np_two (t : TfV) (s : ByteArray) (talk F N A : Int) (hF : F = if phOk (nb s) then 0 else 3) (hN : N = if (clsOf t.cl (nb s)).isSome then 0 else 8) (hA : A = if inB talk 0 86400000 then 0 else 1) :
    priErr t s talk = firstE [firstE [tarE t, F, A], N] ∧ (priErr t s talk = 0 → tarE t = 0 ∧ inB talk 0 86400000 = true ∧ ∃ c, clsOf t.cl (nb s) = some c ∧ priAns t s talk = priceOf c talk) ∧ (priErr t s talk ≠ 0 → priAns t s talk = 0) := by
  subst hF; subst hN; subst hA
  refine ⟨?_, fun h0 => ?_, fun h0 => by unfold priAns; rw [if_neg h0]⟩
  · simp only [firstE_cons, firstE_nil]
    unfold priErr
    by_cases h : tarE t = 0
    · simp only [h, if_true]
      cases phOk (nb s) <;> cases clsOf t.cl (nb s) <;> cases inB talk 0 86400000 <;> simp
    · simp [h]
  · have hp : priAns t s talk = (clsOf t.cl (nb s)).elim 0 (fun c => priceOf c talk) := by unfold priAns; rw [if_pos h0]
    unfold priErr at h0
    by_cases h : tarE t = 0
    · rw [if_pos h] at h0
      cases h1 : phOk (nb s)
      · rw [h1] at h0; simp at h0
      · rw [h1] at h0
        cases h2 : inB talk 0 86400000
        · rw [h2] at h0; simp at h0
        · rw [h2] at h0
          cases h3 : clsOf t.cl (nb s) with
          | none => rw [h3] at h0; simp at h0
          | some c => exact ⟨h, rfl, c, rfl, by rw [hp, h3]; rfl⟩
    · rw [if_neg h] at h0; exact absurd h0 h
theorem np_three (l : List PyV) (s : ByteArray) (F : Int) (hF : F = if phOk (nb s) then 0 else 3) :
    payErr l s = firstE [pysE l, F] ∧ (payErr l s = 0 → payAns l s = (payerOf l (nb s)).map (·.key)) ∧ (payErr l s ≠ 0 → payAns l s = none) := by
  subst hF
  simp only [firstE_cons, firstE_nil]
  unfold payErr payAns
  by_cases h : pysE l = 0
  · simp only [h, if_true]
    cases phOk (nb s) <;> simp
  · simp [h]
set_option maxRecDepth 100000 in
set_option maxHeartbeats 8000000 in
theorem walk_NumbersPriced (a0 : Option Addr) (len cap : Nat) (zs : List Int) (W : World) (h : IsRow .i64 W a0 len cap zs) (_ht : True) :
    Calls Tryd.prog 4 #[.slice a0 len cap] W (fun e w' => e = .returned (.bool true) ∧ Below W.heap.size W w') := by
  have hs := str_new h
  obtain ⟨sb, hsb⟩ : ∃ sb, W.heap.size = sb := ⟨_, rfl⟩
  have HG := Lib.hid (show W.grownBy (W.alloc (.cells #[.slice a0 len cap, .int .i64 0] 25)) (some sb) from gr_alloc (gr_refl _ _) _)
  rw [hsb] at hs
  have hlt := hs.lt
  have HS := Lib.hid hs
  have HSB := Lib.hid hsb
  clear h hs
  go_enter Tryd.func4, Tryd.ntmps4
  go_wp2_with fail
  refine (tariff_any sb 0 _ HS.out (by omega)).mono ?_
  rintro e w1 ⟨v1, rfl, ⟨⟨cA, cn, cc, free, iA, en, ic, cl, ins⟩, rfl, hgt, hcn, hen⟩, hs1, hg1⟩
  have HTF := Lib.hid hgt.ok
  replace HG := Lib.hid (gr_same HG.out hg1)
  have z1 := hg1.size
  replace HS := Lib.hid hs1
  dsimp only at hcn hen
  clear hgt hs1 hg1
  go_wp2_with fail
  refine (payers_any sb _ _ HS.out (by omega)).mono ?_
  rintro e w2 ⟨v2, rfl, ⟨A, n, c, l, rfl, hpy, hn⟩, hs2, hg2⟩
  have HPY := Lib.hid hpy
  replace HTF := Lib.hid (HTF.out.grown hg2 (fun g e => by injection e with e; omega))
  replace HG := Lib.hid (gr_same HG.out hg2)
  have z2 := hg2.size
  replace HS := Lib.hid hs2
  clear hpy hs2 hg2
  go_wp2_with fail
  refine (phone_any sb _ _ HS.out (by omega)).mono ?_
  rintro e w3 ⟨v3, rfl, ⟨s, rfl, hss⟩, hs3, hg3⟩
  replace HTF := Lib.hid (HTF.out.grown hg3 (fun g e => by injection e with e; omega))
  replace HPY := Lib.hid (HPY.out.grown hg3 (fun g e => by injection e with e; omega))
  replace HG := Lib.hid (gr_same HG.out hg3)
  have z3 := hg3.size
  replace HS := Lib.hid hs3
  clear hs3 hg3
  go_wp2_with fail
  refine (pick_new sb _ [0, 1, 1000, 60000, 60001, 61500, 86400000, -1, 86400001] _ HS.out (by omega) rfl rfl rfl (by simp) (by simp)).mono ?_
  rintro e w4 ⟨v4, rfl, ⟨talk, htk, rfl⟩, hs4, hg4⟩
  replace HTF := Lib.hid ((HTF.out.grown hg4 (fun g e => by injection e with e; omega)).grown (gr_alloc (gr_refl _ none) (.cells #[.slice cA cn cc, .int .i64 free, .slice iA en ic] 58)) (fun g e => by cases e))
  replace HPY := Lib.hid ((HPY.out.grown hg4 (fun g e => by injection e with e; omega)).grown (gr_alloc (gr_refl _ none) (.cells #[.slice cA cn cc, .int .i64 free, .slice iA en ic] 58)) (fun g e => by cases e))
  replace HG := Lib.hid (gr_alloc (gr_same HG.out hg4) (.cells #[.slice cA cn cc, .int .i64 free, .slice iA en ic] 58))
  have HT := Lib.hid (Blk.new w4 58 #[.slice cA cn cc, .int .i64 free, .slice iA en ic])
  clear hs4 hg4 HS htk
  -- the values
  obtain ⟨ET, hET⟩ : ∃ E, tarE ⟨cA, cn, cc, free, iA, en, ic, cl, ins⟩ = E := ⟨_, rfl⟩
  obtain ⟨EP, hEP⟩ : ∃ E, pysE l = E := ⟨_, rfl⟩
  obtain ⟨PH, hPH⟩ : ∃ B, phOk (nb s) = B := ⟨_, rfl⟩
  obtain ⟨C, hC⟩ : ∃ C, clsOf cl (nb s) = C := ⟨_, rfl⟩
  obtain ⟨F, hF⟩ : ∃ F : Int, (if PH then 0 else 3) = F := ⟨_, rfl⟩
  obtain ⟨N, hN⟩ : ∃ N : Int, (if C.isSome then 0 else 8) = N := ⟨_, rfl⟩
  obtain ⟨AT, hAT⟩ : ∃ E : Int, (if inB talk 0 86400000 then 0 else 1) = E := ⟨_, rfl⟩
  obtain ⟨c1, c2, c3⟩ := np_one ⟨cA, cn, cc, free, iA, en, ic, cl, ins⟩ s F N (by rw [hPH, hF]) (by dsimp only; rw [hC, hN])
  obtain ⟨d1, d2, d3⟩ := np_two ⟨cA, cn, cc, free, iA, en, ic, cl, ins⟩ s talk F N AT (by rw [hPH, hF]) (by dsimp only; rw [hC, hN]) hAT.symm
  obtain ⟨p1, p2, p3⟩ := np_three l s F (by rw [hPH, hF])
  obtain ⟨CE, hCE⟩ : ∃ E, clsErr ⟨cA, cn, cc, free, iA, en, ic, cl, ins⟩ s = E := ⟨_, rfl⟩
  obtain ⟨CA, hCA⟩ : ∃ E, clsAns ⟨cA, cn, cc, free, iA, en, ic, cl, ins⟩ s = E := ⟨_, rfl⟩
  obtain ⟨PE, hPE⟩ : ∃ E, priErr ⟨cA, cn, cc, free, iA, en, ic, cl, ins⟩ s talk = E := ⟨_, rfl⟩
  obtain ⟨PA, hPA⟩ : ∃ E, priAns ⟨cA, cn, cc, free, iA, en, ic, cl, ins⟩ s talk = E := ⟨_, rfl⟩
  obtain ⟨YE, hYE⟩ : ∃ E, payErr l s = E := ⟨_, rfl⟩
  obtain ⟨YA, hYA⟩ : ∃ E, payAns l s = E := ⟨_, rfl⟩
  rw [hET, hCE] at c1
  rw [hCE, hCA] at c2 c3
  rw [hET, hPE] at d1
  rw [hPE, hPA, hET] at d2
  rw [hPE, hPA] at d3
  rw [hEP, hYE] at p1
  rw [hYE, hYA] at p2 p3
  dsimp only at c2 d2
  rw [hC] at c2 d2
  have HC1 := Lib.hid c1; have HC2 := Lib.hid c2; have HC3 := Lib.hid c3; have HD1 := Lib.hid d1; have HD2 := Lib.hid d2; have HD3 := Lib.hid d3; have HP1 := Lib.hid p1; have HP2 := Lib.hid p2; have HP3 := Lib.hid p3
  have HET := Lib.hid hET; have HEP := Lib.hid hEP; have HPH := Lib.hid hPH; have HC := Lib.hid hC; have HF := Lib.hid hF; have HN := Lib.hid hN; have HAT := Lib.hid hAT
  have HCE := Lib.hid hCE; have HCA := Lib.hid hCA; have HPE := Lib.hid hPE; have HPA := Lib.hid hPA; have HYE := Lib.hid hYE; have HYA := Lib.hid hYA
  have HNU := Lib.hid (fun h0 => (tar_right HTF.out.2.1.len (by rw [hET]; exact h0)).2 : ET = 0 → ∀ c ∈ cl, clNum c = true)
  clear c1 c2 c3 d1 d2 d3 p1 p2 p3 hET hEP hPH hC hF hN hAT hCE hCA hPE hPA hYE hYA
  dsimp only
  go_wp2_with (first
    | (refine wpl_load_all Tryd.tfT rfl _ rfl _ rfl _ _ HT.out rfl ?_)
    | fail)
  refine (ClassOf_any _ ⟨cA, cn, cc, free, iA, en, ic, cl, ins⟩ s _ (by exact HTF.out) (by omega)).mono ?_
  rintro e w5 ⟨rfl, hg5⟩
  rw [HCE.out, HCA.out]
  obtain ⟨p, q, i1, i2, i3, i4, hrow⟩ := cls_row CA
  rw [hrow]
  have HROW := Lib.hid hrow
  replace HT := Lib.hid ((HT.out.grown hg5 (by simp)).alloc (.cells #[.string p, .string q, .int .i64 i1, .int .i64 i2, .int .i64 i3, .int .i64 i4] 64))
  replace HTF := Lib.hid ((HTF.out.grown hg5 (fun g e => by cases e)).grown (gr_alloc (gr_refl _ none) (.cells #[.string p, .string q, .int .i64 i1, .int .i64 i2, .int .i64 i3, .int .i64 i4] 64)) (fun g e => by cases e))
  replace HPY := Lib.hid ((HPY.out.grown hg5 (fun g e => by cases e)).grown (gr_alloc (gr_refl _ none) (.cells #[.string p, .string q, .int .i64 i1, .int .i64 i2, .int .i64 i3, .int .i64 i4] 64)) (fun g e => by cases e))
  replace HG := Lib.hid (gr_alloc (gr_none HG.out hg5) (.cells #[.string p, .string q, .int .i64 i1, .int .i64 i2, .int .i64 i3, .int .i64 i4] 64))
  have HK := Lib.hid (Blk.new w5 64 #[.string p, .string q, .int .i64 i1, .int .i64 i2, .int .i64 i3, .int .i64 i4])
  have z5 := hg5.size; (try simp at z5)
  clear hg5 hrow
  go_wp2_with (first
    | (refine wpl_load_all Tryd.tfT rfl _ rfl _ rfl _ _ HT.out rfl ?_)
    | fail)
  refine (Price_any _ ⟨cA, cn, cc, free, iA, en, ic, cl, ins⟩ s talk _ (by exact HTF.out) (by omega)).mono ?_
  rintro e w6 ⟨rfl, hg6⟩
  rw [HPE.out, HPA.out]
  replace HT := Lib.hid (HT.out.grown hg6 (by simp))
  replace HTF := Lib.hid (HTF.out.grown hg6 (fun g e => by cases e))
  replace HPY := Lib.hid (HPY.out.grown hg6 (fun g e => by cases e))
  replace HG := Lib.hid (gr_none HG.out hg6)
  replace HK := Lib.hid (HK.out.grown hg6 (by simp))
  have z6 := hg6.size; (try simp at z6)
  clear hg6
  go_wp2_with fail
  refine (payerOf_any _ _ _ _ l s _ (by exact HPY.out) (by omega) (by omega)).mono ?_
  rintro e w7 ⟨rfl, hg7⟩
  rw [HYE.out, HYA.out]
  replace HT := Lib.hid (HT.out.grown hg7 (by simp))
  replace HTF := Lib.hid (HTF.out.grown hg7 (fun g e => by cases e))
  replace HPY := Lib.hid (HPY.out.grown hg7 (fun g e => by cases e))
  replace HG := Lib.hid (gr_none HG.out hg7)
  replace HK := Lib.hid (HK.out.grown hg7 (by simp))
  have z7 := hg7.size; (try simp at z7)
  clear hg7
  go_wp2_with fail
  refine (phoneNumber_any s _ (by omega)).mono ?_
  rintro e w8 ⟨rfl, hg8⟩
  rw [HPH.out]
  replace HT := Lib.hid (HT.out.grown hg8 (by simp))
  replace HTF := Lib.hid (HTF.out.grown hg8 (fun g e => by cases e))
  replace HPY := Lib.hid (HPY.out.grown hg8 (fun g e => by cases e))
  replace HG := Lib.hid (gr_none HG.out hg8)
  replace HK := Lib.hid (HK.out.grown hg8 (by simp))
  have z8 := hg8.size; (try simp at z8)
  clear hg8
  have hF2 : (if (!PH) then (3 : Int) else 0) = F := by rw [← HF.out]; cases PH <;> rfl
  go_wp2_with (first
    | (go_at_call 29; refine (whenE_any _ _ _).mono ?_; rintro e w' ⟨rfl, rfl⟩; rw [hF2])
    | fail)
  clear hF2
  obtain ⟨O1, hO1⟩ : ∃ E, firstE [ET, F] = E := ⟨_, rfl⟩
  obtain ⟨O2, hO2⟩ : ∃ E, firstE [ET, F, AT] = E := ⟨_, rfl⟩
  have HO1 := Lib.hid hO1; have HO2 := Lib.hid hO2; clear hO1 hO2
  go_upto_region 8 with (fail)
  go_cut [16, 17, 18] (fun x y z wx => x = .int .i64 O1 ∧ y = .int .i64 O2 ∧ z = .int .i64 YE ∧ w8.grownBy wx none)
  case first =>
    by_cases t1 : talk < 0
    · have d1 : decide (talk < 0) = true := decide_eq_true t1
      go_wp2_with fail
      refine H_begin (fun w' => (w'.cell? ⟨w4.heap.size, 0, none⟩ = some (.slice cA cn cc) ∧ w'.cell? ⟨w4.heap.size, 1, none⟩ = some (.int .i64 free) ∧ w'.cell? ⟨w4.heap.size, 2, none⟩ = some (.slice iA en ic)) ∧ w8.grownBy w' none) (by kernel_rfl) ?_
      have hHeld := npS HT.out (gr_drew (gr_refl w8 none))
      refine H_take (k := 0) (v := ?_) (by rfl) (by kernel_rfl) (by kernel_rfl) (by kernel_rfl) (by exact fun _ _ _ h => h) (by rfl) ?_ (by assumption) ?_
      rotate_left 1
      · intro w hSw
        (try dsimp only at hSw)
        go_simp
        (try with_reducible rfl)
      (try simp only [Act.put, List.setIfInBounds_toArray, List.set_cons_zero, List.set_cons_succ])
      refine H_take (k := 2) (v := ?_) (by rfl) (by kernel_rfl) (by kernel_rfl) (by kernel_rfl) (by exact fun _ _ _ h => h) (by rfl) ?_ (by assumption) ?_
      rotate_left 1
      · intro w hSw
        (try dsimp only at hSw)
        go_simp
        (try with_reducible rfl)
      (try simp only [Act.put, List.setIfInBounds_toArray, List.set_cons_zero, List.set_cons_succ])
      refine H_take (k := 5) (v := ?_) (by rfl) (by kernel_rfl) (by kernel_rfl) (by kernel_rfl) (by exact fun _ _ _ h => h) (by rfl) ?_ (by assumption) ?_
      rotate_left 1
      · intro w hSw
        (try dsimp only at hSw)
        go_simp
        (try with_reducible rfl)
      (try simp only [Act.put, List.setIfInBounds_toArray, List.set_cons_zero, List.set_cons_succ])
      refine H_take (k := 7) (v := ?_) (by rfl) (by kernel_rfl) (by kernel_rfl) (by kernel_rfl) (by exact fun _ _ _ h => h) (by rfl) ?_ (by assumption) ?_
      rotate_left 1
      · intro w hSw
        (try dsimp only at hSw)
        go_simp
        (try with_reducible rfl)
      (try simp only [Act.put, List.setIfInBounds_toArray, List.set_cons_zero, List.set_cons_succ])
      refine H_take (k := 8) (v := ?_) (by rfl) (by kernel_rfl) (by kernel_rfl) (by kernel_rfl) (by exact fun _ _ _ h => h) (by rfl) ?_ (by assumption) ?_
      rotate_left 1
      · intro w hSw
        (try dsimp only at hSw)
        go_simp
        (try with_reducible rfl)
      (try simp only [Act.put, List.setIfInBounds_toArray, List.set_cons_zero, List.set_cons_succ])
      refine H_take (k := 9) (v := ?_) (by rfl) (by kernel_rfl) (by kernel_rfl) (by kernel_rfl) (by exact fun _ _ _ h => h) (by rfl) ?_ (by assumption) ?_
      rotate_left 1
      · intro w hSw
        (try dsimp only at hSw)
        go_simp
        (try with_reducible rfl)
      (try simp only [Act.put, List.setIfInBounds_toArray, List.set_cons_zero, List.set_cons_succ])
      refine H_take (k := 17) (v := ?_) (by rfl) (by kernel_rfl) (by kernel_rfl) (by kernel_rfl) (by exact fun _ _ _ h => h) (by rfl) ?_ (by assumption) ?_
      rotate_left 1
      · intro w hSw
        (try dsimp only at hSw)
        go_simp
        (try with_reducible rfl)
      (try simp only [Act.put, List.setIfInBounds_toArray, List.set_cons_zero, List.set_cons_succ])
      refine H_take (k := 19) (v := ?_) (by rfl) (by kernel_rfl) (by kernel_rfl) (by kernel_rfl) (by exact fun _ _ _ h => h) (by rfl) ?_ (by assumption) ?_
      rotate_left 1
      · intro w hSw
        (try dsimp only at hSw)
        go_simp
        (try with_reducible rfl)
      (try simp only [Act.put, List.setIfInBounds_toArray, List.set_cons_zero, List.set_cons_succ])
      refine H_run (k := 1) (by rfl) (by kernel_rfl) (by rfl) (fun K hK => ?_)
      go_simp
      refine (tariffFault_any _ ⟨cA, cn, cc, free, iA, en, ic, cl, ins⟩ _ (by exact HTF.out.grown (gr_drew (gr_refl w8 none)) (fun g e => by cases e))).mono ?_
      rintro e w11 ⟨rfl, hg11⟩
      have HG11 := Lib.hid (gr_none (gr_drew (gr_refl w8 none)) hg11)
      rw [HET.out]
      clear hg11
      go_simp
      refine hK _ _ (npS HT.out HG11.out) ?_
      clear hK K hHeld
      have hHeld := npS HT.out HG11.out
      refine H_run (k := 3) (by rfl) (by kernel_rfl) (by rfl) (fun K hK => ?_)
      go_simp
      refine hK _ _ (npS HT.out (gr_alloc HG11.out (.cells #[.int .i64 ET, .int .i64 F] 34))) ?_
      clear hK K hHeld
      have hHeld := npS HT.out (gr_alloc HG11.out (.cells #[.int .i64 ET, .int .i64 F] 34))
      refine H_run (k := 4) (by rfl) (by kernel_rfl) (by rfl) (fun K hK => ?_)
      go_simp
      refine (errs_run 0 _ 2 2 [ET, F] _ (by exact (Reads.blk (Blk.new _ _ _) 1 2 rfl).lower (Nat.zero_le _)) (by omega)).mono ?_
      rintro e w' ⟨rfl, rfl⟩
      rw [HO1.out]
      go_simp
      refine hK _ _ (npS HT.out (gr_alloc HG11.out (.cells #[.int .i64 ET, .int .i64 F] 34))) ?_
      clear hK K hHeld
      have hHeld := npS HT.out (gr_alloc HG11.out (.cells #[.int .i64 ET, .int .i64 F] 34))
      refine H_run (k := 6) (by rfl) (by kernel_rfl) (by rfl) (fun K hK => ?_)
      go_simp
      refine (tariffFault_any _ ⟨cA, cn, cc, free, iA, en, ic, cl, ins⟩ _ (by exact HTF.out.grown (gr_alloc HG11.out (.cells #[.int .i64 ET, .int .i64 F] 34)) (fun g e => by cases e))).mono ?_
      rintro e w12 ⟨rfl, hg12⟩
      have HG12 := Lib.hid (gr_none (gr_alloc HG11.out (.cells #[.int .i64 ET, .int .i64 F] 34)) hg12)
      rw [HET.out]
      clear hg12
      go_simp
      refine hK _ _ (npS HT.out HG12.out) ?_
      clear hK K hHeld
      have hHeld := npS HT.out HG12.out
      refine H_take (k := 10) (v := ?_) (by rfl) (by kernel_rfl) (by kernel_rfl) (by kernel_rfl) (by exact fun _ _ _ h => h) (by rfl) ?_ (by assumption) ?_
      rotate_left 1
      · intro w hSw
        (try dsimp only at hSw)
        go_simp
        (try with_reducible rfl)
      (try simp only [Act.put, List.setIfInBounds_toArray, List.set_cons_zero, List.set_cons_succ])
      refine H_skip (k := 11) (by rfl) (by kernel_rfl) (by kernel_rfl) (by kernel_rfl) (by exact fun _ _ _ h => h) (by rfl) (by assumption) ?_
      (try simp only [Act.put, List.setIfInBounds_toArray, List.set_cons_zero, List.set_cons_succ])
      refine H_skip (k := 12) (by rfl) (by kernel_rfl) (by kernel_rfl) (by kernel_rfl) (by exact fun _ _ _ h => h) (by rfl) (by assumption) ?_
      (try simp only [Act.put, List.setIfInBounds_toArray, List.set_cons_zero, List.set_cons_succ])
      refine H_take (k := 13) (v := ?_) (by rfl) (by kernel_rfl) (by kernel_rfl) (by kernel_rfl) (by exact fun _ _ _ h => h) (by rfl) ?_ (by assumption) ?_
      rotate_left 1
      · intro w hSw
        (try dsimp only at hSw)
        go_simp
        (try with_reducible rfl)
      (try simp only [Act.put, List.setIfInBounds_toArray, List.set_cons_zero, List.set_cons_succ])
      refine H_run (k := 14) (by rfl) (by kernel_rfl) (by rfl) (fun K hK => ?_)
      go_simp
      refine (whenE_any _ _ _).mono ?_
      rintro e w' ⟨rfl, rfl⟩
      rw [show (if (true : Bool) = true then (1 : Int) else 0) = AT from by rw [← HAT.out]; unfold inB; rw [decide_eq_false (by omega)]; rfl]
      go_simp
      refine hK _ _ (npS HT.out HG12.out) ?_
      clear hK K hHeld
      have hHeld := npS HT.out HG12.out
      refine H_run (k := 15) (by rfl) (by kernel_rfl) (by rfl) (fun K hK => ?_)
      go_simp
      refine hK _ _ (npS HT.out (gr_alloc HG12.out (.cells #[.int .i64 ET, .int .i64 F, .int .i64 AT] 34))) ?_
      clear hK K hHeld
      have hHeld := npS HT.out (gr_alloc HG12.out (.cells #[.int .i64 ET, .int .i64 F, .int .i64 AT] 34))
      refine H_run (k := 16) (by rfl) (by kernel_rfl) (by rfl) (fun K hK => ?_)
      go_simp
      refine (errs_run 0 _ 3 3 [ET, F, AT] _ (by exact (Reads.blk (Blk.new _ _ _) 1 3 rfl).lower (Nat.zero_le _)) (by omega)).mono ?_
      rintro e w' ⟨rfl, rfl⟩
      rw [HO2.out]
      go_simp
      refine hK _ _ (npS HT.out (gr_alloc HG12.out (.cells #[.int .i64 ET, .int .i64 F, .int .i64 AT] 34))) ?_
      clear hK K hHeld
      have hHeld := npS HT.out (gr_alloc HG12.out (.cells #[.int .i64 ET, .int .i64 F, .int .i64 AT] 34))
      refine H_run (k := 18) (by rfl) (by kernel_rfl) (by rfl) (fun K hK => ?_)
      go_simp
      refine (payersFault_any _ _ _ _ l _ (by exact HPY.out.grown (gr_alloc HG12.out (.cells #[.int .i64 ET, .int .i64 F, .int .i64 AT] 34)) (fun g e => by cases e)) (by omega)).mono ?_
      rintro e w13 ⟨rfl, hg13⟩
      have HG13 := Lib.hid (gr_none (gr_alloc HG12.out (.cells #[.int .i64 ET, .int .i64 F, .int .i64 AT] 34)) hg13)
      rw [HEP.out]
      clear hg13
      go_simp
      refine hK _ _ (npS HT.out HG13.out) ?_
      clear hK K hHeld
      have hHeld := npS HT.out HG13.out
      refine H_run (k := 20) (by rfl) (by kernel_rfl) (by rfl) (fun K hK => ?_)
      go_simp
      refine hK _ _ (npS HT.out (gr_alloc HG13.out (.cells #[.int .i64 EP, .int .i64 F] 34))) ?_
      clear hK K hHeld
      have hHeld := npS HT.out (gr_alloc HG13.out (.cells #[.int .i64 EP, .int .i64 F] 34))
      refine H_run (k := 21) (by rfl) (by kernel_rfl) (by rfl) (fun K hK => ?_)
      go_simp
      refine (errs_run 0 _ 2 2 [EP, F] _ (by exact (Reads.blk (Blk.new _ _ _) 1 2 rfl).lower (Nat.zero_le _)) (by omega)).mono ?_
      rintro e w' ⟨rfl, rfl⟩
      rw [← HP1.out]
      go_simp
      refine hK _ _ (npS HT.out (gr_alloc HG13.out (.cells #[.int .i64 EP, .int .i64 F] 34))) ?_
      clear hK K hHeld
      have hHeld := npS HT.out (gr_alloc HG13.out (.cells #[.int .i64 EP, .int .i64 F] 34))
      refine H_take (k := 22) (v := ?_) (by rfl) (by kernel_rfl) (by kernel_rfl) (by kernel_rfl) (by exact fun _ _ _ h => h) (by rfl) ?_ (by assumption) ?_
      rotate_left 1
      · intro w hSw
        (try dsimp only at hSw)
        go_simp
        (try with_reducible rfl)
      (try simp only [Act.put, List.setIfInBounds_toArray, List.set_cons_zero, List.set_cons_succ])
      refine H_take (k := 23) (v := ?_) (by rfl) (by kernel_rfl) (by kernel_rfl) (by kernel_rfl) (by exact fun _ _ _ h => h) (by rfl) ?_ (by assumption) ?_
      rotate_left 1
      · intro w hSw
        (try dsimp only at hSw)
        go_simp
        (try with_reducible rfl)
      (try simp only [Act.put, List.setIfInBounds_toArray, List.set_cons_zero, List.set_cons_succ])
      refine H_take (k := 24) (v := ?_) (by rfl) (by kernel_rfl) (by kernel_rfl) (by kernel_rfl) (by exact fun _ _ _ h => h) (by rfl) ?_ (by assumption) ?_
      rotate_left 1
      · intro w hSw
        (try dsimp only at hSw)
        go_simp
        (try with_reducible rfl)
      (try simp only [Act.put, List.setIfInBounds_toArray, List.set_cons_zero, List.set_cons_succ])
      refine H_done (by kernel_rfl) ?_
      go_wp2_with fail
      go_meet
      exact ⟨rfl, rfl, rfl, gr_alloc HG13.out _⟩
    · have d1 : decide (talk < 0) = false := decide_eq_false t1
      by_cases t2 : 86400000 < talk
      · have d2 : decide (86400000 < talk) = true := decide_eq_true t2
        go_wp2_with fail
        refine H_begin (fun w' => (w'.cell? ⟨w4.heap.size, 0, none⟩ = some (.slice cA cn cc) ∧ w'.cell? ⟨w4.heap.size, 1, none⟩ = some (.int .i64 free) ∧ w'.cell? ⟨w4.heap.size, 2, none⟩ = some (.slice iA en ic)) ∧ w8.grownBy w' none) (by kernel_rfl) ?_
        have hHeld := npS HT.out (gr_drew (gr_refl w8 none))
        refine H_take (k := 0) (v := ?_) (by rfl) (by kernel_rfl) (by kernel_rfl) (by kernel_rfl) (by exact fun _ _ _ h => h) (by rfl) ?_ (by assumption) ?_
        rotate_left 1
        · intro w hSw
          (try dsimp only at hSw)
          go_simp
          (try with_reducible rfl)
        (try simp only [Act.put, List.setIfInBounds_toArray, List.set_cons_zero, List.set_cons_succ])
        refine H_take (k := 2) (v := ?_) (by rfl) (by kernel_rfl) (by kernel_rfl) (by kernel_rfl) (by exact fun _ _ _ h => h) (by rfl) ?_ (by assumption) ?_
        rotate_left 1
        · intro w hSw
          (try dsimp only at hSw)
          go_simp
          (try with_reducible rfl)
        (try simp only [Act.put, List.setIfInBounds_toArray, List.set_cons_zero, List.set_cons_succ])
        refine H_take (k := 5) (v := ?_) (by rfl) (by kernel_rfl) (by kernel_rfl) (by kernel_rfl) (by exact fun _ _ _ h => h) (by rfl) ?_ (by assumption) ?_
        rotate_left 1
        · intro w hSw
          (try dsimp only at hSw)
          go_simp
          (try with_reducible rfl)
        (try simp only [Act.put, List.setIfInBounds_toArray, List.set_cons_zero, List.set_cons_succ])
        refine H_take (k := 7) (v := ?_) (by rfl) (by kernel_rfl) (by kernel_rfl) (by kernel_rfl) (by exact fun _ _ _ h => h) (by rfl) ?_ (by assumption) ?_
        rotate_left 1
        · intro w hSw
          (try dsimp only at hSw)
          go_simp
          (try with_reducible rfl)
        (try simp only [Act.put, List.setIfInBounds_toArray, List.set_cons_zero, List.set_cons_succ])
        refine H_take (k := 8) (v := ?_) (by rfl) (by kernel_rfl) (by kernel_rfl) (by kernel_rfl) (by exact fun _ _ _ h => h) (by rfl) ?_ (by assumption) ?_
        rotate_left 1
        · intro w hSw
          (try dsimp only at hSw)
          go_simp
          (try with_reducible rfl)
        (try simp only [Act.put, List.setIfInBounds_toArray, List.set_cons_zero, List.set_cons_succ])
        refine H_take (k := 9) (v := ?_) (by rfl) (by kernel_rfl) (by kernel_rfl) (by kernel_rfl) (by exact fun _ _ _ h => h) (by rfl) ?_ (by assumption) ?_
        rotate_left 1
        · intro w hSw
          (try dsimp only at hSw)
          go_simp
          (try with_reducible rfl)
        (try simp only [Act.put, List.setIfInBounds_toArray, List.set_cons_zero, List.set_cons_succ])
        refine H_take (k := 17) (v := ?_) (by rfl) (by kernel_rfl) (by kernel_rfl) (by kernel_rfl) (by exact fun _ _ _ h => h) (by rfl) ?_ (by assumption) ?_
        rotate_left 1
        · intro w hSw
          (try dsimp only at hSw)
          go_simp
          (try with_reducible rfl)
        (try simp only [Act.put, List.setIfInBounds_toArray, List.set_cons_zero, List.set_cons_succ])
        refine H_take (k := 19) (v := ?_) (by rfl) (by kernel_rfl) (by kernel_rfl) (by kernel_rfl) (by exact fun _ _ _ h => h) (by rfl) ?_ (by assumption) ?_
        rotate_left 1
        · intro w hSw
          (try dsimp only at hSw)
          go_simp
          (try with_reducible rfl)
        (try simp only [Act.put, List.setIfInBounds_toArray, List.set_cons_zero, List.set_cons_succ])
        refine H_run (k := 1) (by rfl) (by kernel_rfl) (by rfl) (fun K hK => ?_)
        go_simp
        refine (tariffFault_any _ ⟨cA, cn, cc, free, iA, en, ic, cl, ins⟩ _ (by exact HTF.out.grown (gr_drew (gr_refl w8 none)) (fun g e => by cases e))).mono ?_
        rintro e w11 ⟨rfl, hg11⟩
        have HG11 := Lib.hid (gr_none (gr_drew (gr_refl w8 none)) hg11)
        rw [HET.out]
        clear hg11
        go_simp
        refine hK _ _ (npS HT.out HG11.out) ?_
        clear hK K hHeld
        have hHeld := npS HT.out HG11.out
        refine H_run (k := 3) (by rfl) (by kernel_rfl) (by rfl) (fun K hK => ?_)
        go_simp
        refine hK _ _ (npS HT.out (gr_alloc HG11.out (.cells #[.int .i64 ET, .int .i64 F] 34))) ?_
        clear hK K hHeld
        have hHeld := npS HT.out (gr_alloc HG11.out (.cells #[.int .i64 ET, .int .i64 F] 34))
        refine H_run (k := 4) (by rfl) (by kernel_rfl) (by rfl) (fun K hK => ?_)
        go_simp
        refine (errs_run 0 _ 2 2 [ET, F] _ (by exact (Reads.blk (Blk.new _ _ _) 1 2 rfl).lower (Nat.zero_le _)) (by omega)).mono ?_
        rintro e w' ⟨rfl, rfl⟩
        rw [HO1.out]
        go_simp
        refine hK _ _ (npS HT.out (gr_alloc HG11.out (.cells #[.int .i64 ET, .int .i64 F] 34))) ?_
        clear hK K hHeld
        have hHeld := npS HT.out (gr_alloc HG11.out (.cells #[.int .i64 ET, .int .i64 F] 34))
        refine H_run (k := 6) (by rfl) (by kernel_rfl) (by rfl) (fun K hK => ?_)
        go_simp
        refine (tariffFault_any _ ⟨cA, cn, cc, free, iA, en, ic, cl, ins⟩ _ (by exact HTF.out.grown (gr_alloc HG11.out (.cells #[.int .i64 ET, .int .i64 F] 34)) (fun g e => by cases e))).mono ?_
        rintro e w12 ⟨rfl, hg12⟩
        have HG12 := Lib.hid (gr_none (gr_alloc HG11.out (.cells #[.int .i64 ET, .int .i64 F] 34)) hg12)
        rw [HET.out]
        clear hg12
        go_simp
        refine hK _ _ (npS HT.out HG12.out) ?_
        clear hK K hHeld
        have hHeld := npS HT.out HG12.out
        refine H_take (k := 10) (v := ?_) (by rfl) (by kernel_rfl) (by kernel_rfl) (by kernel_rfl) (by exact fun _ _ _ h => h) (by rfl) ?_ (by assumption) ?_
        rotate_left 1
        · intro w hSw
          (try dsimp only at hSw)
          go_simp
          (try with_reducible rfl)
        (try simp only [Act.put, List.setIfInBounds_toArray, List.set_cons_zero, List.set_cons_succ])
        refine H_take (k := 11) (v := ?_) (by rfl) (by kernel_rfl) (by kernel_rfl) (by kernel_rfl) (by exact fun _ _ _ h => h) (by rfl) ?_ (by assumption) ?_
        rotate_left 1
        · intro w hSw
          (try dsimp only at hSw)
          go_simp
          (try with_reducible rfl)
        (try simp only [Act.put, List.setIfInBounds_toArray, List.set_cons_zero, List.set_cons_succ])
        refine H_take (k := 12) (v := ?_) (by rfl) (by kernel_rfl) (by kernel_rfl) (by kernel_rfl) (by exact fun _ _ _ h => h) (by rfl) ?_ (by assumption) ?_
        rotate_left 1
        · intro w hSw
          (try dsimp only at hSw)
          go_simp
          (try with_reducible rfl)
        (try simp only [Act.put, List.setIfInBounds_toArray, List.set_cons_zero, List.set_cons_succ])
        refine H_take (k := 13) (v := ?_) (by rfl) (by kernel_rfl) (by kernel_rfl) (by kernel_rfl) (by exact fun _ _ _ h => h) (by rfl) ?_ (by assumption) ?_
        rotate_left 1
        · intro w hSw
          (try dsimp only at hSw)
          go_simp
          (try with_reducible rfl)
        (try simp only [Act.put, List.setIfInBounds_toArray, List.set_cons_zero, List.set_cons_succ])
        refine H_run (k := 14) (by rfl) (by kernel_rfl) (by rfl) (fun K hK => ?_)
        go_simp
        refine (whenE_any _ _ _).mono ?_
        rintro e w' ⟨rfl, rfl⟩
        rw [show (if (true : Bool) = true then (1 : Int) else 0) = AT from by rw [← HAT.out]; unfold inB; rw [decide_eq_true (by omega), decide_eq_false (by omega)]; rfl]
        go_simp
        refine hK _ _ (npS HT.out HG12.out) ?_
        clear hK K hHeld
        have hHeld := npS HT.out HG12.out
        refine H_run (k := 15) (by rfl) (by kernel_rfl) (by rfl) (fun K hK => ?_)
        go_simp
        refine hK _ _ (npS HT.out (gr_alloc HG12.out (.cells #[.int .i64 ET, .int .i64 F, .int .i64 AT] 34))) ?_
        clear hK K hHeld
        have hHeld := npS HT.out (gr_alloc HG12.out (.cells #[.int .i64 ET, .int .i64 F, .int .i64 AT] 34))
        refine H_run (k := 16) (by rfl) (by kernel_rfl) (by rfl) (fun K hK => ?_)
        go_simp
        refine (errs_run 0 _ 3 3 [ET, F, AT] _ (by exact (Reads.blk (Blk.new _ _ _) 1 3 rfl).lower (Nat.zero_le _)) (by omega)).mono ?_
        rintro e w' ⟨rfl, rfl⟩
        rw [HO2.out]
        go_simp
        refine hK _ _ (npS HT.out (gr_alloc HG12.out (.cells #[.int .i64 ET, .int .i64 F, .int .i64 AT] 34))) ?_
        clear hK K hHeld
        have hHeld := npS HT.out (gr_alloc HG12.out (.cells #[.int .i64 ET, .int .i64 F, .int .i64 AT] 34))
        refine H_run (k := 18) (by rfl) (by kernel_rfl) (by rfl) (fun K hK => ?_)
        go_simp
        refine (payersFault_any _ _ _ _ l _ (by exact HPY.out.grown (gr_alloc HG12.out (.cells #[.int .i64 ET, .int .i64 F, .int .i64 AT] 34)) (fun g e => by cases e)) (by omega)).mono ?_
        rintro e w13 ⟨rfl, hg13⟩
        have HG13 := Lib.hid (gr_none (gr_alloc HG12.out (.cells #[.int .i64 ET, .int .i64 F, .int .i64 AT] 34)) hg13)
        rw [HEP.out]
        clear hg13
        go_simp
        refine hK _ _ (npS HT.out HG13.out) ?_
        clear hK K hHeld
        have hHeld := npS HT.out HG13.out
        refine H_run (k := 20) (by rfl) (by kernel_rfl) (by rfl) (fun K hK => ?_)
        go_simp
        refine hK _ _ (npS HT.out (gr_alloc HG13.out (.cells #[.int .i64 EP, .int .i64 F] 34))) ?_
        clear hK K hHeld
        have hHeld := npS HT.out (gr_alloc HG13.out (.cells #[.int .i64 EP, .int .i64 F] 34))
        refine H_run (k := 21) (by rfl) (by kernel_rfl) (by rfl) (fun K hK => ?_)
        go_simp
        refine (errs_run 0 _ 2 2 [EP, F] _ (by exact (Reads.blk (Blk.new _ _ _) 1 2 rfl).lower (Nat.zero_le _)) (by omega)).mono ?_
        rintro e w' ⟨rfl, rfl⟩
        rw [← HP1.out]
        go_simp
        refine hK _ _ (npS HT.out (gr_alloc HG13.out (.cells #[.int .i64 EP, .int .i64 F] 34))) ?_
        clear hK K hHeld
        have hHeld := npS HT.out (gr_alloc HG13.out (.cells #[.int .i64 EP, .int .i64 F] 34))
        refine H_take (k := 22) (v := ?_) (by rfl) (by kernel_rfl) (by kernel_rfl) (by kernel_rfl) (by exact fun _ _ _ h => h) (by rfl) ?_ (by assumption) ?_
        rotate_left 1
        · intro w hSw
          (try dsimp only at hSw)
          go_simp
          (try with_reducible rfl)
        (try simp only [Act.put, List.setIfInBounds_toArray, List.set_cons_zero, List.set_cons_succ])
        refine H_take (k := 23) (v := ?_) (by rfl) (by kernel_rfl) (by kernel_rfl) (by kernel_rfl) (by exact fun _ _ _ h => h) (by rfl) ?_ (by assumption) ?_
        rotate_left 1
        · intro w hSw
          (try dsimp only at hSw)
          go_simp
          (try with_reducible rfl)
        (try simp only [Act.put, List.setIfInBounds_toArray, List.set_cons_zero, List.set_cons_succ])
        refine H_take (k := 24) (v := ?_) (by rfl) (by kernel_rfl) (by kernel_rfl) (by kernel_rfl) (by exact fun _ _ _ h => h) (by rfl) ?_ (by assumption) ?_
        rotate_left 1
        · intro w hSw
          (try dsimp only at hSw)
          go_simp
          (try with_reducible rfl)
        (try simp only [Act.put, List.setIfInBounds_toArray, List.set_cons_zero, List.set_cons_succ])
        refine H_done (by kernel_rfl) ?_
        go_wp2_with fail
        go_meet
        exact ⟨rfl, rfl, rfl, gr_alloc HG13.out _⟩
      · have d2 : decide (86400000 < talk) = false := decide_eq_false t2
        go_wp2_with fail
        refine H_begin (fun w' => (w'.cell? ⟨w4.heap.size, 0, none⟩ = some (.slice cA cn cc) ∧ w'.cell? ⟨w4.heap.size, 1, none⟩ = some (.int .i64 free) ∧ w'.cell? ⟨w4.heap.size, 2, none⟩ = some (.slice iA en ic)) ∧ w8.grownBy w' none) (by kernel_rfl) ?_
        have hHeld := npS HT.out (gr_drew (gr_refl w8 none))
        refine H_take (k := 0) (v := ?_) (by rfl) (by kernel_rfl) (by kernel_rfl) (by kernel_rfl) (by exact fun _ _ _ h => h) (by rfl) ?_ (by assumption) ?_
        rotate_left 1
        · intro w hSw
          (try dsimp only at hSw)
          go_simp
          (try with_reducible rfl)
        (try simp only [Act.put, List.setIfInBounds_toArray, List.set_cons_zero, List.set_cons_succ])
        refine H_take (k := 2) (v := ?_) (by rfl) (by kernel_rfl) (by kernel_rfl) (by kernel_rfl) (by exact fun _ _ _ h => h) (by rfl) ?_ (by assumption) ?_
        rotate_left 1
        · intro w hSw
          (try dsimp only at hSw)
          go_simp
          (try with_reducible rfl)
        (try simp only [Act.put, List.setIfInBounds_toArray, List.set_cons_zero, List.set_cons_succ])
        refine H_take (k := 5) (v := ?_) (by rfl) (by kernel_rfl) (by kernel_rfl) (by kernel_rfl) (by exact fun _ _ _ h => h) (by rfl) ?_ (by assumption) ?_
        rotate_left 1
        · intro w hSw
          (try dsimp only at hSw)
          go_simp
          (try with_reducible rfl)
        (try simp only [Act.put, List.setIfInBounds_toArray, List.set_cons_zero, List.set_cons_succ])
        refine H_take (k := 7) (v := ?_) (by rfl) (by kernel_rfl) (by kernel_rfl) (by kernel_rfl) (by exact fun _ _ _ h => h) (by rfl) ?_ (by assumption) ?_
        rotate_left 1
        · intro w hSw
          (try dsimp only at hSw)
          go_simp
          (try with_reducible rfl)
        (try simp only [Act.put, List.setIfInBounds_toArray, List.set_cons_zero, List.set_cons_succ])
        refine H_take (k := 8) (v := ?_) (by rfl) (by kernel_rfl) (by kernel_rfl) (by kernel_rfl) (by exact fun _ _ _ h => h) (by rfl) ?_ (by assumption) ?_
        rotate_left 1
        · intro w hSw
          (try dsimp only at hSw)
          go_simp
          (try with_reducible rfl)
        (try simp only [Act.put, List.setIfInBounds_toArray, List.set_cons_zero, List.set_cons_succ])
        refine H_take (k := 9) (v := ?_) (by rfl) (by kernel_rfl) (by kernel_rfl) (by kernel_rfl) (by exact fun _ _ _ h => h) (by rfl) ?_ (by assumption) ?_
        rotate_left 1
        · intro w hSw
          (try dsimp only at hSw)
          go_simp
          (try with_reducible rfl)
        (try simp only [Act.put, List.setIfInBounds_toArray, List.set_cons_zero, List.set_cons_succ])
        refine H_take (k := 17) (v := ?_) (by rfl) (by kernel_rfl) (by kernel_rfl) (by kernel_rfl) (by exact fun _ _ _ h => h) (by rfl) ?_ (by assumption) ?_
        rotate_left 1
        · intro w hSw
          (try dsimp only at hSw)
          go_simp
          (try with_reducible rfl)
        (try simp only [Act.put, List.setIfInBounds_toArray, List.set_cons_zero, List.set_cons_succ])
        refine H_take (k := 19) (v := ?_) (by rfl) (by kernel_rfl) (by kernel_rfl) (by kernel_rfl) (by exact fun _ _ _ h => h) (by rfl) ?_ (by assumption) ?_
        rotate_left 1
        · intro w hSw
          (try dsimp only at hSw)
          go_simp
          (try with_reducible rfl)
        (try simp only [Act.put, List.setIfInBounds_toArray, List.set_cons_zero, List.set_cons_succ])
        refine H_run (k := 1) (by rfl) (by kernel_rfl) (by rfl) (fun K hK => ?_)
        go_simp
        refine (tariffFault_any _ ⟨cA, cn, cc, free, iA, en, ic, cl, ins⟩ _ (by exact HTF.out.grown (gr_drew (gr_refl w8 none)) (fun g e => by cases e))).mono ?_
        rintro e w11 ⟨rfl, hg11⟩
        have HG11 := Lib.hid (gr_none (gr_drew (gr_refl w8 none)) hg11)
        rw [HET.out]
        clear hg11
        go_simp
        refine hK _ _ (npS HT.out HG11.out) ?_
        clear hK K hHeld
        have hHeld := npS HT.out HG11.out
        refine H_run (k := 3) (by rfl) (by kernel_rfl) (by rfl) (fun K hK => ?_)
        go_simp
        refine hK _ _ (npS HT.out (gr_alloc HG11.out (.cells #[.int .i64 ET, .int .i64 F] 34))) ?_
        clear hK K hHeld
        have hHeld := npS HT.out (gr_alloc HG11.out (.cells #[.int .i64 ET, .int .i64 F] 34))
        refine H_run (k := 4) (by rfl) (by kernel_rfl) (by rfl) (fun K hK => ?_)
        go_simp
        refine (errs_run 0 _ 2 2 [ET, F] _ (by exact (Reads.blk (Blk.new _ _ _) 1 2 rfl).lower (Nat.zero_le _)) (by omega)).mono ?_
        rintro e w' ⟨rfl, rfl⟩
        rw [HO1.out]
        go_simp
        refine hK _ _ (npS HT.out (gr_alloc HG11.out (.cells #[.int .i64 ET, .int .i64 F] 34))) ?_
        clear hK K hHeld
        have hHeld := npS HT.out (gr_alloc HG11.out (.cells #[.int .i64 ET, .int .i64 F] 34))
        refine H_run (k := 6) (by rfl) (by kernel_rfl) (by rfl) (fun K hK => ?_)
        go_simp
        refine (tariffFault_any _ ⟨cA, cn, cc, free, iA, en, ic, cl, ins⟩ _ (by exact HTF.out.grown (gr_alloc HG11.out (.cells #[.int .i64 ET, .int .i64 F] 34)) (fun g e => by cases e))).mono ?_
        rintro e w12 ⟨rfl, hg12⟩
        have HG12 := Lib.hid (gr_none (gr_alloc HG11.out (.cells #[.int .i64 ET, .int .i64 F] 34)) hg12)
        rw [HET.out]
        clear hg12
        go_simp
        refine hK _ _ (npS HT.out HG12.out) ?_
        clear hK K hHeld
        have hHeld := npS HT.out HG12.out
        refine H_take (k := 10) (v := ?_) (by rfl) (by kernel_rfl) (by kernel_rfl) (by kernel_rfl) (by exact fun _ _ _ h => h) (by rfl) ?_ (by assumption) ?_
        rotate_left 1
        · intro w hSw
          (try dsimp only at hSw)
          go_simp
          (try with_reducible rfl)
        (try simp only [Act.put, List.setIfInBounds_toArray, List.set_cons_zero, List.set_cons_succ])
        refine H_take (k := 11) (v := ?_) (by rfl) (by kernel_rfl) (by kernel_rfl) (by kernel_rfl) (by exact fun _ _ _ h => h) (by rfl) ?_ (by assumption) ?_
        rotate_left 1
        · intro w hSw
          (try dsimp only at hSw)
          go_simp
          (try with_reducible rfl)
        (try simp only [Act.put, List.setIfInBounds_toArray, List.set_cons_zero, List.set_cons_succ])
        refine H_take (k := 12) (v := ?_) (by rfl) (by kernel_rfl) (by kernel_rfl) (by kernel_rfl) (by exact fun _ _ _ h => h) (by rfl) ?_ (by assumption) ?_
        rotate_left 1
        · intro w hSw
          (try dsimp only at hSw)
          go_simp
          (try with_reducible rfl)
        (try simp only [Act.put, List.setIfInBounds_toArray, List.set_cons_zero, List.set_cons_succ])
        refine H_take (k := 13) (v := ?_) (by rfl) (by kernel_rfl) (by kernel_rfl) (by kernel_rfl) (by exact fun _ _ _ h => h) (by rfl) ?_ (by assumption) ?_
        rotate_left 1
        · intro w hSw
          (try dsimp only at hSw)
          go_simp
          (try with_reducible rfl)
        (try simp only [Act.put, List.setIfInBounds_toArray, List.set_cons_zero, List.set_cons_succ])
        refine H_run (k := 14) (by rfl) (by kernel_rfl) (by rfl) (fun K hK => ?_)
        go_simp
        refine (whenE_any _ _ _).mono ?_
        rintro e w' ⟨rfl, rfl⟩
        rw [show (if (false : Bool) = true then (1 : Int) else 0) = AT from by rw [← HAT.out]; unfold inB; rw [decide_eq_true (by omega), decide_eq_true (by omega)]; rfl]
        go_simp
        refine hK _ _ (npS HT.out HG12.out) ?_
        clear hK K hHeld
        have hHeld := npS HT.out HG12.out
        refine H_run (k := 15) (by rfl) (by kernel_rfl) (by rfl) (fun K hK => ?_)
        go_simp
        refine hK _ _ (npS HT.out (gr_alloc HG12.out (.cells #[.int .i64 ET, .int .i64 F, .int .i64 AT] 34))) ?_
        clear hK K hHeld
        have hHeld := npS HT.out (gr_alloc HG12.out (.cells #[.int .i64 ET, .int .i64 F, .int .i64 AT] 34))
        refine H_run (k := 16) (by rfl) (by kernel_rfl) (by rfl) (fun K hK => ?_)
        go_simp
        refine (errs_run 0 _ 3 3 [ET, F, AT] _ (by exact (Reads.blk (Blk.new _ _ _) 1 3 rfl).lower (Nat.zero_le _)) (by omega)).mono ?_
        rintro e w' ⟨rfl, rfl⟩
        rw [HO2.out]
        go_simp
        refine hK _ _ (npS HT.out (gr_alloc HG12.out (.cells #[.int .i64 ET, .int .i64 F, .int .i64 AT] 34))) ?_
        clear hK K hHeld
        have hHeld := npS HT.out (gr_alloc HG12.out (.cells #[.int .i64 ET, .int .i64 F, .int .i64 AT] 34))
        refine H_run (k := 18) (by rfl) (by kernel_rfl) (by rfl) (fun K hK => ?_)
        go_simp
        refine (payersFault_any _ _ _ _ l _ (by exact HPY.out.grown (gr_alloc HG12.out (.cells #[.int .i64 ET, .int .i64 F, .int .i64 AT] 34)) (fun g e => by cases e)) (by omega)).mono ?_
        rintro e w13 ⟨rfl, hg13⟩
        have HG13 := Lib.hid (gr_none (gr_alloc HG12.out (.cells #[.int .i64 ET, .int .i64 F, .int .i64 AT] 34)) hg13)
        rw [HEP.out]
        clear hg13
        go_simp
        refine hK _ _ (npS HT.out HG13.out) ?_
        clear hK K hHeld
        have hHeld := npS HT.out HG13.out
        refine H_run (k := 20) (by rfl) (by kernel_rfl) (by rfl) (fun K hK => ?_)
        go_simp
        refine hK _ _ (npS HT.out (gr_alloc HG13.out (.cells #[.int .i64 EP, .int .i64 F] 34))) ?_
        clear hK K hHeld
        have hHeld := npS HT.out (gr_alloc HG13.out (.cells #[.int .i64 EP, .int .i64 F] 34))
        refine H_run (k := 21) (by rfl) (by kernel_rfl) (by rfl) (fun K hK => ?_)
        go_simp
        refine (errs_run 0 _ 2 2 [EP, F] _ (by exact (Reads.blk (Blk.new _ _ _) 1 2 rfl).lower (Nat.zero_le _)) (by omega)).mono ?_
        rintro e w' ⟨rfl, rfl⟩
        rw [← HP1.out]
        go_simp
        refine hK _ _ (npS HT.out (gr_alloc HG13.out (.cells #[.int .i64 EP, .int .i64 F] 34))) ?_
        clear hK K hHeld
        have hHeld := npS HT.out (gr_alloc HG13.out (.cells #[.int .i64 EP, .int .i64 F] 34))
        refine H_take (k := 22) (v := ?_) (by rfl) (by kernel_rfl) (by kernel_rfl) (by kernel_rfl) (by exact fun _ _ _ h => h) (by rfl) ?_ (by assumption) ?_
        rotate_left 1
        · intro w hSw
          (try dsimp only at hSw)
          go_simp
          (try with_reducible rfl)
        (try simp only [Act.put, List.setIfInBounds_toArray, List.set_cons_zero, List.set_cons_succ])
        refine H_take (k := 23) (v := ?_) (by rfl) (by kernel_rfl) (by kernel_rfl) (by kernel_rfl) (by exact fun _ _ _ h => h) (by rfl) ?_ (by assumption) ?_
        rotate_left 1
        · intro w hSw
          (try dsimp only at hSw)
          go_simp
          (try with_reducible rfl)
        (try simp only [Act.put, List.setIfInBounds_toArray, List.set_cons_zero, List.set_cons_succ])
        refine H_take (k := 24) (v := ?_) (by rfl) (by kernel_rfl) (by kernel_rfl) (by kernel_rfl) (by exact fun _ _ _ h => h) (by rfl) ?_ (by assumption) ?_
        rotate_left 1
        · intro w hSw
          (try dsimp only at hSw)
          go_simp
          (try with_reducible rfl)
        (try simp only [Act.put, List.setIfInBounds_toArray, List.set_cons_zero, List.set_cons_succ])
        refine H_done (by kernel_rfl) ?_
        go_wp2_with fail
        go_meet
        exact ⟨rfl, rfl, rfl, gr_alloc HG13.out _⟩
  case rest =>
    obtain ⟨rfl, rfl, rfl, hgc⟩ := hcut
    have hg9 := hgc; clear hgc
    replace HT := Lib.hid (HT.out.grown hg9 (by simp))
    replace HTF := Lib.hid (HTF.out.grown hg9 (fun g e => by cases e))
    replace HPY := Lib.hid (HPY.out.grown hg9 (fun g e => by cases e))
    replace HG := Lib.hid (gr_none HG.out hg9)
    replace HK := Lib.hid (HK.out.grown hg9 (by simp))
    have z9 := hg9.size; (try simp at z9)
    clear hg9
    have q1 : (ET != ET) = false := by simp
    have q2 : (EP != EP) = false := by simp
    go_wp2_with fail
    refine H_begin (fun w' => (w'.cell? ⟨w4.heap.size, 0, none⟩ = some (.slice cA cn cc) ∧ w'.cell? ⟨w4.heap.size, 1, none⟩ = some (.int .i64 free) ∧ w'.cell? ⟨w4.heap.size, 2, none⟩ = some (.slice iA en ic)) ∧ wc.grownBy w' none) (by kernel_rfl) ?_
    have hHeld := npS HT.out (gr_drew (gr_refl wc none))
    refine H_take (k := 0) (v := ?_) (by rfl) (by kernel_rfl) (by kernel_rfl) (by kernel_rfl) (by exact fun _ _ _ h => h) (by rfl) ?_ (by assumption) ?_
    rotate_left 1
    · intro w hSw
      (try dsimp only at hSw)
      go_simp
      (try with_reducible rfl)
    (try simp only [Act.put, List.setIfInBounds_toArray, List.set_cons_zero, List.set_cons_succ])
    refine H_take (k := 2) (v := ?_) (by rfl) (by kernel_rfl) (by kernel_rfl) (by kernel_rfl) (by exact fun _ _ _ h => h) (by rfl) ?_ (by assumption) ?_
    rotate_left 1
    · intro w hSw
      (try dsimp only at hSw)
      go_simp
      (try with_reducible rfl)
    (try simp only [Act.put, List.setIfInBounds_toArray, List.set_cons_zero, List.set_cons_succ])
    refine H_run (k := 1) (by rfl) (by kernel_rfl) (by rfl) (fun K hK => ?_)
    go_simp
    refine (checkTariff_any _ ⟨cA, cn, cc, free, iA, en, ic, cl, ins⟩ _ (by exact HTF.out.grown (gr_drew (gr_refl wc none)) (fun g e => by cases e))).mono ?_
    rintro e w21 ⟨rfl, hg21⟩
    have HG21 := Lib.hid (gr_none (gr_drew (gr_refl wc none)) hg21)
    rw [HET.out]
    clear hg21
    go_simp
    refine hK _ _ (npS HT.out HG21.out) ?_
    clear hK K hHeld
    have hHeld := npS HT.out HG21.out
    refine H_run (k := 3) (by rfl) (by kernel_rfl) (by rfl) (fun K hK => ?_)
    go_simp
    refine (tariffFault_any _ ⟨cA, cn, cc, free, iA, en, ic, cl, ins⟩ _ (by exact HTF.out.grown (HG21.out) (fun g e => by cases e))).mono ?_
    rintro e w22 ⟨rfl, hg22⟩
    have HG22 := Lib.hid (gr_none (HG21.out) hg22)
    rw [HET.out]
    clear hg22
    go_simp
    refine hK _ _ (npS HT.out HG22.out) ?_
    clear hK K hHeld
    have hHeld := npS HT.out HG22.out
    refine H_take (k := 4) (v := ?_) (by rfl) (by kernel_rfl) (by kernel_rfl) (by kernel_rfl) (by exact fun _ _ _ h => h) (by rfl) ?_ (by assumption) ?_
    rotate_left 1
    · intro w hSw
      (try dsimp only at hSw)
      go_simp
      (try with_reducible rfl)
    (try simp only [Act.put, List.setIfInBounds_toArray, List.set_cons_zero, List.set_cons_succ])
    refine H_take (k := 5) (v := ?_) (by rfl) (by kernel_rfl) (by kernel_rfl) (by kernel_rfl) (by exact fun _ _ _ h => h) (by rfl) ?_ (by assumption) ?_
    rotate_left 1
    · intro w hSw
      (try dsimp only at hSw)
      go_simp
      (try with_reducible rfl)
    (try simp only [Act.put, List.setIfInBounds_toArray, List.set_cons_zero, List.set_cons_succ])
    refine H_take (k := 6) (v := ?_) (by rfl) (by kernel_rfl) (by kernel_rfl) (by kernel_rfl) (by exact fun _ _ _ h => h) (by rfl) ?_ (by assumption) ?_
    rotate_left 1
    · intro w hSw
      (try dsimp only at hSw)
      go_simp
      (try with_reducible rfl)
    (try simp only [Act.put, List.setIfInBounds_toArray, List.set_cons_zero, List.set_cons_succ])
    refine H_take (k := 8) (v := ?_) (by rfl) (by kernel_rfl) (by kernel_rfl) (by kernel_rfl) (by exact fun _ _ _ h => h) (by rfl) ?_ (by assumption) ?_
    rotate_left 1
    · intro w hSw
      (try dsimp only at hSw)
      go_simp
      (try with_reducible rfl)
    (try simp only [Act.put, List.setIfInBounds_toArray, List.set_cons_zero, List.set_cons_succ])
    refine H_run (k := 7) (by rfl) (by kernel_rfl) (by rfl) (fun K hK => ?_)
    go_simp
    refine (checkPayers_any _ _ _ _ l _ (by exact HPY.out.grown (HG22.out) (fun g e => by cases e)) (by omega)).mono ?_
    rintro e w23 ⟨rfl, hg23⟩
    have HG23 := Lib.hid (gr_none (HG22.out) hg23)
    rw [HEP.out]
    clear hg23
    go_simp
    refine hK _ _ (npS HT.out HG23.out) ?_
    clear hK K hHeld
    have hHeld := npS HT.out HG23.out
    refine H_run (k := 9) (by rfl) (by kernel_rfl) (by rfl) (fun K hK => ?_)
    go_simp
    refine (payersFault_any _ _ _ _ l _ (by exact HPY.out.grown (HG23.out) (fun g e => by cases e)) (by omega)).mono ?_
    rintro e w24 ⟨rfl, hg24⟩
    have HG24 := Lib.hid (gr_none (HG23.out) hg24)
    rw [HEP.out]
    clear hg24
    go_simp
    refine hK _ _ (npS HT.out HG24.out) ?_
    clear hK K hHeld
    have hHeld := npS HT.out HG24.out
    refine H_take (k := 10) (v := ?_) (by rfl) (by kernel_rfl) (by kernel_rfl) (by kernel_rfl) (by exact fun _ _ _ h => h) (by rfl) ?_ (by assumption) ?_
    rotate_left 1
    · intro w hSw
      (try dsimp only at hSw)
      go_simp
      (try with_reducible rfl)
    (try simp only [Act.put, List.setIfInBounds_toArray, List.set_cons_zero, List.set_cons_succ])
    refine H_take (k := 11) (v := ?_) (by rfl) (by kernel_rfl) (by kernel_rfl) (by kernel_rfl) (by exact fun _ _ _ h => h) (by rfl) ?_ (by assumption) ?_
    rotate_left 1
    · intro w hSw
      (try dsimp only at hSw)
      go_simp
      (try with_reducible rfl)
    (try simp only [Act.put, List.setIfInBounds_toArray, List.set_cons_zero, List.set_cons_succ])
    refine H_done (by kernel_rfl) ?_
    clear hHeld q1 q2
    have hg24 := HG24.out
    clear HG21 HG22 HG23 HG24
    replace HT := Lib.hid (HT.out.grown hg24 (by simp))
    replace HTF := Lib.hid (HTF.out.grown hg24 (fun g e => by cases e))
    replace HPY := Lib.hid (HPY.out.grown hg24 (fun g e => by cases e))
    replace HG := Lib.hid (gr_none HG.out hg24)
    replace HK := Lib.hid (HK.out.grown hg24 (by simp))
    have z24 := hg24.size; (try simp at z24)
    clear hg24
    go_wp2_with (first
      | (refine wpl_load_all Tryd.tfT rfl _ rfl _ rfl _ _ HT.out rfl ?_)
      | fail)
    refine (classFor_any _ ⟨cA, cn, cc, free, iA, en, ic, cl, ins⟩ s _ (by exact HTF.out) (by omega)).mono ?_
    rintro e w25 ⟨rfl, hg25⟩
    rw [show clsOf (TfV.cl ⟨cA, cn, cc, free, iA, en, ic, cl, ins⟩) (nb s) = C from HC.out]
    replace HT := Lib.hid (HT.out.grown hg25 (by simp))
    replace HTF := Lib.hid (HTF.out.grown hg25 (fun g e => by cases e))
    replace HPY := Lib.hid (HPY.out.grown hg25 (fun g e => by cases e))
    replace HG := Lib.hid (gr_none HG.out hg25)
    replace HK := Lib.hid (HK.out.grown hg25 (by simp))
    have z25 := hg25.size; (try simp at z25)
    clear hg25
    have HER1 := Lib.hid (show firstE [O1, N] = CE by rw [HC1.out, HO1.out])
    have HER2 := Lib.hid (show firstE [O2, N] = PE by rw [HD1.out, HO2.out])
    cases C with
    | none =>
      rw [show clsRow none = #[.string ⟨#[]⟩, .string ⟨#[]⟩, .int .i64 0, .int .i64 0, .int .i64 0, .int .i64 0] from rfl]
      have HCB := Lib.hid (Blk.new w25 64 #[.string ⟨#[]⟩, .string ⟨#[]⟩, .int .i64 0, .int .i64 0, .int .i64 0, .int .i64 0])
      replace HK := Lib.hid (HK.out.alloc (.cells #[.string ⟨#[]⟩, .string ⟨#[]⟩, .int .i64 0, .int .i64 0, .int .i64 0, .int .i64 0] 64))
      replace HPY := Lib.hid (HPY.out.grown (gr_alloc (gr_refl _ none) (.cells #[.string ⟨#[]⟩, .string ⟨#[]⟩, .int .i64 0, .int .i64 0, .int .i64 0, .int .i64 0] 64)) (fun g e => by cases e))
      replace HG := Lib.hid (gr_alloc HG.out (.cells #[.string ⟨#[]⟩, .string ⟨#[]⟩, .int .i64 0, .int .i64 0, .int .i64 0, .int .i64 0] 64))
      clear HT HTF
      go_wp2_with fail
      refine (whenE_any _ _ _).mono ?_
      rintro e w' ⟨rfl, rfl⟩
      rw [show (if (true : Bool) = true then (8 : Int) else 0) = N from HN.out]
      go_wp2_with fail
      refine (errs_run 0 _ 2 2 [O1, N] _ (by exact (Reads.blk (cs := [.int .i64 O1, .int .i64 N]) (blkN _ _ _ (by simp)) 1 2 rfl).lower (Nat.zero_le _)) (by omega)).mono ?_
      rintro e w' ⟨rfl, rfl⟩
      rw [HER1.out]
      go_wp2_with fail
      refine (errs_run 0 _ 2 2 [O2, N] _ (by exact (Reads.blk (cs := [.int .i64 O2, .int .i64 N]) (blkN _ _ _ (by simp)) 1 2 rfl).lower (Nat.zero_le _)) (by omega)).mono ?_
      rintro e w' ⟨rfl, rfl⟩
      rw [HER2.out]
      clear HER1 HER2
      by_cases h1 : CE = 0 <;> by_cases h2 : PE = 0 <;> by_cases h3 : YE = 0
      · obtain ⟨_, _, cx, e2, _⟩ := HD2.out h2
        cases e2
      · obtain ⟨_, _, cx, e2, _⟩ := HD2.out h2
        cases e2
      · have HZ := Lib.hid (blkN (((w25.alloc (.cells #[.string ⟨#[]⟩, .string ⟨#[]⟩, .int .i64 0, .int .i64 0, .int .i64 0, .int .i64 0] 64)).alloc (.cells #[.int .i64 O1, .int .i64 N] 34)).alloc (.cells #[.int .i64 O2, .int .i64 N] 34)) 64 #[.string ⟨#[]⟩, .string ⟨#[]⟩, .int .i64 0, .int .i64 0, .int .i64 0, .int .i64 0] (g := w25.heap.size + 3) (by simp))
        have HCB0 := Lib.hid (((HCB.out.alloc (.cells #[.int .i64 O1, .int .i64 N] 34)).alloc (.cells #[.int .i64 O2, .int .i64 N] 34)).alloc (.cells #[.string ⟨#[]⟩, .string ⟨#[]⟩, .int .i64 0, .int .i64 0, .int .i64 0, .int .i64 0] 64))
        replace HCB := Lib.hid (((HCB.out.alloc (.cells #[.int .i64 O1, .int .i64 N] 34)).alloc (.cells #[.int .i64 O2, .int .i64 N] 34)).alloc (.cells #[.string ⟨#[]⟩, .string ⟨#[]⟩, .int .i64 0, .int .i64 0, .int .i64 0, .int .i64 0] 64))
        replace HK := Lib.hid (((HK.out.alloc (.cells #[.int .i64 O1, .int .i64 N] 34)).alloc (.cells #[.int .i64 O2, .int .i64 N] 34)).alloc (.cells #[.string ⟨#[]⟩, .string ⟨#[]⟩, .int .i64 0, .int .i64 0, .int .i64 0, .int .i64 0] 64))
        replace HPY := Lib.hid (HPY.out.grown (gr_alloc (gr_alloc (gr_alloc (gr_refl _ none) (.cells #[.int .i64 O1, .int .i64 N] 34)) (.cells #[.int .i64 O2, .int .i64 N] 34)) (.cells #[.string ⟨#[]⟩, .string ⟨#[]⟩, .int .i64 0, .int .i64 0, .int .i64 0, .int .i64 0] 64)) (fun g e => by cases e))
        replace HG := Lib.hid (gr_alloc (gr_alloc (gr_alloc HG.out (.cells #[.int .i64 O1, .int .i64 N] 34)) (.cells #[.int .i64 O2, .int .i64 N] 34)) (.cells #[.string ⟨#[]⟩, .string ⟨#[]⟩, .int .i64 0, .int .i64 0, .int .i64 0, .int .i64 0] 64))
        have b1 : (CE == 0) = true := by simpa using h1
        have b2 : (PE == 0) = false := by simpa using h2
        have b3 : (YE == 0) = true := by simpa using h3
        have hca := HC2.out h1
        have hr := HROW.out
        rw [hca] at hr
        simp only [clsRow, Option.elim, Array.mk.injEq, List.cons.injEq, Value.string.injEq, Value.int.injEq, true_and, and_true] at hr
        obtain ⟨rfl, rfl, rfl, rfl, rfl, rfl⟩ := hr
        clear hca HROW HC2 HC3
        obtain rfl := HD3.out h2
        clear HD2 HD3
        have HYP := Lib.hid (HP2.out h3)
        clear HP2 HP3
        clear h1 h2 h3 HCE HCA HPE HPA HYE HYA HC1 HD1 HP1 HO1 HO2 HET HEP HPH HF HN HAT
        go_wp2_with (first
          | (refine wpl_load_all Tryd.clT rfl _ rfl _ rfl _ _ HCB0.out rfl ?_)
          | (refine wpl_load_all Tryd.clT rfl _ rfl _ rfl _ _ HCB.out rfl ?_)
          | fail)
        refine (payerFor_any _ _ _ _ l s _ (by exact HPY.out) (by omega)).mono ?_
        rintro e w27 ⟨rfl, hg27⟩
        rw [← HYP.out]
        replace HZ := Lib.hid (HZ.out.grown hg27 (by simp))
        replace HCB := Lib.hid (HCB.out.grown hg27 (by simp))
        replace HK := Lib.hid (HK.out.grown hg27 (by simp))
        replace HPY := Lib.hid (HPY.out.grown hg27 (fun g e => by cases e))
        replace HG := Lib.hid (gr_none HG.out hg27)
        clear hg27
        have k0 := HK.out.cell 0
        have y0 := HZ.out.cell 0
        have k1 := HK.out.cell 1
        have y1 := HZ.out.cell 1
        have k2 := HK.out.cell 2
        have y2 := HZ.out.cell 2
        have k3 := HK.out.cell 3
        have y3 := HZ.out.cell 3
        have k4 := HK.out.cell 4
        have y4 := HZ.out.cell 4
        have k5 := HK.out.cell 5
        have y5 := HZ.out.cell 5
        go_wp2_with (first
          | (go_at_call 38; refine (accounted_true _).mono ?_; rintro e w30 ⟨rfl, hg30⟩; have HG30 := Lib.hid (gr_none HG.out hg30); clear hg30)
          | fail)
        go_ret
        refine ⟨rfl, ?_⟩
        have hfin := HG30.out
        rw [← HSB.out] at hfin
        exact below_of_gr hfin
      · have HZ := Lib.hid (blkN (((w25.alloc (.cells #[.string ⟨#[]⟩, .string ⟨#[]⟩, .int .i64 0, .int .i64 0, .int .i64 0, .int .i64 0] 64)).alloc (.cells #[.int .i64 O1, .int .i64 N] 34)).alloc (.cells #[.int .i64 O2, .int .i64 N] 34)) 64 #[.string ⟨#[]⟩, .string ⟨#[]⟩, .int .i64 0, .int .i64 0, .int .i64 0, .int .i64 0] (g := w25.heap.size + 3) (by simp))
        have HCB0 := Lib.hid (((HCB.out.alloc (.cells #[.int .i64 O1, .int .i64 N] 34)).alloc (.cells #[.int .i64 O2, .int .i64 N] 34)).alloc (.cells #[.string ⟨#[]⟩, .string ⟨#[]⟩, .int .i64 0, .int .i64 0, .int .i64 0, .int .i64 0] 64))
        replace HCB := Lib.hid (((HCB.out.alloc (.cells #[.int .i64 O1, .int .i64 N] 34)).alloc (.cells #[.int .i64 O2, .int .i64 N] 34)).alloc (.cells #[.string ⟨#[]⟩, .string ⟨#[]⟩, .int .i64 0, .int .i64 0, .int .i64 0, .int .i64 0] 64))
        replace HK := Lib.hid (((HK.out.alloc (.cells #[.int .i64 O1, .int .i64 N] 34)).alloc (.cells #[.int .i64 O2, .int .i64 N] 34)).alloc (.cells #[.string ⟨#[]⟩, .string ⟨#[]⟩, .int .i64 0, .int .i64 0, .int .i64 0, .int .i64 0] 64))
        replace HPY := Lib.hid (HPY.out.grown (gr_alloc (gr_alloc (gr_alloc (gr_refl _ none) (.cells #[.int .i64 O1, .int .i64 N] 34)) (.cells #[.int .i64 O2, .int .i64 N] 34)) (.cells #[.string ⟨#[]⟩, .string ⟨#[]⟩, .int .i64 0, .int .i64 0, .int .i64 0, .int .i64 0] 64)) (fun g e => by cases e))
        replace HG := Lib.hid (gr_alloc (gr_alloc (gr_alloc HG.out (.cells #[.int .i64 O1, .int .i64 N] 34)) (.cells #[.int .i64 O2, .int .i64 N] 34)) (.cells #[.string ⟨#[]⟩, .string ⟨#[]⟩, .int .i64 0, .int .i64 0, .int .i64 0, .int .i64 0] 64))
        have b1 : (CE == 0) = true := by simpa using h1
        have b2 : (PE == 0) = false := by simpa using h2
        have b3 : (YE == 0) = false := by simpa using h3
        have hca := HC2.out h1
        have hr := HROW.out
        rw [hca] at hr
        simp only [clsRow, Option.elim, Array.mk.injEq, List.cons.injEq, Value.string.injEq, Value.int.injEq, true_and, and_true] at hr
        obtain ⟨rfl, rfl, rfl, rfl, rfl, rfl⟩ := hr
        clear hca HROW HC2 HC3
        obtain rfl := HD3.out h2
        clear HD2 HD3
        obtain rfl := HP3.out h3
        have eo : optS none = ⟨#[]⟩ := rfl
        clear HP2 HP3
        clear h1 h2 h3 HCE HCA HPE HPA HYE HYA HC1 HD1 HP1 HO1 HO2 HET HEP HPH HF HN HAT
        have k0 := HK.out.cell 0
        have y0 := HZ.out.cell 0
        have k1 := HK.out.cell 1
        have y1 := HZ.out.cell 1
        have k2 := HK.out.cell 2
        have y2 := HZ.out.cell 2
        have k3 := HK.out.cell 3
        have y3 := HZ.out.cell 3
        have k4 := HK.out.cell 4
        have y4 := HZ.out.cell 4
        have k5 := HK.out.cell 5
        have y5 := HZ.out.cell 5
        go_wp2_with (first
          | (refine wpl_load_all Tryd.clT rfl _ rfl _ rfl _ _ HCB0.out rfl ?_)
          | (refine wpl_load_all Tryd.clT rfl _ rfl _ rfl _ _ HCB.out rfl ?_)
          | (go_at_call 38; refine (accounted_true _).mono ?_; rintro e w30 ⟨rfl, hg30⟩; have HG30 := Lib.hid (gr_none HG.out hg30); clear hg30)
          | fail)
        go_ret
        refine ⟨rfl, ?_⟩
        have hfin := HG30.out
        rw [← HSB.out] at hfin
        exact below_of_gr hfin
      · obtain ⟨_, _, cx, e2, _⟩ := HD2.out h2
        cases e2
      · obtain ⟨_, _, cx, e2, _⟩ := HD2.out h2
        cases e2
      · have HZ := Lib.hid (blkN (((w25.alloc (.cells #[.string ⟨#[]⟩, .string ⟨#[]⟩, .int .i64 0, .int .i64 0, .int .i64 0, .int .i64 0] 64)).alloc (.cells #[.int .i64 O1, .int .i64 N] 34)).alloc (.cells #[.int .i64 O2, .int .i64 N] 34)) 64 #[.string ⟨#[]⟩, .string ⟨#[]⟩, .int .i64 0, .int .i64 0, .int .i64 0, .int .i64 0] (g := w25.heap.size + 3) (by simp))
        have HCB0 := Lib.hid (((HCB.out.alloc (.cells #[.int .i64 O1, .int .i64 N] 34)).alloc (.cells #[.int .i64 O2, .int .i64 N] 34)).alloc (.cells #[.string ⟨#[]⟩, .string ⟨#[]⟩, .int .i64 0, .int .i64 0, .int .i64 0, .int .i64 0] 64))
        replace HCB := Lib.hid (((HCB.out.alloc (.cells #[.int .i64 O1, .int .i64 N] 34)).alloc (.cells #[.int .i64 O2, .int .i64 N] 34)).alloc (.cells #[.string ⟨#[]⟩, .string ⟨#[]⟩, .int .i64 0, .int .i64 0, .int .i64 0, .int .i64 0] 64))
        replace HK := Lib.hid (((HK.out.alloc (.cells #[.int .i64 O1, .int .i64 N] 34)).alloc (.cells #[.int .i64 O2, .int .i64 N] 34)).alloc (.cells #[.string ⟨#[]⟩, .string ⟨#[]⟩, .int .i64 0, .int .i64 0, .int .i64 0, .int .i64 0] 64))
        replace HPY := Lib.hid (HPY.out.grown (gr_alloc (gr_alloc (gr_alloc (gr_refl _ none) (.cells #[.int .i64 O1, .int .i64 N] 34)) (.cells #[.int .i64 O2, .int .i64 N] 34)) (.cells #[.string ⟨#[]⟩, .string ⟨#[]⟩, .int .i64 0, .int .i64 0, .int .i64 0, .int .i64 0] 64)) (fun g e => by cases e))
        replace HG := Lib.hid (gr_alloc (gr_alloc (gr_alloc HG.out (.cells #[.int .i64 O1, .int .i64 N] 34)) (.cells #[.int .i64 O2, .int .i64 N] 34)) (.cells #[.string ⟨#[]⟩, .string ⟨#[]⟩, .int .i64 0, .int .i64 0, .int .i64 0, .int .i64 0] 64))
        have b1 : (CE == 0) = false := by simpa using h1
        have b2 : (PE == 0) = false := by simpa using h2
        have b3 : (YE == 0) = true := by simpa using h3
        have hca := HC3.out h1
        have hr := HROW.out
        rw [hca] at hr
        simp only [clsRow, Option.elim, Array.mk.injEq, List.cons.injEq, Value.string.injEq, Value.int.injEq, true_and, and_true] at hr
        obtain ⟨rfl, rfl, rfl, rfl, rfl, rfl⟩ := hr
        clear hca HROW HC2 HC3
        obtain rfl := HD3.out h2
        clear HD2 HD3
        have HYP := Lib.hid (HP2.out h3)
        clear HP2 HP3
        clear h1 h2 h3 HCE HCA HPE HPA HYE HYA HC1 HD1 HP1 HO1 HO2 HET HEP HPH HF HN HAT
        go_wp2_with (first
          | fail)
        refine (payerFor_any _ _ _ _ l s _ (by exact HPY.out) (by omega)).mono ?_
        rintro e w27 ⟨rfl, hg27⟩
        rw [← HYP.out]
        replace HZ := Lib.hid (HZ.out.grown hg27 (by simp))
        replace HCB := Lib.hid (HCB.out.grown hg27 (by simp))
        replace HK := Lib.hid (HK.out.grown hg27 (by simp))
        replace HPY := Lib.hid (HPY.out.grown hg27 (fun g e => by cases e))
        replace HG := Lib.hid (gr_none HG.out hg27)
        clear hg27
        have k0 := HK.out.cell 0
        have y0 := HZ.out.cell 0
        have k1 := HK.out.cell 1
        have y1 := HZ.out.cell 1
        have k2 := HK.out.cell 2
        have y2 := HZ.out.cell 2
        have k3 := HK.out.cell 3
        have y3 := HZ.out.cell 3
        have k4 := HK.out.cell 4
        have y4 := HZ.out.cell 4
        have k5 := HK.out.cell 5
        have y5 := HZ.out.cell 5
        go_wp2_with (first
          | (go_at_call 38; refine (accounted_true _).mono ?_; rintro e w30 ⟨rfl, hg30⟩; have HG30 := Lib.hid (gr_none HG.out hg30); clear hg30)
          | fail)
        go_ret
        refine ⟨rfl, ?_⟩
        have hfin := HG30.out
        rw [← HSB.out] at hfin
        exact below_of_gr hfin
      · have HZ := Lib.hid (blkN (((w25.alloc (.cells #[.string ⟨#[]⟩, .string ⟨#[]⟩, .int .i64 0, .int .i64 0, .int .i64 0, .int .i64 0] 64)).alloc (.cells #[.int .i64 O1, .int .i64 N] 34)).alloc (.cells #[.int .i64 O2, .int .i64 N] 34)) 64 #[.string ⟨#[]⟩, .string ⟨#[]⟩, .int .i64 0, .int .i64 0, .int .i64 0, .int .i64 0] (g := w25.heap.size + 3) (by simp))
        have HCB0 := Lib.hid (((HCB.out.alloc (.cells #[.int .i64 O1, .int .i64 N] 34)).alloc (.cells #[.int .i64 O2, .int .i64 N] 34)).alloc (.cells #[.string ⟨#[]⟩, .string ⟨#[]⟩, .int .i64 0, .int .i64 0, .int .i64 0, .int .i64 0] 64))
        replace HCB := Lib.hid (((HCB.out.alloc (.cells #[.int .i64 O1, .int .i64 N] 34)).alloc (.cells #[.int .i64 O2, .int .i64 N] 34)).alloc (.cells #[.string ⟨#[]⟩, .string ⟨#[]⟩, .int .i64 0, .int .i64 0, .int .i64 0, .int .i64 0] 64))
        replace HK := Lib.hid (((HK.out.alloc (.cells #[.int .i64 O1, .int .i64 N] 34)).alloc (.cells #[.int .i64 O2, .int .i64 N] 34)).alloc (.cells #[.string ⟨#[]⟩, .string ⟨#[]⟩, .int .i64 0, .int .i64 0, .int .i64 0, .int .i64 0] 64))
        replace HPY := Lib.hid (HPY.out.grown (gr_alloc (gr_alloc (gr_alloc (gr_refl _ none) (.cells #[.int .i64 O1, .int .i64 N] 34)) (.cells #[.int .i64 O2, .int .i64 N] 34)) (.cells #[.string ⟨#[]⟩, .string ⟨#[]⟩, .int .i64 0, .int .i64 0, .int .i64 0, .int .i64 0] 64)) (fun g e => by cases e))
        replace HG := Lib.hid (gr_alloc (gr_alloc (gr_alloc HG.out (.cells #[.int .i64 O1, .int .i64 N] 34)) (.cells #[.int .i64 O2, .int .i64 N] 34)) (.cells #[.string ⟨#[]⟩, .string ⟨#[]⟩, .int .i64 0, .int .i64 0, .int .i64 0, .int .i64 0] 64))
        have b1 : (CE == 0) = false := by simpa using h1
        have b2 : (PE == 0) = false := by simpa using h2
        have b3 : (YE == 0) = false := by simpa using h3
        have hca := HC3.out h1
        have hr := HROW.out
        rw [hca] at hr
        simp only [clsRow, Option.elim, Array.mk.injEq, List.cons.injEq, Value.string.injEq, Value.int.injEq, true_and, and_true] at hr
        obtain ⟨rfl, rfl, rfl, rfl, rfl, rfl⟩ := hr
        clear hca HROW HC2 HC3
        obtain rfl := HD3.out h2
        clear HD2 HD3
        obtain rfl := HP3.out h3
        have eo : optS none = ⟨#[]⟩ := rfl
        clear HP2 HP3
        clear h1 h2 h3 HCE HCA HPE HPA HYE HYA HC1 HD1 HP1 HO1 HO2 HET HEP HPH HF HN HAT
        have k0 := HK.out.cell 0
        have y0 := HZ.out.cell 0
        have k1 := HK.out.cell 1
        have y1 := HZ.out.cell 1
        have k2 := HK.out.cell 2
        have y2 := HZ.out.cell 2
        have k3 := HK.out.cell 3
        have y3 := HZ.out.cell 3
        have k4 := HK.out.cell 4
        have y4 := HZ.out.cell 4
        have k5 := HK.out.cell 5
        have y5 := HZ.out.cell 5
        go_wp2_with (first
          | (go_at_call 38; refine (accounted_true _).mono ?_; rintro e w30 ⟨rfl, hg30⟩; have HG30 := Lib.hid (gr_none HG.out hg30); clear hg30)
          | fail)
        go_ret
        refine ⟨rfl, ?_⟩
        have hfin := HG30.out
        rw [← HSB.out] at hfin
        exact below_of_gr hfin
    | some c =>
      obtain ⟨pre, name, setup, first, step, rate⟩ := c
      rw [show clsRow (some ⟨pre, name, setup, first, step, rate⟩) = #[.string pre, .string name, .int .i64 setup, .int .i64 first, .int .i64 step, .int .i64 rate] from rfl]
      have HCB := Lib.hid (Blk.new w25 64 #[.string pre, .string name, .int .i64 setup, .int .i64 first, .int .i64 step, .int .i64 rate])
      replace HK := Lib.hid (HK.out.alloc (.cells #[.string pre, .string name, .int .i64 setup, .int .i64 first, .int .i64 step, .int .i64 rate] 64))
      replace HPY := Lib.hid (HPY.out.grown (gr_alloc (gr_refl _ none) (.cells #[.string pre, .string name, .int .i64 setup, .int .i64 first, .int .i64 step, .int .i64 rate] 64)) (fun g e => by cases e))
      replace HG := Lib.hid (gr_alloc HG.out (.cells #[.string pre, .string name, .int .i64 setup, .int .i64 first, .int .i64 step, .int .i64 rate] 64))
      clear HT HTF
      go_wp2_with fail
      refine (whenE_any _ _ _).mono ?_
      rintro e w' ⟨rfl, rfl⟩
      rw [show (if (false : Bool) = true then (8 : Int) else 0) = N from HN.out]
      go_wp2_with fail
      refine (errs_run 0 _ 2 2 [O1, N] _ (by exact (Reads.blk (cs := [.int .i64 O1, .int .i64 N]) (blkN _ _ _ (by simp)) 1 2 rfl).lower (Nat.zero_le _)) (by omega)).mono ?_
      rintro e w' ⟨rfl, rfl⟩
      rw [HER1.out]
      go_wp2_with fail
      refine (errs_run 0 _ 2 2 [O2, N] _ (by exact (Reads.blk (cs := [.int .i64 O2, .int .i64 N]) (blkN _ _ _ (by simp)) 1 2 rfl).lower (Nat.zero_le _)) (by omega)).mono ?_
      rintro e w' ⟨rfl, rfl⟩
      rw [HER2.out]
      clear HER1 HER2
      by_cases h1 : CE = 0 <;> by_cases h2 : PE = 0 <;> by_cases h3 : YE = 0
      · have HZ := Lib.hid (blkN (((w25.alloc (.cells #[.string pre, .string name, .int .i64 setup, .int .i64 first, .int .i64 step, .int .i64 rate] 64)).alloc (.cells #[.int .i64 O1, .int .i64 N] 34)).alloc (.cells #[.int .i64 O2, .int .i64 N] 34)) 64 #[.string pre, .string name, .int .i64 setup, .int .i64 first, .int .i64 step, .int .i64 rate] (g := w25.heap.size + 3) (by simp))
        have HCB0 := Lib.hid (((HCB.out.alloc (.cells #[.int .i64 O1, .int .i64 N] 34)).alloc (.cells #[.int .i64 O2, .int .i64 N] 34)).alloc (.cells #[.string ⟨#[]⟩, .string ⟨#[]⟩, .int .i64 0, .int .i64 0, .int .i64 0, .int .i64 0] 64))
        replace HCB := Lib.hid (((HCB.out.alloc (.cells #[.int .i64 O1, .int .i64 N] 34)).alloc (.cells #[.int .i64 O2, .int .i64 N] 34)).alloc (.cells #[.string pre, .string name, .int .i64 setup, .int .i64 first, .int .i64 step, .int .i64 rate] 64))
        replace HK := Lib.hid (((HK.out.alloc (.cells #[.int .i64 O1, .int .i64 N] 34)).alloc (.cells #[.int .i64 O2, .int .i64 N] 34)).alloc (.cells #[.string pre, .string name, .int .i64 setup, .int .i64 first, .int .i64 step, .int .i64 rate] 64))
        replace HPY := Lib.hid (HPY.out.grown (gr_alloc (gr_alloc (gr_alloc (gr_refl _ none) (.cells #[.int .i64 O1, .int .i64 N] 34)) (.cells #[.int .i64 O2, .int .i64 N] 34)) (.cells #[.string pre, .string name, .int .i64 setup, .int .i64 first, .int .i64 step, .int .i64 rate] 64)) (fun g e => by cases e))
        replace HG := Lib.hid (gr_alloc (gr_alloc (gr_alloc HG.out (.cells #[.int .i64 O1, .int .i64 N] 34)) (.cells #[.int .i64 O2, .int .i64 N] 34)) (.cells #[.string pre, .string name, .int .i64 setup, .int .i64 first, .int .i64 step, .int .i64 rate] 64))
        have b1 : (CE == 0) = true := by simpa using h1
        have b2 : (PE == 0) = true := by simpa using h2
        have b3 : (YE == 0) = true := by simpa using h3
        have hca := HC2.out h1
        have hr := HROW.out
        rw [hca] at hr
        simp only [clsRow, Option.elim, Array.mk.injEq, List.cons.injEq, Value.string.injEq, Value.int.injEq, true_and, and_true] at hr
        obtain ⟨rfl, rfl, rfl, rfl, rfl, rfl⟩ := hr
        clear hca HROW HC2 HC3
        obtain ⟨e0, e1, cx, e2, e3⟩ := HD2.out h2
        obtain rfl := Option.some.inj e2
        have hnum := HNU.out e0 _ (clsOf_mem HC.out)
        have htk : 0 ≤ talk ∧ talk ≤ 86400000 := by unfold inB at e1; simp only [Bool.and_eq_true, decide_eq_true_eq] at e1; exact e1
        obtain ⟨htk1, htk2⟩ := htk
        have HPR := Lib.hid e3; have HNM := Lib.hid hnum
        clear e0 e1 e2 e3 hnum HD2 HD3
        have HYP := Lib.hid (HP2.out h3)
        clear HP2 HP3
        clear h1 h2 h3 HCE HCA HPE HPA HYE HYA HC1 HD1 HP1 HO1 HO2 HET HEP HPH HF HN HAT
        go_wp2_with (first
          | (refine wpl_load_all Tryd.clT rfl _ rfl _ rfl _ _ HCB0.out rfl ?_)
          | (refine wpl_load_all Tryd.clT rfl _ rfl _ rfl _ _ HCB.out rfl ?_)
          | fail)
        refine (priceFor_any ⟨pre, name, setup, first, step, rate⟩ talk _ HNM.out htk1 htk2).mono ?_
        rintro e w26 ⟨rfl, hg26⟩
        rw [← HPR.out]
        replace HZ := Lib.hid (HZ.out.grown hg26 (by simp))
        replace HCB := Lib.hid (HCB.out.grown hg26 (by simp))
        replace HK := Lib.hid (HK.out.grown hg26 (by simp))
        replace HPY := Lib.hid (HPY.out.grown hg26 (fun g e => by cases e))
        replace HG := Lib.hid (gr_none HG.out hg26)
        clear hg26
        go_wp2_with (first
          | fail)
        refine (payerFor_any _ _ _ _ l s _ (by exact HPY.out) (by omega)).mono ?_
        rintro e w27 ⟨rfl, hg27⟩
        rw [← HYP.out]
        replace HZ := Lib.hid (HZ.out.grown hg27 (by simp))
        replace HCB := Lib.hid (HCB.out.grown hg27 (by simp))
        replace HK := Lib.hid (HK.out.grown hg27 (by simp))
        replace HPY := Lib.hid (HPY.out.grown hg27 (fun g e => by cases e))
        replace HG := Lib.hid (gr_none HG.out hg27)
        clear hg27
        have k0 := HK.out.cell 0
        have y0 := HZ.out.cell 0
        have k1 := HK.out.cell 1
        have y1 := HZ.out.cell 1
        have k2 := HK.out.cell 2
        have y2 := HZ.out.cell 2
        have k3 := HK.out.cell 3
        have y3 := HZ.out.cell 3
        have k4 := HK.out.cell 4
        have y4 := HZ.out.cell 4
        have k5 := HK.out.cell 5
        have y5 := HZ.out.cell 5
        go_wp2_with (first
          | (go_at_call 38; refine (accounted_true _).mono ?_; rintro e w30 ⟨rfl, hg30⟩; have HG30 := Lib.hid (gr_none HG.out hg30); clear hg30)
          | fail)
        go_ret
        refine ⟨rfl, ?_⟩
        have hfin := HG30.out
        rw [← HSB.out] at hfin
        exact below_of_gr hfin
      · have HZ := Lib.hid (blkN (((w25.alloc (.cells #[.string pre, .string name, .int .i64 setup, .int .i64 first, .int .i64 step, .int .i64 rate] 64)).alloc (.cells #[.int .i64 O1, .int .i64 N] 34)).alloc (.cells #[.int .i64 O2, .int .i64 N] 34)) 64 #[.string pre, .string name, .int .i64 setup, .int .i64 first, .int .i64 step, .int .i64 rate] (g := w25.heap.size + 3) (by simp))
        have HCB0 := Lib.hid (((HCB.out.alloc (.cells #[.int .i64 O1, .int .i64 N] 34)).alloc (.cells #[.int .i64 O2, .int .i64 N] 34)).alloc (.cells #[.string ⟨#[]⟩, .string ⟨#[]⟩, .int .i64 0, .int .i64 0, .int .i64 0, .int .i64 0] 64))
        replace HCB := Lib.hid (((HCB.out.alloc (.cells #[.int .i64 O1, .int .i64 N] 34)).alloc (.cells #[.int .i64 O2, .int .i64 N] 34)).alloc (.cells #[.string pre, .string name, .int .i64 setup, .int .i64 first, .int .i64 step, .int .i64 rate] 64))
        replace HK := Lib.hid (((HK.out.alloc (.cells #[.int .i64 O1, .int .i64 N] 34)).alloc (.cells #[.int .i64 O2, .int .i64 N] 34)).alloc (.cells #[.string pre, .string name, .int .i64 setup, .int .i64 first, .int .i64 step, .int .i64 rate] 64))
        replace HPY := Lib.hid (HPY.out.grown (gr_alloc (gr_alloc (gr_alloc (gr_refl _ none) (.cells #[.int .i64 O1, .int .i64 N] 34)) (.cells #[.int .i64 O2, .int .i64 N] 34)) (.cells #[.string pre, .string name, .int .i64 setup, .int .i64 first, .int .i64 step, .int .i64 rate] 64)) (fun g e => by cases e))
        replace HG := Lib.hid (gr_alloc (gr_alloc (gr_alloc HG.out (.cells #[.int .i64 O1, .int .i64 N] 34)) (.cells #[.int .i64 O2, .int .i64 N] 34)) (.cells #[.string pre, .string name, .int .i64 setup, .int .i64 first, .int .i64 step, .int .i64 rate] 64))
        have b1 : (CE == 0) = true := by simpa using h1
        have b2 : (PE == 0) = true := by simpa using h2
        have b3 : (YE == 0) = false := by simpa using h3
        have hca := HC2.out h1
        have hr := HROW.out
        rw [hca] at hr
        simp only [clsRow, Option.elim, Array.mk.injEq, List.cons.injEq, Value.string.injEq, Value.int.injEq, true_and, and_true] at hr
        obtain ⟨rfl, rfl, rfl, rfl, rfl, rfl⟩ := hr
        clear hca HROW HC2 HC3
        obtain ⟨e0, e1, cx, e2, e3⟩ := HD2.out h2
        obtain rfl := Option.some.inj e2
        have hnum := HNU.out e0 _ (clsOf_mem HC.out)
        have htk : 0 ≤ talk ∧ talk ≤ 86400000 := by unfold inB at e1; simp only [Bool.and_eq_true, decide_eq_true_eq] at e1; exact e1
        obtain ⟨htk1, htk2⟩ := htk
        have HPR := Lib.hid e3; have HNM := Lib.hid hnum
        clear e0 e1 e2 e3 hnum HD2 HD3
        obtain rfl := HP3.out h3
        have eo : optS none = ⟨#[]⟩ := rfl
        clear HP2 HP3
        clear h1 h2 h3 HCE HCA HPE HPA HYE HYA HC1 HD1 HP1 HO1 HO2 HET HEP HPH HF HN HAT
        go_wp2_with (first
          | (refine wpl_load_all Tryd.clT rfl _ rfl _ rfl _ _ HCB0.out rfl ?_)
          | (refine wpl_load_all Tryd.clT rfl _ rfl _ rfl _ _ HCB.out rfl ?_)
          | fail)
        refine (priceFor_any ⟨pre, name, setup, first, step, rate⟩ talk _ HNM.out htk1 htk2).mono ?_
        rintro e w26 ⟨rfl, hg26⟩
        rw [← HPR.out]
        replace HZ := Lib.hid (HZ.out.grown hg26 (by simp))
        replace HCB := Lib.hid (HCB.out.grown hg26 (by simp))
        replace HK := Lib.hid (HK.out.grown hg26 (by simp))
        replace HPY := Lib.hid (HPY.out.grown hg26 (fun g e => by cases e))
        replace HG := Lib.hid (gr_none HG.out hg26)
        clear hg26
        have k0 := HK.out.cell 0
        have y0 := HZ.out.cell 0
        have k1 := HK.out.cell 1
        have y1 := HZ.out.cell 1
        have k2 := HK.out.cell 2
        have y2 := HZ.out.cell 2
        have k3 := HK.out.cell 3
        have y3 := HZ.out.cell 3
        have k4 := HK.out.cell 4
        have y4 := HZ.out.cell 4
        have k5 := HK.out.cell 5
        have y5 := HZ.out.cell 5
        go_wp2_with (first
          | (go_at_call 38; refine (accounted_true _).mono ?_; rintro e w30 ⟨rfl, hg30⟩; have HG30 := Lib.hid (gr_none HG.out hg30); clear hg30)
          | fail)
        go_ret
        refine ⟨rfl, ?_⟩
        have hfin := HG30.out
        rw [← HSB.out] at hfin
        exact below_of_gr hfin
      · have HZ := Lib.hid (blkN (((w25.alloc (.cells #[.string pre, .string name, .int .i64 setup, .int .i64 first, .int .i64 step, .int .i64 rate] 64)).alloc (.cells #[.int .i64 O1, .int .i64 N] 34)).alloc (.cells #[.int .i64 O2, .int .i64 N] 34)) 64 #[.string pre, .string name, .int .i64 setup, .int .i64 first, .int .i64 step, .int .i64 rate] (g := w25.heap.size + 3) (by simp))
        have HCB0 := Lib.hid (((HCB.out.alloc (.cells #[.int .i64 O1, .int .i64 N] 34)).alloc (.cells #[.int .i64 O2, .int .i64 N] 34)).alloc (.cells #[.string ⟨#[]⟩, .string ⟨#[]⟩, .int .i64 0, .int .i64 0, .int .i64 0, .int .i64 0] 64))
        replace HCB := Lib.hid (((HCB.out.alloc (.cells #[.int .i64 O1, .int .i64 N] 34)).alloc (.cells #[.int .i64 O2, .int .i64 N] 34)).alloc (.cells #[.string pre, .string name, .int .i64 setup, .int .i64 first, .int .i64 step, .int .i64 rate] 64))
        replace HK := Lib.hid (((HK.out.alloc (.cells #[.int .i64 O1, .int .i64 N] 34)).alloc (.cells #[.int .i64 O2, .int .i64 N] 34)).alloc (.cells #[.string pre, .string name, .int .i64 setup, .int .i64 first, .int .i64 step, .int .i64 rate] 64))
        replace HPY := Lib.hid (HPY.out.grown (gr_alloc (gr_alloc (gr_alloc (gr_refl _ none) (.cells #[.int .i64 O1, .int .i64 N] 34)) (.cells #[.int .i64 O2, .int .i64 N] 34)) (.cells #[.string pre, .string name, .int .i64 setup, .int .i64 first, .int .i64 step, .int .i64 rate] 64)) (fun g e => by cases e))
        replace HG := Lib.hid (gr_alloc (gr_alloc (gr_alloc HG.out (.cells #[.int .i64 O1, .int .i64 N] 34)) (.cells #[.int .i64 O2, .int .i64 N] 34)) (.cells #[.string pre, .string name, .int .i64 setup, .int .i64 first, .int .i64 step, .int .i64 rate] 64))
        have b1 : (CE == 0) = true := by simpa using h1
        have b2 : (PE == 0) = false := by simpa using h2
        have b3 : (YE == 0) = true := by simpa using h3
        have hca := HC2.out h1
        have hr := HROW.out
        rw [hca] at hr
        simp only [clsRow, Option.elim, Array.mk.injEq, List.cons.injEq, Value.string.injEq, Value.int.injEq, true_and, and_true] at hr
        obtain ⟨rfl, rfl, rfl, rfl, rfl, rfl⟩ := hr
        clear hca HROW HC2 HC3
        obtain rfl := HD3.out h2
        clear HD2 HD3
        have HYP := Lib.hid (HP2.out h3)
        clear HP2 HP3
        clear h1 h2 h3 HCE HCA HPE HPA HYE HYA HC1 HD1 HP1 HO1 HO2 HET HEP HPH HF HN HAT
        go_wp2_with (first
          | (refine wpl_load_all Tryd.clT rfl _ rfl _ rfl _ _ HCB0.out rfl ?_)
          | (refine wpl_load_all Tryd.clT rfl _ rfl _ rfl _ _ HCB.out rfl ?_)
          | fail)
        refine (payerFor_any _ _ _ _ l s _ (by exact HPY.out) (by omega)).mono ?_
        rintro e w27 ⟨rfl, hg27⟩
        rw [← HYP.out]
        replace HZ := Lib.hid (HZ.out.grown hg27 (by simp))
        replace HCB := Lib.hid (HCB.out.grown hg27 (by simp))
        replace HK := Lib.hid (HK.out.grown hg27 (by simp))
        replace HPY := Lib.hid (HPY.out.grown hg27 (fun g e => by cases e))
        replace HG := Lib.hid (gr_none HG.out hg27)
        clear hg27
        have k0 := HK.out.cell 0
        have y0 := HZ.out.cell 0
        have k1 := HK.out.cell 1
        have y1 := HZ.out.cell 1
        have k2 := HK.out.cell 2
        have y2 := HZ.out.cell 2
        have k3 := HK.out.cell 3
        have y3 := HZ.out.cell 3
        have k4 := HK.out.cell 4
        have y4 := HZ.out.cell 4
        have k5 := HK.out.cell 5
        have y5 := HZ.out.cell 5
        go_wp2_with (first
          | (go_at_call 38; refine (accounted_true _).mono ?_; rintro e w30 ⟨rfl, hg30⟩; have HG30 := Lib.hid (gr_none HG.out hg30); clear hg30)
          | fail)
        go_ret
        refine ⟨rfl, ?_⟩
        have hfin := HG30.out
        rw [← HSB.out] at hfin
        exact below_of_gr hfin
      · have HZ := Lib.hid (blkN (((w25.alloc (.cells #[.string pre, .string name, .int .i64 setup, .int .i64 first, .int .i64 step, .int .i64 rate] 64)).alloc (.cells #[.int .i64 O1, .int .i64 N] 34)).alloc (.cells #[.int .i64 O2, .int .i64 N] 34)) 64 #[.string pre, .string name, .int .i64 setup, .int .i64 first, .int .i64 step, .int .i64 rate] (g := w25.heap.size + 3) (by simp))
        have HCB0 := Lib.hid (((HCB.out.alloc (.cells #[.int .i64 O1, .int .i64 N] 34)).alloc (.cells #[.int .i64 O2, .int .i64 N] 34)).alloc (.cells #[.string ⟨#[]⟩, .string ⟨#[]⟩, .int .i64 0, .int .i64 0, .int .i64 0, .int .i64 0] 64))
        replace HCB := Lib.hid (((HCB.out.alloc (.cells #[.int .i64 O1, .int .i64 N] 34)).alloc (.cells #[.int .i64 O2, .int .i64 N] 34)).alloc (.cells #[.string pre, .string name, .int .i64 setup, .int .i64 first, .int .i64 step, .int .i64 rate] 64))
        replace HK := Lib.hid (((HK.out.alloc (.cells #[.int .i64 O1, .int .i64 N] 34)).alloc (.cells #[.int .i64 O2, .int .i64 N] 34)).alloc (.cells #[.string pre, .string name, .int .i64 setup, .int .i64 first, .int .i64 step, .int .i64 rate] 64))
        replace HPY := Lib.hid (HPY.out.grown (gr_alloc (gr_alloc (gr_alloc (gr_refl _ none) (.cells #[.int .i64 O1, .int .i64 N] 34)) (.cells #[.int .i64 O2, .int .i64 N] 34)) (.cells #[.string pre, .string name, .int .i64 setup, .int .i64 first, .int .i64 step, .int .i64 rate] 64)) (fun g e => by cases e))
        replace HG := Lib.hid (gr_alloc (gr_alloc (gr_alloc HG.out (.cells #[.int .i64 O1, .int .i64 N] 34)) (.cells #[.int .i64 O2, .int .i64 N] 34)) (.cells #[.string pre, .string name, .int .i64 setup, .int .i64 first, .int .i64 step, .int .i64 rate] 64))
        have b1 : (CE == 0) = true := by simpa using h1
        have b2 : (PE == 0) = false := by simpa using h2
        have b3 : (YE == 0) = false := by simpa using h3
        have hca := HC2.out h1
        have hr := HROW.out
        rw [hca] at hr
        simp only [clsRow, Option.elim, Array.mk.injEq, List.cons.injEq, Value.string.injEq, Value.int.injEq, true_and, and_true] at hr
        obtain ⟨rfl, rfl, rfl, rfl, rfl, rfl⟩ := hr
        clear hca HROW HC2 HC3
        obtain rfl := HD3.out h2
        clear HD2 HD3
        obtain rfl := HP3.out h3
        have eo : optS none = ⟨#[]⟩ := rfl
        clear HP2 HP3
        clear h1 h2 h3 HCE HCA HPE HPA HYE HYA HC1 HD1 HP1 HO1 HO2 HET HEP HPH HF HN HAT
        have k0 := HK.out.cell 0
        have y0 := HZ.out.cell 0
        have k1 := HK.out.cell 1
        have y1 := HZ.out.cell 1
        have k2 := HK.out.cell 2
        have y2 := HZ.out.cell 2
        have k3 := HK.out.cell 3
        have y3 := HZ.out.cell 3
        have k4 := HK.out.cell 4
        have y4 := HZ.out.cell 4
        have k5 := HK.out.cell 5
        have y5 := HZ.out.cell 5
        go_wp2_with (first
          | (refine wpl_load_all Tryd.clT rfl _ rfl _ rfl _ _ HCB0.out rfl ?_)
          | (refine wpl_load_all Tryd.clT rfl _ rfl _ rfl _ _ HCB.out rfl ?_)
          | (go_at_call 38; refine (accounted_true _).mono ?_; rintro e w30 ⟨rfl, hg30⟩; have HG30 := Lib.hid (gr_none HG.out hg30); clear hg30)
          | fail)
        go_ret
        refine ⟨rfl, ?_⟩
        have hfin := HG30.out
        rw [← HSB.out] at hfin
        exact below_of_gr hfin
      · have HZ := Lib.hid (blkN (((w25.alloc (.cells #[.string pre, .string name, .int .i64 setup, .int .i64 first, .int .i64 step, .int .i64 rate] 64)).alloc (.cells #[.int .i64 O1, .int .i64 N] 34)).alloc (.cells #[.int .i64 O2, .int .i64 N] 34)) 64 #[.string ⟨#[]⟩, .string ⟨#[]⟩, .int .i64 0, .int .i64 0, .int .i64 0, .int .i64 0] (g := w25.heap.size + 3) (by simp))
        have HCB0 := Lib.hid (((HCB.out.alloc (.cells #[.int .i64 O1, .int .i64 N] 34)).alloc (.cells #[.int .i64 O2, .int .i64 N] 34)).alloc (.cells #[.string ⟨#[]⟩, .string ⟨#[]⟩, .int .i64 0, .int .i64 0, .int .i64 0, .int .i64 0] 64))
        replace HCB := Lib.hid (((HCB.out.alloc (.cells #[.int .i64 O1, .int .i64 N] 34)).alloc (.cells #[.int .i64 O2, .int .i64 N] 34)).alloc (.cells #[.string ⟨#[]⟩, .string ⟨#[]⟩, .int .i64 0, .int .i64 0, .int .i64 0, .int .i64 0] 64))
        replace HK := Lib.hid (((HK.out.alloc (.cells #[.int .i64 O1, .int .i64 N] 34)).alloc (.cells #[.int .i64 O2, .int .i64 N] 34)).alloc (.cells #[.string ⟨#[]⟩, .string ⟨#[]⟩, .int .i64 0, .int .i64 0, .int .i64 0, .int .i64 0] 64))
        replace HPY := Lib.hid (HPY.out.grown (gr_alloc (gr_alloc (gr_alloc (gr_refl _ none) (.cells #[.int .i64 O1, .int .i64 N] 34)) (.cells #[.int .i64 O2, .int .i64 N] 34)) (.cells #[.string ⟨#[]⟩, .string ⟨#[]⟩, .int .i64 0, .int .i64 0, .int .i64 0, .int .i64 0] 64)) (fun g e => by cases e))
        replace HG := Lib.hid (gr_alloc (gr_alloc (gr_alloc HG.out (.cells #[.int .i64 O1, .int .i64 N] 34)) (.cells #[.int .i64 O2, .int .i64 N] 34)) (.cells #[.string ⟨#[]⟩, .string ⟨#[]⟩, .int .i64 0, .int .i64 0, .int .i64 0, .int .i64 0] 64))
        have b1 : (CE == 0) = false := by simpa using h1
        have b2 : (PE == 0) = true := by simpa using h2
        have b3 : (YE == 0) = true := by simpa using h3
        have hca := HC3.out h1
        have hr := HROW.out
        rw [hca] at hr
        simp only [clsRow, Option.elim, Array.mk.injEq, List.cons.injEq, Value.string.injEq, Value.int.injEq, true_and, and_true] at hr
        obtain ⟨rfl, rfl, rfl, rfl, rfl, rfl⟩ := hr
        clear hca HROW HC2 HC3
        obtain ⟨e0, e1, cx, e2, e3⟩ := HD2.out h2
        obtain rfl := Option.some.inj e2
        have hnum := HNU.out e0 _ (clsOf_mem HC.out)
        have htk : 0 ≤ talk ∧ talk ≤ 86400000 := by unfold inB at e1; simp only [Bool.and_eq_true, decide_eq_true_eq] at e1; exact e1
        obtain ⟨htk1, htk2⟩ := htk
        have HPR := Lib.hid e3; have HNM := Lib.hid hnum
        clear e0 e1 e2 e3 hnum HD2 HD3
        have HYP := Lib.hid (HP2.out h3)
        clear HP2 HP3
        clear h1 h2 h3 HCE HCA HPE HPA HYE HYA HC1 HD1 HP1 HO1 HO2 HET HEP HPH HF HN HAT
        go_wp2_with (first
          | (refine wpl_load_all Tryd.clT rfl _ rfl _ rfl _ _ HCB0.out rfl ?_)
          | (refine wpl_load_all Tryd.clT rfl _ rfl _ rfl _ _ HCB.out rfl ?_)
          | fail)
        refine (priceFor_any ⟨pre, name, setup, first, step, rate⟩ talk _ HNM.out htk1 htk2).mono ?_
        rintro e w26 ⟨rfl, hg26⟩
        rw [← HPR.out]
        replace HZ := Lib.hid (HZ.out.grown hg26 (by simp))
        replace HCB := Lib.hid (HCB.out.grown hg26 (by simp))
        replace HK := Lib.hid (HK.out.grown hg26 (by simp))
        replace HPY := Lib.hid (HPY.out.grown hg26 (fun g e => by cases e))
        replace HG := Lib.hid (gr_none HG.out hg26)
        clear hg26
        go_wp2_with (first
          | fail)
        refine (payerFor_any _ _ _ _ l s _ (by exact HPY.out) (by omega)).mono ?_
        rintro e w27 ⟨rfl, hg27⟩
        rw [← HYP.out]
        replace HZ := Lib.hid (HZ.out.grown hg27 (by simp))
        replace HCB := Lib.hid (HCB.out.grown hg27 (by simp))
        replace HK := Lib.hid (HK.out.grown hg27 (by simp))
        replace HPY := Lib.hid (HPY.out.grown hg27 (fun g e => by cases e))
        replace HG := Lib.hid (gr_none HG.out hg27)
        clear hg27
        have k0 := HK.out.cell 0
        have y0 := HZ.out.cell 0
        have k1 := HK.out.cell 1
        have y1 := HZ.out.cell 1
        have k2 := HK.out.cell 2
        have y2 := HZ.out.cell 2
        have k3 := HK.out.cell 3
        have y3 := HZ.out.cell 3
        have k4 := HK.out.cell 4
        have y4 := HZ.out.cell 4
        have k5 := HK.out.cell 5
        have y5 := HZ.out.cell 5
        go_wp2_with (first
          | (go_at_call 38; refine (accounted_true _).mono ?_; rintro e w30 ⟨rfl, hg30⟩; have HG30 := Lib.hid (gr_none HG.out hg30); clear hg30)
          | fail)
        go_ret
        refine ⟨rfl, ?_⟩
        have hfin := HG30.out
        rw [← HSB.out] at hfin
        exact below_of_gr hfin
      · have HZ := Lib.hid (blkN (((w25.alloc (.cells #[.string pre, .string name, .int .i64 setup, .int .i64 first, .int .i64 step, .int .i64 rate] 64)).alloc (.cells #[.int .i64 O1, .int .i64 N] 34)).alloc (.cells #[.int .i64 O2, .int .i64 N] 34)) 64 #[.string ⟨#[]⟩, .string ⟨#[]⟩, .int .i64 0, .int .i64 0, .int .i64 0, .int .i64 0] (g := w25.heap.size + 3) (by simp))
        have HCB0 := Lib.hid (((HCB.out.alloc (.cells #[.int .i64 O1, .int .i64 N] 34)).alloc (.cells #[.int .i64 O2, .int .i64 N] 34)).alloc (.cells #[.string ⟨#[]⟩, .string ⟨#[]⟩, .int .i64 0, .int .i64 0, .int .i64 0, .int .i64 0] 64))
        replace HCB := Lib.hid (((HCB.out.alloc (.cells #[.int .i64 O1, .int .i64 N] 34)).alloc (.cells #[.int .i64 O2, .int .i64 N] 34)).alloc (.cells #[.string ⟨#[]⟩, .string ⟨#[]⟩, .int .i64 0, .int .i64 0, .int .i64 0, .int .i64 0] 64))
        replace HK := Lib.hid (((HK.out.alloc (.cells #[.int .i64 O1, .int .i64 N] 34)).alloc (.cells #[.int .i64 O2, .int .i64 N] 34)).alloc (.cells #[.string ⟨#[]⟩, .string ⟨#[]⟩, .int .i64 0, .int .i64 0, .int .i64 0, .int .i64 0] 64))
        replace HPY := Lib.hid (HPY.out.grown (gr_alloc (gr_alloc (gr_alloc (gr_refl _ none) (.cells #[.int .i64 O1, .int .i64 N] 34)) (.cells #[.int .i64 O2, .int .i64 N] 34)) (.cells #[.string ⟨#[]⟩, .string ⟨#[]⟩, .int .i64 0, .int .i64 0, .int .i64 0, .int .i64 0] 64)) (fun g e => by cases e))
        replace HG := Lib.hid (gr_alloc (gr_alloc (gr_alloc HG.out (.cells #[.int .i64 O1, .int .i64 N] 34)) (.cells #[.int .i64 O2, .int .i64 N] 34)) (.cells #[.string ⟨#[]⟩, .string ⟨#[]⟩, .int .i64 0, .int .i64 0, .int .i64 0, .int .i64 0] 64))
        have b1 : (CE == 0) = false := by simpa using h1
        have b2 : (PE == 0) = true := by simpa using h2
        have b3 : (YE == 0) = false := by simpa using h3
        have hca := HC3.out h1
        have hr := HROW.out
        rw [hca] at hr
        simp only [clsRow, Option.elim, Array.mk.injEq, List.cons.injEq, Value.string.injEq, Value.int.injEq, true_and, and_true] at hr
        obtain ⟨rfl, rfl, rfl, rfl, rfl, rfl⟩ := hr
        clear hca HROW HC2 HC3
        obtain ⟨e0, e1, cx, e2, e3⟩ := HD2.out h2
        obtain rfl := Option.some.inj e2
        have hnum := HNU.out e0 _ (clsOf_mem HC.out)
        have htk : 0 ≤ talk ∧ talk ≤ 86400000 := by unfold inB at e1; simp only [Bool.and_eq_true, decide_eq_true_eq] at e1; exact e1
        obtain ⟨htk1, htk2⟩ := htk
        have HPR := Lib.hid e3; have HNM := Lib.hid hnum
        clear e0 e1 e2 e3 hnum HD2 HD3
        obtain rfl := HP3.out h3
        have eo : optS none = ⟨#[]⟩ := rfl
        clear HP2 HP3
        clear h1 h2 h3 HCE HCA HPE HPA HYE HYA HC1 HD1 HP1 HO1 HO2 HET HEP HPH HF HN HAT
        go_wp2_with (first
          | (refine wpl_load_all Tryd.clT rfl _ rfl _ rfl _ _ HCB0.out rfl ?_)
          | (refine wpl_load_all Tryd.clT rfl _ rfl _ rfl _ _ HCB.out rfl ?_)
          | fail)
        refine (priceFor_any ⟨pre, name, setup, first, step, rate⟩ talk _ HNM.out htk1 htk2).mono ?_
        rintro e w26 ⟨rfl, hg26⟩
        rw [← HPR.out]
        replace HZ := Lib.hid (HZ.out.grown hg26 (by simp))
        replace HCB := Lib.hid (HCB.out.grown hg26 (by simp))
        replace HK := Lib.hid (HK.out.grown hg26 (by simp))
        replace HPY := Lib.hid (HPY.out.grown hg26 (fun g e => by cases e))
        replace HG := Lib.hid (gr_none HG.out hg26)
        clear hg26
        have k0 := HK.out.cell 0
        have y0 := HZ.out.cell 0
        have k1 := HK.out.cell 1
        have y1 := HZ.out.cell 1
        have k2 := HK.out.cell 2
        have y2 := HZ.out.cell 2
        have k3 := HK.out.cell 3
        have y3 := HZ.out.cell 3
        have k4 := HK.out.cell 4
        have y4 := HZ.out.cell 4
        have k5 := HK.out.cell 5
        have y5 := HZ.out.cell 5
        go_wp2_with (first
          | (go_at_call 38; refine (accounted_true _).mono ?_; rintro e w30 ⟨rfl, hg30⟩; have HG30 := Lib.hid (gr_none HG.out hg30); clear hg30)
          | fail)
        go_ret
        refine ⟨rfl, ?_⟩
        have hfin := HG30.out
        rw [← HSB.out] at hfin
        exact below_of_gr hfin
      · have HZ := Lib.hid (blkN (((w25.alloc (.cells #[.string pre, .string name, .int .i64 setup, .int .i64 first, .int .i64 step, .int .i64 rate] 64)).alloc (.cells #[.int .i64 O1, .int .i64 N] 34)).alloc (.cells #[.int .i64 O2, .int .i64 N] 34)) 64 #[.string ⟨#[]⟩, .string ⟨#[]⟩, .int .i64 0, .int .i64 0, .int .i64 0, .int .i64 0] (g := w25.heap.size + 3) (by simp))
        have HCB0 := Lib.hid (((HCB.out.alloc (.cells #[.int .i64 O1, .int .i64 N] 34)).alloc (.cells #[.int .i64 O2, .int .i64 N] 34)).alloc (.cells #[.string ⟨#[]⟩, .string ⟨#[]⟩, .int .i64 0, .int .i64 0, .int .i64 0, .int .i64 0] 64))
        replace HCB := Lib.hid (((HCB.out.alloc (.cells #[.int .i64 O1, .int .i64 N] 34)).alloc (.cells #[.int .i64 O2, .int .i64 N] 34)).alloc (.cells #[.string ⟨#[]⟩, .string ⟨#[]⟩, .int .i64 0, .int .i64 0, .int .i64 0, .int .i64 0] 64))
        replace HK := Lib.hid (((HK.out.alloc (.cells #[.int .i64 O1, .int .i64 N] 34)).alloc (.cells #[.int .i64 O2, .int .i64 N] 34)).alloc (.cells #[.string ⟨#[]⟩, .string ⟨#[]⟩, .int .i64 0, .int .i64 0, .int .i64 0, .int .i64 0] 64))
        replace HPY := Lib.hid (HPY.out.grown (gr_alloc (gr_alloc (gr_alloc (gr_refl _ none) (.cells #[.int .i64 O1, .int .i64 N] 34)) (.cells #[.int .i64 O2, .int .i64 N] 34)) (.cells #[.string ⟨#[]⟩, .string ⟨#[]⟩, .int .i64 0, .int .i64 0, .int .i64 0, .int .i64 0] 64)) (fun g e => by cases e))
        replace HG := Lib.hid (gr_alloc (gr_alloc (gr_alloc HG.out (.cells #[.int .i64 O1, .int .i64 N] 34)) (.cells #[.int .i64 O2, .int .i64 N] 34)) (.cells #[.string ⟨#[]⟩, .string ⟨#[]⟩, .int .i64 0, .int .i64 0, .int .i64 0, .int .i64 0] 64))
        have b1 : (CE == 0) = false := by simpa using h1
        have b2 : (PE == 0) = false := by simpa using h2
        have b3 : (YE == 0) = true := by simpa using h3
        have hca := HC3.out h1
        have hr := HROW.out
        rw [hca] at hr
        simp only [clsRow, Option.elim, Array.mk.injEq, List.cons.injEq, Value.string.injEq, Value.int.injEq, true_and, and_true] at hr
        obtain ⟨rfl, rfl, rfl, rfl, rfl, rfl⟩ := hr
        clear hca HROW HC2 HC3
        obtain rfl := HD3.out h2
        clear HD2 HD3
        have HYP := Lib.hid (HP2.out h3)
        clear HP2 HP3
        clear h1 h2 h3 HCE HCA HPE HPA HYE HYA HC1 HD1 HP1 HO1 HO2 HET HEP HPH HF HN HAT
        go_wp2_with (first
          | fail)
        refine (payerFor_any _ _ _ _ l s _ (by exact HPY.out) (by omega)).mono ?_
        rintro e w27 ⟨rfl, hg27⟩
        rw [← HYP.out]
        replace HZ := Lib.hid (HZ.out.grown hg27 (by simp))
        replace HCB := Lib.hid (HCB.out.grown hg27 (by simp))
        replace HK := Lib.hid (HK.out.grown hg27 (by simp))
        replace HPY := Lib.hid (HPY.out.grown hg27 (fun g e => by cases e))
        replace HG := Lib.hid (gr_none HG.out hg27)
        clear hg27
        have k0 := HK.out.cell 0
        have y0 := HZ.out.cell 0
        have k1 := HK.out.cell 1
        have y1 := HZ.out.cell 1
        have k2 := HK.out.cell 2
        have y2 := HZ.out.cell 2
        have k3 := HK.out.cell 3
        have y3 := HZ.out.cell 3
        have k4 := HK.out.cell 4
        have y4 := HZ.out.cell 4
        have k5 := HK.out.cell 5
        have y5 := HZ.out.cell 5
        go_wp2_with (first
          | (go_at_call 38; refine (accounted_true _).mono ?_; rintro e w30 ⟨rfl, hg30⟩; have HG30 := Lib.hid (gr_none HG.out hg30); clear hg30)
          | fail)
        go_ret
        refine ⟨rfl, ?_⟩
        have hfin := HG30.out
        rw [← HSB.out] at hfin
        exact below_of_gr hfin
      · have HZ := Lib.hid (blkN (((w25.alloc (.cells #[.string pre, .string name, .int .i64 setup, .int .i64 first, .int .i64 step, .int .i64 rate] 64)).alloc (.cells #[.int .i64 O1, .int .i64 N] 34)).alloc (.cells #[.int .i64 O2, .int .i64 N] 34)) 64 #[.string ⟨#[]⟩, .string ⟨#[]⟩, .int .i64 0, .int .i64 0, .int .i64 0, .int .i64 0] (g := w25.heap.size + 3) (by simp))
        have HCB0 := Lib.hid (((HCB.out.alloc (.cells #[.int .i64 O1, .int .i64 N] 34)).alloc (.cells #[.int .i64 O2, .int .i64 N] 34)).alloc (.cells #[.string ⟨#[]⟩, .string ⟨#[]⟩, .int .i64 0, .int .i64 0, .int .i64 0, .int .i64 0] 64))
        replace HCB := Lib.hid (((HCB.out.alloc (.cells #[.int .i64 O1, .int .i64 N] 34)).alloc (.cells #[.int .i64 O2, .int .i64 N] 34)).alloc (.cells #[.string ⟨#[]⟩, .string ⟨#[]⟩, .int .i64 0, .int .i64 0, .int .i64 0, .int .i64 0] 64))
        replace HK := Lib.hid (((HK.out.alloc (.cells #[.int .i64 O1, .int .i64 N] 34)).alloc (.cells #[.int .i64 O2, .int .i64 N] 34)).alloc (.cells #[.string ⟨#[]⟩, .string ⟨#[]⟩, .int .i64 0, .int .i64 0, .int .i64 0, .int .i64 0] 64))
        replace HPY := Lib.hid (HPY.out.grown (gr_alloc (gr_alloc (gr_alloc (gr_refl _ none) (.cells #[.int .i64 O1, .int .i64 N] 34)) (.cells #[.int .i64 O2, .int .i64 N] 34)) (.cells #[.string ⟨#[]⟩, .string ⟨#[]⟩, .int .i64 0, .int .i64 0, .int .i64 0, .int .i64 0] 64)) (fun g e => by cases e))
        replace HG := Lib.hid (gr_alloc (gr_alloc (gr_alloc HG.out (.cells #[.int .i64 O1, .int .i64 N] 34)) (.cells #[.int .i64 O2, .int .i64 N] 34)) (.cells #[.string ⟨#[]⟩, .string ⟨#[]⟩, .int .i64 0, .int .i64 0, .int .i64 0, .int .i64 0] 64))
        have b1 : (CE == 0) = false := by simpa using h1
        have b2 : (PE == 0) = false := by simpa using h2
        have b3 : (YE == 0) = false := by simpa using h3
        have hca := HC3.out h1
        have hr := HROW.out
        rw [hca] at hr
        simp only [clsRow, Option.elim, Array.mk.injEq, List.cons.injEq, Value.string.injEq, Value.int.injEq, true_and, and_true] at hr
        obtain ⟨rfl, rfl, rfl, rfl, rfl, rfl⟩ := hr
        clear hca HROW HC2 HC3
        obtain rfl := HD3.out h2
        clear HD2 HD3
        obtain rfl := HP3.out h3
        have eo : optS none = ⟨#[]⟩ := rfl
        clear HP2 HP3
        clear h1 h2 h3 HCE HCA HPE HPA HYE HYA HC1 HD1 HP1 HO1 HO2 HET HEP HPH HF HN HAT
        have k0 := HK.out.cell 0
        have y0 := HZ.out.cell 0
        have k1 := HK.out.cell 1
        have y1 := HZ.out.cell 1
        have k2 := HK.out.cell 2
        have y2 := HZ.out.cell 2
        have k3 := HK.out.cell 3
        have y3 := HZ.out.cell 3
        have k4 := HK.out.cell 4
        have y4 := HZ.out.cell 4
        have k5 := HK.out.cell 5
        have y5 := HZ.out.cell 5
        go_wp2_with (first
          | (go_at_call 38; refine (accounted_true _).mono ?_; rintro e w30 ⟨rfl, hg30⟩; have HG30 := Lib.hid (gr_none HG.out hg30); clear hg30)
          | fail)
        go_ret
        refine ⟨rfl, ?_⟩
        have hfin := HG30.out
        rw [← HSB.out] at hfin
        exact below_of_gr hfin

theorem met_NumbersPriced {W : World} (_h : laidMetH Tryd.prog Rows.numbersPricedRow.laid W) : True := trivial

theorem own_NumbersPriced : ownKnob Tryd.prog.godebug = none := by kernel_rfl
theorem laidOut_NumbersPriced : laidOutB Tryd.prog = true := by kernel_rfl
set_option maxRecDepth 100000 in
theorem lifted_NumbersPriced (os : Os) (started : os.Started) (H : Type) (enc : TypeId × Value → H) :
    ReturnsInHanded {} Tryd.checked os 4 .any (fun w args => (Rows.numbersPricedSpec.pre enc Tryd.prog Tryd.f4 [] false w args ∧ laidMetH Tryd.prog Rows.numbersPricedRow.laid w) ∧ sizedMet enc Tryd.prog Tryd.f4 (OpenSpec.ofChange Rows.numbersPricedSpec) false w args) (Rows.numbersPricedSpec.post enc Tryd.prog Tryd.f4 false true false false) := by
  refine returnsInHanded_of_change_and (C := Tryd.checked) (X := fun w _ => laidMetH Tryd.prog Rows.numbersPricedRow.laid w) (fun _ _ _ hh h => h.of_heap hh) own_NumbersPriced started (by kernel_rfl) Tryd.func4
    (ChangeSpec.witness_shaped (enc := enc) (C := Tryd.checked) (os := os) (X := fun w _ => laidMetH Tryd.prog Rows.numbersPricedRow.laid w) false (World.laidAll Tryd.prog os Rows.numbersPricedRow.laid) #[.slice none 0 0] 8 (World.laidAll_os _ _ _) (World.shaped_of_ZipB (by kernel_rfl) (by kernel_rfl)) (by kernel_rfl) (by kernel_rfl) (by kernel_rfl)
      (by rw [MakeChecks.laidMetH_plain _ _ _ (by kernel_rfl)]; exact laidMet_laidAll _ (by kernel_rfl) (by kernel_rfl))) ?_
  intro W base args ds gs before hval0 hW _ _ hL _
  have hval : ∀ (j : Nat) t v, Tryd.f4.params[j]? = some t → args[j]? = some v → Value.okWide Tryd.prog W .any base t v := hval0
  have hW' := hW
  obtain ⟨p, q, hA0, hV, rfl, hfz, hnd⟩ := hW
  have hA : DataW.TrodAll enc Tryd.prog W 0 (fun _ => true) true Tryd.f4.params.toList args.toList ds p := hA0
  rw [Tryd.params4] at hA hval
  obtain ⟨v0, vs0, d0, ds0, p0, q0, hargs, rfl, rfl, h0, r0⟩ := trodAll_cons hA
  obtain ⟨rfl, rfl, rfl⟩ := trodAll_nil r0
  obtain rfl : args = #[v0] := by cases args; simp_all
  obtain ⟨rfl, rfl⟩ := trodVars_none hV
  obtain ⟨a0, len0, cap0, rfl⟩ := okWide_slice Tryd.underlying22 (hval 0 22 v0 rfl rfl)
  have k0 := h0
  have lt0 : ∀ x ∈ p0, x.block < W.heap.size := by obtain ⟨m, hm⟩ := k0; exact DataW.trod_lt m _ _ _ hm
  obtain ⟨z0, w0⟩ : ∃ zs, IsRow .i64 W a0 len0 cap0 zs := by
    obtain ⟨fuel, hf⟩ := h0
    rcases open_ints Tryd.underlying22 Tryd.underlying3 (by kernel_rfl) hf with ⟨hcs, _⟩ | ⟨x, l, c, zs, hcs, _, hl, hm, hz, _, hcell, hwz⟩
    · simp [Value.cells] at hcs
      obtain ⟨rfl, rfl, rfl⟩ := hcs
      exact ⟨[], .inl ⟨rfl, rfl, rfl, rfl⟩⟩
    · simp [Value.cells] at hcs
      obtain ⟨rfl, rfl, rfl⟩ := hcs
      exact ⟨zs, .inr ⟨_, rfl, hl, hm, by simpa using hz, hcell, hwz⟩⟩
  clear hA0 hval0
  refine (walk_NumbersPriced a0 len0 cap0 z0 W w0 (met_NumbersPriced hL)).mono fun e W' ⟨he, bel⟩ => ?_
  subst he
  exact ⟨_, rfl, _, _, _, [], _, [], hW', trodAll_mk1 (shut_bool Tryd.underlying4 _), (trodAll_cons_mk (Below.trod laidOut_NumbersPriced (by kernel_rfl) (of_decide_eq_true (by kernel_rfl)) k0 bel lt0) trodAll_mk0), rfl, bel.frame _, fun h => by cases h⟩

theorem over_NumbersPriced : Rows.numbersPricedRow.holds Tryd.pinned (OpenSpec.ofChange Rows.numbersPricedSpec) :=
  OpenClaim.holds_of_wide 4 Tryd.f4 rfl rfl rfl rfl rfl rfl rfl ⟨rfl, rfl, rfl, rfl, rfl⟩ rfl rfl rfl rfl rfl (by kernel_rfl) Tryd.func4 (by kernel_rfl)
    (of_decide_eq_true (by kernel_rfl)) (by unfold Func.isWrapper; first | (rw [if_pos (by decide +kernel)]; kernel_rfl) | (rw [if_neg (by decide +kernel)]; exact ⟨rfl, rfl⟩))
    (fun os started H enc _ => lifted_NumbersPriced os started H enc)

theorem proved_NumbersPriced : Rows.NumbersPricedCardSaid :=
  Claim7.holds_tied_plain_at .later [] [.data, .pinned] true Rows.numbersPricedCard.stood.harness false
    over_NumbersPriced (fun _ h => by cases h) (by kernel_rfl) (fun _ h => by cases h) numbersPriced_row_tie rfl ⟨rfl, rfl⟩ (by kernel_rfl) rfl
    (fun f fn hf hfn => by
      obtain rfl : f = 4 := Option.some.inj ((show Tryd.prog.funcNamed Rows.numbersPricedRow.func = some 4 by kernel_rfl).symm.trans hf) |>.symm
      obtain rfl : fn = Tryd.f4 := (Option.some.inj (Tryd.func4.symm.trans hfn)).symm
      exact ⟨by kernel_rfl, fun j t ht => by
        rw [Tryd.params4] at ht
        have h3 : t = 22 := by
          rcases j with _ | j
          · simpa using ht.symm
          · simp at ht
        subst h3
        exact (show Tryd.prog.wantsStandIn 22 = false by kernel_rfl)⟩)
    (by kernel_rfl)
end Go.Proofs.YtddabpcdjgmooaaDoor


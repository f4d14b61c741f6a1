/- Contract of Price. Conditions: none. -/
import Derived.Test.YtgogiljplnninaaGreatDoorTar4
namespace Go.Proofs.YtgogiljplnninaaGreatDoor
open Go.RowKit

/-! What ClassOf and Price answer. -/
def clsErr (t : TfV) (s : ByteArray) : Int := if tarE t = 0 then (if phOk (nb s) then (if (clsOf t.cl (nb s)).isSome then 0 else 8) else 3) else tarE t
def clsAns (t : TfV) (s : ByteArray) : Option ClV := if tarE t = 0 then (if phOk (nb s) then clsOf t.cl (nb s) else none) else none
def priErr (t : TfV) (s : ByteArray) (talk : Int) : Int := if tarE t = 0 then (if phOk (nb s) then (if inB talk 0 86400000 then (if (clsOf t.cl (nb s)).isSome then 0 else 8) else 1) else 3) else tarE t
def priAns (t : TfV) (s : ByteArray) (talk : Int) : Int := if priErr t s talk = 0 then (clsOf t.cl (nb s)).elim 0 (fun c => priceOf c talk) else 0
theorem clsOf_mem {l : List ClV} {s : List Nat} {c : ClV} (h : clsOf l s = some c) : c ∈ l := by
  have step : ∀ k, clsTo l s k = some c → c ∈ l := by
    intro k
    induction k with
    | zero => intro h; exact List.mem_of_find?_eq_some h
    | succ k ih =>
      intro h
      unfold clsTo at h
      cases h2 : clsAt l (s.take (k + 1)) with
      | none => rw [h2] at h; exact ih h
      | some d => rw [h2] at h; rw [← Option.some.inj h]; exact List.mem_of_find?_eq_some h2
  exact step _ h
set_option maxHeartbeats 8000000 in
theorem Price_any (lo : Nat) (t : TfV) (s : ByteArray) (talk : Int) (w : World) (h : TfOk w lo t) (hs : s.size ≤ 1000) :
    Calls Tryz.prog 70 #[.agg #[.slice t.cA t.cn t.cc, .int .i64 t.free, .slice t.iA t.en t.ic], .string s, .int .i64 talk] w (RetV (.tuple #[.int .i64 (priAns t s talk), .int .i64 (priErr t s talk)]) w) := by
  obtain ⟨cA, cn, cc, free, iA, en, ic, cl, ins⟩ := t
  have HOK := Lib.hid h
  have hlen : cl.length = cn := h.2.1.len
  clear h
  dsimp only
  obtain ⟨E, hE⟩ : ∃ E, tarE ⟨cA, cn, cc, free, iA, en, ic, cl, ins⟩ = E := ⟨_, rfl⟩
  obtain ⟨B, hB⟩ : ∃ B, phOk (nb s) = B := ⟨_, rfl⟩
  have HE := Lib.hid hE; have HBP := Lib.hid hB
  have HGA := Lib.hid (show w.grownBy (w.alloc (.cells #[.slice cA cn cc, .int .i64 free, .slice iA en ic] 103)) none from gr_alloc (gr_refl _ _) _)
  by_cases h9 : E = 0
  · have h9' : (E != 0) = false := by simpa using h9
    obtain ⟨hsr, hnum⟩ := tar_right hlen (by rw [hE]; exact h9)
    have HSR := Lib.hid hsr; have HNU := Lib.hid hnum; clear hsr hnum
    cases B
    · have hf : priErr ⟨cA, cn, cc, free, iA, en, ic, cl, ins⟩ s talk = 3 := by unfold priErr; rw [hE, hB, if_pos h9]; rfl
      have HF := Lib.hid (show priAns ⟨cA, cn, cc, free, iA, en, ic, cl, ins⟩ s talk = 0 ∧ priErr ⟨cA, cn, cc, free, iA, en, ic, cl, ins⟩ s talk = 3 from ⟨by unfold priAns; rw [hf]; rfl, hf⟩)
      clear h9 hE hB hlen hf
      go_enter Tryz.func70, Tryz.ntmps70
      have HB0 := Lib.hid (show Blk (w.alloc (.cells #[.slice cA cn cc, .int .i64 free, .slice iA en ic] 103)) w.heap.size 103 #[.slice cA cn cc, .int .i64 free, .slice iA en ic] from Blk.new w _ _)
      go_wp2_with (first
        | (refine wpl_load_all Tryz.tfT rfl _ rfl _ rfl _ _ HB0.out rfl ?_)
        | fail)
      refine (checkTariff_any lo ⟨cA, cn, cc, free, iA, en, ic, cl, ins⟩ _ (HOK.out.grown (by exact HGA.out) (fun g e => by cases e))).mono ?_
      rintro e w2 ⟨rfl, hg2⟩
      rw [HE.out]
      have HT := Lib.hid (HB0.out.grown hg2 (by simp))
      have HG2 := Lib.hid (gr_none HGA.out hg2)
      clear hg2
      go_wp2_with fail
      refine (isNumber_any s _ (by omega)).mono ?_
      rintro e w3 ⟨rfl, hg3⟩
      rw [HBP.out]
      replace HT := Lib.hid (HT.out.grown hg3 (by simp))
      have HG3 := Lib.hid (gr_none HG2.out hg3)
      clear hg3
      go_wp2_with fail
      go_ret2
      exact ⟨by rw [HF.out.1, HF.out.2]; rfl, HG3.out⟩
    · obtain ⟨BW, hBW⟩ : ∃ B, inB talk 0 86400000 = B := ⟨_, rfl⟩
      have HBW := Lib.hid hBW
      cases BW
      · have hf : priErr ⟨cA, cn, cc, free, iA, en, ic, cl, ins⟩ s talk = 1 := by unfold priErr; rw [hE, hB, hBW, if_pos h9]; rfl
        have HF := Lib.hid (show priAns ⟨cA, cn, cc, free, iA, en, ic, cl, ins⟩ s talk = 0 ∧ priErr ⟨cA, cn, cc, free, iA, en, ic, cl, ins⟩ s talk = 1 from ⟨by unfold priAns; rw [hf]; rfl, hf⟩)
        clear h9 hE hB hlen hf hBW
        go_enter Tryz.func70, Tryz.ntmps70
        have HB0 := Lib.hid (show Blk (w.alloc (.cells #[.slice cA cn cc, .int .i64 free, .slice iA en ic] 103)) w.heap.size 103 #[.slice cA cn cc, .int .i64 free, .slice iA en ic] from Blk.new w _ _)
        go_wp2_with (first
          | (refine wpl_load_all Tryz.tfT rfl _ rfl _ rfl _ _ HB0.out rfl ?_)
          | fail)
        refine (checkTariff_any lo ⟨cA, cn, cc, free, iA, en, ic, cl, ins⟩ _ (HOK.out.grown (by exact HGA.out) (fun g e => by cases e))).mono ?_
        rintro e w2 ⟨rfl, hg2⟩
        rw [HE.out]
        have HT := Lib.hid (HB0.out.grown hg2 (by simp))
        have HG2 := Lib.hid (gr_none HGA.out hg2)
        clear hg2
        go_wp2_with fail
        refine (isNumber_any s _ (by omega)).mono ?_
        rintro e w3 ⟨rfl, hg3⟩
        rw [HBP.out]
        replace HT := Lib.hid (HT.out.grown hg3 (by simp))
        have HG3 := Lib.hid (gr_none HG2.out hg3)
        clear hg3
        go_wp2_with (first
          | (go_at_call 64; refine (withinA_any _ _ _ _).mono ?_; rintro e w' ⟨rfl, rfl⟩; rw [HBW.out])
          | fail)
        go_ret2
        exact ⟨by rw [HF.out.1, HF.out.2]; rfl, HG3.out⟩
      · obtain ⟨C, hC⟩ : ∃ C, clsOf cl (nb s) = C := ⟨_, rfl⟩
        have HC := Lib.hid hC
        have hf : priErr ⟨cA, cn, cc, free, iA, en, ic, cl, ins⟩ s talk = if C.isSome then 0 else 8 := by unfold priErr; rw [hE, hB, hBW, if_pos h9, if_pos rfl, if_pos rfl]; dsimp only; rw [hC]
        have hA : priAns ⟨cA, cn, cc, free, iA, en, ic, cl, ins⟩ s talk = if (if C.isSome then (0 : Int) else 8) = 0 then C.elim 0 (fun c => priceOf c talk) else 0 := by unfold priAns; rw [hf]; dsimp only; rw [hC]
        have hb : 0 ≤ talk ∧ talk ≤ 86400000 := by unfold inB at hBW; simp only [Bool.and_eq_true, decide_eq_true_eq] at hBW; exact hBW
        cases C with
        | none =>
          have HF := Lib.hid (show priAns ⟨cA, cn, cc, free, iA, en, ic, cl, ins⟩ s talk = 0 ∧ priErr ⟨cA, cn, cc, free, iA, en, ic, cl, ins⟩ s talk = 8 from ⟨hA, hf⟩)
          clear h9 hE hB hlen hf hBW hA hC hb
          go_enter Tryz.func70, Tryz.ntmps70
          have HB0 := Lib.hid (show Blk (w.alloc (.cells #[.slice cA cn cc, .int .i64 free, .slice iA en ic] 103)) w.heap.size 103 #[.slice cA cn cc, .int .i64 free, .slice iA en ic] from Blk.new w _ _)
          go_wp2_with (first
            | (refine wpl_load_all Tryz.tfT rfl _ rfl _ rfl _ _ HB0.out rfl ?_)
            | fail)
          refine (checkTariff_any lo ⟨cA, cn, cc, free, iA, en, ic, cl, ins⟩ _ (HOK.out.grown (by exact HGA.out) (fun g e => by cases e))).mono ?_
          rintro e w2 ⟨rfl, hg2⟩
          rw [HE.out]
          have HT := Lib.hid (HB0.out.grown hg2 (by simp))
          have HG2 := Lib.hid (gr_none HGA.out hg2)
          clear hg2
          go_wp2_with fail
          refine (isNumber_any s _ (by omega)).mono ?_
          rintro e w3 ⟨rfl, hg3⟩
          rw [HBP.out]
          replace HT := Lib.hid (HT.out.grown hg3 (by simp))
          have HG3 := Lib.hid (gr_none HG2.out hg3)
          clear hg3
          go_wp2_with (first
            | (go_at_call 64; refine (withinA_any _ _ _ _).mono ?_; rintro e w' ⟨rfl, rfl⟩; rw [HBW.out])
            | (refine wpl_load_all Tryz.tfT rfl _ rfl _ rfl _ _ HT.out rfl ?_)
            | fail)
          refine (classOf_any lo ⟨cA, cn, cc, free, iA, en, ic, cl, ins⟩ s _ (HOK.out.grown HG3.out (fun g e => by cases e)) (by omega) HSR.out).mono ?_
          rintro e w4 ⟨rfl, hg4⟩
          rw [show clsOf (TfV.cl ⟨cA, cn, cc, free, iA, en, ic, cl, ins⟩) (nb s) = _ from HC.out]
          have HG4 := Lib.hid (gr_none HG3.out hg4); clear hg4
          rw [show clsRow none = #[.string ⟨#[]⟩, .string ⟨#[]⟩, .int .i64 0, .int .i64 0, .int .i64 0, .int .i64 0] from rfl]
          go_wp2_with fail
          go_ret2
          exact ⟨by rw [HF.out.1, HF.out.2]; rfl, gr_alloc HG4.out _⟩
        | some c =>
          have HN := Lib.hid (HNU.out c (clsOf_mem hC))
          have HF := Lib.hid (show priAns ⟨cA, cn, cc, free, iA, en, ic, cl, ins⟩ s talk = priceOf c talk ∧ priErr ⟨cA, cn, cc, free, iA, en, ic, cl, ins⟩ s talk = 0 from ⟨hA, hf⟩)
          obtain ⟨hb1, hb2⟩ := hb
          clear h9 hE hB hlen hf hBW hA hC
          obtain ⟨pre, name, setup, first, step, rate⟩ := c
          go_enter Tryz.func70, Tryz.ntmps70
          have HB0 := Lib.hid (show Blk (w.alloc (.cells #[.slice cA cn cc, .int .i64 free, .slice iA en ic] 103)) w.heap.size 103 #[.slice cA cn cc, .int .i64 free, .slice iA en ic] from Blk.new w _ _)
          go_wp2_with (first
            | (refine wpl_load_all Tryz.tfT rfl _ rfl _ rfl _ _ HB0.out rfl ?_)
            | fail)
          refine (checkTariff_any lo ⟨cA, cn, cc, free, iA, en, ic, cl, ins⟩ _ (HOK.out.grown (by exact HGA.out) (fun g e => by cases e))).mono ?_
          rintro e w2 ⟨rfl, hg2⟩
          rw [HE.out]
          have HT := Lib.hid (HB0.out.grown hg2 (by simp))
          have HG2 := Lib.hid (gr_none HGA.out hg2)
          clear hg2
          go_wp2_with fail
          refine (isNumber_any s _ (by omega)).mono ?_
          rintro e w3 ⟨rfl, hg3⟩
          rw [HBP.out]
          replace HT := Lib.hid (HT.out.grown hg3 (by simp))
          have HG3 := Lib.hid (gr_none HG2.out hg3)
          clear hg3
          go_wp2_with (first
            | (go_at_call 64; refine (withinA_any _ _ _ _).mono ?_; rintro e w' ⟨rfl, rfl⟩; rw [HBW.out])
            | (refine wpl_load_all Tryz.tfT rfl _ rfl _ rfl _ _ HT.out rfl ?_)
            | fail)
          refine (classOf_any lo ⟨cA, cn, cc, free, iA, en, ic, cl, ins⟩ s _ (HOK.out.grown HG3.out (fun g e => by cases e)) (by omega) HSR.out).mono ?_
          rintro e w4 ⟨rfl, hg4⟩
          rw [show clsOf (TfV.cl ⟨cA, cn, cc, free, iA, en, ic, cl, ins⟩) (nb s) = _ from HC.out]
          have HG4 := Lib.hid (gr_none HG3.out hg4); clear hg4
          rw [show clsRow (some ⟨pre, name, setup, first, step, rate⟩) = #[.string pre, .string name, .int .i64 setup, .int .i64 first, .int .i64 step, .int .i64 rate] from rfl]
          have HNB := Lib.hid (Blk.new w4 100 #[.string pre, .string name, .int .i64 setup, .int .i64 first, .int .i64 step, .int .i64 rate])
          go_wp2_with (first
            | (refine wpl_load_all Tryz.clT rfl _ rfl _ rfl _ _ HNB.out rfl ?_)
            | fail)
          refine (price_any ⟨pre, name, setup, first, step, rate⟩ talk _ HN.out hb1 hb2).mono ?_
          rintro e w5 ⟨rfl, hg5⟩
          have HG5 := Lib.hid (gr_none (gr_alloc HG4.out _) hg5); clear hg5
          go_wp2_with fail
          go_ret2
          exact ⟨by rw [HF.out.1, HF.out.2]; rfl, HG5.out⟩
  · have h9' : (E != 0) = true := by simpa using h9
    have hf : priErr ⟨cA, cn, cc, free, iA, en, ic, cl, ins⟩ s talk = E := by unfold priErr; rw [hE, if_neg h9]
    have HF := Lib.hid (show priAns ⟨cA, cn, cc, free, iA, en, ic, cl, ins⟩ s talk = 0 ∧ priErr ⟨cA, cn, cc, free, iA, en, ic, cl, ins⟩ s talk = E from ⟨by unfold priAns; rw [hf, if_neg h9], hf⟩)
    clear h9 hE hB hlen hf
    go_enter Tryz.func70, Tryz.ntmps70
    have HB0 := Lib.hid (show Blk (w.alloc (.cells #[.slice cA cn cc, .int .i64 free, .slice iA en ic] 103)) w.heap.size 103 #[.slice cA cn cc, .int .i64 free, .slice iA en ic] from Blk.new w _ _)
    go_wp2_with (first
      | (refine wpl_load_all Tryz.tfT rfl _ rfl _ rfl _ _ HB0.out rfl ?_)
      | fail)
    refine (checkTariff_any lo ⟨cA, cn, cc, free, iA, en, ic, cl, ins⟩ _ (HOK.out.grown (by exact HGA.out) (fun g e => by cases e))).mono ?_
    rintro e w2 ⟨rfl, hg2⟩
    rw [HE.out]
    have HT := Lib.hid (HB0.out.grown hg2 (by simp))
    have HG2 := Lib.hid (gr_none HGA.out hg2)
    clear hg2
    go_wp2_with fail
    go_ret2
    exact ⟨by rw [HF.out.1, HF.out.2]; rfl, HG2.out⟩
theorem acc_ans : priAns ⟨none, 1, 1, 0, none, 0, 0, [⟨⟨#[43, 49]⟩, ⟨#[97]⟩, 0, 0, 1000, 7⟩], []⟩ ⟨#[43, 49, 50, 48, 48]⟩ 1500 = 14 ∧ priErr ⟨none, 1, 1, 0, none, 0, 0, [⟨⟨#[43, 49]⟩, ⟨#[97]⟩, 0, 0, 1000, 7⟩], []⟩ ⟨#[43, 49, 50, 48, 48]⟩ 1500 = 0 := by
  constructor <;> decide +kernel
set_option maxHeartbeats 2000000 in
theorem accounted_true (w : World) : Calls Tryz.prog 20 #[] w (RetV (.bool true) w) := by
  have hT := Reads.one w 100 [.string ⟨#[43, 49]⟩, .string ⟨#[97]⟩, .int .i64 0, .int .i64 0, .int .i64 1000, .int .i64 7] 6 rfl
  have HOK := Lib.hid (show TfOk (w.alloc (.cells #[.string ⟨#[43, 49]⟩, .string ⟨#[97]⟩, .int .i64 0, .int .i64 0, .int .i64 1000, .int .i64 7] 100)) w.heap.size ⟨some ⟨w.heap.size, 0, none⟩, 1, 1, 0, none, 0, 0, [⟨⟨#[43, 49]⟩, ⟨#[97]⟩, 0, 0, 1000, 7⟩], []⟩ from
    ⟨⟨fun c hc => by rw [List.mem_singleton.1 hc]; exact ⟨by decide, by decide⟩, (fun s hs => by cases hs), by dsimp only; omega, by dsimp only; omega⟩, ⟨hT, rfl⟩, ⟨Reads.none_, rfl⟩⟩)
  have HA := Lib.hid acc_ans
  have HA2 := Lib.hid (show priAns ⟨some ⟨w.heap.size, 0, none⟩, 1, 1, 0, none, 0, 0, [⟨⟨#[43, 49]⟩, ⟨#[97]⟩, 0, 0, 1000, 7⟩], []⟩ ⟨#[43, 49, 50, 48, 48]⟩ 1500 = 14 ∧ priErr ⟨some ⟨w.heap.size, 0, none⟩, 1, 1, 0, none, 0, 0, [⟨⟨#[43, 49]⟩, ⟨#[97]⟩, 0, 0, 1000, 7⟩], []⟩ ⟨#[43, 49, 50, 48, 48]⟩ 1500 = 0 from HA.out)
  clear hT HA
  go_enter Tryz.func20, Tryz.ntmps20
  go_wp2_with fail
  refine (Price_any w.heap.size ⟨some ⟨w.heap.size, 0, none⟩, 1, 1, 0, none, 0, 0, [⟨⟨#[43, 49]⟩, ⟨#[97]⟩, 0, 0, 1000, 7⟩], []⟩ ⟨#[43, 49, 50, 48, 48]⟩ 1500 _ HOK.out (by decide)).mono ?_
  rintro e w2 ⟨rfl, hg2⟩
  rw [HA2.out.1, HA2.out.2]
  have HG := Lib.hid (gr_none (gr_alloc (gr_refl w none) _) hg2)
  clear hg2
  go_wp2_with fail
  go_ret
  exact ⟨rfl, HG.out⟩

end Go.Proofs.YtgogiljplnninaaGreatDoor

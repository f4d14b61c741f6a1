/- Contracts of ClassOf, Price, PayerOf, of the map of owners and of the document's PayerFor. Conditions: none. -/
import Derived.Test.YtlkibeckfpjccaaGreatDoorBun3
import Derived.Test.YtlkibeckfpjccaaGreatDoorTar3
import Derived.Test.YtlkibeckfpjccaaGreatDoorTar4
import Derived.Test.YtlkibeckfpjccaaGreatDoorBun1
namespace Go.Proofs.YtlkibeckfpjccaaGreatDoor
section
open Go.RowKit

def OwnersV (l : List PyV) (w : World) (e : Ending) (w' : World) : Prop := ∃ b m : Nat, e = .returned (.map (some b)) ∧ MapSS w' b m (lastOf (pairsOf l)) ∧ w.grownBy w' none
theorem pairs_take {l : List PyV} {k : Nat} {p : PyV} (h : l[k]? = some p) : pairsOf (l.take (k + 1)) = pairsOf (l.take k) ++ p.nums.map (fun n => (n, p.key)) := by
  unfold pairsOf; rw [take_snoc' h, List.flatMap_append]; simp
theorem pairs_one (ps : List (ByteArray × ByteArray)) (key : ByteArray) {ns : List ByteArray} {j : Nat} {s : ByteArray} (h : ns[j]? = some s) : lastOf (ps ++ (ns.take (j + 1)).map (fun n => (n, key))) = fun k => if nb s = nb k then some key else lastOf (ps ++ (ns.take j).map (fun n => (n, key))) k := by
  funext k
  rw [take_snoc' h, List.map_append, ← List.append_assoc]
  exact lastOf_snoc _ _ _ _
set_option maxHeartbeats 8000000 in
set_option maxRecDepth 100000 in
theorem owners_any (lo : Nat) (A : Option Addr) (n c : Nat) (l : List PyV) (w : World) (h : Pys w lo A n c l) (hn : n ≤ 1000) :
    Calls Tryz.prog 61 #[.slice A n c] w (OwnersV l w) := by
  have H := Lib.hid h; clear h
  have hmm := @run_makeMap Tryz.prog
  go_enter Tryz.func61, Tryz.ntmps61
  go_wp2_with fail
  clear hmm
  go_loopw [5, 7, 11] (fun _ _ t wr => ∃ k m : Nat, k ≤ n ∧ t = .int .i64 k ∧ w.grownBy wr none ∧ MapSS wr w.heap.size m (lastOf (pairsOf (l.take k))) ∧ m ≤ 1000 * k) (fun _ _ t _ => n - (intOf t).toNat)
  case atStart => exact ⟨0, 0, Nat.zero_le _, rfl, gr_alloc (gr_refl _ _) _, MapSS.new _, by omega⟩
  case round =>
    obtain ⟨k, m, hk, rfl, hg, hset, hm⟩ := hrel
    have zr := hg.size
    have zs := hset.lt
    have HG := Lib.hid hg; have HSET := Lib.hid hset; clear hg hset
    by_cases hlt : k < n
    · obtain ⟨g, o, ⟨key, nA, nn, nc, nums⟩, rfl, _, hgl, hz, hcc⟩ := (H.out.1.grown HG.out (fun g e => by cases e)).get PyV.row_len hlt
      obtain ⟨⟨p1, p2, p3⟩, p4⟩ := H.out.2 _ (mem_of_get hz)
      dsimp only at p1 p2 p3 p4
      have HP2 := Lib.hid p2; have HPN := Lib.hid p4; clear p2 p4
      have HZ := Lib.hid hz; have HC := Lib.hid hcc; clear hz hcc
      have hsB := Blk.new wr 73 #[.string key, .slice nA nn nc]
      have k1 := hsB.cell 1
      have HB := Lib.hid hsB
      replace HG := Lib.hid (gr_alloc HG.out (.cells #[.string key, .slice nA nn nc] 73))
      replace HSET := Lib.hid (HSET.out.kept (gr_alloc (gr_refl _ none) (.cells #[.string key, .slice nA nn nc] 73)) (by simp))
      clear hsB
      go_wp2_with (first
        | (refine wpl_load_at Tryz.pyT rfl _ rfl _ rfl [.string key, .slice nA nn nc] rfl (fun j u hu => by rw [add_mk]; exact HC.out j u hu) ?_)
        | fail)
      clear k1
      obtain ⟨wo, rfl⟩ : ∃ wo : World, wo = wr := ⟨_, rfl⟩
      go_loopw [7, 18] (fun _ t wr => ∃ j m : Nat, j ≤ nn ∧ t = .int .i64 j ∧ w.grownBy wr none ∧ Blk wr wo.heap.size 73 #[.string key, .slice nA nn nc] ∧ MapSS wr w.heap.size m (lastOf (pairsOf (l.take k) ++ (nums.take j).map (fun n => (n, key)))) ∧ m ≤ 1000 * k + j) (fun _ t _ => nn - (intOf t).toNat)
      case atStart => exact ⟨0, m, Nat.zero_le _, rfl, HG.out, HB.out, by rw [List.take_zero, List.map_nil, List.append_nil]; exact HSET.out, by omega⟩
      case round =>
        clear HG HB HSET
        obtain ⟨j, m1, hj, rfl, hg, hbl, hset, hm1⟩ := hrel
        have zr1 := hg.size
        have zs1 := hset.lt
        have k0 := hbl.cell 0
        have HG := Lib.hid hg; have HB := Lib.hid hbl; have HSET := Lib.hid hset; clear hg hbl hset
        by_cases hlt2 : j < nn
        · obtain ⟨g2, o2, s, rfl, _, hgl2, hz, hcc⟩ := (HPN.out.grown HG.out (fun g e => by cases e)).get srow_len hlt2
          have hsz : s.size ≤ 1000 := HP2.out _ (mem_of_get hz)
          have ks := hcc 0 _ rfl
          simp only [Nat.mul_one, Nat.add_zero] at ks
          have HS := Lib.hid hz; clear hz hcc
          go_wp2_with (first
            | (at_mapUpdate
               refine wpl_ssput rfl _ _ _ rfl rfl s key rfl rfl (by unfold maxLen; omega) (by unfold maxLen; omega) (by exact HSET.out) (by unfold maxLen; omega) ?_
               intro w5 hset5 hg5
               have HS5 := Lib.hid hset5
               have HB5 := Lib.hid (HB.out.grown hg5 (by simp; omega))
               have HG5 := Lib.hid (gr_trans HG.out hg5 (fun g e => .inr (by injection e with e; omega)))
               clear hset5 hg5)
            | fail)
          go_roundw
          case rel => exact ⟨j + 1, _, by omega, by go_num, HG5.out, HB5.out, by rw [pairs_one _ key HS.out]; exact HS5.out, by omega⟩
          case measure => simp [intOf]; omega
        · obtain rfl : nn = j := by omega
          have HT := Lib.hid (show MapSS wr w.heap.size m1 (lastOf (pairsOf (l.take (k + 1)))) by
            rw [pairs_take HZ.out]
            have h := HSET.out
            rw [List.take_of_length_le (l := nums) (by rw [HPN.out.len]; exact Nat.le_refl _)] at h
            exact h)
          clear k0
          go_wp2_with fail
          go_roundw
          case rel => exact ⟨k + 1, _, by omega, by go_num, HG.out, HT.out, by omega⟩
          case measure => simp [intOf]; omega
    · obtain rfl : n = k := by omega
      have HT := Lib.hid (show MapSS wr w.heap.size m (lastOf (pairsOf l)) by
        have h := HSET.out
        rw [List.take_of_length_le (by rw [H.out.1.len]; exact Nat.le_refl _)] at h
        exact h)
      go_wp2_with fail
      go_ret
      exact ⟨_, m, rfl, HT.out, HG.out⟩

/-! What PayerOf answers. -/
def payAns (l : List PyV) (s : ByteArray) : Option ByteArray := if pysE l = 0 then (if phOk (nb s) then (payerOf l (nb s)).map (·.key) else none) else none
def payErr (l : List PyV) (s : ByteArray) : Int := if pysE l = 0 then (if phOk (nb s) then 0 else 3) else pysE l
def optS (o : Option ByteArray) : ByteArray := o.getD ⟨#[]⟩
set_option maxHeartbeats 4000000 in
theorem payerFor_any (lo : Nat) (A : Option Addr) (n c : Nat) (l : List PyV) (s : ByteArray) (w : World) (h : Pys w lo A n c l) (hn : n ≤ 1000) :
    Calls Tryz.prog 96 #[.slice A n c, .string s] w (RetV (.tuple #[.string (optS ((payerOf l (nb s)).map (·.key))), .bool ((payerOf l (nb s)).map (·.key)).isSome]) w) := by
  have H := Lib.hid h; clear h
  obtain ⟨R, hR⟩ : ∃ R, payerOf l (nb s) = R := ⟨_, rfl⟩
  rw [hR]
  have HR := Lib.hid hR; clear hR
  go_enter Tryz.func96, Tryz.ntmps96
  go_wp2_with fail
  go_loopw [7, 10] (fun _ t wr => ∃ k : Nat, k ≤ n ∧ t = .int .i64 k ∧ w.grownBy wr none ∧ (l.take k).all (fun p => !(p.nums.any (fun x => nb x == nb s))) = true) (fun _ t _ => n - (intOf t).toNat)
  case atStart => exact ⟨0, Nat.zero_le _, rfl, gr_refl _ _, rfl⟩
  case round =>
    obtain ⟨k, hk, rfl, hg, ha⟩ := hrel
    have HG := Lib.hid hg; have HA := Lib.hid ha; clear hg ha
    by_cases hlt : k < n
    · obtain ⟨g, o, ⟨key, nA, nn, nc, nums⟩, rfl, _, hgl, hz, hcc⟩ := (H.out.1.grown HG.out (fun g e => by cases e)).get PyV.row_len hlt
      obtain ⟨⟨p1, p2, p3⟩, p4⟩ := H.out.2 _ (mem_of_get hz)
      dsimp only at p1 p2 p3 p4
      have HPN := Lib.hid p4; clear p2 p4
      have HZ := Lib.hid hz; have HC := Lib.hid hcc; clear hz hcc
      have hsB := Blk.new wr 73 #[.string key, .slice nA nn nc]
      have k0 := hsB.cell 0
      have k1 := hsB.cell 1
      replace HG := Lib.hid (gr_alloc HG.out (.cells #[.string key, .slice nA nn nc] 73))
      clear hsB
      obtain ⟨E, hE⟩ : ∃ E, nums.any (fun x => nb x == nb s) = E := ⟨_, rfl⟩
      have HE := Lib.hid hE; clear hE
      cases E
      · go_wp2_with (first
          | (refine wpl_load_at Tryz.pyT rfl _ rfl _ rfl [.string key, .slice nA nn nc] rfl (fun j u hu => by rw [add_mk]; exact HC.out j u hu) ?_)
          | (go_at_call 63; refine (containsS_any lo _ _ _ nums s _ (HPN.out.grown (by exact HG.out) (fun g e => by cases e)) (by omega)).mono ?_; rintro e w2 ⟨rfl, rfl⟩; rw [HE.out])
          | fail)
        go_roundw
        case rel => exact ⟨k + 1, by omega, by go_num, HG.out, allP_succ (p := fun p : PyV => p.nums.any (fun x => nb x == nb s)) HA.out HZ.out HE.out⟩
        case measure => simp [intOf]; omega
      · replace HR := Lib.hid (show R = some ⟨key, nA, nn, nc, nums⟩ by
          rw [← HR.out]
          unfold payerOf
          obtain ⟨hl, hgt⟩ := List.getElem?_eq_some_iff.1 HZ.out
          rw [List.find?_eq_some_iff_getElem]
          refine ⟨HE.out, k, hl, hgt, fun j hj => ?_⟩
          exact List.all_eq_true.1 HA.out l[j] (by
            rw [List.mem_iff_getElem?]
            exact ⟨j, by rw [List.getElem?_take, if_pos hj]; exact List.getElem?_eq_getElem (by omega)⟩))
        go_wp2_with (first
          | (refine wpl_load_at Tryz.pyT rfl _ rfl _ rfl [.string key, .slice nA nn nc] rfl (fun j u hu => by rw [add_mk]; exact HC.out j u hu) ?_)
          | (go_at_call 63; refine (containsS_any lo _ _ _ nums s _ (HPN.out.grown (by exact HG.out) (fun g e => by cases e)) (by omega)).mono ?_; rintro e w2 ⟨rfl, rfl⟩; rw [HE.out])
          | fail)
        go_ret2
        exact ⟨by rw [HR.out]; rfl, HG.out⟩
    · obtain rfl : n = k := by omega
      replace HR := Lib.hid (show R = none by
        rw [← HR.out]
        unfold payerOf
        rw [List.find?_eq_none]
        intro p hp
        have h := HA.out
        rw [List.take_of_length_le (by rw [H.out.1.len]; exact Nat.le_refl _)] at h
        have := List.all_eq_true.1 h p hp
        simpa using this)
      go_wp2_with fail
      go_ret2
      exact ⟨by rw [HR.out]; rfl, HG.out⟩
end
end Go.Proofs.YtlkibeckfpjccaaGreatDoor
/- Contract of Price. Conditions: none. -/
namespace Go.Proofs.YtlkibeckfpjccaaGreatDoor
section
open Go.RowKit

/-! What ClassOf and Price answer. -/
def clsErr (t : TfV) (s : ByteArray) : Int := if tarE t = 0 then (if phOk (nb s) then (if (clsOf t.cl (nb s)).isSome then 0 else 8) else 3) else tarE t
def clsAns (t : TfV) (s : ByteArray) : Option ClV := if tarE t = 0 then (if phOk (nb s) then clsOf t.cl (nb s) else none) else none
def priErr (t : TfV) (s : ByteArray) (talk : Int) : Int := if tarE t = 0 then (if phOk (nb s) then (if inB talk 0 86400000 then (if (clsOf t.cl (nb s)).isSome then 0 else 8) else 1) else 3) else tarE t
def priAns (t : TfV) (s : ByteArray) (talk : Int) : Int := if priErr t s talk = 0 then (clsOf t.cl (nb s)).elim 0 (fun c => priceOf c talk) else 0
theorem clsOf_mem {l : List ClV} {s : List Nat} {c : ClV} (h : clsOf l s = some c) : c ∈ l := by
  have step : ∀ k, clsTo l s k = some c → c ∈ l := by
    intro k
    induction k with
    | zero => intro h; exact List.mem_of_find?_eq_some h
    | succ k ih =>
      intro h
      unfold clsTo at h
      cases h2 : clsAt l (s.take (k + 1)) with
      | none => rw [h2] at h; exact ih h
      | some d => rw [h2] at h; rw [← Option.some.inj h]; exact List.mem_of_find?_eq_some h2
  exact step _ h
set_option maxHeartbeats 8000000 in
theorem Price_any (lo : Nat) (t : TfV) (s : ByteArray) (talk : Int) (w : World) (h : TfOk w lo t) (hs : s.size ≤ 1000) :
    Calls Tryz.prog 51 #[.agg #[.slice t.cA t.cn t.cc, .int .i64 t.free, .slice t.iA t.en t.ic], .string s, .int .i64 talk] w (RetV (.tuple #[.int .i64 (priAns t s talk), .int .i64 (priErr t s talk)]) w) := by
  obtain ⟨cA, cn, cc, free, iA, en, ic, cl, ins⟩ := t
  have HOK := Lib.hid h
  have hlen : cl.length = cn := h.2.1.len
  clear h
  dsimp only
  obtain ⟨E, hE⟩ : ∃ E, tarE ⟨cA, cn, cc, free, iA, en, ic, cl, ins⟩ = E := ⟨_, rfl⟩
  obtain ⟨B, hB⟩ : ∃ B, phOk (nb s) = B := ⟨_, rfl⟩
  have HE := Lib.hid hE; have HBP := Lib.hid hB
  have HGA := Lib.hid (show w.grownBy (w.alloc (.cells #[.slice cA cn cc, .int .i64 free, .slice iA en ic] 29)) none from gr_alloc (gr_refl _ _) _)
  by_cases h9 : E = 0
  · have h9' : (E != 0) = false := by simpa using h9
    obtain ⟨hsr, hnum⟩ := tar_right hlen (by rw [hE]; exact h9)
    have HSR := Lib.hid hsr; have HNU := Lib.hid hnum; clear hsr hnum
    cases B
    · have hf : priErr ⟨cA, cn, cc, free, iA, en, ic, cl, ins⟩ s talk = 3 := by unfold priErr; rw [hE, hB, if_pos h9]; rfl
      have HF := Lib.hid (show priAns ⟨cA, cn, cc, free, iA, en, ic, cl, ins⟩ s talk = 0 ∧ priErr ⟨cA, cn, cc, free, iA, en, ic, cl, ins⟩ s talk = 3 from ⟨by unfold priAns; rw [hf]; rfl, hf⟩)
      clear h9 hE hB hlen hf
      go_enter Tryz.func51, Tryz.ntmps51
      have HB0 := Lib.hid (show Blk (w.alloc (.cells #[.slice cA cn cc, .int .i64 free, .slice iA en ic] 29)) w.heap.size 29 #[.slice cA cn cc, .int .i64 free, .slice iA en ic] from Blk.new w _ _)
      go_wp2_with (first
        | (refine wpl_load_all Tryz.tfT rfl _ rfl _ rfl _ _ HB0.out rfl ?_)
        | fail)
      refine (checkTariff_any lo ⟨cA, cn, cc, free, iA, en, ic, cl, ins⟩ _ (HOK.out.grown (by exact HGA.out) (fun g e => by cases e))).mono ?_
      rintro e w2 ⟨rfl, hg2⟩
      rw [HE.out]
      have HT := Lib.hid (HB0.out.grown hg2 (by simp))
      have HG2 := Lib.hid (gr_none HGA.out hg2)
      clear hg2
      go_wp2_with fail
      refine (isNumber_any s _ (by omega)).mono ?_
      rintro e w3 ⟨rfl, hg3⟩
      rw [HBP.out]
      replace HT := Lib.hid (HT.out.grown hg3 (by simp))
      have HG3 := Lib.hid (gr_none HG2.out hg3)
      clear hg3
      go_wp2_with fail
      go_ret2
      exact ⟨by rw [HF.out.1, HF.out.2]; rfl, HG3.out⟩
    · obtain ⟨BW, hBW⟩ : ∃ B, inB talk 0 86400000 = B := ⟨_, rfl⟩
      have HBW := Lib.hid hBW
      cases BW
      · have hf : priErr ⟨cA, cn, cc, free, iA, en, ic, cl, ins⟩ s talk = 1 := by unfold priErr; rw [hE, hB, hBW, if_pos h9]; rfl
        have HF := Lib.hid (show priAns ⟨cA, cn, cc, free, iA, en, ic, cl, ins⟩ s talk = 0 ∧ priErr ⟨cA, cn, cc, free, iA, en, ic, cl, ins⟩ s talk = 1 from ⟨by unfold priAns; rw [hf]; rfl, hf⟩)
        clear h9 hE hB hlen hf hBW
        go_enter Tryz.func51, Tryz.ntmps51
        have HB0 := Lib.hid (show Blk (w.alloc (.cells #[.slice cA cn cc, .int .i64 free, .slice iA en ic] 29)) w.heap.size 29 #[.slice cA cn cc, .int .i64 free, .slice iA en ic] from Blk.new w _ _)
        go_wp2_with (first
          | (refine wpl_load_all Tryz.tfT rfl _ rfl _ rfl _ _ HB0.out rfl ?_)
          | fail)
        refine (checkTariff_any lo ⟨cA, cn, cc, free, iA, en, ic, cl, ins⟩ _ (HOK.out.grown (by exact HGA.out) (fun g e => by cases e))).mono ?_
        rintro e w2 ⟨rfl, hg2⟩
        rw [HE.out]
        have HT := Lib.hid (HB0.out.grown hg2 (by simp))
        have HG2 := Lib.hid (gr_none HGA.out hg2)
        clear hg2
        go_wp2_with fail
        refine (isNumber_any s _ (by omega)).mono ?_
        rintro e w3 ⟨rfl, hg3⟩
        rw [HBP.out]
        replace HT := Lib.hid (HT.out.grown hg3 (by simp))
        have HG3 := Lib.hid (gr_none HG2.out hg3)
        clear hg3
        go_wp2_with (first
          | (go_at_call 30; refine (withinA_any _ _ _ _).mono ?_; rintro e w' ⟨rfl, rfl⟩; rw [HBW.out])
          | fail)
        go_ret2
        exact ⟨by rw [HF.out.1, HF.out.2]; rfl, HG3.out⟩
      · obtain ⟨C, hC⟩ : ∃ C, clsOf cl (nb s) = C := ⟨_, rfl⟩
        have HC := Lib.hid hC
        have hf : priErr ⟨cA, cn, cc, free, iA, en, ic, cl, ins⟩ s talk = if C.isSome then 0 else 8 := by unfold priErr; rw [hE, hB, hBW, if_pos h9, if_pos rfl, if_pos rfl]; dsimp only; rw [hC]
        have hA : priAns ⟨cA, cn, cc, free, iA, en, ic, cl, ins⟩ s talk = if (if C.isSome then (0 : Int) else 8) = 0 then C.elim 0 (fun c => priceOf c talk) else 0 := by unfold priAns; rw [hf]; dsimp only; rw [hC]
        have hb : 0 ≤ talk ∧ talk ≤ 86400000 := by unfold inB at hBW; simp only [Bool.and_eq_true, decide_eq_true_eq] at hBW; exact hBW
        cases C with
        | none =>
          have HF := Lib.hid (show priAns ⟨cA, cn, cc, free, iA, en, ic, cl, ins⟩ s talk = 0 ∧ priErr ⟨cA, cn, cc, free, iA, en, ic, cl, ins⟩ s talk = 8 from ⟨hA, hf⟩)
          clear h9 hE hB hlen hf hBW hA hC hb
          go_enter Tryz.func51, Tryz.ntmps51
          have HB0 := Lib.hid (show Blk (w.alloc (.cells #[.slice cA cn cc, .int .i64 free, .slice iA en ic] 29)) w.heap.size 29 #[.slice cA cn cc, .int .i64 free, .slice iA en ic] from Blk.new w _ _)
          go_wp2_with (first
            | (refine wpl_load_all Tryz.tfT rfl _ rfl _ rfl _ _ HB0.out rfl ?_)
            | fail)
          refine (checkTariff_any lo ⟨cA, cn, cc, free, iA, en, ic, cl, ins⟩ _ (HOK.out.grown (by exact HGA.out) (fun g e => by cases e))).mono ?_
          rintro e w2 ⟨rfl, hg2⟩
          rw [HE.out]
          have HT := Lib.hid (HB0.out.grown hg2 (by simp))
          have HG2 := Lib.hid (gr_none HGA.out hg2)
          clear hg2
          go_wp2_with fail
          refine (isNumber_any s _ (by omega)).mono ?_
          rintro e w3 ⟨rfl, hg3⟩
          rw [HBP.out]
          replace HT := Lib.hid (HT.out.grown hg3 (by simp))
          have HG3 := Lib.hid (gr_none HG2.out hg3)
          clear hg3
          go_wp2_with (first
            | (go_at_call 30; refine (withinA_any _ _ _ _).mono ?_; rintro e w' ⟨rfl, rfl⟩; rw [HBW.out])
            | (refine wpl_load_all Tryz.tfT rfl _ rfl _ rfl _ _ HT.out rfl ?_)
            | fail)
          refine (classOf_any lo ⟨cA, cn, cc, free, iA, en, ic, cl, ins⟩ s _ (HOK.out.grown HG3.out (fun g e => by cases e)) (by omega) HSR.out).mono ?_
          rintro e w4 ⟨rfl, hg4⟩
          rw [show clsOf (TfV.cl ⟨cA, cn, cc, free, iA, en, ic, cl, ins⟩) (nb s) = _ from HC.out]
          have HG4 := Lib.hid (gr_none HG3.out hg4); clear hg4
          rw [show clsRow none = #[.string ⟨#[]⟩, .string ⟨#[]⟩, .int .i64 0, .int .i64 0, .int .i64 0, .int .i64 0] from rfl]
          go_wp2_with fail
          go_ret2
          exact ⟨by rw [HF.out.1, HF.out.2]; rfl, gr_alloc HG4.out _⟩
        | some c =>
          have HN := Lib.hid (HNU.out c (clsOf_mem hC))
          have HF := Lib.hid (show priAns ⟨cA, cn, cc, free, iA, en, ic, cl, ins⟩ s talk = priceOf c talk ∧ priErr ⟨cA, cn, cc, free, iA, en, ic, cl, ins⟩ s talk = 0 from ⟨hA, hf⟩)
          obtain ⟨hb1, hb2⟩ := hb
          clear h9 hE hB hlen hf hBW hA hC
          obtain ⟨pre, name, setup, first, step, rate⟩ := c
          go_enter Tryz.func51, Tryz.ntmps51
          have HB0 := Lib.hid (show Blk (w.alloc (.cells #[.slice cA cn cc, .int .i64 free, .slice iA en ic] 29)) w.heap.size 29 #[.slice cA cn cc, .int .i64 free, .slice iA en ic] from Blk.new w _ _)
          go_wp2_with (first
            | (refine wpl_load_all Tryz.tfT rfl _ rfl _ rfl _ _ HB0.out rfl ?_)
            | fail)
          refine (checkTariff_any lo ⟨cA, cn, cc, free, iA, en, ic, cl, ins⟩ _ (HOK.out.grown (by exact HGA.out) (fun g e => by cases e))).mono ?_
          rintro e w2 ⟨rfl, hg2⟩
          rw [HE.out]
          have HT := Lib.hid (HB0.out.grown hg2 (by simp))
          have HG2 := Lib.hid (gr_none HGA.out hg2)
          clear hg2
          go_wp2_with fail
          refine (isNumber_any s _ (by omega)).mono ?_
          rintro e w3 ⟨rfl, hg3⟩
          rw [HBP.out]
          replace HT := Lib.hid (HT.out.grown hg3 (by simp))
          have HG3 := Lib.hid (gr_none HG2.out hg3)
          clear hg3
          go_wp2_with (first
            | (go_at_call 30; refine (withinA_any _ _ _ _).mono ?_; rintro e w' ⟨rfl, rfl⟩; rw [HBW.out])
            | (refine wpl_load_all Tryz.tfT rfl _ rfl _ rfl _ _ HT.out rfl ?_)
            | fail)
          refine (classOf_any lo ⟨cA, cn, cc, free, iA, en, ic, cl, ins⟩ s _ (HOK.out.grown HG3.out (fun g e => by cases e)) (by omega) HSR.out).mono ?_
          rintro e w4 ⟨rfl, hg4⟩
          rw [show clsOf (TfV.cl ⟨cA, cn, cc, free, iA, en, ic, cl, ins⟩) (nb s) = _ from HC.out]
          have HG4 := Lib.hid (gr_none HG3.out hg4); clear hg4
          rw [show clsRow (some ⟨pre, name, setup, first, step, rate⟩) = #[.string pre, .string name, .int .i64 setup, .int .i64 first, .int .i64 step, .int .i64 rate] from rfl]
          have HNB := Lib.hid (Blk.new w4 61 #[.string pre, .string name, .int .i64 setup, .int .i64 first, .int .i64 step, .int .i64 rate])
          go_wp2_with (first
            | (refine wpl_load_all Tryz.clT rfl _ rfl _ rfl _ _ HNB.out rfl ?_)
            | fail)
          refine (price_any ⟨pre, name, setup, first, step, rate⟩ talk _ HN.out hb1 hb2).mono ?_
          rintro e w5 ⟨rfl, hg5⟩
          have HG5 := Lib.hid (gr_none (gr_alloc HG4.out _) hg5); clear hg5
          go_wp2_with fail
          go_ret2
          exact ⟨by rw [HF.out.1, HF.out.2]; rfl, HG5.out⟩
  · have h9' : (E != 0) = true := by simpa using h9
    have hf : priErr ⟨cA, cn, cc, free, iA, en, ic, cl, ins⟩ s talk = E := by unfold priErr; rw [hE, if_neg h9]
    have HF := Lib.hid (show priAns ⟨cA, cn, cc, free, iA, en, ic, cl, ins⟩ s talk = 0 ∧ priErr ⟨cA, cn, cc, free, iA, en, ic, cl, ins⟩ s talk = E from ⟨by unfold priAns; rw [hf, if_neg h9], hf⟩)
    clear h9 hE hB hlen hf
    go_enter Tryz.func51, Tryz.ntmps51
    have HB0 := Lib.hid (show Blk (w.alloc (.cells #[.slice cA cn cc, .int .i64 free, .slice iA en ic] 29)) w.heap.size 29 #[.slice cA cn cc, .int .i64 free, .slice iA en ic] from Blk.new w _ _)
    go_wp2_with (first
      | (refine wpl_load_all Tryz.tfT rfl _ rfl _ rfl _ _ HB0.out rfl ?_)
      | fail)
    refine (checkTariff_any lo ⟨cA, cn, cc, free, iA, en, ic, cl, ins⟩ _ (HOK.out.grown (by exact HGA.out) (fun g e => by cases e))).mono ?_
    rintro e w2 ⟨rfl, hg2⟩
    rw [HE.out]
    have HT := Lib.hid (HB0.out.grown hg2 (by simp))
    have HG2 := Lib.hid (gr_none HGA.out hg2)
    clear hg2
    go_wp2_with fail
    go_ret2
    exact ⟨by rw [HF.out.1, HF.out.2]; rfl, HG2.out⟩
theorem acc_ans : priAns ⟨none, 1, 1, 0, none, 0, 0, [⟨⟨#[43, 49]⟩, ⟨#[97]⟩, 0, 0, 1000, 7⟩], []⟩ ⟨#[43, 49, 50, 48, 48]⟩ 1500 = 14 ∧ priErr ⟨none, 1, 1, 0, none, 0, 0, [⟨⟨#[43, 49]⟩, ⟨#[97]⟩, 0, 0, 1000, 7⟩], []⟩ ⟨#[43, 49, 50, 48, 48]⟩ 1500 = 0 := by
  constructor <;> decide +kernel
set_option maxHeartbeats 2000000 in
theorem accounted_true (w : World) : Calls Tryz.prog 18 #[] w (RetV (.bool true) w) := by
  have hT := Reads.one w 61 [.string ⟨#[43, 49]⟩, .string ⟨#[97]⟩, .int .i64 0, .int .i64 0, .int .i64 1000, .int .i64 7] 6 rfl
  have HOK := Lib.hid (show TfOk (w.alloc (.cells #[.string ⟨#[43, 49]⟩, .string ⟨#[97]⟩, .int .i64 0, .int .i64 0, .int .i64 1000, .int .i64 7] 61)) w.heap.size ⟨some ⟨w.heap.size, 0, none⟩, 1, 1, 0, none, 0, 0, [⟨⟨#[43, 49]⟩, ⟨#[97]⟩, 0, 0, 1000, 7⟩], []⟩ from
    ⟨⟨fun c hc => by rw [List.mem_singleton.1 hc]; exact ⟨by decide, by decide⟩, (fun s hs => by cases hs), by dsimp only; omega, by dsimp only; omega⟩, ⟨hT, rfl⟩, ⟨Reads.none_, rfl⟩⟩)
  have HA := Lib.hid acc_ans
  have HA2 := Lib.hid (show priAns ⟨some ⟨w.heap.size, 0, none⟩, 1, 1, 0, none, 0, 0, [⟨⟨#[43, 49]⟩, ⟨#[97]⟩, 0, 0, 1000, 7⟩], []⟩ ⟨#[43, 49, 50, 48, 48]⟩ 1500 = 14 ∧ priErr ⟨some ⟨w.heap.size, 0, none⟩, 1, 1, 0, none, 0, 0, [⟨⟨#[43, 49]⟩, ⟨#[97]⟩, 0, 0, 1000, 7⟩], []⟩ ⟨#[43, 49, 50, 48, 48]⟩ 1500 = 0 from HA.out)
  clear hT HA
  go_enter Tryz.func18, Tryz.ntmps18
  go_wp2_with fail
  refine (Price_any w.heap.size ⟨some ⟨w.heap.size, 0, none⟩, 1, 1, 0, none, 0, 0, [⟨⟨#[43, 49]⟩, ⟨#[97]⟩, 0, 0, 1000, 7⟩], []⟩ ⟨#[43, 49, 50, 48, 48]⟩ 1500 _ HOK.out (by decide)).mono ?_
  rintro e w2 ⟨rfl, hg2⟩
  rw [HA2.out.1, HA2.out.2]
  have HG := Lib.hid (gr_none (gr_alloc (gr_refl w none) _) hg2)
  clear hg2
  go_wp2_with fail
  go_ret
  exact ⟨rfl, HG.out⟩
end
end Go.Proofs.YtlkibeckfpjccaaGreatDoor

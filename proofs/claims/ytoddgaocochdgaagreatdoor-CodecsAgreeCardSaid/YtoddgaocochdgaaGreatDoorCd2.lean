/- Contracts of slices.Clone and slices.DeleteFunc at codecs, of Agree and AgreeOf. Conditions: none. -/
import Derived.Test.YtoddgaocochdgaaGreatDoorCd1
import Derived.Test.YtoddgaocochdgaaGreatDoorBun3
namespace Go.Proofs.YtoddgaocochdgaaGreatDoor
open Go.RowKit

theorem Tryz.cdsT : ElemT Tryz.prog 26 43 3 32 (.agg #[.int .i64 0, .int .i64 0, .string ⟨#[]⟩]) := elemT_of Tryz.underlying26 (by kernel_rfl) rfl (by decide)
theorem CdV.one (z : CdV) : ∀ u ∈ z.row, u.oneCell' = true := fun u hu => by
  unfold CdV.row at hu
  simp only [List.mem_cons, List.not_mem_nil, or_false] at hu
  rcases hu with rfl | rfl | rfl <;> rfl
theorem one_codecs {l : List CdV} : ∀ u ∈ l.flatMap CdV.row, u.oneCell' = true := fun u hu => by
  obtain ⟨r, _, hr⟩ := List.mem_flatMap.1 hu
  exact r.one u hr
set_option maxHeartbeats 2000000 in
set_option maxRecDepth 100000 in
theorem cloneCd_any (lo : Nat) (A : Option Addr) (n c : Nat) (l : List CdV) (w : World) (h : Recs CdV.row 3 w lo A n c l) (hn : n ≤ 1000000) :
    Calls Tryz.prog 68 #[.slice A n c] w (fun e w' => ∃ A' c', e = .returned (.slice A' n c') ∧ OwnR CdV.row 3 w' w.heap.size 43 A' n c' l ∧ w.grownBy w' none) := by
  have hl := h.len
  have qT : ∀ (w : World) (a : Option Addr) (n c n' c' : Nat), (binOp .eql 26 (.slice a n c) (.slice none n' c')).run Tryz.prog w = .ok (.bool a.isNone) w := fun w a n c n' c' => Lib.run_eql_slice_nil w _ _ a n c n' c' Tryz.underlying26
  have H := Lib.hid h
  have HL := Lib.hid hl
  clear h hl
  cases A with
  | none =>
    rcases Nat.eq_zero_or_pos n with rfl | h0
    rotate_left 1
    · exfalso
      obtain ⟨g, o, e, _⟩ := H.out.1.2.2 h0
      cases e
    · obtain rfl : l = [] := List.eq_nil_of_length_eq_zero HL.out
      go_enter Tryz.func68, Tryz.ntmps68
      go_wp2_with fail
      go_ret
      exact ⟨none, _, rfl, OwnR.nil _ _ _, gr_refl _ _⟩
  | some a =>
    go_enter Tryz.func68, Tryz.ntmps68
    go_wp2_with (first
      | (at_builtin
         refine wpl_app _ rfl _ _ Tryz.cdsT rfl w.heap.size (some ⟨w.heap.size, 0, none⟩) 0 0 [] rfl (by exact Own.lit w 43 3 [] 0 (by unfold maxLen; omega) rfl) lo (some a) n c (l.flatMap CdV.row) rfl (by exact (H.out.grown (gr_alloc (gr_refl _ none) _) (fun g e => by cases e)).1) one_codecs (by unfold maxLen; omega) (by omega) (by simp) ?_
         intro A5 c5 w5 h5
         have H5 := Lib.hid h5; clear h5)
      | fail)
    go_ret
    exact ⟨A5, c5, by simp, ⟨by simpa using H5.out.1, HL.out⟩, gr_trans (gr_alloc (gr_refl _ none) _) H5.out.2.1 (fun g e => .inr (by simp [blkOf] at e; omega))⟩
set_option maxHeartbeats 2000000 in
theorem cdNot_any (x : CdV) (kb lo : Nat) (B : Option Addr) (nb_ cb : Nat) (b : List CdV) (w : World) (hk : Blk w kb 26 #[.slice B nb_ cb]) (hb : Recs CdV.row 3 w lo B nb_ cb b) (hn : nb_ ≤ 1000000) :
    Calls Tryz.prog 69 #[.agg #[.int .i64 x.ty, .int .i64 x.rt, .string x.nm], .pointer (some ⟨kb, 0, none⟩)] w (RetV (.bool (!(b.any (sameF x)))) w) := by
  have k0 := (hk.alloc (.cells #[.int .i64 x.ty, .int .i64 x.rt, .string x.nm] 43)).cell 0
  have hlt1 := hk.lt
  have HB := Lib.hid (Blk.new w 43 #[.int .i64 x.ty, .int .i64 x.rt, .string x.nm])
  have HG := Lib.hid (gr_alloc (gr_refl w none) (.cells #[.int .i64 x.ty, .int .i64 x.rt, .string x.nm] 43))
  have HR := Lib.hid (hb.grown HG.out (fun g e => by cases e))
  obtain ⟨E, hE⟩ : ∃ E, b.any (sameF x) = E := ⟨_, rfl⟩
  have HE := Lib.hid hE
  rw [hE]
  clear hk hb hE
  go_enter Tryz.func69, Tryz.ntmps69
  go_wp2_with fail
  refine (cdFmOHas_any lo B nb_ cb b x w.heap.size _ HR.out (by omega) HB.out).mono ?_
  rintro e w2 ⟨rfl, hg2⟩
  rw [HE.out]
  replace HG := Lib.hid (gr_none HG.out hg2)
  clear hg2
  cases E
  all_goals
    go_wp2_with fail
    go_ret
    exact ⟨rfl, HG.out⟩
set_option maxHeartbeats 4000000 in
theorem cdNotIdx_any (lo : Nat) (A : Option Addr) (n c : Nat) (l : List CdV) (lo2 kb : Nat) (B : Option Addr) (nb_ cb : Nat) (bb : List CdV) (hnb : nb_ ≤ 1000000) (w : World) (h : Recs CdV.row 3 w lo A n c l) (hn : n ≤ 1000000000000) (h_k : Blk w kb 26 #[.slice B nb_ cb]) (h_r : Recs CdV.row 3 w lo2 B nb_ cb bb) :
    Calls Tryz.prog 154 #[.slice A n c, .func (.func 69) #[] #[.pointer (some ⟨kb, 0, none⟩)]] w (RetV (.int .i64 (idxP (fun x : CdV => !(bb.any (sameF x))) l)) w) := by
  have H := Lib.hid h; have Hk := Lib.hid h_k; have Hr := Lib.hid h_r; clear h h_k h_r
  go_enter Tryz.func154, Tryz.ntmps154
  go_wp2_with fail
  go_loopw [5, 8] (fun _ t' wr => ∃ i : Nat, i ≤ n ∧ t' = .int .i64 i ∧ w.grownBy wr none ∧ (l.take i).all (fun x => !((fun x : CdV => !(bb.any (sameF x))) x)) = true) (fun _ t' _ => n - (intOf t').toNat)
  case atStart => exact ⟨0, Nat.zero_le _, rfl, gr_refl _ _, by simp⟩
  case round =>
    obtain ⟨i, hi, rfl, hg, ha⟩ := hrel
    have HA := Lib.hid ha; have HG := Lib.hid hg; clear ha hg
    by_cases hlt : i < n
    · obtain ⟨g, o, b, rfl, _, hgl, hz, hc⟩ := (H.out.grown HG.out (fun g e => by cases e)).get CdV.row_len hlt
      have HZ := Lib.hid hz; have HC := Lib.hid hc; clear hz hc
      obtain ⟨B, hB⟩ : ∃ B, (fun x : CdV => !(bb.any (sameF x))) b = B := ⟨_, rfl⟩
      have HE := Lib.hid hB; clear hB
      cases B
      all_goals
        go_wp2_with (first
          | (refine wpl_load_at Tryz.cdT rfl _ rfl _ rfl [.int .i64 b.ty, .int .i64 b.rt, .string b.nm] rfl (fun j u hu => by rw [add_mk]; exact HC.out j u hu) ?_)
          | (go_at_call 69; refine (cdNot_any b kb lo2 B nb_ cb bb _ (Hk.out.grown HG.out (by simp)) (Hr.out.grown HG.out (fun g e => by cases e)) hnb).mono ?_; rintro e w2 ⟨rfl, hg2⟩; have he := HE.out; (try dsimp only at he); rw [he]; clear he; have HG2 := Lib.hid (gr_none HG.out hg2); clear hg2)
          | fail)
      · go_roundw
        case rel => exact ⟨i + 1, by omega, by go_num, HG2.out, allP_succ (p := (fun x : CdV => !(bb.any (sameF x)))) HA.out HZ.out HE.out⟩
        case measure => simp [intOf]; omega
      · go_ret
        exact ⟨by rw [idxP_some (p := (fun x : CdV => !(bb.any (sameF x)))) HA.out HZ.out HE.out]; rfl, HG2.out⟩
    · obtain rfl : i = n := by omega
      go_wp2_with fail
      go_ret
      have h := HA.out
      rw [List.take_of_length_le (by rw [H.out.len]; exact Nat.le_refl _)] at h
      exact ⟨by rw [idxP_none (p := (fun x : CdV => !(bb.any (sameF x)))) h]; rfl, HG.out⟩
set_option maxHeartbeats 8000000 in
set_option maxRecDepth 100000 in
theorem delCd_any (lo : Nat) (A : Option Addr) (n c : Nat) (l : List CdV) (kb lo2 : Nat) (B : Option Addr) (nb_ cb : Nat) (bb : List CdV) (w : World) (h : OwnR CdV.row 3 w lo 43 A n c l) (hn : n ≤ 1000000) (hnb : nb_ ≤ 1000000)
    (hk : Blk w kb 26 #[.slice B nb_ cb]) (hr : Recs CdV.row 3 w lo2 B nb_ cb bb) (hkl : kb < lo) (hlo : ∀ g, blkOf A = some g → lo ≤ g) (hl2 : ∀ w', w.grownBy w' (blkOf A) → Recs CdV.row 3 w' lo2 B nb_ cb bb) :
    Calls Tryz.prog 67 #[.slice A n c, .func (.func 69) #[] #[.pointer (some ⟨kb, 0, none⟩)]] w (fun e w' => ∃ m, e = .returned (.slice A m c) ∧ OwnR CdV.row 3 w' lo 43 A m c (l.filter fun z => bb.any (sameF z)) ∧ w.grownBy w' (blkOf A) ∧ m ≤ n) := by
  have H := Lib.hid h; have HK := Lib.hid hk; have HR := Lib.hid hr; have HL2 := Lib.hid hl2; clear h hk hr hl2
  obtain ⟨p, hp⟩ : ∃ p : CdV → Bool, (fun z => bb.any (sameF z)) = p := ⟨_, rfl⟩
  have HP := Lib.hid (show ∀ z, bb.any (sameF z) = p z from fun z => congrFun hp z)
  rw [hp]
  go_enter Tryz.func67, Tryz.ntmps67
  go_wp2_with fail
  refine (cdNotIdx_any lo A n c l lo2 kb B nb_ cb bb hnb _ H.out.recs (by omega) HK.out HR.out).mono ?_
  rintro e w2 ⟨rfl, hg2⟩
  rcases idxP_cases (fun x : CdV => !(bb.any (sameF x))) l with ⟨he, hall⟩ | ⟨i0, z0, he, hz0, hp0, hall⟩
  · rw [he]
    have HF := Lib.hid (show l.filter p = l from List.filter_eq_self.2 fun x hx => by rw [← HP.out]; have := hall x hx; simpa using this)
    have HG2 := Lib.hid hg2
    clear he hall hg2
    go_wp2_with fail
    go_ret
    exact ⟨n, rfl, by rw [HF.out]; exact H.out.kept HG2.out (fun g e => by cases e), gr_none (gr_refl _ _) HG2.out, Nat.le_refl _⟩
  · rw [he]
    have hi0 : i0 < n := by rw [← H.out.2]; exact (List.getElem?_eq_some_iff.1 hz0).1
    obtain ⟨g, rfl, hgl, hgs⟩ := H.out.1.pos (by omega)
    have hgkb : g ≠ kb := by have := hlo g rfl; omega
    have hcn := H.out.1.cap
    have HF0 := Lib.hid (show l.take i0 = (l.take (i0 + 1)).filter p by
      rw [take_snoc' hz0, List.filter_append, List.filter_eq_self.2 (fun x hx => by rw [← HP.out]; have := hall x hx; simpa using this)]
      have : p z0 = false := by rw [← HP.out]; simpa using hp0
      simp [this])
    have HO2 := Lib.hid (H.out.kept hg2 (fun g e => by cases e))
    have HG2 := Lib.hid (show w.grownBy w2 (some g) from gr_none (gr_refl _ _) hg2)
    have hd0 : ((i0 : Int) == -1) = false := by rw [beq_eq_false_iff_ne]; omega
    have q0 : IntKind.i64.wrap ((i0 : Int) + 1) = (i0 : Int) + 1 := IntWalk.i64_in _ (by omega)
    clear he hall hz0 hp0 hg2
    go_wp2_with fail
    clear hd0 q0
    go_loopw [5, 6, 7] (fun t5 t6 _ wr => ∃ (i j : Nat) (l' : List CdV), t5 = .int .i64 i ∧ t6 = .int .i64 j ∧ i < j ∧ j ≤ n ∧ OwnR CdV.row 3 wr lo 43 (some ⟨g, 0, none⟩) n c l' ∧ l'.take i = (l.take j).filter p ∧ l'.drop j = l.drop j ∧ w.grownBy wr (some g)) (fun _ t6 _ _ => n - (intOf t6).toNat)
    case atStart => exact ⟨i0, i0 + 1, l, rfl, by go_num, by omega, by omega, HO2.out, HF0.out, rfl, HG2.out⟩
    case round =>
      clear HO2 HG2
      obtain ⟨i, j, l1, rfl, rfl, hij, hj, hown, htk, hdr, hg⟩ := hrel
      have HO := Lib.hid hown; have HTK := Lib.hid htk; have HDR := Lib.hid hdr; have HG := Lib.hid hg
      clear hown htk hdr hg
      by_cases hlt : j < n
      · obtain ⟨⟨ty, rt, nm⟩, hx⟩ : ∃ x, l[j]? = some x := ⟨_, List.getElem?_eq_getElem (by rw [H.out.2]; omega)⟩
        have hx1 : l1[j]? = some ⟨ty, rt, nm⟩ := by
          have e := congrArg (fun m : List CdV => m[0]?) HDR.out
          simpa [List.getElem?_drop, hx] using e
        have HX := Lib.hid hx; have HX1 := Lib.hid hx1
        obtain ⟨g1, o1, z1, eA, _, hgl1, hz1, hc1⟩ := HO.out.recs.get CdV.row_len hlt
        obtain rfl : z1 = ⟨ty, rt, nm⟩ := Option.some.inj (hz1.symm.trans hx1)
        injection eA with eA
        injection eA with e1 e2
        subst e1 e2
        have HC := Lib.hid hc1
        have hj2 : (j : Int) < (n : Int) := by omega
        have q1 : IntKind.i64.wrap ((j : Int) + 1) = (j : Int) + 1 := IntWalk.i64_in _ (by omega)
        have q2 : IntKind.i64.wrap ((i : Int) + 1) = (i : Int) + 1 := IntWalk.i64_in _ (by omega)
        have hi2 : (i : Int) < (n : Int) := by omega
        have hdrop : l1.drop (j + 1) = l.drop (j + 1) := by
          have e := congrArg (fun m : List CdV => m.drop 1) HDR.out
          simpa [List.drop_drop] using e
        have HDR1 := Lib.hid hdrop
        clear hx hx1 hdrop hc1 hz1
        have HV := Lib.hid (Blk.new wr 43 #[.int .i64 (⟨ty, rt, nm⟩ : CdV).ty, .int .i64 (⟨ty, rt, nm⟩ : CdV).rt, .string (⟨ty, rt, nm⟩ : CdV).nm])
        have HGV := Lib.hid (gr_alloc HG.out (.cells #[.int .i64 ty, .int .i64 rt, .string nm] 43))
        have HOV := Lib.hid (HO.out.alloc (.cells #[.int .i64 ty, .int .i64 rt, .string nm] 43))
        go_wp2_with (first
          | (refine wpl_load_at Tryz.cdT rfl _ rfl _ rfl [.int .i64 ty, .int .i64 rt, .string nm] rfl (fun j u hu => by rw [add_mk]; have hcc := HC.out j u hu; (try simp only [Nat.zero_add] at hcc); exact hcc) ?_)
          | (refine wpl_load_all Tryz.cdT rfl _ rfl _ rfl _ _ HV.out rfl ?_)
          | fail)
        refine (cdNot_any ⟨ty, rt, nm⟩ kb lo2 B nb_ cb bb _ (HK.out.grown HGV.out (by simpa using fun e => hgkb e.symm)) (HL2.out _ HGV.out) hnb).mono ?_
        rintro e w4 ⟨rfl, hg4⟩
        rw [HP.out]
        have HO4 := Lib.hid (HOV.out.kept hg4 (fun g e => by cases e))
        have HG4 := Lib.hid (gr_none HGV.out hg4)
        have HV4 := Lib.hid (HV.out.grown hg4 (by simp))
        clear hg4 HO HG HV HGV HOV
        cases hpx : p ⟨ty, rt, nm⟩
        · have HF := Lib.hid (show l1.take i = (l.take (j + 1)).filter p by rw [HTK.out, take_snoc' HX.out, List.filter_append]; simp [hpx])
          go_wp2_with fail
          go_roundw
          case rel => exact ⟨i, j + 1, l1, rfl, by go_num, by omega, by omega, HO4.out, HF.out, HDR1.out, HG4.out⟩
          case measure => simp [intOf]; omega
        · have HF := Lib.hid (show (l1.set i ⟨ty, rt, nm⟩).take (i + 1) = (l.take (j + 1)).filter p by
            have hl1 := HO4.out.2
            have e1 : (l1.set i ⟨ty, rt, nm⟩)[i]? = some ⟨ty, rt, nm⟩ := List.getElem?_set_self (by rw [hl1]; omega)
            rw [take_snoc' e1, List.take_set, List.set_eq_of_length_le (by rw [List.length_take]; omega), HTK.out, take_snoc' HX.out, List.filter_append]
            simp [hpx])
          have HD2 := Lib.hid (show (l1.set i ⟨ty, rt, nm⟩).drop (j + 1) = l.drop (j + 1) by rw [List.drop_set_of_lt (by omega)]; exact HDR1.out)
          go_wp2_with (first
            | (refine wpl_load_all Tryz.cdT rfl _ rfl _ rfl _ _ HV4.out rfl ?_)
            | (refine wpl_store_rec (row := CdV.row) rfl Tryz.cdT CdV.row_len (by decide) _ _ rfl i _ rfl rfl ⟨ty, rt, nm⟩ rfl HO4.out (by omega) (CdV.one _) ?_
               intro w8 hown8 hg8
               have HO8 := Lib.hid hown8
               have HG8 := Lib.hid (gr_same HG4.out hg8)
               clear hown8 hg8)
            | fail)
          go_roundw
          case rel => exact ⟨i + 1, j + 1, _, by go_num, by go_num, by omega, by omega, HO8.out, HF.out, HD2.out, HG8.out⟩
          case measure => simp [intOf]; omega
      · obtain rfl : j = n := by omega
        have hi2 : (i : Int) < (j : Int) := by omega
        have hi3 : (i : Int) ≤ (j : Int) := by omega
        have hci : ¬ c = i := by omega
        obtain ⟨w9, hclr, ho9, hg9⟩ := run_clear_rows (P := Tryz.prog) Tryz.underlying26 Tryz.zeroValue43 rfl (by decide) (by intro v hv; simp [Value.cells] at hv; rcases hv with rfl | rfl | rfl <;> rfl) HO.out.1 i (i * 3) rfl hij (j - i) (c - i) rfl
        have HO9 := Lib.hid (show OwnR CdV.row 3 w9 lo 43 (some ⟨g, 0, none⟩) i c (l1.take i) from ⟨by rw [← CdV.flat_take]; exact ho9, by rw [List.length_take, HO.out.2]; omega⟩)
        have HG9 := Lib.hid (gr_same HG.out hg9)
        have HF := Lib.hid (show l1.take i = l.filter p by rw [HTK.out, List.take_of_length_le (by rw [H.out.2]; exact Nat.le_refl _)])
        clear ho9 hg9
        go_wp2_with fail
        go_ret
        exact ⟨i, rfl, by rw [← HF.out]; exact HO9.out, HG9.out, by omega⟩
set_option maxHeartbeats 4000000 in
theorem agreeOf_any (lo lo2 : Nat) (A : Option Addr) (n c : Nat) (l : List CdV) (B : Option Addr) (m cb : Nat) (bb : List CdV) (w : World) (h : Recs CdV.row 3 w lo A n c l) (hb : Recs CdV.row 3 w lo2 B m cb bb) (hn : n ≤ 1000000) (hm : m ≤ 1000000) :
    Calls Tryz.prog 14 #[.slice A n c, .slice B m cb] w (fun e w' => ∃ A' k c', e = .returned (.slice A' k c') ∧ Recs CdV.row 3 w' 0 A' k c' (agreeV l bb) ∧ w.grownBy w' none ∧ k ≤ n) := by
  obtain ⟨w1, hw1⟩ : ∃ w1, w.alloc (.cells #[.slice B m cb] 26) = w1 := ⟨_, rfl⟩
  have HK := Lib.hid (show Blk w1 w.heap.size 26 #[.slice B m cb] by rw [← hw1]; exact Blk.new _ _ _)
  have HG := Lib.hid (show w.grownBy w1 none by rw [← hw1]; exact gr_alloc (gr_refl _ _) _)
  have hz1 : w1.heap.size = w.heap.size + 1 := by rw [← hw1]; simp
  have HW1 := Lib.hid hw1; have H := Lib.hid h; have HB := Lib.hid hb
  clear hw1 h hb
  go_enter Tryz.func14, Tryz.ntmps14
  go_upto_region 1 with (fail)
  rw [HW1.out]
  go_wp2_with fail
  refine (cloneCd_any lo A n c l _ (H.out.grown HG.out (fun g e => by cases e)) hn).mono ?_
  rintro e w2 ⟨A', c', rfl, hown, hg2⟩
  have HO := Lib.hid hown
  replace HK := Lib.hid (HK.out.grown hg2 (by simp))
  replace HG := Lib.hid (gr_none HG.out hg2)
  clear hown hg2
  go_wp2_with fail
  refine (delCd_any w1.heap.size A' n c' l w.heap.size lo2 B m cb bb _ HO.out hn hm HK.out (HB.out.grown HG.out (fun g e => by cases e)) (by omega) (fun g e => (HO.out.1.lt e).1) (fun w' hg => HB.out.grown (gr_own HG.out HO.out.1 (by omega) hg) (fun g e => by cases e))).mono ?_
  rintro e w3 ⟨k, rfl, ho3, hg3, hk⟩
  have HO3 := Lib.hid ho3; have HG3 := Lib.hid (gr_own HG.out HO.out.1 (by omega) hg3)
  clear ho3 hg3
  go_wp2_with fail
  go_ret
  exact ⟨A', k, c', rfl, HO3.out.recs.lower (Nat.zero_le _), HG3.out, hk⟩
def agE (a b : List CdV) : Int := if cdE a = 0 then (if cdE b = 0 then (if (agreeV a b).length = 0 then 8 else 0) else cdE b) else cdE a
def AgRes (a b : List CdV) (w : World) (e : Ending) (w' : World) : Prop := ∃ (B : Option Addr) (k c : Nat) (L : List CdV), e = .returned (.tuple #[.slice B k c, .int .i64 (agE a b)]) ∧ Recs CdV.row 3 w' 0 B k c L ∧ (agE a b = 0 → L = agreeV a b) ∧ (agE a b ≠ 0 → L = []) ∧ w.grownBy w' none ∧ k ≤ 1000000
set_option maxHeartbeats 8000000 in
set_option maxRecDepth 100000 in
theorem agree_any (lo lo2 : Nat) (A : Option Addr) (n c : Nat) (l : List CdV) (B : Option Addr) (m cb : Nat) (bb : List CdV) (w : World) (h : Cds w lo A n c l) (hb : Cds w lo2 B m cb bb) (hn : n ≤ 1000000) (hm : m ≤ 1000000) :
    Calls Tryz.prog 9 #[.slice A n c, .slice B m cb] w (AgRes l bb w) := by
  have H := Lib.hid h; have HB := Lib.hid hb
  clear h hb
  obtain ⟨E1, hE1⟩ : ∃ E, cdE l = E := ⟨_, rfl⟩
  obtain ⟨E2, hE2⟩ : ∃ E, cdE bb = E := ⟨_, rfl⟩
  have HV := Lib.hid (show agE l bb = if E1 = 0 then (if E2 = 0 then (if (agreeV l bb).length = 0 then 8 else 0) else E2) else E1 by unfold agE; rw [hE1, hE2])
  have HE1 := Lib.hid hE1; have HE2 := Lib.hid hE2
  clear hE1 hE2
  go_enter Tryz.func9, Tryz.ntmps9
  go_wp2_with fail
  refine (checkCodecs_any lo A n c l _ H.out (by omega)).mono ?_
  rintro e w1 ⟨rfl, hg1⟩
  rw [HE1.out]
  have HG := Lib.hid hg1
  clear hg1
  by_cases hz1 : E1 = 0
  rotate_left 1
  · have d1 : (E1 != 0) = true := by simpa using hz1
    go_wp2_with fail
    go_ret2
    exact ⟨none, 0, 0, [], by rw [HV.out, if_neg hz1]; try rfl, Recs.nil, fun q => absurd (by rw [HV.out, if_neg hz1] at q; exact q) hz1, fun _ => rfl, HG.out, by omega⟩
  have d1 : (E1 != 0) = false := by simpa using hz1
  go_wp2_with fail
  refine (checkCodecs_any lo2 B m cb bb _ (HB.out.grown HG.out (fun g e => by cases e)) (by omega)).mono ?_
  rintro e w2 ⟨rfl, hg2⟩
  rw [HE2.out]
  replace HG := Lib.hid (gr_none HG.out hg2)
  clear hg2
  by_cases hz2 : E2 = 0
  rotate_left 1
  · have d2 : (E2 != 0) = true := by simpa using hz2
    go_wp2_with fail
    go_ret2
    exact ⟨none, 0, 0, [], by rw [HV.out, if_pos hz1, if_neg hz2]; try rfl, Recs.nil, fun q => absurd (by rw [HV.out, if_pos hz1, if_neg hz2] at q; exact q) hz2, fun _ => rfl, HG.out, by omega⟩
  have d2 : (E2 != 0) = false := by simpa using hz2
  have HV2 := Lib.hid (show agE l bb = if (agreeV l bb).length = 0 then 8 else 0 by rw [HV.out, if_pos hz1, if_pos hz2])
  clear HV HE1 HE2
  go_wp2_with fail
  go_loopw [8, 10, 23] (fun v _ t wr => ∃ (k : Nat) (D : Option Addr) (q cD : Nat), k ≤ n ∧ t = .int .i64 k ∧ v = .slice D q cD ∧ q ≤ k ∧ OwnR CdV.row 3 wr w.heap.size 43 D q cD (agreeV (l.take k) bb) ∧ w.grownBy wr none) (fun _ _ t _ => n - (intOf t).toNat)
  case atStart => exact ⟨0, none, 0, 0, Nat.zero_le _, rfl, rfl, Nat.le_refl _, OwnR.nil _ _ _, HG.out⟩
  case round =>
    clear HG
    obtain ⟨k, D, q, cD, hk, rfl, rfl, hqk, hown, hg⟩ := hrel
    have HO := Lib.hid hown; have HG := Lib.hid hg
    have zr := hg.size
    clear hown hg
    by_cases hlt : k < n
    · obtain ⟨g, o, ⟨ty, rt, nm⟩, rfl, _, hgl, hz, hc⟩ := (H.out.1.grown HG.out (fun g e => by cases e)).get CdV.row_len hlt
      have HZ := Lib.hid hz; have HC := Lib.hid hc; clear hz hc
      have HX := Lib.hid (Blk.new wr 43 #[.int .i64 (⟨ty, rt, nm⟩ : CdV).ty, .int .i64 (⟨ty, rt, nm⟩ : CdV).rt, .string (⟨ty, rt, nm⟩ : CdV).nm])
      have HR := Lib.hid (HB.out.1.grown (gr_alloc HG.out (.cells #[.int .i64 ty, .int .i64 rt, .string nm] 43)) (fun g e => by cases e))
      replace HO := Lib.hid (HO.out.alloc (.cells #[.int .i64 ty, .int .i64 rt, .string nm] 43))
      replace HG := Lib.hid (gr_alloc HG.out (.cells #[.int .i64 ty, .int .i64 rt, .string nm] 43))
      go_wp2_with (first
        | (refine wpl_load_at Tryz.cdT rfl _ rfl _ rfl [.int .i64 ty, .int .i64 rt, .string nm] rfl (fun j u hu => by rw [add_mk]; exact HC.out j u hu) ?_)
        | fail)
      refine (cdFmAHas_any lo2 B m cb bb ⟨ty, rt, nm⟩ wr.heap.size _ HR.out (by omega) HX.out).mono ?_
      rintro e w4 ⟨rfl, hg4⟩
      replace HX := Lib.hid (HX.out.grown hg4 (by simp))
      replace HO := Lib.hid (HO.out.kept hg4 (fun g e => by cases e))
      replace HG := Lib.hid (gr_none HG.out hg4)
      have z4 := HG.out.size
      clear hg4 HR
      cases hB : bb.any (sameF ⟨ty, rt, nm⟩)
      · have HL := Lib.hid (show agreeV (l.take (k + 1)) bb = agreeV (l.take k) bb by rw [agreeV_succ HZ.out, hB]; rfl)
        go_wp2_with fail
        go_roundw
        case rel => exact ⟨k + 1, D, q, cD, by omega, by go_num, rfl, by omega, by rw [HL.out]; exact HO.out, HG.out⟩
        case measure => simp [intOf]; omega
      · have HL := Lib.hid (show agreeV (l.take (k + 1)) bb = agreeV (l.take k) bb ++ [⟨ty, rt, nm⟩] by rw [agreeV_succ HZ.out, hB]; rfl)
        go_wp2_with (first
          | (refine wpl_load_all Tryz.cdT rfl _ rfl _ rfl _ _ HX.out rfl ?_)
          | (at_builtin
             refine wpl_app _ rfl _ _ Tryz.cdsT rfl w.heap.size D q cD _ rfl (by exact HO.out.1.alloc _) _ _ 1 1 [.int .i64 ty, .int .i64 rt, .string nm] rfl (by exact Reads.one _ _ _ _ rfl) (by simp [Value.oneCell']) (by unfold maxLen; omega) (by omega) (by simp; omega) ?_
             intro A9 c9 w9 h9
             have H9 := Lib.hid h9; clear h9)
          | fail)
        go_roundw
        case rel => exact ⟨k + 1, A9, q + 1, c9, by omega, by go_num, rfl, by omega, by rw [HL.out]; exact (HO.out.alloc _).app rfl H9.out, gr_own (gr_alloc HG.out _) (HO.out.1.alloc _) (Nat.le_refl _) H9.out.2.1⟩
        case measure => simp [intOf]; omega
    · obtain rfl : k = n := by omega
      have hall : l.take k = l := List.take_of_length_le (by rw [H.out.1.len]; exact Nat.le_refl _)
      rw [hall] at HO
      have hql := HO.out.2
      by_cases hq0 : q = 0
      · have d3 : ((q : Int) == 0) = true := by simpa using hq0
        have HV3 := Lib.hid (show agE l bb = 8 by rw [HV2.out, if_pos (by rw [hql]; exact hq0)])
        subst hq0
        go_wp2_with fail
        go_ret2
        exact ⟨none, 0, 0, [], by rw [HV3.out]; try rfl, Recs.nil, fun q => absurd (HV3.out.symm.trans q) (by decide), fun _ => rfl, HG.out, by omega⟩
      · have d3 : ((q : Int) == 0) = false := by rw [beq_eq_false_iff_ne]; omega
        have HV3 := Lib.hid (show agE l bb = 0 by rw [HV2.out, if_neg (by rw [hql]; exact hq0)])
        go_wp2_with fail
        go_ret2
        exact ⟨D, q, cD, _, by rw [HV3.out]; try rfl, HO.out.recs.lower (Nat.zero_le _), fun _ => rfl, fun q => absurd HV3.out q, HG.out, by omega⟩
end Go.Proofs.YtoddgaocochdgaaGreatDoor

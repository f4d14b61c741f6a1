/- Contract of the document's CompareOf. Conditions: right arguments; the table of powers of ten as laid. -/
import Derived.Test.YtlkibeckfpjccaaGreatDoorTc2
namespace Go.Proofs.YtlkibeckfpjccaaGreatDoor
open Go.RowKit

def PairsV (l : List PaV) (w : World) (e : Ending) (w' : World) : Prop := ∃ A n c, e = .returned (.slice A n c) ∧ OwnR PaV.row 2 w' w.heap.size 51 A n c l ∧ w.grownBy w' none
set_option maxHeartbeats 16000000 in
set_option maxRecDepth 100000 in
theorem compareOf_any (lo : Nat) (cA iA : Option Addr) (cn cc en ic : Nat) (free : Int) (cl : List ClV) (ins : List ByteArray) (dA jA : Option Addr) (dn dc gn jc : Nat) (gfree : Int) (dl : List ClV) (jns : List ByteArray) (P : Option Addr) (pn pc : Nat) (p : List PyV) (L : Option Addr) (ln lc : Nat) (l : List RcV) (month : Int) (w : World) (hu1 : UseOk w lo ⟨cA, cn, cc, free, iA, en, ic, cl, ins⟩ P pn pc p L ln lc l) (hu2 : UseOk w lo ⟨dA, dn, dc, gfree, jA, gn, jc, dl, jns⟩ P pn pc p L ln lc l) (hpn : pn ≤ 1000) (hpw : PwT w) :
    Calls Tryz.prog 15 #[.agg #[.slice cA cn cc, .int .i64 free, .slice iA en ic], .agg #[.slice dA dn dc, .int .i64 gfree, .slice jA gn jc], .slice P pn pc, .slice L ln lc, .int .i64 month] w (PairsV (cmpPs (chgAll ⟨cA, cn, cc, free, iA, en, ic, cl, ins⟩ p month l) (chgAll ⟨dA, dn, dc, gfree, jA, gn, jc, dl, jns⟩ p month l) p) w) := by
  have HU1 := Lib.hid hu1; have HU2 := Lib.hid hu2; have HPW0 := Lib.hid hpw
  have HFR1 := Lib.hid (tar_free hu1.et); have HFR2 := Lib.hid (tar_free hu2.et)
  have HPL := Lib.hid hu1.py.1.len
  clear hu1 hu2 hpw
  have hok1 : ∀ x ∈ chgAll ⟨cA, cn, cc, free, iA, en, ic, cl, ins⟩ p month l, ChOk x := fun x hx => chg_all_ok HU1.out hx
  have hsz1 : ∀ x ∈ chgAll ⟨cA, cn, cc, free, iA, en, ic, cl, ins⟩ p month l, x.1.pay.size ≤ 1000 ∧ x.2.too.size ≤ 1000 := fun x hx => chg_size (fun y hy => (HU1.out.py.2 y hy).1.1) (fun r hr => (HU1.out.rc.2 r hr).2.2.1) _ x hx
  have hln1 : (chgAll ⟨cA, cn, cc, free, iA, en, ic, cl, ins⟩ p month l).length ≤ 3000 := Nat.le_trans (chgTo_len _ _ _ _ _) (rcs_right HU1.out.er).1
  obtain ⟨L1, hL1⟩ : ∃ X, chgAll ⟨cA, cn, cc, free, iA, en, ic, cl, ins⟩ p month l = X := ⟨_, rfl⟩
  rw [hL1] at hok1 hsz1 hln1
  have HL1 := Lib.hid hL1; have HOK1 := Lib.hid hok1; have HSZ1 := Lib.hid hsz1
  clear hL1 hok1 hsz1
  have hok2 : ∀ x ∈ chgAll ⟨dA, dn, dc, gfree, jA, gn, jc, dl, jns⟩ p month l, ChOk x := fun x hx => chg_all_ok HU2.out hx
  have hsz2 : ∀ x ∈ chgAll ⟨dA, dn, dc, gfree, jA, gn, jc, dl, jns⟩ p month l, x.1.pay.size ≤ 1000 ∧ x.2.too.size ≤ 1000 := fun x hx => chg_size (fun y hy => (HU2.out.py.2 y hy).1.1) (fun r hr => (HU2.out.rc.2 r hr).2.2.1) _ x hx
  have hln2 : (chgAll ⟨dA, dn, dc, gfree, jA, gn, jc, dl, jns⟩ p month l).length ≤ 3000 := Nat.le_trans (chgTo_len _ _ _ _ _) (rcs_right HU2.out.er).1
  obtain ⟨L2, hL2⟩ : ∃ X, chgAll ⟨dA, dn, dc, gfree, jA, gn, jc, dl, jns⟩ p month l = X := ⟨_, rfl⟩
  rw [hL2] at hok2 hsz2 hln2
  have HL2 := Lib.hid hL2; have HOK2 := Lib.hid hok2; have HSZ2 := Lib.hid hsz2
  clear hL2 hok2 hsz2
  obtain ⟨W1, hW⟩ : ∃ W1, (w.alloc (.cells #[.slice cA cn cc, .int .i64 free, .slice iA en ic] 29)).alloc (.cells #[.slice dA dn dc, .int .i64 gfree, .slice jA gn jc] 29) = W1 := ⟨_, rfl⟩
  have HT := Lib.hid (show Blk W1 w.heap.size 29 #[.slice cA cn cc, .int .i64 free, .slice iA en ic] by rw [← hW]; exact (Blk.new _ _ _).alloc _)
  have HT2 := Lib.hid (show Blk W1 (w.heap.size + 1) 29 #[.slice dA dn dc, .int .i64 gfree, .slice jA gn jc] by
    rw [← hW]
    have h := Blk.new (w.alloc (.cells #[.slice cA cn cc, .int .i64 free, .slice iA en ic] 29)) 29 #[.slice dA dn dc, .int .i64 gfree, .slice jA gn jc]
    simpa using h)
  have HG := Lib.hid (show w.grownBy W1 none by rw [← hW]; exact gr_alloc (gr_alloc (gr_refl _ _) _) _)
  have HWE := Lib.hid hW; clear hW
  go_enter Tryz.func15, Tryz.ntmps15
  go_upto_region 2 with (fail)
  rw [HWE.out]
  clear HWE
  refine H_begin (fun w' => W1.grownBy w' none) (by kernel_rfl) ?_
  have hHeld : W1.grownBy W1.drew none := gr_drew (gr_refl _ _)
  generalize W1.drew = wd at hHeld ⊢
  refine H_take (k := 0) (v := .agg #[.slice cA cn cc, .int .i64 free, .slice iA en ic]) (by rfl) (by kernel_rfl) (by kernel_rfl) (by kernel_rfl) (by exact fun _ _ _ h => h) (by rfl) (fun w' hSw => exec_ldb Tryz.tfT _ rfl _ rfl 29 [.slice cA cn cc, .int .i64 free, .slice iA en ic] (HT.out.grown hSw (by simp)) rfl) (by assumption) ?_
  (try simp only [Act.put, List.setIfInBounds_toArray, List.set_cons_zero, List.set_cons_succ])
  refine H_take (k := 1) (v := ?_) (by rfl) (by kernel_rfl) (by kernel_rfl) (by kernel_rfl) (by exact fun _ _ _ h => h) (by rfl) ?_ (by assumption) ?_
  rotate_left 1
  · intro w hSw
    (try dsimp only at hSw)
    go_simp
    (try with_reducible rfl)
  (try simp only [Act.put, List.setIfInBounds_toArray, List.set_cons_zero, List.set_cons_succ])
  refine H_take (k := 2) (v := ?_) (by rfl) (by kernel_rfl) (by kernel_rfl) (by kernel_rfl) (by exact fun _ _ _ h => h) (by rfl) ?_ (by assumption) ?_
  rotate_left 1
  · intro w hSw
    (try dsimp only at hSw)
    go_simp
    (try with_reducible rfl)
  (try simp only [Act.put, List.setIfInBounds_toArray, List.set_cons_zero, List.set_cons_succ])
  refine H_take (k := 3) (v := ?_) (by rfl) (by kernel_rfl) (by kernel_rfl) (by kernel_rfl) (by exact fun _ _ _ h => h) (by rfl) ?_ (by assumption) ?_
  rotate_left 1
  · intro w hSw
    (try dsimp only at hSw)
    go_simp
    (try with_reducible rfl)
  (try simp only [Act.put, List.setIfInBounds_toArray, List.set_cons_zero, List.set_cons_succ])
  refine H_take (k := 5) (v := ?_) (by rfl) (by kernel_rfl) (by kernel_rfl) (by kernel_rfl) (by exact fun _ _ _ h => h) (by rfl) ?_ (by assumption) ?_
  rotate_left 1
  · intro w hSw
    (try dsimp only at hSw)
    go_simp
    (try with_reducible rfl)
  (try simp only [Act.put, List.setIfInBounds_toArray, List.set_cons_zero, List.set_cons_succ])
  refine H_take (k := 7) (v := .agg #[.slice dA dn dc, .int .i64 gfree, .slice jA gn jc]) (by rfl) (by kernel_rfl) (by kernel_rfl) (by kernel_rfl) (by exact fun _ _ _ h => h) (by rfl) (fun w' hSw => exec_ldb Tryz.tfT _ rfl _ rfl 29 [.slice dA dn dc, .int .i64 gfree, .slice jA gn jc] (HT2.out.grown hSw (by simp)) rfl) (by assumption) ?_
  (try simp only [Act.put, List.setIfInBounds_toArray, List.set_cons_zero, List.set_cons_succ])
  refine H_take (k := 8) (v := ?_) (by rfl) (by kernel_rfl) (by kernel_rfl) (by kernel_rfl) (by exact fun _ _ _ h => h) (by rfl) ?_ (by assumption) ?_
  rotate_left 1
  · intro w hSw
    (try dsimp only at hSw)
    go_simp
    (try with_reducible rfl)
  (try simp only [Act.put, List.setIfInBounds_toArray, List.set_cons_zero, List.set_cons_succ])
  refine H_take (k := 9) (v := ?_) (by rfl) (by kernel_rfl) (by kernel_rfl) (by kernel_rfl) (by exact fun _ _ _ h => h) (by rfl) ?_ (by assumption) ?_
  rotate_left 1
  · intro w hSw
    (try dsimp only at hSw)
    go_simp
    (try with_reducible rfl)
  (try simp only [Act.put, List.setIfInBounds_toArray, List.set_cons_zero, List.set_cons_succ])
  refine H_take (k := 10) (v := ?_) (by rfl) (by kernel_rfl) (by kernel_rfl) (by kernel_rfl) (by exact fun _ _ _ h => h) (by rfl) ?_ (by assumption) ?_
  rotate_left 1
  · intro w hSw
    (try dsimp only at hSw)
    go_simp
    (try with_reducible rfl)
  (try simp only [Act.put, List.setIfInBounds_toArray, List.set_cons_zero, List.set_cons_succ])
  refine H_take (k := 12) (v := ?_) (by rfl) (by kernel_rfl) (by kernel_rfl) (by kernel_rfl) (by exact fun _ _ _ h => h) (by rfl) ?_ (by assumption) ?_
  rotate_left 1
  · intro w hSw
    (try dsimp only at hSw)
    go_simp
    (try with_reducible rfl)
  (try simp only [Act.put, List.setIfInBounds_toArray, List.set_cons_zero, List.set_cons_succ])
  refine H_run (k := 4) (by rfl) (by kernel_rfl) (by rfl) (fun K hK => ?_)
  go_simp
  refine (chargesOf_any lo cA iA cn cc en ic free cl ins P pn pc p L ln lc l month _ (HU1.out.grown (gr_none HG.out hHeld)) hpn HFR1.out).mono ?_
  rintro e w' ⟨A1, bn1, bc1, rfl, hown, hg9⟩
  rw [HL1.out] at hown
  have HC1 := Lib.hid hown.recs
  have hbn1 : bn1 ≤ 3000 := by have h := hown.2; rw [List.length_map] at h; omega
  clear hown
  have hh1 := gr_none hHeld hg9

  refine hK _ _ hh1 ?_
  clear hK K hHeld hg9
  have hHeld := hh1
  clear hh1
  (try simp only [Act.put, List.setIfInBounds_toArray, List.set_cons_zero, List.set_cons_succ])
  refine H_run (k := 6) (by rfl) (by kernel_rfl) (by rfl) (fun K hK => ?_)
  go_simp
  refine (costsWho_any _ A1 bn1 bc1 L1 _ HC1.out hbn1 HOK1.out HSZ1.out).mono ?_
  rintro e w' ⟨m1, rfl, hl1, hm1, hg9⟩

  have hh1 := gr_none hHeld hg9

  refine hK _ _ hh1 ?_
  clear hK K hHeld hg9
  have hHeld := hh1
  clear hh1
  (try simp only [Act.put, List.setIfInBounds_toArray, List.set_cons_zero, List.set_cons_succ])
  have HMA := Lib.hid hm1
  clear hl1 hm1
  refine H_run (k := 11) (by rfl) (by kernel_rfl) (by rfl) (fun K hK => ?_)
  go_simp
  refine (chargesOf_any lo dA jA dn dc gn jc gfree dl jns P pn pc p L ln lc l month _ (HU2.out.grown (gr_none HG.out hHeld)) hpn HFR2.out).mono ?_
  rintro e w' ⟨A2, bn2, bc2, rfl, hown, hg9⟩
  rw [HL2.out] at hown
  have HC2 := Lib.hid hown.recs
  have hbn2 : bn2 ≤ 3000 := by have h := hown.2; rw [List.length_map] at h; omega
  clear hown
  have hh1 := gr_none hHeld hg9
  have HMA := Lib.hid (HMA.out.kept hg9 (by simp))
  refine hK _ _ hh1 ?_
  clear hK K hHeld hg9
  have hHeld := hh1
  clear hh1
  (try simp only [Act.put, List.setIfInBounds_toArray, List.set_cons_zero, List.set_cons_succ])
  refine H_run (k := 13) (by rfl) (by kernel_rfl) (by rfl) (fun K hK => ?_)
  go_simp
  refine (costsWho_any _ A2 bn2 bc2 L2 _ HC2.out hbn2 HOK2.out HSZ2.out).mono ?_
  rintro e w' ⟨m2, rfl, hl2, hm2, hg9⟩
  have HMA := Lib.hid (HMA.out.kept hg9 (by simp))
  have hh1 := gr_none hHeld hg9

  refine hK _ _ hh1 ?_
  clear hK K hHeld hg9
  have hHeld := hh1
  clear hh1
  (try simp only [Act.put, List.setIfInBounds_toArray, List.set_cons_zero, List.set_cons_succ])
  have HMB := Lib.hid hm2
  clear hl2 hm2
  refine H_take (k := 14) (v := ?_) (by rfl) (by kernel_rfl) (by kernel_rfl) (by kernel_rfl) (by exact fun _ _ _ h => h) (by rfl) ?_ (by assumption) ?_
  rotate_left 1
  · intro w hSw
    (try dsimp only at hSw)
    go_simp
    (try with_reducible rfl)
  (try simp only [Act.put, List.setIfInBounds_toArray, List.set_cons_zero, List.set_cons_succ])
  refine H_take (k := 15) (v := ?_) (by rfl) (by kernel_rfl) (by kernel_rfl) (by kernel_rfl) (by exact fun _ _ _ h => h) (by rfl) ?_ (by assumption) ?_
  rotate_left 1
  · intro w hSw
    (try dsimp only at hSw)
    go_simp
    (try with_reducible rfl)
  (try simp only [Act.put, List.setIfInBounds_toArray, List.set_cons_zero, List.set_cons_succ])
  refine H_done (by kernel_rfl) ?_
  obtain ⟨wl, rfl⟩ : ∃ wl : World, wl = w' := ⟨_, rfl⟩
  have HW := Lib.hid (gr_none HG.out hHeld)
  clear hHeld HT HT2 HC1 HC2 HG
  go_wp2_with fail
  go_loopw [14, 16, 17, 34] (fun ov _ _ t wr => ∃ (j on oc : Nat) (O : Option Addr), j ≤ pn ∧ t = .int .i64 j ∧ ov = .slice O on oc ∧ wl.grownBy wr none ∧ on ≤ j ∧ OwnR PaV.row 2 wr wl.heap.size 51 O on oc (cmpPs L1 L2 (p.take j))) (fun _ _ _ t _ => pn - (intOf t).toNat)
  case atStart => exact ⟨0, 0, 0, none, Nat.zero_le _, rfl, rfl, gr_refl _ _, Nat.le_refl _, OwnR.nil _ _ _⟩
  case round =>
    obtain ⟨j, on, oc, O, hj, rfl, rfl, hg, hon, hown⟩ := hrel
    have HG := Lib.hid hg; have HO := Lib.hid hown
    have zr := hg.size
    clear hg hown
    by_cases hlt : j < pn
    · obtain ⟨g, o, ⟨key, nA, nn, nc, nums⟩, rfl, _, hgl, hz, hcc⟩ := (HU1.out.py.1.grown (gr_none HW.out HG.out) (fun g e => by cases e)).get PyV.row_len hlt
      have hks : key.size ≤ 1000 := (HU1.out.py.2 _ (mem_of_get hz)).1.1
      have hb1 := costK_all (f := (·.1.pay)) (k := key) HOK1.out hln1
      have hb2 := costK_all (f := (·.1.pay)) (k := key) HOK2.out hln2
      have hsu := cmpPs_succ (L1 := L1) (L2 := L2) hz
      dsimp only at hsu
      obtain ⟨X1, hX1⟩ : ∃ v, costK (·.1.pay) L1 key = v := ⟨_, rfl⟩
      obtain ⟨X2, hX2⟩ : ∃ v, costK (·.1.pay) L2 key = v := ⟨_, rfl⟩
      rw [hX1] at hb1; rw [hX2] at hb2; rw [hX1, hX2] at hsu
      obtain ⟨V, hV⟩ : ∃ v, X2 - X1 = v := ⟨_, rfl⟩
      rw [hV] at hsu
      have HV1 := Lib.hid hX1; have HV2 := Lib.hid hX2; have HSU := Lib.hid hsu; have HC := Lib.hid hcc
      have hVb : -300000000000000000 ≤ V ∧ V ≤ 300000000000000000 := by omega
      obtain ⟨hVb1, hVb2⟩ := hVb
      have sw : IntKind.i64.wrap (X2 - X1) = V := by rw [hV]; exact IntWalk.i64_in _ (by omega)
      have HVV := Lib.hid hV
      clear hz hcc hsu hX1 hX2 hb1 hb2 hV
      obtain ⟨wa, hwa⟩ : ∃ wa, wr.alloc (.cells #[.string key, .slice nA nn nc] 73) = wa := ⟨_, rfl⟩
      obtain ⟨zb, hzb⟩ : ∃ b, wr.heap.size = b := ⟨_, rfl⟩
      have HR := Lib.hid (show Blk wa zb 73 #[.string key, .slice nA nn nc] by rw [← hwa, ← hzb]; exact Blk.new _ _ _)
      have hga : wr.grownBy wa none := by rw [← hwa]; exact gr_alloc (gr_refl _ _) _
      have HOa := Lib.hid (HO.out.kept hga (fun g e => by cases e))
      have HGa := Lib.hid (gr_none HG.out hga)
      have HWA := Lib.hid hwa; have HZB := Lib.hid hzb; clear hwa hzb hga
      go_upto_region 7 with (first
        | (refine wpl_load_at Tryz.pyT rfl _ rfl _ rfl [.string key, .slice nA nn nc] rfl (fun j u hu => by rw [add_mk]; exact HC.out j u hu) ?_)
        | fail)
      rw [HWA.out]
      (try rw [HZB.out])
      clear HWA HZB HC
      have k0 := HR.out.cell 0
      go_upto_region 8 with (first
        | (refine wpl_glook rfl 63 _ _ rfl Tryz.underlying63 (Tryz.zeroSI _) rfl key rfl (by unfold maxLen; omega) (by exact HMB.out.kept HGa.out (by simp)) ?_; rw [sumF_val, HV2.out])
        | (refine wpl_glook rfl 63 _ _ rfl Tryz.underlying63 (Tryz.zeroSI _) rfl key rfl (by unfold maxLen; omega) (by exact HMA.out.kept HGa.out (by simp)) ?_; rw [sumF_val, HV1.out])
        | fail)
      clear k0
      by_cases h0 : V = 0
      · have d0 : (V != 0) = false := by simpa using h0
        have HSN := Lib.hid (HSU.out.trans (by rw [if_pos h0, List.append_nil]))
        clear h0
        go_wp2_with fail
        go_roundw
        case rel => exact ⟨j + 1, on, oc, O, by omega, by go_num, rfl, HGa.out, by omega, by rw [HSN.out]; exact HOa.out⟩
        case measure => simp [intOf]; omega
      · have d0 : (V != 0) = true := by simpa using h0
        have HSN := Lib.hid (HSU.out.trans (by rw [if_neg h0]))
        clear h0
        obtain ⟨I, hI⟩ : ∃ I, itS V = I := ⟨_, rfl⟩
        have HI := Lib.hid hI
        rw [hI] at HSN
        clear hI
        go_upto_region 9 with (fail)
        refine wp_region_B (fun w' => wa.grownBy w' none) 7 (by kernel_rfl) ?_
        have hHeld : wa.grownBy wa.drew none := gr_drew (gr_refl _ _)
        generalize wa.drew = wd at hHeld ⊢
        refine B_take (k := 0) false (v := ?_) (by rfl) (by kernel_rfl) (by exact fun _ _ _ h => h) (by rfl) ?_ (by first | exact .inr hHeld | exact .inl (by rfl)) ?_
        rotate_left 1
        · intro w hSw
          clear hSw
          go_simp
          (try with_reducible rfl)
        (try simp only [Act.put, List.setIfInBounds_toArray, List.set_cons_zero, List.set_cons_succ])
        refine B_take (k := 1) false (v := ?_) (by rfl) (by kernel_rfl) (by exact fun _ _ _ h => h) (by rfl) ?_ (by first | exact .inr hHeld | exact .inl (by rfl)) ?_
        rotate_left 1
        · intro w hSw
          clear hSw
          go_simp
          (try with_reducible rfl)
        (try simp only [Act.put, List.setIfInBounds_toArray, List.set_cons_zero, List.set_cons_succ])
        refine B_take (k := 2) true (v := ?_) (by rfl) (by kernel_rfl) (by exact fun _ _ _ h => h) (by rfl) ?_ (.inr hHeld) ?_
        rotate_left 1
        · intro w' hSw
          have kc := (HR.out.grown hSw (by simp)).cell 0
          go_simp
          (try with_reducible rfl)
        (try simp only [Act.put, List.setIfInBounds_toArray, List.set_cons_zero, List.set_cons_succ])
        refine B_take (k := 3) false (v := ?_) (by rfl) (by kernel_rfl) (by exact fun _ _ _ h => h) (by rfl) ?_ (by first | exact .inr hHeld | exact .inl (by rfl)) ?_
        rotate_left 1
        · intro w hSw
          clear hSw
          go_simp
          (try with_reducible rfl)
        (try simp only [Act.put, List.setIfInBounds_toArray, List.set_cons_zero, List.set_cons_succ])
        refine B_run (k := 4) (by rfl) (by kernel_rfl) (by rfl) (fun K hK => ?_)
        go_simp
        refine (itoaS_any V _ (by omega) (by omega) (HPW0.out.grown (gr_none HW.out (gr_none HGa.out hHeld)))).mono ?_
        rintro e w2 ⟨rfl, hg2⟩
        rw [HI.out]
        have hh1 := gr_none hHeld hg2
        refine hK _ _ (.inr hh1) ?_
        clear hK K hHeld hg2
        have hHeld := hh1
        clear hh1
        (try simp only [Act.put, List.setIfInBounds_toArray, List.set_cons_zero, List.set_cons_succ])
        refine B_take (k := 5) false (v := ?_) (by rfl) (by kernel_rfl) (by exact fun _ _ _ h => h) (by rfl) ?_ (by first | exact .inr hHeld | exact .inl (by rfl)) ?_
        rotate_left 1
        · intro w hSw
          clear hSw
          go_simp
          (try with_reducible rfl)
        (try simp only [Act.put, List.setIfInBounds_toArray, List.set_cons_zero, List.set_cons_succ])
        refine B_run (k := 6) (by rfl) (by kernel_rfl) (by rfl) (fun K hK => ?_)
        go_simp
        have hh2 := gr_alloc hHeld (.cells #[.string key, .string I] 51)
        refine hK _ _ (.inr hh2) ?_
        clear hK K
        (try simp only [Act.put, List.setIfInBounds_toArray, List.set_cons_zero, List.set_cons_succ])
        have HOw := HOa.out.kept hh2 (fun g e => by cases e)
        refine B_run (k := 7) (by rfl) (by kernel_rfl) (by rfl) (fun K hK => ?_)
        refine wp_app _ _ _ Tryz.paT rfl wl.heap.size O on oc _ rfl (by exact HOw.1) _ _ 1 1 [.string key, .string I] rfl (by exact Reads.one _ _ _ _ rfl) (by simp [Value.oneCell']) (by unfold maxLen; omega) (by omega) (by have := hh2.size; have := HGa.out.size; omega) ?_
        intro A5 c5 w5 h5
        refine hK _ _ (.inl (by rfl)) ?_
        clear hK K
        (try simp only [Act.put, List.setIfInBounds_toArray, List.set_cons_zero, List.set_cons_succ])
        refine B_take (k := 8) false (v := ?_) (by rfl) (by kernel_rfl) (by exact fun _ _ _ h => h) (by rfl) ?_ (by first | exact .inr hHeld | exact .inl (by rfl)) ?_
        rotate_left 1
        · intro w hSw
          clear hSw
          go_simp
          (try with_reducible rfl)
        (try simp only [Act.put, List.setIfInBounds_toArray, List.set_cons_zero, List.set_cons_succ])
        refine B_done (by kernel_rfl) ?_
        have HO5 := Lib.hid (HOw.app (a := ⟨key, I⟩) rfl h5)
        have HG5 := Lib.hid (h5.gr (gr_none HGa.out hh2) HOw.1 (Nat.le_refl _))
        clear h5 hh2 hHeld HOw
        go_wp2_with fail
        go_roundw
        case rel => exact ⟨j + 1, on + 1, c5, A5, by omega, by go_num, rfl, HG5.out, by omega, by rw [HSN.out]; exact HO5.out⟩
        case measure => simp [intOf]; omega
    · obtain rfl : pn = j := by omega
      have HPT := Lib.hid (show p.take pn = p from List.take_of_length_le (by rw [HPL.out]; exact Nat.le_refl _))
      have ho := HO.out
      rw [HPT.out] at ho
      have HOF := Lib.hid ho
      clear ho
      go_wp2_with fail
      go_ret
      exact ⟨O, on, oc, rfl, by rw [HL1.out, HL2.out]; exact HOF.out.lower HW.out.size, gr_none HW.out HG.out⟩
end Go.Proofs.YtlkibeckfpjccaaGreatDoor

/- Contract of the document's TopOf. Conditions: right arguments; the table of powers of ten as laid. -/
import Derived.Test.YtlkibeckfpjccaaGreatDoorTc6
import Derived.WalkKit
import Derived.Deep.QuietTactic
import Derived.BigQuiet
namespace Go.Proofs.YtlkibeckfpjccaaGreatDoor
section
open Go.RowKit Go.Maps Go.WideMaps

def ToR (t : TfV) (p : List PyV) (l : List RcV) (month many : Int) (w : World) (e : Ending) (w' : World) : Prop := ∃ A n c s a, e = .returned (.slice A n c) ∧ TopN (chgAll t p month l) a ∧ s.Perm a ∧ Asc (topCf (chgAll t p month l)) s ∧ Recs PaV.row 2 w' w.heap.size A n c (topPs (chgAll t p month l) s many) ∧ w.grownBy w' none ∧ n ≤ 100000
set_option maxHeartbeats 16000000 in
set_option maxRecDepth 100000 in
theorem topOf_any (lo : Nat) (cA iA : Option Addr) (cn cc en ic : Nat) (free : Int) (cl : List ClV) (ins : List ByteArray) (P : Option Addr) (pn pc : Nat) (p : List PyV) (L : Option Addr) (ln lc : Nat) (l : List RcV) (month many : Int) (w : World) (hu1 : UseOk w lo ⟨cA, cn, cc, free, iA, en, ic, cl, ins⟩ P pn pc p L ln lc l) (hpn : pn ≤ 1000) (hmany : 0 ≤ many ∧ many ≤ 100) (hpw : PwT w) :
    Calls Tryz.prog 16 #[.agg #[.slice cA cn cc, .int .i64 free, .slice iA en ic], .slice P pn pc, .slice L ln lc, .int .i64 month, .int .i64 many] w (ToR ⟨cA, cn, cc, free, iA, en, ic, cl, ins⟩ p l month many w) := by
  have HU1 := Lib.hid hu1; have HPW0 := Lib.hid hpw
  have HFR1 := Lib.hid (tar_free hu1.et)
  clear hu1 hpw
  have hok1 : ∀ x ∈ chgAll ⟨cA, cn, cc, free, iA, en, ic, cl, ins⟩ p month l, ChOk x := fun x hx => chg_all_ok HU1.out hx
  have hsz1 : ∀ x ∈ chgAll ⟨cA, cn, cc, free, iA, en, ic, cl, ins⟩ p month l, x.1.pay.size ≤ 1000 ∧ x.2.too.size ≤ 1000 := fun x hx => chg_size (fun y hy => (HU1.out.py.2 y hy).1.1) (fun r hr => (HU1.out.rc.2 r hr).2.2.1) _ x hx
  have hln1 : (chgAll ⟨cA, cn, cc, free, iA, en, ic, cl, ins⟩ p month l).length ≤ 3000 := Nat.le_trans (chgTo_len _ _ _ _ _) (rcs_right HU1.out.er).1
  obtain ⟨L1, hL1⟩ : ∃ X, chgAll ⟨cA, cn, cc, free, iA, en, ic, cl, ins⟩ p month l = X := ⟨_, rfl⟩
  rw [hL1] at hok1 hsz1 hln1
  have HL1 := Lib.hid hL1; have HOK1 := Lib.hid hok1; have HSZ1 := Lib.hid hsz1
  clear hL1 hok1 hsz1
  have HBD := Lib.hid (fun k => costK_all (f := (·.2.too)) (k := k) HOK1.out hln1)
  obtain ⟨W1, hW⟩ : ∃ W1, (w.alloc (.cells #[.slice cA cn cc, .int .i64 free, .slice iA en ic] 29)).alloc (.cells #[.slice L ln lc] 31) = W1 := ⟨_, rfl⟩
  have HT := Lib.hid (show Blk W1 w.heap.size 29 #[.slice cA cn cc, .int .i64 free, .slice iA en ic] by rw [← hW]; exact (Blk.new _ _ _).alloc _)
  have HLB := Lib.hid (show Blk W1 (w.heap.size + 1) 31 #[.slice L ln lc] by
    rw [← hW]
    have h := Blk.new (w.alloc (.cells #[.slice cA cn cc, .int .i64 free, .slice iA en ic] 29)) 31 #[.slice L ln lc]
    simpa using h)
  have HG := Lib.hid (show w.grownBy W1 none by rw [← hW]; exact gr_alloc (gr_alloc (gr_refl _ _) _) _)
  have HWE := Lib.hid hW; clear hW
  go_enter Tryz.func16, Tryz.ntmps16
  go_upto_region 2 with (fail)
  rw [HWE.out]
  clear HWE
  have kL := HLB.out.cell 0
  go_wp2_with (first
    | (refine wpl_load_all Tryz.tfT rfl _ rfl _ rfl _ _ HT.out rfl ?_)
    | fail)
  clear kL
  refine (chargesOf_any lo cA iA cn cc en ic free cl ins P pn pc p L ln lc l month _ (HU1.out.grown HG.out) hpn HFR1.out).mono ?_
  rintro e w3 ⟨A1, bn1, bc1, rfl, hown, hg3⟩
  rw [HL1.out] at hown
  have HC1 := Lib.hid hown.recs
  have hbn1 : bn1 ≤ 3000 := by have h := hown.2; rw [List.length_map] at h; omega
  replace HG := Lib.hid (gr_none HG.out hg3)
  replace HLB := Lib.hid (HLB.out.grown hg3 (by simp))
  clear hown hg3 HT
  have HTX := Lib.hid (show TopX w3 L1 lo L ln lc l (w.heap.size + 1) from ⟨HLB.out, HU1.out.rc.1.grown HG.out (fun g e => by cases e), (rcs_right HU1.out.er).2.2, fun x hx => chgTo_mem _ x (by rw [← HL1.out] at hx; exact hx), by rw [← HU1.out.rc.1.len]; exact (rcs_right HU1.out.er).1⟩)
  go_wp2_with fail
  refine (costsTo_any _ A1 bn1 bc1 L1 lo L ln lc l (w.heap.size + 1) _ HC1.out hbn1 HOK1.out HSZ1.out HTX.out).mono ?_
  rintro e w4 ⟨mb, rfl, hlm, hmap, hg4⟩
  obtain ⟨wl, hwl⟩ : ∃ v, w4.alloc (.cells #[.map (some mb)] 63) = v := ⟨_, rfl⟩
  obtain ⟨sb, hsb⟩ : ∃ b, w4.heap.size = b := ⟨_, rfl⟩
  have HSX := Lib.hid (show SumX wl L1 sb mb bn1 by
    rw [← hwl, ← hsb]
    exact ⟨Blk.new _ _ _, hmap.kept (gr_alloc (gr_refl _ none) _) (by simp)⟩)
  have HW := Lib.hid (show w.grownBy wl none by rw [← hwl]; exact gr_alloc (gr_none HG.out hg4) _)
  have HWL := Lib.hid hwl; have HSBE := Lib.hid hsb
  clear hwl hsb hmap hg4 hlm HTX HC1 HLB HG
  go_upto_region 4 with (fail)
  rw [HWL.out]
  (try rw [HSBE.out])
  clear HWL HSBE
  have ks := HSX.out.blk.cell 0
  have hsl := HSX.out.blk.lt; have hml := HSX.out.map.lt
  go_wp2_with (first
    | (at_range; refine wpl_grange rfl _ _ rfl Tryz.underlying63 rfl HSX.out.map ?_; intro w5 cnt hr5 hg5 hs5)
    | fail)
  go_frame
  clear ks
  have HRG5 := Lib.hid hr5
  obtain ⟨rr, hrr⟩ : ∃ v, wl.heap.size = v := ⟨_, rfl⟩
  rw [hrr] at HRG5
  (try rw [hrr])
  have hsr : sb < rr := by omega
  have hmr : mb < rr := by omega
  have hwr : w.heap.size ≤ rr := by have := HW.out.size; omega
  have z5 : w5.heap.size = rr + 1 := by omega
  have HW5 := Lib.hid (gr_none HW.out hg5)
  replace HSX := Lib.hid (HSX.out.grown hg5 (by simp) (by simp))
  clear hr5 hg5 hs5 hrr hsl hml
  obtain ⟨lo5, hlo5⟩ : ∃ v, w5.heap.size = v := ⟨_, rfl⟩
  rw [hlo5] at z5
  go_loopw [13, 14, 15] (fun ov _ _ wr => ∃ (a : List ByteArray) (on oc : Nat) (O : Option Addr) (Lf : ByteArray → Bool) (cnt6 : Nat), ov = .slice O on oc ∧ w5.grownBy wr (some rr) ∧ RngG (Value.int .i64) wr mb rr bn1 (fun k => sumF (·.2.too) L1 k) Lf cnt6 ∧ OwnR srow 1 wr lo5 9 O on oc a ∧ a.Nodup ∧ (∀ k, k ∈ a ↔ Lf k = false ∧ 0 < costK (·.2.too) L1 k)) (fun _ _ _ wr => wr.rangeLeft mb rr)
  case atStart => exact ⟨[], 0, 0, none, _, cnt, rfl, gr_refl _ _, HRG5.out, OwnR.nil _ _ _, List.nodup_nil, fun k => ⟨fun h => (by cases h), fun ⟨h1, h2⟩ => by rw [sumF_pos h2] at h1; cases h1⟩⟩
  case round =>
    clear HRG5
    obtain ⟨a, on, oc, O, Lf, cnt6, rfl, hg, hrg, hown, hnd, hmem⟩ := hrel
    have HRGc := Lib.hid hrg
    have HG := Lib.hid hg; have HRG := Lib.hid hrg; have HO := Lib.hid hown; have HND := Lib.hid hnd; have HMEM := Lib.hid hmem
    have zr := hg.size
    have hon : on ≤ 3000 := by
      rw [← hown.2]
      exact top_len hnd (fun k hk => ((hmem k).1 hk).2) hln1
    clear hg hrg hown hnd hmem
    go_wp2_with (first
      | (at_next; refine wpl_gnext (enc := Value.int .i64) (fun a b h => by injection h) rfl _ rfl rfl HRG.out ?_ ?_)
      | fail)
    · intro hL0
      have HTN := Lib.hid (show TopN L1 a from ⟨HND.out, fun k => ⟨fun h => ((HMEM.out k).1 h).2, fun h => (HMEM.out k).2 ⟨hL0 k, h⟩⟩⟩)
      have HSXr := Lib.hid (HSX.out.grown HG.out (by simp; omega) (by simp; omega))
      have HWr := Lib.hid (gr_trans HW5.out HG.out (fun g e => .inr (by injection e with e; omega)))
      have hbO : ∀ b, b < lo5 → some b ≠ blkOf O := fun b hb e => by have := (HO.out.1.lt e.symm).1; omega
      clear HND HMEM HRG hL0
      go_wp2_with fail
      refine (sortTD_any L1 lo5 O on oc a sb mb bn1 _ HO.out HSXr.out (hbO sb (by omega)) (hbO mb (by omega)) (fun k hk => top_size HSZ1.out ((HTN.out.2 k).1 hk)) (by omega) HBD.out).mono ?_
      rintro e w7 ⟨rfl, s, hp, ha, hown7, hg7⟩
      have HP := Lib.hid hp; have HAS := Lib.hid ha; have HO7 := Lib.hid hown7
      have HSX7 := Lib.hid (HSXr.out.grown hg7 (hbO sb (by omega)) (hbO mb (by omega)))
      have HW7 := Lib.hid (gr_own HWr.out HO.out.1 (by omega) hg7)
      have hsz : ∀ k ∈ s, k.size ≤ 1000 := fun k hk => top_size HSZ1.out ((HTN.out.2 k).1 (HP.out.subset hk))
      have HSS := Lib.hid hsz
      clear hp ha hown7 hg7 HSXr HWr hbO hsz HG HO HW5 HSX
      obtain ⟨mm, hmm, hmo, htk⟩ := top_min (s := s) hmany HO7.out.2
      have HTK := Lib.hid htk
      clear htk
      have HR7 := Lib.hid (HO7.out.recs.take srow_len (i := mm) (by omega))
      have ks := HSX7.out.blk.cell 0
      have hcp : mm ≤ oc := Nat.le_trans hmo HO7.out.1.cap
      go_wp2_with fail
      clear ks
      go_loopw [16, 18, 50] (fun ov _ t wr => ∃ (j oc2 : Nat) (O2 : Option Addr), j ≤ mm ∧ t = .int .i64 j ∧ ov = .slice O2 j oc2 ∧ w7.grownBy wr none ∧ OwnR PaV.row 2 wr w7.heap.size 51 O2 j oc2 (((s.take mm).take j).map fun k => ⟨k, itS (costK (·.2.too) L1 k)⟩)) (fun _ _ t _ => mm - (intOf t).toNat)
      case atStart => exact ⟨0, 0, none, Nat.zero_le _, rfl, rfl, gr_refl _ _, OwnR.nil _ _ _⟩
      case round =>
        obtain ⟨j, oc2, O2, hj, rfl, rfl, hg, hown⟩ := hrel
        have HG := Lib.hid hg; have HO := Lib.hid hown
        have zr := hg.size
        clear hg hown
        by_cases hlt : j < mm
        · obtain ⟨g, o, x, hO, _, _, hx, hc⟩ := (HR7.out.grown HG.out (fun g e => by cases e)).get srow_len hlt
          subst hO
          have hc0 := hc 0 _ rfl
          simp only [Nat.mul_one, Nat.add_zero] at hc0
          have hxs : x.size ≤ 1000 := HSS.out x (List.mem_of_mem_take (mem_of_get hx))
          have HX := Lib.hid (show ((s.take mm).take (j + 1)).map (fun k => (⟨k, itS (costK (·.2.too) L1 k)⟩ : PaV)) = ((s.take mm).take j).map (fun k => ⟨k, itS (costK (·.2.too) L1 k)⟩) ++ [⟨x, itS (costK (·.2.too) L1 x)⟩] by rw [take_snoc' hx, List.map_append]; rfl)
          obtain ⟨v1, v2⟩ := HBD.out x
          obtain ⟨V, hV⟩ : ∃ v, costK (·.2.too) L1 x = v := ⟨_, rfl⟩
          rw [hV] at HX v1 v2
          obtain ⟨I, hI⟩ : ∃ I, itS V = I := ⟨_, rfl⟩
          have HI := Lib.hid hI; have HV := Lib.hid hV
          rw [hI] at HX
          clear hx hc hI hV
          have ks := (HSX7.out.blk.grown HG.out (by simp)).cell 0
          go_wp2_with (first
            | (refine wpl_glook rfl 63 _ _ rfl Tryz.underlying63 (Tryz.zeroSI _) rfl x rfl (by unfold maxLen; omega) (by exact HSX7.out.map.kept HG.out (by simp)) ?_; rw [sumF_val, HV.out])
            | fail)
          refine (itoaS_any V _ (by omega) (by omega) (HPW0.out.grown (gr_none HW7.out HG.out))).mono ?_
          rintro e w2 ⟨rfl, hg2⟩
          rw [HI.out]
          replace HG := Lib.hid (gr_none HG.out hg2)
          replace HO := Lib.hid (HO.out.kept hg2 (fun g e => by cases e))
          have z2 := hg2.size
          clear hg2 hc0 ks
          go_wp2_with (first
            | (at_builtin
               refine wpl_app _ rfl _ _ Tryz.paT rfl w7.heap.size O2 j oc2 _ rfl (by exact HO.out.1.alloc _) _ _ 1 1 [.string x, .string I] rfl (by exact Reads.one _ _ _ _ rfl) (by simp [Value.oneCell']) (by unfold maxLen; omega) (by omega) (by simp; omega) ?_
               intro A5 c5 w5 h5
               have H5 := Lib.hid h5; clear h5)
            | fail)
          go_roundw
          case rel => exact ⟨j + 1, c5, A5, by omega, by go_num, rfl, H5.out.gr (gr_alloc HG.out _) (HO.out.1.alloc _) (Nat.le_refl _), by rw [HX.out]; exact (HO.out.alloc _).app (a := ⟨x, I⟩) rfl H5.out⟩
          case measure => simp [intOf]; omega
        · obtain rfl : mm = j := by omega
          have ho := HO.out
          rw [List.take_of_length_le (by rw [List.length_take]; exact Nat.min_le_left _ _), HTK.out] at ho
          have HOF := Lib.hid (show OwnR PaV.row 2 wr w7.heap.size 51 O2 mm oc2 (topPs L1 s many) from ho)
          clear ho
          go_wp2_with fail
          go_ret
          exact ⟨O2, mm, oc2, s, a, rfl, by rw [HL1.out]; exact HTN.out, HP.out, by rw [HL1.out]; exact HAS.out, by rw [HL1.out]; exact HOF.out.recs.lower HW7.out.size, gr_none HW7.out HG.out, by omega⟩
    · intro x c w6 cnt7 hfx hlx hrg6 hlt6 hg6 hs6 hen6
      have hrl := HRG.out.lt
      have HC := Lib.hid (sumF_some hfx)
      have HG6 := Lib.hid (gr_same HG.out hg6)
      have HO6 := Lib.hid (HO.out.low hg6 (fun g e => by injection e with e; omega))
      have HRG6 := Lib.hid hrg6; have HLX := Lib.hid hlx; have HFX := Lib.hid hfx
      clear HO HRG hg6 hs6 hrg6 hfx hlx
      have HLT := Lib.hid hlt6
      clear hlt6
      by_cases h0 : 0 < c
      · have d0 : decide (0 < c) = true := decide_eq_true h0
        have hcx : 0 < costK (·.2.too) L1 x := by rw [← HC.out]; exact h0
        have HCX := Lib.hid hcx
        clear h0 hcx
        go_wp2_with (first
          | (at_builtin
             refine wpl_app _ rfl _ _ Tryz.stTop rfl lo5 O on oc _ rfl (by exact HO6.out.1.alloc _) _ _ 1 1 [.string x] rfl (by exact Reads.one _ _ _ _ rfl) (by simp [Value.oneCell']) (by unfold maxLen; omega) (by omega) (by have := HG6.out.size; simp; omega) ?_
             intro A5 c5 w8 h5
             have H5 := Lib.hid h5; clear h5)
          | fail)
        have HOw := Lib.hid (HO6.out.alloc (.cells #[.string x] 9))
        have HG8 := Lib.hid (gr_trans (gr_alloc HG6.out (.cells #[.string x] 9)) H5.out.2.1 (fun g e => .inr (by have := (HOw.out.1.lt e).1; omega)))
        have HRG8 := Lib.hid ((HRG6.out.kept (gr_alloc (gr_refl w6 none) (.cells #[.string x] 9)) (by simp) (by simp)).kept H5.out.2.1 (fun e => by have := (HOw.out.1.lt e.symm).1; omega) (fun e => by have := (HOw.out.1.lt e.symm).1; omega))
        go_roundw
        case rel => exact ⟨a ++ [x], on + 1, c5, A5, _, cnt7, rfl, HG8.out, HRG8.out, HOw.out.app rfl H5.out, top_nodup HND.out HMEM.out HLX.out, top_add HMEM.out HLX.out HCX.out⟩
        case measure => rw [HRG8.out.left_eq, HRGc.out.left_eq]; exact HLT.out
      · have d0 : decide (0 < c) = false := decide_eq_false h0
        have hcx : ¬ 0 < costK (·.2.too) L1 x := by rw [← HC.out]; exact h0
        have HCX := Lib.hid hcx
        clear h0 hcx
        go_wp2_with fail
        go_roundw
        case rel => exact ⟨a, on, oc, O, _, cnt7, rfl, HG6.out, HRG6.out, HO6.out, HND.out, top_skip HMEM.out HLX.out HCX.out⟩
        case measure => rw [HRG6.out.left_eq, HRGc.out.left_eq]; exact HLT.out
end
end Go.Proofs.YtlkibeckfpjccaaGreatDoor
/- Contract of slices.Equal at pairs that read as the same list. Conditions: none. -/
namespace Go.Proofs.YtlkibeckfpjccaaGreatDoor
section
open Go.RowKit
set_option maxHeartbeats 4000000 in
theorem equalPa_same (lo lo' : Nat) (A A' : Option Addr) (n c n' c' : Nat) (l : List PaV) (w : World) (h1 : Recs PaV.row 2 w lo A n c l) (h2 : Recs PaV.row 2 w lo' A' n' c' l) (hn2 : n ≤ 1000000000000) :
    Calls Tryz.prog 17 #[.slice A n c, .slice A' n' c'] w fun e w' => e = .returned (.bool true) ∧ ∃ k, w' = w.drewN k := by
  obtain rfl : n = n' := by rw [← h1.len, ← h2.len]
  have H1 := Lib.hid h1; have H2 := Lib.hid h2; clear h1 h2
  go_enter Tryz.func17, Tryz.ntmps17
  go_wp2_with fail
  go_loopw [5, 13] (fun _ t wr => ∃ i : Nat, i ≤ n ∧ t = .int .i64 i ∧ ∃ k, wr = w.drewN k) (fun _ t _ => n - (intOf t).toNat)
  case atStart => exact ⟨0, Nat.zero_le _, rfl, 0, rfl⟩
  case round =>
    obtain ⟨i, hi, rfl, k, rfl⟩ := hrel
    by_cases hlt : i < n
    · obtain ⟨g, o, z, rfl, _, _, hz, hc⟩ := H1.out.get PaV.row_len hlt
      obtain ⟨g', o', z', rfl, _, _, hz', hc2⟩ := H2.out.get PaV.row_len hlt
      rw [hz] at hz'
      injection hz' with hz'
      subst hz'
      have c0 := hc 0 _ rfl
      have d0 := hc2 0 _ rfl
      have c1 := hc 1 _ rfl
      have d1 := hc2 1 _ rfl
      simp only [Nat.add_zero] at c0 d0
      clear hz hc hc2
      have hi0 : (0 : Int) ≤ (i : Int) := by omega
      have hi1 : (i : Int) < (n : Int) := by omega
      go_wp2_with fail
      go_quiet (fail)
      go_wp2_with fail
      go_roundw
      case rel => exact ⟨i + 1, by omega, by go_num, _, rfl⟩
      case measure => simp [intOf]; omega
    · obtain rfl : i = n := by omega
      go_wp2_with fail
      go_ret
      exact ⟨rfl, _, rfl⟩
end
end Go.Proofs.YtlkibeckfpjccaaGreatDoor

/- Contract of the watcher's count. Conditions: bounds of what is counted. -/
import Derived.Test.YtfakdalpaopjaaaGreatDoorBun6
import Derived.Test.YtfakdalpaopjaaaGreatDoorBun5
import Derived.Test.YtfakdalpaopjaaaGreatDoorWa1
import Derived.Test.YtfakdalpaopjaaaGreatDoorBun13
import Derived.Test.YtfakdalpaopjaaaGreatDoorRc3
import Derived.Test.YtfakdalpaopjaaaGreatDoorBun1
namespace Go.Proofs.YtfakdalpaopjaaaGreatDoor
open Go.RowKit

theorem Tryz.cnS : StructT Tryz.prog 142 4 := ⟨_, Tryz.underlying142, rfl, by kernel_rfl⟩
theorem Tryz.cnT : ElemT Tryz.prog 133 142 4 48 (.agg #[.string ⟨#[]⟩, .string ⟨#[]⟩, .int .i64 0, .int .i64 0]) := elemT_of Tryz.underlying133 (by kernel_rfl) rfl (by decide)
theorem Tryz.blsT : ElemT Tryz.prog 37 58 4 40 (.agg #[.string ⟨#[]⟩, .int .i64 0, .int .i64 0, .int .i64 0]) := elemT_of Tryz.underlying37 (by kernel_rfl) rfl (by decide)
/-- A growth in which three things that the call owns are written: the watcher, its counts, its blocks. -/
def Grew (w w' : World) (xb : Nat) (CA BA : Option Addr) : Prop := ∃ w1 w2 w3, w.grownBy w1 (blkOf CA) ∧ w1.grownBy w2 (some xb) ∧ w2.grownBy w3 (blkOf BA) ∧ w3.grownBy w' (some xb)
def CountedV (xb lo : Nat) (w0 : World) (WA : Option Addr) (wn wc : Nat) (ws : List WaV) (CA : Option Addr) (cn : Nat) (cs : List CnV) (BA : Option Addr) (bn : Nat) (bl : List BlV) (d : CnV) (w : World) (e : Ending) (w' : World) : Prop :=
  ∃ (CA1 BA1 : Option Addr) (cc1 bn1 bc1 : Nat), e = .returned (.tuple #[]) ∧ Blk w' xb 135 #[.slice WA wn wc, .slice CA1 (cn + 1) cc1, .slice BA1 bn1 bc1] ∧ OwnR CnV.row 4 w' lo 142 CA1 (cn + 1) cc1 (cs ++ [d]) ∧ OwnR BlV.row 4 w' lo 58 BA1 bn1 bc1 (bl ++ wBlk ws (cs ++ [d]) d) ∧ bn1 ≤ bn + 1 ∧ w0.grownBy w' none ∧ Grew w w' xb CA BA
theorem sees_no {cls dcl : ByteArray} {win calls cents block : Int} (h : nb cls ≠ []) (h2 : ¬ nb cls = nb dcl) : wSees ⟨cls, win, calls, cents, block⟩ dcl = false := by
  unfold wSees; dsimp only; rw [decide_eq_false h, Bool.false_or]; simpa using h2
set_option maxHeartbeats 8000000 in
set_option maxRecDepth 100000 in
theorem count_any (xb lo lw : Nat) (w0 : World) (WA : Option Addr) (wn wc : Nat) (ws : List WaV) (CA : Option Addr) (cn cc : Nat) (cs : List CnV) (BA : Option Addr) (bn bc : Nat) (bl : List BlV) (pay dcl : ByteArray) (at_ cost : Int) (w : World)
    (hg0 : w0.grownBy w none) (hx0 : w0.heap.size ≤ xb) (hl0 : w0.heap.size ≤ lo) (hlx : lo ≤ w.heap.size) (hw : Was w0 lw WA wn wc ws) (hwn : wn ≤ 50) (hnum : ∀ z ∈ ws, waNum z = true)
    (hx : Blk w xb 135 #[.slice WA wn wc, .slice CA cn cc, .slice BA bn bc]) (hc : OwnR CnV.row 4 w lo 142 CA cn cc cs) (hb : OwnR BlV.row 4 w lo 58 BA bn bc bl)
    (hcn : cn ≤ 3000) (hbn : bn ≤ 3000) (hcost : ∀ e ∈ cs ++ [(⟨pay, dcl, at_, cost⟩ : CnV)], 0 ≤ e.cost ∧ e.cost ≤ 86400001000000) (hats : ∀ e ∈ cs ++ [(⟨pay, dcl, at_, cost⟩ : CnV)], 0 ≤ e.at_ ∧ e.at_ ≤ 345686399999) (hpay : pay.size ≤ 1000) :
    Calls Tryz.prog 61 #[.pointer (some ⟨xb, 0, none⟩), .agg #[.string pay, .string dcl, .int .i64 at_, .int .i64 cost]] w (CountedV xb lo w0 WA wn wc ws CA cn cs BA bn bl ⟨pay, dcl, at_, cost⟩ w) := by
  have hat1 := (hats ⟨pay, dcl, at_, cost⟩ (by simp)).1
  have hat2 := (hats ⟨pay, dcl, at_, cost⟩ (by simp)).2
  dsimp only at hat1 hat2
  obtain ⟨wa, hwa⟩ : ∃ wa, w.alloc (.cells #[.string pay, .string dcl, .int .i64 at_, .int .i64 cost] 142) = wa := ⟨_, rfl⟩
  obtain ⟨D, hD⟩ : ∃ D, w.heap.size = D := ⟨_, rfl⟩
  have hga : w.grownBy wa none := by rw [← hwa]; exact gr_alloc (gr_refl _ _) _
  have HD := Lib.hid (show Blk wa D 142 #[.string pay, .string dcl, .int .i64 at_, .int .i64 cost] by rw [← hwa, ← hD]; exact Blk.new _ _ _)
  have HX := Lib.hid (hx.grown hga (by simp))
  have HC := Lib.hid (hc.kept hga (fun g e => by cases e))
  have HB := Lib.hid (hb.kept hga (fun g e => by cases e))
  have HG0 := Lib.hid (gr_none hg0 hga)
  have HGA := Lib.hid hga
  have hxD : xb < D := by rw [← hD]; exact hx.lt
  have hloD : lo ≤ D := by omega
  have hNX := Lib.hid (show blkOf CA ≠ some xb from hc.1.blk_ne hx (by decide))
  have hNB := Lib.hid (show blkOf BA ≠ some xb from hb.1.blk_ne hx (by decide))
  have hND := Lib.hid (show blkOf CA ≠ some D from fun e => by have := (hc.1.lt e).2; omega)
  have hNE := Lib.hid (show ∀ g, blkOf CA = some g → blkOf BA ≠ some g from fun g e => Own.ne hc.1 hb.1 (by decide) e)
  have HW := Lib.hid hw; have HNUM := Lib.hid hnum; have HCO := Lib.hid hcost; have HAT := Lib.hid hats
  have zD : D < wa.heap.size := HD.out.lt
  have HWA := Lib.hid hwa; have HDE := Lib.hid hD
  clear hwa hD hga hx hc hb hw hnum hcost hats hg0
  go_enter Tryz.func61, Tryz.ntmps61
  go_upto_region 1 with (fail)
  rw [HWA.out, HDE.out]
  refine wp_region_B (fun w' => wa.grownBy w' (blkOf CA)) 10 (by kernel_rfl) ?_
  have hHeld : wa.grownBy wa.drew (blkOf CA) := gr_drew (gr_refl _ _)
  refine B_take (k := 0) false (v := ?_) (by rfl) (by kernel_rfl) (by exact fun _ _ _ h => h) (by rfl) ?_ (by first | exact .inr hHeld | exact .inl (by rfl)) ?_
  rotate_left 1
  · intro w hSw
    clear hSw
    go_simp
    (try with_reducible rfl)
  (try simp only [Act.put, List.setIfInBounds_toArray, List.set_cons_zero, List.set_cons_succ])
  refine B_take (k := 1) false (v := ?_) (by rfl) (by kernel_rfl) (by exact fun _ _ _ h => h) (by rfl) ?_ (by first | exact .inr hHeld | exact .inl (by rfl)) ?_
  rotate_left 1
  · intro w hSw
    clear hSw
    go_simp
    (try with_reducible rfl)
  (try simp only [Act.put, List.setIfInBounds_toArray, List.set_cons_zero, List.set_cons_succ])
  refine B_take (k := 2) false (v := ?_) (by rfl) (by kernel_rfl) (by exact fun _ _ _ h => h) (by rfl) ?_ (by first | exact .inr hHeld | exact .inl (by rfl)) ?_
  rotate_left 1
  · intro w hSw
    clear hSw
    go_simp
    (try with_reducible rfl)
  (try simp only [Act.put, List.setIfInBounds_toArray, List.set_cons_zero, List.set_cons_succ])
  refine B_take (k := 3) false (v := ?_) (by rfl) (by kernel_rfl) (by exact fun _ _ _ h => h) (by rfl) ?_ (by first | exact .inr hHeld | exact .inl (by rfl)) ?_
  rotate_left 1
  · intro w hSw
    clear hSw
    go_simp
    (try with_reducible rfl)
  (try simp only [Act.put, List.setIfInBounds_toArray, List.set_cons_zero, List.set_cons_succ])
  refine B_take (k := 4) true (v := ?_) (by rfl) (by kernel_rfl) (by exact fun _ _ _ h => h) (by rfl) ?_ (.inr hHeld) ?_
  rotate_left 1
  · intro w' hSw
    have kc := (HX.out.grown hSw (fun e => hNX.out e.symm)).cell 1
    clear hSw
    go_simp
    (try with_reducible rfl)
  (try simp only [Act.put, List.setIfInBounds_toArray, List.set_cons_zero, List.set_cons_succ])
  refine B_take (k := 5) true (v := .agg #[.string pay, .string dcl, .int .i64 at_, .int .i64 cost]) (by rfl) (by kernel_rfl) (by exact fun _ _ _ h => h) (by rfl) (fun w' hSw => exec_load_at Tryz.cnS _ rfl _ rfl [.string pay, .string dcl, .int .i64 at_, .int .i64 cost] rfl (fun j u hu => by rw [add_mk, Nat.zero_add]; exact ((HD.out.grown hSw (fun e => hND.out e.symm)).cell j).trans (by simpa using hu))) (.inr hHeld) ?_
  (try simp only [Act.put, List.setIfInBounds_toArray, List.set_cons_zero, List.set_cons_succ])
  refine B_run (k := 6) (by rfl) (by kernel_rfl) (by rfl) (fun K hK => ?_)
  go_simp
  refine hK _ _ (.inr (gr_alloc hHeld _)) ?_
  clear hK K
  refine B_run (k := 7) (by rfl) (by kernel_rfl) (by rfl) (fun K hK => ?_)
  refine wp_app _ _ _ Tryz.cnT rfl lo CA cn cc _ rfl (by exact HC.out.1.drew.alloc _) _ _ 1 1 [.string pay, .string dcl, .int .i64 at_, .int .i64 cost] rfl (by exact Reads.one _ _ _ _ rfl) (by simp [Value.oneCell']) (by unfold maxLen; omega) (by omega) (by simp; omega) ?_
  intro CA1 cc1 w5 h5
  have hg5 : wa.grownBy w5 (blkOf CA) := gr_same (gr_alloc (gr_drew (gr_refl wa _)) _) h5.2.1
  refine hK _ _ (.inr hg5) ?_
  clear hK K hHeld
  have hHeld := hg5
  (try simp only [Act.put, List.setIfInBounds_toArray, List.set_cons_zero, List.set_cons_succ])
  have hHC5 : OwnR CnV.row 4 w5 lo 142 CA1 (cn + 1) cc1 (cs ++ [⟨pay, dcl, at_, cost⟩]) := (HC.out.kept (gr_alloc (gr_drew (gr_refl wa none)) _) (fun g e => by cases e)).app rfl h5
  have HX5 := Lib.hid (HX.out.grown hg5 (fun e => hNX.out e.symm))
  have f1 := HX5.out.frozen 1
  have c1 := HX5.out.cell 1
  refine B_take (k := 8) false (v := ?_) (by rfl) (by kernel_rfl) (by exact fun _ _ _ h => h) (by rfl) ?_ (by first | exact .inr hHeld | exact .inl (by rfl)) ?_
  rotate_left 1
  · intro w hSw
    clear hSw
    go_simp
    (try with_reducible rfl)
  (try simp only [Act.put, List.setIfInBounds_toArray, List.set_cons_zero, List.set_cons_succ])
  refine B_take (k := 9) false (v := ?_) (by rfl) (by kernel_rfl) (by exact fun _ _ _ h => h) (by rfl) ?_ (by first | exact .inr hHeld | exact .inl (by rfl)) ?_
  rotate_left 1
  · intro w hSw
    clear hSw
    go_simp
    (try with_reducible rfl)
  (try simp only [Act.put, List.setIfInBounds_toArray, List.set_cons_zero, List.set_cons_succ])
  refine B_run (k := 10) (by rfl) (by kernel_rfl) (by rfl) (fun K hK => ?_)
  go_simp
  refine hK _ _ (.inl (by rfl)) ?_
  clear hK K hHeld f1 c1
  refine B_done (by kernel_rfl) ?_
  obtain ⟨w6, hw6⟩ : ∃ w6, w5.setCell ⟨xb, 1, none⟩ (.slice CA1 (cn + 1) cc1) = w6 := ⟨_, rfl⟩
  rw [hw6]
  have hg56 : w5.grownBy w6 (some xb) := by rw [← hw6]; exact gr_setCell (gr_refl _ _) (.inl rfl) _
  have HX6 := Lib.hid (show Blk w6 xb 135 #[.slice WA wn wc, .slice CA1 (cn + 1) cc1, .slice BA bn bc] by rw [← hw6]; exact HX5.out.set_ 1 _)
  have hN1 : blkOf CA1 ≠ some xb := hHC5.1.blk_ne HX5.out (by decide)
  have HC6 := Lib.hid (hHC5.kept hg56 (fun g e => by injection e with e; rw [← e]; exact hN1))
  have HB6 := Lib.hid ((HB.out.kept hg5 (fun g e => hNE.out g e)).kept hg56 (fun g e => by injection e with e; rw [← e]; exact hNB.out))
  have HD6 := Lib.hid ((HD.out.grown hg5 (fun e => hND.out e.symm)).grown hg56 (by simp; omega))
  have HG6 := Lib.hid (gr_trans (gr_trans HG0.out hg5 (fun g e => .inr (by have := (HC.out.1.lt e).1; omega))) hg56 (fun g e => .inr (by injection e with e; omega)))
  have HGW := Lib.hid (show ∃ w1, w.grownBy w1 (blkOf CA) ∧ w1.grownBy w6 (some xb) from ⟨w5, gr_trans (gr_trans (gr_refl w (blkOf CA)) HGA.out (fun g e => by cases e)) hg5 (fun g e => .inl e.symm), hg56⟩)
  have z5 := hg5.size; have z6 := hg56.size
  clear hw6 hg5 hg56 h5 hHC5 HX HC HB HD HX5 HG0 HGA hN1
  have k0 := HX6.out.cell 0
  go_simp
  go_wp2_with fail
  clear k0
  obtain ⟨cs1, hcs1⟩ : ∃ cs1, cs ++ [(⟨pay, dcl, at_, cost⟩ : CnV)] = cs1 := ⟨_, rfl⟩
  rw [hcs1] at HC6 HCO HAT
  have HCS := Lib.hid hcs1
  have HBD := Lib.hid (wCnt_bd HCO.out)
  clear hcs1
  go_loopw [4, 5, 6, 7, 9, 25] (fun _ _ _ _ _ t wr => ∃ i : Nat, i ≤ wn ∧ t = .int .i64 i ∧ w6.grownBy wr none ∧ (ws.take i).all (fun z => !wTrip cs1 ⟨pay, dcl, at_, cost⟩ z) = true) (fun _ _ _ _ _ t _ => wn - (intOf t).toNat)
  case atStart => exact ⟨0, Nat.zero_le _, rfl, gr_refl _ _, rfl⟩
  case round =>
    obtain ⟨i, hi, rfl, hg, ha⟩ := hrel
    have zr := hg.size
    have HA := Lib.hid ha; have HG := Lib.hid hg; clear ha hg
    by_cases hlt : i < wn
    · obtain ⟨g, o, ⟨cls, win, calls, cents, block⟩, rfl, _, hgl, hz, hcc⟩ := (HW.out.1.grown (gr_none HG6.out HG.out) (fun g e => by cases e)).get WaV.row_len hlt
      obtain ⟨⟨n1, n2⟩, ⟨n3, n4⟩, ⟨n5, n6⟩, n7, n8⟩ := waNum_bd (HNUM.out _ (mem_of_get hz))
      dsimp only at n1 n2 n3 n4 n5 n6 n7 n8
      have HZ := Lib.hid hz; have HZC := Lib.hid hcc; clear hz hcc
      obtain ⟨wx, hwx⟩ : ∃ wx, wr.alloc (.cells #[.string cls, .int .i64 win, .int .i64 calls, .int .i64 cents, .int .i64 block] 72) = wx := ⟨_, rfl⟩
      have HZB := Lib.hid (show Blk wx wr.heap.size 72 #[.string cls, .int .i64 win, .int .i64 calls, .int .i64 cents, .int .i64 block] by rw [← hwx]; exact Blk.new _ _ _)
      have HGx := Lib.hid (show w6.grownBy wx none by rw [← hwx]; exact gr_alloc HG.out _)
      have HWX := Lib.hid hwx; clear hwx
      have zx := HZB.out.lt
      go_upto_region 5 with (first
        | (refine wpl_load_at Tryz.waT rfl _ rfl _ rfl [.string cls, .int .i64 win, .int .i64 calls, .int .i64 cents, .int .i64 block] rfl (fun j u hu => by rw [add_mk]; exact HZC.out j u hu) ?_)
        | fail)
      rw [HWX.out]
      have kz0 := HZB.out.cell 0
      have kd1 := (HD6.out.grown HGx.out (by simp)).cell 1
      by_cases hcl : nb cls = []
      · have q0 := str_nil hcl
        have HSE := Lib.hid (show wSees ⟨cls, win, calls, cents, block⟩ dcl = true by unfold wSees; dsimp only; rw [decide_eq_true hcl]; rfl)
        have HNIL := Lib.hid (show decide (nb cls = []) = true from decide_eq_true hcl)
        clear hcl
        have kx1 := (HX6.out.grown HGx.out (by simp)).cell 1
        go_wp2_with fail
        clear kx1 kz0 kd1
        obtain ⟨wo, rfl⟩ : ∃ wo : World, wo = wr := ⟨_, rfl⟩
        go_loopw [6, 7, 9, 45] (fun a b _ t wr => ∃ j : Nat, j ≤ cn + 1 ∧ t = .int .i64 j ∧ a = .int .i64 (wCnt cs1 ⟨cls, win, calls, cents, block⟩ pay at_ j).1 ∧ b = .int .i64 (wCnt cs1 ⟨cls, win, calls, cents, block⟩ pay at_ j).2 ∧ wx.grownBy wr none) (fun _ _ _ t _ => cn + 1 - (intOf t).toNat)
        case atStart => exact ⟨0, Nat.zero_le _, rfl, rfl, rfl, gr_refl _ _⟩
        case round =>
          obtain ⟨j, hj, rfl, rfl, rfl, hg⟩ := hrel
          have HGj := Lib.hid hg; clear hg
          have zj := HGj.out.size
          obtain ⟨b1, b2, b3, b4⟩ := HBD.out ⟨cls, win, calls, cents, block⟩ pay at_ j
          obtain ⟨s1, hs1⟩ : ∃ s, (wCnt cs1 ⟨cls, win, calls, cents, block⟩ pay at_ j).1 = s := ⟨_, rfl⟩
          obtain ⟨s2, hs2⟩ : ∃ s, (wCnt cs1 ⟨cls, win, calls, cents, block⟩ pay at_ j).2 = s := ⟨_, rfl⟩
          rw [hs1] at b1 b2 ⊢; rw [hs2] at b3 b4 ⊢
          have HS1 := Lib.hid hs1; have HS2 := Lib.hid hs2
          clear hs1 hs2
          by_cases hlt2 : j < cn + 1
          · obtain ⟨g2, o2, ⟨pay2, dcl2, at2, cost2⟩, rfl, _, hgl2, hz, hcc⟩ := (HC6.out.recs.grown (gr_none HGx.out HGj.out) (fun g e => by cases e)).get CnV.row_len hlt2
            have a1 := HCO.out _ (mem_of_get hz)
            have a2 := HAT.out _ (mem_of_get hz)
            dsimp only at a1 a2
            obtain ⟨a1, a3⟩ := a1
            obtain ⟨a2, a4⟩ := a2
            have HZ2 := Lib.hid hz; have HC2 := Lib.hid hcc; clear hz hcc
            obtain ⟨wz, hwz⟩ : ∃ wz, wr.alloc (.cells #[.string pay2, .string dcl2, .int .i64 at2, .int .i64 cost2] 142) = wz := ⟨_, rfl⟩
            have HEB := Lib.hid (show Blk wz wr.heap.size 142 #[.string pay2, .string dcl2, .int .i64 at2, .int .i64 cost2] by rw [← hwz]; exact Blk.new _ _ _)
            have HGz := Lib.hid (show wx.grownBy wz none by rw [← hwz]; exact gr_alloc HGj.out _)
            have HWZ := Lib.hid hwz; clear hwz
            go_upto_region 10 with (first
              | (refine wpl_load_at Tryz.cnS rfl _ rfl _ rfl [.string pay2, .string dcl2, .int .i64 at2, .int .i64 cost2] rfl (fun j u hu => by rw [add_mk]; exact HC2.out j u hu) ?_)
              | fail)
            rw [HWZ.out]
            have ke0 := HEB.out.cell 0
            have ke1 := HEB.out.cell 1
            have ke2 := HEB.out.cell 2
            have kd0 := (HD6.out.grown (gr_none HGx.out HGz.out) (by simp)).cell 0
            have kd2 := (HD6.out.grown (gr_none HGx.out HGz.out) (by simp)).cell 2
            have kz0 := (HZB.out.grown HGz.out (by simp)).cell 0
            have kz1 := (HZB.out.grown HGz.out (by simp)).cell 1
            obtain ⟨E1, hE1⟩ : ∃ E, (pay2.toList == pay.toList) = E := ⟨_, rfl⟩
            obtain ⟨E2, hE2b⟩ : ∃ E, (nb dcl2 == nb cls) = E := ⟨_, rfl⟩
            obtain ⟨E3, hE3⟩ : ∃ E, decide (at_ - win < at2) = E := ⟨_, rfl⟩
            have HHIT := Lib.hid (show cnHit ⟨cls, win, calls, cents, block⟩ pay at_ ⟨pay2, dcl2, at2, cost2⟩ = (E1 && (true || E2) && E3) by unfold cnHit; dsimp only; rw [← eqS_nb pay2 pay, hE1, hE2b, HNIL.out, hE3])
            have HE2 := Lib.hid hE2b; clear hE2b
            cases E1
            · have HM := Lib.hid (wCnt_miss (z := ⟨cls, win, calls, cents, block⟩) (who := pay) (t := at_) HZ2.out (HHIT.out.trans (by first | rfl | simp)))
              go_wp2_with fail
              go_roundw
              case rel => exact ⟨j + 1, by omega, by go_num, by rw [HM.out, HS1.out], by rw [HM.out, HS2.out], HGz.out⟩
              case measure => simp [intOf]; omega
            · cases E3
              · have HM := Lib.hid (wCnt_miss (z := ⟨cls, win, calls, cents, block⟩) (who := pay) (t := at_) HZ2.out (HHIT.out.trans (by first | rfl | simp)))
                go_wp2_with fail
                go_roundw
                case rel => exact ⟨j + 1, by omega, by go_num, by rw [HM.out, HS1.out], by rw [HM.out, HS2.out], HGz.out⟩
                case measure => simp [intOf]; omega
              · have HM := Lib.hid (wCnt_hit (z := ⟨cls, win, calls, cents, block⟩) (who := pay) (t := at_) HZ2.out (HHIT.out.trans (by first | rfl | simp)))
                go_wp2_with fail
                have p1 : IntKind.i64.wrap (s1 + 1) = s1 + 1 := IntWalk.i64_in _ (by omega)
                have p2 : IntKind.i64.wrap (s2 + cost2) = s2 + cost2 := IntWalk.i64_in _ (by omega)
                refine H_begin (fun w' => wz.grownBy w' none) (by kernel_rfl) ?_
                have hHeld : wz.grownBy wz.drew none := gr_drew (gr_refl _ _)
                refine H_take (k := 0) (v := ?_) (by rfl) (by kernel_rfl) (by kernel_rfl) (by kernel_rfl) (by exact fun _ _ _ h => h) (by rfl) ?_ (by assumption) ?_
                rotate_left 1
                · intro w hSw
                  (try dsimp only at hSw)
                  go_simp
                  (try with_reducible rfl)
                (try simp only [Act.put, List.setIfInBounds_toArray, List.set_cons_zero, List.set_cons_succ])
                refine H_take (k := 1) (v := ?_) (by rfl) (by kernel_rfl) (by kernel_rfl) (by kernel_rfl) (by exact fun _ _ _ h => h) (by rfl) ?_ (by assumption) ?_
                rotate_left 1
                · intro w hSw
                  (try dsimp only at hSw)
                  go_simp
                  (try with_reducible rfl)
                (try simp only [Act.put, List.setIfInBounds_toArray, List.set_cons_zero, List.set_cons_succ])
                refine H_take (k := 2) (v := ?_) (by rfl) (by kernel_rfl) (by kernel_rfl) (by kernel_rfl) (by exact fun _ _ _ h => h) (by rfl) ?_ (by assumption) ?_
                rotate_left 1
                · intro w hSw
                  (try dsimp only at hSw)
                  go_simp
                  (try with_reducible rfl)
                (try simp only [Act.put, List.setIfInBounds_toArray, List.set_cons_zero, List.set_cons_succ])
                refine H_take (k := 3) (v := ?_) (by rfl) (by kernel_rfl) (by kernel_rfl) (by kernel_rfl) (by exact fun _ _ _ h => h) (by rfl) ?_ (by assumption) ?_
                rotate_left 1
                · intro w hSw
                  (try dsimp only at hSw)
                  go_simp
                  (try with_reducible rfl)
                (try simp only [Act.put, List.setIfInBounds_toArray, List.set_cons_zero, List.set_cons_succ])
                refine H_take (k := 4) (v := ?_) (by rfl) (by kernel_rfl) (by kernel_rfl) (by kernel_rfl) (by exact fun _ _ _ h => h) (by rfl) ?_ (by assumption) ?_
                rotate_left 1
                · intro w' hSw
                  have kc := (HEB.out.grown hSw (by simp)).cell 3
                  go_simp
                  (try with_reducible rfl)
                (try simp only [Act.put, List.setIfInBounds_toArray, List.set_cons_zero, List.set_cons_succ])
                refine H_take (k := 5) (v := ?_) (by rfl) (by kernel_rfl) (by kernel_rfl) (by kernel_rfl) (by exact fun _ _ _ h => h) (by rfl) ?_ (by assumption) ?_
                rotate_left 1
                · intro w hSw
                  (try dsimp only at hSw)
                  go_simp
                  (try with_reducible rfl)
                (try simp only [Act.put, List.setIfInBounds_toArray, List.set_cons_zero, List.set_cons_succ])
                refine H_take (k := 6) (v := ?_) (by rfl) (by kernel_rfl) (by kernel_rfl) (by kernel_rfl) (by exact fun _ _ _ h => h) (by rfl) ?_ (by assumption) ?_
                rotate_left 1
                · intro w hSw
                  (try dsimp only at hSw)
                  go_simp
                  (try with_reducible rfl)
                (try simp only [Act.put, List.setIfInBounds_toArray, List.set_cons_zero, List.set_cons_succ])
                refine H_take (k := 7) (v := ?_) (by rfl) (by kernel_rfl) (by kernel_rfl) (by kernel_rfl) (by exact fun _ _ _ h => h) (by rfl) ?_ (by assumption) ?_
                rotate_left 1
                · intro w hSw
                  (try dsimp only at hSw)
                  go_simp
                  (try with_reducible rfl)
                (try simp only [Act.put, List.setIfInBounds_toArray, List.set_cons_zero, List.set_cons_succ])
                refine H_done (by kernel_rfl) ?_
                clear p1 p2 hHeld
                have HGy := Lib.hid (gr_drew HGz.out)
                go_simp
                go_wp2_with fail
                go_roundw
                case rel => exact ⟨j + 1, by omega, by go_num, by rw [HM.out, HS1.out], by rw [HM.out, HS2.out], HGy.out⟩
                case measure => simp [intOf]; omega
          · obtain rfl : j = cn + 1 := by omega
            have HLC := Lib.hid (show cs1.length = cn + 1 from HC6.out.2)
            obtain ⟨T1, hT1⟩ : ∃ T, decide (calls < s1) = T := ⟨_, rfl⟩
            obtain ⟨T2, hT2⟩ : ∃ T, decide (1000 * cents < s2) = T := ⟨_, rfl⟩
            have HTR := Lib.hid (show wTrip cs1 ⟨pay, dcl, at_, cost⟩ ⟨cls, win, calls, cents, block⟩ = (true && (T1 || T2)) by unfold wTrip; rw [show wSees ⟨cls, win, calls, cents, block⟩ (CnV.cls ⟨pay, dcl, at_, cost⟩) = true from HSE.out, HLC.out]; dsimp only; rw [HS1.out, HS2.out, hT1, hT2])
            have kz2 := (HZB.out.grown HGj.out (by simp)).cell 2
            have kz3 := (HZB.out.grown HGj.out (by simp)).cell 3
            cases T1
            · cases T2
              · go_wp2_with fail
                go_roundw
                case rel => exact ⟨i + 1, by omega, by go_num, gr_none HGx.out HGj.out, allP_succ (p := wTrip cs1 ⟨pay, dcl, at_, cost⟩) HA.out HZ.out HTR.out⟩
                case measure => simp [intOf]; omega
              · have HXr := Lib.hid (HX6.out.grown (gr_none HGx.out HGj.out) (by simp))
                have HDr := Lib.hid (HD6.out.grown (gr_none HGx.out HGj.out) (by simp))
                have HZr := Lib.hid (HZB.out.grown HGj.out (by simp))
                have HBr := Lib.hid (HB6.out.kept (gr_none HGx.out HGj.out) (fun g e => by cases e))
                have HCr := Lib.hid (HC6.out.kept (gr_none HGx.out HGj.out) (fun g e => by cases e))
                have HGr := Lib.hid (gr_none HG6.out (gr_none HGx.out HGj.out))
                have hBD : blkOf BA ≠ some D := HBr.out.1.blk_ne HDr.out (by decide)
                have hBZ : blkOf BA ≠ some wo.heap.size := HBr.out.1.blk_ne HZr.out (by decide)
                have HBD2 := Lib.hid hBD; have HBZ := Lib.hid hBZ; clear hBD hBZ
                go_wp2_with fail
                clear kz2 kz3 hT1 hT2
                have p1 : IntKind.i64.wrap (at_ + 1) = at_ + 1 := IntWalk.i64_in _ (by omega)
                have p2 : IntKind.i64.wrap (at_ + 1 + block) = at_ + 1 + block := IntWalk.i64_in _ (by omega)
                have zlo := HGr.out.size
                refine wp_region_B (fun w' => wr.grownBy w' (blkOf BA)) 22 (by kernel_rfl) ?_
                have hHeld : wr.grownBy wr.drew (blkOf BA) := gr_drew (gr_refl _ _)
                refine B_take (k := 0) false (v := ?_) (by rfl) (by kernel_rfl) (by exact fun _ _ _ h => h) (by rfl) ?_ (by first | exact .inr hHeld | exact .inl (by rfl)) ?_
                rotate_left 1
                · intro w hSw
                  clear hSw
                  go_simp
                  (try with_reducible rfl)
                (try simp only [Act.put, List.setIfInBounds_toArray, List.set_cons_zero, List.set_cons_succ])
                refine B_take (k := 1) false (v := ?_) (by rfl) (by kernel_rfl) (by exact fun _ _ _ h => h) (by rfl) ?_ (by first | exact .inr hHeld | exact .inl (by rfl)) ?_
                rotate_left 1
                · intro w hSw
                  clear hSw
                  go_simp
                  (try with_reducible rfl)
                (try simp only [Act.put, List.setIfInBounds_toArray, List.set_cons_zero, List.set_cons_succ])
                refine B_take (k := 2) false (v := ?_) (by rfl) (by kernel_rfl) (by exact fun _ _ _ h => h) (by rfl) ?_ (by first | exact .inr hHeld | exact .inl (by rfl)) ?_
                rotate_left 1
                · intro w hSw
                  clear hSw
                  go_simp
                  (try with_reducible rfl)
                (try simp only [Act.put, List.setIfInBounds_toArray, List.set_cons_zero, List.set_cons_succ])
                refine B_take (k := 3) false (v := ?_) (by rfl) (by kernel_rfl) (by exact fun _ _ _ h => h) (by rfl) ?_ (by first | exact .inr hHeld | exact .inl (by rfl)) ?_
                rotate_left 1
                · intro w hSw
                  clear hSw
                  go_simp
                  (try with_reducible rfl)
                (try simp only [Act.put, List.setIfInBounds_toArray, List.set_cons_zero, List.set_cons_succ])
                refine B_take (k := 4) true (v := ?_) (by rfl) (by kernel_rfl) (by exact fun _ _ _ h => h) (by rfl) ?_ (.inr hHeld) ?_
                rotate_left 1
                · intro w' hSw
                  have kc := (HXr.out.grown hSw (fun e => hNB.out e.symm)).cell 2
                  clear hSw
                  go_simp
                  (try with_reducible rfl)
                (try simp only [Act.put, List.setIfInBounds_toArray, List.set_cons_zero, List.set_cons_succ])
                refine B_take (k := 5) false (v := ?_) (by rfl) (by kernel_rfl) (by exact fun _ _ _ h => h) (by rfl) ?_ (by first | exact .inr hHeld | exact .inl (by rfl)) ?_
                rotate_left 1
                · intro w hSw
                  clear hSw
                  go_simp
                  (try with_reducible rfl)
                (try simp only [Act.put, List.setIfInBounds_toArray, List.set_cons_zero, List.set_cons_succ])
                refine B_take (k := 6) true (v := ?_) (by rfl) (by kernel_rfl) (by exact fun _ _ _ h => h) (by rfl) ?_ (.inr hHeld) ?_
                rotate_left 1
                · intro w' hSw
                  have kc := (HDr.out.grown hSw (fun e => HBD2.out e.symm)).cell 0
                  clear hSw
                  go_simp
                  (try with_reducible rfl)
                (try simp only [Act.put, List.setIfInBounds_toArray, List.set_cons_zero, List.set_cons_succ])
                refine B_take (k := 7) false (v := ?_) (by rfl) (by kernel_rfl) (by exact fun _ _ _ h => h) (by rfl) ?_ (by first | exact .inr hHeld | exact .inl (by rfl)) ?_
                rotate_left 1
                · intro w hSw
                  clear hSw
                  go_simp
                  (try with_reducible rfl)
                (try simp only [Act.put, List.setIfInBounds_toArray, List.set_cons_zero, List.set_cons_succ])
                refine B_take (k := 8) false (v := ?_) (by rfl) (by kernel_rfl) (by exact fun _ _ _ h => h) (by rfl) ?_ (by first | exact .inr hHeld | exact .inl (by rfl)) ?_
                rotate_left 1
                · intro w hSw
                  clear hSw
                  go_simp
                  (try with_reducible rfl)
                (try simp only [Act.put, List.setIfInBounds_toArray, List.set_cons_zero, List.set_cons_succ])
                refine B_take (k := 9) true (v := ?_) (by rfl) (by kernel_rfl) (by exact fun _ _ _ h => h) (by rfl) ?_ (.inr hHeld) ?_
                rotate_left 1
                · intro w' hSw
                  have kc := (HDr.out.grown hSw (fun e => HBD2.out e.symm)).cell 2
                  clear hSw
                  go_simp
                  (try with_reducible rfl)
                (try simp only [Act.put, List.setIfInBounds_toArray, List.set_cons_zero, List.set_cons_succ])
                refine B_take (k := 10) false (v := ?_) (by rfl) (by kernel_rfl) (by exact fun _ _ _ h => h) (by rfl) ?_ (by first | exact .inr hHeld | exact .inl (by rfl)) ?_
                rotate_left 1
                · intro w hSw
                  clear hSw
                  go_simp
                  (try with_reducible rfl)
                (try simp only [Act.put, List.setIfInBounds_toArray, List.set_cons_zero, List.set_cons_succ])
                refine B_take (k := 11) false (v := ?_) (by rfl) (by kernel_rfl) (by exact fun _ _ _ h => h) (by rfl) ?_ (by first | exact .inr hHeld | exact .inl (by rfl)) ?_
                rotate_left 1
                · intro w hSw
                  clear hSw
                  go_simp
                  (try with_reducible rfl)
                (try simp only [Act.put, List.setIfInBounds_toArray, List.set_cons_zero, List.set_cons_succ])
                refine B_take (k := 12) true (v := ?_) (by rfl) (by kernel_rfl) (by exact fun _ _ _ h => h) (by rfl) ?_ (.inr hHeld) ?_
                rotate_left 1
                · intro w' hSw
                  have kc := (HDr.out.grown hSw (fun e => HBD2.out e.symm)).cell 2
                  clear hSw
                  go_simp
                  (try with_reducible rfl)
                (try simp only [Act.put, List.setIfInBounds_toArray, List.set_cons_zero, List.set_cons_succ])
                refine B_take (k := 13) false (v := ?_) (by rfl) (by kernel_rfl) (by exact fun _ _ _ h => h) (by rfl) ?_ (by first | exact .inr hHeld | exact .inl (by rfl)) ?_
                rotate_left 1
                · intro w hSw
                  clear hSw
                  go_simp
                  (try with_reducible rfl)
                (try simp only [Act.put, List.setIfInBounds_toArray, List.set_cons_zero, List.set_cons_succ])
                refine B_take (k := 14) false (v := ?_) (by rfl) (by kernel_rfl) (by exact fun _ _ _ h => h) (by rfl) ?_ (by first | exact .inr hHeld | exact .inl (by rfl)) ?_
                rotate_left 1
                · intro w hSw
                  clear hSw
                  go_simp
                  (try with_reducible rfl)
                (try simp only [Act.put, List.setIfInBounds_toArray, List.set_cons_zero, List.set_cons_succ])
                refine B_take (k := 15) true (v := ?_) (by rfl) (by kernel_rfl) (by exact fun _ _ _ h => h) (by rfl) ?_ (.inr hHeld) ?_
                rotate_left 1
                · intro w' hSw
                  have kc := (HZr.out.grown hSw (fun e => HBZ.out e.symm)).cell 4
                  clear hSw
                  go_simp
                  (try with_reducible rfl)
                (try simp only [Act.put, List.setIfInBounds_toArray, List.set_cons_zero, List.set_cons_succ])
                refine B_take (k := 16) false (v := ?_) (by rfl) (by kernel_rfl) (by exact fun _ _ _ h => h) (by rfl) ?_ (by first | exact .inr hHeld | exact .inl (by rfl)) ?_
                rotate_left 1
                · intro w hSw
                  clear hSw
                  go_simp
                  (try with_reducible rfl)
                (try simp only [Act.put, List.setIfInBounds_toArray, List.set_cons_zero, List.set_cons_succ])
                refine B_take (k := 17) false (v := ?_) (by rfl) (by kernel_rfl) (by exact fun _ _ _ h => h) (by rfl) ?_ (by first | exact .inr hHeld | exact .inl (by rfl)) ?_
                rotate_left 1
                · intro w hSw
                  clear hSw
                  go_simp
                  (try with_reducible rfl)
                (try simp only [Act.put, List.setIfInBounds_toArray, List.set_cons_zero, List.set_cons_succ])
                refine B_run (k := 18) (by rfl) (by kernel_rfl) (by rfl) (fun K hK => ?_)
                go_simp
                refine hK _ _ (.inr (gr_alloc hHeld _)) ?_
                clear hK K
                refine B_run (k := 19) (by rfl) (by kernel_rfl) (by rfl) (fun K hK => ?_)
                refine wp_app _ _ _ Tryz.blsT rfl lo BA bn bc _ rfl (by exact HBr.out.1.drew.alloc _) _ _ 1 1 [.string pay, .int .i64 i, .int .i64 (at_ + 1), .int .i64 (at_ + 1 + block)] rfl (by exact Reads.one _ _ _ _ rfl) (by simp [Value.oneCell']) (by unfold maxLen; omega) (by omega) (by simp; omega) ?_
                intro BA1 bc1 w8 h8
                have hg8 : wr.grownBy w8 (blkOf BA) := gr_same (gr_alloc (gr_drew (gr_refl wr _)) _) h8.2.1
                refine hK _ _ (.inr hg8) ?_
                clear hK K hHeld
                have hHeld := hg8
                (try simp only [Act.put, List.setIfInBounds_toArray, List.set_cons_zero, List.set_cons_succ])
                have hHB8 : OwnR BlV.row 4 w8 lo 58 BA1 (bn + 1) bc1 (bl ++ [⟨pay, (i : Int), at_ + 1, at_ + 1 + block⟩]) := (HBr.out.kept (gr_alloc (gr_drew (gr_refl wr none)) _) (fun g e => by cases e)).app rfl h8
                have HX8 := Lib.hid (HXr.out.grown hg8 (fun e => hNB.out e.symm))
                have f2 := HX8.out.frozen 2
                have c2 := HX8.out.cell 2
                refine B_take (k := 20) false (v := ?_) (by rfl) (by kernel_rfl) (by exact fun _ _ _ h => h) (by rfl) ?_ (by first | exact .inr hHeld | exact .inl (by rfl)) ?_
                rotate_left 1
                · intro w hSw
                  clear hSw
                  go_simp
                  (try with_reducible rfl)
                (try simp only [Act.put, List.setIfInBounds_toArray, List.set_cons_zero, List.set_cons_succ])
                refine B_take (k := 21) false (v := ?_) (by rfl) (by kernel_rfl) (by exact fun _ _ _ h => h) (by rfl) ?_ (by first | exact .inr hHeld | exact .inl (by rfl)) ?_
                rotate_left 1
                · intro w hSw
                  clear hSw
                  go_simp
                  (try with_reducible rfl)
                (try simp only [Act.put, List.setIfInBounds_toArray, List.set_cons_zero, List.set_cons_succ])
                refine B_run (k := 22) (by rfl) (by kernel_rfl) (by rfl) (fun K hK => ?_)
                go_simp
                refine hK _ _ (.inl (by rfl)) ?_
                clear hK K hHeld f2 c2
                refine B_done (by kernel_rfl) ?_
                clear p1 p2
                obtain ⟨w9, hw9⟩ : ∃ w9, w8.setCell ⟨xb, 2, none⟩ (.slice BA1 (bn + 1) bc1) = w9 := ⟨_, rfl⟩
                rw [hw9]
                have hg89 : w8.grownBy w9 (some xb) := by rw [← hw9]; exact gr_setCell (gr_refl _ _) (.inl rfl) _
                have HX9 := Lib.hid (show Blk w9 xb 135 #[.slice _ wn wc, .slice CA1 (cn + 1) cc1, .slice BA1 (bn + 1) bc1] by rw [← hw9]; exact HX8.out.set_ 2 _)
                have hN1 : blkOf BA1 ≠ some xb := hHB8.1.blk_ne HX8.out (by decide)
                have hN2 : blkOf CA1 ≠ some xb := HCr.out.1.blk_ne HXr.out (by decide)
                have HB9 := Lib.hid (hHB8.kept hg89 (fun g e => by injection e with e; rw [← e]; exact hN1))
                have HC9 := Lib.hid ((HCr.out.kept hg8 (fun g e => Own.ne HBr.out.1 HCr.out.1 (by decide) e)).kept hg89 (fun g e => by injection e with e; rw [← e]; exact hN2))
                have hgf : w0.grownBy w9 none := gr_trans (gr_trans HGr.out hg8 (fun g e => .inr (by have := (HBr.out.1.lt e).1; omega))) hg89 (fun g e => .inr (by injection e with e; omega))
                have HGF := Lib.hid hgf
                have HGL := Lib.hid (show Grew w w9 xb CA BA by
                  obtain ⟨v1, g1, g2⟩ := HGW.out
                  exact ⟨v1, w6, w8, g1, g2, gr_same (gr_trans (gr_refl w6 (blkOf BA)) (gr_none HGx.out HGj.out) (fun g e => by cases e)) hg8, hg89⟩)
                have HWB := Lib.hid (wBlk_some (cs := cs1) (d := ⟨pay, dcl, at_, cost⟩) HA.out HZ.out HTR.out)
                clear hw9 hg89 hg8 h8 hHB8 hN1 hN2 hgf
                go_simp
                go_wp2_with fail
                go_end0
                exact ⟨CA1, BA1, cc1, bn + 1, bc1, rfl, HX9.out, (by rw [HCS.out]; exact HC9.out), (by rw [HCS.out, HWB.out]; exact HB9.out), Nat.le_refl _, HGF.out, HGL.out⟩
            · have HXr := Lib.hid (HX6.out.grown (gr_none HGx.out HGj.out) (by simp))
              have HDr := Lib.hid (HD6.out.grown (gr_none HGx.out HGj.out) (by simp))
              have HZr := Lib.hid (HZB.out.grown HGj.out (by simp))
              have HBr := Lib.hid (HB6.out.kept (gr_none HGx.out HGj.out) (fun g e => by cases e))
              have HCr := Lib.hid (HC6.out.kept (gr_none HGx.out HGj.out) (fun g e => by cases e))
              have HGr := Lib.hid (gr_none HG6.out (gr_none HGx.out HGj.out))
              have hBD : blkOf BA ≠ some D := HBr.out.1.blk_ne HDr.out (by decide)
              have hBZ : blkOf BA ≠ some wo.heap.size := HBr.out.1.blk_ne HZr.out (by decide)
              have HBD2 := Lib.hid hBD; have HBZ := Lib.hid hBZ; clear hBD hBZ
              go_wp2_with fail
              clear kz2 kz3 hT1 hT2
              have p1 : IntKind.i64.wrap (at_ + 1) = at_ + 1 := IntWalk.i64_in _ (by omega)
              have p2 : IntKind.i64.wrap (at_ + 1 + block) = at_ + 1 + block := IntWalk.i64_in _ (by omega)
              have zlo := HGr.out.size
              refine wp_region_B (fun w' => wr.grownBy w' (blkOf BA)) 22 (by kernel_rfl) ?_
              have hHeld : wr.grownBy wr.drew (blkOf BA) := gr_drew (gr_refl _ _)
              refine B_take (k := 0) false (v := ?_) (by rfl) (by kernel_rfl) (by exact fun _ _ _ h => h) (by rfl) ?_ (by first | exact .inr hHeld | exact .inl (by rfl)) ?_
              rotate_left 1
              · intro w hSw
                clear hSw
                go_simp
                (try with_reducible rfl)
              (try simp only [Act.put, List.setIfInBounds_toArray, List.set_cons_zero, List.set_cons_succ])
              refine B_take (k := 1) false (v := ?_) (by rfl) (by kernel_rfl) (by exact fun _ _ _ h => h) (by rfl) ?_ (by first | exact .inr hHeld | exact .inl (by rfl)) ?_
              rotate_left 1
              · intro w hSw
                clear hSw
                go_simp
                (try with_reducible rfl)
              (try simp only [Act.put, List.setIfInBounds_toArray, List.set_cons_zero, List.set_cons_succ])
              refine B_take (k := 2) false (v := ?_) (by rfl) (by kernel_rfl) (by exact fun _ _ _ h => h) (by rfl) ?_ (by first | exact .inr hHeld | exact .inl (by rfl)) ?_
              rotate_left 1
              · intro w hSw
                clear hSw
                go_simp
                (try with_reducible rfl)
              (try simp only [Act.put, List.setIfInBounds_toArray, List.set_cons_zero, List.set_cons_succ])
              refine B_take (k := 3) false (v := ?_) (by rfl) (by kernel_rfl) (by exact fun _ _ _ h => h) (by rfl) ?_ (by first | exact .inr hHeld | exact .inl (by rfl)) ?_
              rotate_left 1
              · intro w hSw
                clear hSw
                go_simp
                (try with_reducible rfl)
              (try simp only [Act.put, List.setIfInBounds_toArray, List.set_cons_zero, List.set_cons_succ])
              refine B_take (k := 4) true (v := ?_) (by rfl) (by kernel_rfl) (by exact fun _ _ _ h => h) (by rfl) ?_ (.inr hHeld) ?_
              rotate_left 1
              · intro w' hSw
                have kc := (HXr.out.grown hSw (fun e => hNB.out e.symm)).cell 2
                clear hSw
                go_simp
                (try with_reducible rfl)
              (try simp only [Act.put, List.setIfInBounds_toArray, List.set_cons_zero, List.set_cons_succ])
              refine B_take (k := 5) false (v := ?_) (by rfl) (by kernel_rfl) (by exact fun _ _ _ h => h) (by rfl) ?_ (by first | exact .inr hHeld | exact .inl (by rfl)) ?_
              rotate_left 1
              · intro w hSw
                clear hSw
                go_simp
                (try with_reducible rfl)
              (try simp only [Act.put, List.setIfInBounds_toArray, List.set_cons_zero, List.set_cons_succ])
              refine B_take (k := 6) true (v := ?_) (by rfl) (by kernel_rfl) (by exact fun _ _ _ h => h) (by rfl) ?_ (.inr hHeld) ?_
              rotate_left 1
              · intro w' hSw
                have kc := (HDr.out.grown hSw (fun e => HBD2.out e.symm)).cell 0
                clear hSw
                go_simp
                (try with_reducible rfl)
              (try simp only [Act.put, List.setIfInBounds_toArray, List.set_cons_zero, List.set_cons_succ])
              refine B_take (k := 7) false (v := ?_) (by rfl) (by kernel_rfl) (by exact fun _ _ _ h => h) (by rfl) ?_ (by first | exact .inr hHeld | exact .inl (by rfl)) ?_
              rotate_left 1
              · intro w hSw
                clear hSw
                go_simp
                (try with_reducible rfl)
              (try simp only [Act.put, List.setIfInBounds_toArray, List.set_cons_zero, List.set_cons_succ])
              refine B_take (k := 8) false (v := ?_) (by rfl) (by kernel_rfl) (by exact fun _ _ _ h => h) (by rfl) ?_ (by first | exact .inr hHeld | exact .inl (by rfl)) ?_
              rotate_left 1
              · intro w hSw
                clear hSw
                go_simp
                (try with_reducible rfl)
              (try simp only [Act.put, List.setIfInBounds_toArray, List.set_cons_zero, List.set_cons_succ])
              refine B_take (k := 9) true (v := ?_) (by rfl) (by kernel_rfl) (by exact fun _ _ _ h => h) (by rfl) ?_ (.inr hHeld) ?_
              rotate_left 1
              · intro w' hSw
                have kc := (HDr.out.grown hSw (fun e => HBD2.out e.symm)).cell 2
                clear hSw
                go_simp
                (try with_reducible rfl)
              (try simp only [Act.put, List.setIfInBounds_toArray, List.set_cons_zero, List.set_cons_succ])
              refine B_take (k := 10) false (v := ?_) (by rfl) (by kernel_rfl) (by exact fun _ _ _ h => h) (by rfl) ?_ (by first | exact .inr hHeld | exact .inl (by rfl)) ?_
              rotate_left 1
              · intro w hSw
                clear hSw
                go_simp
                (try with_reducible rfl)
              (try simp only [Act.put, List.setIfInBounds_toArray, List.set_cons_zero, List.set_cons_succ])
              refine B_take (k := 11) false (v := ?_) (by rfl) (by kernel_rfl) (by exact fun _ _ _ h => h) (by rfl) ?_ (by first | exact .inr hHeld | exact .inl (by rfl)) ?_
              rotate_left 1
              · intro w hSw
                clear hSw
                go_simp
                (try with_reducible rfl)
              (try simp only [Act.put, List.setIfInBounds_toArray, List.set_cons_zero, List.set_cons_succ])
              refine B_take (k := 12) true (v := ?_) (by rfl) (by kernel_rfl) (by exact fun _ _ _ h => h) (by rfl) ?_ (.inr hHeld) ?_
              rotate_left 1
              · intro w' hSw
                have kc := (HDr.out.grown hSw (fun e => HBD2.out e.symm)).cell 2
                clear hSw
                go_simp
                (try with_reducible rfl)
              (try simp only [Act.put, List.setIfInBounds_toArray, List.set_cons_zero, List.set_cons_succ])
              refine B_take (k := 13) false (v := ?_) (by rfl) (by kernel_rfl) (by exact fun _ _ _ h => h) (by rfl) ?_ (by first | exact .inr hHeld | exact .inl (by rfl)) ?_
              rotate_left 1
              · intro w hSw
                clear hSw
                go_simp
                (try with_reducible rfl)
              (try simp only [Act.put, List.setIfInBounds_toArray, List.set_cons_zero, List.set_cons_succ])
              refine B_take (k := 14) false (v := ?_) (by rfl) (by kernel_rfl) (by exact fun _ _ _ h => h) (by rfl) ?_ (by first | exact .inr hHeld | exact .inl (by rfl)) ?_
              rotate_left 1
              · intro w hSw
                clear hSw
                go_simp
                (try with_reducible rfl)
              (try simp only [Act.put, List.setIfInBounds_toArray, List.set_cons_zero, List.set_cons_succ])
              refine B_take (k := 15) true (v := ?_) (by rfl) (by kernel_rfl) (by exact fun _ _ _ h => h) (by rfl) ?_ (.inr hHeld) ?_
              rotate_left 1
              · intro w' hSw
                have kc := (HZr.out.grown hSw (fun e => HBZ.out e.symm)).cell 4
                clear hSw
                go_simp
                (try with_reducible rfl)
              (try simp only [Act.put, List.setIfInBounds_toArray, List.set_cons_zero, List.set_cons_succ])
              refine B_take (k := 16) false (v := ?_) (by rfl) (by kernel_rfl) (by exact fun _ _ _ h => h) (by rfl) ?_ (by first | exact .inr hHeld | exact .inl (by rfl)) ?_
              rotate_left 1
              · intro w hSw
                clear hSw
                go_simp
                (try with_reducible rfl)
              (try simp only [Act.put, List.setIfInBounds_toArray, List.set_cons_zero, List.set_cons_succ])
              refine B_take (k := 17) false (v := ?_) (by rfl) (by kernel_rfl) (by exact fun _ _ _ h => h) (by rfl) ?_ (by first | exact .inr hHeld | exact .inl (by rfl)) ?_
              rotate_left 1
              · intro w hSw
                clear hSw
                go_simp
                (try with_reducible rfl)
              (try simp only [Act.put, List.setIfInBounds_toArray, List.set_cons_zero, List.set_cons_succ])
              refine B_run (k := 18) (by rfl) (by kernel_rfl) (by rfl) (fun K hK => ?_)
              go_simp
              refine hK _ _ (.inr (gr_alloc hHeld _)) ?_
              clear hK K
              refine B_run (k := 19) (by rfl) (by kernel_rfl) (by rfl) (fun K hK => ?_)
              refine wp_app _ _ _ Tryz.blsT rfl lo BA bn bc _ rfl (by exact HBr.out.1.drew.alloc _) _ _ 1 1 [.string pay, .int .i64 i, .int .i64 (at_ + 1), .int .i64 (at_ + 1 + block)] rfl (by exact Reads.one _ _ _ _ rfl) (by simp [Value.oneCell']) (by unfold maxLen; omega) (by omega) (by simp; omega) ?_
              intro BA1 bc1 w8 h8
              have hg8 : wr.grownBy w8 (blkOf BA) := gr_same (gr_alloc (gr_drew (gr_refl wr _)) _) h8.2.1
              refine hK _ _ (.inr hg8) ?_
              clear hK K hHeld
              have hHeld := hg8
              (try simp only [Act.put, List.setIfInBounds_toArray, List.set_cons_zero, List.set_cons_succ])
              have hHB8 : OwnR BlV.row 4 w8 lo 58 BA1 (bn + 1) bc1 (bl ++ [⟨pay, (i : Int), at_ + 1, at_ + 1 + block⟩]) := (HBr.out.kept (gr_alloc (gr_drew (gr_refl wr none)) _) (fun g e => by cases e)).app rfl h8
              have HX8 := Lib.hid (HXr.out.grown hg8 (fun e => hNB.out e.symm))
              have f2 := HX8.out.frozen 2
              have c2 := HX8.out.cell 2
              refine B_take (k := 20) false (v := ?_) (by rfl) (by kernel_rfl) (by exact fun _ _ _ h => h) (by rfl) ?_ (by first | exact .inr hHeld | exact .inl (by rfl)) ?_
              rotate_left 1
              · intro w hSw
                clear hSw
                go_simp
                (try with_reducible rfl)
              (try simp only [Act.put, List.setIfInBounds_toArray, List.set_cons_zero, List.set_cons_succ])
              refine B_take (k := 21) false (v := ?_) (by rfl) (by kernel_rfl) (by exact fun _ _ _ h => h) (by rfl) ?_ (by first | exact .inr hHeld | exact .inl (by rfl)) ?_
              rotate_left 1
              · intro w hSw
                clear hSw
                go_simp
                (try with_reducible rfl)
              (try simp only [Act.put, List.setIfInBounds_toArray, List.set_cons_zero, List.set_cons_succ])
              refine B_run (k := 22) (by rfl) (by kernel_rfl) (by rfl) (fun K hK => ?_)
              go_simp
              refine hK _ _ (.inl (by rfl)) ?_
              clear hK K hHeld f2 c2
              refine B_done (by kernel_rfl) ?_
              clear p1 p2
              obtain ⟨w9, hw9⟩ : ∃ w9, w8.setCell ⟨xb, 2, none⟩ (.slice BA1 (bn + 1) bc1) = w9 := ⟨_, rfl⟩
              rw [hw9]
              have hg89 : w8.grownBy w9 (some xb) := by rw [← hw9]; exact gr_setCell (gr_refl _ _) (.inl rfl) _
              have HX9 := Lib.hid (show Blk w9 xb 135 #[.slice _ wn wc, .slice CA1 (cn + 1) cc1, .slice BA1 (bn + 1) bc1] by rw [← hw9]; exact HX8.out.set_ 2 _)
              have hN1 : blkOf BA1 ≠ some xb := hHB8.1.blk_ne HX8.out (by decide)
              have hN2 : blkOf CA1 ≠ some xb := HCr.out.1.blk_ne HXr.out (by decide)
              have HB9 := Lib.hid (hHB8.kept hg89 (fun g e => by injection e with e; rw [← e]; exact hN1))
              have HC9 := Lib.hid ((HCr.out.kept hg8 (fun g e => Own.ne HBr.out.1 HCr.out.1 (by decide) e)).kept hg89 (fun g e => by injection e with e; rw [← e]; exact hN2))
              have hgf : w0.grownBy w9 none := gr_trans (gr_trans HGr.out hg8 (fun g e => .inr (by have := (HBr.out.1.lt e).1; omega))) hg89 (fun g e => .inr (by injection e with e; omega))
              have HGF := Lib.hid hgf
              have HGL := Lib.hid (show Grew w w9 xb CA BA by
                obtain ⟨v1, g1, g2⟩ := HGW.out
                exact ⟨v1, w6, w8, g1, g2, gr_same (gr_trans (gr_refl w6 (blkOf BA)) (gr_none HGx.out HGj.out) (fun g e => by cases e)) hg8, hg89⟩)
              have HWB := Lib.hid (wBlk_some (cs := cs1) (d := ⟨pay, dcl, at_, cost⟩) HA.out HZ.out HTR.out)
              clear hw9 hg89 hg8 h8 hHB8 hN1 hN2 hgf
              go_simp
              go_wp2_with fail
              go_end0
              exact ⟨CA1, BA1, cc1, bn + 1, bc1, rfl, HX9.out, (by rw [HCS.out]; exact HC9.out), (by rw [HCS.out, HWB.out]; exact HB9.out), Nat.le_refl _, HGF.out, HGL.out⟩
      · obtain ⟨q1, q2, q3⟩ := str_full hcl
        obtain ⟨E, hE⟩ : ∃ E, (cls.toList == dcl.toList) = E := ⟨_, rfl⟩
        have HE := Lib.hid (show (nb cls == nb dcl) = E by rw [← hE, eqS_nb])
        have HNIL := Lib.hid (show decide (nb cls = []) = false from decide_eq_false hcl)
        cases E
        · have hE2 : (cls.toList != dcl.toList) = true := by rw [bne, hE]; rfl
          have HT := Lib.hid (show wTrip cs1 ⟨pay, dcl, at_, cost⟩ ⟨cls, win, calls, cents, block⟩ = false by unfold wTrip; rw [show wSees ⟨cls, win, calls, cents, block⟩ dcl = false from sees_no hcl (by have := HE.out; simpa using this)]; rfl)
          clear hcl
          go_wp2_with fail
          go_roundw
          case rel => exact ⟨i + 1, by omega, by go_num, HGx.out, allP_succ (p := wTrip cs1 ⟨pay, dcl, at_, cost⟩) HA.out HZ.out HT.out⟩
          case measure => simp [intOf]; omega
        · have hE2 : (cls.toList != dcl.toList) = false := by rw [bne, hE]; rfl
          have HSE := Lib.hid (show wSees ⟨cls, win, calls, cents, block⟩ dcl = true by unfold wSees; dsimp only; rw [HE.out]; exact Bool.or_true _)
          clear hcl
          have kx1 := (HX6.out.grown HGx.out (by simp)).cell 1
          go_wp2_with fail
          clear kx1 kz0 kd1
          obtain ⟨wo, rfl⟩ : ∃ wo : World, wo = wr := ⟨_, rfl⟩
          go_loopw [6, 7, 9, 45] (fun a b _ t wr => ∃ j : Nat, j ≤ cn + 1 ∧ t = .int .i64 j ∧ a = .int .i64 (wCnt cs1 ⟨cls, win, calls, cents, block⟩ pay at_ j).1 ∧ b = .int .i64 (wCnt cs1 ⟨cls, win, calls, cents, block⟩ pay at_ j).2 ∧ wx.grownBy wr none) (fun _ _ _ t _ => cn + 1 - (intOf t).toNat)
          case atStart => exact ⟨0, Nat.zero_le _, rfl, rfl, rfl, gr_refl _ _⟩
          case round =>
            obtain ⟨j, hj, rfl, rfl, rfl, hg⟩ := hrel
            have HGj := Lib.hid hg; clear hg
            have zj := HGj.out.size
            obtain ⟨b1, b2, b3, b4⟩ := HBD.out ⟨cls, win, calls, cents, block⟩ pay at_ j
            obtain ⟨s1, hs1⟩ : ∃ s, (wCnt cs1 ⟨cls, win, calls, cents, block⟩ pay at_ j).1 = s := ⟨_, rfl⟩
            obtain ⟨s2, hs2⟩ : ∃ s, (wCnt cs1 ⟨cls, win, calls, cents, block⟩ pay at_ j).2 = s := ⟨_, rfl⟩
            rw [hs1] at b1 b2 ⊢; rw [hs2] at b3 b4 ⊢
            have HS1 := Lib.hid hs1; have HS2 := Lib.hid hs2
            clear hs1 hs2
            by_cases hlt2 : j < cn + 1
            · obtain ⟨g2, o2, ⟨pay2, dcl2, at2, cost2⟩, rfl, _, hgl2, hz, hcc⟩ := (HC6.out.recs.grown (gr_none HGx.out HGj.out) (fun g e => by cases e)).get CnV.row_len hlt2
              have a1 := HCO.out _ (mem_of_get hz)
              have a2 := HAT.out _ (mem_of_get hz)
              dsimp only at a1 a2
              obtain ⟨a1, a3⟩ := a1
              obtain ⟨a2, a4⟩ := a2
              have HZ2 := Lib.hid hz; have HC2 := Lib.hid hcc; clear hz hcc
              obtain ⟨wz, hwz⟩ : ∃ wz, wr.alloc (.cells #[.string pay2, .string dcl2, .int .i64 at2, .int .i64 cost2] 142) = wz := ⟨_, rfl⟩
              have HEB := Lib.hid (show Blk wz wr.heap.size 142 #[.string pay2, .string dcl2, .int .i64 at2, .int .i64 cost2] by rw [← hwz]; exact Blk.new _ _ _)
              have HGz := Lib.hid (show wx.grownBy wz none by rw [← hwz]; exact gr_alloc HGj.out _)
              have HWZ := Lib.hid hwz; clear hwz
              go_upto_region 10 with (first
                | (refine wpl_load_at Tryz.cnS rfl _ rfl _ rfl [.string pay2, .string dcl2, .int .i64 at2, .int .i64 cost2] rfl (fun j u hu => by rw [add_mk]; exact HC2.out j u hu) ?_)
                | fail)
              rw [HWZ.out]
              have ke0 := HEB.out.cell 0
              have ke1 := HEB.out.cell 1
              have ke2 := HEB.out.cell 2
              have kd0 := (HD6.out.grown (gr_none HGx.out HGz.out) (by simp)).cell 0
              have kd2 := (HD6.out.grown (gr_none HGx.out HGz.out) (by simp)).cell 2
              have kz0 := (HZB.out.grown HGz.out (by simp)).cell 0
              have kz1 := (HZB.out.grown HGz.out (by simp)).cell 1
              obtain ⟨E1, hE1⟩ : ∃ E, (pay2.toList == pay.toList) = E := ⟨_, rfl⟩
              obtain ⟨E2, hE2b⟩ : ∃ E, (nb dcl2 == nb cls) = E := ⟨_, rfl⟩
              obtain ⟨E3, hE3⟩ : ∃ E, decide (at_ - win < at2) = E := ⟨_, rfl⟩
              have HHIT := Lib.hid (show cnHit ⟨cls, win, calls, cents, block⟩ pay at_ ⟨pay2, dcl2, at2, cost2⟩ = (E1 && (false || E2) && E3) by unfold cnHit; dsimp only; rw [← eqS_nb pay2 pay, hE1, hE2b, HNIL.out, hE3])
              have HE2 := Lib.hid hE2b; clear hE2b
              have hE2c : (dcl2.toList == cls.toList) = E2 := by rw [eqS_nb]; exact HE2.out
              cases E1
              · have HM := Lib.hid (wCnt_miss (z := ⟨cls, win, calls, cents, block⟩) (who := pay) (t := at_) HZ2.out (HHIT.out.trans (by first | rfl | simp)))
                go_wp2_with fail
                go_roundw
                case rel => exact ⟨j + 1, by omega, by go_num, by rw [HM.out, HS1.out], by rw [HM.out, HS2.out], HGz.out⟩
                case measure => simp [intOf]; omega
              · cases E2
                · have HM := Lib.hid (wCnt_miss (z := ⟨cls, win, calls, cents, block⟩) (who := pay) (t := at_) HZ2.out (HHIT.out.trans (by first | rfl | simp)))
                  go_wp2_with fail
                  go_roundw
                  case rel => exact ⟨j + 1, by omega, by go_num, by rw [HM.out, HS1.out], by rw [HM.out, HS2.out], HGz.out⟩
                  case measure => simp [intOf]; omega
                · cases E3
                  · have HM := Lib.hid (wCnt_miss (z := ⟨cls, win, calls, cents, block⟩) (who := pay) (t := at_) HZ2.out (HHIT.out.trans (by first | rfl | simp)))
                    go_wp2_with fail
                    go_roundw
                    case rel => exact ⟨j + 1, by omega, by go_num, by rw [HM.out, HS1.out], by rw [HM.out, HS2.out], HGz.out⟩
                    case measure => simp [intOf]; omega
                  · have HM := Lib.hid (wCnt_hit (z := ⟨cls, win, calls, cents, block⟩) (who := pay) (t := at_) HZ2.out (HHIT.out.trans (by first | rfl | simp)))
                    go_wp2_with fail
                    have p1 : IntKind.i64.wrap (s1 + 1) = s1 + 1 := IntWalk.i64_in _ (by omega)
                    have p2 : IntKind.i64.wrap (s2 + cost2) = s2 + cost2 := IntWalk.i64_in _ (by omega)
                    refine H_begin (fun w' => wz.grownBy w' none) (by kernel_rfl) ?_
                    have hHeld : wz.grownBy wz.drew none := gr_drew (gr_refl _ _)
                    refine H_take (k := 0) (v := ?_) (by rfl) (by kernel_rfl) (by kernel_rfl) (by kernel_rfl) (by exact fun _ _ _ h => h) (by rfl) ?_ (by assumption) ?_
                    rotate_left 1
                    · intro w hSw
                      (try dsimp only at hSw)
                      go_simp
                      (try with_reducible rfl)
                    (try simp only [Act.put, List.setIfInBounds_toArray, List.set_cons_zero, List.set_cons_succ])
                    refine H_take (k := 1) (v := ?_) (by rfl) (by kernel_rfl) (by kernel_rfl) (by kernel_rfl) (by exact fun _ _ _ h => h) (by rfl) ?_ (by assumption) ?_
                    rotate_left 1
                    · intro w hSw
                      (try dsimp only at hSw)
                      go_simp
                      (try with_reducible rfl)
                    (try simp only [Act.put, List.setIfInBounds_toArray, List.set_cons_zero, List.set_cons_succ])
                    refine H_take (k := 2) (v := ?_) (by rfl) (by kernel_rfl) (by kernel_rfl) (by kernel_rfl) (by exact fun _ _ _ h => h) (by rfl) ?_ (by assumption) ?_
                    rotate_left 1
                    · intro w hSw
                      (try dsimp only at hSw)
                      go_simp
                      (try with_reducible rfl)
                    (try simp only [Act.put, List.setIfInBounds_toArray, List.set_cons_zero, List.set_cons_succ])
                    refine H_take (k := 3) (v := ?_) (by rfl) (by kernel_rfl) (by kernel_rfl) (by kernel_rfl) (by exact fun _ _ _ h => h) (by rfl) ?_ (by assumption) ?_
                    rotate_left 1
                    · intro w hSw
                      (try dsimp only at hSw)
                      go_simp
                      (try with_reducible rfl)
                    (try simp only [Act.put, List.setIfInBounds_toArray, List.set_cons_zero, List.set_cons_succ])
                    refine H_take (k := 4) (v := ?_) (by rfl) (by kernel_rfl) (by kernel_rfl) (by kernel_rfl) (by exact fun _ _ _ h => h) (by rfl) ?_ (by assumption) ?_
                    rotate_left 1
                    · intro w' hSw
                      have kc := (HEB.out.grown hSw (by simp)).cell 3
                      go_simp
                      (try with_reducible rfl)
                    (try simp only [Act.put, List.setIfInBounds_toArray, List.set_cons_zero, List.set_cons_succ])
                    refine H_take (k := 5) (v := ?_) (by rfl) (by kernel_rfl) (by kernel_rfl) (by kernel_rfl) (by exact fun _ _ _ h => h) (by rfl) ?_ (by assumption) ?_
                    rotate_left 1
                    · intro w hSw
                      (try dsimp only at hSw)
                      go_simp
                      (try with_reducible rfl)
                    (try simp only [Act.put, List.setIfInBounds_toArray, List.set_cons_zero, List.set_cons_succ])
                    refine H_take (k := 6) (v := ?_) (by rfl) (by kernel_rfl) (by kernel_rfl) (by kernel_rfl) (by exact fun _ _ _ h => h) (by rfl) ?_ (by assumption) ?_
                    rotate_left 1
                    · intro w hSw
                      (try dsimp only at hSw)
                      go_simp
                      (try with_reducible rfl)
                    (try simp only [Act.put, List.setIfInBounds_toArray, List.set_cons_zero, List.set_cons_succ])
                    refine H_take (k := 7) (v := ?_) (by rfl) (by kernel_rfl) (by kernel_rfl) (by kernel_rfl) (by exact fun _ _ _ h => h) (by rfl) ?_ (by assumption) ?_
                    rotate_left 1
                    · intro w hSw
                      (try dsimp only at hSw)
                      go_simp
                      (try with_reducible rfl)
                    (try simp only [Act.put, List.setIfInBounds_toArray, List.set_cons_zero, List.set_cons_succ])
                    refine H_done (by kernel_rfl) ?_
                    clear p1 p2 hHeld
                    have HGy := Lib.hid (gr_drew HGz.out)
                    go_simp
                    go_wp2_with fail
                    go_roundw
                    case rel => exact ⟨j + 1, by omega, by go_num, by rw [HM.out, HS1.out], by rw [HM.out, HS2.out], HGy.out⟩
                    case measure => simp [intOf]; omega
            · obtain rfl : j = cn + 1 := by omega
              have HLC := Lib.hid (show cs1.length = cn + 1 from HC6.out.2)
              obtain ⟨T1, hT1⟩ : ∃ T, decide (calls < s1) = T := ⟨_, rfl⟩
              obtain ⟨T2, hT2⟩ : ∃ T, decide (1000 * cents < s2) = T := ⟨_, rfl⟩
              have HTR := Lib.hid (show wTrip cs1 ⟨pay, dcl, at_, cost⟩ ⟨cls, win, calls, cents, block⟩ = (true && (T1 || T2)) by unfold wTrip; rw [show wSees ⟨cls, win, calls, cents, block⟩ (CnV.cls ⟨pay, dcl, at_, cost⟩) = true from HSE.out, HLC.out]; dsimp only; rw [HS1.out, HS2.out, hT1, hT2])
              have kz2 := (HZB.out.grown HGj.out (by simp)).cell 2
              have kz3 := (HZB.out.grown HGj.out (by simp)).cell 3
              cases T1
              · cases T2
                · go_wp2_with fail
                  go_roundw
                  case rel => exact ⟨i + 1, by omega, by go_num, gr_none HGx.out HGj.out, allP_succ (p := wTrip cs1 ⟨pay, dcl, at_, cost⟩) HA.out HZ.out HTR.out⟩
                  case measure => simp [intOf]; omega
                · have HXr := Lib.hid (HX6.out.grown (gr_none HGx.out HGj.out) (by simp))
                  have HDr := Lib.hid (HD6.out.grown (gr_none HGx.out HGj.out) (by simp))
                  have HZr := Lib.hid (HZB.out.grown HGj.out (by simp))
                  have HBr := Lib.hid (HB6.out.kept (gr_none HGx.out HGj.out) (fun g e => by cases e))
                  have HCr := Lib.hid (HC6.out.kept (gr_none HGx.out HGj.out) (fun g e => by cases e))
                  have HGr := Lib.hid (gr_none HG6.out (gr_none HGx.out HGj.out))
                  have hBD : blkOf BA ≠ some D := HBr.out.1.blk_ne HDr.out (by decide)
                  have hBZ : blkOf BA ≠ some wo.heap.size := HBr.out.1.blk_ne HZr.out (by decide)
                  have HBD2 := Lib.hid hBD; have HBZ := Lib.hid hBZ; clear hBD hBZ
                  go_wp2_with fail
                  clear kz2 kz3 hT1 hT2
                  have p1 : IntKind.i64.wrap (at_ + 1) = at_ + 1 := IntWalk.i64_in _ (by omega)
                  have p2 : IntKind.i64.wrap (at_ + 1 + block) = at_ + 1 + block := IntWalk.i64_in _ (by omega)
                  have zlo := HGr.out.size
                  refine wp_region_B (fun w' => wr.grownBy w' (blkOf BA)) 22 (by kernel_rfl) ?_
                  have hHeld : wr.grownBy wr.drew (blkOf BA) := gr_drew (gr_refl _ _)
                  refine B_take (k := 0) false (v := ?_) (by rfl) (by kernel_rfl) (by exact fun _ _ _ h => h) (by rfl) ?_ (by first | exact .inr hHeld | exact .inl (by rfl)) ?_
                  rotate_left 1
                  · intro w hSw
                    clear hSw
                    go_simp
                    (try with_reducible rfl)
                  (try simp only [Act.put, List.setIfInBounds_toArray, List.set_cons_zero, List.set_cons_succ])
                  refine B_take (k := 1) false (v := ?_) (by rfl) (by kernel_rfl) (by exact fun _ _ _ h => h) (by rfl) ?_ (by first | exact .inr hHeld | exact .inl (by rfl)) ?_
                  rotate_left 1
                  · intro w hSw
                    clear hSw
                    go_simp
                    (try with_reducible rfl)
                  (try simp only [Act.put, List.setIfInBounds_toArray, List.set_cons_zero, List.set_cons_succ])
                  refine B_take (k := 2) false (v := ?_) (by rfl) (by kernel_rfl) (by exact fun _ _ _ h => h) (by rfl) ?_ (by first | exact .inr hHeld | exact .inl (by rfl)) ?_
                  rotate_left 1
                  · intro w hSw
                    clear hSw
                    go_simp
                    (try with_reducible rfl)
                  (try simp only [Act.put, List.setIfInBounds_toArray, List.set_cons_zero, List.set_cons_succ])
                  refine B_take (k := 3) false (v := ?_) (by rfl) (by kernel_rfl) (by exact fun _ _ _ h => h) (by rfl) ?_ (by first | exact .inr hHeld | exact .inl (by rfl)) ?_
                  rotate_left 1
                  · intro w hSw
                    clear hSw
                    go_simp
                    (try with_reducible rfl)
                  (try simp only [Act.put, List.setIfInBounds_toArray, List.set_cons_zero, List.set_cons_succ])
                  refine B_take (k := 4) true (v := ?_) (by rfl) (by kernel_rfl) (by exact fun _ _ _ h => h) (by rfl) ?_ (.inr hHeld) ?_
                  rotate_left 1
                  · intro w' hSw
                    have kc := (HXr.out.grown hSw (fun e => hNB.out e.symm)).cell 2
                    clear hSw
                    go_simp
                    (try with_reducible rfl)
                  (try simp only [Act.put, List.setIfInBounds_toArray, List.set_cons_zero, List.set_cons_succ])
                  refine B_take (k := 5) false (v := ?_) (by rfl) (by kernel_rfl) (by exact fun _ _ _ h => h) (by rfl) ?_ (by first | exact .inr hHeld | exact .inl (by rfl)) ?_
                  rotate_left 1
                  · intro w hSw
                    clear hSw
                    go_simp
                    (try with_reducible rfl)
                  (try simp only [Act.put, List.setIfInBounds_toArray, List.set_cons_zero, List.set_cons_succ])
                  refine B_take (k := 6) true (v := ?_) (by rfl) (by kernel_rfl) (by exact fun _ _ _ h => h) (by rfl) ?_ (.inr hHeld) ?_
                  rotate_left 1
                  · intro w' hSw
                    have kc := (HDr.out.grown hSw (fun e => HBD2.out e.symm)).cell 0
                    clear hSw
                    go_simp
                    (try with_reducible rfl)
                  (try simp only [Act.put, List.setIfInBounds_toArray, List.set_cons_zero, List.set_cons_succ])
                  refine B_take (k := 7) false (v := ?_) (by rfl) (by kernel_rfl) (by exact fun _ _ _ h => h) (by rfl) ?_ (by first | exact .inr hHeld | exact .inl (by rfl)) ?_
                  rotate_left 1
                  · intro w hSw
                    clear hSw
                    go_simp
                    (try with_reducible rfl)
                  (try simp only [Act.put, List.setIfInBounds_toArray, List.set_cons_zero, List.set_cons_succ])
                  refine B_take (k := 8) false (v := ?_) (by rfl) (by kernel_rfl) (by exact fun _ _ _ h => h) (by rfl) ?_ (by first | exact .inr hHeld | exact .inl (by rfl)) ?_
                  rotate_left 1
                  · intro w hSw
                    clear hSw
                    go_simp
                    (try with_reducible rfl)
                  (try simp only [Act.put, List.setIfInBounds_toArray, List.set_cons_zero, List.set_cons_succ])
                  refine B_take (k := 9) true (v := ?_) (by rfl) (by kernel_rfl) (by exact fun _ _ _ h => h) (by rfl) ?_ (.inr hHeld) ?_
                  rotate_left 1
                  · intro w' hSw
                    have kc := (HDr.out.grown hSw (fun e => HBD2.out e.symm)).cell 2
                    clear hSw
                    go_simp
                    (try with_reducible rfl)
                  (try simp only [Act.put, List.setIfInBounds_toArray, List.set_cons_zero, List.set_cons_succ])
                  refine B_take (k := 10) false (v := ?_) (by rfl) (by kernel_rfl) (by exact fun _ _ _ h => h) (by rfl) ?_ (by first | exact .inr hHeld | exact .inl (by rfl)) ?_
                  rotate_left 1
                  · intro w hSw
                    clear hSw
                    go_simp
                    (try with_reducible rfl)
                  (try simp only [Act.put, List.setIfInBounds_toArray, List.set_cons_zero, List.set_cons_succ])
                  refine B_take (k := 11) false (v := ?_) (by rfl) (by kernel_rfl) (by exact fun _ _ _ h => h) (by rfl) ?_ (by first | exact .inr hHeld | exact .inl (by rfl)) ?_
                  rotate_left 1
                  · intro w hSw
                    clear hSw
                    go_simp
                    (try with_reducible rfl)
                  (try simp only [Act.put, List.setIfInBounds_toArray, List.set_cons_zero, List.set_cons_succ])
                  refine B_take (k := 12) true (v := ?_) (by rfl) (by kernel_rfl) (by exact fun _ _ _ h => h) (by rfl) ?_ (.inr hHeld) ?_
                  rotate_left 1
                  · intro w' hSw
                    have kc := (HDr.out.grown hSw (fun e => HBD2.out e.symm)).cell 2
                    clear hSw
                    go_simp
                    (try with_reducible rfl)
                  (try simp only [Act.put, List.setIfInBounds_toArray, List.set_cons_zero, List.set_cons_succ])
                  refine B_take (k := 13) false (v := ?_) (by rfl) (by kernel_rfl) (by exact fun _ _ _ h => h) (by rfl) ?_ (by first | exact .inr hHeld | exact .inl (by rfl)) ?_
                  rotate_left 1
                  · intro w hSw
                    clear hSw
                    go_simp
                    (try with_reducible rfl)
                  (try simp only [Act.put, List.setIfInBounds_toArray, List.set_cons_zero, List.set_cons_succ])
                  refine B_take (k := 14) false (v := ?_) (by rfl) (by kernel_rfl) (by exact fun _ _ _ h => h) (by rfl) ?_ (by first | exact .inr hHeld | exact .inl (by rfl)) ?_
                  rotate_left 1
                  · intro w hSw
                    clear hSw
                    go_simp
                    (try with_reducible rfl)
                  (try simp only [Act.put, List.setIfInBounds_toArray, List.set_cons_zero, List.set_cons_succ])
                  refine B_take (k := 15) true (v := ?_) (by rfl) (by kernel_rfl) (by exact fun _ _ _ h => h) (by rfl) ?_ (.inr hHeld) ?_
                  rotate_left 1
                  · intro w' hSw
                    have kc := (HZr.out.grown hSw (fun e => HBZ.out e.symm)).cell 4
                    clear hSw
                    go_simp
                    (try with_reducible rfl)
                  (try simp only [Act.put, List.setIfInBounds_toArray, List.set_cons_zero, List.set_cons_succ])
                  refine B_take (k := 16) false (v := ?_) (by rfl) (by kernel_rfl) (by exact fun _ _ _ h => h) (by rfl) ?_ (by first | exact .inr hHeld | exact .inl (by rfl)) ?_
                  rotate_left 1
                  · intro w hSw
                    clear hSw
                    go_simp
                    (try with_reducible rfl)
                  (try simp only [Act.put, List.setIfInBounds_toArray, List.set_cons_zero, List.set_cons_succ])
                  refine B_take (k := 17) false (v := ?_) (by rfl) (by kernel_rfl) (by exact fun _ _ _ h => h) (by rfl) ?_ (by first | exact .inr hHeld | exact .inl (by rfl)) ?_
                  rotate_left 1
                  · intro w hSw
                    clear hSw
                    go_simp
                    (try with_reducible rfl)
                  (try simp only [Act.put, List.setIfInBounds_toArray, List.set_cons_zero, List.set_cons_succ])
                  refine B_run (k := 18) (by rfl) (by kernel_rfl) (by rfl) (fun K hK => ?_)
                  go_simp
                  refine hK _ _ (.inr (gr_alloc hHeld _)) ?_
                  clear hK K
                  refine B_run (k := 19) (by rfl) (by kernel_rfl) (by rfl) (fun K hK => ?_)
                  refine wp_app _ _ _ Tryz.blsT rfl lo BA bn bc _ rfl (by exact HBr.out.1.drew.alloc _) _ _ 1 1 [.string pay, .int .i64 i, .int .i64 (at_ + 1), .int .i64 (at_ + 1 + block)] rfl (by exact Reads.one _ _ _ _ rfl) (by simp [Value.oneCell']) (by unfold maxLen; omega) (by omega) (by simp; omega) ?_
                  intro BA1 bc1 w8 h8
                  have hg8 : wr.grownBy w8 (blkOf BA) := gr_same (gr_alloc (gr_drew (gr_refl wr _)) _) h8.2.1
                  refine hK _ _ (.inr hg8) ?_
                  clear hK K hHeld
                  have hHeld := hg8
                  (try simp only [Act.put, List.setIfInBounds_toArray, List.set_cons_zero, List.set_cons_succ])
                  have hHB8 : OwnR BlV.row 4 w8 lo 58 BA1 (bn + 1) bc1 (bl ++ [⟨pay, (i : Int), at_ + 1, at_ + 1 + block⟩]) := (HBr.out.kept (gr_alloc (gr_drew (gr_refl wr none)) _) (fun g e => by cases e)).app rfl h8
                  have HX8 := Lib.hid (HXr.out.grown hg8 (fun e => hNB.out e.symm))
                  have f2 := HX8.out.frozen 2
                  have c2 := HX8.out.cell 2
                  refine B_take (k := 20) false (v := ?_) (by rfl) (by kernel_rfl) (by exact fun _ _ _ h => h) (by rfl) ?_ (by first | exact .inr hHeld | exact .inl (by rfl)) ?_
                  rotate_left 1
                  · intro w hSw
                    clear hSw
                    go_simp
                    (try with_reducible rfl)
                  (try simp only [Act.put, List.setIfInBounds_toArray, List.set_cons_zero, List.set_cons_succ])
                  refine B_take (k := 21) false (v := ?_) (by rfl) (by kernel_rfl) (by exact fun _ _ _ h => h) (by rfl) ?_ (by first | exact .inr hHeld | exact .inl (by rfl)) ?_
                  rotate_left 1
                  · intro w hSw
                    clear hSw
                    go_simp
                    (try with_reducible rfl)
                  (try simp only [Act.put, List.setIfInBounds_toArray, List.set_cons_zero, List.set_cons_succ])
                  refine B_run (k := 22) (by rfl) (by kernel_rfl) (by rfl) (fun K hK => ?_)
                  go_simp
                  refine hK _ _ (.inl (by rfl)) ?_
                  clear hK K hHeld f2 c2
                  refine B_done (by kernel_rfl) ?_
                  clear p1 p2
                  obtain ⟨w9, hw9⟩ : ∃ w9, w8.setCell ⟨xb, 2, none⟩ (.slice BA1 (bn + 1) bc1) = w9 := ⟨_, rfl⟩
                  rw [hw9]
                  have hg89 : w8.grownBy w9 (some xb) := by rw [← hw9]; exact gr_setCell (gr_refl _ _) (.inl rfl) _
                  have HX9 := Lib.hid (show Blk w9 xb 135 #[.slice _ wn wc, .slice CA1 (cn + 1) cc1, .slice BA1 (bn + 1) bc1] by rw [← hw9]; exact HX8.out.set_ 2 _)
                  have hN1 : blkOf BA1 ≠ some xb := hHB8.1.blk_ne HX8.out (by decide)
                  have hN2 : blkOf CA1 ≠ some xb := HCr.out.1.blk_ne HXr.out (by decide)
                  have HB9 := Lib.hid (hHB8.kept hg89 (fun g e => by injection e with e; rw [← e]; exact hN1))
                  have HC9 := Lib.hid ((HCr.out.kept hg8 (fun g e => Own.ne HBr.out.1 HCr.out.1 (by decide) e)).kept hg89 (fun g e => by injection e with e; rw [← e]; exact hN2))
                  have hgf : w0.grownBy w9 none := gr_trans (gr_trans HGr.out hg8 (fun g e => .inr (by have := (HBr.out.1.lt e).1; omega))) hg89 (fun g e => .inr (by injection e with e; omega))
                  have HGF := Lib.hid hgf
                  have HGL := Lib.hid (show Grew w w9 xb CA BA by
                    obtain ⟨v1, g1, g2⟩ := HGW.out
                    exact ⟨v1, w6, w8, g1, g2, gr_same (gr_trans (gr_refl w6 (blkOf BA)) (gr_none HGx.out HGj.out) (fun g e => by cases e)) hg8, hg89⟩)
                  have HWB := Lib.hid (wBlk_some (cs := cs1) (d := ⟨pay, dcl, at_, cost⟩) HA.out HZ.out HTR.out)
                  clear hw9 hg89 hg8 h8 hHB8 hN1 hN2 hgf
                  go_simp
                  go_wp2_with fail
                  go_end0
                  exact ⟨CA1, BA1, cc1, bn + 1, bc1, rfl, HX9.out, (by rw [HCS.out]; exact HC9.out), (by rw [HCS.out, HWB.out]; exact HB9.out), Nat.le_refl _, HGF.out, HGL.out⟩
              · have HXr := Lib.hid (HX6.out.grown (gr_none HGx.out HGj.out) (by simp))
                have HDr := Lib.hid (HD6.out.grown (gr_none HGx.out HGj.out) (by simp))
                have HZr := Lib.hid (HZB.out.grown HGj.out (by simp))
                have HBr := Lib.hid (HB6.out.kept (gr_none HGx.out HGj.out) (fun g e => by cases e))
                have HCr := Lib.hid (HC6.out.kept (gr_none HGx.out HGj.out) (fun g e => by cases e))
                have HGr := Lib.hid (gr_none HG6.out (gr_none HGx.out HGj.out))
                have hBD : blkOf BA ≠ some D := HBr.out.1.blk_ne HDr.out (by decide)
                have hBZ : blkOf BA ≠ some wo.heap.size := HBr.out.1.blk_ne HZr.out (by decide)
                have HBD2 := Lib.hid hBD; have HBZ := Lib.hid hBZ; clear hBD hBZ
                go_wp2_with fail
                clear kz2 kz3 hT1 hT2
                have p1 : IntKind.i64.wrap (at_ + 1) = at_ + 1 := IntWalk.i64_in _ (by omega)
                have p2 : IntKind.i64.wrap (at_ + 1 + block) = at_ + 1 + block := IntWalk.i64_in _ (by omega)
                have zlo := HGr.out.size
                refine wp_region_B (fun w' => wr.grownBy w' (blkOf BA)) 22 (by kernel_rfl) ?_
                have hHeld : wr.grownBy wr.drew (blkOf BA) := gr_drew (gr_refl _ _)
                refine B_take (k := 0) false (v := ?_) (by rfl) (by kernel_rfl) (by exact fun _ _ _ h => h) (by rfl) ?_ (by first | exact .inr hHeld | exact .inl (by rfl)) ?_
                rotate_left 1
                · intro w hSw
                  clear hSw
                  go_simp
                  (try with_reducible rfl)
                (try simp only [Act.put, List.setIfInBounds_toArray, List.set_cons_zero, List.set_cons_succ])
                refine B_take (k := 1) false (v := ?_) (by rfl) (by kernel_rfl) (by exact fun _ _ _ h => h) (by rfl) ?_ (by first | exact .inr hHeld | exact .inl (by rfl)) ?_
                rotate_left 1
                · intro w hSw
                  clear hSw
                  go_simp
                  (try with_reducible rfl)
                (try simp only [Act.put, List.setIfInBounds_toArray, List.set_cons_zero, List.set_cons_succ])
                refine B_take (k := 2) false (v := ?_) (by rfl) (by kernel_rfl) (by exact fun _ _ _ h => h) (by rfl) ?_ (by first | exact .inr hHeld | exact .inl (by rfl)) ?_
                rotate_left 1
                · intro w hSw
                  clear hSw
                  go_simp
                  (try with_reducible rfl)
                (try simp only [Act.put, List.setIfInBounds_toArray, List.set_cons_zero, List.set_cons_succ])
                refine B_take (k := 3) false (v := ?_) (by rfl) (by kernel_rfl) (by exact fun _ _ _ h => h) (by rfl) ?_ (by first | exact .inr hHeld | exact .inl (by rfl)) ?_
                rotate_left 1
                · intro w hSw
                  clear hSw
                  go_simp
                  (try with_reducible rfl)
                (try simp only [Act.put, List.setIfInBounds_toArray, List.set_cons_zero, List.set_cons_succ])
                refine B_take (k := 4) true (v := ?_) (by rfl) (by kernel_rfl) (by exact fun _ _ _ h => h) (by rfl) ?_ (.inr hHeld) ?_
                rotate_left 1
                · intro w' hSw
                  have kc := (HXr.out.grown hSw (fun e => hNB.out e.symm)).cell 2
                  clear hSw
                  go_simp
                  (try with_reducible rfl)
                (try simp only [Act.put, List.setIfInBounds_toArray, List.set_cons_zero, List.set_cons_succ])
                refine B_take (k := 5) false (v := ?_) (by rfl) (by kernel_rfl) (by exact fun _ _ _ h => h) (by rfl) ?_ (by first | exact .inr hHeld | exact .inl (by rfl)) ?_
                rotate_left 1
                · intro w hSw
                  clear hSw
                  go_simp
                  (try with_reducible rfl)
                (try simp only [Act.put, List.setIfInBounds_toArray, List.set_cons_zero, List.set_cons_succ])
                refine B_take (k := 6) true (v := ?_) (by rfl) (by kernel_rfl) (by exact fun _ _ _ h => h) (by rfl) ?_ (.inr hHeld) ?_
                rotate_left 1
                · intro w' hSw
                  have kc := (HDr.out.grown hSw (fun e => HBD2.out e.symm)).cell 0
                  clear hSw
                  go_simp
                  (try with_reducible rfl)
                (try simp only [Act.put, List.setIfInBounds_toArray, List.set_cons_zero, List.set_cons_succ])
                refine B_take (k := 7) false (v := ?_) (by rfl) (by kernel_rfl) (by exact fun _ _ _ h => h) (by rfl) ?_ (by first | exact .inr hHeld | exact .inl (by rfl)) ?_
                rotate_left 1
                · intro w hSw
                  clear hSw
                  go_simp
                  (try with_reducible rfl)
                (try simp only [Act.put, List.setIfInBounds_toArray, List.set_cons_zero, List.set_cons_succ])
                refine B_take (k := 8) false (v := ?_) (by rfl) (by kernel_rfl) (by exact fun _ _ _ h => h) (by rfl) ?_ (by first | exact .inr hHeld | exact .inl (by rfl)) ?_
                rotate_left 1
                · intro w hSw
                  clear hSw
                  go_simp
                  (try with_reducible rfl)
                (try simp only [Act.put, List.setIfInBounds_toArray, List.set_cons_zero, List.set_cons_succ])
                refine B_take (k := 9) true (v := ?_) (by rfl) (by kernel_rfl) (by exact fun _ _ _ h => h) (by rfl) ?_ (.inr hHeld) ?_
                rotate_left 1
                · intro w' hSw
                  have kc := (HDr.out.grown hSw (fun e => HBD2.out e.symm)).cell 2
                  clear hSw
                  go_simp
                  (try with_reducible rfl)
                (try simp only [Act.put, List.setIfInBounds_toArray, List.set_cons_zero, List.set_cons_succ])
                refine B_take (k := 10) false (v := ?_) (by rfl) (by kernel_rfl) (by exact fun _ _ _ h => h) (by rfl) ?_ (by first | exact .inr hHeld | exact .inl (by rfl)) ?_
                rotate_left 1
                · intro w hSw
                  clear hSw
                  go_simp
                  (try with_reducible rfl)
                (try simp only [Act.put, List.setIfInBounds_toArray, List.set_cons_zero, List.set_cons_succ])
                refine B_take (k := 11) false (v := ?_) (by rfl) (by kernel_rfl) (by exact fun _ _ _ h => h) (by rfl) ?_ (by first | exact .inr hHeld | exact .inl (by rfl)) ?_
                rotate_left 1
                · intro w hSw
                  clear hSw
                  go_simp
                  (try with_reducible rfl)
                (try simp only [Act.put, List.setIfInBounds_toArray, List.set_cons_zero, List.set_cons_succ])
                refine B_take (k := 12) true (v := ?_) (by rfl) (by kernel_rfl) (by exact fun _ _ _ h => h) (by rfl) ?_ (.inr hHeld) ?_
                rotate_left 1
                · intro w' hSw
                  have kc := (HDr.out.grown hSw (fun e => HBD2.out e.symm)).cell 2
                  clear hSw
                  go_simp
                  (try with_reducible rfl)
                (try simp only [Act.put, List.setIfInBounds_toArray, List.set_cons_zero, List.set_cons_succ])
                refine B_take (k := 13) false (v := ?_) (by rfl) (by kernel_rfl) (by exact fun _ _ _ h => h) (by rfl) ?_ (by first | exact .inr hHeld | exact .inl (by rfl)) ?_
                rotate_left 1
                · intro w hSw
                  clear hSw
                  go_simp
                  (try with_reducible rfl)
                (try simp only [Act.put, List.setIfInBounds_toArray, List.set_cons_zero, List.set_cons_succ])
                refine B_take (k := 14) false (v := ?_) (by rfl) (by kernel_rfl) (by exact fun _ _ _ h => h) (by rfl) ?_ (by first | exact .inr hHeld | exact .inl (by rfl)) ?_
                rotate_left 1
                · intro w hSw
                  clear hSw
                  go_simp
                  (try with_reducible rfl)
                (try simp only [Act.put, List.setIfInBounds_toArray, List.set_cons_zero, List.set_cons_succ])
                refine B_take (k := 15) true (v := ?_) (by rfl) (by kernel_rfl) (by exact fun _ _ _ h => h) (by rfl) ?_ (.inr hHeld) ?_
                rotate_left 1
                · intro w' hSw
                  have kc := (HZr.out.grown hSw (fun e => HBZ.out e.symm)).cell 4
                  clear hSw
                  go_simp
                  (try with_reducible rfl)
                (try simp only [Act.put, List.setIfInBounds_toArray, List.set_cons_zero, List.set_cons_succ])
                refine B_take (k := 16) false (v := ?_) (by rfl) (by kernel_rfl) (by exact fun _ _ _ h => h) (by rfl) ?_ (by first | exact .inr hHeld | exact .inl (by rfl)) ?_
                rotate_left 1
                · intro w hSw
                  clear hSw
                  go_simp
                  (try with_reducible rfl)
                (try simp only [Act.put, List.setIfInBounds_toArray, List.set_cons_zero, List.set_cons_succ])
                refine B_take (k := 17) false (v := ?_) (by rfl) (by kernel_rfl) (by exact fun _ _ _ h => h) (by rfl) ?_ (by first | exact .inr hHeld | exact .inl (by rfl)) ?_
                rotate_left 1
                · intro w hSw
                  clear hSw
                  go_simp
                  (try with_reducible rfl)
                (try simp only [Act.put, List.setIfInBounds_toArray, List.set_cons_zero, List.set_cons_succ])
                refine B_run (k := 18) (by rfl) (by kernel_rfl) (by rfl) (fun K hK => ?_)
                go_simp
                refine hK _ _ (.inr (gr_alloc hHeld _)) ?_
                clear hK K
                refine B_run (k := 19) (by rfl) (by kernel_rfl) (by rfl) (fun K hK => ?_)
                refine wp_app _ _ _ Tryz.blsT rfl lo BA bn bc _ rfl (by exact HBr.out.1.drew.alloc _) _ _ 1 1 [.string pay, .int .i64 i, .int .i64 (at_ + 1), .int .i64 (at_ + 1 + block)] rfl (by exact Reads.one _ _ _ _ rfl) (by simp [Value.oneCell']) (by unfold maxLen; omega) (by omega) (by simp; omega) ?_
                intro BA1 bc1 w8 h8
                have hg8 : wr.grownBy w8 (blkOf BA) := gr_same (gr_alloc (gr_drew (gr_refl wr _)) _) h8.2.1
                refine hK _ _ (.inr hg8) ?_
                clear hK K hHeld
                have hHeld := hg8
                (try simp only [Act.put, List.setIfInBounds_toArray, List.set_cons_zero, List.set_cons_succ])
                have hHB8 : OwnR BlV.row 4 w8 lo 58 BA1 (bn + 1) bc1 (bl ++ [⟨pay, (i : Int), at_ + 1, at_ + 1 + block⟩]) := (HBr.out.kept (gr_alloc (gr_drew (gr_refl wr none)) _) (fun g e => by cases e)).app rfl h8
                have HX8 := Lib.hid (HXr.out.grown hg8 (fun e => hNB.out e.symm))
                have f2 := HX8.out.frozen 2
                have c2 := HX8.out.cell 2
                refine B_take (k := 20) false (v := ?_) (by rfl) (by kernel_rfl) (by exact fun _ _ _ h => h) (by rfl) ?_ (by first | exact .inr hHeld | exact .inl (by rfl)) ?_
                rotate_left 1
                · intro w hSw
                  clear hSw
                  go_simp
                  (try with_reducible rfl)
                (try simp only [Act.put, List.setIfInBounds_toArray, List.set_cons_zero, List.set_cons_succ])
                refine B_take (k := 21) false (v := ?_) (by rfl) (by kernel_rfl) (by exact fun _ _ _ h => h) (by rfl) ?_ (by first | exact .inr hHeld | exact .inl (by rfl)) ?_
                rotate_left 1
                · intro w hSw
                  clear hSw
                  go_simp
                  (try with_reducible rfl)
                (try simp only [Act.put, List.setIfInBounds_toArray, List.set_cons_zero, List.set_cons_succ])
                refine B_run (k := 22) (by rfl) (by kernel_rfl) (by rfl) (fun K hK => ?_)
                go_simp
                refine hK _ _ (.inl (by rfl)) ?_
                clear hK K hHeld f2 c2
                refine B_done (by kernel_rfl) ?_
                clear p1 p2
                obtain ⟨w9, hw9⟩ : ∃ w9, w8.setCell ⟨xb, 2, none⟩ (.slice BA1 (bn + 1) bc1) = w9 := ⟨_, rfl⟩
                rw [hw9]
                have hg89 : w8.grownBy w9 (some xb) := by rw [← hw9]; exact gr_setCell (gr_refl _ _) (.inl rfl) _
                have HX9 := Lib.hid (show Blk w9 xb 135 #[.slice _ wn wc, .slice CA1 (cn + 1) cc1, .slice BA1 (bn + 1) bc1] by rw [← hw9]; exact HX8.out.set_ 2 _)
                have hN1 : blkOf BA1 ≠ some xb := hHB8.1.blk_ne HX8.out (by decide)
                have hN2 : blkOf CA1 ≠ some xb := HCr.out.1.blk_ne HXr.out (by decide)
                have HB9 := Lib.hid (hHB8.kept hg89 (fun g e => by injection e with e; rw [← e]; exact hN1))
                have HC9 := Lib.hid ((HCr.out.kept hg8 (fun g e => Own.ne HBr.out.1 HCr.out.1 (by decide) e)).kept hg89 (fun g e => by injection e with e; rw [← e]; exact hN2))
                have hgf : w0.grownBy w9 none := gr_trans (gr_trans HGr.out hg8 (fun g e => .inr (by have := (HBr.out.1.lt e).1; omega))) hg89 (fun g e => .inr (by injection e with e; omega))
                have HGF := Lib.hid hgf
                have HGL := Lib.hid (show Grew w w9 xb CA BA by
                  obtain ⟨v1, g1, g2⟩ := HGW.out
                  exact ⟨v1, w6, w8, g1, g2, gr_same (gr_trans (gr_refl w6 (blkOf BA)) (gr_none HGx.out HGj.out) (fun g e => by cases e)) hg8, hg89⟩)
                have HWB := Lib.hid (wBlk_some (cs := cs1) (d := ⟨pay, dcl, at_, cost⟩) HA.out HZ.out HTR.out)
                clear hw9 hg89 hg8 h8 hHB8 hN1 hN2 hgf
                go_simp
                go_wp2_with fail
                go_end0
                exact ⟨CA1, BA1, cc1, bn + 1, bc1, rfl, HX9.out, (by rw [HCS.out]; exact HC9.out), (by rw [HCS.out, HWB.out]; exact HB9.out), Nat.le_refl _, HGF.out, HGL.out⟩
    · obtain rfl : i = wn := by omega
      have HLW := Lib.hid HW.out.1.len
      go_wp2_with fail
      go_end0
      have hgo : w6.grownBy wr none := HG.out
      refine ⟨CA1, BA, cc1, bn, bc, rfl, HX6.out.grown hgo (by simp), (by rw [HCS.out]; exact HC6.out.kept hgo (fun g e => by cases e)), ?_, by omega, gr_none HG6.out hgo, ?_⟩
      · rw [HCS.out, wBlk_none (by rw [HLW.out]; exact HA.out), List.append_nil]; exact HB6.out.kept hgo (fun g e => by cases e)
      · obtain ⟨w1, g1, g2⟩ := HGW.out
        exact ⟨w1, w6, w6, g1, g2, gr_refl _ _, gr_trans (gr_refl w6 (some xb)) hgo (fun g e => by cases e)⟩
end Go.Proofs.YtfakdalpaopjaaaGreatDoor

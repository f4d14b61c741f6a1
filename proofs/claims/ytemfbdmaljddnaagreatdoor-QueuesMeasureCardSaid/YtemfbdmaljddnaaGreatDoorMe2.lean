/- Contracts of Most and MostOf. Conditions: callers and seats as they lie in memory. -/
import Derived.Test.YtemfbdmaljddnaaGreatDoorMe1
namespace Go.Proofs.YtemfbdmaljddnaaGreatDoor
open Go.RowKit

def mostV (C : List CaV) (l : List SeV) : Value := if chkE C l = 0 then twoV (mstN C l C.length) 0 else twoV 0 (chkE C l)
section
variable (lo1 lo2 : Nat) (cA : Option Addr) (n cc : Nat) (C : List CaV) (A : Option Addr) (m c0 : Nat) (l : List SeV) (w : World)
set_option maxHeartbeats 16000000 in
set_option maxRecDepth 100000 in
theorem Most_any (hC : Cas w lo1 cA n cc C) (hS : Ses w lo2 A m c0 l) (hn : n ≤ 1000000000) (hm : m ≤ 1000000000) :
    Calls Tryz.prog 14 #[.slice cA n cc, .slice A m c0] w (RetV (mostV C l) w) := by
  have hlc := hC.1.len; have hls := hS.1.len
  have HC := Lib.hid hC; have HS := Lib.hid hS
  obtain ⟨E, hE⟩ : ∃ E, chkE C l = E := ⟨_, rfl⟩
  have HE := Lib.hid hE
  clear hC hS hE
  go_enter Tryz.func14, Tryz.ntmps14
  go_wp2_with fail
  refine (checkSeats_any lo1 lo2 cA n cc C A m c0 l _ HC.out HS.out hn hm).mono ?_
  rintro e w2 ⟨rfl, hg2⟩
  rw [HE.out]
  have HG := Lib.hid hg2
  clear hg2
  by_cases hz : E = 0
  · have dz : (E != 0) = false := by simpa using hz
    have he0 := HE.out.trans hz
    obtain ⟨h1, h2, h3, h4⟩ := chkE_num he0
    obtain rfl : m = n := by rw [← hls, ← hlc]; exact h3
    have HV := Lib.hid (show mostV C l = twoV (mstN C l m) 0 by unfold mostV; rw [if_pos he0, hlc])
    clear hz h1 h2 h3 h4 he0
    go_wp2_with fail
    go_loopw [7, 9, 10, 11, 12, 21] (fun v7 _ _ _ _ t' wr => ∃ k b : Nat, k ≤ m ∧ t' = .int .i64 k ∧ v7 = .int .i64 b ∧ mstN C l k = b ∧ b ≤ m ∧ w.grownBy wr none) (fun _ _ _ _ _ t' _ => m - (intOf t').toNat)
    case atStart => exact ⟨0, 0, Nat.zero_le _, rfl, rfl, rfl, Nat.zero_le _, HG.out⟩
    case round =>
      obtain ⟨k, b, hk, rfl, rfl, hbb, hb1, hg⟩ := hrel
      have HG2 := Lib.hid hg; have HBB := Lib.hid hbb
      clear hg hbb
      by_cases hlt : k < m
      · obtain ⟨cg, co, c, rfl, _, _, hc2, hcc⟩ := (HC.out.1.grown HG2.out (fun g e => by cases e)).get CaV.row_len hlt
        have hlt2 : (k : Int) < (m : Int) := by omega
        have HCC := Lib.hid hcc
        have HMS := Lib.hid (mstN_succ (l := l) hc2)
        obtain ⟨wa, hwa⟩ : ∃ wa, wr.alloc (.cells #[.string c.id, .string c.skill, .int .i64 c.at_, .int .i64 c.least, .int .i64 c.prio, .int .i64 c.pat, .int .i64 c.talk, .bool c.back] 77) = wa := ⟨_, rfl⟩
        obtain ⟨cb, hcb⟩ : ∃ zb, wr.heap.size = zb := ⟨_, rfl⟩
        have HB := Lib.hid (show Blk wa cb 77 #[.string c.id, .string c.skill, .int .i64 c.at_, .int .i64 c.least, .int .i64 c.prio, .int .i64 c.pat, .int .i64 c.talk, .bool c.back] by rw [← hwa, ← hcb]; exact Blk.new _ _ _)
        have HGa := Lib.hid (show wr.grownBy wa none by rw [← hwa]; exact gr_alloc (gr_refl _ _) _)
        have HWA := Lib.hid hwa; have HZB := Lib.hid hcb
        have hlcb := HB.out.lt
        clear hwa hcb hc2 hcc
        go_upto_region 8 with (first
          | (refine wpl_load_at Tryz.caT rfl _ rfl _ rfl [.string c.id, .string c.skill, .int .i64 c.at_, .int .i64 c.least, .int .i64 c.prio, .int .i64 c.pat, .int .i64 c.talk, .bool c.back] rfl (fun j u hu => by rw [add_mk]; exact HCC.out j u hu) ?_)
          | fail)
        rw [HWA.out]
        (try rw [HZB.out])
        replace HG2 := Lib.hid (gr_none HG2.out HGa.out)
        clear HWA HZB HCC HGa
        go_wp2_with fail
        go_loopw [10, 11, 12, 27] (fun v10 _ _ t' wr' => ∃ j p : Nat, j ≤ m ∧ t' = .int .i64 j ∧ v10 = .int .i64 p ∧ wtN c.at_ C l j = p ∧ p ≤ j ∧ wa.grownBy wr' none) (fun _ _ _ t' _ => m - (intOf t').toNat)
        case atStart => exact ⟨0, 0, Nat.zero_le _, rfl, rfl, rfl, Nat.zero_le _, gr_refl _ _⟩
        case round =>
          obtain ⟨wo, rfl⟩ : ∃ wo : World, wo = wr := ⟨_, rfl⟩
          obtain ⟨j, p, hj, rfl, rfl, hpp, hp1, hgo⟩ := hrel
          have HGO := Lib.hid hgo; have HPP := Lib.hid hpp
          have zo := hgo.size
          clear hgo hpp
          by_cases hlj : j < m
          · have HGW := Lib.hid (gr_none HG2.out HGO.out)
            obtain ⟨sg, sof, z, rfl, _, _, hz2, hzc⟩ := (HS.out.1.grown HGW.out (fun g e => by cases e)).get SeV.row_len hlj
            obtain ⟨dg, dof, d, hdg, _, _, hd2, hdc⟩ := (HC.out.1.grown HGW.out (fun g e => by cases e)).get CaV.row_len (show j < m by omega)
            obtain ⟨rfl, rfl⟩ : cg = dg ∧ co = dof := by simpa using hdg
            clear hdg
            have hlj2 : (j : Int) < (m : Int) := by omega
            have HZC := Lib.hid hzc; have HD2 := Lib.hid hd2
            have HWT := Lib.hid (wtN_succ (x := c.at_) hz2 hd2)
            obtain ⟨wb, hwb⟩ : ∃ wa, wo.alloc (.cells #[.string z.ca, .string z.ag, .int .i64 z.how, .int .i64 z.beg, .int .i64 z.fin] 68) = wa := ⟨_, rfl⟩
            obtain ⟨zb, hzb⟩ : ∃ zb, wo.heap.size = zb := ⟨_, rfl⟩
            have HBZ := Lib.hid (show Blk wb zb 68 #[.string z.ca, .string z.ag, .int .i64 z.how, .int .i64 z.beg, .int .i64 z.fin] by rw [← hwb, ← hzb]; exact Blk.new _ _ _)
            have HGb := Lib.hid (show wo.grownBy wb none by rw [← hwb]; exact gr_alloc (gr_refl _ _) _)
            have HWB := Lib.hid hwb; have HZB := Lib.hid hzb
            obtain ⟨en, hen⟩ : ∃ en, enV z = en := ⟨_, rfl⟩
            have HEN := Lib.hid hen
            obtain ⟨D1, hD1⟩ : ∃ D, decide (d.at_ ≤ c.at_) = D := ⟨_, rfl⟩
            obtain ⟨D2, hD2⟩ : ∃ D, decide (c.at_ < en) = D := ⟨_, rfl⟩
            have HWB2 := Lib.hid (show wtB c.at_ d z = (D1 && D2) by unfold wtB; rw [hen, hD1, hD2])
            have q3 : IntKind.i64.wrap ((p : Int) + 1) = (p : Int) + 1 := IntWalk.i64_in _ (by omega)
            clear hwb hzb hz2 hd2 hzc hdc hen
            go_upto_region 12 with (first
              | (refine wpl_load_at Tryz.seT rfl _ rfl _ rfl [.string z.ca, .string z.ag, .int .i64 z.how, .int .i64 z.beg, .int .i64 z.fin] rfl (fun j u hu => by rw [add_mk]; exact HZC.out j u hu) ?_)
              | fail)
            rw [HWB.out]
            (try rw [HZB.out])
            replace HGO := Lib.hid (gr_none HGO.out HGb.out)
            replace HGW := Lib.hid (gr_none HG2.out HGO.out)
            have HBC := Lib.hid (HB.out.grown HGO.out (by simp))
            clear HWB HZB HZC HGb
            refine H_begin (fun w' => wb.grownBy w' none) (by kernel_rfl) ?_
            have hHeld : wb.grownBy wb.drew none := gr_drew (gr_refl _ _)
            refine H_take (k := 0) (v := ?_) (by rfl) (by kernel_rfl) (by kernel_rfl) (by kernel_rfl) (by exact fun _ _ _ h => h) (by rfl) ?_ (by assumption) ?_
            rotate_left 1
            · intro w hSw
              (try dsimp only at hSw)
              go_simp
              (try with_reducible rfl)
            (try simp only [Act.put, List.setIfInBounds_toArray, List.set_cons_zero, List.set_cons_succ])
            refine H_take (k := 1) (v := ?_) (by rfl) (by kernel_rfl) (by kernel_rfl) (by kernel_rfl) (by exact fun _ _ _ h => h) (by rfl) ?_ (by assumption) ?_
            rotate_left 1
            · intro w hSw
              (try dsimp only at hSw)
              go_simp
              (try with_reducible rfl)
            (try simp only [Act.put, List.setIfInBounds_toArray, List.set_cons_zero, List.set_cons_succ])
            refine H_take (k := 2) (v := ?_) (by rfl) (by kernel_rfl) (by kernel_rfl) (by kernel_rfl) (by exact fun _ _ _ h => h) (by rfl) ?_ (by assumption) ?_
            rotate_left 1
            · intro w hSw
              (try dsimp only at hSw)
              go_simp
              (try with_reducible rfl)
            (try simp only [Act.put, List.setIfInBounds_toArray, List.set_cons_zero, List.set_cons_succ])
            refine H_take (k := 3) (v := ?_) (by rfl) (by kernel_rfl) (by kernel_rfl) (by kernel_rfl) (by exact fun _ _ _ h => h) (by rfl) ?_ (by assumption) ?_
            rotate_left 1
            · intro w hSw
              (try dsimp only at hSw)
              go_simp
              (try with_reducible rfl)
            (try simp only [Act.put, List.setIfInBounds_toArray, List.set_cons_zero, List.set_cons_succ])
            refine H_take (k := 4) (v := ?_) (by rfl) (by kernel_rfl) (by kernel_rfl) (by kernel_rfl) (by exact fun _ _ _ h => h) (by rfl) ?_ (by assumption) ?_
            rotate_left 1
            · intro w' hSw
              have kc := ((HC.out.1.grown HGW.out (fun g e => by cases e)).grown hSw (fun g e => by cases e)).at_ CaV.row_len HD2.out 2 _ rfl
              go_simp
              (try with_reducible rfl)
            (try simp only [Act.put, List.setIfInBounds_toArray, List.set_cons_zero, List.set_cons_succ])
            refine H_take (k := 5) (v := ?_) (by rfl) (by kernel_rfl) (by kernel_rfl) (by kernel_rfl) (by exact fun _ _ _ h => h) (by rfl) ?_ (by assumption) ?_
            rotate_left 1
            · intro w hSw
              (try dsimp only at hSw)
              go_simp
              (try with_reducible rfl)
            (try simp only [Act.put, List.setIfInBounds_toArray, List.set_cons_zero, List.set_cons_succ])
            refine H_take (k := 6) (v := ?_) (by rfl) (by kernel_rfl) (by kernel_rfl) (by kernel_rfl) (by exact fun _ _ _ h => h) (by rfl) ?_ (by assumption) ?_
            rotate_left 1
            · intro w' hSw
              have kc := (HBC.out.grown hSw (by simp)).cell 2
              go_simp
              (try with_reducible rfl)
            (try simp only [Act.put, List.setIfInBounds_toArray, List.set_cons_zero, List.set_cons_succ])
            refine H_take (k := 7) (v := ?_) (by rfl) (by kernel_rfl) (by kernel_rfl) (by kernel_rfl) (by exact fun _ _ _ h => h) (by rfl) ?_ (by assumption) ?_
            rotate_left 1
            · intro w hSw
              (try dsimp only at hSw)
              go_simp
              (try with_reducible rfl)
            (try simp only [Act.put, List.setIfInBounds_toArray, List.set_cons_zero, List.set_cons_succ])
            refine H_take (k := 8) (v := ?_) (by rfl) (by kernel_rfl) (by kernel_rfl) (by kernel_rfl) (by exact fun _ _ _ h => h) (by rfl) ?_ (by assumption) ?_
            rotate_left 1
            · intro w hSw
              (try dsimp only at hSw)
              go_simp
              (try with_reducible rfl)
            (try simp only [Act.put, List.setIfInBounds_toArray, List.set_cons_zero, List.set_cons_succ])
            cases D1
            · refine H_skip (k := 9) (by rfl) (by kernel_rfl) (by kernel_rfl) (by kernel_rfl) (by exact fun _ _ _ h => h) (by rfl) (by assumption) ?_
              (try simp only [Act.put, List.setIfInBounds_toArray, List.set_cons_zero, List.set_cons_succ])
              refine H_skip (k := 10) (by rfl) (by kernel_rfl) (by kernel_rfl) (by kernel_rfl) (by exact fun _ _ _ h => h) (by rfl) (by assumption) ?_
              (try simp only [Act.put, List.setIfInBounds_toArray, List.set_cons_zero, List.set_cons_succ])
              refine H_skip (k := 11) (by rfl) (by kernel_rfl) (by kernel_rfl) (by kernel_rfl) (by exact fun _ _ _ h => h) (by rfl) (by assumption) ?_
              (try simp only [Act.put, List.setIfInBounds_toArray, List.set_cons_zero, List.set_cons_succ])
              refine H_skip (k := 12) (by rfl) (by kernel_rfl) (by kernel_rfl) (by kernel_rfl) (by exact fun _ _ _ h => h) (by rfl) (by assumption) ?_
              (try simp only [Act.put, List.setIfInBounds_toArray, List.set_cons_zero, List.set_cons_succ])
              refine H_skip (k := 13) (by rfl) (by kernel_rfl) (by kernel_rfl) (by kernel_rfl) (by exact fun _ _ _ h => h) (by rfl) (by assumption) ?_
              (try simp only [Act.put, List.setIfInBounds_toArray, List.set_cons_zero, List.set_cons_succ])
              refine H_take (k := 14) (v := ?_) (by rfl) (by kernel_rfl) (by kernel_rfl) (by kernel_rfl) (by exact fun _ _ _ h => h) (by rfl) ?_ (by assumption) ?_
              rotate_left 1
              · intro w hSw
                (try dsimp only at hSw)
                go_simp
                (try with_reducible rfl)
              (try simp only [Act.put, List.setIfInBounds_toArray, List.set_cons_zero, List.set_cons_succ])
              refine H_done (by kernel_rfl) ?_
              replace HGO := Lib.hid (gr_none HGO.out hHeld)
              clear hHeld
              have HN := Lib.hid (show wtN c.at_ C l (j + 1) = p by rw [HWT.out, HWB2.out, HPP.out]; rfl)
              go_wp2_with fail
              go_roundw
              case rel => exact ⟨j + 1, p, by omega, by go_num, rfl, HN.out, by omega, HGO.out⟩
              case measure => simp [intOf]; omega
            · refine H_take (k := 9) (v := ?_) (by rfl) (by kernel_rfl) (by kernel_rfl) (by kernel_rfl) (by exact fun _ _ _ h => h) (by rfl) ?_ (by assumption) ?_
              rotate_left 1
              · intro w hSw
                (try dsimp only at hSw)
                go_simp
                (try with_reducible rfl)
              (try simp only [Act.put, List.setIfInBounds_toArray, List.set_cons_zero, List.set_cons_succ])
              refine H_take (k := 10) (v := ?_) (by rfl) (by kernel_rfl) (by kernel_rfl) (by kernel_rfl) (by exact fun _ _ _ h => h) (by rfl) ?_ (by assumption) ?_
              rotate_left 1
              · intro w' hSw
                have kc := (HBC.out.grown hSw (by simp)).cell 2
                go_simp
                (try with_reducible rfl)
              (try simp only [Act.put, List.setIfInBounds_toArray, List.set_cons_zero, List.set_cons_succ])
              refine H_take (k := 11) (v := .agg #[.string z.ca, .string z.ag, .int .i64 z.how, .int .i64 z.beg, .int .i64 z.fin]) (by rfl) (by kernel_rfl) (by kernel_rfl) (by kernel_rfl) (by exact fun _ _ _ h => h) (by rfl) (fun w' hSw => exec_ldb Tryz.seT _ rfl _ rfl 68 [.string z.ca, .string z.ag, .int .i64 z.how, .int .i64 z.beg, .int .i64 z.fin] (HBZ.out.grown hSw (by simp)) rfl) (by assumption) ?_
              (try simp only [Act.put, List.setIfInBounds_toArray, List.set_cons_zero, List.set_cons_succ])
              refine H_run (k := 12) (by rfl) (by kernel_rfl) (by rfl) (fun K hK => ?_)
              go_simp
              refine (end_any z _).mono ?_
              rintro e w6 ⟨rfl, hg6⟩
              rw [HEN.out]
              have hgz : wb.grownBy w6 none := gr_none hHeld hg6
              refine hK _ _ hgz ?_
              clear hK K hHeld hg6
              have hHeld := hgz
              (try simp only [Act.put, List.setIfInBounds_toArray, List.set_cons_zero, List.set_cons_succ])
              refine H_take (k := 13) (v := ?_) (by rfl) (by kernel_rfl) (by kernel_rfl) (by kernel_rfl) (by exact fun _ _ _ h => h) (by rfl) ?_ (by assumption) ?_
              rotate_left 1
              · intro w hSw
                (try dsimp only at hSw)
                go_simp
                (try with_reducible rfl)
              (try simp only [Act.put, List.setIfInBounds_toArray, List.set_cons_zero, List.set_cons_succ])
              refine H_take (k := 14) (v := ?_) (by rfl) (by kernel_rfl) (by kernel_rfl) (by kernel_rfl) (by exact fun _ _ _ h => h) (by rfl) ?_ (by assumption) ?_
              rotate_left 1
              · intro w hSw
                (try dsimp only at hSw)
                go_simp
                (try with_reducible rfl)
              (try simp only [Act.put, List.setIfInBounds_toArray, List.set_cons_zero, List.set_cons_succ])
              refine H_done (by kernel_rfl) ?_
              replace HGO := Lib.hid (gr_none HGO.out hHeld)
              clear hHeld hgz
              cases D2
              · have HN := Lib.hid (show wtN c.at_ C l (j + 1) = p by rw [HWT.out, HWB2.out, HPP.out]; rfl)
                go_wp2_with fail
                go_roundw
                case rel => exact ⟨j + 1, p, by omega, by go_num, rfl, HN.out, by omega, HGO.out⟩
                case measure => simp [intOf]; omega
              · have HN := Lib.hid (show wtN c.at_ C l (j + 1) = p + 1 by rw [HWT.out, HWB2.out, HPP.out]; rfl)
                go_wp2_with fail
                go_roundw
                case rel => exact ⟨j + 1, p + 1, by omega, by go_num, by go_num, HN.out, by omega, HGO.out⟩
                case measure => simp [intOf]; omega
          · obtain rfl : j = m := by omega
            have HN := Lib.hid (show mstN C l (k + 1) = max b p by rw [HMS.out, HBB.out, hls, HPP.out])
            have HMX := Lib.hid (show max (b : Int) (p : Int) = ((max b p : Nat) : Int) by omega)
            have hmb : max b p ≤ j := by omega
            go_wp2_with fail
            go_roundw
            case rel => exact ⟨k + 1, max b p, by omega, by go_num, by rw [HMX.out], HN.out, hmb, gr_none HG2.out HGO.out⟩
            case measure => simp [intOf]; omega
      · obtain rfl : k = m := by omega
        go_wp2_with fail
        go_ret2
        exact ⟨by rw [HV.out, HBB.out]; try rfl, HG2.out⟩
  · have dz : (E != 0) = true := by simpa using hz
    have HV := Lib.hid (show mostV C l = twoV 0 E by unfold mostV; rw [if_neg (by rw [HE.out]; exact hz), HE.out])
    clear hz
    go_wp2_with fail
    go_ret2
    exact ⟨by rw [HV.out]; try rfl, HG.out⟩
set_option maxHeartbeats 16000000 in
set_option maxRecDepth 100000 in
theorem mostOf_any (hC : Cas w lo1 cA n cc C) (hS : Ses w lo2 A n c0 l) (hn : n ≤ 1000000000) :
    Calls Tryz.prog 20 #[.slice cA n cc, .slice A n c0] w (RetV (.int .i64 (mstN C l n)) w) := by
  have hls := hS.1.len
  have HC := Lib.hid hC; have HS := Lib.hid hS
  clear hC hS
  go_enter Tryz.func20, Tryz.ntmps20
  go_wp2_with fail
  go_loopw [5, 7, 8, 9, 10, 13] (fun v7 _ _ _ _ t' wr => ∃ k b : Nat, k ≤ n ∧ t' = .int .i64 k ∧ v7 = .int .i64 b ∧ mstN C l k = b ∧ b ≤ n ∧ w.grownBy wr none) (fun _ _ _ _ _ t' _ => n - (intOf t').toNat)
  case atStart => exact ⟨0, 0, Nat.zero_le _, rfl, rfl, rfl, Nat.zero_le _, gr_refl _ _⟩
  case round =>
    obtain ⟨k, b, hk, rfl, rfl, hbb, hb1, hg⟩ := hrel
    have HG2 := Lib.hid hg; have HBB := Lib.hid hbb
    clear hg hbb
    by_cases hlt : k < n
    · obtain ⟨cg, co, c, rfl, _, _, hc2, hcc⟩ := (HC.out.1.grown HG2.out (fun g e => by cases e)).get CaV.row_len hlt
      have hlt2 : (k : Int) < (n : Int) := by omega
      have HCC := Lib.hid hcc
      have HMS := Lib.hid (mstN_succ (l := l) hc2)
      obtain ⟨wa, hwa⟩ : ∃ wa, wr.alloc (.cells #[.string c.id, .string c.skill, .int .i64 c.at_, .int .i64 c.least, .int .i64 c.prio, .int .i64 c.pat, .int .i64 c.talk, .bool c.back] 77) = wa := ⟨_, rfl⟩
      obtain ⟨cb, hcb⟩ : ∃ zb, wr.heap.size = zb := ⟨_, rfl⟩
      have HB := Lib.hid (show Blk wa cb 77 #[.string c.id, .string c.skill, .int .i64 c.at_, .int .i64 c.least, .int .i64 c.prio, .int .i64 c.pat, .int .i64 c.talk, .bool c.back] by rw [← hwa, ← hcb]; exact Blk.new _ _ _)
      have HGa := Lib.hid (show wr.grownBy wa none by rw [← hwa]; exact gr_alloc (gr_refl _ _) _)
      have HWA := Lib.hid hwa; have HZB := Lib.hid hcb
      have hlcb := HB.out.lt
      clear hwa hcb hc2 hcc
      go_upto_region 5 with (first
        | (refine wpl_load_at Tryz.caT rfl _ rfl _ rfl [.string c.id, .string c.skill, .int .i64 c.at_, .int .i64 c.least, .int .i64 c.prio, .int .i64 c.pat, .int .i64 c.talk, .bool c.back] rfl (fun j u hu => by rw [add_mk]; exact HCC.out j u hu) ?_)
        | fail)
      rw [HWA.out]
      (try rw [HZB.out])
      replace HG2 := Lib.hid (gr_none HG2.out HGa.out)
      clear HWA HZB HCC HGa
      go_wp2_with fail
      go_loopw [8, 9, 10, 19] (fun v10 _ _ t' wr' => ∃ j p : Nat, j ≤ n ∧ t' = .int .i64 j ∧ v10 = .int .i64 p ∧ wtN c.at_ C l j = p ∧ p ≤ j ∧ wa.grownBy wr' none) (fun _ _ _ t' _ => n - (intOf t').toNat)
      case atStart => exact ⟨0, 0, Nat.zero_le _, rfl, rfl, rfl, Nat.zero_le _, gr_refl _ _⟩
      case round =>
        obtain ⟨wo, rfl⟩ : ∃ wo : World, wo = wr := ⟨_, rfl⟩
        obtain ⟨j, p, hj, rfl, rfl, hpp, hp1, hgo⟩ := hrel
        have HGO := Lib.hid hgo; have HPP := Lib.hid hpp
        have zo := hgo.size
        clear hgo hpp
        by_cases hlj : j < n
        · have HGW := Lib.hid (gr_none HG2.out HGO.out)
          obtain ⟨sg, sof, z, rfl, _, _, hz2, hzc⟩ := (HS.out.1.grown HGW.out (fun g e => by cases e)).get SeV.row_len hlj
          obtain ⟨dg, dof, d, hdg, _, _, hd2, hdc⟩ := (HC.out.1.grown HGW.out (fun g e => by cases e)).get CaV.row_len (show j < n by omega)
          obtain ⟨rfl, rfl⟩ : cg = dg ∧ co = dof := by simpa using hdg
          clear hdg
          have hlj2 : (j : Int) < (n : Int) := by omega
          have HZC := Lib.hid hzc; have HD2 := Lib.hid hd2
          have HWT := Lib.hid (wtN_succ (x := c.at_) hz2 hd2)
          obtain ⟨wb, hwb⟩ : ∃ wa, wo.alloc (.cells #[.string z.ca, .string z.ag, .int .i64 z.how, .int .i64 z.beg, .int .i64 z.fin] 68) = wa := ⟨_, rfl⟩
          obtain ⟨zb, hzb⟩ : ∃ zb, wo.heap.size = zb := ⟨_, rfl⟩
          have HBZ := Lib.hid (show Blk wb zb 68 #[.string z.ca, .string z.ag, .int .i64 z.how, .int .i64 z.beg, .int .i64 z.fin] by rw [← hwb, ← hzb]; exact Blk.new _ _ _)
          have HGb := Lib.hid (show wo.grownBy wb none by rw [← hwb]; exact gr_alloc (gr_refl _ _) _)
          have HWB := Lib.hid hwb; have HZB := Lib.hid hzb
          obtain ⟨en, hen⟩ : ∃ en, enV z = en := ⟨_, rfl⟩
          have HEN := Lib.hid hen
          obtain ⟨D1, hD1⟩ : ∃ D, decide (d.at_ ≤ c.at_) = D := ⟨_, rfl⟩
          obtain ⟨D2, hD2⟩ : ∃ D, decide (c.at_ < en) = D := ⟨_, rfl⟩
          have HWB2 := Lib.hid (show wtB c.at_ d z = (D1 && D2) by unfold wtB; rw [hen, hD1, hD2])
          have q3 : IntKind.i64.wrap ((p : Int) + 1) = (p : Int) + 1 := IntWalk.i64_in _ (by omega)
          clear hwb hzb hz2 hd2 hzc hdc hen
          go_upto_region 9 with (first
            | (refine wpl_load_at Tryz.seT rfl _ rfl _ rfl [.string z.ca, .string z.ag, .int .i64 z.how, .int .i64 z.beg, .int .i64 z.fin] rfl (fun j u hu => by rw [add_mk]; exact HZC.out j u hu) ?_)
            | fail)
          rw [HWB.out]
          (try rw [HZB.out])
          replace HGO := Lib.hid (gr_none HGO.out HGb.out)
          replace HGW := Lib.hid (gr_none HG2.out HGO.out)
          have HBC := Lib.hid (HB.out.grown HGO.out (by simp))
          clear HWB HZB HZC HGb
          refine H_begin (fun w' => wb.grownBy w' none) (by kernel_rfl) ?_
          have hHeld : wb.grownBy wb.drew none := gr_drew (gr_refl _ _)
          refine H_take (k := 0) (v := ?_) (by rfl) (by kernel_rfl) (by kernel_rfl) (by kernel_rfl) (by exact fun _ _ _ h => h) (by rfl) ?_ (by assumption) ?_
          rotate_left 1
          · intro w hSw
            (try dsimp only at hSw)
            go_simp
            (try with_reducible rfl)
          (try simp only [Act.put, List.setIfInBounds_toArray, List.set_cons_zero, List.set_cons_succ])
          refine H_take (k := 1) (v := ?_) (by rfl) (by kernel_rfl) (by kernel_rfl) (by kernel_rfl) (by exact fun _ _ _ h => h) (by rfl) ?_ (by assumption) ?_
          rotate_left 1
          · intro w hSw
            (try dsimp only at hSw)
            go_simp
            (try with_reducible rfl)
          (try simp only [Act.put, List.setIfInBounds_toArray, List.set_cons_zero, List.set_cons_succ])
          refine H_take (k := 2) (v := ?_) (by rfl) (by kernel_rfl) (by kernel_rfl) (by kernel_rfl) (by exact fun _ _ _ h => h) (by rfl) ?_ (by assumption) ?_
          rotate_left 1
          · intro w hSw
            (try dsimp only at hSw)
            go_simp
            (try with_reducible rfl)
          (try simp only [Act.put, List.setIfInBounds_toArray, List.set_cons_zero, List.set_cons_succ])
          refine H_take (k := 3) (v := ?_) (by rfl) (by kernel_rfl) (by kernel_rfl) (by kernel_rfl) (by exact fun _ _ _ h => h) (by rfl) ?_ (by assumption) ?_
          rotate_left 1
          · intro w hSw
            (try dsimp only at hSw)
            go_simp
            (try with_reducible rfl)
          (try simp only [Act.put, List.setIfInBounds_toArray, List.set_cons_zero, List.set_cons_succ])
          refine H_take (k := 4) (v := ?_) (by rfl) (by kernel_rfl) (by kernel_rfl) (by kernel_rfl) (by exact fun _ _ _ h => h) (by rfl) ?_ (by assumption) ?_
          rotate_left 1
          · intro w' hSw
            have kc := ((HC.out.1.grown HGW.out (fun g e => by cases e)).grown hSw (fun g e => by cases e)).at_ CaV.row_len HD2.out 2 _ rfl
            go_simp
            (try with_reducible rfl)
          (try simp only [Act.put, List.setIfInBounds_toArray, List.set_cons_zero, List.set_cons_succ])
          refine H_take (k := 5) (v := ?_) (by rfl) (by kernel_rfl) (by kernel_rfl) (by kernel_rfl) (by exact fun _ _ _ h => h) (by rfl) ?_ (by assumption) ?_
          rotate_left 1
          · intro w hSw
            (try dsimp only at hSw)
            go_simp
            (try with_reducible rfl)
          (try simp only [Act.put, List.setIfInBounds_toArray, List.set_cons_zero, List.set_cons_succ])
          refine H_take (k := 6) (v := ?_) (by rfl) (by kernel_rfl) (by kernel_rfl) (by kernel_rfl) (by exact fun _ _ _ h => h) (by rfl) ?_ (by assumption) ?_
          rotate_left 1
          · intro w' hSw
            have kc := (HBC.out.grown hSw (by simp)).cell 2
            go_simp
            (try with_reducible rfl)
          (try simp only [Act.put, List.setIfInBounds_toArray, List.set_cons_zero, List.set_cons_succ])
          refine H_take (k := 7) (v := ?_) (by rfl) (by kernel_rfl) (by kernel_rfl) (by kernel_rfl) (by exact fun _ _ _ h => h) (by rfl) ?_ (by assumption) ?_
          rotate_left 1
          · intro w hSw
            (try dsimp only at hSw)
            go_simp
            (try with_reducible rfl)
          (try simp only [Act.put, List.setIfInBounds_toArray, List.set_cons_zero, List.set_cons_succ])
          refine H_take (k := 8) (v := ?_) (by rfl) (by kernel_rfl) (by kernel_rfl) (by kernel_rfl) (by exact fun _ _ _ h => h) (by rfl) ?_ (by assumption) ?_
          rotate_left 1
          · intro w hSw
            (try dsimp only at hSw)
            go_simp
            (try with_reducible rfl)
          (try simp only [Act.put, List.setIfInBounds_toArray, List.set_cons_zero, List.set_cons_succ])
          cases D1
          · refine H_skip (k := 9) (by rfl) (by kernel_rfl) (by kernel_rfl) (by kernel_rfl) (by exact fun _ _ _ h => h) (by rfl) (by assumption) ?_
            (try simp only [Act.put, List.setIfInBounds_toArray, List.set_cons_zero, List.set_cons_succ])
            refine H_skip (k := 10) (by rfl) (by kernel_rfl) (by kernel_rfl) (by kernel_rfl) (by exact fun _ _ _ h => h) (by rfl) (by assumption) ?_
            (try simp only [Act.put, List.setIfInBounds_toArray, List.set_cons_zero, List.set_cons_succ])
            refine H_skip (k := 11) (by rfl) (by kernel_rfl) (by kernel_rfl) (by kernel_rfl) (by exact fun _ _ _ h => h) (by rfl) (by assumption) ?_
            (try simp only [Act.put, List.setIfInBounds_toArray, List.set_cons_zero, List.set_cons_succ])
            refine H_skip (k := 12) (by rfl) (by kernel_rfl) (by kernel_rfl) (by kernel_rfl) (by exact fun _ _ _ h => h) (by rfl) (by assumption) ?_
            (try simp only [Act.put, List.setIfInBounds_toArray, List.set_cons_zero, List.set_cons_succ])
            refine H_skip (k := 13) (by rfl) (by kernel_rfl) (by kernel_rfl) (by kernel_rfl) (by exact fun _ _ _ h => h) (by rfl) (by assumption) ?_
            (try simp only [Act.put, List.setIfInBounds_toArray, List.set_cons_zero, List.set_cons_succ])
            refine H_take (k := 14) (v := ?_) (by rfl) (by kernel_rfl) (by kernel_rfl) (by kernel_rfl) (by exact fun _ _ _ h => h) (by rfl) ?_ (by assumption) ?_
            rotate_left 1
            · intro w hSw
              (try dsimp only at hSw)
              go_simp
              (try with_reducible rfl)
            (try simp only [Act.put, List.setIfInBounds_toArray, List.set_cons_zero, List.set_cons_succ])
            refine H_done (by kernel_rfl) ?_
            replace HGO := Lib.hid (gr_none HGO.out hHeld)
            clear hHeld
            have HN := Lib.hid (show wtN c.at_ C l (j + 1) = p by rw [HWT.out, HWB2.out, HPP.out]; rfl)
            go_wp2_with fail
            go_roundw
            case rel => exact ⟨j + 1, p, by omega, by go_num, rfl, HN.out, by omega, HGO.out⟩
            case measure => simp [intOf]; omega
          · refine H_take (k := 9) (v := ?_) (by rfl) (by kernel_rfl) (by kernel_rfl) (by kernel_rfl) (by exact fun _ _ _ h => h) (by rfl) ?_ (by assumption) ?_
            rotate_left 1
            · intro w hSw
              (try dsimp only at hSw)
              go_simp
              (try with_reducible rfl)
            (try simp only [Act.put, List.setIfInBounds_toArray, List.set_cons_zero, List.set_cons_succ])
            refine H_take (k := 10) (v := ?_) (by rfl) (by kernel_rfl) (by kernel_rfl) (by kernel_rfl) (by exact fun _ _ _ h => h) (by rfl) ?_ (by assumption) ?_
            rotate_left 1
            · intro w' hSw
              have kc := (HBC.out.grown hSw (by simp)).cell 2
              go_simp
              (try with_reducible rfl)
            (try simp only [Act.put, List.setIfInBounds_toArray, List.set_cons_zero, List.set_cons_succ])
            refine H_take (k := 11) (v := .agg #[.string z.ca, .string z.ag, .int .i64 z.how, .int .i64 z.beg, .int .i64 z.fin]) (by rfl) (by kernel_rfl) (by kernel_rfl) (by kernel_rfl) (by exact fun _ _ _ h => h) (by rfl) (fun w' hSw => exec_ldb Tryz.seT _ rfl _ rfl 68 [.string z.ca, .string z.ag, .int .i64 z.how, .int .i64 z.beg, .int .i64 z.fin] (HBZ.out.grown hSw (by simp)) rfl) (by assumption) ?_
            (try simp only [Act.put, List.setIfInBounds_toArray, List.set_cons_zero, List.set_cons_succ])
            refine H_run (k := 12) (by rfl) (by kernel_rfl) (by rfl) (fun K hK => ?_)
            go_simp
            refine (endOf_any z _).mono ?_
            rintro e w6 ⟨rfl, hg6⟩
            rw [HEN.out]
            have hgz : wb.grownBy w6 none := gr_none hHeld hg6
            refine hK _ _ hgz ?_
            clear hK K hHeld hg6
            have hHeld := hgz
            (try simp only [Act.put, List.setIfInBounds_toArray, List.set_cons_zero, List.set_cons_succ])
            refine H_take (k := 13) (v := ?_) (by rfl) (by kernel_rfl) (by kernel_rfl) (by kernel_rfl) (by exact fun _ _ _ h => h) (by rfl) ?_ (by assumption) ?_
            rotate_left 1
            · intro w hSw
              (try dsimp only at hSw)
              go_simp
              (try with_reducible rfl)
            (try simp only [Act.put, List.setIfInBounds_toArray, List.set_cons_zero, List.set_cons_succ])
            refine H_take (k := 14) (v := ?_) (by rfl) (by kernel_rfl) (by kernel_rfl) (by kernel_rfl) (by exact fun _ _ _ h => h) (by rfl) ?_ (by assumption) ?_
            rotate_left 1
            · intro w hSw
              (try dsimp only at hSw)
              go_simp
              (try with_reducible rfl)
            (try simp only [Act.put, List.setIfInBounds_toArray, List.set_cons_zero, List.set_cons_succ])
            refine H_done (by kernel_rfl) ?_
            replace HGO := Lib.hid (gr_none HGO.out hHeld)
            clear hHeld hgz
            cases D2
            · have HN := Lib.hid (show wtN c.at_ C l (j + 1) = p by rw [HWT.out, HWB2.out, HPP.out]; rfl)
              go_wp2_with fail
              go_roundw
              case rel => exact ⟨j + 1, p, by omega, by go_num, rfl, HN.out, by omega, HGO.out⟩
              case measure => simp [intOf]; omega
            · have HN := Lib.hid (show wtN c.at_ C l (j + 1) = p + 1 by rw [HWT.out, HWB2.out, HPP.out]; rfl)
              go_wp2_with fail
              go_roundw
              case rel => exact ⟨j + 1, p + 1, by omega, by go_num, by go_num, HN.out, by omega, HGO.out⟩
              case measure => simp [intOf]; omega
        · obtain rfl : j = n := by omega
          have HN := Lib.hid (show mstN C l (k + 1) = max b p by rw [HMS.out, HBB.out, hls, HPP.out])
          have HMX := Lib.hid (show max (b : Int) (p : Int) = ((max b p : Nat) : Int) by omega)
          have hmb : max b p ≤ j := by omega
          go_wp2_with fail
          go_roundw
          case rel => exact ⟨k + 1, max b p, by omega, by go_num, by rw [HMX.out], HN.out, hmb, gr_none HG2.out HGO.out⟩
          case measure => simp [intOf]; omega
    · obtain rfl : k = n := by omega
      go_wp2_with fail
      go_ret
      exact ⟨by rw [HBB.out]; try rfl, HG2.out⟩
end
end Go.Proofs.YtemfbdmaljddnaaGreatDoor

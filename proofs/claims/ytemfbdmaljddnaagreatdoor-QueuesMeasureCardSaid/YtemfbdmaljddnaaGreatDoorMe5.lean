/- Contract of Busy. Conditions: an agent, callers and seats as they lie in memory; at most twelve callers. -/
import Derived.Test.YtemfbdmaljddnaaGreatDoorMe1
import Derived.Test.YtemfbdmaljddnaaGreatDoorMe3
import Derived.Test.YtemfbdmaljddnaaGreatDoorMe4
import Derived.Test.YtemfbdmaljddnaaGreatDoorQue2
namespace Go.Proofs.YtemfbdmaljddnaaGreatDoor
open Go.RowKit

theorem wkP_bd {a : AgV} {l : List SeV} (ha : AgR a) (hl : SeatsR l) : ∀ x ∈ wkP a l, 0 ≤ x.1 ∧ x.1 ≤ 1000000000000000 := by
  intro w hw
  obtain ⟨s, hs, rfl⟩ := List.mem_map.1 hw
  obtain ⟨hs, ho⟩ := List.mem_filter.1 hs
  rw [Bool.and_eq_true] at ho
  have := hl.tk s hs ho.1
  show 0 ≤ s.beg ∧ s.beg ≤ 1000000000000000
  omega
section
variable (lo lo1 lo2 : Nat) (a : AgV) (cA : Option Addr) (n cc : Nat) (C : List CaV) (A : Option Addr) (m c0 : Nat) (l : List SeV) (w : World)
set_option maxHeartbeats 32000000 in
set_option maxRecDepth 100000 in
theorem Busy_any (hA : AgOk w lo a) (hC : Cas w lo1 cA n cc C) (hS : Ses w lo2 A m c0 l) (hn : n ≤ 12) (hm : m ≤ 1000000000) :
    Calls Tryz.prog 21 #[.agg #[.string a.key, .slice a.sA a.sn a.sc, .int .i64 a.fr, .int .i64 a.til, .slice a.pA a.pn a.pc, .int .i64 a.wrap], .slice cA n cc, .slice A m c0] w (RetV (busyV a C l) w) := by
  obtain ⟨w1, hw1⟩ : ∃ w1, w.alloc (.cells #[.string a.key, .slice a.sA a.sn a.sc, .int .i64 a.fr, .int .i64 a.til, .slice a.pA a.pn a.pc, .int .i64 a.wrap] 50) = w1 := ⟨_, rfl⟩
  obtain ⟨w2, hw2⟩ : ∃ w2, w1.alloc (.cells #[.int .i64 0, .int .i64 0] 52) = w2 := ⟨_, rfl⟩
  have hz1 : w1.heap.size = w.heap.size + 1 := by rw [← hw1]; simp
  have HA := Lib.hid (show Blk w2 w.heap.size 50 #[.string a.key, .slice a.sA a.sn a.sc, .int .i64 a.fr, .int .i64 a.til, .slice a.pA a.pn a.pc, .int .i64 a.wrap] by rw [← hw2, ← hw1]; exact (Blk.new _ _ _).alloc _)
  have HR := Lib.hid (show Blk w2 (w.heap.size + 1) 52 #[.int .i64 0, .int .i64 0] by rw [← hw2, ← hz1]; exact Blk.new _ _ _)
  have HG := Lib.hid (show w.grownBy w2 none by rw [← hw2, ← hw1]; exact gr_alloc (gr_alloc (gr_refl _ _) _) _)
  have HW1 := Lib.hid hw1; have HW2 := Lib.hid hw2; have HZ1 := Lib.hid hz1
  have H := Lib.hid hA; have HC := Lib.hid hC; have HS := Lib.hid hS
  have hcl := hC.1.len; have hls := hS.1.len; have hpl := hA.2.2.len
  obtain ⟨E, hE⟩ : ∃ E, agsE [a] = E := ⟨_, rfl⟩
  obtain ⟨F, hF⟩ : ∃ F, chkE C l = F := ⟨_, rfl⟩
  have HE := Lib.hid hE; have HF := Lib.hid hF
  clear hw1 hw2 hz1 hA hC hS hE hF
  go_enter Tryz.func21, Tryz.ntmps21
  go_upto_region 1 with (fail)
  rw [HW1.out, HW2.out]
  (try rw [HZ1.out])
  clear HW1 HW2 HZ1
  go_wp2_with (first
    | (refine wpl_load_all Tryz.agT rfl _ rfl _ rfl _ _ HA.out rfl ?_)
    | fail)
  refine (checkAgents_any 0 _ 1 1 [a] _ (ags_one a (H.out.grown HG.out (fun g e => by cases e)) (by simp)) (by omega)).mono ?_
  rintro e w3 ⟨rfl, hg3⟩
  rw [HE.out]
  have hg3' : w2.grownBy w3 none := gr_none (gr_alloc (gr_refl _ _) _) hg3
  replace HR := Lib.hid (HR.out.grown hg3' (by simp)); replace HA := Lib.hid (HA.out.grown hg3' (by simp)); replace HG := Lib.hid (gr_none HG.out hg3')
  clear hg3 hg3'
  by_cases hz : E = 0
  · have dz : (E != 0) = false := by simpa using hz
    have he0 := HE.out.trans hz
    have HAR := Lib.hid (agR_of hpl he0)
    have HV0 := Lib.hid (show busyV a C l = if chkE C l = 0 then (if longW (preW a) = 0 then frV 0 0 8 else frV (lowV (busyI a l) (longW (preW a))).1 (lowV (busyI a l) (longW (preW a))).2 0) else frV 0 0 (chkE C l) by unfold busyV; rw [if_pos he0])
    clear hz he0
    go_wp2_with fail
    refine (checkSeats_any lo1 lo2 cA n cc C A m c0 l _ (HC.out.grown HG.out (fun g e => by cases e)) (HS.out.grown HG.out (fun g e => by cases e)) (by omega) hm).mono ?_
    rintro e w4 ⟨rfl, hg4⟩
    rw [HF.out]
    replace HR := Lib.hid (HR.out.grown hg4 (by simp)); replace HA := Lib.hid (HA.out.grown hg4 (by simp)); replace HG := Lib.hid (gr_none HG.out hg4)
    clear hg4
    by_cases hz : F = 0
    · have df : (F != 0) = false := by simpa using hz
      have hf0 := HF.out.trans hz
      have hm12 : m ≤ 12 := by
        have h3 := (chkE_num hf0).2.2.1
        rw [hls, hcl] at h3
        omega
      have HSR := Lib.hid (seatsR_of hf0)
      have HV1 := Lib.hid (show busyV a C l = if longW (preW a) = 0 then frV 0 0 8 else frV (lowV (busyI a l) (longW (preW a))).1 (lowV (busyI a l) (longW (preW a))).2 0 by rw [HV0.out, if_pos hf0])
      have HBS := Lib.hid (busy_same HAR.out HSR.out)
      have HTM := Lib.hid (timesW_mult (tm := (a.fr, a.til)) HAR.out.tm HAR.out.ps)
      obtain ⟨r1, r2⟩ := HAR.out.wr
      clear hz hf0 HV0
      go_wp2_with fail
      go_loopw [10, 12, 38] (fun v10 _ t' wr => ∃ (k m2 cB : Nat) (B : Option Addr), v10 = .slice B m2 cB ∧ t' = .int .i64 k ∧ k ≤ m ∧ m2 ≤ k ∧ OwnR pwRow 2 wr (w.heap.size + 2) 34 B m2 cB (wkP a (l.take k)) ∧ w.grownBy wr none ∧ Blk wr w.heap.size 50 #[.string a.key, .slice a.sA a.sn a.sc, .int .i64 a.fr, .int .i64 a.til, .slice a.pA a.pn a.pc, .int .i64 a.wrap] ∧ Blk wr (w.heap.size + 1) 52 #[.int .i64 0, .int .i64 0]) (fun _ _ t' _ => m - (intOf t').toNat)
      case atStart => exact ⟨0, 0, 0, none, rfl, rfl, Nat.zero_le _, Nat.le_refl _, OwnR.nil _ _ _, HG.out, HA.out, HR.out⟩
      case round =>
        clear HG HA HR
        obtain ⟨k, m2, cB, B, rfl, rfl, hk, hmk, hown, hg, ha, hr⟩ := hrel
        have HO := Lib.hid hown; have HG := Lib.hid hg; have HA := Lib.hid ha; have HR := Lib.hid hr
        have zr := hr.lt
        clear hown hg ha hr
        by_cases hlt : k < m
        · obtain ⟨sg, sof, z, rfl, _, _, hz2, hzc⟩ := (HS.out.1.grown HG.out (fun g e => by cases e)).get SeV.row_len hlt
          have hlt2 : (k : Int) < (m : Int) := by omega
          have HZC := Lib.hid hzc
          have HWK := Lib.hid (show wkP a (l.take (k + 1)) = wkP a (l.take k) ++ if tkB z && ofA a.key z then [(z.beg, min z.fin 345686400000 + a.wrap)] else [] by rw [take_snoc hz2, wkP_snoc])
          have HTK := Lib.hid (HSR.out.tk z (mem_of_get hz2))
          obtain ⟨TK, hTK⟩ : ∃ T, tkB z = T := ⟨_, rfl⟩
          have HT := Lib.hid hTK
          obtain ⟨wa, hwa⟩ : ∃ wa, wr.alloc (.cells #[.string z.ca, .string z.ag, .int .i64 z.how, .int .i64 z.beg, .int .i64 z.fin] 68) = wa := ⟨_, rfl⟩
          obtain ⟨zb, hzb⟩ : ∃ zb, wr.heap.size = zb := ⟨_, rfl⟩
          have HB := Lib.hid (show Blk wa zb 68 #[.string z.ca, .string z.ag, .int .i64 z.how, .int .i64 z.beg, .int .i64 z.fin] by rw [← hwa, ← hzb]; exact Blk.new _ _ _)
          have HGa := Lib.hid (show wr.grownBy wa none by rw [← hwa]; exact gr_alloc (gr_refl _ _) _)
          have HWA := Lib.hid hwa; have HZB := Lib.hid hzb
          clear hwa hzb hz2 hzc hTK
          go_upto_region 11 with (first
            | (refine wpl_load_at Tryz.seT rfl _ rfl _ rfl [.string z.ca, .string z.ag, .int .i64 z.how, .int .i64 z.beg, .int .i64 z.fin] rfl (fun j u hu => by rw [add_mk]; exact HZC.out j u hu) ?_)
            | fail)
          rw [HWA.out]
          (try rw [HZB.out])
          replace HO := Lib.hid (HO.out.kept HGa.out (fun g e => by cases e))
          replace HR := Lib.hid (HR.out.grown HGa.out (by simp)); replace HA := Lib.hid (HA.out.grown HGa.out (by simp)); replace HG := Lib.hid (gr_none HG.out HGa.out)
          clear HWA HZB HZC HGa
          go_wp2_with (first
            | (refine wpl_load_all Tryz.seT rfl _ rfl _ rfl _ _ HB.out rfl ?_)
            | fail)
          refine (talked_any z _).mono ?_
          rintro e w6 ⟨rfl, hg6⟩
          rw [HT.out]
          replace HO := Lib.hid (HO.out.kept hg6 (fun g e => by cases e))
          replace HB := Lib.hid (HB.out.grown hg6 (by simp))
          replace HR := Lib.hid (HR.out.grown hg6 (by simp)); replace HA := Lib.hid (HA.out.grown hg6 (by simp)); replace HG := Lib.hid (gr_none HG.out hg6)
          clear hg6
          cases TK
          · have HN := Lib.hid (show wkP a (l.take (k + 1)) = wkP a (l.take k) by rw [HWK.out, HT.out]; simp)
            go_wp2_with fail
            go_roundw
            case rel => exact ⟨k + 1, m2, cB, B, rfl, by go_num, by omega, by omega, by rw [HN.out]; exact HO.out, HG.out, HA.out, HR.out⟩
            case measure => simp [intOf]; omega
          · have k1 := HB.out.cell 1
            have ka := HA.out.cell 0
            obtain ⟨U, hU⟩ : ∃ U, (z.ag.toList == a.key.toList) = U := ⟨_, rfl⟩
            have HU := Lib.hid (show ofA a.key z = U by rw [← hU]; unfold ofA; rw [eqS_nb]; by_cases h : nb z.ag = nb a.key <;> simp [h])
            cases U
            · have HN := Lib.hid (show wkP a (l.take (k + 1)) = wkP a (l.take k) by rw [HWK.out, HT.out, HU.out]; simp)
              go_wp2_with fail
              go_roundw
              case rel => exact ⟨k + 1, m2, cB, B, rfl, by go_num, by omega, by omega, by rw [HN.out]; exact HO.out, HG.out, HA.out, HR.out⟩
              case measure => simp [intOf]; omega
            · have HN := Lib.hid (show wkP a (l.take (k + 1)) = wkP a (l.take k) ++ [(z.beg, min z.fin 345686400000 + a.wrap)] by rw [HWK.out, HT.out, HU.out]; simp)
              obtain ⟨t1, t2, t3, t4⟩ := HTK.out HT.out
              have q1 : IntKind.i64.wrap (min z.fin 345686400000 + a.wrap) = min z.fin 345686400000 + a.wrap := IntWalk.i64_in _ (by omega)
              have k3 := HB.out.cell 3
              have k4 := HB.out.cell 4
              have ka5 := HA.out.cell 5
              go_wp2_with (first
                | (at_builtin; refine wpl_app _ rfl _ _ Tryz.winsT rfl (w.heap.size + 2) B m2 cB _ rfl (by exact HO.out.1.alloc _) _ _ 1 1 [.int .i64 z.beg, .int .i64 (min z.fin 345686400000 + a.wrap)] rfl (by exact Reads.one _ _ _ _ rfl) (by simp [Value.oneCell']) (by unfold maxLen; omega) (by omega) (by have := HR.out.lt; simp; omega) ?_; intro A8 c8 w8 h8; have H8 := Lib.hid h8; clear h8)
                | fail)
              have HO8 := Lib.hid (show OwnR pwRow 2 w8 (w.heap.size + 2) 34 A8 (m2 + 1) c8 (wkP a (l.take (k + 1))) by rw [HN.out]; exact (HO.out.alloc _).app rfl H8.out)
              have HG8 := Lib.hid (show w.grownBy w8 none from gr_own (lo := w.heap.size + 2) (gr_alloc HG.out _) (HO.out.1.alloc _) (by omega) H8.out.2.1)
              have HA8 := Lib.hid (show Blk w8 w.heap.size 50 #[.string a.key, .slice a.sA a.sn a.sc, .int .i64 a.fr, .int .i64 a.til, .slice a.pA a.pn a.pc, .int .i64 a.wrap] from (HA.out.alloc _).grown H8.out.2.1 (fun e => by have := (HO.out.1.lt e.symm).1; omega))
              have HR8 := Lib.hid (show Blk w8 (w.heap.size + 1) 52 #[.int .i64 0, .int .i64 0] from (HR.out.alloc _).grown H8.out.2.1 (fun e => by have := (HO.out.1.lt e.symm).1; omega))
              clear H8
              go_roundw
              case rel => exact ⟨k + 1, m2 + 1, c8, A8, rfl, by go_num, by omega, by omega, HO8.out, HG8.out, HA8.out, HR8.out⟩
              case measure => simp [intOf]; omega
        · obtain rfl : k = m := by omega
          replace HO := Lib.hid (show OwnR pwRow 2 wr (w.heap.size + 2) 34 B m2 cB (wkP a l) by have := HO.out; rw [← hls, List.take_length] at this; exact this)
          go_wp2_with fail
          refine (pwSort_any ltW (w.heap.size + 2) B m2 cB (wkP a l) _ HO.out (by omega) (fun w1 x y _ hx hy => busyCmp_any x y w1 (wkP_bd HAR.out HSR.out x hx) (wkP_bd HAR.out HSR.out y hy))).mono ?_
          rintro e w5 ⟨rfl, hown, hg5⟩
          replace HA := Lib.hid (HA.out.grown hg5 (fun e => by have := (HO.out.1.lt e.symm).1; omega))
          replace HR := Lib.hid (HR.out.grown hg5 (fun e => by have := (HO.out.1.lt e.symm).1; omega))
          replace HG := Lib.hid (show w.grownBy w5 none from gr_own (lo := w.heap.size + 2) HG.out HO.out.1 (by omega) hg5)
          replace HO := Lib.hid hown
          clear hown hg5
          obtain ⟨ws, hws⟩ : ∃ ws, srt ltW (wkP a l) = ws := ⟨_, rfl⟩
          have HWB := Lib.hid (show ∀ x ∈ ws, 0 ≤ x.1 by intro x hx; rw [← hws] at hx; exact (wkP_bd HAR.out HSR.out x (srt_mem hx)).1)
          rw [hws] at HO HBS
          clear hws
          go_wp2_with (first
            | (refine wpl_load_all Tryz.agT rfl _ rfl _ rfl _ _ HA.out rfl ?_)
            | fail)
          refine (timesA_any lo a _ (H.out.grown HG.out (fun g e => by cases e))).mono ?_
          rintro e w6 ⟨T, nt, cT, rfl, hown, hg6⟩
          have HT := Lib.hid hown.recs
          replace HO := Lib.hid (HO.out.recs.grown hg6 (fun g e => by cases e))
          replace HR := Lib.hid (HR.out.grown hg6 (by simp)); replace HA := Lib.hid (HA.out.grown hg6 (by simp)); replace HG := Lib.hid (gr_none HG.out hg6)
          clear hown hg6
          obtain ⟨ts, hts⟩ : ∃ ts, timesW (a.fr, a.til) a.ps = ts := ⟨_, rfl⟩
          rw [hts] at HT HBS HTM
          clear hts
          have hnt : nt ≤ 51 := by
            have h1 := HT.out.len
            have h2 := HTM.out.2.1
            have h3 := HAR.out.pn
            omega
          have hwl := HO.out.len
          have htl := HT.out.len
          go_wp2_with fail
          go_loopw [13, 14, 16, 17, 19, 20, 21, 69] (fun v13 v14 _ _ _ _ _ t' wr => ∃ (k : Nat) (S D : Int), k ≤ nt ∧ t' = .int .i64 k ∧ v13 = .int .i64 S ∧ v14 = .int .i64 D ∧ allL (ts.take k) = S ∧ busyL (ts.take k) ws = D ∧ 0 ≤ S ∧ S ≤ 345686400000 * k ∧ 0 ≤ D ∧ D ≤ 10000000000000 * k ∧ w6.grownBy wr none) (fun _ _ _ _ _ _ _ t' _ => nt - (intOf t').toNat)
          case atStart => exact ⟨0, 0, 0, Nat.zero_le _, rfl, rfl, rfl, rfl, rfl, Int.le_refl _, by omega, Int.le_refl _, by omega, gr_refl _ _⟩
          case round =>
            obtain ⟨wo, rfl⟩ : ∃ wo : World, wo = wr := ⟨_, rfl⟩
            obtain ⟨k, S, D, hk, rfl, rfl, rfl, hss, hdd, s0, s1, d0, d1, hg⟩ := hrel
            have HGO := Lib.hid hg; have HSS := Lib.hid hss; have HDD := Lib.hid hdd
            clear hg hss hdd
            by_cases hlt : k < nt
            · obtain ⟨pg, po, t, rfl, _, _, hp2, hpc⟩ := (HT.out.grown HGO.out (fun g e => by cases e)).get pwRow_len hlt
              have hlt2 : (k : Int) < (nt : Int) := by omega
              have HPC := Lib.hid hpc
              have HAL := Lib.hid (show allL (ts.take (k + 1)) = S + max 0 (t.2 - t.1) by rw [take_snoc hp2, allL_snoc, HSS.out])
              have HBL := Lib.hid (show busyL (ts.take (k + 1)) ws = (busyT D t ws).1 by rw [take_snoc hp2, busyL_snoc, HDD.out])
              obtain ⟨g1, g2, g3, g4⟩ := HTM.out.2.2 t (mem_of_get hp2)
              have q1 : IntKind.i64.wrap (t.2 - t.1) = t.2 - t.1 := IntWalk.i64_in _ (by omega)
              have q2 : IntKind.i64.wrap (S + max 0 (t.2 - t.1)) = S + max 0 (t.2 - t.1) := IntWalk.i64_in _ (by omega)
              clear hp2 hpc
              obtain ⟨wa, hwa⟩ : ∃ wa, wo.alloc (.cells #[.int .i64 t.1, .int .i64 t.2] 34) = wa := ⟨_, rfl⟩
              obtain ⟨zb, hzb⟩ : ∃ zb, wo.heap.size = zb := ⟨_, rfl⟩
              have HB := Lib.hid (show Blk wa zb 34 #[.int .i64 t.1, .int .i64 t.2] by rw [← hwa, ← hzb]; exact Blk.new _ _ _)
              have HGa := Lib.hid (show wo.grownBy wa none by rw [← hwa]; exact gr_alloc (gr_refl _ _) _)
              have HWA := Lib.hid hwa; have HZB := Lib.hid hzb
              clear hwa hzb
              go_upto_region 19 with (first
                | (refine wpl_load_at Tryz.winT rfl _ rfl _ rfl [.int .i64 t.1, .int .i64 t.2] rfl (fun j u hu => by rw [add_mk]; exact HPC.out j u hu) ?_)
                | fail)
              rw [HWA.out]
              (try rw [HZB.out])
              replace HGO := Lib.hid (gr_none HGO.out HGa.out)
              have t0 := HB.out.cell 0
              have t1 := HB.out.cell 1
              clear HWA HZB HPC HGa
              go_upto_region 22 with (fail)
              clear t0 t1 q1 q2
              go_loopw [14, 17, 19, 20, 21, 85] (fun v14 v17 _ _ _ t' wr => ∃ (j : Nat) (D2 u : Int), j ≤ m2 ∧ t' = .int .i64 j ∧ v14 = .int .i64 D2 ∧ v17 = .int .i64 u ∧ busyT D t (ws.take j) = (D2, u) ∧ D ≤ D2 ∧ D2 ≤ D + 345686400000 * j ∧ 0 ≤ u ∧ wa.grownBy wr none) (fun _ _ _ _ _ t' _ => m2 - (intOf t').toNat)
              case atStart => exact ⟨0, D, t.1, Nat.zero_le _, rfl, rfl, rfl, rfl, Int.le_refl _, by omega, g1, gr_refl _ _⟩
              case round =>
                obtain ⟨j, D2, u, hj, rfl, rfl, rfl, hbt, e0, e1, u0, hgi⟩ := hrel
                have HGI := Lib.hid hgi; have HBT := Lib.hid hbt
                clear hgi hbt
                by_cases hlj : j < m2
                · obtain ⟨xg, xo, x, rfl, _, _, hx2, hxc⟩ := ((HO.out.grown HGO.out (fun g e => by cases e)).grown HGI.out (fun g e => by cases e)).get pwRow_len hlj
                  have hlj2 : (j : Int) < (m2 : Int) := by omega
                  have HXC := Lib.hid hxc
                  have HB1 := Lib.hid (show busyT D t (ws.take (j + 1)) = busy1 t (D2, u) x by rw [take_snoc hx2, busyT_snoc, HBT.out])
                  have x0 := HWB.out x (mem_of_get hx2)
                  clear hx2 hxc
                  have HBT1 := Lib.hid (HB.out.grown HGI.out (by simp))
                  obtain ⟨wb, hwb⟩ : ∃ wa, wr.alloc (.cells #[.int .i64 x.1, .int .i64 x.2] 34) = wa := ⟨_, rfl⟩
                  obtain ⟨xb, hxb⟩ : ∃ zb, wr.heap.size = zb := ⟨_, rfl⟩
                  have HBX := Lib.hid (show Blk wb xb 34 #[.int .i64 x.1, .int .i64 x.2] by rw [← hwb, ← hxb]; exact Blk.new _ _ _)
                  have HGb := Lib.hid (show wr.grownBy wb none by rw [← hwb]; exact gr_alloc (gr_refl _ _) _)
                  have HWBb := Lib.hid hwb; have HXB := Lib.hid hxb
                  clear hwb hxb
                  go_upto_region 24 with (first
                    | (refine wpl_load_at Tryz.winT rfl _ rfl _ rfl [.int .i64 x.1, .int .i64 x.2] rfl (fun j u hu => by rw [add_mk]; exact HXC.out j u hu) ?_)
                    | fail)
                  rw [HWBb.out]
                  (try rw [HXB.out])
                  replace HGI := Lib.hid (gr_none HGI.out HGb.out)
                  replace HBT1 := Lib.hid (HBT1.out.grown HGb.out (by simp))
                  clear HWBb HXB HXC HGb
                  refine H_begin (fun w' => wb.grownBy w' none) (by kernel_rfl) ?_
                  have hHeld : wb.grownBy wb.drew none := gr_drew (gr_refl _ _)
                  refine H_take (k := 0) (v := ?_) (by rfl) (by kernel_rfl) (by kernel_rfl) (by kernel_rfl) (by exact fun _ _ _ h => h) (by rfl) ?_ (by assumption) ?_
                  rotate_left 1
                  · intro w hSw
                    (try dsimp only at hSw)
                    go_simp
                    (try with_reducible rfl)
                  (try simp only [Act.put, List.setIfInBounds_toArray, List.set_cons_zero, List.set_cons_succ])
                  refine H_take (k := 1) (v := ?_) (by rfl) (by kernel_rfl) (by kernel_rfl) (by kernel_rfl) (by exact fun _ _ _ h => h) (by rfl) ?_ (by assumption) ?_
                  rotate_left 1
                  · intro w' hSw
                    have kc := (HBX.out.grown hSw (by simp)).cell 0
                    go_simp
                    (try with_reducible rfl)
                  (try simp only [Act.put, List.setIfInBounds_toArray, List.set_cons_zero, List.set_cons_succ])
                  refine H_take (k := 2) (v := ?_) (by rfl) (by kernel_rfl) (by kernel_rfl) (by kernel_rfl) (by exact fun _ _ _ h => h) (by rfl) ?_ (by assumption) ?_
                  rotate_left 1
                  · intro w hSw
                    (try dsimp only at hSw)
                    go_simp
                    (try with_reducible rfl)
                  (try simp only [Act.put, List.setIfInBounds_toArray, List.set_cons_zero, List.set_cons_succ])
                  refine H_take (k := 3) (v := ?_) (by rfl) (by kernel_rfl) (by kernel_rfl) (by kernel_rfl) (by exact fun _ _ _ h => h) (by rfl) ?_ (by assumption) ?_
                  rotate_left 1
                  · intro w hSw
                    (try dsimp only at hSw)
                    go_simp
                    (try with_reducible rfl)
                  (try simp only [Act.put, List.setIfInBounds_toArray, List.set_cons_zero, List.set_cons_succ])
                  refine H_take (k := 4) (v := ?_) (by rfl) (by kernel_rfl) (by kernel_rfl) (by kernel_rfl) (by exact fun _ _ _ h => h) (by rfl) ?_ (by assumption) ?_
                  rotate_left 1
                  · intro w hSw
                    (try dsimp only at hSw)
                    go_simp
                    (try with_reducible rfl)
                  (try simp only [Act.put, List.setIfInBounds_toArray, List.set_cons_zero, List.set_cons_succ])
                  refine H_take (k := 5) (v := ?_) (by rfl) (by kernel_rfl) (by kernel_rfl) (by kernel_rfl) (by exact fun _ _ _ h => h) (by rfl) ?_ (by assumption) ?_
                  rotate_left 1
                  · intro w' hSw
                    have kc := (HBX.out.grown hSw (by simp)).cell 1
                    go_simp
                    (try with_reducible rfl)
                  (try simp only [Act.put, List.setIfInBounds_toArray, List.set_cons_zero, List.set_cons_succ])
                  refine H_take (k := 6) (v := ?_) (by rfl) (by kernel_rfl) (by kernel_rfl) (by kernel_rfl) (by exact fun _ _ _ h => h) (by rfl) ?_ (by assumption) ?_
                  rotate_left 1
                  · intro w hSw
                    (try dsimp only at hSw)
                    go_simp
                    (try with_reducible rfl)
                  (try simp only [Act.put, List.setIfInBounds_toArray, List.set_cons_zero, List.set_cons_succ])
                  refine H_take (k := 7) (v := ?_) (by rfl) (by kernel_rfl) (by kernel_rfl) (by kernel_rfl) (by exact fun _ _ _ h => h) (by rfl) ?_ (by assumption) ?_
                  rotate_left 1
                  · intro w' hSw
                    have kc := (HBT1.out.grown hSw (by simp)).cell 1
                    go_simp
                    (try with_reducible rfl)
                  (try simp only [Act.put, List.setIfInBounds_toArray, List.set_cons_zero, List.set_cons_succ])
                  refine H_take (k := 8) (v := ?_) (by rfl) (by kernel_rfl) (by kernel_rfl) (by kernel_rfl) (by exact fun _ _ _ h => h) (by rfl) ?_ (by assumption) ?_
                  rotate_left 1
                  · intro w hSw
                    (try dsimp only at hSw)
                    go_simp
                    (try with_reducible rfl)
                  (try simp only [Act.put, List.setIfInBounds_toArray, List.set_cons_zero, List.set_cons_succ])
                  refine H_take (k := 9) (v := ?_) (by rfl) (by kernel_rfl) (by kernel_rfl) (by kernel_rfl) (by exact fun _ _ _ h => h) (by rfl) ?_ (by assumption) ?_
                  rotate_left 1
                  · intro w hSw
                    (try dsimp only at hSw)
                    go_simp
                    (try with_reducible rfl)
                  (try simp only [Act.put, List.setIfInBounds_toArray, List.set_cons_zero, List.set_cons_succ])
                  refine H_take (k := 10) (v := ?_) (by rfl) (by kernel_rfl) (by kernel_rfl) (by kernel_rfl) (by exact fun _ _ _ h => h) (by rfl) ?_ (by assumption) ?_
                  rotate_left 1
                  · intro w hSw
                    (try dsimp only at hSw)
                    go_simp
                    (try with_reducible rfl)
                  (try simp only [Act.put, List.setIfInBounds_toArray, List.set_cons_zero, List.set_cons_succ])
                  refine H_done (by kernel_rfl) ?_
                  replace HGI := Lib.hid (gr_none HGI.out hHeld)
                  clear hHeld
                  by_cases hh : max x.1 u < min x.2 t.2
                  · have dh : decide (max x.1 u < min x.2 t.2) = true := decide_eq_true hh
                    have q1 : IntKind.i64.wrap (min x.2 t.2 - max x.1 u) = min x.2 t.2 - max x.1 u := IntWalk.i64_in _ (by omega)
                    have q2 : IntKind.i64.wrap (D2 + (min x.2 t.2 - max x.1 u)) = D2 + (min x.2 t.2 - max x.1 u) := IntWalk.i64_in _ (by omega)
                    have HN := Lib.hid (show busyT D t (ws.take (j + 1)) = (D2 + (min x.2 t.2 - max x.1 u), min x.2 t.2) by rw [HB1.out]; unfold busy1; exact if_pos hh)
                    have e2 : D2 + (min x.2 t.2 - max x.1 u) ≤ D + 345686400000 * ((j + 1 : Nat) : Int) := by omega
                    have e3 : D ≤ D2 + (min x.2 t.2 - max x.1 u) := by omega
                    have u2 : 0 ≤ min x.2 t.2 := by omega
                    clear hh
                    go_wp2_with fail
                    go_roundw
                    case rel => exact ⟨j + 1, _, _, by omega, by go_num, rfl, rfl, HN.out, e3, e2, u2, HGI.out⟩
                    case measure => simp [intOf]; omega
                  · have dh : decide (max x.1 u < min x.2 t.2) = false := decide_eq_false hh
                    have HN := Lib.hid (show busyT D t (ws.take (j + 1)) = (D2, u) by rw [HB1.out]; unfold busy1; exact if_neg hh)
                    clear hh
                    go_wp2_with fail
                    go_roundw
                    case rel => exact ⟨j + 1, D2, u, by omega, by go_num, rfl, rfl, HN.out, e0, by omega, u0, HGI.out⟩
                    case measure => simp [intOf]; omega
                · obtain rfl : j = m2 := by omega
                  have HN := Lib.hid (show busyL (ts.take (k + 1)) ws = D2 by rw [HBL.out]; have := HBT.out; rw [← hwl, List.take_length] at this; rw [this])
                  have s2 : S + max 0 (t.2 - t.1) ≤ 345686400000 * ((k + 1 : Nat) : Int) := by omega
                  have d2 : D2 ≤ 10000000000000 * ((k + 1 : Nat) : Int) := by omega
                  go_wp2_with fail
                  go_roundw
                  case rel => exact ⟨k + 1, _, _, by omega, by go_num, rfl, rfl, HAL.out, HN.out, by omega, s2, by omega, d2, gr_none HGO.out HGI.out⟩
                  case measure => simp [intOf]; omega
            · obtain rfl : k = nt := by omega
              replace HSS := Lib.hid (show allL ts = S by have := HSS.out; rw [← htl, List.take_length] at this; exact this)
              replace HDD := Lib.hid (show busyL ts ws = D by have := HDD.out; rw [← htl, List.take_length] at this; exact this)
              obtain ⟨b1, b2, b3, b4, b5, b6⟩ := HBS.out
              have HV2 := Lib.hid (show busyV a C l = if S = 0 then frV 0 0 8 else frV (lowV D S).1 (lowV D S).2 0 by rw [HV1.out, ← b1, ← b2, HSS.out, HDD.out])
              rw [← b1, HSS.out] at b4 b5
              rw [← b2, HDD.out] at b3 b6
              clear b1 b2 HV1 HBS
              replace HR := Lib.hid (HR.out.grown HGO.out (by simp)); replace HA := Lib.hid (HA.out.grown HGO.out (by simp)); replace HG := Lib.hid (gr_none HG.out HGO.out)
              by_cases hb0 : S = 0
              · have HV := Lib.hid (show busyV a C l = frV 0 0 8 by rw [HV2.out, if_pos hb0])
                have db : (S == 0) = true := by simpa using hb0
                clear hb0
                go_wp2_with (first
                  | (refine wpl_store_all Tryz.frT rfl _ _ rfl _ rfl _ _ _ rfl HR.out rfl rfl (by simp [Value.oneCell']) ?_
                     intro wz hst
                     have HST := Lib.hid hst; clear hst)
                  | fail)
                refine ret_cell_tmp Tryz.frT rfl (w.heap.size + 1) 52 #[.int .i64 0, .int .i64 0] _ rfl rfl HST.out.1 rfl rfl ?_
                exact ⟨by rw [HV.out]; try rfl, gr_trans HG.out HST.out.2.1 (fun g e => .inr (by injection e with e; omega))⟩
              · obtain ⟨P, rfl⟩ : ∃ P : Nat, D = P := ⟨D.toNat, by omega⟩
                obtain ⟨Q, rfl⟩ : ∃ Q : Nat, S = Q := ⟨S.toNat, by omega⟩
                have HV := Lib.hid (show busyV a C l = frV (lowV P Q).1 (lowV P Q).2 0 by rw [HV2.out, if_neg hb0])
                have db : ((Q : Int) == 0) = false := by simpa using hb0
                go_wp2_with fail
                refine (frac_any P Q (by omega) (by omega) (by omega) _).mono ?_
                rintro e w9 ⟨rfl, hg9⟩
                obtain ⟨X, hX⟩ : ∃ X, (lowV P Q).1 = X := ⟨_, rfl⟩
                obtain ⟨Y, hY⟩ : ∃ Y, (lowV P Q).2 = Y := ⟨_, rfl⟩
                rw [hX, hY] at HV ⊢
                clear hX hY
                replace HR := Lib.hid (HR.out.grown hg9 (by simp)); replace HA := Lib.hid (HA.out.grown hg9 (by simp)); replace HG := Lib.hid (gr_none HG.out hg9)
                clear hg9
                go_wp2_with (first
                  | (refine wpl_store_all Tryz.frT rfl _ _ rfl _ rfl _ _ _ rfl HR.out rfl rfl (by simp [Value.oneCell']) ?_
                     intro wz hst
                     have HST := Lib.hid hst; clear hst)
                  | fail)
                refine ret_cell_tmp Tryz.frT rfl (w.heap.size + 1) 52 #[.int .i64 X, .int .i64 Y] _ rfl rfl HST.out.1 rfl rfl ?_
                exact ⟨by rw [HV.out]; try rfl, gr_trans HG.out HST.out.2.1 (fun g e => .inr (by injection e with e; omega))⟩
    · have df : (F != 0) = true := by simpa using hz
      have HV := Lib.hid (show busyV a C l = frV 0 0 F by rw [HV0.out, if_neg (by rw [HF.out]; exact hz), HF.out])
      clear hz
      go_wp2_with (first
        | (refine wpl_store_all Tryz.frT rfl _ _ rfl _ rfl _ _ _ rfl HR.out rfl rfl (by simp [Value.oneCell']) ?_
           intro wz hst
           have HST := Lib.hid hst; clear hst)
        | fail)
      refine ret_cell_tmp Tryz.frT rfl (w.heap.size + 1) 52 #[.int .i64 0, .int .i64 0] _ rfl rfl HST.out.1 rfl rfl ?_
      exact ⟨by rw [HV.out]; try rfl, gr_trans HG.out HST.out.2.1 (fun g e => .inr (by injection e with e; omega))⟩
  · have dz : (E != 0) = true := by simpa using hz
    have HV := Lib.hid (show busyV a C l = frV 0 0 E by unfold busyV; rw [if_neg (by rw [HE.out]; exact hz), HE.out])
    clear hz
    go_wp2_with (first
      | (refine wpl_store_all Tryz.frT rfl _ _ rfl _ rfl _ _ _ rfl HR.out rfl rfl (by simp [Value.oneCell']) ?_
         intro wz hst
         have HST := Lib.hid hst; clear hst)
      | fail)
    refine ret_cell_tmp Tryz.frT rfl (w.heap.size + 1) 52 #[.int .i64 0, .int .i64 0] _ rfl rfl HST.out.1 rfl rfl ?_
    exact ⟨by rw [HV.out]; try rfl, gr_trans HG.out HST.out.2.1 (fun g e => .inr (by injection e with e; omega))⟩
end
end Go.Proofs.YtemfbdmaljddnaaGreatDoor

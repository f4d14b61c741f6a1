/- Contracts of times, less and long. Conditions: an agent, and windows, as they lie in memory; for long: windows of a presence. -/
import Derived.Test.YtemfbdmaljddnaaGreatDoorBun2
import Derived.Test.YtemfbdmaljddnaaGreatDoorQue1
import Derived.Test.YtemfbdmaljddnaaGreatDoorBun3
import Derived.Lib.MinMax
namespace Go.Proofs.YtemfbdmaljddnaaGreatDoor
open Go.RowKit

def OwnW (A : Option Addr) (lo : Nat) (n c : Nat) (l : List (Int × Int)) (w : World) : Prop := OwnR pwRow 2 w lo 34 A n c l
def WinsV (lo : Nat) (l : List (Int × Int)) (w : World) (e : Ending) (w' : World) : Prop := ∃ B m cB, e = .returned (.slice B m cB) ∧ OwnR pwRow 2 w' lo 34 B m cB l ∧ w.grownBy w' none
set_option maxHeartbeats 8000000 in
set_option maxRecDepth 100000 in
theorem timesA_any (lo : Nat) (a : AgV) (w : World) (h : AgOk w lo a) :
    Calls Tryz.prog 60 #[.agg #[.string a.key, .slice a.sA a.sn a.sc, .int .i64 a.fr, .int .i64 a.til, .slice a.pA a.pn a.pc, .int .i64 a.wrap]] w (WinsV w.heap.size (timesW (a.fr, a.til) a.ps) w) := by
  obtain ⟨w1, hw1⟩ : ∃ w1, w.alloc (.cells #[.string a.key, .slice a.sA a.sn a.sc, .int .i64 a.fr, .int .i64 a.til, .slice a.pA a.pn a.pc, .int .i64 a.wrap] 50) = w1 := ⟨_, rfl⟩
  have HR := Lib.hid (show Blk w1 w.heap.size 50 #[.string a.key, .slice a.sA a.sn a.sc, .int .i64 a.fr, .int .i64 a.til, .slice a.pA a.pn a.pc, .int .i64 a.wrap] by rw [← hw1]; exact Blk.new _ _ _)
  have HG := Lib.hid (show w.grownBy w1 none by rw [← hw1]; exact gr_alloc (gr_refl _ _) _)
  have HW1 := Lib.hid hw1
  have hpn := h.1.2.2.2
  have hpl := h.2.2.len
  have H := Lib.hid h.2.2
  clear hw1 h
  go_enter Tryz.func60, Tryz.ntmps60
  go_upto_region 1 with (fail)
  rw [HW1.out]
  clear HW1
  have k2 := HR.out.cell 2
  have k4 := HR.out.cell 4
  go_wp2_with fail
  obtain ⟨pA, hpA⟩ : ∃ v, a.pA = v := ⟨_, rfl⟩
  rw [hpA]
  have HPA := Lib.hid hpA
  clear hpA
  go_loopw [3, 4, 6, 13] (fun v3 v4 _ t' wr => ∃ (k : Nat) (B : Option Addr) (cB : Nat) (f : Int), v3 = .slice B k cB ∧ v4 = .int .i64 f ∧ t' = .int .i64 k ∧ k ≤ a.pn ∧ OwnR pwRow 2 wr (w.heap.size + 1) 34 B k cB (timesSt (a.fr, a.til) (a.ps.take k)).1 ∧ (timesSt (a.fr, a.til) (a.ps.take k)).2 = f ∧ w.grownBy wr none ∧ Blk wr w.heap.size 50 #[.string a.key, .slice a.sA a.sn a.sc, .int .i64 a.fr, .int .i64 a.til, .slice a.pA a.pn a.pc, .int .i64 a.wrap]) (fun _ _ _ t' _ => a.pn - (intOf t').toNat)
  case atStart => exact ⟨0, none, 0, a.fr, rfl, rfl, rfl, Nat.zero_le _, OwnR.nil _ _ _, rfl, HG.out, HR.out⟩
  case round =>
    clear HG HR k2 k4
    obtain ⟨k, B, cB, f, rfl, rfl, rfl, hk, hown, hf, hg, hr⟩ := hrel
    have HO := Lib.hid hown; have HG := Lib.hid hg; have HR := Lib.hid hr; have HF := Lib.hid hf
    have zr := hg.size; have zb := hr.lt
    clear hown hg hr hf
    by_cases hlt : k < a.pn
    · obtain ⟨pg, po, p, hpe, _, _, hp2, hpc⟩ := (H.out.grown HG.out (fun g e => by cases e)).get pwRow_len hlt
      have hlt2 : (k : Int) < (a.pn : Int) := by omega
      have HPC := Lib.hid hpc
      have HST := Lib.hid (show timesSt (a.fr, a.til) (a.ps.take (k + 1)) = ((timesSt (a.fr, a.til) (a.ps.take k)).1 ++ [(f, min p.1 a.til)], max f p.2) by rw [take_snoc hp2, timesSt_snoc, HF.out])
      clear hp2 hpc
      obtain rfl : pA = some ⟨pg, po, none⟩ := HPA.out.symm.trans hpe
      clear hpe
      obtain ⟨wa, hwa⟩ : ∃ wa, wr.alloc (.cells #[.int .i64 p.1, .int .i64 p.2] 34) = wa := ⟨_, rfl⟩
      obtain ⟨zb, hzb⟩ : ∃ zb, wr.heap.size = zb := ⟨_, rfl⟩
      have HB := Lib.hid (show Blk wa zb 34 #[.int .i64 p.1, .int .i64 p.2] by rw [← hwa, ← hzb]; exact Blk.new _ _ _)
      have HGa := Lib.hid (show wr.grownBy wa none by rw [← hwa]; exact gr_alloc (gr_refl _ _) _)
      have HWA := Lib.hid hwa; have HZB := Lib.hid hzb
      clear hwa hzb
      go_upto_region 6 with (first
        | (refine wpl_load_at Tryz.winT rfl _ rfl _ rfl [.int .i64 p.1, .int .i64 p.2] rfl (fun j u hu => by rw [add_mk]; exact HPC.out j u hu) ?_)
        | fail)
      rw [HWA.out]
      (try rw [HZB.out])
      have hne : blkOf B ≠ some zb := fun e => by have := (HO.out.1.lt e).2; have := HZB.out; omega
      replace HO := Lib.hid (HO.out.kept HGa.out (fun g e => by cases e))
      replace HG := Lib.hid (gr_none HG.out HGa.out)
      replace HR := Lib.hid (HR.out.grown HGa.out (by simp))
      have z8 := HG.out.size
      have k3 := HR.out.cell 3
      have p0 := HB.out.cell 0
      have hbl := HB.out.lt
      clear HWA HZB HPC HGa
      go_upto_region 7 with (first
        | (at_builtin; refine wpl_app _ rfl _ _ Tryz.winsT rfl (w.heap.size + 1) B k cB _ rfl (by exact HO.out.1.alloc _) _ _ 1 1 [.int .i64 f, .int .i64 (min p.1 a.til)] rfl (by exact Reads.one _ _ _ _ rfl) (by simp [Value.oneCell']) (by unfold maxLen; omega) (by omega) (by have := HR.out.lt; simp; omega) ?_; intro A8 c8 w8 h8; have H8 := Lib.hid h8; clear h8)
        | fail)
      have HO8 := Lib.hid (show OwnR pwRow 2 w8 (w.heap.size + 1) 34 A8 (k + 1) c8 (timesSt (a.fr, a.til) (a.ps.take (k + 1))).1 by rw [HST.out]; exact (HO.out.alloc _).app rfl H8.out)
      have HG8 := Lib.hid (show w.grownBy w8 none from gr_own (lo := w.heap.size + 1) (gr_alloc HG.out _) (HO.out.1.alloc _) (by omega) H8.out.2.1)
      have HR8 := Lib.hid (show Blk w8 w.heap.size 50 #[.string a.key, .slice a.sA a.sn a.sc, .int .i64 a.fr, .int .i64 a.til, .slice a.pA a.pn a.pc, .int .i64 a.wrap] from (HR.out.alloc _).grown H8.out.2.1 (fun e => by have := (HO.out.1.lt e.symm).1; omega))
      have HB8 := Lib.hid (show Blk w8 zb 34 #[.int .i64 p.1, .int .i64 p.2] from (HB.out.alloc _).grown H8.out.2.1 (Ne.symm hne))
      clear H8 k3 p0
      have p1 := HB8.out.cell 1
      have HF2 := Lib.hid (show (timesSt (a.fr, a.til) (a.ps.take (k + 1))).2 = max f p.2 by rw [HST.out])
      go_wp2_with fail
      go_roundw
      case rel => exact ⟨k + 1, A8, c8, _, rfl, rfl, by go_num, by omega, HO8.out, HF2.out, HG8.out, HR8.out⟩
      case measure => simp [intOf]; omega
    · obtain rfl : k = a.pn := by omega
      have k3 := HR.out.cell 3
      have hb := HR.out.lt
      go_wp2_with (first
        | (at_builtin; refine wpl_app _ rfl _ _ Tryz.winsT rfl (w.heap.size + 1) B a.pn cB _ rfl (by exact HO.out.1.alloc _) _ _ 1 1 [.int .i64 f, .int .i64 a.til] rfl (by exact Reads.one _ _ _ _ rfl) (by simp [Value.oneCell']) (by unfold maxLen; omega) (by omega) (by simp; omega) ?_; intro A8 c8 w8 h8; have H8 := Lib.hid h8; clear h8)
        | fail)
      go_ret
      exact ⟨A8, _, c8, rfl, by
        have e : timesW (a.fr, a.til) a.ps = (timesSt (a.fr, a.til) (a.ps.take a.pn)).1 ++ [(f, a.til)] := by have h9 := HF.out; rw [← hpl, List.take_length] at h9 ⊢; unfold timesW; rw [← h9]
        rw [e]
        exact ((HO.out.alloc _).app rfl H8.out).lower (Nat.le_succ _), gr_own (lo := w.heap.size + 1) (gr_alloc HG.out _) (HO.out.1.alloc _) (by omega) H8.out.2.1⟩
set_option maxHeartbeats 4000000 in
set_option maxRecDepth 100000 in
theorem long_any (lo : Nat) (A : Option Addr) (n c : Nat) (l : List (Int × Int)) (w : World) (hR : Recs pwRow 2 w lo A n c l) (h : WinOk 345686400000 l) :
    Calls Tryz.prog 64 #[.slice A n c] w (RetV (.int .i64 (longW l)) w) := by
  have hln := hR.len
  have hlen := h.len
  have H := Lib.hid hR; have HW := Lib.hid h
  clear hR h
  go_enter Tryz.func64, Tryz.ntmps64
  go_wp2_with fail
  go_loopw [3, 5, 8] (fun v3 _ t' wr => ∃ (k : Nat) (S : Int), k ≤ n ∧ t' = .int .i64 k ∧ v3 = .int .i64 S ∧ longW (l.take k) = S ∧ w.grownBy wr none) (fun _ _ t' _ => n - (intOf t').toNat)
  case atStart => exact ⟨0, 0, Nat.zero_le _, rfl, rfl, rfl, gr_refl _ _⟩
  case round =>
    obtain ⟨k, S, hk, rfl, rfl, hs, hg⟩ := hrel
    have HG := Lib.hid hg; have HS := Lib.hid hs
    clear hg hs
    by_cases hlt : k < n
    · obtain ⟨pg, po, p, rfl, _, _, hp2, hpc⟩ := (H.out.grown HG.out (fun g e => by cases e)).get pwRow_len hlt
      have hlt2 : (k : Int) < (n : Int) := by omega
      have HPC := Lib.hid hpc
      have HLG := Lib.hid (show longW (l.take (k + 1)) = S + (p.2 - p.1) by rw [take_snoc hp2, longW_app, HS.out]; show S + ((p.2 - p.1) + 0) = _; omega)
      obtain ⟨g1, g2, g3⟩ := HW.out.good p (mem_of_get hp2)
      obtain ⟨l1, l2⟩ := HW.out.long k
      rw [HS.out] at l1 l2
      have q1 : IntKind.i64.wrap (p.2 - p.1) = p.2 - p.1 := IntWalk.i64_in _ (by omega)
      have q2 : IntKind.i64.wrap (S + (p.2 - p.1)) = S + (p.2 - p.1) := IntWalk.i64_in _ (by omega)
      clear hp2 hpc
      obtain ⟨wa, hwa⟩ : ∃ wa, wr.alloc (.cells #[.int .i64 p.1, .int .i64 p.2] 34) = wa := ⟨_, rfl⟩
      obtain ⟨zb, hzb⟩ : ∃ zb, wr.heap.size = zb := ⟨_, rfl⟩
      have HB := Lib.hid (show Blk wa zb 34 #[.int .i64 p.1, .int .i64 p.2] by rw [← hwa, ← hzb]; exact Blk.new _ _ _)
      have HGa := Lib.hid (show wr.grownBy wa none by rw [← hwa]; exact gr_alloc (gr_refl _ _) _)
      have HWA := Lib.hid hwa; have HZB := Lib.hid hzb
      clear hwa hzb
      go_upto_region 5 with (first
        | (refine wpl_load_at Tryz.winT rfl _ rfl _ rfl [.int .i64 p.1, .int .i64 p.2] rfl (fun j u hu => by rw [add_mk]; exact HPC.out j u hu) ?_)
        | fail)
      rw [HWA.out]
      (try rw [HZB.out])
      replace HG := Lib.hid (gr_none HG.out HGa.out)
      have p0 := HB.out.cell 0
      have p1 := HB.out.cell 1
      clear HWA HZB HPC HGa
      go_wp2_with fail
      go_roundw
      case rel => exact ⟨k + 1, _, by omega, by go_num, rfl, HLG.out, HG.out⟩
      case measure => simp [intOf]; omega
    · obtain rfl : k = n := by omega
      have HV := Lib.hid (show longW l = S by rw [← HS.out, ← hln, List.take_length])
      go_wp2_with fail
      go_ret
      exact ⟨by rw [HV.out]; try rfl, HG.out⟩
/-! less: two windows of each, those that are not empty. -/
def lessP (x z : Int × Int) : List (Int × Int) := [(z.1, min z.2 x.1), (max z.1 x.2, z.2)]
def posW (l : List (Int × Int)) : List (Int × Int) := l.filter fun y => decide (y.1 < y.2)
theorem posW_less (x z : Int × Int) : posW (lessP x z) = less1 x z := by
  unfold posW lessP less1
  by_cases h1 : z.1 < min z.2 x.1 <;> by_cases h2 : max z.1 x.2 < z.2 <;> simp [h1, h2]
theorem posW_snoc (l : List (Int × Int)) (y : Int × Int) : posW (l ++ [y]) = posW l ++ if y.1 < y.2 then [y] else [] := by
  unfold posW; rw [List.filter_append]; by_cases h : y.1 < y.2 <;> simp [h]
theorem lessW_snoc (l : List (Int × Int)) (x z : Int × Int) : lessW (l ++ [z]) x = lessW l x ++ less1 x z := by unfold lessW; rw [List.flatMap_append]; simp
theorem posW_len (l : List (Int × Int)) : (posW l).length ≤ l.length := List.length_filter_le _ _
theorem less1_len (x z : Int × Int) : (less1 x z).length ≤ 2 := by rw [← posW_less]; exact posW_len _
theorem lessW_len (l : List (Int × Int)) (x : Int × Int) : (lessW l x).length ≤ 2 * l.length := by
  induction l with
  | nil => simp [lessW]
  | cons z l ih =>
    have := less1_len x z
    show (less1 x z ++ lessW l x).length ≤ _
    rw [List.length_append, List.length_cons]
    omega
set_option maxHeartbeats 8000000 in
set_option maxRecDepth 100000 in
theorem less_any (lo : Nat) (A : Option Addr) (n c : Nat) (l : List (Int × Int)) (x : Int × Int) (w : World) (hR : Recs pwRow 2 w lo A n c l) (hn : n ≤ 1000000000000) :
    Calls Tryz.prog 63 #[.slice A n c, .agg #[.int .i64 x.1, .int .i64 x.2]] w (WinsV w.heap.size (lessW l x) w) := by
  obtain ⟨w1, hw1⟩ : ∃ w1, w.alloc (.cells #[.int .i64 x.1, .int .i64 x.2] 34) = w1 := ⟨_, rfl⟩
  have HR := Lib.hid (show Blk w1 w.heap.size 34 #[.int .i64 x.1, .int .i64 x.2] by rw [← hw1]; exact Blk.new _ _ _)
  have HG := Lib.hid (show w.grownBy w1 none by rw [← hw1]; exact gr_alloc (gr_refl _ _) _)
  have HW1 := Lib.hid hw1
  have hln := hR.len
  have H := Lib.hid hR
  clear hw1 hR
  go_enter Tryz.func63, Tryz.ntmps63
  go_upto_region 1 with (fail)
  rw [HW1.out]
  clear HW1
  go_wp2_with fail
  go_loopw [5, 7, 9, 12] (fun v5 _ _ t' wr => ∃ (k m cB : Nat) (B : Option Addr), v5 = .slice B m cB ∧ t' = .int .i64 k ∧ k ≤ n ∧ m ≤ 2 * k ∧ OwnR pwRow 2 wr (w.heap.size + 1) 34 B m cB (lessW (l.take k) x) ∧ w.grownBy wr none ∧ Blk wr w.heap.size 34 #[.int .i64 x.1, .int .i64 x.2]) (fun _ _ _ t' _ => n - (intOf t').toNat)
  case atStart => exact ⟨0, 0, 0, none, rfl, rfl, Nat.zero_le _, Nat.le_refl _, OwnR.nil _ _ _, HG.out, HR.out⟩
  case round =>
    clear HG HR
    obtain ⟨wo, rfl⟩ : ∃ wo : World, wo = wr := ⟨_, rfl⟩
    obtain ⟨k, m, cB, B, rfl, rfl, hk, hmk, hown, hg, hr⟩ := hrel
    have HO := Lib.hid hown; have HG := Lib.hid hg; have HR := Lib.hid hr
    have zr := hg.size; have zb0 := hr.lt
    clear hown hg hr
    by_cases hlt : k < n
    · obtain ⟨pg, po, z, rfl, _, _, hp2, hpc⟩ := (H.out.grown HG.out (fun g e => by cases e)).get pwRow_len hlt
      have hlt2 : (k : Int) < (n : Int) := by omega
      have HPC := Lib.hid hpc
      have HLS := Lib.hid (show lessW (l.take (k + 1)) x = lessW (l.take k) x ++ posW (lessP x z) by rw [take_snoc hp2, lessW_snoc, posW_less])
      clear hp2 hpc
      obtain ⟨wa, hwa⟩ : ∃ wa, wo.alloc (.cells #[.int .i64 z.1, .int .i64 z.2] 34) = wa := ⟨_, rfl⟩
      obtain ⟨zb, hzb⟩ : ∃ zb, wo.heap.size = zb := ⟨_, rfl⟩
      have HB := Lib.hid (show Blk wa zb 34 #[.int .i64 z.1, .int .i64 z.2] by rw [← hwa, ← hzb]; exact Blk.new _ _ _)
      have HGa := Lib.hid (show wo.grownBy wa none by rw [← hwa]; exact gr_alloc (gr_refl _ _) _)
      have HWA := Lib.hid hwa; have HZB := Lib.hid hzb
      clear hwa hzb
      go_upto_region 5 with (first
        | (refine wpl_load_at Tryz.winT rfl _ rfl _ rfl [.int .i64 z.1, .int .i64 z.2] rfl (fun j u hu => by rw [add_mk]; exact HPC.out j u hu) ?_)
        | fail)
      rw [HWA.out]
      (try rw [HZB.out])
      replace HO := Lib.hid (HO.out.kept HGa.out (fun g e => by cases e))
      replace HG := Lib.hid (gr_none HG.out HGa.out)
      replace HR := Lib.hid (HR.out.grown HGa.out (by simp))
      have z0 := HB.out.cell 0
      have z1 := HB.out.cell 1
      have x0 := HR.out.cell 0
      have x1 := HR.out.cell 1
      obtain ⟨wl, hwl⟩ : ∃ wl, wa.alloc (.cells #[.int .i64 z.1, .int .i64 (min z.2 x.1), .int .i64 (max z.1 x.2), .int .i64 z.2] 34) = wl := ⟨_, rfl⟩
      obtain ⟨lb, hlb⟩ : ∃ lb, wa.heap.size = lb := ⟨_, rfl⟩
      have HLR := Lib.hid (show Blk wl lb 34 #[.int .i64 z.1, .int .i64 (min z.2 x.1), .int .i64 (max z.1 x.2), .int .i64 z.2] by rw [← hwl, ← hlb]; exact Blk.new _ _ _)
      have HGl := Lib.hid (show wa.grownBy wl none by rw [← hwl]; exact gr_alloc (gr_refl _ _) _)
      have HWL := Lib.hid hwl; have HLB := Lib.hid hlb
      have zl := HG.out.size
      have hnl : blkOf B ≠ some lb := fun e => by have := (HO.out.1.lt e).2; have := HLB.out; omega
      clear hwl hlb HWA HZB HPC HGa HB
      go_upto_region 6 with (fail)
      clear z0 z1 x0 x1
      rw [HWL.out]
      (try rw [HLB.out])
      replace HO := Lib.hid (HO.out.kept HGl.out (fun g e => by cases e))
      replace HG := Lib.hid (gr_none HG.out HGl.out)
      replace HR := Lib.hid (HR.out.grown HGl.out (by simp))
      clear HWL HLB HGl
      go_loopw [5, 9, 34] (fun v5 _ t' wr => ∃ (j m2 c2 : Nat) (B2 : Option Addr), v5 = .slice B2 m2 c2 ∧ t' = .int .i64 j ∧ j ≤ 2 ∧ m2 ≤ 2 * k + j ∧ OwnR pwRow 2 wr (w.heap.size + 1) 34 B2 m2 c2 (lessW (l.take k) x ++ posW ((lessP x z).take j)) ∧ w.grownBy wr none ∧ Blk wr w.heap.size 34 #[.int .i64 x.1, .int .i64 x.2] ∧ Blk wr lb 34 #[.int .i64 z.1, .int .i64 (min z.2 x.1), .int .i64 (max z.1 x.2), .int .i64 z.2] ∧ blkOf B2 ≠ some lb) (fun _ _ t' _ => 2 - (intOf t').toNat)
      case atStart => exact ⟨0, m, cB, B, rfl, rfl, Nat.zero_le _, by omega, by simpa [posW] using HO.out, HG.out, HR.out, HLR.out, hnl⟩
      case round =>
        clear HO HG HR HLR hmk
        obtain ⟨j, m2, c2, B2, rfl, rfl, hj, hmk, hown, hg, hr, hl, hne⟩ := hrel
        have HO := Lib.hid hown; have HG := Lib.hid hg; have HR := Lib.hid hr; have HLR := Lib.hid hl; have HNE := Lib.hid hne
        have zr := hg.size
        clear hown hg hr hl hne
        by_cases hlj : j < 2
        · obtain ⟨yg, yo, y, hye, _, _, hy2, hyc⟩ := (show Recs pwRow 2 wr lb (some ⟨lb, 0, none⟩) 2 2 (lessP x z) from ⟨Reads.blk HLR.out 2 2 rfl, rfl⟩).get pwRow_len hlj
          obtain ⟨rfl, rfl⟩ : lb = yg ∧ 0 = yo := by simpa using hye
          have hlj2 : (j : Int) < ((2 : Nat) : Int) := by omega
          have HYC := Lib.hid (show ∀ (q : Nat) (u : Value), (pwRow y)[q]? = some u → wr.cell? ⟨lb, j * 2 + q, none⟩ = some u from fun q u h => by have h2 := hyc q u h; rw [Nat.zero_add] at h2; exact h2)
          have HPS := Lib.hid (show lessW (l.take k) x ++ posW ((lessP x z).take (j + 1)) = (lessW (l.take k) x ++ posW ((lessP x z).take j)) ++ if y.1 < y.2 then [y] else [] by rw [take_snoc hy2, posW_snoc, List.append_assoc])
          clear hy2 hyc hye
          have hn2 : blkOf B2 ≠ some wr.heap.size := fun e => by have := (HO.out.1.lt e).2; omega
          obtain ⟨wa, hwa⟩ : ∃ wa, wr.alloc (.cells #[.int .i64 y.1, .int .i64 y.2] 34) = wa := ⟨_, rfl⟩
          obtain ⟨zb, hzb⟩ : ∃ zb, wr.heap.size = zb := ⟨_, rfl⟩
          have HB := Lib.hid (show Blk wa zb 34 #[.int .i64 y.1, .int .i64 y.2] by rw [← hwa, ← hzb]; exact Blk.new _ _ _)
          have HGa := Lib.hid (show wr.grownBy wa none by rw [← hwa]; exact gr_alloc (gr_refl _ _) _)
          have HWA := Lib.hid hwa; have HZB := Lib.hid hzb
          clear hwa hzb
          go_upto_region 8 with (first
            | (refine wpl_load_at Tryz.winT rfl _ rfl _ rfl [.int .i64 y.1, .int .i64 y.2] rfl (fun j u hu => by rw [add_mk]; exact HYC.out j u hu) ?_)
            | fail)
          rw [HWA.out]
          (try rw [HZB.out])
          replace HO := Lib.hid (HO.out.kept HGa.out (fun g e => by cases e))
          replace HG := Lib.hid (gr_none HG.out HGa.out)
          replace HR := Lib.hid (HR.out.grown HGa.out (by simp))
          replace HLR := Lib.hid (HLR.out.grown HGa.out (by simp))
          have y0 := HB.out.cell 0
          have y1 := HB.out.cell 1
          clear HWA HZB HYC HGa
          by_cases hp : y.1 < y.2
          · have dp : decide (y.1 < y.2) = true := decide_eq_true hp
            have HN := Lib.hid (HPS.out.trans (by rw [if_pos hp]))
            clear hp
            go_wp2_with (first
              | (refine wpl_load_all Tryz.winT rfl _ rfl _ rfl _ _ HB.out rfl ?_)
              | (at_builtin; refine wpl_app _ rfl _ _ Tryz.winsT rfl (w.heap.size + 1) B2 m2 c2 _ rfl (by exact HO.out.1.alloc _) _ _ 1 1 [.int .i64 y.1, .int .i64 y.2] rfl (by exact Reads.one _ _ _ _ rfl) (by simp [Value.oneCell']) (by unfold maxLen; omega) (by omega) (by have := HR.out.lt; simp; omega) ?_; intro A8 c8 w8 h8; have H8 := Lib.hid h8; clear h8)
              | fail)
            have HO8 := Lib.hid (show OwnR pwRow 2 w8 (w.heap.size + 1) 34 A8 (m2 + 1) c8 (lessW (l.take k) x ++ posW ((lessP x z).take (j + 1))) by rw [HN.out]; exact (HO.out.alloc _).app rfl H8.out)
            have HG8 := Lib.hid (show w.grownBy w8 none from gr_own (lo := w.heap.size + 1) (gr_alloc HG.out _) (HO.out.1.alloc _) (by omega) H8.out.2.1)
            have HR8 := Lib.hid (show Blk w8 w.heap.size 34 #[.int .i64 x.1, .int .i64 x.2] from (HR.out.alloc _).grown H8.out.2.1 (fun e => by have := (HO.out.1.lt e.symm).1; omega))
            have HL8 := Lib.hid (show Blk w8 lb 34 #[.int .i64 z.1, .int .i64 (min z.2 x.1), .int .i64 (max z.1 x.2), .int .i64 z.2] from (HLR.out.alloc _).grown H8.out.2.1 (Ne.symm HNE.out))
            have HN8 := Lib.hid (show blkOf A8 ≠ some lb from fun e => by
              rcases H8.out.2.2 _ e with q | q
              · exact HNE.out q
              · have := HLR.out.lt
                simp at q
                omega)
            clear H8 y0 y1
            go_roundw
            case rel => exact ⟨j + 1, m2 + 1, c8, A8, rfl, by go_num, by omega, by omega, HO8.out, HG8.out, HR8.out, HL8.out, HN8.out⟩
            case measure => simp [intOf]; omega
          · have dp : decide (y.1 < y.2) = false := decide_eq_false hp
            have HN := Lib.hid (HPS.out.trans (by rw [if_neg hp, List.append_nil]))
            clear hp
            go_wp2_with fail
            go_roundw
            case rel => exact ⟨j + 1, m2, c2, B2, rfl, by go_num, by omega, by omega, by rw [HN.out]; exact HO.out, HG.out, HR.out, HLR.out, HNE.out⟩
            case measure => simp [intOf]; omega
        · obtain rfl : j = 2 := by omega
          have HN := Lib.hid (show lessW (l.take (k + 1)) x = lessW (l.take k) x ++ posW ((lessP x z).take 2) by rw [HLS.out]; rfl)
          go_wp2_with fail
          go_roundw
          case rel => exact ⟨k + 1, m2, c2, B2, rfl, by go_num, by omega, by omega, by rw [HN.out]; exact HO.out, HG.out, HR.out⟩
          case measure => simp [intOf]; omega
    · obtain rfl : k = n := by omega
      go_wp2_with fail
      go_ret
      exact ⟨B, m, cB, rfl, by have h9 := HO.out; rw [← hln, List.take_length] at h9; exact h9.lower (Nat.le_succ _), HG.out⟩
end Go.Proofs.YtemfbdmaljddnaaGreatDoor

/- Contracts of end, endOf, isWindow, Longest and LongestOf. Conditions: callers and seats as they lie in memory. -/
import Derived.Test.YtemfbdmaljddnaaGreatDoorBun4
import Derived.Test.YtemfbdmaljddnaaGreatDoorBun3
import Derived.Lib.MinMax
namespace Go.Proofs.YtemfbdmaljddnaaGreatDoor
open Go.RowKit

def winOkB (f t : Int) : Bool := decide (0 ≤ f) && (decide (f ≤ t) && decide (t ≤ 345686400000))
def twoV (n e : Int) : Value := .tuple #[.int .i64 n, .int .i64 e]
def longestV (C : List CaV) (l : List SeV) (f t : Int) : Value := if chkE C l = 0 then (if winOkB f t = true then twoV (lngN f t C l l.length) 0 else twoV 0 1) else twoV 0 (chkE C l)
set_option maxHeartbeats 1000000 in
theorem end_any (z : SeV) (w : World) : Calls Tryz.prog 50 #[.agg #[.string z.ca, .string z.ag, .int .i64 z.how, .int .i64 z.beg, .int .i64 z.fin]] w (RetV (.int .i64 (enV z)) w) := by
  have HV := Lib.hid (show enV z = if z.how = 4 then 345686400000 else z.beg from rfl)
  by_cases h : z.how = 4
  · have d : (z.how == 4) = true := by simpa using h
    rw [if_pos h] at HV
    clear h
    go_enter Tryz.func50, Tryz.ntmps50
    go_wp2_with fail
    go_ret
    exact ⟨by rw [HV.out]; try rfl, gr_alloc (gr_refl _ _) _⟩
  · have d : (z.how == 4) = false := by simpa using h
    rw [if_neg h] at HV
    clear h
    go_enter Tryz.func50, Tryz.ntmps50
    go_wp2_with fail
    go_ret
    exact ⟨by rw [HV.out]; try rfl, gr_alloc (gr_refl _ _) _⟩
set_option maxHeartbeats 1000000 in
theorem endOf_any (z : SeV) (w : World) : Calls Tryz.prog 55 #[.agg #[.string z.ca, .string z.ag, .int .i64 z.how, .int .i64 z.beg, .int .i64 z.fin]] w (RetV (.int .i64 (enV z)) w) := by
  have HV := Lib.hid (show enV z = if z.how = 4 then 345686400000 else z.beg from rfl)
  by_cases h : z.how = 4
  · have d : (z.how == 4) = true := by simpa using h
    rw [if_pos h] at HV
    clear h
    go_enter Tryz.func55, Tryz.ntmps55
    go_wp2_with fail
    go_ret
    exact ⟨by rw [HV.out]; try rfl, gr_alloc (gr_refl _ _) _⟩
  · have d : (z.how == 4) = false := by simpa using h
    rw [if_neg h] at HV
    clear h
    go_enter Tryz.func55, Tryz.ntmps55
    go_wp2_with fail
    go_ret
    exact ⟨by rw [HV.out]; try rfl, gr_alloc (gr_refl _ _) _⟩
set_option maxHeartbeats 2000000 in
theorem isWindow_any (f t : Int) (w : World) : Calls Tryz.prog 49 #[.agg #[.int .i64 f, .int .i64 t]] w (RetV (.bool (winOkB f t)) w) := by
  obtain ⟨B1, h1⟩ : ∃ B, decide (0 ≤ f) = B := ⟨_, rfl⟩
  obtain ⟨B2, h2⟩ : ∃ B, decide (f ≤ t) = B := ⟨_, rfl⟩
  obtain ⟨B3, h3⟩ : ∃ B, decide (t ≤ 345686400000) = B := ⟨_, rfl⟩
  have HV := Lib.hid (show winOkB f t = (B1 && (B2 && B3)) by unfold winOkB; rw [h1, h2, h3])
  cases B1 <;> cases B2
  all_goals
    go_enter Tryz.func49, Tryz.ntmps49
    go_wp2_with fail
    go_ret
    exact ⟨by rw [HV.out]; try rfl, gr_alloc (gr_refl _ _) _⟩
section
variable (lo1 lo2 : Nat) (cA : Option Addr) (n cc : Nat) (C : List CaV) (A : Option Addr) (m c0 : Nat) (l : List SeV) (w : World)
set_option maxHeartbeats 16000000 in
set_option maxRecDepth 100000 in
theorem Longest_any (f t : Int) (hC : Cas w lo1 cA n cc C) (hS : Ses w lo2 A m c0 l) (hn : n ≤ 1000000000) (hm : m ≤ 1000000000) :
    Calls Tryz.prog 13 #[.slice cA n cc, .slice A m c0, .agg #[.int .i64 f, .int .i64 t]] w (RetV (longestV C l f t) w) := by
  obtain ⟨w1, hw1⟩ : ∃ w1, w.alloc (.cells #[.int .i64 f, .int .i64 t] 34) = w1 := ⟨_, rfl⟩
  have HR := Lib.hid (show Blk w1 w.heap.size 34 #[.int .i64 f, .int .i64 t] by rw [← hw1]; exact Blk.new _ _ _)
  have HG := Lib.hid (show w.grownBy w1 none by rw [← hw1]; exact gr_alloc (gr_refl _ _) _)
  have HW1 := Lib.hid hw1
  have hlc := hC.1.len; have hls := hS.1.len
  have HC := Lib.hid hC; have HS := Lib.hid hS
  obtain ⟨E, hE⟩ : ∃ E, chkE C l = E := ⟨_, rfl⟩
  have HE := Lib.hid hE
  obtain ⟨O, hO⟩ : ∃ O, winOkB f t = O := ⟨_, rfl⟩
  have HO := Lib.hid hO
  clear hw1 hC hS hE hO
  go_enter Tryz.func13, Tryz.ntmps13
  go_upto_region 1 with (fail)
  rw [HW1.out]
  clear HW1
  go_wp2_with fail
  refine (checkSeats_any lo1 lo2 cA n cc C A m c0 l _ (HC.out.grown HG.out (fun g e => by cases e)) (HS.out.grown HG.out (fun g e => by cases e)) hn hm).mono ?_
  rintro e w2 ⟨rfl, hg2⟩
  rw [HE.out]
  replace HR := Lib.hid (HR.out.grown hg2 (by simp))
  replace HG := Lib.hid (gr_none HG.out hg2)
  clear hg2
  by_cases hz : E = 0
  · have dz : (E != 0) = false := by simpa using hz
    have he0 := HE.out.trans hz
    obtain ⟨h1, h2, h3, h4⟩ := chkE_num he0
    have HNUM := Lib.hid (fun x hx => caNum_n (casE_num h1 x hx))
    obtain rfl : m = n := by rw [← hls, ← hlc]; exact h3
    have HV0 := Lib.hid (show longestV C l f t = if O = true then twoV (lngN f t C l l.length) 0 else twoV 0 1 by unfold longestV; rw [if_pos he0, HO.out])
    clear hz h1 h2 h3 h4 he0
    go_wp2_with (first
      | (refine wpl_load_all Tryz.winT rfl _ rfl _ rfl _ _ HR.out rfl ?_)
      | fail)
    refine (isWindow_any f t _).mono ?_
    rintro e w3 ⟨rfl, hg3⟩
    rw [HO.out]
    replace HR := Lib.hid (HR.out.grown hg3 (by simp))
    replace HG := Lib.hid (gr_none HG.out hg3)
    clear hg3
    cases O
    · have HV := Lib.hid (show longestV C l f t = twoV 0 1 from HV0.out)
      go_wp2_with fail
      go_ret2
      exact ⟨by rw [HV.out]; try rfl, HG.out⟩
    · have ho := HO.out
      unfold winOkB at ho
      simp only [Bool.and_eq_true, decide_eq_true_eq] at ho
      obtain ⟨o1, o2, o3⟩ := ho
      have HV := Lib.hid (show longestV C l f t = twoV (lngN f t C l m) 0 by rw [HV0.out, if_pos rfl, hls])
      clear HV0
      go_wp2_with fail
      go_loopw [9, 10, 11, 12, 13, 25] (fun v9 _ _ _ _ t' wr => ∃ (k : Nat) (b : Int), k ≤ m ∧ t' = .int .i64 k ∧ v9 = .int .i64 b ∧ lngN f t C l k = b ∧ 0 ≤ b ∧ b ≤ 1000000000000 ∧ w.grownBy wr none ∧ Blk wr w.heap.size 34 #[.int .i64 f, .int .i64 t]) (fun _ _ _ _ _ t' _ => m - (intOf t').toNat)
      case atStart => exact ⟨0, 0, Nat.zero_le _, rfl, rfl, rfl, Int.le_refl _, by omega, HG.out, HR.out⟩
      case round =>
        clear HG HR
        obtain ⟨k, b, hk, rfl, rfl, hbb, b0, b1, hg, hr⟩ := hrel
        have HG := Lib.hid hg; have HR := Lib.hid hr; have HBB := Lib.hid hbb
        have zr := hr.lt
        clear hg hr hbb
        by_cases hlt : k < m
        · obtain ⟨sg, sof, z, rfl, _, _, hz2, hzc⟩ := (HS.out.1.grown HG.out (fun g e => by cases e)).get SeV.row_len hlt
          obtain ⟨cg, co, c, rfl, _, _, hc2, hcc⟩ := (HC.out.1.grown HG.out (fun g e => by cases e)).get CaV.row_len hlt
          obtain ⟨m1, m2, _⟩ := HNUM.out c (mem_of_get hc2)
          obtain ⟨_, _, s1, s2, _⟩ := HS.out.2 z (mem_of_get hz2)
          have hlt2 : (k : Int) < (m : Int) := by omega
          have HZC := Lib.hid hzc
          have HC2 := Lib.hid hc2
          have HLN := Lib.hid (lngN_succ (f := f) (t := t) hz2 hc2)
          obtain ⟨wa, hwa⟩ : ∃ wa, wr.alloc (.cells #[.string z.ca, .string z.ag, .int .i64 z.how, .int .i64 z.beg, .int .i64 z.fin] 68) = wa := ⟨_, rfl⟩
          obtain ⟨zb, hzb⟩ : ∃ zb, wr.heap.size = zb := ⟨_, rfl⟩
          have HB := Lib.hid (show Blk wa zb 68 #[.string z.ca, .string z.ag, .int .i64 z.how, .int .i64 z.beg, .int .i64 z.fin] by rw [← hwa, ← hzb]; exact Blk.new _ _ _)
          have HGa := Lib.hid (show wr.grownBy wa none by rw [← hwa]; exact gr_alloc (gr_refl _ _) _)
          have HWA := Lib.hid hwa; have HZB := Lib.hid hzb
          obtain ⟨en, hen⟩ : ∃ en, enV z = en := ⟨_, rfl⟩
          have hen1 : -1152921504606846976 ≤ en ∧ en ≤ 1152921504606846976 := by
            rw [← hen]; unfold enV; split <;> omega
          have HEN := Lib.hid hen
          clear hwa hzb hz2 hc2 hzc hcc hen s1 s2
          go_upto_region 10 with (first
            | (refine wpl_load_at Tryz.seT rfl _ rfl _ rfl [.string z.ca, .string z.ag, .int .i64 z.how, .int .i64 z.beg, .int .i64 z.fin] rfl (fun j u hu => by rw [add_mk]; exact HZC.out j u hu) ?_)
            | fail)
          rw [HWA.out]
          (try rw [HZB.out])
          replace HG := Lib.hid (gr_none HG.out HGa.out)
          replace HR := Lib.hid (HR.out.grown HGa.out (by simp))
          clear HWA HZB HZC HGa
          refine H_begin (fun w' => wa.grownBy w' none) (by kernel_rfl) ?_
          have hHeld : wa.grownBy wa.drew none := gr_drew (gr_refl _ _)
          refine H_take (k := 0) (v := ?_) (by rfl) (by kernel_rfl) (by kernel_rfl) (by kernel_rfl) (by exact fun _ _ _ h => h) (by rfl) ?_ (by assumption) ?_
          rotate_left 1
          · intro w hSw
            (try dsimp only at hSw)
            go_simp
            (try with_reducible rfl)
          (try simp only [Act.put, List.setIfInBounds_toArray, List.set_cons_zero, List.set_cons_succ])
          refine H_take (k := 1) (v := ?_) (by rfl) (by kernel_rfl) (by kernel_rfl) (by kernel_rfl) (by exact fun _ _ _ h => h) (by rfl) ?_ (by assumption) ?_
          rotate_left 1
          · intro w hSw
            (try dsimp only at hSw)
            go_simp
            (try with_reducible rfl)
          (try simp only [Act.put, List.setIfInBounds_toArray, List.set_cons_zero, List.set_cons_succ])
          refine H_take (k := 2) (v := ?_) (by rfl) (by kernel_rfl) (by kernel_rfl) (by kernel_rfl) (by exact fun _ _ _ h => h) (by rfl) ?_ (by assumption) ?_
          rotate_left 1
          · intro w hSw
            (try dsimp only at hSw)
            go_simp
            (try with_reducible rfl)
          (try simp only [Act.put, List.setIfInBounds_toArray, List.set_cons_zero, List.set_cons_succ])
          refine H_take (k := 3) (v := ?_) (by rfl) (by kernel_rfl) (by kernel_rfl) (by kernel_rfl) (by exact fun _ _ _ h => h) (by rfl) ?_ (by assumption) ?_
          rotate_left 1
          · intro w hSw
            (try dsimp only at hSw)
            go_simp
            (try with_reducible rfl)
          (try simp only [Act.put, List.setIfInBounds_toArray, List.set_cons_zero, List.set_cons_succ])
          refine H_take (k := 4) (v := ?_) (by rfl) (by kernel_rfl) (by kernel_rfl) (by kernel_rfl) (by exact fun _ _ _ h => h) (by rfl) ?_ (by assumption) ?_
          rotate_left 1
          · intro w' hSw
            have kc := ((HC.out.1.grown HG.out (fun g e => by cases e)).grown hSw (fun g e => by cases e)).at_ CaV.row_len HC2.out 2 _ rfl
            go_simp
            (try with_reducible rfl)
          (try simp only [Act.put, List.setIfInBounds_toArray, List.set_cons_zero, List.set_cons_succ])
          refine H_take (k := 5) (v := .agg #[.string z.ca, .string z.ag, .int .i64 z.how, .int .i64 z.beg, .int .i64 z.fin]) (by rfl) (by kernel_rfl) (by kernel_rfl) (by kernel_rfl) (by exact fun _ _ _ h => h) (by rfl) (fun w' hSw => exec_ldb Tryz.seT _ rfl _ rfl 68 [.string z.ca, .string z.ag, .int .i64 z.how, .int .i64 z.beg, .int .i64 z.fin] (HB.out.grown hSw (by simp)) rfl) (by assumption) ?_
          (try simp only [Act.put, List.setIfInBounds_toArray, List.set_cons_zero, List.set_cons_succ])
          refine H_take (k := 7) (v := ?_) (by rfl) (by kernel_rfl) (by kernel_rfl) (by kernel_rfl) (by exact fun _ _ _ h => h) (by rfl) ?_ (by assumption) ?_
          rotate_left 1
          · intro w hSw
            (try dsimp only at hSw)
            go_simp
            (try with_reducible rfl)
          (try simp only [Act.put, List.setIfInBounds_toArray, List.set_cons_zero, List.set_cons_succ])
          refine H_take (k := 8) (v := ?_) (by rfl) (by kernel_rfl) (by kernel_rfl) (by kernel_rfl) (by exact fun _ _ _ h => h) (by rfl) ?_ (by assumption) ?_
          rotate_left 1
          · intro w' hSw
            have kc := (HR.out.grown hSw (by simp)).cell 1
            go_simp
            (try with_reducible rfl)
          (try simp only [Act.put, List.setIfInBounds_toArray, List.set_cons_zero, List.set_cons_succ])
          refine H_run (k := 6) (by rfl) (by kernel_rfl) (by rfl) (fun K hK => ?_)
          go_simp
          refine (end_any z _).mono ?_
          rintro e w6 ⟨rfl, hg6⟩
          rw [HEN.out]
          have hgz : wa.grownBy w6 none := gr_none hHeld hg6
          refine hK _ _ hgz ?_
          clear hK K hHeld hg6
          have hHeld := hgz
          (try simp only [Act.put, List.setIfInBounds_toArray, List.set_cons_zero, List.set_cons_succ])
          refine H_take (k := 9) (v := ?_) (by rfl) (by kernel_rfl) (by kernel_rfl) (by kernel_rfl) (by exact fun _ _ _ h => h) (by rfl) ?_ (by assumption) ?_
          rotate_left 1
          · intro w hSw
            (try dsimp only at hSw)
            go_simp
            (try with_reducible rfl)
          (try simp only [Act.put, List.setIfInBounds_toArray, List.set_cons_zero, List.set_cons_succ])
          refine H_take (k := 10) (v := ?_) (by rfl) (by kernel_rfl) (by kernel_rfl) (by kernel_rfl) (by exact fun _ _ _ h => h) (by rfl) ?_ (by assumption) ?_
          rotate_left 1
          · intro w hSw
            (try dsimp only at hSw)
            go_simp
            (try with_reducible rfl)
          (try simp only [Act.put, List.setIfInBounds_toArray, List.set_cons_zero, List.set_cons_succ])
          refine H_take (k := 11) (v := ?_) (by rfl) (by kernel_rfl) (by kernel_rfl) (by kernel_rfl) (by exact fun _ _ _ h => h) (by rfl) ?_ (by assumption) ?_
          rotate_left 1
          · intro w hSw
            (try dsimp only at hSw)
            go_simp
            (try with_reducible rfl)
          (try simp only [Act.put, List.setIfInBounds_toArray, List.set_cons_zero, List.set_cons_succ])
          refine H_done (by kernel_rfl) ?_
          replace HR := Lib.hid (HR.out.grown hHeld (by simp))
          replace HG := Lib.hid (gr_none HG.out hHeld)
          clear hHeld hgz
          have k0 := HR.out.cell 0
          by_cases hh : max c.at_ f < min en t
          · have dh : decide (max c.at_ f < min en t) = true := decide_eq_true hh
            have q1 : IntKind.i64.wrap (min en t - c.at_) = min en t - c.at_ := IntWalk.i64_in _ (by omega)
            have HN := Lib.hid (show lngN f t C l (k + 1) = max b (min en t - c.at_) by rw [HLN.out]; unfold lng1; rw [HEN.out, if_pos hh, HBB.out])
            have b2 : max b (min en t - c.at_) ≤ 1000000000000 := by omega
            have b3 : 0 ≤ max b (min en t - c.at_) := by omega
            clear hh
            go_wp2_with fail
            go_roundw
            case rel => exact ⟨k + 1, _, by omega, by go_num, rfl, HN.out, b3, b2, HG.out, HR.out⟩
            case measure => simp [intOf]; omega
          · have dh : decide (max c.at_ f < min en t) = false := decide_eq_false hh
            have HN := Lib.hid (show lngN f t C l (k + 1) = b by rw [HLN.out]; unfold lng1; rw [HEN.out, if_neg hh, HBB.out])
            clear hh
            go_wp2_with fail
            go_roundw
            case rel => exact ⟨k + 1, b, by omega, by go_num, rfl, HN.out, b0, b1, HG.out, HR.out⟩
            case measure => simp [intOf]; omega
        · obtain rfl : k = m := by omega
          go_wp2_with fail
          go_ret2
          exact ⟨by rw [HV.out, HBB.out]; try rfl, HG.out⟩
  · have dz : (E != 0) = true := by simpa using hz
    have HV := Lib.hid (show longestV C l f t = twoV 0 E by unfold longestV; rw [if_neg (by rw [HE.out]; exact hz), HE.out])
    clear hz
    go_wp2_with fail
    go_ret2
    exact ⟨by rw [HV.out]; try rfl, HG.out⟩
set_option maxHeartbeats 16000000 in
set_option maxRecDepth 100000 in
theorem longestOf_any (f t : Int) (hC : Cas w lo1 cA n cc C) (hS : Ses w lo2 A n c0 l) (hnum : ∀ c ∈ C, CaN c) (ho : winOkB f t = true) (hn : n ≤ 1000000000) :
    Calls Tryz.prog 19 #[.slice cA n cc, .slice A n c0, .agg #[.int .i64 f, .int .i64 t]] w (RetV (.int .i64 (lngN f t C l n)) w) := by
  obtain ⟨w1, hw1⟩ : ∃ w1, w.alloc (.cells #[.int .i64 f, .int .i64 t] 34) = w1 := ⟨_, rfl⟩
  have HR := Lib.hid (show Blk w1 w.heap.size 34 #[.int .i64 f, .int .i64 t] by rw [← hw1]; exact Blk.new _ _ _)
  have HG := Lib.hid (show w.grownBy w1 none by rw [← hw1]; exact gr_alloc (gr_refl _ _) _)
  have HW1 := Lib.hid hw1
  have HC := Lib.hid hC; have HS := Lib.hid hS; have HNUM := Lib.hid hnum
  unfold winOkB at ho
  simp only [Bool.and_eq_true, decide_eq_true_eq] at ho
  obtain ⟨o1, o2, o3⟩ := ho
  clear hw1 hC hS hnum
  go_enter Tryz.func19, Tryz.ntmps19
  go_upto_region 1 with (fail)
  rw [HW1.out]
  clear HW1
  go_wp2_with fail
  go_loopw [7, 8, 9, 10, 11, 14] (fun v7 _ _ _ _ t' wr => ∃ (k : Nat) (b : Int), k ≤ n ∧ t' = .int .i64 k ∧ v7 = .int .i64 b ∧ lngN f t C l k = b ∧ 0 ≤ b ∧ b ≤ 1000000000000 ∧ w.grownBy wr none ∧ Blk wr w.heap.size 34 #[.int .i64 f, .int .i64 t]) (fun _ _ _ _ _ t' _ => n - (intOf t').toNat)
  case atStart => exact ⟨0, 0, Nat.zero_le _, rfl, rfl, rfl, Int.le_refl _, by omega, HG.out, HR.out⟩
  case round =>
    clear HG HR
    obtain ⟨k, b, hk, rfl, rfl, hbb, b0, b1, hg, hr⟩ := hrel
    have HG := Lib.hid hg; have HR := Lib.hid hr; have HBB := Lib.hid hbb
    have zr := hr.lt
    clear hg hr hbb
    by_cases hlt : k < n
    · obtain ⟨sg, sof, z, rfl, _, _, hz2, hzc⟩ := (HS.out.1.grown HG.out (fun g e => by cases e)).get SeV.row_len hlt
      obtain ⟨cg, co, c, rfl, _, _, hc2, hcc⟩ := (HC.out.1.grown HG.out (fun g e => by cases e)).get CaV.row_len hlt
      obtain ⟨m1, m2, _⟩ := HNUM.out c (mem_of_get hc2)
      obtain ⟨_, _, s1, s2, _⟩ := HS.out.2 z (mem_of_get hz2)
      have hlt2 : (k : Int) < (n : Int) := by omega
      have HZC := Lib.hid hzc
      have HC2 := Lib.hid hc2
      have HLN := Lib.hid (lngN_succ (f := f) (t := t) hz2 hc2)
      obtain ⟨wa, hwa⟩ : ∃ wa, wr.alloc (.cells #[.string z.ca, .string z.ag, .int .i64 z.how, .int .i64 z.beg, .int .i64 z.fin] 68) = wa := ⟨_, rfl⟩
      obtain ⟨zb, hzb⟩ : ∃ zb, wr.heap.size = zb := ⟨_, rfl⟩
      have HB := Lib.hid (show Blk wa zb 68 #[.string z.ca, .string z.ag, .int .i64 z.how, .int .i64 z.beg, .int .i64 z.fin] by rw [← hwa, ← hzb]; exact Blk.new _ _ _)
      have HGa := Lib.hid (show wr.grownBy wa none by rw [← hwa]; exact gr_alloc (gr_refl _ _) _)
      have HWA := Lib.hid hwa; have HZB := Lib.hid hzb
      obtain ⟨en, hen⟩ : ∃ en, enV z = en := ⟨_, rfl⟩
      have hen1 : -1152921504606846976 ≤ en ∧ en ≤ 1152921504606846976 := by
        rw [← hen]; unfold enV; split <;> omega
      have HEN := Lib.hid hen
      clear hwa hzb hz2 hc2 hzc hcc hen s1 s2
      go_upto_region 5 with (first
        | (refine wpl_load_at Tryz.seT rfl _ rfl _ rfl [.string z.ca, .string z.ag, .int .i64 z.how, .int .i64 z.beg, .int .i64 z.fin] rfl (fun j u hu => by rw [add_mk]; exact HZC.out j u hu) ?_)
        | fail)
      rw [HWA.out]
      (try rw [HZB.out])
      replace HG := Lib.hid (gr_none HG.out HGa.out)
      replace HR := Lib.hid (HR.out.grown HGa.out (by simp))
      clear HWA HZB HZC HGa
      refine H_begin (fun w' => wa.grownBy w' none) (by kernel_rfl) ?_
      have hHeld : wa.grownBy wa.drew none := gr_drew (gr_refl _ _)
      refine H_take (k := 0) (v := .agg #[.string z.ca, .string z.ag, .int .i64 z.how, .int .i64 z.beg, .int .i64 z.fin]) (by rfl) (by kernel_rfl) (by kernel_rfl) (by kernel_rfl) (by exact fun _ _ _ h => h) (by rfl) (fun w' hSw => exec_ldb Tryz.seT _ rfl _ rfl 68 [.string z.ca, .string z.ag, .int .i64 z.how, .int .i64 z.beg, .int .i64 z.fin] (HB.out.grown hSw (by simp)) rfl) (by assumption) ?_
      (try simp only [Act.put, List.setIfInBounds_toArray, List.set_cons_zero, List.set_cons_succ])
      refine H_take (k := 2) (v := ?_) (by rfl) (by kernel_rfl) (by kernel_rfl) (by kernel_rfl) (by exact fun _ _ _ h => h) (by rfl) ?_ (by assumption) ?_
      rotate_left 1
      · intro w hSw
        (try dsimp only at hSw)
        go_simp
        (try with_reducible rfl)
      (try simp only [Act.put, List.setIfInBounds_toArray, List.set_cons_zero, List.set_cons_succ])
      refine H_take (k := 3) (v := ?_) (by rfl) (by kernel_rfl) (by kernel_rfl) (by kernel_rfl) (by exact fun _ _ _ h => h) (by rfl) ?_ (by assumption) ?_
      rotate_left 1
      · intro w' hSw
        have kc := (HR.out.grown hSw (by simp)).cell 1
        go_simp
        (try with_reducible rfl)
      (try simp only [Act.put, List.setIfInBounds_toArray, List.set_cons_zero, List.set_cons_succ])
      refine H_run (k := 1) (by rfl) (by kernel_rfl) (by rfl) (fun K hK => ?_)
      go_simp
      refine (endOf_any z _).mono ?_
      rintro e w6 ⟨rfl, hg6⟩
      rw [HEN.out]
      have hgz : wa.grownBy w6 none := gr_none hHeld hg6
      refine hK _ _ hgz ?_
      clear hK K hHeld hg6
      have hHeld := hgz
      (try simp only [Act.put, List.setIfInBounds_toArray, List.set_cons_zero, List.set_cons_succ])
      refine H_take (k := 4) (v := ?_) (by rfl) (by kernel_rfl) (by kernel_rfl) (by kernel_rfl) (by exact fun _ _ _ h => h) (by rfl) ?_ (by assumption) ?_
      rotate_left 1
      · intro w hSw
        (try dsimp only at hSw)
        go_simp
        (try with_reducible rfl)
      (try simp only [Act.put, List.setIfInBounds_toArray, List.set_cons_zero, List.set_cons_succ])
      refine H_take (k := 5) (v := ?_) (by rfl) (by kernel_rfl) (by kernel_rfl) (by kernel_rfl) (by exact fun _ _ _ h => h) (by rfl) ?_ (by assumption) ?_
      rotate_left 1
      · intro w hSw
        (try dsimp only at hSw)
        go_simp
        (try with_reducible rfl)
      (try simp only [Act.put, List.setIfInBounds_toArray, List.set_cons_zero, List.set_cons_succ])
      refine H_done (by kernel_rfl) ?_
      replace HR := Lib.hid (HR.out.grown hHeld (by simp))
      replace HG := Lib.hid (gr_none HG.out hHeld)
      clear hHeld hgz
      have kc := (HC.out.1.grown HG.out (fun g e => by cases e)).at_ CaV.row_len HC2.out 2 _ rfl
      have k0 := HR.out.cell 0
      by_cases ha : c.at_ < min en t
      · have da : decide (c.at_ < min en t) = true := decide_eq_true ha
        by_cases hb : f < min en t
        · have db : decide (f < min en t) = true := decide_eq_true hb
          have q1 : IntKind.i64.wrap (min en t - c.at_) = min en t - c.at_ := IntWalk.i64_in _ (by omega)
          have HN := Lib.hid (show lngN f t C l (k + 1) = max b (min en t - c.at_) by rw [HLN.out]; unfold lng1; rw [HEN.out, if_pos (by omega), HBB.out])
          have b2 : max b (min en t - c.at_) ≤ 1000000000000 := by omega
          have b3 : 0 ≤ max b (min en t - c.at_) := by omega
          clear ha hb
          go_wp2_with fail
          go_roundw
          case rel => exact ⟨k + 1, _, by omega, by go_num, rfl, HN.out, b3, b2, HG.out, HR.out⟩
          case measure => simp [intOf]; omega
        · have db : decide (f < min en t) = false := decide_eq_false hb
          have HN := Lib.hid (show lngN f t C l (k + 1) = b by rw [HLN.out]; unfold lng1; rw [HEN.out, if_neg (by omega), HBB.out])
          clear ha hb
          go_wp2_with fail
          go_roundw
          case rel => exact ⟨k + 1, b, by omega, by go_num, rfl, HN.out, b0, b1, HG.out, HR.out⟩
          case measure => simp [intOf]; omega
      · have da : decide (c.at_ < min en t) = false := decide_eq_false ha
        have HN := Lib.hid (show lngN f t C l (k + 1) = b by rw [HLN.out]; unfold lng1; rw [HEN.out, if_neg (by omega), HBB.out])
        clear ha
        go_wp2_with fail
        go_roundw
        case rel => exact ⟨k + 1, b, by omega, by go_num, rfl, HN.out, b0, b1, HG.out, HR.out⟩
        case measure => simp [intOf]; omega
    · obtain rfl : k = n := by omega
      go_wp2_with fail
      go_ret
      exact ⟨by rw [HBB.out]; try rfl, HG.out⟩
end
end Go.Proofs.YtemfbdmaljddnaaGreatDoor

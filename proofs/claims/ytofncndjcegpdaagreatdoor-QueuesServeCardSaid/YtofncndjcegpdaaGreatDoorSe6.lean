/- Contracts of ServedOf, LostOf and WaitedOf. Conditions: callers whose numbers are in bounds; for WaitedOf: seats that are right. -/
import Derived.Test.YtofncndjcegpdaaGreatDoorSe5
namespace Go.Proofs.YtofncndjcegpdaaGreatDoor
open Go.RowKit

def waitD (C : List CaV) (l : List SeV) : Value := if waN l l.length = 0 then .tuple #[.agg #[.int .i64 0, .int .i64 0], .bool false] else .tuple #[.agg #[.int .i64 (lowV (waS C l l.length) (waN l l.length)).1, .int .i64 (lowV (waS C l l.length) (waN l l.length)).2], .bool true]
theorem partD_of (a b : Nat) : ∃ (P Q : Int) (B : Bool), partD a b = .tuple #[.agg #[.int .i64 P, .int .i64 Q], .bool B] := by
  unfold partD
  split
  · exact ⟨_, _, _, rfl⟩
  · exact ⟨_, _, _, rfl⟩
section
variable (lo1 lo2 : Nat) (cA : Option Addr) (n cc : Nat) (C : List CaV) (A : Option Addr) (c0 : Nat) (l : List SeV) (w : World)
set_option maxHeartbeats 8000000 in
theorem servedOf_any (most short : Int) (hC : Cas w lo1 cA n cc C) (hS : Ses w lo2 A n c0 l) (hn : n ≤ 1000000) (hnum : ∀ c ∈ C, CaN c) :
    Calls Tryz.prog 19 #[.slice cA n cc, .slice A n c0, .int .i64 most, .int .i64 short] w (RetV (partD (soN (inTime most) C l (partL (inTime most) short C l)) (partL (inTime most) short C l).length) w) := by
  obtain ⟨w1, hw1⟩ : ∃ w1, w.alloc (.cells #[.slice cA n cc] 26) = w1 := ⟨_, rfl⟩
  obtain ⟨w2, hw2⟩ : ∃ w2, w1.alloc (.cells #[.slice A n c0] 29) = w2 := ⟨_, rfl⟩
  obtain ⟨w3, hw3⟩ : ∃ w3, w2.alloc (.cells #[.int .i64 most] 3) = w3 := ⟨_, rfl⟩
  obtain ⟨w4, hw4⟩ : ∃ w4, w3.alloc (.cells #[.int .i64 0, .int .i64 0] 32) = w4 := ⟨_, rfl⟩
  have hz1 : w1.heap.size = w.heap.size + 1 := by rw [← hw1]; simp
  have hz2 : w2.heap.size = w.heap.size + 2 := by rw [← hw2]; simp [hz1]
  have hz3 : w3.heap.size = w.heap.size + 3 := by rw [← hw3]; simp [hz2]
  have HB1 := Lib.hid (show Blk w4 w.heap.size 26 #[.slice cA n cc] by rw [← hw4, ← hw3, ← hw2, ← hw1]; exact (((Blk.new _ _ _).alloc _).alloc _).alloc _)
  have HB2 := Lib.hid (show Blk w4 (w.heap.size + 1) 29 #[.slice A n c0] by rw [← hw4, ← hw3, ← hw2, ← hz1]; exact ((Blk.new _ _ _).alloc _).alloc _)
  have HB3 := Lib.hid (show Blk w4 (w.heap.size + 2) 3 #[.int .i64 most] by rw [← hw4, ← hw3, ← hz2]; exact (Blk.new _ _ _).alloc _)
  have HR := Lib.hid (show Blk w4 (w.heap.size + 3) 32 #[.int .i64 0, .int .i64 0] by rw [← hw4, ← hz3]; exact Blk.new _ _ _)
  have HG := Lib.hid (show w.grownBy w4 none by rw [← hw4, ← hw3, ← hw2, ← hw1]; exact gr_alloc (gr_alloc (gr_alloc (gr_alloc (gr_refl _ _) _) _) _) _)
  have HW1 := Lib.hid hw1; have HW2 := Lib.hid hw2; have HW3 := Lib.hid hw3; have HW4 := Lib.hid hw4
  have HZ1 := Lib.hid hz1; have HZ2 := Lib.hid hz2; have HZ3 := Lib.hid hz3
  have HC := Lib.hid hC; have HS := Lib.hid hS; have HNUM := Lib.hid hnum
  have hls := hS.1.len
  clear hw1 hw2 hw3 hw4 hz1 hz2 hz3 hC hS hnum
  go_enter Tryz.func19, Tryz.ntmps19
  go_upto_region 1 with (fail)
  rw [HW1.out, HW2.out, HW3.out, HW4.out]
  (try rw [HZ1.out])
  (try rw [HZ2.out])
  (try rw [HZ3.out])
  have b1 := HB1.out.cell 0
  have b2 := HB2.out.cell 0
  go_wp2_with fail
  refine (counting_any short lo1 lo2 cA n cc C A c0 l _ (HC.out.grown HG.out (fun g e => by cases e)) (HS.out.grown HG.out (fun g e => by cases e)) hn HNUM.out).mono ?_
  rintro e w5 ⟨B, m, cB, rfl, ho, hg5, hmn⟩
  have HO := Lib.hid ho
  clear b1 b2
  replace HB1 := Lib.hid (HB1.out.grown hg5 (by simp)); replace HB2 := Lib.hid (HB2.out.grown hg5 (by simp)); replace HB3 := Lib.hid (HB3.out.grown hg5 (by simp)); replace HR := Lib.hid (HR.out.grown hg5 (by simp)); replace HG := Lib.hid (gr_none HG.out hg5)
  clear hg5 ho
  go_wp2_with fail
  refine (svoOf_any (inTime most) C l w4.heap.size B m cB (ctL short C l n) (.pointer (some ⟨w.heap.size + 1, 0, none⟩)) (.pointer (some ⟨w.heap.size, 0, none⟩)) (.pointer (some ⟨w.heap.size + 2, 0, none⟩)) _ HO.out.recs (by omega)
    (fun w1 i hg hi => svo_any most i lo1 lo2 cA n cc C A c0 l (w.heap.size + 1) w.heap.size (w.heap.size + 2) w1 (HC.out.grown (gr_none HG.out hg) (fun g e => by cases e)) (HS.out.grown (gr_none HG.out hg) (fun g e => by cases e)) (ctL_mem hi) HNUM.out (HB2.out.grown hg (by simp)) (HB1.out.grown hg (by simp)) (HB3.out.grown hg (by simp)))).mono ?_
  rintro e w6 ⟨rfl, hg6⟩
  obtain ⟨P, Q, X, hX⟩ := partD_of (soN (inTime most) C l (ctL short C l n)) (ctL short C l n).length
  have HV := Lib.hid (show partD (soN (inTime most) C l (partL (inTime most) short C l)) (partL (inTime most) short C l).length = .tuple #[.agg #[.int .i64 P, .int .i64 Q], .bool X] by unfold partL; rw [hls]; exact hX)
  rw [hX]
  replace HR := Lib.hid (HR.out.grown hg6 (by simp)); replace HG := Lib.hid (gr_none HG.out hg6)
  clear hg6 hX HO HB1 HB2 HB3
  go_wp2_with (first
    | (refine wpl_store_all Tryz.frT rfl _ _ rfl _ rfl _ _ _ rfl HR.out rfl rfl (by simp [Value.oneCell']) ?_
       intro wz hst
       have HST := Lib.hid hst; clear hst)
    | fail)
  refine ret_cell_tmp Tryz.frT rfl (w.heap.size + 3) 32 #[.int .i64 P, .int .i64 Q] _ rfl rfl HST.out.1 rfl rfl ?_
  exact ⟨by rw [HV.out]; try rfl, gr_trans HG.out HST.out.2.1 (fun g e => .inr (by injection e with e; omega))⟩
set_option maxHeartbeats 8000000 in
theorem lostOf_any (short : Int) (hC : Cas w lo1 cA n cc C) (hS : Ses w lo2 A n c0 l) (hn : n ≤ 1000000) (hnum : ∀ c ∈ C, CaN c) :
    Calls Tryz.prog 20 #[.slice cA n cc, .slice A n c0, .int .i64 short] w (RetV (partD (soN goneB C l (partL goneB short C l)) (partL goneB short C l).length) w) := by
  obtain ⟨w1, hw1⟩ : ∃ w1, w.alloc (.cells #[.slice A n c0] 29) = w1 := ⟨_, rfl⟩
  obtain ⟨w2, hw2⟩ : ∃ w2, w1.alloc (.cells #[.int .i64 0, .int .i64 0] 32) = w2 := ⟨_, rfl⟩
  have hz1 : w1.heap.size = w.heap.size + 1 := by rw [← hw1]; simp
  have HB2 := Lib.hid (show Blk w2 w.heap.size 29 #[.slice A n c0] by rw [← hw2, ← hw1]; exact (Blk.new _ _ _).alloc _)
  have HR := Lib.hid (show Blk w2 (w.heap.size + 1) 32 #[.int .i64 0, .int .i64 0] by rw [← hw2, ← hz1]; exact Blk.new _ _ _)
  have HG := Lib.hid (show w.grownBy w2 none by rw [← hw2, ← hw1]; exact gr_alloc (gr_alloc (gr_refl _ _) _) _)
  have HW1 := Lib.hid hw1; have HW2 := Lib.hid hw2
  have HZ1 := Lib.hid hz1
  have HC := Lib.hid hC; have HS := Lib.hid hS; have HNUM := Lib.hid hnum
  have hls := hS.1.len; have hlc := hC.1.len
  clear hw1 hw2 hz1 hC hS hnum
  go_enter Tryz.func20, Tryz.ntmps20
  go_upto_region 1 with (fail)
  rw [HW1.out, HW2.out]
  (try rw [HZ1.out])
  have b2 := HB2.out.cell 0
  go_wp2_with fail
  refine (counting_any short lo1 lo2 cA n cc C A c0 l _ (HC.out.grown HG.out (fun g e => by cases e)) (HS.out.grown HG.out (fun g e => by cases e)) hn HNUM.out).mono ?_
  rintro e w5 ⟨B, m, cB, rfl, ho, hg5, hmn⟩
  have HO := Lib.hid ho
  clear b2
  replace HB2 := Lib.hid (HB2.out.grown hg5 (by simp)); replace HR := Lib.hid (HR.out.grown hg5 (by simp)); replace HG := Lib.hid (gr_none HG.out hg5)
  clear hg5 ho
  go_wp2_with fail
  refine (lsoOf_any goneB C l w2.heap.size B m cB (ctL short C l n) (.pointer (some ⟨w.heap.size, 0, none⟩)) _ HO.out.recs (by omega)
    (fun w1 i hg hi => lso_any i C lo2 A n c0 l w.heap.size w1 (HS.out.grown (gr_none HG.out hg) (fun g e => by cases e)) (ctL_mem hi) hlc (HB2.out.grown hg (by simp)))).mono ?_
  rintro e w6 ⟨rfl, hg6⟩
  obtain ⟨P, Q, X, hX⟩ := partD_of (soN goneB C l (ctL short C l n)) (ctL short C l n).length
  have HV := Lib.hid (show partD (soN goneB C l (partL goneB short C l)) (partL goneB short C l).length = .tuple #[.agg #[.int .i64 P, .int .i64 Q], .bool X] by unfold partL; rw [hls]; exact hX)
  rw [hX]
  replace HR := Lib.hid (HR.out.grown hg6 (by simp)); replace HG := Lib.hid (gr_none HG.out hg6)
  clear hg6 hX HO HB2
  go_wp2_with (first
    | (refine wpl_store_all Tryz.frT rfl _ _ rfl _ rfl _ _ _ rfl HR.out rfl rfl (by simp [Value.oneCell']) ?_
       intro wz hst
       have HST := Lib.hid hst; clear hst)
    | fail)
  refine ret_cell_tmp Tryz.frT rfl (w.heap.size + 1) 32 #[.int .i64 P, .int .i64 Q] _ rfl rfl HST.out.1 rfl rfl ?_
  exact ⟨by rw [HV.out]; try rfl, gr_trans HG.out HST.out.2.1 (fun g e => .inr (by injection e with e; omega))⟩
set_option maxHeartbeats 8000000 in
set_option maxRecDepth 100000 in
theorem waitedOf_any (hC : Cas w lo1 cA n cc C) (hS : Ses w lo2 A n c0 l) (hchk : chkE C l = 0) :
    Calls Tryz.prog 21 #[.slice cA n cc, .slice A n c0] w (RetV (waitD C l) w) := by
  obtain ⟨w1, hw1⟩ : ∃ w1, w.alloc (.cells #[.int .i64 0, .int .i64 0] 32) = w1 := ⟨_, rfl⟩
  have HR := Lib.hid (show Blk w1 w.heap.size 32 #[.int .i64 0, .int .i64 0] by rw [← hw1]; exact Blk.new _ _ _)
  have HG := Lib.hid (show w.grownBy w1 none by rw [← hw1]; exact gr_alloc (gr_refl _ _) _)
  have HW1 := Lib.hid hw1
  have hlc := hC.1.len; have hls := hS.1.len
  have HC := Lib.hid hC; have HS := Lib.hid hS
  obtain ⟨h1, h2, h3, h4⟩ := chkE_num hchk
  have HNUM := Lib.hid (fun x hx => caNum_n (casE_num h1 x hx))
  have HSE := Lib.hid h2
  have HN500 := Lib.hid h4
  clear hw1 hC hS hchk h1 h2 h3 h4
  go_enter Tryz.func21, Tryz.ntmps21
  go_upto_region 1 with (fail)
  rw [HW1.out]
  clear HW1
  go_wp2_with fail
  go_loopw [6, 7, 8, 9, 12] (fun v6 v7 _ _ t wr => ∃ (k b : Nat) (S : Int), k ≤ n ∧ t = .int .i64 k ∧ v7 = .int .i64 S ∧ v6 = .int .i64 b ∧ waS C l k = S ∧ waN l k = b ∧ b ≤ k ∧ 0 ≤ S ∧ S ≤ 691372800000 * k ∧ w.grownBy wr none ∧ Blk wr w.heap.size 32 #[.int .i64 0, .int .i64 0]) (fun _ _ _ _ t _ => n - (intOf t).toNat)
  case atStart => exact ⟨0, 0, 0, Nat.zero_le _, rfl, rfl, rfl, rfl, rfl, Nat.le_refl _, Int.le_refl _, by omega, HG.out, HR.out⟩
  case round =>
    clear HG HR
    obtain ⟨k, b, S, hk, rfl, rfl, rfl, hss, hbb, hbk, s0, s1, hg, hr⟩ := hrel
    have HG := Lib.hid hg; have HR := Lib.hid hr; have HSS := Lib.hid hss; have HBB := Lib.hid hbb
    have zr := hr.lt
    have h500 := HN500.out
    clear hg hr hss hbb
    by_cases hlt : k < n
    · obtain ⟨sg, sof, z, rfl, _, _, hz2, hzc⟩ := (HS.out.1.grown HG.out (fun g e => by cases e)).get SeV.row_len hlt
      obtain ⟨cg, co, c, rfl, _, _, hc2, hcc⟩ := (HC.out.1.grown HG.out (fun g e => by cases e)).get CaV.row_len hlt
      obtain ⟨m1, m2, _⟩ := HNUM.out c (mem_of_get hc2)
      have hse : seE c z = 0 := by
        have hq := HSE.out
        unfold seatsE at hq
        rw [if_pos (by omega)] at hq
        rw [← seAt_eq hz2 hc2]
        exact fstE_ev hq k (by omega)
      have HTB := Lib.hid (fun h => seE_talk hse h)
      have hlt2 : (k : Int) < (n : Int) := by omega
      have HZC := Lib.hid hzc
      have HC2 := Lib.hid hc2
      have HWN := Lib.hid (waN_succ hz2); have HWS := Lib.hid (waS_succ (C := C) hz2 hc2)
      obtain ⟨wa, hwa⟩ : ∃ wa, wr.alloc (.cells #[.string z.ca, .string z.ag, .int .i64 z.how, .int .i64 z.beg, .int .i64 z.fin] 74) = wa := ⟨_, rfl⟩
      obtain ⟨zb, hzb⟩ : ∃ zb, wr.heap.size = zb := ⟨_, rfl⟩
      have HB := Lib.hid (show Blk wa zb 74 #[.string z.ca, .string z.ag, .int .i64 z.how, .int .i64 z.beg, .int .i64 z.fin] by rw [← hwa, ← hzb]; exact Blk.new _ _ _)
      have HGa := Lib.hid (show wr.grownBy wa none by rw [← hwa]; exact gr_alloc (gr_refl _ _) _)
      have HWA := Lib.hid hwa; have HZB := Lib.hid hzb
      clear hwa hzb hz2 hc2 hzc hcc hse
      go_upto_region 5 with (first
        | (refine wpl_load_at Tryz.seT rfl _ rfl _ rfl [.string z.ca, .string z.ag, .int .i64 z.how, .int .i64 z.beg, .int .i64 z.fin] rfl (fun j u hu => by rw [add_mk]; exact HZC.out j u hu) ?_)
        | fail)
      rw [HWA.out]
      (try rw [HZB.out])
      replace HG := Lib.hid (gr_none HG.out HGa.out)
      replace HR := Lib.hid (HR.out.grown HGa.out (by simp))
      have k2 := HB.out.cell 2
      clear HWA HZB HZC HGa
      by_cases hh : z.how = 1
      · have dh : (z.how == 1) = true := by simpa using hh
        obtain ⟨t1, t2⟩ := HTB.out hh
        have k3 := HB.out.cell 3
        have kc := (HC.out.1.grown HG.out (fun g e => by cases e)).at_ CaV.row_len HC2.out 2 _ rfl
        have q1 : IntKind.i64.wrap (z.beg - c.at_) = z.beg - c.at_ := IntWalk.i64_in _ (by omega)
        have q2 : IntKind.i64.wrap (S + (z.beg - c.at_)) = S + (z.beg - c.at_) := IntWalk.i64_in _ (by omega)
        have q3 : IntKind.i64.wrap ((b : Int) + 1) = (b : Int) + 1 := IntWalk.i64_in _ (by omega)
        have HN1 := Lib.hid (show waS C l (k + 1) = S + (z.beg - c.at_) by rw [HWS.out, if_pos hh, HSS.out])
        have HN2 := Lib.hid (show waN l (k + 1) = b + 1 by rw [HWN.out, if_pos hh, HBB.out])
        clear hh
        go_wp2_with fail
        go_quiet (fail)
        go_wp2_with fail
        go_roundw
        case rel => exact ⟨k + 1, b + 1, S + (z.beg - c.at_), by omega, by go_num, rfl, by go_num, HN1.out, HN2.out, by omega, by omega, by omega, gr_drewN HG.out _, HR.out.drewN _⟩
        case measure => simp [intOf]; omega
      · have dh : (z.how == 1) = false := by simpa using hh
        have HN1 := Lib.hid (show waS C l (k + 1) = S by rw [HWS.out, if_neg hh, HSS.out]; omega)
        have HN2 := Lib.hid (show waN l (k + 1) = b by rw [HWN.out, if_neg hh, HBB.out]; rfl)
        clear hh
        go_wp2_with fail
        go_roundw
        case rel => exact ⟨k + 1, b, S, by omega, by go_num, rfl, rfl, HN1.out, HN2.out, by omega, by omega, by omega, HG.out, HR.out⟩
        case measure => simp [intOf]; omega
    · obtain rfl : k = n := by omega
      by_cases hb0 : b = 0
      · subst hb0
        have HV := Lib.hid (show waitD C l = .tuple #[.agg #[.int .i64 0, .int .i64 0], .bool false] by unfold waitD; rw [hls, if_pos HBB.out])
        have d0 : (((0 : Nat) : Int) == 0) = true := by decide
        go_wp2_with (first
          | (refine wpl_store_all Tryz.frT rfl _ _ rfl _ rfl _ _ _ rfl HR.out rfl rfl (by simp [Value.oneCell']) ?_
             intro wz hst
             have HST := Lib.hid hst; clear hst)
          | fail)
        refine ret_cell_tmp Tryz.frT rfl w.heap.size 32 #[.int .i64 0, .int .i64 0] _ rfl rfl HST.out.1 rfl rfl ?_
        exact ⟨by rw [HV.out]; try rfl, gr_trans HG.out HST.out.2.1 (fun g e => .inr (by injection e with e; omega))⟩
      · have d0 : ((b : Int) == 0) = false := by rw [beq_eq_false_iff_ne]; omega
        obtain ⟨T, rfl⟩ : ∃ T : Nat, S = T := ⟨S.toNat, by omega⟩
        have HV := Lib.hid (show waitD C l = .tuple #[.agg #[.int .i64 (lowV T b).1, .int .i64 (lowV T b).2], .bool true] by unfold waitD; rw [hls, HBB.out, HSS.out, if_neg hb0])
        go_wp2_with fail
        refine (lowest_any T b (by omega) (by omega) (by omega) _).mono ?_
        rintro e w8 ⟨rfl, hg8⟩
        obtain ⟨P, hP⟩ : ∃ P, (lowV T b).1 = P := ⟨_, rfl⟩
        obtain ⟨Q, hQ⟩ : ∃ Q, (lowV T b).2 = Q := ⟨_, rfl⟩
        rw [hP, hQ] at HV ⊢
        clear hP hQ
        replace HR := Lib.hid (HR.out.grown hg8 (by simp))
        replace HG := Lib.hid (gr_none HG.out hg8)
        clear hg8
        go_wp2_with (first
          | (refine wpl_store_all Tryz.frT rfl _ _ rfl _ rfl _ _ _ rfl HR.out rfl rfl (by simp [Value.oneCell']) ?_
             intro wz hst
             have HST := Lib.hid hst; clear hst)
          | fail)
        refine ret_cell_tmp Tryz.frT rfl w.heap.size 32 #[.int .i64 P, .int .i64 Q] _ rfl rfl HST.out.1 rfl rfl ?_
        exact ⟨by rw [HV.out]; try rfl, gr_trans HG.out HST.out.2.1 (fun g e => .inr (by injection e with e; omega))⟩
end
end Go.Proofs.YtofncndjcegpdaaGreatDoor

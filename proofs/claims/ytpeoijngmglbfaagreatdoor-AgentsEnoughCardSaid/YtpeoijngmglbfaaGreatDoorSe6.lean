/- Contracts of ServedOf, LostOf and WaitedOf. Conditions: callers whose numbers are in bounds; for WaitedOf: seats that are right. -/
import Derived.Test.YtpeoijngmglbfaaGreatDoorSe5
namespace Go.Proofs.YtpeoijngmglbfaaGreatDoor
open Go.RowKit

def waitD (C : List CaV) (l : List SeV) : Value := if waN l l.length = 0 then .tuple #[.agg #[.int .i64 0, .int .i64 0], .bool false] else .tuple #[.agg #[.int .i64 (lowV (waS C l l.length) (waN l l.length)).1, .int .i64 (lowV (waS C l l.length) (waN l l.length)).2], .bool true]
theorem partD_of (a b : Nat) : ∃ (P Q : Int) (B : Bool), partD a b = .tuple #[.agg #[.int .i64 P, .int .i64 Q], .bool B] := by
  unfold partD
  split
  · exact ⟨_, _, _, rfl⟩
  · exact ⟨_, _, _, rfl⟩
section
variable (lo1 lo2 : Nat) (cA : Option Addr) (n cc : Nat) (C : List CaV) (A : Option Addr) (c0 : Nat) (l : List SeV) (w : World)
set_option maxHeartbeats 8000000 in
theorem servedOf_any (most short : Int) (hC : Cas w lo1 cA n cc C) (hS : Ses w lo2 A n c0 l) (hn : n ≤ 1000000) (hnum : ∀ c ∈ C, CaN c) :
    Calls Tryz.prog 55 #[.slice cA n cc, .slice A n c0, .int .i64 most, .int .i64 short] w (RetV (partD (soN (inTime most) C l (partL (inTime most) short C l)) (partL (inTime most) short C l).length) w) := by
  obtain ⟨w1, hw1⟩ : ∃ w1, w.alloc (.cells #[.slice cA n cc] 31) = w1 := ⟨_, rfl⟩
  obtain ⟨w2, hw2⟩ : ∃ w2, w1.alloc (.cells #[.slice A n c0] 33) = w2 := ⟨_, rfl⟩
  obtain ⟨w3, hw3⟩ : ∃ w3, w2.alloc (.cells #[.int .i64 most] 3) = w3 := ⟨_, rfl⟩
  obtain ⟨w4, hw4⟩ : ∃ w4, w3.alloc (.cells #[.int .i64 0, .int .i64 0] 100) = w4 := ⟨_, rfl⟩
  have hz1 : w1.heap.size = w.heap.size + 1 := by rw [← hw1]; simp
  have hz2 : w2.heap.size = w.heap.size + 2 := by rw [← hw2]; simp [hz1]
  have hz3 : w3.heap.size = w.heap.size + 3 := by rw [← hw3]; simp [hz2]
  have HB1 := Lib.hid (show Blk w4 w.heap.size 31 #[.slice cA n cc] by rw [← hw4, ← hw3, ← hw2, ← hw1]; exact (((Blk.new _ _ _).alloc _).alloc _).alloc _)
  have HB2 := Lib.hid (show Blk w4 (w.heap.size + 1) 33 #[.slice A n c0] by rw [← hw4, ← hw3, ← hw2, ← hz1]; exact ((Blk.new _ _ _).alloc _).alloc _)
  have HB3 := Lib.hid (show Blk w4 (w.heap.size + 2) 3 #[.int .i64 most] by rw [← hw4, ← hw3, ← hz2]; exact (Blk.new _ _ _).alloc _)
  have HR := Lib.hid (show Blk w4 (w.heap.size + 3) 100 #[.int .i64 0, .int .i64 0] by rw [← hw4, ← hz3]; exact Blk.new _ _ _)
  have HG := Lib.hid (show w.grownBy w4 none by rw [← hw4, ← hw3, ← hw2, ← hw1]; exact gr_alloc (gr_alloc (gr_alloc (gr_alloc (gr_refl _ _) _) _) _) _)
  have HW1 := Lib.hid hw1; have HW2 := Lib.hid hw2; have HW3 := Lib.hid hw3; have HW4 := Lib.hid hw4
  have HZ1 := Lib.hid hz1; have HZ2 := Lib.hid hz2; have HZ3 := Lib.hid hz3
  have HC := Lib.hid hC; have HS := Lib.hid hS; have HNUM := Lib.hid hnum
  have hls := hS.1.len
  clear hw1 hw2 hw3 hw4 hz1 hz2 hz3 hC hS hnum
  go_enter Tryz.func55, Tryz.ntmps55
  go_upto_region 1 with (fail)
  rw [HW1.out, HW2.out, HW3.out, HW4.out]
  (try rw [HZ1.out])
  (try rw [HZ2.out])
  (try rw [HZ3.out])
  have b1 := HB1.out.cell 0
  have b2 := HB2.out.cell 0
  go_wp2_with fail
  refine (counting_any short lo1 lo2 cA n cc C A c0 l _ (HC.out.grown HG.out (fun g e => by cases e)) (HS.out.grown HG.out (fun g e => by cases e)) hn HNUM.out).mono ?_
  rintro e w5 ⟨B, m, cB, rfl, ho, hg5, hmn⟩
  have HO := Lib.hid ho
  clear b1 b2
  replace HB1 := Lib.hid (HB1.out.grown hg5 (by simp)); replace HB2 := Lib.hid (HB2.out.grown hg5 (by simp)); replace HB3 := Lib.hid (HB3.out.grown hg5 (by simp)); replace HR := Lib.hid (HR.out.grown hg5 (by simp)); replace HG := Lib.hid (gr_none HG.out hg5)
  clear hg5 ho
  go_wp2_with fail
  refine (svoOf_any (inTime most) C l w4.heap.size B m cB (ctL short C l n) (.pointer (some ⟨w.heap.size + 1, 0, none⟩)) (.pointer (some ⟨w.heap.size, 0, none⟩)) (.pointer (some ⟨w.heap.size + 2, 0, none⟩)) _ HO.out.recs (by omega)
    (fun w1 i hg hi => svo_any most i lo1 lo2 cA n cc C A c0 l (w.heap.size + 1) w.heap.size (w.heap.size + 2) w1 (HC.out.grown (gr_none HG.out hg) (fun g e => by cases e)) (HS.out.grown (gr_none HG.out hg) (fun g e => by cases e)) (ctL_mem hi) HNUM.out (HB2.out.grown hg (by simp)) (HB1.out.grown hg (by simp)) (HB3.out.grown hg (by simp)))).mono ?_
  rintro e w6 ⟨rfl, hg6⟩
  obtain ⟨P, Q, X, hX⟩ := partD_of (soN (inTime most) C l (ctL short C l n)) (ctL short C l n).length
  have HV := Lib.hid (show partD (soN (inTime most) C l (partL (inTime most) short C l)) (partL (inTime most) short C l).length = .tuple #[.agg #[.int .i64 P, .int .i64 Q], .bool X] by unfold partL; rw [hls]; exact hX)
  rw [hX]
  replace HR := Lib.hid (HR.out.grown hg6 (by simp)); replace HG := Lib.hid (gr_none HG.out hg6)
  clear hg6 hX HO HB1 HB2 HB3
  go_wp2_with (first
    | (refine wpl_store_all Tryz.frT rfl _ _ rfl _ rfl _ _ _ rfl HR.out rfl rfl (by simp [Value.oneCell']) ?_
       intro wz hst
       have HST := Lib.hid hst; clear hst)
    | fail)
  refine ret_cell_tmp Tryz.frT rfl (w.heap.size + 3) 100 #[.int .i64 P, .int .i64 Q] _ rfl rfl HST.out.1 rfl rfl ?_
  exact ⟨by rw [HV.out]; try rfl, gr_trans HG.out HST.out.2.1 (fun g e => .inr (by injection e with e; omega))⟩
end
end Go.Proofs.YtpeoijngmglbfaaGreatDoor

/- Contracts of served, Served, Lost and Waited. Conditions: callers and seats as they lie in memory. -/
import Derived.Test.YtpeoijngmglbfaaGreatDoorSe3
namespace Go.Proofs.YtpeoijngmglbfaaGreatDoor
open Go.RowKit

def servedV (C : List CaV) (l : List SeV) (most short : Int) : Value := if chkE C l = 0 then (if (inB most 0 86400000 && inB short 0 86400000) = true then partV (soN (inTime most) C l (partL (inTime most) short C l)) (partL (inTime most) short C l).length else frV 0 0 1) else frV 0 0 (chkE C l)
def lostV (C : List CaV) (l : List SeV) (short : Int) : Value := if chkE C l = 0 then (if inB short 0 86400000 = true then partV (soN goneB C l (partL goneB short C l)) (partL goneB short C l).length else frV 0 0 1) else frV 0 0 (chkE C l)
def waitV (C : List CaV) (l : List SeV) : Value := if waN l l.length = 0 then frV 0 0 8 else frV (lowV (waS C l l.length) (waN l l.length)).1 (lowV (waS C l l.length) (waN l l.length)).2 0
def waitedV (C : List CaV) (l : List SeV) : Value := if chkE C l = 0 then waitV C l else frV 0 0 (chkE C l)
theorem seE_talk {c : CaV} {z : SeV} (h : seE c z = 0) (h1 : z.how = 1) : c.at_ ≤ z.beg ∧ z.beg ≤ 691372800000 := by
  unfold seE at h
  have ht : tkB z = true := by unfold tkB; rw [h1]; rfl
  rw [ht] at h
  split at h
  · split at h
    · rw [if_pos rfl] at h
      split at h
      · split at h
        · rename_i q; exact ⟨q.1, q.2.1⟩
        · cases h
      · cases h
    · cases h
  · cases h
theorem waN_succ {l : List SeV} {k : Nat} {z : SeV} (h : l[k]? = some z) : waN l (k + 1) = waN l k + if z.how = 1 then 1 else 0 := by show _ + (l[k]?).elim _ _ = _; rw [h]; rfl
theorem waS_succ {C : List CaV} {l : List SeV} {k : Nat} {z : SeV} {c : CaV} (h : l[k]? = some z) (hc : C[k]? = some c) : waS C l (k + 1) = waS C l k + if z.how = 1 then z.beg - c.at_ else 0 := by
  show _ + (l[k]?).elim _ _ = _; rw [h]; show _ + (C[k]?).elim _ _ = _; rw [hc]; rfl
section
variable (lo1 lo2 : Nat) (cA : Option Addr) (n cc : Nat) (C : List CaV) (A : Option Addr) (m c0 : Nat) (l : List SeV) (w : World)
set_option maxHeartbeats 4000000 in
theorem served_in (most short : Int) (hC : Cas w lo1 cA n cc C) (hS : Ses w lo2 A n c0 l) (hn : n ≤ 1000000000) (hnum : ∀ c ∈ C, CaN c) :
    Calls Tryz.prog 54 #[.slice cA n cc, .slice A n c0, .int .i64 most, .int .i64 short] w (RetV (partV (soN (inTime most) C l (partL (inTime most) short C l)) (partL (inTime most) short C l).length) w) := by
  obtain ⟨w1, hw1⟩ : ∃ w1, w.alloc (.cells #[.int .i64 most] 3) = w1 := ⟨_, rfl⟩
  obtain ⟨w2, hw2⟩ : ∃ w2, w1.alloc (.cells #[.int .i64 0, .int .i64 0] 100) = w2 := ⟨_, rfl⟩
  have hz1 : w1.heap.size = w.heap.size + 1 := by rw [← hw1]; simp
  have HKB := Lib.hid (show Blk w2 w.heap.size 3 #[.int .i64 most] by rw [← hw2, ← hw1]; exact (Blk.new _ _ _).alloc _)
  have HR := Lib.hid (show Blk w2 (w.heap.size + 1) 100 #[.int .i64 0, .int .i64 0] by rw [← hw2, ← hz1]; exact Blk.new _ _ _)
  have HG := Lib.hid (show w.grownBy w2 none by rw [← hw2, ← hw1]; exact gr_alloc (gr_alloc (gr_refl _ _) _) _)
  have HW1 := Lib.hid hw1; have HW2 := Lib.hid hw2; have HZ1 := Lib.hid hz1
  have HC := Lib.hid hC; have HS := Lib.hid hS; have HNUM := Lib.hid hnum
  clear hw1 hw2 hz1 hC hS hnum
  go_enter Tryz.func54, Tryz.ntmps54
  go_upto_region 1 with (fail)
  rw [HW1.out, HW2.out]
  (try rw [HZ1.out])
  go_wp2_with fail
  refine (svdPart_any (inTime most) short lo1 lo2 cA n cc C A c0 l (.pointer (some ⟨w.heap.size, 0, none⟩)) _ (HC.out.grown HG.out (fun g e => by cases e)) (HS.out.grown HG.out (fun g e => by cases e)) hn HNUM.out
    (fun w1 c z hg hc hz => svd_any c z most w.heap.size w1 (HNUM.out c hc) (HS.out.2 z hz) (HKB.out.grown hg (by simp)))).mono ?_
  rintro e w3 ⟨rfl, hg3⟩
  obtain ⟨X, hX⟩ : ∃ X, partV (soN (inTime most) C l (partL (inTime most) short C l)) (partL (inTime most) short C l).length = X := ⟨_, rfl⟩
  obtain ⟨P, Q, E, hXX⟩ : ∃ P Q E : Int, X = frV P Q E := by
    rw [← hX]
    unfold partV
    split
    · exact ⟨_, _, _, rfl⟩
    · exact ⟨_, _, _, rfl⟩
  subst hXX
  have HV := Lib.hid hX
  rw [hX]
  replace HR := Lib.hid (HR.out.grown hg3 (by simp))
  replace HG := Lib.hid (gr_none HG.out hg3)
  clear hg3 hX HKB
  unfold frV
  go_wp2_with (first
    | (refine wpl_store_all Tryz.frT rfl _ _ rfl _ rfl _ _ _ rfl HR.out rfl rfl (by simp [Value.oneCell']) ?_
       intro wz hst
       have HST := Lib.hid hst; clear hst)
    | fail)
  refine ret_cell_tmp Tryz.frT rfl (w.heap.size + 1) 100 #[.int .i64 P, .int .i64 Q] _ rfl rfl HST.out.1 rfl rfl ?_
  exact ⟨by rw [HV.out]; try rfl, gr_trans HG.out HST.out.2.1 (fun g e => .inr (by injection e with e; omega))⟩
end
end Go.Proofs.YtpeoijngmglbfaaGreatDoor

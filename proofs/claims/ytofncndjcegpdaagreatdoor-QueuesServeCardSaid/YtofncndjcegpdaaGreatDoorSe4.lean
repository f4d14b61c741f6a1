/- Contracts of served, Served, Lost and Waited. Conditions: callers and seats as they lie in memory. -/
import Derived.Test.YtofncndjcegpdaaGreatDoorSe3
namespace Go.Proofs.YtofncndjcegpdaaGreatDoor
open Go.RowKit

def servedV (C : List CaV) (l : List SeV) (most short : Int) : Value := if chkE C l = 0 then (if (inB most 0 86400000 && inB short 0 86400000) = true then partV (soN (inTime most) C l (partL (inTime most) short C l)) (partL (inTime most) short C l).length else frV 0 0 1) else frV 0 0 (chkE C l)
def lostV (C : List CaV) (l : List SeV) (short : Int) : Value := if chkE C l = 0 then (if inB short 0 86400000 = true then partV (soN goneB C l (partL goneB short C l)) (partL goneB short C l).length else frV 0 0 1) else frV 0 0 (chkE C l)
def waitV (C : List CaV) (l : List SeV) : Value := if waN l l.length = 0 then frV 0 0 8 else frV (lowV (waS C l l.length) (waN l l.length)).1 (lowV (waS C l l.length) (waN l l.length)).2 0
def waitedV (C : List CaV) (l : List SeV) : Value := if chkE C l = 0 then waitV C l else frV 0 0 (chkE C l)
theorem chkE_num {C : List CaV} {l : List SeV} (h : chkE C l = 0) : casE C = 0 ∧ seatsE C l = 0 ∧ l.length = C.length ∧ C.length ≤ 500 := by
  unfold chkE at h
  by_cases c : casE C = 0
  · rw [if_pos c] at h
    refine ⟨c, h, ?_, ?_⟩
    · unfold seatsE at h
      split at h
      · assumption
      · cases h
    · unfold casE at c
      split at c
      · cases c
      · omega
  · rw [if_neg c] at h; exact absurd h c
theorem seE_talk {c : CaV} {z : SeV} (h : seE c z = 0) (h1 : z.how = 1) : c.at_ ≤ z.beg ∧ z.beg ≤ 691372800000 := by
  unfold seE at h
  have ht : tkB z = true := by unfold tkB; rw [h1]; rfl
  rw [ht] at h
  split at h
  · split at h
    · rw [if_pos rfl] at h
      split at h
      · split at h
        · rename_i q; exact ⟨q.1, q.2.1⟩
        · cases h
      · cases h
    · cases h
  · cases h
theorem waN_succ {l : List SeV} {k : Nat} {z : SeV} (h : l[k]? = some z) : waN l (k + 1) = waN l k + if z.how = 1 then 1 else 0 := by show _ + (l[k]?).elim _ _ = _; rw [h]; rfl
theorem waS_succ {C : List CaV} {l : List SeV} {k : Nat} {z : SeV} {c : CaV} (h : l[k]? = some z) (hc : C[k]? = some c) : waS C l (k + 1) = waS C l k + if z.how = 1 then z.beg - c.at_ else 0 := by
  show _ + (l[k]?).elim _ _ = _; rw [h]; show _ + (C[k]?).elim _ _ = _; rw [hc]; rfl
section
variable (lo1 lo2 : Nat) (cA : Option Addr) (n cc : Nat) (C : List CaV) (A : Option Addr) (m c0 : Nat) (l : List SeV) (w : World)
set_option maxHeartbeats 4000000 in
theorem served_in (most short : Int) (hC : Cas w lo1 cA n cc C) (hS : Ses w lo2 A n c0 l) (hn : n ≤ 1000000000) (hnum : ∀ c ∈ C, CaN c) :
    Calls Tryz.prog 56 #[.slice cA n cc, .slice A n c0, .int .i64 most, .int .i64 short] w (RetV (partV (soN (inTime most) C l (partL (inTime most) short C l)) (partL (inTime most) short C l).length) w) := by
  obtain ⟨w1, hw1⟩ : ∃ w1, w.alloc (.cells #[.int .i64 most] 3) = w1 := ⟨_, rfl⟩
  obtain ⟨w2, hw2⟩ : ∃ w2, w1.alloc (.cells #[.int .i64 0, .int .i64 0] 32) = w2 := ⟨_, rfl⟩
  have hz1 : w1.heap.size = w.heap.size + 1 := by rw [← hw1]; simp
  have HKB := Lib.hid (show Blk w2 w.heap.size 3 #[.int .i64 most] by rw [← hw2, ← hw1]; exact (Blk.new _ _ _).alloc _)
  have HR := Lib.hid (show Blk w2 (w.heap.size + 1) 32 #[.int .i64 0, .int .i64 0] by rw [← hw2, ← hz1]; exact Blk.new _ _ _)
  have HG := Lib.hid (show w.grownBy w2 none by rw [← hw2, ← hw1]; exact gr_alloc (gr_alloc (gr_refl _ _) _) _)
  have HW1 := Lib.hid hw1; have HW2 := Lib.hid hw2; have HZ1 := Lib.hid hz1
  have HC := Lib.hid hC; have HS := Lib.hid hS; have HNUM := Lib.hid hnum
  clear hw1 hw2 hz1 hC hS hnum
  go_enter Tryz.func56, Tryz.ntmps56
  go_upto_region 1 with (fail)
  rw [HW1.out, HW2.out]
  (try rw [HZ1.out])
  go_wp2_with fail
  refine (svdPart_any (inTime most) short lo1 lo2 cA n cc C A c0 l (.pointer (some ⟨w.heap.size, 0, none⟩)) _ (HC.out.grown HG.out (fun g e => by cases e)) (HS.out.grown HG.out (fun g e => by cases e)) hn HNUM.out
    (fun w1 c z hg hc hz => svd_any c z most w.heap.size w1 (HNUM.out c hc) (HS.out.2 z hz) (HKB.out.grown hg (by simp)))).mono ?_
  rintro e w3 ⟨rfl, hg3⟩
  obtain ⟨X, hX⟩ : ∃ X, partV (soN (inTime most) C l (partL (inTime most) short C l)) (partL (inTime most) short C l).length = X := ⟨_, rfl⟩
  obtain ⟨P, Q, E, hXX⟩ : ∃ P Q E : Int, X = frV P Q E := by
    rw [← hX]
    unfold partV
    split
    · exact ⟨_, _, _, rfl⟩
    · exact ⟨_, _, _, rfl⟩
  subst hXX
  have HV := Lib.hid hX
  rw [hX]
  replace HR := Lib.hid (HR.out.grown hg3 (by simp))
  replace HG := Lib.hid (gr_none HG.out hg3)
  clear hg3 hX HKB
  unfold frV
  go_wp2_with (first
    | (refine wpl_store_all Tryz.frT rfl _ _ rfl _ rfl _ _ _ rfl HR.out rfl rfl (by simp [Value.oneCell']) ?_
       intro wz hst
       have HST := Lib.hid hst; clear hst)
    | fail)
  refine ret_cell_tmp Tryz.frT rfl (w.heap.size + 1) 32 #[.int .i64 P, .int .i64 Q] _ rfl rfl HST.out.1 rfl rfl ?_
  exact ⟨by rw [HV.out]; try rfl, gr_trans HG.out HST.out.2.1 (fun g e => .inr (by injection e with e; omega))⟩
set_option maxHeartbeats 8000000 in
theorem Served_any (most short : Int) (hC : Cas w lo1 cA n cc C) (hS : Ses w lo2 A m c0 l) (hn : n ≤ 1000000000) (hm : m ≤ 1000000000) :
    Calls Tryz.prog 11 #[.slice cA n cc, .slice A m c0, .int .i64 most, .int .i64 short] w (RetV (servedV C l most short) w) := by
  obtain ⟨w1, hw1⟩ : ∃ w1, w.alloc (.cells #[.int .i64 0, .int .i64 0] 32) = w1 := ⟨_, rfl⟩
  have HR := Lib.hid (show Blk w1 w.heap.size 32 #[.int .i64 0, .int .i64 0] by rw [← hw1]; exact Blk.new _ _ _)
  have HG := Lib.hid (show w.grownBy w1 none by rw [← hw1]; exact gr_alloc (gr_refl _ _) _)
  have HW1 := Lib.hid hw1
  have HC := Lib.hid hC; have HS := Lib.hid hS
  have hlc := hC.1.len; have hls := hS.1.len
  obtain ⟨E, hE⟩ : ∃ E, chkE C l = E := ⟨_, rfl⟩
  have HE := Lib.hid hE
  clear hw1 hC hS hE
  go_enter Tryz.func11, Tryz.ntmps11
  go_upto_region 1 with (fail)
  rw [HW1.out]
  clear HW1
  go_wp2_with fail
  refine (checkSeats_any lo1 lo2 cA n cc C A m c0 l _ (HC.out.grown HG.out (fun g e => by cases e)) (HS.out.grown HG.out (fun g e => by cases e)) hn hm).mono ?_
  rintro e w2 ⟨rfl, hg2⟩
  rw [HE.out]
  replace HR := Lib.hid (HR.out.grown hg2 (by simp))
  replace HG := Lib.hid (gr_none HG.out hg2)
  clear hg2
  by_cases hz : E = 0
  · have dz : (E != 0) = false := by simpa using hz
    have he0 := HE.out.trans hz
    obtain ⟨h1, h2, h3, h4⟩ := chkE_num he0
    have HNUM := Lib.hid (fun x hx => caNum_n (casE_num h1 x hx))
    obtain rfl : m = n := by rw [← hls, ← hlc]; exact h3
    have HSE := Lib.hid h2
    have HN500 := Lib.hid h4
    clear hz h1 h2 h3 h4
    obtain ⟨I1, hI1⟩ : ∃ I, inB most 0 86400000 = I := ⟨_, rfl⟩
    obtain ⟨I2, hI2⟩ : ∃ I, inB short 0 86400000 = I := ⟨_, rfl⟩
    have HI1 := Lib.hid hI1; have HI2 := Lib.hid hI2
    have HV0 := Lib.hid (show servedV C l most short = if (I1 && I2) = true then partV (soN (inTime most) C l (partL (inTime most) short C l)) (partL (inTime most) short C l).length else frV 0 0 1 by unfold servedV; rw [if_pos he0, hI1, hI2])
    clear hI1 hI2 he0
    by_cases hi : I1 = true ∧ I2 = true
    · obtain ⟨rfl, rfl⟩ := hi
      have HV := Lib.hid (show servedV C l most short = partV (soN (inTime most) C l (partL (inTime most) short C l)) (partL (inTime most) short C l).length from HV0.out)
      clear HV0
      go_wp2_with (first
        | (go_at_call 55; refine (within_any _ _ _ _).mono ?_; rintro e w' ⟨rfl, rfl⟩; first | rw [HI1.out] | rw [HI2.out] | fail)
        | fail)
      refine (served_in lo1 lo2 cA m cc C A c0 l _ most short (HC.out.grown HG.out (fun g e => by cases e)) (HS.out.grown HG.out (fun g e => by cases e)) (by omega) HNUM.out).mono ?_
      rintro e w3 ⟨rfl, hg3⟩
      obtain ⟨P, Q, E2, hXX⟩ : ∃ P Q E2 : Int, partV (soN (inTime most) C l (partL (inTime most) short C l)) (partL (inTime most) short C l).length = frV P Q E2 := by
        unfold partV
        split
        · exact ⟨_, _, _, rfl⟩
        · exact ⟨_, _, _, rfl⟩
      rw [hXX] at HV ⊢
      replace HR := Lib.hid (HR.out.grown hg3 (by simp))
      replace HG := Lib.hid (gr_none HG.out hg3)
      clear hg3 hXX
      unfold frV
      go_wp2_with (first
        | (refine wpl_store_all Tryz.frT rfl _ _ rfl _ rfl _ _ _ rfl HR.out rfl rfl (by simp [Value.oneCell']) ?_
           intro wz hst
           have HST := Lib.hid hst; clear hst)
        | fail)
      refine ret_cell_tmp Tryz.frT rfl w.heap.size 32 #[.int .i64 P, .int .i64 Q] _ rfl rfl HST.out.1 rfl rfl ?_
      exact ⟨by rw [HV.out]; try rfl, gr_trans HG.out HST.out.2.1 (fun g e => .inr (by injection e with e; omega))⟩
    · have HV := Lib.hid (show servedV C l most short = frV 0 0 1 by rw [HV0.out, if_neg (by simpa using hi)])
      have hid : I1 = false ∨ (I1 = true ∧ I2 = false) := by cases I1 <;> cases I2 <;> simp at hi ⊢
      clear HV0 hi
      rcases hid with rfl | ⟨rfl, rfl⟩
      · go_wp2_with (first
          | (go_at_call 55; refine (within_any _ _ _ _).mono ?_; rintro e w' ⟨rfl, rfl⟩; first | rw [HI1.out] | rw [HI2.out] | fail)
          | (refine wpl_store_all Tryz.frT rfl _ _ rfl _ rfl _ _ _ rfl HR.out rfl rfl (by simp [Value.oneCell']) ?_
             intro wz hst
             have HST := Lib.hid hst; clear hst)
          | fail)
        refine ret_cell_tmp Tryz.frT rfl w.heap.size 32 #[.int .i64 0, .int .i64 0] _ rfl rfl HST.out.1 rfl rfl ?_
        exact ⟨by rw [HV.out]; try rfl, gr_trans HG.out HST.out.2.1 (fun g e => .inr (by injection e with e; omega))⟩
      · go_wp2_with (first
          | (go_at_call 55; refine (within_any _ _ _ _).mono ?_; rintro e w' ⟨rfl, rfl⟩; first | rw [HI1.out] | rw [HI2.out] | fail)
          | (refine wpl_store_all Tryz.frT rfl _ _ rfl _ rfl _ _ _ rfl HR.out rfl rfl (by simp [Value.oneCell']) ?_
             intro wz hst
             have HST := Lib.hid hst; clear hst)
          | fail)
        refine ret_cell_tmp Tryz.frT rfl w.heap.size 32 #[.int .i64 0, .int .i64 0] _ rfl rfl HST.out.1 rfl rfl ?_
        exact ⟨by rw [HV.out]; try rfl, gr_trans HG.out HST.out.2.1 (fun g e => .inr (by injection e with e; omega))⟩
  · have dz : (E != 0) = true := by simpa using hz
    have HV := Lib.hid (show servedV C l most short = frV 0 0 E by unfold servedV; rw [if_neg (by rw [HE.out]; exact hz), HE.out])
    clear hz
    go_wp2_with (first
      | (refine wpl_store_all Tryz.frT rfl _ _ rfl _ rfl _ _ _ rfl HR.out rfl rfl (by simp [Value.oneCell']) ?_
         intro wz hst
         have HST := Lib.hid hst; clear hst)
      | fail)
    refine ret_cell_tmp Tryz.frT rfl w.heap.size 32 #[.int .i64 0, .int .i64 0] _ rfl rfl HST.out.1 rfl rfl ?_
    exact ⟨by rw [HV.out]; try rfl, gr_trans HG.out HST.out.2.1 (fun g e => .inr (by injection e with e; omega))⟩
set_option maxHeartbeats 8000000 in
theorem Lost_any (short : Int) (hC : Cas w lo1 cA n cc C) (hS : Ses w lo2 A m c0 l) (hn : n ≤ 1000000000) (hm : m ≤ 1000000000) :
    Calls Tryz.prog 12 #[.slice cA n cc, .slice A m c0, .int .i64 short] w (RetV (lostV C l short) w) := by
  obtain ⟨w1, hw1⟩ : ∃ w1, w.alloc (.cells #[.int .i64 0, .int .i64 0] 32) = w1 := ⟨_, rfl⟩
  have HR := Lib.hid (show Blk w1 w.heap.size 32 #[.int .i64 0, .int .i64 0] by rw [← hw1]; exact Blk.new _ _ _)
  have HG := Lib.hid (show w.grownBy w1 none by rw [← hw1]; exact gr_alloc (gr_refl _ _) _)
  have HW1 := Lib.hid hw1
  have HC := Lib.hid hC; have HS := Lib.hid hS
  have hlc := hC.1.len; have hls := hS.1.len
  obtain ⟨E, hE⟩ : ∃ E, chkE C l = E := ⟨_, rfl⟩
  have HE := Lib.hid hE
  clear hw1 hC hS hE
  go_enter Tryz.func12, Tryz.ntmps12
  go_upto_region 1 with (fail)
  rw [HW1.out]
  clear HW1
  go_wp2_with fail
  refine (checkSeats_any lo1 lo2 cA n cc C A m c0 l _ (HC.out.grown HG.out (fun g e => by cases e)) (HS.out.grown HG.out (fun g e => by cases e)) hn hm).mono ?_
  rintro e w2 ⟨rfl, hg2⟩
  rw [HE.out]
  replace HR := Lib.hid (HR.out.grown hg2 (by simp))
  replace HG := Lib.hid (gr_none HG.out hg2)
  clear hg2
  by_cases hz : E = 0
  · have dz : (E != 0) = false := by simpa using hz
    have he0 := HE.out.trans hz
    obtain ⟨h1, h2, h3, h4⟩ := chkE_num he0
    have HNUM := Lib.hid (fun x hx => caNum_n (casE_num h1 x hx))
    obtain rfl : m = n := by rw [← hls, ← hlc]; exact h3
    have HSE := Lib.hid h2
    have HN500 := Lib.hid h4
    clear hz h1 h2 h3 h4
    obtain ⟨I1, hI1⟩ : ∃ I, inB short 0 86400000 = I := ⟨_, rfl⟩
    have HI1 := Lib.hid hI1; have HI2 := HI1
    have HV0 := Lib.hid (show lostV C l short = if I1 = true then partV (soN goneB C l (partL goneB short C l)) (partL goneB short C l).length else frV 0 0 1 by unfold lostV; rw [if_pos he0, hI1])
    clear hI1 he0
    cases I1
    · have HV := Lib.hid (show lostV C l short = frV 0 0 1 from HV0.out)
      go_wp2_with (first
        | (go_at_call 55; refine (within_any _ _ _ _).mono ?_; rintro e w' ⟨rfl, rfl⟩; first | rw [HI1.out] | rw [HI2.out] | fail)
        | (refine wpl_store_all Tryz.frT rfl _ _ rfl _ rfl _ _ _ rfl HR.out rfl rfl (by simp [Value.oneCell']) ?_
           intro wz hst
           have HST := Lib.hid hst; clear hst)
        | fail)
      refine ret_cell_tmp Tryz.frT rfl w.heap.size 32 #[.int .i64 0, .int .i64 0] _ rfl rfl HST.out.1 rfl rfl ?_
      exact ⟨by rw [HV.out]; try rfl, gr_trans HG.out HST.out.2.1 (fun g e => .inr (by injection e with e; omega))⟩
    · have HV := Lib.hid (show lostV C l short = partV (soN goneB C l (partL goneB short C l)) (partL goneB short C l).length from HV0.out)
      clear HV0
      go_wp2_with (first
        | (go_at_call 55; refine (within_any _ _ _ _).mono ?_; rintro e w' ⟨rfl, rfl⟩; first | rw [HI1.out] | rw [HI2.out] | fail)
        | fail)
      refine (lsdPart_any goneB short lo1 lo2 cA m cc C A c0 l _ (HC.out.grown HG.out (fun g e => by cases e)) (HS.out.grown HG.out (fun g e => by cases e)) (by omega) HNUM.out (fun w1 c z _ _ _ => lsd_any c z w1)).mono ?_
      rintro e w3 ⟨rfl, hg3⟩
      obtain ⟨P, Q, E2, hXX⟩ : ∃ P Q E2 : Int, partV (soN goneB C l (partL goneB short C l)) (partL goneB short C l).length = frV P Q E2 := by
        unfold partV
        split
        · exact ⟨_, _, _, rfl⟩
        · exact ⟨_, _, _, rfl⟩
      rw [hXX] at HV ⊢
      replace HR := Lib.hid (HR.out.grown hg3 (by simp))
      replace HG := Lib.hid (gr_none HG.out hg3)
      clear hg3 hXX
      unfold frV
      go_wp2_with (first
        | (refine wpl_store_all Tryz.frT rfl _ _ rfl _ rfl _ _ _ rfl HR.out rfl rfl (by simp [Value.oneCell']) ?_
           intro wz hst
           have HST := Lib.hid hst; clear hst)
        | fail)
      refine ret_cell_tmp Tryz.frT rfl w.heap.size 32 #[.int .i64 P, .int .i64 Q] _ rfl rfl HST.out.1 rfl rfl ?_
      exact ⟨by rw [HV.out]; try rfl, gr_trans HG.out HST.out.2.1 (fun g e => .inr (by injection e with e; omega))⟩
  · have dz : (E != 0) = true := by simpa using hz
    have HV := Lib.hid (show lostV C l short = frV 0 0 E by unfold lostV; rw [if_neg (by rw [HE.out]; exact hz), HE.out])
    clear hz
    go_wp2_with (first
      | (refine wpl_store_all Tryz.frT rfl _ _ rfl _ rfl _ _ _ rfl HR.out rfl rfl (by simp [Value.oneCell']) ?_
         intro wz hst
         have HST := Lib.hid hst; clear hst)
      | fail)
    refine ret_cell_tmp Tryz.frT rfl w.heap.size 32 #[.int .i64 0, .int .i64 0] _ rfl rfl HST.out.1 rfl rfl ?_
    exact ⟨by rw [HV.out]; try rfl, gr_trans HG.out HST.out.2.1 (fun g e => .inr (by injection e with e; omega))⟩
set_option maxHeartbeats 8000000 in
set_option maxRecDepth 100000 in
theorem Waited_any (hC : Cas w lo1 cA n cc C) (hS : Ses w lo2 A m c0 l) (hn : n ≤ 1000000000) (hm : m ≤ 1000000000) :
    Calls Tryz.prog 13 #[.slice cA n cc, .slice A m c0] w (RetV (waitedV C l) w) := by
  obtain ⟨w1, hw1⟩ : ∃ w1, w.alloc (.cells #[.int .i64 0, .int .i64 0] 32) = w1 := ⟨_, rfl⟩
  have HR := Lib.hid (show Blk w1 w.heap.size 32 #[.int .i64 0, .int .i64 0] by rw [← hw1]; exact Blk.new _ _ _)
  have HG := Lib.hid (show w.grownBy w1 none by rw [← hw1]; exact gr_alloc (gr_refl _ _) _)
  have HW1 := Lib.hid hw1
  have HC := Lib.hid hC; have HS := Lib.hid hS
  have hlc := hC.1.len; have hls := hS.1.len
  obtain ⟨E, hE⟩ : ∃ E, chkE C l = E := ⟨_, rfl⟩
  have HE := Lib.hid hE
  clear hw1 hC hS hE
  go_enter Tryz.func13, Tryz.ntmps13
  go_upto_region 1 with (fail)
  rw [HW1.out]
  clear HW1
  go_wp2_with fail
  refine (checkSeats_any lo1 lo2 cA n cc C A m c0 l _ (HC.out.grown HG.out (fun g e => by cases e)) (HS.out.grown HG.out (fun g e => by cases e)) hn hm).mono ?_
  rintro e w2 ⟨rfl, hg2⟩
  rw [HE.out]
  replace HR := Lib.hid (HR.out.grown hg2 (by simp))
  replace HG := Lib.hid (gr_none HG.out hg2)
  clear hg2
  by_cases hz : E = 0
  · have dz : (E != 0) = false := by simpa using hz
    have he0 := HE.out.trans hz
    obtain ⟨h1, h2, h3, h4⟩ := chkE_num he0
    have HNUM := Lib.hid (fun x hx => caNum_n (casE_num h1 x hx))
    obtain rfl : m = n := by rw [← hls, ← hlc]; exact h3
    have HSE := Lib.hid h2
    have HN500 := Lib.hid h4
    clear hz h1 h2 h3 h4
    have HV0 := Lib.hid (show waitedV C l = waitV C l by unfold waitedV; rw [if_pos he0])
    clear he0
    go_wp2_with fail
    go_loopw [7, 8, 9, 10, 20] (fun v7 v8 _ _ t wr => ∃ (k b : Nat) (S : Int), k ≤ m ∧ t = .int .i64 k ∧ v7 = .int .i64 S ∧ v8 = .int .i64 b ∧ waS C l k = S ∧ waN l k = b ∧ b ≤ k ∧ 0 ≤ S ∧ S ≤ 691372800000 * k ∧ w.grownBy wr none ∧ Blk wr w.heap.size 32 #[.int .i64 0, .int .i64 0]) (fun _ _ _ _ t _ => m - (intOf t).toNat)
    case atStart => exact ⟨0, 0, 0, Nat.zero_le _, rfl, rfl, rfl, rfl, rfl, Nat.le_refl _, Int.le_refl _, by omega, HG.out, HR.out⟩
    case round =>
      clear HG HR
      obtain ⟨k, b, S, hk, rfl, rfl, rfl, hss, hbb, hbk, s0, s1, hg, hr⟩ := hrel
      have HG := Lib.hid hg; have HR := Lib.hid hr; have HSS := Lib.hid hss; have HBB := Lib.hid hbb
      have zr := hr.lt
      have h500 := HN500.out
      clear hg hr hss hbb
      by_cases hlt : k < m
      · obtain ⟨sg, sof, z, rfl, _, _, hz2, hzc⟩ := (HS.out.1.grown HG.out (fun g e => by cases e)).get SeV.row_len hlt
        obtain ⟨cg, co, c, rfl, _, _, hc2, hcc⟩ := (HC.out.1.grown HG.out (fun g e => by cases e)).get CaV.row_len hlt
        obtain ⟨m1, m2, _⟩ := HNUM.out c (mem_of_get hc2)
        have hse : seE c z = 0 := by
          have hq := HSE.out
          unfold seatsE at hq
          rw [if_pos (by omega)] at hq
          rw [← seAt_eq hz2 hc2]
          exact fstE_ev hq k (by omega)
        have HTB := Lib.hid (fun h => seE_talk hse h)
        have hlt2 : (k : Int) < (m : Int) := by omega
        have HZC := Lib.hid hzc
        have HC2 := Lib.hid hc2
        have HWN := Lib.hid (waN_succ hz2); have HWS := Lib.hid (waS_succ (C := C) hz2 hc2)
        obtain ⟨wa, hwa⟩ : ∃ wa, wr.alloc (.cells #[.string z.ca, .string z.ag, .int .i64 z.how, .int .i64 z.beg, .int .i64 z.fin] 74) = wa := ⟨_, rfl⟩
        obtain ⟨zb, hzb⟩ : ∃ zb, wr.heap.size = zb := ⟨_, rfl⟩
        have HB := Lib.hid (show Blk wa zb 74 #[.string z.ca, .string z.ag, .int .i64 z.how, .int .i64 z.beg, .int .i64 z.fin] by rw [← hwa, ← hzb]; exact Blk.new _ _ _)
        have HGa := Lib.hid (show wr.grownBy wa none by rw [← hwa]; exact gr_alloc (gr_refl _ _) _)
        have HWA := Lib.hid hwa; have HZB := Lib.hid hzb
        clear hwa hzb hz2 hc2 hzc hcc hse
        go_upto_region 8 with (first
          | (refine wpl_load_at Tryz.seT rfl _ rfl _ rfl [.string z.ca, .string z.ag, .int .i64 z.how, .int .i64 z.beg, .int .i64 z.fin] rfl (fun j u hu => by rw [add_mk]; exact HZC.out j u hu) ?_)
          | fail)
        rw [HWA.out]
        (try rw [HZB.out])
        replace HG := Lib.hid (gr_none HG.out HGa.out)
        replace HR := Lib.hid (HR.out.grown HGa.out (by simp))
        have k2 := HB.out.cell 2
        clear HWA HZB HZC HGa
        by_cases hh : z.how = 1
        · have dh : (z.how == 1) = true := by simpa using hh
          obtain ⟨t1, t2⟩ := HTB.out hh
          have k3 := HB.out.cell 3
          have kc := (HC.out.1.grown HG.out (fun g e => by cases e)).at_ CaV.row_len HC2.out 2 _ rfl
          have q1 : IntKind.i64.wrap (S + z.beg) = S + z.beg := IntWalk.i64_in _ (by omega)
          have q2 : IntKind.i64.wrap (S + z.beg - c.at_) = S + z.beg - c.at_ := IntWalk.i64_in _ (by omega)
          have q3 : IntKind.i64.wrap ((b : Int) + 1) = (b : Int) + 1 := IntWalk.i64_in _ (by omega)
          have HN1 := Lib.hid (show waS C l (k + 1) = S + z.beg - c.at_ by rw [HWS.out, if_pos hh, HSS.out]; omega)
          have HN2 := Lib.hid (show waN l (k + 1) = b + 1 by rw [HWN.out, if_pos hh, HBB.out])
          clear hh
          go_wp2_with fail
          go_quiet (fail)
          go_wp2_with fail
          go_roundw
          case rel => exact ⟨k + 1, b + 1, S + z.beg - c.at_, by omega, by go_num, rfl, by go_num, HN1.out, HN2.out, by omega, by omega, by omega, gr_drewN HG.out _, HR.out.drewN _⟩
          case measure => simp [intOf]; omega
        · have dh : (z.how == 1) = false := by simpa using hh
          have HN1 := Lib.hid (show waS C l (k + 1) = S by rw [HWS.out, if_neg hh, HSS.out]; omega)
          have HN2 := Lib.hid (show waN l (k + 1) = b by rw [HWN.out, if_neg hh, HBB.out]; rfl)
          clear hh
          go_wp2_with fail
          go_roundw
          case rel => exact ⟨k + 1, b, S, by omega, by go_num, rfl, rfl, HN1.out, HN2.out, by omega, by omega, by omega, HG.out, HR.out⟩
          case measure => simp [intOf]; omega
      · obtain rfl : k = m := by omega
        by_cases hb0 : b = 0
        · subst hb0
          have HV := Lib.hid (show waitedV C l = frV 0 0 8 by rw [HV0.out]; unfold waitV; rw [hls, if_pos HBB.out])
          have d0 : (((0 : Nat) : Int) == 0) = true := by decide
          go_wp2_with (first
            | (refine wpl_store_all Tryz.frT rfl _ _ rfl _ rfl _ _ _ rfl HR.out rfl rfl (by simp [Value.oneCell']) ?_
               intro wz hst
               have HST := Lib.hid hst; clear hst)
            | fail)
          refine ret_cell_tmp Tryz.frT rfl w.heap.size 32 #[.int .i64 0, .int .i64 0] _ rfl rfl HST.out.1 rfl rfl ?_
          exact ⟨by rw [HV.out]; try rfl, gr_trans HG.out HST.out.2.1 (fun g e => .inr (by injection e with e; omega))⟩
        · have d0 : ((b : Int) == 0) = false := by rw [beq_eq_false_iff_ne]; omega
          obtain ⟨T, rfl⟩ : ∃ T : Nat, S = T := ⟨S.toNat, by omega⟩
          have HV := Lib.hid (show waitedV C l = frV (lowV T b).1 (lowV T b).2 0 by rw [HV0.out]; unfold waitV; rw [hls, HBB.out, HSS.out, if_neg hb0])
          go_wp2_with fail
          refine (frac_any T b (by omega) (by omega) (by omega) _).mono ?_
          rintro e w8 ⟨rfl, hg8⟩
          obtain ⟨P, hP⟩ : ∃ P, (lowV T b).1 = P := ⟨_, rfl⟩
          obtain ⟨Q, hQ⟩ : ∃ Q, (lowV T b).2 = Q := ⟨_, rfl⟩
          rw [hP, hQ] at HV ⊢
          clear hP hQ
          replace HR := Lib.hid (HR.out.grown hg8 (by simp))
          replace HG := Lib.hid (gr_none HG.out hg8)
          clear hg8
          go_wp2_with (first
            | (refine wpl_store_all Tryz.frT rfl _ _ rfl _ rfl _ _ _ rfl HR.out rfl rfl (by simp [Value.oneCell']) ?_
               intro wz hst
               have HST := Lib.hid hst; clear hst)
            | fail)
          refine ret_cell_tmp Tryz.frT rfl w.heap.size 32 #[.int .i64 P, .int .i64 Q] _ rfl rfl HST.out.1 rfl rfl ?_
          exact ⟨by rw [HV.out]; try rfl, gr_trans HG.out HST.out.2.1 (fun g e => .inr (by injection e with e; omega))⟩
  · have dz : (E != 0) = true := by simpa using hz
    have HV := Lib.hid (show waitedV C l = frV 0 0 E by unfold waitedV; rw [if_neg (by rw [HE.out]; exact hz), HE.out])
    clear hz
    go_wp2_with (first
      | (refine wpl_store_all Tryz.frT rfl _ _ rfl _ rfl _ _ _ rfl HR.out rfl rfl (by simp [Value.oneCell']) ?_
         intro wz hst
         have HST := Lib.hid hst; clear hst)
      | fail)
    refine ret_cell_tmp Tryz.frT rfl w.heap.size 32 #[.int .i64 0, .int .i64 0] _ rfl rfl HST.out.1 rfl rfl ?_
    exact ⟨by rw [HV.out]; try rfl, gr_trans HG.out HST.out.2.1 (fun g e => .inr (by injection e with e; omega))⟩
end
end Go.Proofs.YtofncndjcegpdaaGreatDoor

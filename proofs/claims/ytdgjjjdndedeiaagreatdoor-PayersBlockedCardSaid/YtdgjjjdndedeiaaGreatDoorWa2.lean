/- Contracts of blocked, Blocked and of the document's BlockedOf. Conditions: none. -/
import Derived.Test.YtdgjjjdndedeiaaGreatDoorBun3
import Derived.Test.YtdgjjjdndedeiaaGreatDoorTar4
import Derived.Deep.CutBlock
namespace Go.Proofs.YtdgjjjdndedeiaaGreatDoor
open Go.RowKit

theorem Tryz.blT : StructT Tryz.prog 73 4 := ⟨_, Tryz.underlying73, rfl, by kernel_rfl⟩
set_option maxHeartbeats 2000000 in
theorem hitP_any (b : BlV) (who : ByteArray) (t : Int) (pb qb : Nat) (w : World) (hp : Blk w pb 9 #[.string who]) (hq : Blk w qb 3 #[.int .i64 t]) :
    Calls Tryz.prog 120 #[.agg #[.string b.pay, .int .i64 b.wch, .int .i64 b.frm, .int .i64 b.to_], .pointer (some ⟨pb, 0, none⟩), .pointer (some ⟨qb, 0, none⟩)] w (RetV (.bool (blHit b who t)) w) := by
  have kp := (hp.alloc (.cells #[.string b.pay, .int .i64 b.wch, .int .i64 b.frm, .int .i64 b.to_] 73)).cell 0
  have kq := (hq.alloc (.cells #[.string b.pay, .int .i64 b.wch, .int .i64 b.frm, .int .i64 b.to_] 73)).cell 0
  have hlt1 := hp.lt; have hlt2 := hq.lt
  obtain ⟨E, hE⟩ : ∃ E, (b.pay.toList == who.toList) = E := ⟨_, rfl⟩
  obtain ⟨D1, hD1⟩ : ∃ D, decide (b.frm ≤ t) = D := ⟨_, rfl⟩
  obtain ⟨D2, hD2⟩ : ∃ D, decide (t < b.to_) = D := ⟨_, rfl⟩
  have HV := Lib.hid (show blHit b who t = (E && D1 && D2) by unfold blHit; rw [← eqS_nb, hE, hD1, hD2])
  clear hp hq
  cases E <;> cases D1 <;> cases D2
  all_goals
    go_enter Tryz.func120, Tryz.ntmps120
    go_wp2_with fail
    go_ret
    exact ⟨by rw [HV.out]; rfl, gr_alloc (gr_refl _ _) _⟩
set_option maxHeartbeats 2000000 in
theorem idxBP_any (lo : Nat) (A : Option Addr) (n c : Nat) (l : List BlV) (who : ByteArray) (t : Int) (pb qb : Nat) (w : World) (h : Recs BlV.row 4 w lo A n c l) (hn : n ≤ 1000000000000) (hp : Blk w pb 9 #[.string who]) (hq : Blk w qb 3 #[.int .i64 t]) :
    Calls Tryz.prog 121 #[.slice A n c, .func (.func 120) #[] #[.pointer (some ⟨pb, 0, none⟩), .pointer (some ⟨qb, 0, none⟩)]] w (RetV (.int .i64 (idxP (fun b => blHit b who t) l)) w) := by
  have H := Lib.hid h; have HP := Lib.hid hp; have HQ := Lib.hid hq; clear h hp hq
  go_enter Tryz.func121, Tryz.ntmps121
  go_wp2_with fail
  go_loopw [5, 8] (fun _ t' wr => ∃ i : Nat, i ≤ n ∧ t' = .int .i64 i ∧ w.grownBy wr none ∧ (l.take i).all (fun b => !(blHit b who t)) = true) (fun _ t' _ => n - (intOf t').toNat)
  case atStart => exact ⟨0, Nat.zero_le _, rfl, gr_refl _ _, by simp⟩
  case round =>
    obtain ⟨i, hi, rfl, hg, ha⟩ := hrel
    have HA := Lib.hid ha; have HG := Lib.hid hg; clear ha hg
    by_cases hlt : i < n
    · obtain ⟨g, o, b, rfl, _, hgl, hz, hc⟩ := (H.out.grown HG.out (fun g e => by cases e)).get BlV.row_len hlt
      have HZ := Lib.hid hz; have HC := Lib.hid hc; clear hz hc
      obtain ⟨B, hB⟩ : ∃ B, blHit b who t = B := ⟨_, rfl⟩
      have HE := Lib.hid hB; clear hB
      cases B
      all_goals
        go_wp2_with (first
          | (refine wpl_load_at Tryz.blT rfl _ rfl _ rfl [.string b.pay, .int .i64 b.wch, .int .i64 b.frm, .int .i64 b.to_] rfl (fun j u hu => by rw [add_mk]; exact HC.out j u hu) ?_)
          | (go_at_call 120; refine (hitP_any b who t pb qb _ (HP.out.grown HG.out (by simp)) (HQ.out.grown HG.out (by simp))).mono ?_; rintro e w2 ⟨rfl, hg2⟩; rw [HE.out]; have HG2 := Lib.hid (gr_none HG.out hg2); clear hg2)
          | fail)
      · go_roundw
        case rel => exact ⟨i + 1, by omega, by go_num, HG2.out, allP_succ (p := fun b => blHit b who t) HA.out HZ.out HE.out⟩
        case measure => simp [intOf]; omega
      · go_ret
        exact ⟨by rw [idxP_some (p := fun b => blHit b who t) HA.out HZ.out HE.out]; rfl, HG2.out⟩
    · obtain rfl : i = n := by omega
      go_wp2_with fail
      go_ret
      have h := HA.out
      rw [List.take_of_length_le (by rw [H.out.len]; exact Nat.le_refl _)] at h
      exact ⟨by rw [idxP_none (p := fun b => blHit b who t) h]; rfl, HG.out⟩
set_option maxHeartbeats 1000000 in
theorem hasBP_any (lo : Nat) (A : Option Addr) (n c : Nat) (l : List BlV) (who : ByteArray) (t : Int) (pb qb : Nat) (w : World) (h : Recs BlV.row 4 w lo A n c l) (hn : n ≤ 1000000000000) (hp : Blk w pb 9 #[.string who]) (hq : Blk w qb 3 #[.int .i64 t]) :
    Calls Tryz.prog 79 #[.slice A n c, .func (.func 120) #[] #[.pointer (some ⟨pb, 0, none⟩), .pointer (some ⟨qb, 0, none⟩)]] w (RetV (.bool (blkB l who t)) w) := by
  have H := Lib.hid h; have HP := Lib.hid hp; have HQ := Lib.hid hq; clear h hp hq
  have HI := Lib.hid (show decide (0 ≤ idxP (fun b => blHit b who t) l) = blkB l who t by rw [idxP_any]; rfl)
  obtain ⟨I, hI⟩ : ∃ I, idxP (fun b => blHit b who t) l = I := ⟨_, rfl⟩
  rw [hI] at HI
  have HI2 := Lib.hid hI; clear hI
  go_enter Tryz.func79, Tryz.ntmps79
  go_wp2_with (first
    | (go_at_call 121; refine (idxBP_any lo _ _ _ l who t pb qb _ H.out hn HP.out HQ.out).mono ?_; rintro e w2 ⟨rfl, hg2⟩; rw [HI2.out]; have HG2 := Lib.hid hg2; clear hg2)
    | fail)
  go_ret
  exact ⟨by rw [← HI.out]; rfl, HG2.out⟩
set_option maxHeartbeats 1000000 in
theorem blockedP_any (lo : Nat) (A : Option Addr) (n c : Nat) (l : List BlV) (who : ByteArray) (t : Int) (w : World) (h : Recs BlV.row 4 w lo A n c l) (hn : n ≤ 1000000000000) :
    Calls Tryz.prog 78 #[.slice A n c, .string who, .int .i64 t] w (RetV (.bool (blkB l who t)) w) := by
  obtain ⟨W1, hW⟩ : ∃ W1, (w.alloc (.cells #[.string who] 9)).alloc (.cells #[.int .i64 t] 3) = W1 := ⟨_, rfl⟩
  have HP := Lib.hid (show Blk W1 w.heap.size 9 #[.string who] by rw [← hW]; exact (Blk.new _ _ _).alloc _)
  have HQ := Lib.hid (show Blk W1 (w.heap.size + 1) 3 #[.int .i64 t] by rw [← hW]; exact blkN _ _ _ (by simp))
  have HG := Lib.hid (show w.grownBy W1 none by rw [← hW]; exact gr_alloc (gr_alloc (gr_refl _ _) _) _)
  have H := Lib.hid (h.grown HG.out (fun g e => by cases e))
  have HW := Lib.hid hW; clear h hW
  go_enter Tryz.func78, Tryz.ntmps78
  go_upto_region 1 with (fail)
  rw [HW.out]
  go_wp2_with fail
  refine (hasBP_any lo A n c l who t w.heap.size (w.heap.size + 1) _ H.out hn HP.out HQ.out).mono ?_
  rintro e w2 ⟨rfl, hg2⟩
  have HG2 := Lib.hid (gr_none HG.out hg2); clear hg2
  go_wp2_with fail
  go_ret
  exact ⟨rfl, HG2.out⟩
set_option maxHeartbeats 2000000 in
theorem hitD_any (b : BlV) (who : ByteArray) (t : Int) (pb qb : Nat) (w : World) (hp : Blk w pb 9 #[.string who]) (hq : Blk w qb 3 #[.int .i64 t]) :
    Calls Tryz.prog 80 #[.agg #[.string b.pay, .int .i64 b.wch, .int .i64 b.frm, .int .i64 b.to_], .pointer (some ⟨pb, 0, none⟩), .pointer (some ⟨qb, 0, none⟩)] w (RetV (.bool (blHit b who t)) w) := by
  have kp := (hp.alloc (.cells #[.string b.pay, .int .i64 b.wch, .int .i64 b.frm, .int .i64 b.to_] 73)).cell 0
  have kq := (hq.alloc (.cells #[.string b.pay, .int .i64 b.wch, .int .i64 b.frm, .int .i64 b.to_] 73)).cell 0
  have hlt1 := hp.lt; have hlt2 := hq.lt
  obtain ⟨E, hE⟩ : ∃ E, (b.pay.toList == who.toList) = E := ⟨_, rfl⟩
  obtain ⟨D1, hD1⟩ : ∃ D, decide (b.frm ≤ t) = D := ⟨_, rfl⟩
  obtain ⟨D2, hD2⟩ : ∃ D, decide (t < b.to_) = D := ⟨_, rfl⟩
  have HV := Lib.hid (show blHit b who t = (E && D1 && D2) by unfold blHit; rw [← eqS_nb, hE, hD1, hD2])
  clear hp hq
  cases E <;> cases D1 <;> cases D2
  all_goals
    go_enter Tryz.func80, Tryz.ntmps80
    go_wp2_with fail
    go_ret
    exact ⟨by rw [HV.out]; rfl, gr_alloc (gr_refl _ _) _⟩
set_option maxHeartbeats 2000000 in
theorem idxBD_any (lo : Nat) (A : Option Addr) (n c : Nat) (l : List BlV) (who : ByteArray) (t : Int) (pb qb : Nat) (w : World) (h : Recs BlV.row 4 w lo A n c l) (hn : n ≤ 1000000000000) (hp : Blk w pb 9 #[.string who]) (hq : Blk w qb 3 #[.int .i64 t]) :
    Calls Tryz.prog 121 #[.slice A n c, .func (.func 80) #[] #[.pointer (some ⟨pb, 0, none⟩), .pointer (some ⟨qb, 0, none⟩)]] w (RetV (.int .i64 (idxP (fun b => blHit b who t) l)) w) := by
  have H := Lib.hid h; have HP := Lib.hid hp; have HQ := Lib.hid hq; clear h hp hq
  go_enter Tryz.func121, Tryz.ntmps121
  go_wp2_with fail
  go_loopw [5, 8] (fun _ t' wr => ∃ i : Nat, i ≤ n ∧ t' = .int .i64 i ∧ w.grownBy wr none ∧ (l.take i).all (fun b => !(blHit b who t)) = true) (fun _ t' _ => n - (intOf t').toNat)
  case atStart => exact ⟨0, Nat.zero_le _, rfl, gr_refl _ _, by simp⟩
  case round =>
    obtain ⟨i, hi, rfl, hg, ha⟩ := hrel
    have HA := Lib.hid ha; have HG := Lib.hid hg; clear ha hg
    by_cases hlt : i < n
    · obtain ⟨g, o, b, rfl, _, hgl, hz, hc⟩ := (H.out.grown HG.out (fun g e => by cases e)).get BlV.row_len hlt
      have HZ := Lib.hid hz; have HC := Lib.hid hc; clear hz hc
      obtain ⟨B, hB⟩ : ∃ B, blHit b who t = B := ⟨_, rfl⟩
      have HE := Lib.hid hB; clear hB
      cases B
      all_goals
        go_wp2_with (first
          | (refine wpl_load_at Tryz.blT rfl _ rfl _ rfl [.string b.pay, .int .i64 b.wch, .int .i64 b.frm, .int .i64 b.to_] rfl (fun j u hu => by rw [add_mk]; exact HC.out j u hu) ?_)
          | (go_at_call 80; refine (hitD_any b who t pb qb _ (HP.out.grown HG.out (by simp)) (HQ.out.grown HG.out (by simp))).mono ?_; rintro e w2 ⟨rfl, hg2⟩; rw [HE.out]; have HG2 := Lib.hid (gr_none HG.out hg2); clear hg2)
          | fail)
      · go_roundw
        case rel => exact ⟨i + 1, by omega, by go_num, HG2.out, allP_succ (p := fun b => blHit b who t) HA.out HZ.out HE.out⟩
        case measure => simp [intOf]; omega
      · go_ret
        exact ⟨by rw [idxP_some (p := fun b => blHit b who t) HA.out HZ.out HE.out]; rfl, HG2.out⟩
    · obtain rfl : i = n := by omega
      go_wp2_with fail
      go_ret
      have h := HA.out
      rw [List.take_of_length_le (by rw [H.out.len]; exact Nat.le_refl _)] at h
      exact ⟨by rw [idxP_none (p := fun b => blHit b who t) h]; rfl, HG.out⟩
set_option maxHeartbeats 1000000 in
theorem hasBD_any (lo : Nat) (A : Option Addr) (n c : Nat) (l : List BlV) (who : ByteArray) (t : Int) (pb qb : Nat) (w : World) (h : Recs BlV.row 4 w lo A n c l) (hn : n ≤ 1000000000000) (hp : Blk w pb 9 #[.string who]) (hq : Blk w qb 3 #[.int .i64 t]) :
    Calls Tryz.prog 79 #[.slice A n c, .func (.func 80) #[] #[.pointer (some ⟨pb, 0, none⟩), .pointer (some ⟨qb, 0, none⟩)]] w (RetV (.bool (blkB l who t)) w) := by
  have H := Lib.hid h; have HP := Lib.hid hp; have HQ := Lib.hid hq; clear h hp hq
  have HI := Lib.hid (show decide (0 ≤ idxP (fun b => blHit b who t) l) = blkB l who t by rw [idxP_any]; rfl)
  obtain ⟨I, hI⟩ : ∃ I, idxP (fun b => blHit b who t) l = I := ⟨_, rfl⟩
  rw [hI] at HI
  have HI2 := Lib.hid hI; clear hI
  go_enter Tryz.func79, Tryz.ntmps79
  go_wp2_with (first
    | (go_at_call 121; refine (idxBD_any lo _ _ _ l who t pb qb _ H.out hn HP.out HQ.out).mono ?_; rintro e w2 ⟨rfl, hg2⟩; rw [HI2.out]; have HG2 := Lib.hid hg2; clear hg2)
    | fail)
  go_ret
  exact ⟨by rw [← HI.out]; rfl, HG2.out⟩
set_option maxHeartbeats 1000000 in
theorem blockedOf_any (lo : Nat) (A : Option Addr) (n c : Nat) (l : List BlV) (who : ByteArray) (t : Int) (w : World) (h : Recs BlV.row 4 w lo A n c l) (hn : n ≤ 1000000000000) :
    Calls Tryz.prog 36 #[.slice A n c, .string who, .int .i64 t] w (RetV (.bool (blkB l who t)) w) := by
  obtain ⟨W1, hW⟩ : ∃ W1, (w.alloc (.cells #[.string who] 9)).alloc (.cells #[.int .i64 t] 3) = W1 := ⟨_, rfl⟩
  have HP := Lib.hid (show Blk W1 w.heap.size 9 #[.string who] by rw [← hW]; exact (Blk.new _ _ _).alloc _)
  have HQ := Lib.hid (show Blk W1 (w.heap.size + 1) 3 #[.int .i64 t] by rw [← hW]; exact blkN _ _ _ (by simp))
  have HG := Lib.hid (show w.grownBy W1 none by rw [← hW]; exact gr_alloc (gr_alloc (gr_refl _ _) _) _)
  have H := Lib.hid (h.grown HG.out (fun g e => by cases e))
  have HW := Lib.hid hW; clear h hW
  go_enter Tryz.func36, Tryz.ntmps36
  go_upto_region 1 with (fail)
  rw [HW.out]
  go_wp2_with fail
  refine (hasBD_any lo A n c l who t w.heap.size (w.heap.size + 1) _ H.out hn HP.out HQ.out).mono ?_
  rintro e w2 ⟨rfl, hg2⟩
  have HG2 := Lib.hid (gr_none HG.out hg2); clear hg2
  go_wp2_with fail
  go_ret
  exact ⟨rfl, HG2.out⟩
def bkdE (n : Nat) (who : ByteArray) (t : Int) : Int := if 3000 < n then 2 else if keyOk (nb who) then (if momB t then 0 else 1) else 5
def bkdV (l : List BlV) (n : Nat) (who : ByteArray) (t : Int) : Bool := if bkdE n who t = 0 then blkB l who t else false
set_option maxHeartbeats 4000000 in
theorem Blocked_any (lo : Nat) (A : Option Addr) (n c : Nat) (l : List BlV) (who : ByteArray) (t : Int) (w : World) (h : Recs BlV.row 4 w lo A n c l) (hn : n ≤ 1000000000) (hw : who.size ≤ 1000) :
    Calls Tryz.prog 33 #[.slice A n c, .string who, .int .i64 t] w (RetV (.tuple #[.bool (bkdV l n who t), .int .i64 (bkdE n who t)]) w) := by
  have H := Lib.hid h; clear h
  by_cases hb : 3000 < n
  · have hb' : decide ((3000 : Int) < (n : Int)) = true := decide_eq_true (by omega)
    have hE : bkdE n who t = 2 := by unfold bkdE; rw [if_pos hb]
    have HF := Lib.hid (show bkdE n who t = 2 ∧ bkdV l n who t = false from ⟨hE, by unfold bkdV; rw [hE]; rfl⟩)
    clear hE
    go_enter Tryz.func33, Tryz.ntmps33
    go_wp2_with fail
    go_ret2
    exact ⟨by rw [HF.out.1, HF.out.2]; rfl, gr_refl _ _⟩
  · have hb' : decide ((3000 : Int) < (n : Int)) = false := decide_eq_false (by omega)
    obtain ⟨K, hK⟩ : ∃ K, keyOk (nb who) = K := ⟨_, rfl⟩
    obtain ⟨M, hM⟩ : ∃ M, momB t = M := ⟨_, rfl⟩
    have HK := Lib.hid hK; have HM := Lib.hid hM
    have hE : bkdE n who t = if K then (if M then 0 else 1) else 5 := by unfold bkdE; rw [if_neg hb, hK, hM]
    cases K
    · have HF := Lib.hid (show bkdE n who t = 5 ∧ bkdV l n who t = false from ⟨hE, by unfold bkdV; rw [hE]; rfl⟩)
      clear hE hK hM
      go_enter Tryz.func33, Tryz.ntmps33
      go_wp2_with fail
      refine (isKey_any who _ (by omega)).mono ?_
      rintro e w2 ⟨rfl, hg2⟩
      rw [HK.out]
      have HG2 := Lib.hid hg2; clear hg2
      go_wp2_with fail
      go_ret2
      exact ⟨by rw [HF.out.1, HF.out.2]; rfl, HG2.out⟩
    · cases M
      · have HF := Lib.hid (show bkdE n who t = 1 ∧ bkdV l n who t = false from ⟨hE, by unfold bkdV; rw [hE]; rfl⟩)
        clear hE hK hM
        go_enter Tryz.func33, Tryz.ntmps33
        go_wp2_with fail
        refine (isKey_any who _ (by omega)).mono ?_
        rintro e w2 ⟨rfl, hg2⟩
        rw [HK.out]
        have HG2 := Lib.hid hg2; clear hg2
        go_wp2_with (first
          | (go_at_call 77; refine (isMomB_any _ _).mono ?_; rintro e w1 ⟨rfl, rfl⟩; rw [HM.out])
          | fail)
        go_ret2
        exact ⟨by rw [HF.out.1, HF.out.2]; rfl, HG2.out⟩
      · have HF := Lib.hid (show bkdE n who t = 0 ∧ bkdV l n who t = blkB l who t from ⟨hE, by unfold bkdV; rw [hE]; rfl⟩)
        clear hE hK hM
        go_enter Tryz.func33, Tryz.ntmps33
        go_wp2_with fail
        refine (isKey_any who _ (by omega)).mono ?_
        rintro e w2 ⟨rfl, hg2⟩
        rw [HK.out]
        have HG2 := Lib.hid hg2; clear hg2
        go_wp2_with (first
          | (go_at_call 77; refine (isMomB_any _ _).mono ?_; rintro e w1 ⟨rfl, rfl⟩; rw [HM.out])
          | fail)
        refine (blockedP_any lo A n c l who t _ (H.out.grown HG2.out (fun g e => by cases e)) (by omega)).mono ?_
        rintro e w3 ⟨rfl, hg3⟩
        obtain ⟨BB, hBB⟩ : ∃ BB, blkB l who t = BB := ⟨_, rfl⟩
        rw [hBB]
        have HBB := Lib.hid hBB; clear hBB
        have HG3 := Lib.hid (gr_none HG2.out hg3); clear hg3
        go_wp2_with fail
        go_ret2
        exact ⟨by rw [HF.out.1, HF.out.2, HBB.out]; rfl, HG3.out⟩
end Go.Proofs.YtdgjjjdndedeiaaGreatDoor

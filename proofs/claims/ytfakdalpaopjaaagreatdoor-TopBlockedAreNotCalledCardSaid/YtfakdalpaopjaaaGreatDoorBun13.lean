/- Contracts of blocked, Blocked and of the document's BlockedOf. Conditions: none. -/
import Derived.Test.YtfakdalpaopjaaaGreatDoorBun6
import Derived.Test.YtfakdalpaopjaaaGreatDoorTar4
import Derived.Deep.CutBlock
import Derived.Test.YtfakdalpaopjaaaGreatDoorBun5
import Derived.Test.YtfakdalpaopjaaaGreatDoorBun12
import Derived.Test.YtfakdalpaopjaaaGreatDoorBun1
namespace Go.Proofs.YtfakdalpaopjaaaGreatDoor
section
open Go.RowKit

theorem Tryz.blT : StructT Tryz.prog 58 4 := ⟨_, Tryz.underlying58, rfl, by kernel_rfl⟩
set_option maxHeartbeats 2000000 in
theorem hitP_any (b : BlV) (who : ByteArray) (t : Int) (pb qb : Nat) (w : World) (hp : Blk w pb 9 #[.string who]) (hq : Blk w qb 3 #[.int .i64 t]) :
    Calls Tryz.prog 94 #[.agg #[.string b.pay, .int .i64 b.wch, .int .i64 b.frm, .int .i64 b.to_], .pointer (some ⟨pb, 0, none⟩), .pointer (some ⟨qb, 0, none⟩)] w (RetV (.bool (blHit b who t)) w) := by
  have kp := (hp.alloc (.cells #[.string b.pay, .int .i64 b.wch, .int .i64 b.frm, .int .i64 b.to_] 58)).cell 0
  have kq := (hq.alloc (.cells #[.string b.pay, .int .i64 b.wch, .int .i64 b.frm, .int .i64 b.to_] 58)).cell 0
  have hlt1 := hp.lt; have hlt2 := hq.lt
  obtain ⟨E, hE⟩ : ∃ E, (b.pay.toList == who.toList) = E := ⟨_, rfl⟩
  obtain ⟨D1, hD1⟩ : ∃ D, decide (b.frm ≤ t) = D := ⟨_, rfl⟩
  obtain ⟨D2, hD2⟩ : ∃ D, decide (t < b.to_) = D := ⟨_, rfl⟩
  have HV := Lib.hid (show blHit b who t = (E && D1 && D2) by unfold blHit; rw [← eqS_nb, hE, hD1, hD2])
  clear hp hq
  cases E <;> cases D1 <;> cases D2
  all_goals
    go_enter Tryz.func94, Tryz.ntmps94
    go_wp2_with fail
    go_ret
    exact ⟨by rw [HV.out]; rfl, gr_alloc (gr_refl _ _) _⟩
set_option maxHeartbeats 2000000 in
theorem idxBP_any (lo : Nat) (A : Option Addr) (n c : Nat) (l : List BlV) (who : ByteArray) (t : Int) (pb qb : Nat) (w : World) (h : Recs BlV.row 4 w lo A n c l) (hn : n ≤ 1000000000000) (hp : Blk w pb 9 #[.string who]) (hq : Blk w qb 3 #[.int .i64 t]) :
    Calls Tryz.prog 40 #[.slice A n c, .func (.func 94) #[] #[.pointer (some ⟨pb, 0, none⟩), .pointer (some ⟨qb, 0, none⟩)]] w (RetV (.int .i64 (idxP (fun b => blHit b who t) l)) w) := by
  have H := Lib.hid h; have HP := Lib.hid hp; have HQ := Lib.hid hq; clear h hp hq
  go_enter Tryz.func40, Tryz.ntmps40
  go_wp2_with fail
  go_loopw [5, 8] (fun _ t' wr => ∃ i : Nat, i ≤ n ∧ t' = .int .i64 i ∧ w.grownBy wr none ∧ (l.take i).all (fun b => !(blHit b who t)) = true) (fun _ t' _ => n - (intOf t').toNat)
  case atStart => exact ⟨0, Nat.zero_le _, rfl, gr_refl _ _, by simp⟩
  case round =>
    obtain ⟨i, hi, rfl, hg, ha⟩ := hrel
    have HA := Lib.hid ha; have HG := Lib.hid hg; clear ha hg
    by_cases hlt : i < n
    · obtain ⟨g, o, b, rfl, _, hgl, hz, hc⟩ := (H.out.grown HG.out (fun g e => by cases e)).get BlV.row_len hlt
      have HZ := Lib.hid hz; have HC := Lib.hid hc; clear hz hc
      obtain ⟨B, hB⟩ : ∃ B, blHit b who t = B := ⟨_, rfl⟩
      have HE := Lib.hid hB; clear hB
      cases B
      all_goals
        go_wp2_with (first
          | (refine wpl_load_at Tryz.blT rfl _ rfl _ rfl [.string b.pay, .int .i64 b.wch, .int .i64 b.frm, .int .i64 b.to_] rfl (fun j u hu => by rw [add_mk]; exact HC.out j u hu) ?_)
          | (go_at_call 94; refine (hitP_any b who t pb qb _ (HP.out.grown HG.out (by simp)) (HQ.out.grown HG.out (by simp))).mono ?_; rintro e w2 ⟨rfl, hg2⟩; rw [HE.out]; have HG2 := Lib.hid (gr_none HG.out hg2); clear hg2)
          | fail)
      · go_roundw
        case rel => exact ⟨i + 1, by omega, by go_num, HG2.out, allP_succ (p := fun b => blHit b who t) HA.out HZ.out HE.out⟩
        case measure => simp [intOf]; omega
      · go_ret
        exact ⟨by rw [idxP_some (p := fun b => blHit b who t) HA.out HZ.out HE.out]; rfl, HG2.out⟩
    · obtain rfl : i = n := by omega
      go_wp2_with fail
      go_ret
      have h := HA.out
      rw [List.take_of_length_le (by rw [H.out.len]; exact Nat.le_refl _)] at h
      exact ⟨by rw [idxP_none (p := fun b => blHit b who t) h]; rfl, HG.out⟩
set_option maxHeartbeats 1000000 in
theorem hasBP_any (lo : Nat) (A : Option Addr) (n c : Nat) (l : List BlV) (who : ByteArray) (t : Int) (pb qb : Nat) (w : World) (h : Recs BlV.row 4 w lo A n c l) (hn : n ≤ 1000000000000) (hp : Blk w pb 9 #[.string who]) (hq : Blk w qb 3 #[.int .i64 t]) :
    Calls Tryz.prog 14 #[.slice A n c, .func (.func 94) #[] #[.pointer (some ⟨pb, 0, none⟩), .pointer (some ⟨qb, 0, none⟩)]] w (RetV (.bool (blkB l who t)) w) := by
  have H := Lib.hid h; have HP := Lib.hid hp; have HQ := Lib.hid hq; clear h hp hq
  have HI := Lib.hid (show decide (0 ≤ idxP (fun b => blHit b who t) l) = blkB l who t by rw [idxP_any]; rfl)
  obtain ⟨I, hI⟩ : ∃ I, idxP (fun b => blHit b who t) l = I := ⟨_, rfl⟩
  rw [hI] at HI
  have HI2 := Lib.hid hI; clear hI
  go_enter Tryz.func14, Tryz.ntmps14
  go_wp2_with (first
    | (go_at_call 40; refine (idxBP_any lo _ _ _ l who t pb qb _ H.out hn HP.out HQ.out).mono ?_; rintro e w2 ⟨rfl, hg2⟩; rw [HI2.out]; have HG2 := Lib.hid hg2; clear hg2)
    | fail)
  go_ret
  exact ⟨by rw [← HI.out]; rfl, HG2.out⟩
set_option maxHeartbeats 1000000 in
theorem blockedP_any (lo : Nat) (A : Option Addr) (n c : Nat) (l : List BlV) (who : ByteArray) (t : Int) (w : World) (h : Recs BlV.row 4 w lo A n c l) (hn : n ≤ 1000000000000) :
    Calls Tryz.prog 59 #[.slice A n c, .string who, .int .i64 t] w (RetV (.bool (blkB l who t)) w) := by
  obtain ⟨W1, hW⟩ : ∃ W1, (w.alloc (.cells #[.string who] 9)).alloc (.cells #[.int .i64 t] 3) = W1 := ⟨_, rfl⟩
  have HP := Lib.hid (show Blk W1 w.heap.size 9 #[.string who] by rw [← hW]; exact (Blk.new _ _ _).alloc _)
  have HQ := Lib.hid (show Blk W1 (w.heap.size + 1) 3 #[.int .i64 t] by rw [← hW]; exact blkN _ _ _ (by simp))
  have HG := Lib.hid (show w.grownBy W1 none by rw [← hW]; exact gr_alloc (gr_alloc (gr_refl _ _) _) _)
  have H := Lib.hid (h.grown HG.out (fun g e => by cases e))
  have HW := Lib.hid hW; clear h hW
  go_enter Tryz.func59, Tryz.ntmps59
  go_upto_region 1 with (fail)
  rw [HW.out]
  go_wp2_with fail
  refine (hasBP_any lo A n c l who t w.heap.size (w.heap.size + 1) _ H.out hn HP.out HQ.out).mono ?_
  rintro e w2 ⟨rfl, hg2⟩
  have HG2 := Lib.hid (gr_none HG.out hg2); clear hg2
  go_wp2_with fail
  go_ret
  exact ⟨rfl, HG2.out⟩
end
end Go.Proofs.YtfakdalpaopjaaaGreatDoor
/- Contracts of ClassOf, Price, PayerOf, of the map of owners and of the document's PayerFor. Conditions: none. -/
namespace Go.Proofs.YtfakdalpaopjaaaGreatDoor
section
open Go.RowKit

def OwnersV (l : List PyV) (w : World) (e : Ending) (w' : World) : Prop := ∃ b m : Nat, e = .returned (.map (some b)) ∧ MapSS w' b m (lastOf (pairsOf l)) ∧ w.grownBy w' none
theorem pairs_take {l : List PyV} {k : Nat} {p : PyV} (h : l[k]? = some p) : pairsOf (l.take (k + 1)) = pairsOf (l.take k) ++ p.nums.map (fun n => (n, p.key)) := by
  unfold pairsOf; rw [take_snoc' h, List.flatMap_append]; simp
theorem pairs_one (ps : List (ByteArray × ByteArray)) (key : ByteArray) {ns : List ByteArray} {j : Nat} {s : ByteArray} (h : ns[j]? = some s) : lastOf (ps ++ (ns.take (j + 1)).map (fun n => (n, key))) = fun k => if nb s = nb k then some key else lastOf (ps ++ (ns.take j).map (fun n => (n, key))) k := by
  funext k
  rw [take_snoc' h, List.map_append, ← List.append_assoc]
  exact lastOf_snoc _ _ _ _
set_option maxHeartbeats 8000000 in
set_option maxRecDepth 100000 in
theorem owners_any (lo : Nat) (A : Option Addr) (n c : Nat) (l : List PyV) (w : World) (h : Pys w lo A n c l) (hn : n ≤ 1000) :
    Calls Tryz.prog 39 #[.slice A n c] w (OwnersV l w) := by
  have H := Lib.hid h; clear h
  have hmm := @run_makeMap Tryz.prog
  go_enter Tryz.func39, Tryz.ntmps39
  go_wp2_with fail
  clear hmm
  go_loopw [5, 7, 11] (fun _ _ t wr => ∃ k m : Nat, k ≤ n ∧ t = .int .i64 k ∧ w.grownBy wr none ∧ MapSS wr w.heap.size m (lastOf (pairsOf (l.take k))) ∧ m ≤ 1000 * k) (fun _ _ t _ => n - (intOf t).toNat)
  case atStart => exact ⟨0, 0, Nat.zero_le _, rfl, gr_alloc (gr_refl _ _) _, MapSS.new _, by omega⟩
  case round =>
    obtain ⟨k, m, hk, rfl, hg, hset, hm⟩ := hrel
    have zr := hg.size
    have zs := hset.lt
    have HG := Lib.hid hg; have HSET := Lib.hid hset; clear hg hset
    by_cases hlt : k < n
    · obtain ⟨g, o, ⟨key, nA, nn, nc, nums⟩, rfl, _, hgl, hz, hcc⟩ := (H.out.1.grown HG.out (fun g e => by cases e)).get PyV.row_len hlt
      obtain ⟨⟨p1, p2, p3⟩, p4⟩ := H.out.2 _ (mem_of_get hz)
      dsimp only at p1 p2 p3 p4
      have HP2 := Lib.hid p2; have HPN := Lib.hid p4; clear p2 p4
      have HZ := Lib.hid hz; have HC := Lib.hid hcc; clear hz hcc
      have hsB := Blk.new wr 70 #[.string key, .slice nA nn nc]
      have k1 := hsB.cell 1
      have HB := Lib.hid hsB
      replace HG := Lib.hid (gr_alloc HG.out (.cells #[.string key, .slice nA nn nc] 70))
      replace HSET := Lib.hid (HSET.out.kept (gr_alloc (gr_refl _ none) (.cells #[.string key, .slice nA nn nc] 70)) (by simp))
      clear hsB
      go_wp2_with (first
        | (refine wpl_load_at Tryz.pyT rfl _ rfl _ rfl [.string key, .slice nA nn nc] rfl (fun j u hu => by rw [add_mk]; exact HC.out j u hu) ?_)
        | fail)
      clear k1
      obtain ⟨wo, rfl⟩ : ∃ wo : World, wo = wr := ⟨_, rfl⟩
      go_loopw [7, 18] (fun _ t wr => ∃ j m : Nat, j ≤ nn ∧ t = .int .i64 j ∧ w.grownBy wr none ∧ Blk wr wo.heap.size 70 #[.string key, .slice nA nn nc] ∧ MapSS wr w.heap.size m (lastOf (pairsOf (l.take k) ++ (nums.take j).map (fun n => (n, key)))) ∧ m ≤ 1000 * k + j) (fun _ t _ => nn - (intOf t).toNat)
      case atStart => exact ⟨0, m, Nat.zero_le _, rfl, HG.out, HB.out, by rw [List.take_zero, List.map_nil, List.append_nil]; exact HSET.out, by omega⟩
      case round =>
        clear HG HB HSET
        obtain ⟨j, m1, hj, rfl, hg, hbl, hset, hm1⟩ := hrel
        have zr1 := hg.size
        have zs1 := hset.lt
        have k0 := hbl.cell 0
        have HG := Lib.hid hg; have HB := Lib.hid hbl; have HSET := Lib.hid hset; clear hg hbl hset
        by_cases hlt2 : j < nn
        · obtain ⟨g2, o2, s, rfl, _, hgl2, hz, hcc⟩ := (HPN.out.grown HG.out (fun g e => by cases e)).get srow_len hlt2
          have hsz : s.size ≤ 1000 := HP2.out _ (mem_of_get hz)
          have ks := hcc 0 _ rfl
          simp only [Nat.mul_one, Nat.add_zero] at ks
          have HS := Lib.hid hz; clear hz hcc
          go_wp2_with (first
            | (at_mapUpdate
               refine wpl_ssput rfl _ _ _ rfl rfl s key rfl rfl (by unfold maxLen; omega) (by unfold maxLen; omega) (by exact HSET.out) (by unfold maxLen; omega) ?_
               intro w5 hset5 hg5
               have HS5 := Lib.hid hset5
               have HB5 := Lib.hid (HB.out.grown hg5 (by simp; omega))
               have HG5 := Lib.hid (gr_trans HG.out hg5 (fun g e => .inr (by injection e with e; omega)))
               clear hset5 hg5)
            | fail)
          go_roundw
          case rel => exact ⟨j + 1, _, by omega, by go_num, HG5.out, HB5.out, by rw [pairs_one _ key HS.out]; exact HS5.out, by omega⟩
          case measure => simp [intOf]; omega
        · obtain rfl : nn = j := by omega
          have HT := Lib.hid (show MapSS wr w.heap.size m1 (lastOf (pairsOf (l.take (k + 1)))) by
            rw [pairs_take HZ.out]
            have h := HSET.out
            rw [List.take_of_length_le (l := nums) (by rw [HPN.out.len]; exact Nat.le_refl _)] at h
            exact h)
          clear k0
          go_wp2_with fail
          go_roundw
          case rel => exact ⟨k + 1, _, by omega, by go_num, HG.out, HT.out, by omega⟩
          case measure => simp [intOf]; omega
    · obtain rfl : n = k := by omega
      have HT := Lib.hid (show MapSS wr w.heap.size m (lastOf (pairsOf l)) by
        have h := HSET.out
        rw [List.take_of_length_le (by rw [H.out.1.len]; exact Nat.le_refl _)] at h
        exact h)
      go_wp2_with fail
      go_ret
      exact ⟨_, m, rfl, HT.out, HG.out⟩

/-! What PayerOf answers. -/
def payAns (l : List PyV) (s : ByteArray) : Option ByteArray := if pysE l = 0 then (if phOk (nb s) then (payerOf l (nb s)).map (·.key) else none) else none
def payErr (l : List PyV) (s : ByteArray) : Int := if pysE l = 0 then (if phOk (nb s) then 0 else 3) else pysE l
def optS (o : Option ByteArray) : ByteArray := o.getD ⟨#[]⟩
end
end Go.Proofs.YtfakdalpaopjaaaGreatDoor
/- Contract of Price. Conditions: none. -/
namespace Go.Proofs.YtfakdalpaopjaaaGreatDoor
section
open Go.RowKit

/-! What ClassOf and Price answer. -/
theorem clsOf_mem {l : List ClV} {s : List Nat} {c : ClV} (h : clsOf l s = some c) : c ∈ l := by
  have step : ∀ k, clsTo l s k = some c → c ∈ l := by
    intro k
    induction k with
    | zero => intro h; exact List.mem_of_find?_eq_some h
    | succ k ih =>
      intro h
      unfold clsTo at h
      cases h2 : clsAt l (s.take (k + 1)) with
      | none => rw [h2] at h; exact ih h
      | some d => rw [h2] at h; rw [← Option.some.inj h]; exact List.mem_of_find?_eq_some h2
  exact step _ h
end
end Go.Proofs.YtfakdalpaopjaaaGreatDoor
/- Contracts of ClassOf and PayerOf. Conditions: none. -/
namespace Go.Proofs.YtfakdalpaopjaaaGreatDoor
section
open Go.RowKit

set_option maxHeartbeats 4000000 in
theorem payerOf_any (lo : Nat) (A : Option Addr) (n c : Nat) (l : List PyV) (s : ByteArray) (w : World) (h : Pys w lo A n c l) (hn : n ≤ 1000) (hs : s.size ≤ 1000) :
    Calls Tryz.prog 13 #[.slice A n c, .string s] w (RetV (.tuple #[.string (optS (payAns l s)), .bool (payAns l s).isSome, .int .i64 (payErr l s)]) w) := by
  have H := Lib.hid h; clear h
  obtain ⟨E, hE⟩ : ∃ E, pysE l = E := ⟨_, rfl⟩
  obtain ⟨B, hB⟩ : ∃ B, phOk (nb s) = B := ⟨_, rfl⟩
  have HE := Lib.hid hE; have HBP := Lib.hid hB
  by_cases h9 : E = 0
  · have h9' : (E != 0) = false := by simpa using h9
    cases B
    · have HF := Lib.hid (show payAns l s = none ∧ payErr l s = 3 by unfold payAns payErr; rw [hE, hB, if_pos h9, if_pos h9]; exact ⟨rfl, rfl⟩)
      clear h9 hE hB
      go_enter Tryz.func13, Tryz.ntmps13
      go_wp2_with fail
      refine (checkPayers_any lo _ _ _ l _ H.out (by omega)).mono ?_
      rintro e w2 ⟨rfl, hg2⟩
      rw [HE.out]
      have HG2 := Lib.hid hg2; clear hg2
      go_wp2_with fail
      refine (isNumber_any s _ (by omega)).mono ?_
      rintro e w3 ⟨rfl, hg3⟩
      rw [HBP.out]
      have HG3 := Lib.hid (gr_none HG2.out hg3); clear hg3
      go_wp2_with fail
      go_ret3
      exact ⟨by rw [HF.out.1, HF.out.2]; rfl, HG3.out⟩
    · have HF := Lib.hid (show payAns l s = lastOf (pairsOf l) s ∧ payErr l s = 0 by
        unfold payAns payErr
        rw [hE, hB, if_pos h9, if_pos h9, payer_last (fun p hp => (H.out.2 p hp).2.len) (by rw [hE]; exact h9)]
        exact ⟨rfl, rfl⟩)
      clear h9 hE hB
      go_enter Tryz.func13, Tryz.ntmps13
      go_wp2_with fail
      refine (checkPayers_any lo _ _ _ l _ H.out (by omega)).mono ?_
      rintro e w2 ⟨rfl, hg2⟩
      rw [HE.out]
      have HG2 := Lib.hid hg2; clear hg2
      go_wp2_with fail
      refine (isNumber_any s _ (by omega)).mono ?_
      rintro e w3 ⟨rfl, hg3⟩
      rw [HBP.out]
      have HG3 := Lib.hid (gr_none HG2.out hg3); clear hg3
      go_wp2_with fail
      refine (owners_any lo _ _ _ l _ (H.out.grown HG3.out (fun g e => by cases e)) hn).mono ?_
      rintro e w4 ⟨b, m, rfl, hset, hg4⟩
      have HSET := Lib.hid hset
      have HG4 := Lib.hid (gr_none HG3.out hg4); clear hset hg4
      go_wp2_with (first
        | (at_lookup; refine wpl_sslook2 rfl _ _ rfl rfl s rfl (by unfold maxLen; omega) HSET.out ?_)
        | fail)
      go_ret3
      exact ⟨by rw [HF.out.1, HF.out.2]; rfl, HG4.out⟩
  · have h9' : (E != 0) = true := by simpa using h9
    have HF := Lib.hid (show payAns l s = none ∧ payErr l s = E by unfold payAns payErr; rw [hE, if_neg h9, if_neg h9]; exact ⟨rfl, rfl⟩)
    clear h9 hE hB
    go_enter Tryz.func13, Tryz.ntmps13
    go_wp2_with fail
    refine (checkPayers_any lo _ _ _ l _ H.out (by omega)).mono ?_
    rintro e w2 ⟨rfl, hg2⟩
    rw [HE.out]
    have HG2 := Lib.hid hg2; clear hg2
    go_wp2_with fail
    go_ret3
    exact ⟨by rw [HF.out.1, HF.out.2]; rfl, HG2.out⟩
end
end Go.Proofs.YtfakdalpaopjaaaGreatDoor

/- Contracts of ClassOf, Price, PayerOf, of the map of owners and of the document's PayerFor. Conditions: none. -/
import Derived.Test.YtdgjjjdndedeiaaGreatDoorTar3
import Derived.Test.YtdgjjjdndedeiaaGreatDoorTar4
import Derived.Test.YtdgjjjdndedeiaaGreatDoorMapSS
namespace Go.Proofs.YtdgjjjdndedeiaaGreatDoor
open Go.RowKit

set_option maxHeartbeats 2000000 in
theorem indexS_any (lo : Nat) (A : Option Addr) (n c : Nat) (l : List ByteArray) (s : ByteArray) (w : World) (h : Recs srow 1 w lo A n c l) (hn : n ≤ 1000000000) :
    Calls Tryz.prog 115 #[.slice A n c, .string s] w (Same (.int .i64 (idxP (fun x => nb x == nb s) l)) w) := by
  have H := Lib.hid h; clear h
  go_enter Tryz.func115, Tryz.ntmps115
  go_wp2_with fail
  go_loop [5, 8] (fun _ t => ∃ i : Nat, i ≤ n ∧ t = .int .i64 i ∧ (l.take i).all (fun x => !(nb x == nb s)) = true) (fun _ t => n - (intOf t).toNat)
  case atStart => exact ⟨0, Nat.zero_le _, rfl, rfl⟩
  case round =>
    obtain ⟨i, hi, rfl, ha⟩ := hrel
    have HA := Lib.hid ha; clear ha
    by_cases hlt : i < n
    · obtain ⟨g, o, x, rfl, _, hgl, hz, hcc⟩ := H.out.get srow_len hlt
      have ks := hcc 0 _ rfl
      simp only [Nat.mul_one, Nat.add_zero] at ks
      have HZ := Lib.hid hz; clear hz hcc
      obtain ⟨E, hE⟩ : ∃ E, (s.toList == x.toList) = E := ⟨_, rfl⟩
      have HE := Lib.hid (show (nb x == nb s) = E by rw [← hE, eqS_nb, Bool.eq_iff_iff, beq_iff_eq, beq_iff_eq]; exact eq_comm)
      cases E
      · go_wp2_with fail
        go_round
        case rel => exact ⟨i + 1, by omega, by go_num, allP_succ (p := fun x : ByteArray => nb x == nb s) HA.out HZ.out HE.out⟩
        case measure => simp [intOf]; omega
      · go_wp2_with fail
        go_ret
        exact ⟨by rw [idxP_some (p := fun x : ByteArray => nb x == nb s) HA.out HZ.out HE.out]; rfl, rfl⟩
    · obtain rfl : n = i := by omega
      go_wp2_with fail
      go_ret
      have h := HA.out
      rw [List.take_of_length_le (by rw [H.out.len]; exact Nat.le_refl _)] at h
      exact ⟨by rw [idxP_none (p := fun x : ByteArray => nb x == nb s) h]; rfl, rfl⟩
set_option maxHeartbeats 1000000 in
theorem containsS_any (lo : Nat) (A : Option Addr) (n c : Nat) (l : List ByteArray) (s : ByteArray) (w : World) (h : Recs srow 1 w lo A n c l) (hn : n ≤ 1000000000) :
    Calls Tryz.prog 59 #[.slice A n c, .string s] w (Same (.bool (l.any (fun x => nb x == nb s))) w) := by
  have H := Lib.hid h; clear h
  obtain ⟨I, hI⟩ : ∃ I, idxP (fun x => nb x == nb s) l = I := ⟨_, rfl⟩
  have HI := Lib.hid (show decide (0 ≤ I) = l.any (fun x => nb x == nb s) by rw [← hI]; exact idxP_any)
  have HI2 := Lib.hid hI; clear hI
  go_enter Tryz.func59, Tryz.ntmps59
  go_wp2_with (first
    | (go_at_call 115; refine (indexS_any lo _ _ _ l s _ H.out hn).mono ?_; rintro e w2 ⟨rfl, rfl⟩; rw [HI2.out])
    | fail)
  go_ret
  exact ⟨by rw [← HI.out]; rfl, rfl⟩

def OwnersV (l : List PyV) (w : World) (e : Ending) (w' : World) : Prop := ∃ b m : Nat, e = .returned (.map (some b)) ∧ MapSS w' b m (lastOf (pairsOf l)) ∧ w.grownBy w' none
theorem pairs_take {l : List PyV} {k : Nat} {p : PyV} (h : l[k]? = some p) : pairsOf (l.take (k + 1)) = pairsOf (l.take k) ++ p.nums.map (fun n => (n, p.key)) := by
  unfold pairsOf; rw [take_snoc' h, List.flatMap_append]; simp
theorem pairs_one (ps : List (ByteArray × ByteArray)) (key : ByteArray) {ns : List ByteArray} {j : Nat} {s : ByteArray} (h : ns[j]? = some s) : lastOf (ps ++ (ns.take (j + 1)).map (fun n => (n, key))) = fun k => if nb s = nb k then some key else lastOf (ps ++ (ns.take j).map (fun n => (n, key))) k := by
  funext k
  rw [take_snoc' h, List.map_append, ← List.append_assoc]
  exact lastOf_snoc _ _ _ _
set_option maxHeartbeats 8000000 in
set_option maxRecDepth 100000 in
theorem owners_any (lo : Nat) (A : Option Addr) (n c : Nat) (l : List PyV) (w : World) (h : Pys w lo A n c l) (hn : n ≤ 1000) :
    Calls Tryz.prog 56 #[.slice A n c] w (OwnersV l w) := by
  have H := Lib.hid h; clear h
  have hmm := @run_makeMap Tryz.prog
  go_enter Tryz.func56, Tryz.ntmps56
  go_wp2_with fail
  clear hmm
  go_loopw [5, 7, 11] (fun _ _ t wr => ∃ k m : Nat, k ≤ n ∧ t = .int .i64 k ∧ w.grownBy wr none ∧ MapSS wr w.heap.size m (lastOf (pairsOf (l.take k))) ∧ m ≤ 1000 * k) (fun _ _ t _ => n - (intOf t).toNat)
  case atStart => exact ⟨0, 0, Nat.zero_le _, rfl, gr_alloc (gr_refl _ _) _, MapSS.new _, by omega⟩
  case round =>
    obtain ⟨k, m, hk, rfl, hg, hset, hm⟩ := hrel
    have zr := hg.size
    have zs := hset.lt
    have HG := Lib.hid hg; have HSET := Lib.hid hset; clear hg hset
    by_cases hlt : k < n
    · obtain ⟨g, o, ⟨key, nA, nn, nc, nums⟩, rfl, _, hgl, hz, hcc⟩ := (H.out.1.grown HG.out (fun g e => by cases e)).get PyV.row_len hlt
      obtain ⟨⟨p1, p2, p3⟩, p4⟩ := H.out.2 _ (mem_of_get hz)
      dsimp only at p1 p2 p3 p4
      have HP2 := Lib.hid p2; have HPN := Lib.hid p4; clear p2 p4
      have HZ := Lib.hid hz; have HC := Lib.hid hcc; clear hz hcc
      have hsB := Blk.new wr 107 #[.string key, .slice nA nn nc]
      have k1 := hsB.cell 1
      have HB := Lib.hid hsB
      replace HG := Lib.hid (gr_alloc HG.out (.cells #[.string key, .slice nA nn nc] 107))
      replace HSET := Lib.hid (HSET.out.kept (gr_alloc (gr_refl _ none) (.cells #[.string key, .slice nA nn nc] 107)) (by simp))
      clear hsB
      go_wp2_with (first
        | (refine wpl_load_at Tryz.pyT rfl _ rfl _ rfl [.string key, .slice nA nn nc] rfl (fun j u hu => by rw [add_mk]; exact HC.out j u hu) ?_)
        | fail)
      clear k1
      obtain ⟨wo, rfl⟩ : ∃ wo : World, wo = wr := ⟨_, rfl⟩
      go_loopw [7, 18] (fun _ t wr => ∃ j m : Nat, j ≤ nn ∧ t = .int .i64 j ∧ w.grownBy wr none ∧ Blk wr wo.heap.size 107 #[.string key, .slice nA nn nc] ∧ MapSS wr w.heap.size m (lastOf (pairsOf (l.take k) ++ (nums.take j).map (fun n => (n, key)))) ∧ m ≤ 1000 * k + j) (fun _ t _ => nn - (intOf t).toNat)
      case atStart => exact ⟨0, m, Nat.zero_le _, rfl, HG.out, HB.out, by rw [List.take_zero, List.map_nil, List.append_nil]; exact HSET.out, by omega⟩
      case round =>
        clear HG HB HSET
        obtain ⟨j, m1, hj, rfl, hg, hbl, hset, hm1⟩ := hrel
        have zr1 := hg.size
        have zs1 := hset.lt
        have k0 := hbl.cell 0
        have HG := Lib.hid hg; have HB := Lib.hid hbl; have HSET := Lib.hid hset; clear hg hbl hset
        by_cases hlt2 : j < nn
        · obtain ⟨g2, o2, s, rfl, _, hgl2, hz, hcc⟩ := (HPN.out.grown HG.out (fun g e => by cases e)).get srow_len hlt2
          have hsz : s.size ≤ 1000 := HP2.out _ (mem_of_get hz)
          have ks := hcc 0 _ rfl
          simp only [Nat.mul_one, Nat.add_zero] at ks
          have HS := Lib.hid hz; clear hz hcc
          go_wp2_with (first
            | (at_mapUpdate
               refine wpl_ssput rfl _ _ _ rfl rfl s key rfl rfl (by unfold maxLen; omega) (by unfold maxLen; omega) (by exact HSET.out) (by unfold maxLen; omega) ?_
               intro w5 hset5 hg5
               have HS5 := Lib.hid hset5
               have HB5 := Lib.hid (HB.out.grown hg5 (by simp; omega))
               have HG5 := Lib.hid (gr_trans HG.out hg5 (fun g e => .inr (by injection e with e; omega)))
               clear hset5 hg5)
            | fail)
          go_roundw
          case rel => exact ⟨j + 1, _, by omega, by go_num, HG5.out, HB5.out, by rw [pairs_one _ key HS.out]; exact HS5.out, by omega⟩
          case measure => simp [intOf]; omega
        · obtain rfl : nn = j := by omega
          have HT := Lib.hid (show MapSS wr w.heap.size m1 (lastOf (pairsOf (l.take (k + 1)))) by
            rw [pairs_take HZ.out]
            have h := HSET.out
            rw [List.take_of_length_le (l := nums) (by rw [HPN.out.len]; exact Nat.le_refl _)] at h
            exact h)
          clear k0
          go_wp2_with fail
          go_roundw
          case rel => exact ⟨k + 1, _, by omega, by go_num, HG.out, HT.out, by omega⟩
          case measure => simp [intOf]; omega
    · obtain rfl : n = k := by omega
      have HT := Lib.hid (show MapSS wr w.heap.size m (lastOf (pairsOf l)) by
        have h := HSET.out
        rw [List.take_of_length_le (by rw [H.out.1.len]; exact Nat.le_refl _)] at h
        exact h)
      go_wp2_with fail
      go_ret
      exact ⟨_, m, rfl, HT.out, HG.out⟩

/-! What PayerOf answers. -/
def payAns (l : List PyV) (s : ByteArray) : Option ByteArray := if pysE l = 0 then (if phOk (nb s) then (payerOf l (nb s)).map (·.key) else none) else none
def payErr (l : List PyV) (s : ByteArray) : Int := if pysE l = 0 then (if phOk (nb s) then 0 else 3) else pysE l
def optS (o : Option ByteArray) : ByteArray := o.getD ⟨#[]⟩
set_option maxHeartbeats 4000000 in
theorem payerFor_any (lo : Nat) (A : Option Addr) (n c : Nat) (l : List PyV) (s : ByteArray) (w : World) (h : Pys w lo A n c l) (hn : n ≤ 1000) :
    Calls Tryz.prog 76 #[.slice A n c, .string s] w (RetV (.tuple #[.string (optS ((payerOf l (nb s)).map (·.key))), .bool ((payerOf l (nb s)).map (·.key)).isSome]) w) := by
  have H := Lib.hid h; clear h
  obtain ⟨R, hR⟩ : ∃ R, payerOf l (nb s) = R := ⟨_, rfl⟩
  rw [hR]
  have HR := Lib.hid hR; clear hR
  go_enter Tryz.func76, Tryz.ntmps76
  go_wp2_with fail
  go_loopw [7, 10] (fun _ t wr => ∃ k : Nat, k ≤ n ∧ t = .int .i64 k ∧ w.grownBy wr none ∧ (l.take k).all (fun p => !(p.nums.any (fun x => nb x == nb s))) = true) (fun _ t _ => n - (intOf t).toNat)
  case atStart => exact ⟨0, Nat.zero_le _, rfl, gr_refl _ _, rfl⟩
  case round =>
    obtain ⟨k, hk, rfl, hg, ha⟩ := hrel
    have HG := Lib.hid hg; have HA := Lib.hid ha; clear hg ha
    by_cases hlt : k < n
    · obtain ⟨g, o, ⟨key, nA, nn, nc, nums⟩, rfl, _, hgl, hz, hcc⟩ := (H.out.1.grown HG.out (fun g e => by cases e)).get PyV.row_len hlt
      obtain ⟨⟨p1, p2, p3⟩, p4⟩ := H.out.2 _ (mem_of_get hz)
      dsimp only at p1 p2 p3 p4
      have HPN := Lib.hid p4; clear p2 p4
      have HZ := Lib.hid hz; have HC := Lib.hid hcc; clear hz hcc
      have hsB := Blk.new wr 107 #[.string key, .slice nA nn nc]
      have k0 := hsB.cell 0
      have k1 := hsB.cell 1
      replace HG := Lib.hid (gr_alloc HG.out (.cells #[.string key, .slice nA nn nc] 107))
      clear hsB
      obtain ⟨E, hE⟩ : ∃ E, nums.any (fun x => nb x == nb s) = E := ⟨_, rfl⟩
      have HE := Lib.hid hE; clear hE
      cases E
      · go_wp2_with (first
          | (refine wpl_load_at Tryz.pyT rfl _ rfl _ rfl [.string key, .slice nA nn nc] rfl (fun j u hu => by rw [add_mk]; exact HC.out j u hu) ?_)
          | (go_at_call 59; refine (containsS_any lo _ _ _ nums s _ (HPN.out.grown (by exact HG.out) (fun g e => by cases e)) (by omega)).mono ?_; rintro e w2 ⟨rfl, rfl⟩; rw [HE.out])
          | fail)
        go_roundw
        case rel => exact ⟨k + 1, by omega, by go_num, HG.out, allP_succ (p := fun p : PyV => p.nums.any (fun x => nb x == nb s)) HA.out HZ.out HE.out⟩
        case measure => simp [intOf]; omega
      · replace HR := Lib.hid (show R = some ⟨key, nA, nn, nc, nums⟩ by
          rw [← HR.out]
          unfold payerOf
          obtain ⟨hl, hgt⟩ := List.getElem?_eq_some_iff.1 HZ.out
          rw [List.find?_eq_some_iff_getElem]
          refine ⟨HE.out, k, hl, hgt, fun j hj => ?_⟩
          exact List.all_eq_true.1 HA.out l[j] (by
            rw [List.mem_iff_getElem?]
            exact ⟨j, by rw [List.getElem?_take, if_pos hj]; exact List.getElem?_eq_getElem (by omega)⟩))
        go_wp2_with (first
          | (refine wpl_load_at Tryz.pyT rfl _ rfl _ rfl [.string key, .slice nA nn nc] rfl (fun j u hu => by rw [add_mk]; exact HC.out j u hu) ?_)
          | (go_at_call 59; refine (containsS_any lo _ _ _ nums s _ (HPN.out.grown (by exact HG.out) (fun g e => by cases e)) (by omega)).mono ?_; rintro e w2 ⟨rfl, rfl⟩; rw [HE.out])
          | fail)
        go_ret2
        exact ⟨by rw [HR.out]; rfl, HG.out⟩
    · obtain rfl : n = k := by omega
      replace HR := Lib.hid (show R = none by
        rw [← HR.out]
        unfold payerOf
        rw [List.find?_eq_none]
        intro p hp
        have h := HA.out
        rw [List.take_of_length_le (by rw [H.out.1.len]; exact Nat.le_refl _)] at h
        have := List.all_eq_true.1 h p hp
        simpa using this)
      go_wp2_with fail
      go_ret2
      exact ⟨by rw [HR.out]; rfl, HG.out⟩
end Go.Proofs.YtdgjjjdndedeiaaGreatDoor

/- Contracts of ClassOf, Price, PayerOf, of the map of owners and of the document's PayerFor. Conditions: none. -/
import Derived.Test.YtpildcnoghojpaaGreatDoorBun4
import Derived.Test.YtpildcnoghojpaaGreatDoorBun6
import Derived.Test.YtpildcnoghojpaaGreatDoorTar4
import Derived.Test.YtpildcnoghojpaaGreatDoorBun1
namespace Go.Proofs.YtpildcnoghojpaaGreatDoor
section
open Go.RowKit

def OwnersV (l : List PyV) (w : World) (e : Ending) (w' : World) : Prop := ∃ b m : Nat, e = .returned (.map (some b)) ∧ MapSS w' b m (lastOf (pairsOf l)) ∧ w.grownBy w' none
theorem pairs_take {l : List PyV} {k : Nat} {p : PyV} (h : l[k]? = some p) : pairsOf (l.take (k + 1)) = pairsOf (l.take k) ++ p.nums.map (fun n => (n, p.key)) := by
  unfold pairsOf; rw [take_snoc' h, List.flatMap_append]; simp
theorem pairs_one (ps : List (ByteArray × ByteArray)) (key : ByteArray) {ns : List ByteArray} {j : Nat} {s : ByteArray} (h : ns[j]? = some s) : lastOf (ps ++ (ns.take (j + 1)).map (fun n => (n, key))) = fun k => if nb s = nb k then some key else lastOf (ps ++ (ns.take j).map (fun n => (n, key))) k := by
  funext k
  rw [take_snoc' h, List.map_append, ← List.append_assoc]
  exact lastOf_snoc _ _ _ _
set_option maxHeartbeats 8000000 in
set_option maxRecDepth 100000 in
theorem owners_any (lo : Nat) (A : Option Addr) (n c : Nat) (l : List PyV) (w : World) (h : Pys w lo A n c l) (hn : n ≤ 1000) :
    Calls Tryz.prog 47 #[.slice A n c] w (OwnersV l w) := by
  have H := Lib.hid h; clear h
  have hmm := @run_makeMap Tryz.prog
  go_enter Tryz.func47, Tryz.ntmps47
  go_wp2_with fail
  clear hmm
  go_loopw [5, 7, 11] (fun _ _ t wr => ∃ k m : Nat, k ≤ n ∧ t = .int .i64 k ∧ w.grownBy wr none ∧ MapSS wr w.heap.size m (lastOf (pairsOf (l.take k))) ∧ m ≤ 1000 * k) (fun _ _ t _ => n - (intOf t).toNat)
  case atStart => exact ⟨0, 0, Nat.zero_le _, rfl, gr_alloc (gr_refl _ _) _, MapSS.new _, by omega⟩
  case round =>
    obtain ⟨k, m, hk, rfl, hg, hset, hm⟩ := hrel
    have zr := hg.size
    have zs := hset.lt
    have HG := Lib.hid hg; have HSET := Lib.hid hset; clear hg hset
    by_cases hlt : k < n
    · obtain ⟨g, o, ⟨key, nA, nn, nc, nums⟩, rfl, _, hgl, hz, hcc⟩ := (H.out.1.grown HG.out (fun g e => by cases e)).get PyV.row_len hlt
      obtain ⟨⟨p1, p2, p3⟩, p4⟩ := H.out.2 _ (mem_of_get hz)
      dsimp only at p1 p2 p3 p4
      have HP2 := Lib.hid p2; have HPN := Lib.hid p4; clear p2 p4
      have HZ := Lib.hid hz; have HC := Lib.hid hcc; clear hz hcc
      have hsB := Blk.new wr 53 #[.string key, .slice nA nn nc]
      have k1 := hsB.cell 1
      have HB := Lib.hid hsB
      replace HG := Lib.hid (gr_alloc HG.out (.cells #[.string key, .slice nA nn nc] 53))
      replace HSET := Lib.hid (HSET.out.kept (gr_alloc (gr_refl _ none) (.cells #[.string key, .slice nA nn nc] 53)) (by simp))
      clear hsB
      go_wp2_with (first
        | (refine wpl_load_at Tryz.pyT rfl _ rfl _ rfl [.string key, .slice nA nn nc] rfl (fun j u hu => by rw [add_mk]; exact HC.out j u hu) ?_)
        | fail)
      clear k1
      obtain ⟨wo, rfl⟩ : ∃ wo : World, wo = wr := ⟨_, rfl⟩
      go_loopw [7, 18] (fun _ t wr => ∃ j m : Nat, j ≤ nn ∧ t = .int .i64 j ∧ w.grownBy wr none ∧ Blk wr wo.heap.size 53 #[.string key, .slice nA nn nc] ∧ MapSS wr w.heap.size m (lastOf (pairsOf (l.take k) ++ (nums.take j).map (fun n => (n, key)))) ∧ m ≤ 1000 * k + j) (fun _ t _ => nn - (intOf t).toNat)
      case atStart => exact ⟨0, m, Nat.zero_le _, rfl, HG.out, HB.out, by rw [List.take_zero, List.map_nil, List.append_nil]; exact HSET.out, by omega⟩
      case round =>
        clear HG HB HSET
        obtain ⟨j, m1, hj, rfl, hg, hbl, hset, hm1⟩ := hrel
        have zr1 := hg.size
        have zs1 := hset.lt
        have k0 := hbl.cell 0
        have HG := Lib.hid hg; have HB := Lib.hid hbl; have HSET := Lib.hid hset; clear hg hbl hset
        by_cases hlt2 : j < nn
        · obtain ⟨g2, o2, s, rfl, _, hgl2, hz, hcc⟩ := (HPN.out.grown HG.out (fun g e => by cases e)).get srow_len hlt2
          have hsz : s.size ≤ 1000 := HP2.out _ (mem_of_get hz)
          have ks := hcc 0 _ rfl
          simp only [Nat.mul_one, Nat.add_zero] at ks
          have HS := Lib.hid hz; clear hz hcc
          go_wp2_with (first
            | (at_mapUpdate
               refine wpl_ssput rfl _ _ _ rfl rfl s key rfl rfl (by unfold maxLen; omega) (by unfold maxLen; omega) (by exact HSET.out) (by unfold maxLen; omega) ?_
               intro w5 hset5 hg5
               have HS5 := Lib.hid hset5
               have HB5 := Lib.hid (HB.out.grown hg5 (by simp; omega))
               have HG5 := Lib.hid (gr_trans HG.out hg5 (fun g e => .inr (by injection e with e; omega)))
               clear hset5 hg5)
            | fail)
          go_roundw
          case rel => exact ⟨j + 1, _, by omega, by go_num, HG5.out, HB5.out, by rw [pairs_one _ key HS.out]; exact HS5.out, by omega⟩
          case measure => simp [intOf]; omega
        · obtain rfl : nn = j := by omega
          have HT := Lib.hid (show MapSS wr w.heap.size m1 (lastOf (pairsOf (l.take (k + 1)))) by
            rw [pairs_take HZ.out]
            have h := HSET.out
            rw [List.take_of_length_le (l := nums) (by rw [HPN.out.len]; exact Nat.le_refl _)] at h
            exact h)
          clear k0
          go_wp2_with fail
          go_roundw
          case rel => exact ⟨k + 1, _, by omega, by go_num, HG.out, HT.out, by omega⟩
          case measure => simp [intOf]; omega
    · obtain rfl : n = k := by omega
      have HT := Lib.hid (show MapSS wr w.heap.size m (lastOf (pairsOf l)) by
        have h := HSET.out
        rw [List.take_of_length_le (by rw [H.out.1.len]; exact Nat.le_refl _)] at h
        exact h)
      go_wp2_with fail
      go_ret
      exact ⟨_, m, rfl, HT.out, HG.out⟩

/-! What PayerOf answers. -/
end
end Go.Proofs.YtpildcnoghojpaaGreatDoor
/- Contract of Price. Conditions: none. -/
namespace Go.Proofs.YtpildcnoghojpaaGreatDoor
section
open Go.RowKit

/-! What ClassOf and Price answer. -/
theorem clsOf_mem {l : List ClV} {s : List Nat} {c : ClV} (h : clsOf l s = some c) : c ∈ l := by
  have step : ∀ k, clsTo l s k = some c → c ∈ l := by
    intro k
    induction k with
    | zero => intro h; exact List.mem_of_find?_eq_some h
    | succ k ih =>
      intro h
      unfold clsTo at h
      cases h2 : clsAt l (s.take (k + 1)) with
      | none => rw [h2] at h; exact ih h
      | some d => rw [h2] at h; rw [← Option.some.inj h]; exact List.mem_of_find?_eq_some h2
  exact step _ h
end
end Go.Proofs.YtpildcnoghojpaaGreatDoor
/- Contracts of ClassOf and PayerOf. Conditions: none. -/
namespace Go.Proofs.YtpildcnoghojpaaGreatDoor
section
open Go.RowKit
end
end Go.Proofs.YtpildcnoghojpaaGreatDoor

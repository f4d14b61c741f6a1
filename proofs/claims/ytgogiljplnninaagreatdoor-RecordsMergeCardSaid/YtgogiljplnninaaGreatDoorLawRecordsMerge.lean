/- The law RecordsMerge: CheckRecords and Merge are as specified for all records. Conditions: none. -/
import Derived.Test.YtgogiljplnninaaGreatDoorRm3
import Derived.Test.YtgogiljplnninaaGreatDoorRc4
import Derived.Test.YtgogiljplnninaaGreatDoorBun3
import Derived.Test.YtgogiljplnninaaGreatDoorBun1
import Derived.Test.YtgogiljplnninaaGreatDoorTar6
import Derived.Test.YtgogiljplnninaaGreatDoorTie
import Derived.Test.YtgogiljplnninaaGreatDoorCards
import Derived.ChangeKeysEq
import Derived.ProofKit
import Derived.Lay
import Derived.OpenShut
import Derived.Stop.Joined
import Derived.SevenTiedAt
import Derived.LaidMore
import Derived.MakeChecks
import Derived.LaidHandle
import Derived.Lib.LaidTab
import Derived.Shelf.Vars
import Derived.Deep.CutBlock
import Derived.Deep.RegionHeld3
namespace Go.Proofs.YtgogiljplnninaaGreatDoor
open Go.ChangeShapes Go.WideShapes Go.ChangeAt Go.RowKit

theorem firstE_two (a b : Int) : firstE [a, b] = if a = 0 then b else a := by
  rw [firstE_cons, firstE_cons, firstE_nil]
  by_cases h : b = 0
  · rw [if_pos h, h]
  · rw [if_neg h]
theorem Recs.dropK {α : Type} {row : α → List Value} {k : Nat} {w : World} {lo g o n c : Nat} {l : List α} (hrow : ∀ a, (row a).length = k) (h : Recs row k w lo (some ⟨g, o, none⟩) n c l) {i : Nat} (hi : i ≤ n) : Recs row k w lo (some ⟨g, o + i * k, none⟩) (n - i) (c - i) (l.drop i) := by
  have hc := h.cap
  refine ⟨⟨by rw [flat_len hrow, List.length_drop, h.2], by omega, fun hp => ?_⟩, by rw [List.length_drop, h.2]⟩
  obtain ⟨g', o', e, h1, h2, h3⟩ := h.1.2.2 (by omega)
  injection e with e
  injection e with e1 e2
  subst e1; subst e2
  refine ⟨g, o + i * k, rfl, h1, h2, fun j u hu => ?_⟩
  rw [Nat.add_assoc]
  refine h3 (i * k + j) u ?_
  have hl : l.take i ++ l.drop i = l := List.take_append_drop i l
  have hf : l.flatMap row = (l.take i).flatMap row ++ (l.drop i).flatMap row := by rw [← List.flatMap_append, hl]
  have hlen : ((l.take i).flatMap row).length = i * k := by rw [flat_len hrow, List.length_take, h.2, Nat.min_eq_left hi]
  rw [hf, List.getElem?_append_right (by omega), hlen, Nat.add_sub_cancel_left]
  exact hu
theorem Rcs.ofOwn {w : World} {lo : Nat} {A : Option Addr} {n c : Nat} {l : List RcV} (h : OwnR RcV.row 8 w lo 32 A n c l) (hk : ∀ r ∈ l, RcOk r) : Rcs w lo A n c l := ⟨h.recs, hk⟩
set_option maxRecDepth 100000 in
set_option maxHeartbeats 16000000 in
theorem walk_RecordsMerge (a0 : Option Addr) (len cap : Nat) (zs : List Int) (W : World) (h : IsRow .i64 W a0 len cap zs) (_ : True) :
    Calls Tryz.prog 3 #[.slice a0 len cap] W (fun e w' => e = .returned (.bool true) ∧ Below W.heap.size W w') := by
  have hs := str_new h
  obtain ⟨sb, hsb⟩ : ∃ sb, W.heap.size = sb := ⟨_, rfl⟩
  have hg0 : W.grownBy (W.alloc (.cells #[.slice a0 len cap, .int .i64 0] 25)) (some sb) := gr_alloc (gr_refl _ _) _
  have HG := Lib.hid hg0
  rw [hsb] at hs
  have hlt := hs.lt
  have HS := Lib.hid hs
  have HSB := Lib.hid hsb
  clear h hs hg0
  go_enter Tryz.func3, Tryz.ntmps3
  go_wp2_with fail
  refine (range_any sb _ 0 8 _ HS.out (by omega) (by omega) (by omega) (by omega)).mono ?_
  rintro e w0 ⟨v0, rfl, ⟨r0, hlo0, hhi0, rfl⟩, hs0, hg0⟩
  replace HS := Lib.hid hs0
  replace HG := Lib.hid (gr_same HG.out hg0)
  have z0 := hg0.size
  obtain ⟨q0, rfl⟩ : ∃ q : Nat, r0 = q := ⟨r0.toNat, by omega⟩
  clear hs0 hg0
  go_wp2_with fail
  refine (records_any sb _ q0 _ HS.out (by omega) (by omega)).mono ?_
  rintro e w1 ⟨v1, rfl, ⟨aA, an, ac, la, rfl, hca, han⟩, hs1, hg1⟩
  replace HS := Lib.hid hs1
  replace HG := Lib.hid (gr_same HG.out hg1)
  have z1 := hg1.size
  obtain ⟨lo1, hlo1⟩ : ∃ lo, w0.heap.size = lo := ⟨_, rfl⟩
  rw [hlo1] at hca z0 z1
  have hl1 : sb < lo1 := by have := HS.out.lt; omega
  have HA := Lib.hid hca
  clear hca hlo1 hs1 hg1
  go_wp2_with fail
  refine (range_any sb _ 0 6 _ HS.out (by omega) (by omega) (by omega) (by omega)).mono ?_
  rintro e w2 ⟨v2, rfl, ⟨r2, hlo2, hhi2, rfl⟩, hs2, hg2⟩
  replace HS := Lib.hid hs2
  replace HG := Lib.hid (gr_same HG.out hg2)
  have z2 := hg2.size
  replace HA := Lib.hid (HA.out.grown hg2 (fun g e => by first | (cases e; done) | (injection e with e; omega)))
  obtain ⟨q2, rfl⟩ : ∃ q : Nat, r2 = q := ⟨r2.toNat, by omega⟩
  clear hs2 hg2
  go_wp2_with fail
  refine (records_any sb _ q2 _ HS.out (by omega) (by omega)).mono ?_
  rintro e w3 ⟨v3, rfl, ⟨bA, bn, bc, lb, rfl, hcb, hbn⟩, hs3, hg3⟩
  replace HS := Lib.hid hs3
  replace HG := Lib.hid (gr_same HG.out hg3)
  have z3 := hg3.size
  replace HA := Lib.hid (HA.out.grown hg3 (fun g e => by first | (cases e; done) | (injection e with e; omega)))
  obtain ⟨lo2, hlo2⟩ : ∃ lo, w2.heap.size = lo := ⟨_, rfl⟩
  rw [hlo2] at hcb z2 z3
  have HB := Lib.hid hcb
  have hl2 : sb < lo2 := by omega
  clear hcb hlo2 hs3 hg3
  by_cases hn0 : 0 < an
  · have d0 : decide (0 < an) = true := decide_eq_true hn0
    have d0' : decide ((0 : Int) < (an : Int)) = true := decide_eq_true (by omega)
    go_wp2_with fail
    refine (flip_any sb _ 2 _ HS.out (by omega) (by omega) (by omega)).mono ?_
    rintro e w4 ⟨v4, rfl, ⟨f4, rfl⟩, hs4, hg4⟩
    replace HS := Lib.hid hs4
    replace HG := Lib.hid (gr_same HG.out hg4)
    have z4 := hg4.size
    replace HA := Lib.hid (HA.out.grown hg4 (fun g e => by first | (cases e; done) | (injection e with e; omega)))
    replace HB := Lib.hid (HB.out.grown hg4 (fun g e => by first | (cases e; done) | (injection e with e; omega)))
    clear hs4 hg4
    obtain ⟨wb0, hwb0⟩ : ∃ wb : World, wb = w4 := ⟨_, rfl⟩
    have HGb := Lib.hid (show wb0.grownBy w4 (some sb) by rw [hwb0]; exact gr_refl _ _)
    have HGW := Lib.hid (show W.grownBy wb0 (some sb) by rw [hwb0]; exact HG.out)
    clear hwb0
    go_upto_if 29 with (fail)
    go_cut [5] (fun bv wx => ∃ bA bn bc lb lo2, bv = .slice bA bn bc ∧ Rcs wx lo2 bA bn bc lb ∧ bn ≤ 8 ∧ Rcs wx lo1 aA an ac la ∧ wb0.grownBy wx (some sb))
    case first =>
      cases f4
      · go_wp2_with fail
        go_meet
        exact ⟨bA, bn, bc, lb, lo2, rfl, HB.out, by omega, HA.out, HGb.out⟩
      · clear HB HG
        have HG := HGb; clear HGb
        go_wp2_with fail
        refine (next_any sb _ an _ HS.out (by omega) (by omega) (by omega)).mono ?_
        rintro e w5 ⟨v5, rfl, ⟨r5, hlo5, hhi5, rfl⟩, hs5, hg5⟩
        replace HS := Lib.hid hs5
        replace HG := Lib.hid (gr_same HG.out hg5)
        have z5 := hg5.size
        replace HA := Lib.hid (HA.out.grown hg5 (fun g e => by first | (cases e; done) | (injection e with e; omega)))
        clear hs5 hg5
        obtain ⟨k, rfl⟩ : ∃ q : Nat, r5 = q := ⟨r5.toNat, by omega⟩
        obtain ⟨gA, oA, hAA, hgA, hgl, _⟩ := HA.out.1.1.2.2 hn0
        subst hAA
        have hcap := HA.out.1.cap
        have zw := HG.out.size
        have hck : ¬ ac = k := by omega
        have q5 : (0 : Int) ≤ (k : Int) := by omega
        have q6 : (k : Int) ≤ (an : Int) := by omega
        have HDR := Lib.hid (HA.out.1.dropK RcV.row_len (i := k) (by omega))
        go_wp2_with fail
        refine (cloneRc_any lo1 (some ⟨gA, oA + k * 8, none⟩) (an - k) (ac - k) (la.drop k) _ HDR.out (by omega)).mono ?_
        rintro e w6 ⟨bB, bc6, rfl, hown6, hg6⟩
        replace HS := Lib.hid (HS.out.grown hg6 (fun g e => by cases e))
        replace HG := Lib.hid (gr_none HG.out hg6)
        have HA5 := HA
        have HG5 := Lib.hid (gr_trans (gr_refl w5 (some sb)) hg6 (fun g e => by cases e))
        obtain ⟨gB, rfl, hgB, _⟩ := hown6.1.pos (by omega)
        have HBB := Lib.hid hown6
        have HKB := Lib.hid (show ∀ r ∈ la.drop k, RcOk r from fun r hr => HA.out.2 r (List.mem_of_mem_drop hr))
        have hnb : (an : Int) - k = ((an - k : Nat) : Int) := by omega
        obtain ⟨m, hm⟩ : ∃ m, an - k = m := ⟨_, rfl⟩
        have hm0 : 0 < m := by omega
        have hm8 : m ≤ 8 := by omega
        rw [hm] at HBB ⊢
        obtain ⟨lz, hlz⟩ : ∃ lz, la.drop k = lz := ⟨_, rfl⟩
        rw [hlz] at HBB HKB
        clear hown6 hg6 HDR hm hlz hck q5 q6 hnb
        go_wp2_with fail
        refine (next_any sb _ 5 _ HS.out (by omega) (by omega) (by omega)).mono ?_
        rintro e w7 ⟨v7, rfl, ⟨r7, hlo7, hhi7, rfl⟩, hs7, hg7⟩
        replace HS := Lib.hid hs7
        replace HG := Lib.hid (gr_same HG.out hg7)
        replace HG5 := Lib.hid (gr_same HG5.out hg7)
        replace HBB := Lib.hid (HBB.out.low hg7 (fun g e => by injection e with e; omega))
        clear hs7 hg7
        obtain ⟨⟨id, frm, too, at_, ring, talk, how, car⟩, hz⟩ : ∃ b, lz[0]? = some b := ⟨_, List.getElem?_eq_getElem (by rw [HBB.out.2]; exact hm0)⟩
        obtain ⟨p1, p2, p3, p4, p5, p6⟩ := HKB.out _ (mem_of_get hz)
        dsimp only at p1 p2 p3 p4 p5 p6
        have HZ := Lib.hid hz
        have HCZ := Lib.hid (HBB.out.recs.at_ RcV.row_len hz)
        clear hz
        rcases (by omega : r7 = 0 ∨ r7 = 1 ∨ r7 = 2 ∨ r7 = 3 ∨ r7 = 4) with rfl | rfl | rfl | rfl | rfl
        · have hkq := HBB.out.1.frozen 4
          have hcq := HCZ.out 4 _ rfl
          simp only [Nat.zero_add] at hcq
          go_wp2_with fail
          go_meet
          have hset := OwnR.set1 (i := 0) (j := 4) (p := 4) (u := .int .i64 (wrap64 (ring + 1))) (a' := ⟨id, frm, too, at_, wrap64 (ring + 1), talk, how, car⟩) RcV.row_len HBB.out HZ.out (by decide) rfl rfl
          have hgs := gr_setCell (gr_refl w7 (some gB)) (p := ⟨gB, 4, none⟩) (.inl rfl) (.int .i64 (wrap64 (ring + 1)))
          exact ⟨_, _, _, _, _, rfl, Rcs.ofOwn hset (fun r hr => (List.mem_or_eq_of_mem_set hr).elim (HKB.out r) (fun e => by subst e; exact ⟨p1, p2, p3, p4, p5, p6⟩)), by omega, HA5.out.grown (gr_trans HG5.out hgs (fun g e => .inr (by injection e with e; omega))) (fun g e => by injection e with e; omega), gr_trans HG.out hgs (fun g e => .inr (by injection e with e; omega))⟩
        · go_wp2_with fail
          refine (some_new (n := 2) sb _ 4 _ HS.out (by omega) (by simp) (by
            repeat (first | exact StrsOk.nil _ | refine StrsOk.cons (by decide) ?_)) rfl (by omega) (by omega)).mono ?_
          rintro e w8 ⟨v8, rfl, ⟨y8, rfl, hy8⟩, hs8, hg8⟩
          replace HG := Lib.hid (gr_same HG.out hg8)
          replace HG5 := Lib.hid (gr_same HG5.out hg8)
          replace HBB := Lib.hid (HBB.out.low hg8 (fun g e => by injection e with e; omega))
          replace HCZ := Lib.hid (HBB.out.recs.at_ RcV.row_len HZ.out)
          clear hs8 hg8
          have hkq := HBB.out.1.frozen 7
          have hcq := HCZ.out 7 _ rfl
          simp only [Nat.zero_add] at hcq
          go_wp2_with fail
          go_meet
          have hset := OwnR.set1 (i := 0) (j := 7) (p := 7) (u := .string y8) (a' := ⟨id, frm, too, at_, ring, talk, how, y8⟩) RcV.row_len HBB.out HZ.out (by decide) rfl rfl
          have hgs := gr_setCell (gr_refl w8 (some gB)) (p := ⟨gB, 7, none⟩) (.inl rfl) (.string y8)
          exact ⟨_, _, _, _, _, rfl, Rcs.ofOwn hset (fun r hr => (List.mem_or_eq_of_mem_set hr).elim (HKB.out r) (fun e => by subst e; exact ⟨p1, p2, p3, (by dsimp only; omega), p5, p6⟩)), by omega, HA5.out.grown (gr_trans HG5.out hgs (fun g e => .inr (by injection e with e; omega))) (fun g e => by injection e with e; omega), gr_trans HG.out hgs (fun g e => .inr (by injection e with e; omega))⟩
        · have hkq := HBB.out.1.frozen 2
          have hcq := HCZ.out 2 _ rfl
          simp only [Nat.zero_add] at hcq
          go_wp2_with fail
          go_meet
          have hset := OwnR.set1 (i := 0) (j := 2) (p := 2) (u := .string ⟨#[43, 52, 51, 49, 50]⟩) (a' := ⟨id, frm, ⟨#[43, 52, 51, 49, 50]⟩, at_, ring, talk, how, car⟩) RcV.row_len HBB.out HZ.out (by decide) rfl rfl
          have hgs := gr_setCell (gr_refl w7 (some gB)) (p := ⟨gB, 2, none⟩) (.inl rfl) (.string ⟨#[43, 52, 51, 49, 50]⟩)
          exact ⟨_, _, _, _, _, rfl, Rcs.ofOwn hset (fun r hr => (List.mem_or_eq_of_mem_set hr).elim (HKB.out r) (fun e => by subst e; exact ⟨p1, p2, (by show (⟨#[43, 52, 51, 49, 50]⟩ : ByteArray).size ≤ 1000; decide), p4, p5, p6⟩)), by omega, HA5.out.grown (gr_trans HG5.out hgs (fun g e => .inr (by injection e with e; omega))) (fun g e => by injection e with e; omega), gr_trans HG.out hgs (fun g e => .inr (by injection e with e; omega))⟩
        · go_wp2_with fail
          go_meet
          exact ⟨_, _, _, _, _, rfl, Rcs.ofOwn HBB.out HKB.out, by omega, HA5.out.grown HG5.out (fun g e => by injection e with e; omega), HG.out⟩
        · go_wp2_with fail
          go_meet
          exact ⟨_, _, _, _, _, rfl, Rcs.ofOwn HBB.out HKB.out, by omega, HA5.out.grown HG5.out (fun g e => by injection e with e; omega), HG.out⟩
    case rest =>
      obtain ⟨bA, bn, bc, lb, lo2, rfl, hb, hbn, ha, hg⟩ := hcut
      replace HB := Lib.hid hb; replace HA := Lib.hid ha; replace HG := Lib.hid (gr_same HGW.out hg)
      clear hb ha hg HGb HGW hn0 d0 d0'
      obtain ⟨E1, hE1⟩ : ∃ E, rcsE la = E := ⟨_, rfl⟩
      obtain ⟨E2, hE2⟩ : ∃ E, rcsE lb = E := ⟨_, rfl⟩
      obtain ⟨M, hM⟩ : ∃ E, mgE la lb = E := ⟨_, rfl⟩
      have HFE := Lib.hid (show firstE [E1, E2] = M by rw [firstE_two, ← hM, ← hE1, ← hE2]; rfl)
      have HE1 := Lib.hid hE1; have HE2 := Lib.hid hE2; have HM := Lib.hid hM
      clear hE1 hE2 hM
      go_wp2_with fail
      refine (merge_any lo1 lo2 aA bA an ac bn bc la lb _ HA.out HB.out (by omega) (by omega)).mono ?_
      rintro e w5 hv
      rcases hv with ⟨hne, rfl, hg5⟩ | ⟨hz, O, on, oc, D, dn, dc, out, rfl, hp, ha, hown, hdif, hg5⟩
      · rw [HM.out] at hne ⊢
        have HO := Lib.hid (Recs.nil (row := RcV.row) (k := 8) (w := w5) (lo := 0) (A := none) (c := 0))
        have HD := Lib.hid (Recs.nil (row := srow) (k := 1) (w := w5) (lo := 0) (A := none) (c := 0))
        replace HG := Lib.hid (gr_none HG.out hg5)
        replace HA := Lib.hid (HA.out.grown hg5 (fun g e => by cases e))
        replace HB := Lib.hid (HB.out.grown hg5 (fun g e => by cases e))
        clear hg5
        go_wp2_with fail
        refine (recordsFault_any lo1 aA an ac la _ HA.out (by omega)).mono ?_
        rintro e w6 ⟨rfl, hg6⟩
        rw [HE1.out]
        replace HG := Lib.hid (gr_none HG.out hg6)
        replace HA := Lib.hid (HA.out.grown hg6 (fun g e => by cases e))
        replace HB := Lib.hid (HB.out.grown hg6 (fun g e => by cases e))
        replace HO := Lib.hid (HO.out.grown hg6 (fun g e => by cases e))
        replace HD := Lib.hid (HD.out.grown hg6 (fun g e => by cases e))
        clear hg6
        go_wp2_with fail
        refine (checkRecords_any lo1 aA an ac la _ HA.out (by omega)).mono ?_
        rintro e w7 ⟨rfl, hg7⟩
        rw [HE1.out]
        replace HG := Lib.hid (gr_none HG.out hg7)
        replace HA := Lib.hid (HA.out.grown hg7 (fun g e => by cases e))
        replace HB := Lib.hid (HB.out.grown hg7 (fun g e => by cases e))
        replace HO := Lib.hid (HO.out.grown hg7 (fun g e => by cases e))
        replace HD := Lib.hid (HD.out.grown hg7 (fun g e => by cases e))
        clear hg7
        have qE : (E1 != E1) = false := by simp
        go_wp2_with fail
        refine (recordsFault_any lo2 bA bn bc lb _ HB.out (by omega)).mono ?_
        rintro e w8 ⟨rfl, hg8⟩
        rw [HE2.out]
        replace HG := Lib.hid (gr_none HG.out hg8)
        replace HA := Lib.hid (HA.out.grown hg8 (fun g e => by cases e))
        replace HB := Lib.hid (HB.out.grown hg8 (fun g e => by cases e))
        replace HO := Lib.hid (HO.out.grown hg8 (fun g e => by cases e))
        replace HD := Lib.hid (HD.out.grown hg8 (fun g e => by cases e))
        clear hg8
        go_wp2_with fail
        refine (errs_new (n := 2) [E1, E2] _ rfl (by simp) rfl (by omega)).mono ?_
        rintro e w9 ⟨rfl, hg9⟩
        rw [HFE.out]
        replace HG := Lib.hid (gr_none HG.out hg9)
        replace HA := Lib.hid (HA.out.grown hg9 (fun g e => by cases e))
        replace HB := Lib.hid (HB.out.grown hg9 (fun g e => by cases e))
        replace HO := Lib.hid (HO.out.grown hg9 (fun g e => by cases e))
        replace HD := Lib.hid (HD.out.grown hg9 (fun g e => by cases e))
        clear hg9
        have qM : (M == M) = true := by simp
        have dM : (M == 0) = false := by simpa using hne
        clear hne HA HB
        go_wp2_with fail
        refine (equalRc_same 0 0 none none 0 0 0 0 [] _ HO.out HO.out (by omega)).mono ?_
        rintro e wd ⟨rfl, k2, rfl⟩
        go_wp2_with fail
        have gq := gr_drewN (gr_refl w9 none) k2
        refine (equalS_same 0 0 none none 0 0 0 0 [] _ (HD.out.grown gq (fun g e => by cases e)) (HD.out.grown gq (fun g e => by cases e)) (by omega)).mono ?_
        rintro e wd ⟨rfl, k3, rfl⟩
        replace HG := Lib.hid (gr_drewN HG.out (k2 + k3))
        go_wp2_with (first
          | (go_at_call 20; refine (accounted_true _).mono ?_; rintro e wz ⟨rfl, hgz⟩; have HGZ := Lib.hid hgz; clear hgz)
          | fail)
        go_ret
        refine ⟨rfl, ?_⟩
        have hfin := gr_none HG.out HGZ.out
        rw [← HSB.out] at hfin
        exact below_of_gr hfin
      · have hM0 : M = 0 := HM.out.symm.trans hz
        subst hM0
        have HZ1 := Lib.hid (show rcsE la = 0 ∧ rcsE lb = 0 by
          by_cases q : rcsE la = 0
          · exact ⟨q, by unfold mgE at hz; rw [if_pos q] at hz; exact hz⟩
          · unfold mgE at hz; rw [if_neg q] at hz; exact absurd hz q)
        have hol := hown.1.len; have hdl := hdif.2
        have HOL := Lib.hid hown.2
        have HO := Lib.hid (hown.recs.lower (Nat.zero_le _)); have HD := Lib.hid (hdif.recs.lower (Nat.zero_le _))
        have HP := Lib.hid hp; have HAS := Lib.hid ha
        clear hz hown hdif hp ha hol hdl
        replace HG := Lib.hid (gr_none HG.out hg5)
        replace HA := Lib.hid (HA.out.grown hg5 (fun g e => by cases e))
        replace HB := Lib.hid (HB.out.grown hg5 (fun g e => by cases e))
        clear hg5
        go_wp2_with fail
        refine (recordsFault_any lo1 aA an ac la _ HA.out (by omega)).mono ?_
        rintro e w6 ⟨rfl, hg6⟩
        rw [HE1.out]
        replace HG := Lib.hid (gr_none HG.out hg6)
        replace HA := Lib.hid (HA.out.grown hg6 (fun g e => by cases e))
        replace HB := Lib.hid (HB.out.grown hg6 (fun g e => by cases e))
        replace HO := Lib.hid (HO.out.grown hg6 (fun g e => by cases e))
        replace HD := Lib.hid (HD.out.grown hg6 (fun g e => by cases e))
        clear hg6
        go_wp2_with fail
        refine (checkRecords_any lo1 aA an ac la _ HA.out (by omega)).mono ?_
        rintro e w7 ⟨rfl, hg7⟩
        rw [HE1.out]
        replace HG := Lib.hid (gr_none HG.out hg7)
        replace HA := Lib.hid (HA.out.grown hg7 (fun g e => by cases e))
        replace HB := Lib.hid (HB.out.grown hg7 (fun g e => by cases e))
        replace HO := Lib.hid (HO.out.grown hg7 (fun g e => by cases e))
        replace HD := Lib.hid (HD.out.grown hg7 (fun g e => by cases e))
        clear hg7
        have qE : (E1 != E1) = false := by simp
        go_wp2_with fail
        refine (recordsFault_any lo2 bA bn bc lb _ HB.out (by omega)).mono ?_
        rintro e w8 ⟨rfl, hg8⟩
        rw [HE2.out]
        replace HG := Lib.hid (gr_none HG.out hg8)
        replace HA := Lib.hid (HA.out.grown hg8 (fun g e => by cases e))
        replace HB := Lib.hid (HB.out.grown hg8 (fun g e => by cases e))
        replace HO := Lib.hid (HO.out.grown hg8 (fun g e => by cases e))
        replace HD := Lib.hid (HD.out.grown hg8 (fun g e => by cases e))
        clear hg8
        go_wp2_with fail
        refine (errs_new (n := 2) [E1, E2] _ rfl (by simp) rfl (by omega)).mono ?_
        rintro e w9 ⟨rfl, hg9⟩
        rw [HFE.out]
        replace HG := Lib.hid (gr_none HG.out hg9)
        replace HA := Lib.hid (HA.out.grown hg9 (fun g e => by cases e))
        replace HB := Lib.hid (HB.out.grown hg9 (fun g e => by cases e))
        replace HO := Lib.hid (HO.out.grown hg9 (fun g e => by cases e))
        replace HD := Lib.hid (HD.out.grown hg9 (fun g e => by cases e))
        clear hg9
        go_wp2_with fail
        refine (recordsOf_any lo1 lo2 aA bA an ac bn bc la lb _ HA.out HB.out (by omega) (by omega) HZ1.out.1 HZ1.out.2).mono ?_
        rintro e wb ⟨O2, on2, oc2, D2, dn2, dc2, out2, rfl, hp2, ha2, hown2, hdif2, hgb⟩
        obtain rfl : out = out2 := rc_unique (mg_dist (rcs_right HZ1.out.1).2.2) HP.out hp2 HAS.out ha2
        obtain rfl : on = on2 := by rw [← HO.out.len, ← hown2.2]
        obtain rfl : dn = dn2 := by rw [← HD.out.len, ← hdif2.2]
        have hmg := mg_len (s := (la, [])) (b := lb) (j := lb.length)
        have hon : on ≤ 40 := by
          have h1 := HP.out.length_eq; have h2 := HO.out.len; have h3 := HA.out.1.len; have h4 := HB.out.1.len
          simp only [] at hmg
          omega
        have hdn : dn ≤ 40 := by
          have h2 := HD.out.len; have h4 := HB.out.1.len
          rw [srtS_len] at h2
          simp only [List.length_nil] at hmg
          omega
        have HO2 := Lib.hid hown2.recs; have HD2 := Lib.hid hdif2.recs
        replace HG := Lib.hid (gr_none HG.out hgb)
        replace HO := Lib.hid (HO.out.grown hgb (fun g e => by cases e))
        replace HD := Lib.hid (HD.out.grown hgb (fun g e => by cases e))
        clear hgb
        clear hp2 ha2 hown2 hdif2 HA HB hmg
        go_wp2_with fail
        refine (equalRc_same 0 _ O O2 _ _ _ _ _ _ HO.out HO2.out (by omega)).mono ?_
        rintro e wd ⟨rfl, k2, rfl⟩
        have gq := gr_drewN (gr_refl wb none) k2
        go_wp2_with fail
        refine (equalS_same 0 _ D D2 _ _ _ _ _ _ (HD.out.grown gq (fun g e => by cases e)) (HD2.out.grown gq (fun g e => by cases e)) (by omega)).mono ?_
        rintro e wd ⟨rfl, k3, rfl⟩
        replace HG := Lib.hid (gr_drewN HG.out (k2 + k3))
        clear gq
        go_wp2_with (first
          | (go_at_call 20; refine (accounted_true _).mono ?_; rintro e wz ⟨rfl, hgz⟩; have HGZ := Lib.hid hgz; clear hgz)
          | fail)
        go_ret
        refine ⟨rfl, ?_⟩
        have hfin := gr_none HG.out HGZ.out
        rw [← HSB.out] at hfin
        exact below_of_gr hfin
  · have d0 : decide (0 < an) = false := decide_eq_false hn0
    have d0' : decide ((0 : Int) < (an : Int)) = false := decide_eq_false (by omega)
    clear hn0
    obtain ⟨E1, hE1⟩ : ∃ E, rcsE la = E := ⟨_, rfl⟩
    obtain ⟨E2, hE2⟩ : ∃ E, rcsE lb = E := ⟨_, rfl⟩
    obtain ⟨M, hM⟩ : ∃ E, mgE la lb = E := ⟨_, rfl⟩
    have HFE := Lib.hid (show firstE [E1, E2] = M by rw [firstE_two, ← hM, ← hE1, ← hE2]; rfl)
    have HE1 := Lib.hid hE1; have HE2 := Lib.hid hE2; have HM := Lib.hid hM
    clear hE1 hE2 hM
    go_wp2_with fail
    refine (merge_any lo1 lo2 aA bA an ac bn bc la lb _ HA.out HB.out (by omega) (by omega)).mono ?_
    rintro e w5 hv
    rcases hv with ⟨hne, rfl, hg5⟩ | ⟨hz, O, on, oc, D, dn, dc, out, rfl, hp, ha, hown, hdif, hg5⟩
    · rw [HM.out] at hne ⊢
      have HO := Lib.hid (Recs.nil (row := RcV.row) (k := 8) (w := w5) (lo := 0) (A := none) (c := 0))
      have HD := Lib.hid (Recs.nil (row := srow) (k := 1) (w := w5) (lo := 0) (A := none) (c := 0))
      replace HG := Lib.hid (gr_none HG.out hg5)
      replace HA := Lib.hid (HA.out.grown hg5 (fun g e => by cases e))
      replace HB := Lib.hid (HB.out.grown hg5 (fun g e => by cases e))
      clear hg5
      go_wp2_with fail
      refine (recordsFault_any lo1 aA an ac la _ HA.out (by omega)).mono ?_
      rintro e w6 ⟨rfl, hg6⟩
      rw [HE1.out]
      replace HG := Lib.hid (gr_none HG.out hg6)
      replace HA := Lib.hid (HA.out.grown hg6 (fun g e => by cases e))
      replace HB := Lib.hid (HB.out.grown hg6 (fun g e => by cases e))
      replace HO := Lib.hid (HO.out.grown hg6 (fun g e => by cases e))
      replace HD := Lib.hid (HD.out.grown hg6 (fun g e => by cases e))
      clear hg6
      go_wp2_with fail
      refine (checkRecords_any lo1 aA an ac la _ HA.out (by omega)).mono ?_
      rintro e w7 ⟨rfl, hg7⟩
      rw [HE1.out]
      replace HG := Lib.hid (gr_none HG.out hg7)
      replace HA := Lib.hid (HA.out.grown hg7 (fun g e => by cases e))
      replace HB := Lib.hid (HB.out.grown hg7 (fun g e => by cases e))
      replace HO := Lib.hid (HO.out.grown hg7 (fun g e => by cases e))
      replace HD := Lib.hid (HD.out.grown hg7 (fun g e => by cases e))
      clear hg7
      have qE : (E1 != E1) = false := by simp
      go_wp2_with fail
      refine (recordsFault_any lo2 bA bn bc lb _ HB.out (by omega)).mono ?_
      rintro e w8 ⟨rfl, hg8⟩
      rw [HE2.out]
      replace HG := Lib.hid (gr_none HG.out hg8)
      replace HA := Lib.hid (HA.out.grown hg8 (fun g e => by cases e))
      replace HB := Lib.hid (HB.out.grown hg8 (fun g e => by cases e))
      replace HO := Lib.hid (HO.out.grown hg8 (fun g e => by cases e))
      replace HD := Lib.hid (HD.out.grown hg8 (fun g e => by cases e))
      clear hg8
      go_wp2_with fail
      refine (errs_new (n := 2) [E1, E2] _ rfl (by simp) rfl (by omega)).mono ?_
      rintro e w9 ⟨rfl, hg9⟩
      rw [HFE.out]
      replace HG := Lib.hid (gr_none HG.out hg9)
      replace HA := Lib.hid (HA.out.grown hg9 (fun g e => by cases e))
      replace HB := Lib.hid (HB.out.grown hg9 (fun g e => by cases e))
      replace HO := Lib.hid (HO.out.grown hg9 (fun g e => by cases e))
      replace HD := Lib.hid (HD.out.grown hg9 (fun g e => by cases e))
      clear hg9
      have qM : (M == M) = true := by simp
      have dM : (M == 0) = false := by simpa using hne
      clear hne HA HB
      go_wp2_with fail
      refine (equalRc_same 0 0 none none 0 0 0 0 [] _ HO.out HO.out (by omega)).mono ?_
      rintro e wd ⟨rfl, k2, rfl⟩
      go_wp2_with fail
      have gq := gr_drewN (gr_refl w9 none) k2
      refine (equalS_same 0 0 none none 0 0 0 0 [] _ (HD.out.grown gq (fun g e => by cases e)) (HD.out.grown gq (fun g e => by cases e)) (by omega)).mono ?_
      rintro e wd ⟨rfl, k3, rfl⟩
      replace HG := Lib.hid (gr_drewN HG.out (k2 + k3))
      go_wp2_with (first
        | (go_at_call 20; refine (accounted_true _).mono ?_; rintro e wz ⟨rfl, hgz⟩; have HGZ := Lib.hid hgz; clear hgz)
        | fail)
      go_ret
      refine ⟨rfl, ?_⟩
      have hfin := gr_none HG.out HGZ.out
      rw [← HSB.out] at hfin
      exact below_of_gr hfin
    · have hM0 : M = 0 := HM.out.symm.trans hz
      subst hM0
      have HZ1 := Lib.hid (show rcsE la = 0 ∧ rcsE lb = 0 by
        by_cases q : rcsE la = 0
        · exact ⟨q, by unfold mgE at hz; rw [if_pos q] at hz; exact hz⟩
        · unfold mgE at hz; rw [if_neg q] at hz; exact absurd hz q)
      have hol := hown.1.len; have hdl := hdif.2
      have HOL := Lib.hid hown.2
      have HO := Lib.hid (hown.recs.lower (Nat.zero_le _)); have HD := Lib.hid (hdif.recs.lower (Nat.zero_le _))
      have HP := Lib.hid hp; have HAS := Lib.hid ha
      clear hz hown hdif hp ha hol hdl
      replace HG := Lib.hid (gr_none HG.out hg5)
      replace HA := Lib.hid (HA.out.grown hg5 (fun g e => by cases e))
      replace HB := Lib.hid (HB.out.grown hg5 (fun g e => by cases e))
      clear hg5
      go_wp2_with fail
      refine (recordsFault_any lo1 aA an ac la _ HA.out (by omega)).mono ?_
      rintro e w6 ⟨rfl, hg6⟩
      rw [HE1.out]
      replace HG := Lib.hid (gr_none HG.out hg6)
      replace HA := Lib.hid (HA.out.grown hg6 (fun g e => by cases e))
      replace HB := Lib.hid (HB.out.grown hg6 (fun g e => by cases e))
      replace HO := Lib.hid (HO.out.grown hg6 (fun g e => by cases e))
      replace HD := Lib.hid (HD.out.grown hg6 (fun g e => by cases e))
      clear hg6
      go_wp2_with fail
      refine (checkRecords_any lo1 aA an ac la _ HA.out (by omega)).mono ?_
      rintro e w7 ⟨rfl, hg7⟩
      rw [HE1.out]
      replace HG := Lib.hid (gr_none HG.out hg7)
      replace HA := Lib.hid (HA.out.grown hg7 (fun g e => by cases e))
      replace HB := Lib.hid (HB.out.grown hg7 (fun g e => by cases e))
      replace HO := Lib.hid (HO.out.grown hg7 (fun g e => by cases e))
      replace HD := Lib.hid (HD.out.grown hg7 (fun g e => by cases e))
      clear hg7
      have qE : (E1 != E1) = false := by simp
      go_wp2_with fail
      refine (recordsFault_any lo2 bA bn bc lb _ HB.out (by omega)).mono ?_
      rintro e w8 ⟨rfl, hg8⟩
      rw [HE2.out]
      replace HG := Lib.hid (gr_none HG.out hg8)
      replace HA := Lib.hid (HA.out.grown hg8 (fun g e => by cases e))
      replace HB := Lib.hid (HB.out.grown hg8 (fun g e => by cases e))
      replace HO := Lib.hid (HO.out.grown hg8 (fun g e => by cases e))
      replace HD := Lib.hid (HD.out.grown hg8 (fun g e => by cases e))
      clear hg8
      go_wp2_with fail
      refine (errs_new (n := 2) [E1, E2] _ rfl (by simp) rfl (by omega)).mono ?_
      rintro e w9 ⟨rfl, hg9⟩
      rw [HFE.out]
      replace HG := Lib.hid (gr_none HG.out hg9)
      replace HA := Lib.hid (HA.out.grown hg9 (fun g e => by cases e))
      replace HB := Lib.hid (HB.out.grown hg9 (fun g e => by cases e))
      replace HO := Lib.hid (HO.out.grown hg9 (fun g e => by cases e))
      replace HD := Lib.hid (HD.out.grown hg9 (fun g e => by cases e))
      clear hg9
      go_wp2_with fail
      refine (recordsOf_any lo1 lo2 aA bA an ac bn bc la lb _ HA.out HB.out (by omega) (by omega) HZ1.out.1 HZ1.out.2).mono ?_
      rintro e wb ⟨O2, on2, oc2, D2, dn2, dc2, out2, rfl, hp2, ha2, hown2, hdif2, hgb⟩
      obtain rfl : out = out2 := rc_unique (mg_dist (rcs_right HZ1.out.1).2.2) HP.out hp2 HAS.out ha2
      obtain rfl : on = on2 := by rw [← HO.out.len, ← hown2.2]
      obtain rfl : dn = dn2 := by rw [← HD.out.len, ← hdif2.2]
      have hmg := mg_len (s := (la, [])) (b := lb) (j := lb.length)
      have hon : on ≤ 40 := by
        have h1 := HP.out.length_eq; have h2 := HO.out.len; have h3 := HA.out.1.len; have h4 := HB.out.1.len
        simp only [] at hmg
        omega
      have hdn : dn ≤ 40 := by
        have h2 := HD.out.len; have h4 := HB.out.1.len
        rw [srtS_len] at h2
        simp only [List.length_nil] at hmg
        omega
      have HO2 := Lib.hid hown2.recs; have HD2 := Lib.hid hdif2.recs
      replace HG := Lib.hid (gr_none HG.out hgb)
      replace HO := Lib.hid (HO.out.grown hgb (fun g e => by cases e))
      replace HD := Lib.hid (HD.out.grown hgb (fun g e => by cases e))
      clear hgb
      clear hp2 ha2 hown2 hdif2 HA HB hmg
      go_wp2_with fail
      refine (equalRc_same 0 _ O O2 _ _ _ _ _ _ HO.out HO2.out (by omega)).mono ?_
      rintro e wd ⟨rfl, k2, rfl⟩
      have gq := gr_drewN (gr_refl wb none) k2
      go_wp2_with fail
      refine (equalS_same 0 _ D D2 _ _ _ _ _ _ (HD.out.grown gq (fun g e => by cases e)) (HD2.out.grown gq (fun g e => by cases e)) (by omega)).mono ?_
      rintro e wd ⟨rfl, k3, rfl⟩
      replace HG := Lib.hid (gr_drewN HG.out (k2 + k3))
      clear gq
      go_wp2_with (first
        | (go_at_call 20; refine (accounted_true _).mono ?_; rintro e wz ⟨rfl, hgz⟩; have HGZ := Lib.hid hgz; clear hgz)
        | fail)
      go_ret
      refine ⟨rfl, ?_⟩
      have hfin := gr_none HG.out HGZ.out
      rw [← HSB.out] at hfin
      exact below_of_gr hfin
theorem met_RecordsMerge {W : World} (_h : laidMetH Tryz.prog Rows.recordsMergeRow.laid W) : True := trivial

theorem own_RecordsMerge : ownKnob Tryz.prog.godebug = none := by kernel_rfl
theorem laidOut_RecordsMerge : laidOutB Tryz.prog = true := by kernel_rfl
set_option maxRecDepth 100000 in
theorem lifted_RecordsMerge (os : Os) (started : os.Started) (H : Type) (enc : TypeId × Value → H) :
    ReturnsInHanded {} Tryz.checked os 3 .any (fun w args => (Rows.recordsMergeSpec.pre enc Tryz.prog Tryz.f3 [] false w args ∧ laidMetH Tryz.prog Rows.recordsMergeRow.laid w) ∧ sizedMet enc Tryz.prog Tryz.f3 (OpenSpec.ofChange Rows.recordsMergeSpec) false w args) (Rows.recordsMergeSpec.post enc Tryz.prog Tryz.f3 false true false false) := by
  refine returnsInHanded_of_change_and (C := Tryz.checked) (X := fun w _ => laidMetH Tryz.prog Rows.recordsMergeRow.laid w) (fun _ _ _ hh h => h.of_heap hh) own_RecordsMerge started (by kernel_rfl) Tryz.func3
    (ChangeSpec.witness_shaped (enc := enc) (C := Tryz.checked) (os := os) (X := fun w _ => laidMetH Tryz.prog Rows.recordsMergeRow.laid w) false (World.laidAll Tryz.prog os Rows.recordsMergeRow.laid) #[.slice none 0 0] 8 (World.laidAll_os _ _ _) (World.shaped_of_ZipB (by kernel_rfl) (by kernel_rfl)) (by kernel_rfl) (by kernel_rfl) (by kernel_rfl)
      (by rw [MakeChecks.laidMetH_plain _ _ _ (by kernel_rfl)]; exact laidMet_laidAll _ (by kernel_rfl) (by kernel_rfl))) ?_
  intro W base args ds gs before hval0 hW _ _ hL _
  have hval : ∀ (j : Nat) t v, Tryz.f3.params[j]? = some t → args[j]? = some v → Value.okWide Tryz.prog W .any base t v := hval0
  have hW' := hW
  obtain ⟨p, q, hA0, hV, rfl, hfz, hnd⟩ := hW
  have hA : DataW.TrodAll enc Tryz.prog W 0 (fun _ => true) true Tryz.f3.params.toList args.toList ds p := hA0
  rw [Tryz.params3] at hA hval
  obtain ⟨v0, vs0, d0, ds0, p0, q0, hargs, rfl, rfl, h0, r0⟩ := trodAll_cons hA
  obtain ⟨rfl, rfl, rfl⟩ := trodAll_nil r0
  obtain rfl : args = #[v0] := by cases args; simp_all
  obtain ⟨rfl, rfl⟩ := trodVars_none hV
  obtain ⟨a0, len0, cap0, rfl⟩ := okWide_slice Tryz.underlying22 (hval 0 22 v0 rfl rfl)
  have k0 := h0
  have lt0 : ∀ x ∈ p0, x.block < W.heap.size := by obtain ⟨m, hm⟩ := k0; exact DataW.trod_lt m _ _ _ hm
  obtain ⟨z0, w0⟩ : ∃ zs, IsRow .i64 W a0 len0 cap0 zs := by
    obtain ⟨fuel, hf⟩ := h0
    rcases open_ints Tryz.underlying22 Tryz.underlying3 (by kernel_rfl) hf with ⟨hcs, _⟩ | ⟨x, l, c, zs, hcs, _, hl, hm, hz, _, hcell, hwz⟩
    · simp [Value.cells] at hcs
      obtain ⟨rfl, rfl, rfl⟩ := hcs
      exact ⟨[], .inl ⟨rfl, rfl, rfl, rfl⟩⟩
    · simp [Value.cells] at hcs
      obtain ⟨rfl, rfl, rfl⟩ := hcs
      exact ⟨zs, .inr ⟨_, rfl, hl, hm, by simpa using hz, hcell, hwz⟩⟩
  clear hA0 hval0
  refine (walk_RecordsMerge a0 len0 cap0 z0 W w0 (met_RecordsMerge hL)).mono fun e W' ⟨he, bel⟩ => ?_
  subst he
  exact ⟨_, rfl, _, _, _, [], _, [], hW', trodAll_mk1 (shut_bool Tryz.underlying4 _), (trodAll_cons_mk (Below.trod laidOut_RecordsMerge (by kernel_rfl) (of_decide_eq_true (by kernel_rfl)) k0 bel lt0) trodAll_mk0), rfl, bel.frame _, fun h => by cases h⟩

theorem over_RecordsMerge : Rows.recordsMergeRow.holds Tryz.pinned (OpenSpec.ofChange Rows.recordsMergeSpec) :=
  OpenClaim.holds_of_wide 3 Tryz.f3 rfl rfl rfl rfl rfl rfl rfl ⟨rfl, rfl, rfl, rfl, rfl⟩ rfl rfl rfl rfl rfl (by kernel_rfl) Tryz.func3 (by kernel_rfl)
    (of_decide_eq_true (by kernel_rfl)) (by unfold Func.isWrapper; first | (rw [if_pos (by decide +kernel)]; kernel_rfl) | (rw [if_neg (by decide +kernel)]; exact ⟨rfl, rfl⟩))
    (fun os started H enc _ => lifted_RecordsMerge os started H enc)

theorem proved_RecordsMerge : Rows.RecordsMergeCardSaid :=
  Claim7.holds_tied_plain_at .later [] [.data, .pinned] true Rows.recordsMergeCard.stood.harness true
    over_RecordsMerge (fun _ h => by cases h) (by kernel_rfl) (fun _ h => by cases h) recordsMerge_row_tie rfl ⟨rfl, rfl⟩ (by kernel_rfl) rfl
    (fun f fn hf hfn => by
      obtain rfl : f = 3 := Option.some.inj ((show Tryz.prog.funcNamed Rows.recordsMergeRow.func = some 3 by kernel_rfl).symm.trans hf) |>.symm
      obtain rfl : fn = Tryz.f3 := (Option.some.inj (Tryz.func3.symm.trans hfn)).symm
      exact ⟨by kernel_rfl, fun j t ht => by
        rw [Tryz.params3] at ht
        have h3 : t = 22 := by
          rcases j with _ | j
          · simpa using ht.symm
          · simp at ht
        subst h3
        exact (show Tryz.prog.wantsStandIn 22 = false by kernel_rfl)⟩)
    (by kernel_rfl)
end Go.Proofs.YtgogiljplnninaaGreatDoor


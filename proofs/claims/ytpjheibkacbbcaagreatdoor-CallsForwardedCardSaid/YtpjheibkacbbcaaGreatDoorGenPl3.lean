/- Contracts of the generators Plan and ContextKey. Conditions: none. -/
import Derived.Test.YtpjheibkacbbcaaGreatDoorGenPl2
import Derived.Test.YtpjheibkacbbcaaGreatDoorGenHou2
namespace Go.Proofs.YtpjheibkacbbcaaGreatDoor
open Go.RowKit

def PtM (g : Nat) (v : Value) (_ : World) : Prop := ∃ r : Nat, r < 3 ∧ v = .pointer (some ⟨g, r * 3, none⟩)
def spP4 (g : Nat) : List (Nat × (Value → World → Prop)) := [(3, NatV 3), (4, PtM g)]
theorem spP4_grown {sb g k : Nat} {v : Value} {w w' : World} (h : RSpec (spP4 g) k v w) (hg : w.grownBy w' (some sb)) : RSpec (spP4 g) k v w' := by
  refine RSpec.grown (fun p hp v w w' h1 hg => ?_) h hg
  simp only [spP4, List.mem_cons, List.not_mem_nil, or_false] at hp
  rcases hp with rfl | rfl
  all_goals exact h1
set_option maxHeartbeats 8000000 in
set_option maxRecDepth 100000 in
theorem plan_any (sb : Nat) (m : Int) (most : Nat) (w : World) (hs : Str w sb m) (hm : m ≤ 1000000000) (hmost : most ≤ 100) : Calls Tryz.prog 19 #[.pointer (some ⟨sb, 0, none⟩), .int .i64 most] w (Drawn sb (m + 8000) (IsPlan w.heap.size) w) := by
  have hlt := hs.lt
  have HR := Lib.hid (Blk.new w 48 #[.slice none 0 0, .slice none 0 0])
  have HG := Lib.hid (gr_alloc (gr_refl w (some sb)) (.cells #[.slice none 0 0, .slice none 0 0] 48))
  have HS := Lib.hid (hs.alloc (.cells #[.slice none 0 0, .slice none 0 0] 48)); clear hs
  go_enter Tryz.func19, Tryz.ntmps19
  go_wp2_with fail
  refine (rightPlan_any sb _ most _ HS.out (by omega) hmost).mono ?_
  rintro e w1 ⟨v1, rfl, ⟨A, B, c, d, l, hh, rfl, hga, hgh, hlb⟩, hs1, hg1⟩
  replace HR := Lib.hid (HR.out.grown hg1 (by simp; omega))
  have z1 := hg1.size; (try simp at z1)
  replace HG := Lib.hid (gr_same (a := w) HG.out hg1)
  obtain ⟨g, rfl, hgl, hgs⟩ := hga.1.1.pos (by omega)
  simp only [World.alloc, Array.size_push] at hgl
  have hga' : GCx w1 (w.heap.size + 1) (some ⟨g, 0, none⟩) 3 c l := by simpa using hga
  have HGA := Lib.hid (hga'.low (gr_alloc (gr_refl _ none) (.cells #[.slice (some ⟨g, 0, none⟩) 3 c, .slice B 2 d] 48)) (fun g e => by cases e))
  have HGH := Lib.hid (hgh.low (gr_alloc (gr_refl _ none) (.cells #[.slice (some ⟨g, 0, none⟩) 3 c, .slice B 2 d] 48)) (fun g e => by cases e))
  have HLB := Lib.hid hlb
  replace HS := Lib.hid hs1; clear hs1 hg1 hga hgh hlb hga'
  have HP := Lib.hid (Blk.new w1 48 #[.slice (some ⟨g, 0, none⟩) 3 c, .slice B 2 d])
  replace HR := Lib.hid (HR.out.alloc (.cells #[.slice (some ⟨g, 0, none⟩) 3 c, .slice B 2 d] 48))
  replace HG := Lib.hid (gr_alloc HG.out (.cells #[.slice (some ⟨g, 0, none⟩) 3 c, .slice B 2 d] 48))
  replace HS := Lib.hid (HS.out.alloc (.cells #[.slice (some ⟨g, 0, none⟩) 3 c, .slice B 2 d] 48))
  go_wp2_with fail
  refine (flip_any sb _ 8 _ HS.out (by omega) (by omega) (by omega)).mono ?_
  rintro e w2 ⟨v2, rfl, ⟨f2, rfl⟩, hs2, hg2⟩
  replace HR := Lib.hid (HR.out.grown hg2 (by simp; omega))
  replace HP := Lib.hid (HP.out.grown hg2 (by simp; omega))
  replace HGA := Lib.hid (HGA.out.low hg2 (fun g e => by injection e with e; omega))
  replace HGH := Lib.hid (HGH.out.low hg2 (fun g e => by injection e with e; simp; omega))
  have z2 := hg2.size; (try simp at z2)
  replace HG := Lib.hid (gr_same (a := w) HG.out hg2); replace HS := Lib.hid hs2; clear hs2 hg2
  cases f2
  · go_wp2_with (first
      | (refine wpl_load_all Tryz.plT rfl _ rfl _ rfl _ _ HP.out rfl ?_)
      | (refine wpl_store_all Tryz.plT rfl _ _ rfl _ rfl _ _ _ rfl HR.out rfl rfl (by simp [Value.oneCell']) ?_
         intro w9 h9
         have H9 := Lib.hid h9; clear h9)
      | fail)
    have hst := H9.out
    have hga := (HGA.out.low hst.2.1 (fun g e => by injection e with e; omega)).lower (show w.heap.size ≤ w.heap.size + 1 by omega)
    refine ret_cell (p := 4) (ty := 48) Tryz.plT (by kernel_rfl) w.heap.size 48 #[.slice (some ⟨g, 0, none⟩) 3 c, .slice B 2 d] (by rfl) hst.1 rfl rfl ?_
    exact ⟨_, rfl, ⟨⟨some ⟨g, 0, none⟩, 3, c, B, 2, d, _, hh⟩, rfl, ⟨by dsimp only; omega, by dsimp only; omega, hga.recs, fun a ha => (hga.2.1 a ha).ok, ((HGH.out.low hst.2.1 (fun g e => by injection e with e; simp; omega)).lower (by simp)).hrs⟩, by dsimp only; omega, by dsimp only; omega⟩, (HS.out.grown hst.2.1 (fun g e => by injection e with e; omega)).mono (by omega), gr_trans HG.out hst.2.1 (fun g e => .inr (by injection e with e; omega))⟩
  · have kt := HP.out.cell 0
    have zp := HP.out.lt
    go_upto_region 4 with (fail)
    refine wp_region_E (fun w' => w'.cell? ⟨w1.heap.size, 0, none⟩ = some (.slice (some ⟨g, 0, none⟩) 3 c)) (by kernel_rfl) ?_
    have hHeld : w2.drew.cell? ⟨w1.heap.size, 0, none⟩ = some (.slice (some ⟨g, 0, none⟩) 3 c) := kt
    refine E_take (k := 0) (v := ?_) (by rfl) (by kernel_rfl) (by exact fun _ _ _ h => h) (by rfl) ?_ (by assumption) ?_
    rotate_left 1
    · intro w hSw
      (try dsimp only at hSw)
      go_simp
      (try with_reducible rfl)
    (try simp only [Act.put, List.setIfInBounds_toArray, List.set_cons_zero, List.set_cons_succ])
    refine E_take (k := 1) (v := ?_) (by rfl) (by kernel_rfl) (by exact fun _ _ _ h => h) (by rfl) ?_ (by assumption) ?_
    rotate_left 1
    · intro w hSw
      (try dsimp only at hSw)
      go_simp
      (try with_reducible rfl)
    (try simp only [Act.put, List.setIfInBounds_toArray, List.set_cons_zero, List.set_cons_succ])
    refine E_take (k := 2) (v := ?_) (by rfl) (by kernel_rfl) (by exact fun _ _ _ h => h) (by rfl) ?_ (by assumption) ?_
    rotate_left 1
    · intro w hSw
      (try dsimp only at hSw)
      go_simp
      (try with_reducible rfl)
    (try simp only [Act.put, List.setIfInBounds_toArray, List.set_cons_zero, List.set_cons_succ])
    refine wpAnyE_calls (phase := [3, 4]) (T := 5) (fuel := 1) (n0 := 2) (fun k => k + 15) (RSpec (spP4 g)) (sb := sb) (m := m + 7001) (by kernel_rfl) (by decide) ?hsz rfl (HS.out.drew.mono (by omega)) ?hdst (fun k v w w' h hg => spP4_grown h hg) ?hS ?hlaw ?hend
    case hsz => intro k hk; simp only [List.mem_cons, List.not_mem_nil, or_false] at hk; rcases hk with rfl | rfl <;> simp
    case hdst => intro k hk; simp only [List.mem_cons, List.not_mem_nil, or_false] at hk; rcases hk with rfl | rfl <;> exact ⟨_, rfl, rfl, rfl⟩
    case hS => intro w' hg; exact (HP.out.grown (gr_same (gr_drew (gr_refl _ _)) hg) (by simp; omega)).cell 0
    case hlaw =>
      intro q o a' w' m' K hq ho hsame hdeps hs hm' hg hK
      have hf : ∀ j, (∀ i ∈ [3, 4], i + 15 ≠ j) → a'.tmps[j]? = _ := fun j hj => hsame j hj
      simp only [List.mem_cons, List.not_mem_nil, or_false] at hq
      rcases hq with rfl | rfl
      · obtain rfl := Option.some.inj ho
        have eS := hf 17 (by decide)
        go_simp
        refine (next_any sb m' 3 w' hs (by omega) (by omega) (by omega)).mono ?_
        rintro e wq ⟨vq, rfl, ⟨rq, h0q, h1q, rfl⟩, hsq, hgq⟩
        exact hK _ wq ⟨rq.toNat, by omega, by rw [Int.toNat_of_nonneg h0q]⟩ (hsq.mono (by omega)) hgq
      · obtain rfl := Option.some.inj ho
        obtain ⟨rq, hrq, hv3⟩ : NatV 3 _ w' := hdeps ⟨3, .data⟩ (by simp) rfl (by simp)
        rw [Array.getD_eq_getD_getElem?] at hv3
        have hrq' : (rq : Int) < 3 := by omega
        have eC := hf 16 (by decide)
        go_simp
        exact hK _ _ ⟨rq, hrq, by simp⟩ (hs.mono (by omega)) (gr_refl _ _)
    case hend =>
    intro vs w3 hR hs3 hg3
    obtain ⟨i, hin, hv4⟩ : PtM g (vs 4) w3 := hR 4 (by simp)
    clear hR hHeld kt
    replace hg3 : w2.grownBy w3 (some sb) := gr_same (gr_drew (gr_refl _ _)) hg3
    replace HR := Lib.hid (HR.out.grown hg3 (by simp; omega))
    replace HP := Lib.hid (HP.out.grown hg3 (by simp; omega))
    replace HGA := Lib.hid (HGA.out.low hg3 (fun g e => by injection e with e; omega))
    replace HGH := Lib.hid (HGH.out.low hg3 (fun g e => by injection e with e; simp; omega))
    have z3 := hg3.size; (try simp at z3)
    replace HG := Lib.hid (gr_same (a := w) HG.out hg3); replace HS := Lib.hid hs3; clear hs3 hg3
    have hin' : (i : Int) < 3 := by omega
    obtain ⟨x, hx⟩ : ∃ x, l[i]? = some x := ⟨_, List.getElem?_eq_getElem (by rw [HGA.out.1.2]; exact hin)⟩
    obtain ⟨o1, o2⟩ := HLB.out x (mem_of_get hx)
    have HX := Lib.hid hx; clear hx
    simp only [putAll, List.foldl_cons, List.foldl_nil, Act.put, Nat.reduceAdd, List.setIfInBounds_toArray, List.set_cons_zero, List.set_cons_succ, hv4]
    clear hv4
    refine E_run (k := 5) (by rfl) (by kernel_rfl) (by rfl) (fun K hK => ?_)
    go_simp
    refine hK _ _ (.inl (by rfl)) ?_
    clear hK K
    refine E_done (by kernel_rfl) ?_
    go_wp2_with fail
    refine (next_any sb _ 5 _ HS.out (by omega) (by omega) (by omega)).mono ?_
    rintro e w4 ⟨v4, rfl, ⟨r4, hlo4, hhi4, rfl⟩, hs4, hg4⟩
    replace HR := Lib.hid (HR.out.grown hg4 (by simp; omega))
    replace HP := Lib.hid (HP.out.grown hg4 (by simp; omega))
    replace HGA := Lib.hid (HGA.out.low hg4 (fun g e => by injection e with e; omega))
    replace HGH := Lib.hid (HGH.out.low hg4 (fun g e => by injection e with e; simp; omega))
    have z4 := hg4.size; (try simp at z4)
    replace HG := Lib.hid (gr_same (a := w) HG.out hg4); replace HS := Lib.hid hs4; clear hs4 hg4
    have hgs4 : g < w4.heap.size := by omega
    rcases (by omega : r4 = 0 ∨ r4 = 1 ∨ r4 = 2 ∨ r4 = 3 ∨ r4 = 4) with rfl | rfl | rfl | rfl | rfl
    · go_wp2_with fail
      refine (some_new (n := 3) sb _ 2 _ HS.out (by omega) (by simp) (by
        repeat (first | exact StrsOk.nil _ | refine StrsOk.cons (by decide) ?_)) rfl (by omega) (by omega)).mono ?_
      rintro e w5 ⟨v5, rfl, ⟨y5, rfl, hy5⟩, hs5, hg5⟩
      replace HR := Lib.hid (HR.out.grown hg5 (by simp; omega))
      replace HP := Lib.hid (HP.out.grown hg5 (by simp; omega))
      replace HGA := Lib.hid (HGA.out.low hg5 (fun g e => by injection e with e; omega))
      replace HGH := Lib.hid (HGH.out.low hg5 (fun g e => by injection e with e; simp; omega))
      have z5 := hg5.size; (try simp at z5)
      replace HG := Lib.hid (gr_same (a := w) HG.out hg5); replace HS := Lib.hid hs5; clear hs5 hg5
      have cX := HGA.out.1.recs.at_ CxV.row_len HX.out 0 _ rfl
      have fX := HGA.out.1.1.frozen (i * 3 + 0)
      simp only [Nat.zero_add, Nat.add_zero] at cX fX
      obtain ⟨wz, hwz⟩ : ∃ wz, w5.setCell ⟨g, i * 3, none⟩ (.string y5) = wz := ⟨_, rfl⟩
      have hgz : w5.grownBy wz (some g) := by rw [← hwz]; exact gr_setCell (gr_refl _ _) (.inl rfl) _
      have HGA1 := Lib.hid (show GCx wz (w.heap.size + 1) (some ⟨g, 0, none⟩) 3 c _ by rw [← hwz]; exact HGA.out.key HX.out (by omega) (by omega))
      replace HGH := Lib.hid (HGH.out.other HGA.out.1.1 (by decide) (by decide) (by decide) hgz)
      replace HP := Lib.hid (HP.out.grown hgz (by simp; omega))
      replace HR := Lib.hid (HR.out.grown hgz (by simp; omega))
      replace HS := Lib.hid (HS.out.grown hgz (fun g e => by injection e with e; omega))
      replace HG := Lib.hid (gr_trans (a := w) HG.out hgz (fun g e => .inr (by injection e with e; omega)))
      have zz := hgz.size
      go_upto_region 17 with (fail)
      (try rw [hwz])
      clear hwz hgz HGA
      have HGA := HGA1
      clear HGA1
      go_wp2_with (first
        | (refine wpl_load_all Tryz.plT rfl _ rfl _ rfl _ _ HP.out rfl ?_)
        | (refine wpl_store_all Tryz.plT rfl _ _ rfl _ rfl _ _ _ rfl HR.out rfl rfl (by simp [Value.oneCell']) ?_
           intro w9 h9
           have H9 := Lib.hid h9; clear h9)
        | fail)
      have hst := H9.out
      have hga := (HGA.out.low hst.2.1 (fun g e => by injection e with e; omega)).lower (show w.heap.size ≤ w.heap.size + 1 by omega)
      refine ret_cell (p := 4) (ty := 48) Tryz.plT (by kernel_rfl) w.heap.size 48 #[.slice (some ⟨g, 0, none⟩) 3 c, .slice B 2 d] (by rfl) hst.1 rfl rfl ?_
      exact ⟨_, rfl, ⟨⟨some ⟨g, 0, none⟩, 3, c, B, 2, d, _, hh⟩, rfl, ⟨by dsimp only; omega, by dsimp only; omega, hga.recs, fun a ha => (hga.2.1 a ha).ok, ((HGH.out.low hst.2.1 (fun g e => by injection e with e; simp; omega)).lower (by simp)).hrs⟩, by dsimp only; omega, by dsimp only; omega⟩, (HS.out.grown hst.2.1 (fun g e => by injection e with e; omega)).mono (by omega), gr_trans HG.out hst.2.1 (fun g e => .inr (by injection e with e; omega))⟩
    · go_wp2_with fail
      refine (rightRule_any sb _ _ HS.out (by omega)).mono ?_
      rintro e w5 ⟨v5, rfl, ⟨r, rfl, hrb⟩, hs5, hg5⟩
      replace HR := Lib.hid (HR.out.grown hg5 (by simp; omega))
      replace HP := Lib.hid (HP.out.grown hg5 (by simp; omega))
      replace HGA := Lib.hid (HGA.out.low hg5 (fun g e => by injection e with e; omega))
      replace HGH := Lib.hid (HGH.out.low hg5 (fun g e => by injection e with e; simp; omega))
      have z5 := hg5.size; (try simp at z5)
      replace HG := Lib.hid (gr_same (a := w) HG.out hg5); replace HS := Lib.hid hs5; clear hs5 hg5
      have HQ := Lib.hid (Blk.new w5 109 #[.string r.pat, .int .i64 r.strip, .string r.pre, .int .i64 r.to_, .string r.nam, .string r.hrs])
      have HXR := Lib.hid (show ∀ q, blkOf x.rA = some q → q < w5.heap.size from fun q e => ((HGA.out.2.1 x (mem_of_get HX.out)).2.1.1.lt e).2)
      have HG5 := Lib.hid (gr_alloc (gr_refl w5 (some sb)) (.cells #[.string r.pat, .int .i64 r.strip, .string r.pre, .int .i64 r.to_, .string r.nam, .string r.hrs] 109))
      replace HS := Lib.hid (HS.out.alloc (.cells #[.string r.pat, .int .i64 r.strip, .string r.pre, .int .i64 r.to_, .string r.nam, .string r.hrs] 109))
      go_wp2_with fail
      refine (pattern_any sb _ _ HS.out (by omega)).mono ?_
      rintro e w6 ⟨v6, rfl, ⟨y6, rfl, b6⟩, hs6, hg6⟩
      replace HQ := Lib.hid (HQ.out.grown hg6 (by simp; omega))
      have z6 := hg6.size; (try simp at z6)
      replace HG5 := Lib.hid (gr_same (a := w5) HG5.out hg6); replace HS := Lib.hid hs6; clear hs6 hg6
      go_wp2_with fail
      refine (odd_any sb _ 0 30 _ HS.out (by omega) (by omega) (by omega) (by omega)).mono ?_
      rintro e w7 ⟨v7, rfl, ⟨y7, hlo7, hhi7, rfl⟩, hs7, hg7⟩
      replace HQ := Lib.hid (HQ.out.grown hg7 (by simp; omega))
      have z7 := hg7.size; (try simp at z7)
      replace HG5 := Lib.hid (gr_same (a := w5) HG5.out hg7); replace HS := Lib.hid hs7; clear hs7 hg7
      go_wp2_with fail
      refine (some_new (n := 3) sb _ 10 _ HS.out (by omega) (by simp) (by
        repeat (first | exact StrsOk.nil _ | refine StrsOk.cons (by decide) ?_)) rfl (by omega) (by omega)).mono ?_
      rintro e w8 ⟨v8, rfl, ⟨y8, rfl, b8⟩, hs8, hg8⟩
      replace HQ := Lib.hid (HQ.out.grown hg8 (by simp; omega))
      have z8 := hg8.size; (try simp at z8)
      replace HG5 := Lib.hid (gr_same (a := w5) HG5.out hg8); replace HS := Lib.hid hs8; clear hs8 hg8
      go_wp2_with fail
      refine (odd_any sb _ 1 6 _ HS.out (by omega) (by omega) (by omega) (by omega)).mono ?_
      rintro e w9 ⟨v9, rfl, ⟨y9, hlo9, hhi9, rfl⟩, hs9, hg9⟩
      replace HQ := Lib.hid (HQ.out.grown hg9 (by simp; omega))
      have z9 := hg9.size; (try simp at z9)
      replace HG5 := Lib.hid (gr_same (a := w5) HG5.out hg9); replace HS := Lib.hid hs9; clear hs9 hg9
      go_wp2_with fail
      refine (some_new (n := 3) sb _ 10 _ HS.out (by omega) (by simp) (by
        repeat (first | exact StrsOk.nil _ | refine StrsOk.cons (by decide) ?_)) rfl (by omega) (by omega)).mono ?_
      rintro e w10 ⟨v10, rfl, ⟨y10, rfl, b10⟩, hs10, hg10⟩
      replace HQ := Lib.hid (HQ.out.grown hg10 (by simp; omega))
      have z10 := hg10.size; (try simp at z10)
      replace HG5 := Lib.hid (gr_same (a := w5) HG5.out hg10); replace HS := Lib.hid hs10; clear hs10 hg10
      go_wp2_with fail
      refine (some_new (n := 3) sb _ 10 _ HS.out (by omega) (by simp) (by
        repeat (first | exact StrsOk.nil _ | refine StrsOk.cons (by decide) ?_)) rfl (by omega) (by omega)).mono ?_
      rintro e w11 ⟨v11, rfl, ⟨y11, rfl, b11⟩, hs11, hg11⟩
      replace HQ := Lib.hid (HQ.out.grown hg11 (by simp; omega))
      have z11 := hg11.size; (try simp at z11)
      replace HG5 := Lib.hid (gr_same (a := w5) HG5.out hg11); replace HS := Lib.hid hs11; clear hs11 hg11
      obtain ⟨wy, hwy⟩ : ∃ wy, (((((w11.setCell ⟨w5.heap.size, 0, none⟩ (.string y6)).setCell ⟨w5.heap.size, 1, none⟩ (.int .i64 y7)).setCell ⟨w5.heap.size, 2, none⟩ (.string y8)).setCell ⟨w5.heap.size, 3, none⟩ (.int .i64 y9)).setCell ⟨w5.heap.size, 4, none⟩ (.string y10)).setCell ⟨w5.heap.size, 5, none⟩ (.string y11) = wy := ⟨_, rfl⟩
      have hgy : w5.grownBy wy (some sb) := by
        rw [← hwy]
        refine gr_setCell (gr_setCell (gr_setCell (gr_setCell (gr_setCell (gr_setCell HG5.out ?_ _) ?_ _) ?_ _) ?_ _) ?_ _) ?_ _ <;> exact .inr (Nat.le_refl _)
      have HSy := Lib.hid (show Str wy sb _ by rw [← hwy]; exact (((((HS.out.setCell (by simp; omega) _).setCell (by simp; omega) _).setCell (by simp; omega) _).setCell (by simp; omega) _).setCell (by simp; omega) _).setCell (by simp; omega) _)
      have HQ1 := Lib.hid (show Blk wy w5.heap.size 109 #[.string y6, .int .i64 y7, .string y8, .int .i64 y9, .string y10, .string y11] by rw [← hwy]; exact ((((((HQ.out.set_ 0 (.string y6)).set_ 1 (.int .i64 y7)).set_ 2 (.string y8)).set_ 3 (.int .i64 y9)).set_ 4 (.string y10)).set_ 5 (.string y11)))
      have cQ := HQ.out.cell
      have fQ := HQ.out.frozen
      have hzq := HQ.out.lt
      go_upto_region 12 with (fail)
      (try rw [hwy])
      clear hwy cQ fQ HQ HG5 HS
      replace HR := Lib.hid (HR.out.grown hgy (by simp; omega))
      replace HP := Lib.hid (HP.out.grown hgy (by simp; omega))
      replace HGA := Lib.hid (HGA.out.low hgy (fun g e => by injection e with e; omega))
      replace HGH := Lib.hid (HGH.out.low hgy (fun g e => by injection e with e; simp; omega))
      replace HG := Lib.hid (gr_same (a := w) HG.out hgy)
      have HS := Lib.hid HSy.out
      have zy := hgy.size
      have HNOK := Lib.hid (show RuOk ⟨y6, y7, y8, y9, y10, y11⟩ from ⟨by dsimp only; omega, by dsimp only; omega, by dsimp only; omega, by dsimp only; omega⟩)
      clear hgy HSy z6 z7 z8 z9 z10 z11
      have hgsy : g < wy.heap.size := by omega
      refine wp_region_lex (fun w' => w'.cell? ⟨g, i * 3 + 1, none⟩ = some (.slice x.rA x.rn x.rc) ∧ Blk w' w5.heap.size 109 #[.string y6, .int .i64 y7, .string y8, .int .i64 y9, .string y10, .string y11]) [0, 1, 2, 3, 4, 5, 6, 7, 8, 9, 10] (by kernel_rfl) (by kernel_rfl) ?_
      have hHeld : wy.drew.cell? ⟨g, i * 3 + 1, none⟩ = some (.slice x.rA x.rn x.rc) ∧ Blk wy.drew w5.heap.size 109 #[.string y6, .int .i64 y7, .string y8, .int .i64 y9, .string y10, .string y11] := ⟨cxCell1 HGA.out.1 HX.out, HQ1.out⟩
      repeat (
        refine lex_take (v := ?_) (by rfl) (by rfl) (by exact fun _ _ _ h => h) (by rfl) ?_ (by assumption) ?_
        rotate_left 1
        · intro w hSw
          obtain ⟨hS1, hS2⟩ := hSw
          first
            | (go_simp; done)
            | (go_simp; with_reducible rfl)
            | (refine exec_load_all Tryz.ruT (.tmp 7) ?_ ?_ hS2 ?_ <;> rfl)
        (try simp only [Act.put, List.setIfInBounds_toArray, List.set_cons_zero, List.set_cons_succ]))
      refine lex_run (by rfl) (by rfl) (by rfl) (fun K hK => ?_)
      go_simp
      have hHeld1 : (wy.drew.alloc (.cells #[.string y6, .int .i64 y7, .string y8, .int .i64 y9, .string y10, .string y11] 109)).cell? ⟨g, i * 3 + 1, none⟩ = some (.slice x.rA x.rn x.rc) ∧ Blk (wy.drew.alloc (.cells #[.string y6, .int .i64 y7, .string y8, .int .i64 y9, .string y10, .string y11] 109)) w5.heap.size 109 #[.string y6, .int .i64 y7, .string y8, .int .i64 y9, .string y10, .string y11] := ⟨cxCell1 (HGA.out.1.alloc (.cells #[.string y6, .int .i64 y7, .string y8, .int .i64 y9, .string y10, .string y11] 109)) HX.out, HQ1.out.alloc (.cells #[.string y6, .int .i64 y7, .string y8, .int .i64 y9, .string y10, .string y11] 109)⟩
      refine hK _ _ (.inr hHeld1) ?_
      clear hK K hHeld
      have hHeld := hHeld1
      clear hHeld1
      have HXO := Lib.hid ((HGA.out.2.1 x (mem_of_get HX.out)).low (gr_alloc (gr_refl _ none) (.cells #[.string y6, .int .i64 y7, .string y8, .int .i64 y9, .string y10, .string y11] 109)) (fun g e => by cases e)).2.1
      refine lex_run (by rfl) (by rfl) (by rfl) (fun K hK => ?_)
      refine wp_app _ _ _ Tryz.rusT (by rfl) (w.heap.size + 1) x.rA x.rn x.rc (x.rules.flatMap RuV.row) (by rfl) (by exact HXO.out.1) _ _ 1 1 [.string y6, .int .i64 y7, .string y8, .int .i64 y9, .string y10, .string y11] (by rfl) (by exact Reads.one _ _ _ _ rfl) (by simp [Value.oneCell']) (by unfold maxLen; omega) (by omega) (by simp; omega) ?_
      intro A1 c1 w8 h8
      replace h8 : Appended (wy.alloc (.cells #[.string y6, .int .i64 y7, .string y8, .int .i64 y9, .string y10, .string y11] 109)) (w.heap.size + 1) 109 6 x.rA A1 (x.rn + 1) c1 (x.rules.flatMap RuV.row ++ [.string y6, .int .i64 y7, .string y8, .int .i64 y9, .string y10, .string y11]) w8 := ⟨h8.1, gr_same (gr_drew (gr_refl _ _)) h8.2.1, h8.2.2⟩
      have hm8 := (HGA.out.1.alloc (.cells #[.string y6, .int .i64 y7, .string y8, .int .i64 y9, .string y10, .string y11] 109)).kept h8.2.1 (fun g' e => Own.ne HXO.out.1 (HGA.out.1.1.alloc (.cells #[.string y6, .int .i64 y7, .string y8, .int .i64 y9, .string y10, .string y11] 109)) (by decide) e)
      have hq8 := (HQ1.out.alloc (.cells #[.string y6, .int .i64 y7, .string y8, .int .i64 y9, .string y10, .string y11] 109)).grown h8.2.1 (fun e => by have := HXR.out _ e.symm; omega)
      have c8 := cxCell1 hm8 HX.out
      have f8 := hm8.1.frozen (i * 3 + 1)
      have H8 := Lib.hid h8
      have HM8 := Lib.hid hm8
      have hHeld1 : w8.cell? ⟨g, i * 3 + 1, none⟩ = some (.slice x.rA x.rn x.rc) ∧ Blk w8 w5.heap.size 109 #[.string y6, .int .i64 y7, .string y8, .int .i64 y9, .string y10, .string y11] := ⟨c8, hq8⟩
      clear h8 hm8 hq8
      refine hK _ _ (.inr hHeld1) ?_
      clear hK K hHeld
      have hHeld := hHeld1
      clear hHeld1
      repeat (
        refine lex_take (v := ?_) (by rfl) (by rfl) (by exact fun _ _ _ h => h) (by rfl) ?_ (by assumption) ?_
        rotate_left 1
        · intro w hSw
          obtain ⟨hS1, hS2⟩ := hSw
          first
            | (go_simp; done)
            | (go_simp; with_reducible rfl)
            | (refine exec_load_all Tryz.ruT (.tmp 7) ?_ ?_ hS2 ?_ <;> rfl)
        (try simp only [Act.put, List.setIfInBounds_toArray, List.set_cons_zero, List.set_cons_succ]))
      refine lex_run (by rfl) (by rfl) (by rfl) (fun K hK => ?_)
      go_simp
      refine hK _ _ (.inl (by rfl)) ?_
      clear hK K hHeld
      refine lex_end ?_
      clear c8 f8
      have hne : ∀ q, blkOf x.rA = some q → w.heap.size + 1 ≤ q := fun q e => (HXO.out.1.lt e).1
      replace HR := Lib.hid ((HR.out.alloc (.cells #[.string y6, .int .i64 y7, .string y8, .int .i64 y9, .string y10, .string y11] 109)).grown H8.out.2.1 (Ne.symm (HXO.out.1.blk_ne (HR.out.alloc (.cells #[.string y6, .int .i64 y7, .string y8, .int .i64 y9, .string y10, .string y11] 109)) (by decide))))
      replace HP := Lib.hid ((HP.out.alloc (.cells #[.string y6, .int .i64 y7, .string y8, .int .i64 y9, .string y10, .string y11] 109)).grown H8.out.2.1 (Ne.symm (HXO.out.1.blk_ne (HP.out.alloc (.cells #[.string y6, .int .i64 y7, .string y8, .int .i64 y9, .string y10, .string y11] 109)) (by decide))))
      replace HGH := Lib.hid ((HGH.out.low (gr_alloc (gr_refl _ none) (.cells #[.string y6, .int .i64 y7, .string y8, .int .i64 y9, .string y10, .string y11] 109)) (fun g e => by cases e)).other HXO.out.1 (by decide) (by decide) (by decide) H8.out.2.1)
      replace HS := Lib.hid ((HS.out.alloc (.cells #[.string y6, .int .i64 y7, .string y8, .int .i64 y9, .string y10, .string y11] 109)).grown H8.out.2.1 (fun g e => by have := hne g e; omega))
      replace HG := Lib.hid (H8.out.gr (gr_alloc HG.out (.cells #[.string y6, .int .i64 y7, .string y8, .int .i64 y9, .string y10, .string y11] 109)) HXO.out.1 (by omega))
      replace HGA := Lib.hid (HGA.out.low (gr_alloc (gr_refl _ none) (.cells #[.string y6, .int .i64 y7, .string y8, .int .i64 y9, .string y10, .string y11] 109)) (fun g e => by cases e))
      have z8 := H8.out.2.1.size; (try simp at z8)
      obtain ⟨wz, hwz⟩ : ∃ wz, w8.setCell ⟨g, i * 3 + 1, none⟩ (.slice A1 (x.rn + 1) c1) = wz := ⟨_, rfl⟩
      have hgz : w8.grownBy wz (some g) := by rw [← hwz]; exact gr_setCell (gr_refl _ _) (.inl rfl) _
      have HGA1 := Lib.hid (show GCx wz (w.heap.size + 1) (some ⟨g, 0, none⟩) 3 c _ by rw [← hwz]; exact HGA.out.rul HX.out (r := ⟨y6, y7, y8, y9, y10, y11⟩) HNOK.out rfl (by omega) H8.out (by omega))
      replace HGH := Lib.hid (HGH.out.other HM8.out.1 (by decide) (by decide) (by decide) hgz)
      replace HP := Lib.hid (HP.out.grown hgz (by simp; omega))
      replace HR := Lib.hid (HR.out.grown hgz (by simp; omega))
      replace HS := Lib.hid (HS.out.grown hgz (fun g e => by injection e with e; omega))
      replace HG := Lib.hid (gr_trans (a := w) HG.out hgz (fun g e => .inr (by injection e with e; omega)))
      have zz := hgz.size
      go_upto_region 17 with (fail)
      (try rw [hwz])
      clear hwz hgz HGA
      have HGA := HGA1
      clear HGA1
      go_wp2_with (first
        | (refine wpl_load_all Tryz.plT rfl _ rfl _ rfl _ _ HP.out rfl ?_)
        | (refine wpl_store_all Tryz.plT rfl _ _ rfl _ rfl _ _ _ rfl HR.out rfl rfl (by simp [Value.oneCell']) ?_
           intro w9 h9
           have H9 := Lib.hid h9; clear h9)
        | fail)
      have hst := H9.out
      have hga := (HGA.out.low hst.2.1 (fun g e => by injection e with e; omega)).lower (show w.heap.size ≤ w.heap.size + 1 by omega)
      refine ret_cell (p := 4) (ty := 48) Tryz.plT (by kernel_rfl) w.heap.size 48 #[.slice (some ⟨g, 0, none⟩) 3 c, .slice B 2 d] (by rfl) hst.1 rfl rfl ?_
      exact ⟨_, rfl, ⟨⟨some ⟨g, 0, none⟩, 3, c, B, 2, d, _, hh⟩, rfl, ⟨by dsimp only; omega, by dsimp only; omega, hga.recs, fun a ha => (hga.2.1 a ha).ok, ((HGH.out.low hst.2.1 (fun g e => by injection e with e; simp; omega)).lower (by simp)).hrs⟩, by dsimp only; omega, by dsimp only; omega⟩, (HS.out.grown hst.2.1 (fun g e => by injection e with e; omega)).mono (by omega), gr_trans HG.out hst.2.1 (fun g e => .inr (by injection e with e; omega))⟩
    · go_upto_region 14 with (fail)
      refine wp_region_lex (fun w' => w'.cell? ⟨g, i * 3 + 1, none⟩ = some (.slice x.rA x.rn x.rc)) [0, 1, 2, 3, 4, 6, 7, 8, 9, 5, 10, 11, 12, 13] (by kernel_rfl) (by kernel_rfl) ?_
      have hHeld : w4.drew.cell? ⟨g, i * 3 + 1, none⟩ = some (.slice x.rA x.rn x.rc) := cxCell1 HGA.out.1 HX.out
      have HXO := Lib.hid (HGA.out.2.1 x (mem_of_get HX.out)).2.1
      have HRB := Lib.hid (HGA.out.2.1 x (mem_of_get HX.out)).1.2.1
      repeat (
        refine lex_take (v := ?_) (by rfl) (by rfl) (by exact fun _ _ _ h => h) (by rfl) ?_ (by assumption) ?_
        rotate_left 1
        · intro w hSw
          (try dsimp only at hSw)
          go_simp
          (try with_reducible rfl)
        (try simp only [Act.put, List.setIfInBounds_toArray, List.set_cons_zero, List.set_cons_succ]))
      refine lex_run (by rfl) (by rfl) (by rfl) (fun K hK => ?_)
      go_simp
      refine (cloneR_any (w.heap.size + 1) _ _ _ x.rules _ (show Recs RuV.row 6 w4.drew (w.heap.size + 1) x.rA x.rn x.rc x.rules from HXO.out.recs) (by omega)).mono ?_
      rintro e w5 ⟨A5, c5, rfl, ho5, hg5⟩
      have hg45 : w4.grownBy w5 none := gr_same (gr_drew (gr_refl _ _)) hg5
      have HO5 := Lib.hid ho5
      have z5 := hg45.size
      have hA5 : ∀ q, blkOf A5 = some q → w4.heap.size ≤ q := fun q e => (ho5.1.lt e).1
      have hX5 : Reads w5 (w.heap.size + 1) 6 x.rA x.rn x.rc (x.rules.flatMap RuV.row) := (HXO.out.recs.grown hg45 (fun g e => by cases e)).1
      have HG45 := Lib.hid hg45
      clear ho5 hg5 hg45
      have hHeld1 : w5.cell? ⟨g, i * 3 + 1, none⟩ = some (.slice x.rA x.rn x.rc) := cxCell1 (HGA.out.1.kept HG45.out (fun g e => by cases e)) HX.out
      go_simp
      refine hK _ _ (.inr hHeld1) ?_
      clear hK K hHeld
      have hHeld := hHeld1
      clear hHeld1
      refine lex_run (by rfl) (by rfl) (by rfl) (fun K hK => ?_)
      refine wp_app _ _ _ Tryz.rusT (by rfl) w4.heap.size A5 x.rn c5 (x.rules.flatMap RuV.row) (by rfl) (by exact HO5.out.1) _ _ x.rn x.rc (x.rules.flatMap RuV.row) (by rfl) (by exact hX5) one_rules (by unfold maxLen; omega) (by omega) (by omega) ?_
      intro A6 c6 w6 h6
      have HG4 := Lib.hid (show w4.grownBy w6 (some sb) from gr_trans (gr_none (gr_refl w4 (some sb)) HG45.out) h6.2.1 (fun q e => .inr (hA5 q e)))
      have hA6 : ∀ q, blkOf A6 = some q → w4.heap.size ≤ q := fun q e => by
        rcases h6.2.2 q e with e2 | e2
        · exact hA5 q e2
        · omega
      have HO6 := Lib.hid (show OwnR RuV.row 6 w6 (w.heap.size + 1) 109 A6 (x.rn + x.rn) c6 (x.rules ++ x.rules) from ⟨by rw [List.flatMap_append]; exact h6.1.lower (by omega), by rw [List.length_append, HXO.out.2]⟩)
      have HF := Lib.hid (show ∀ q, blkOf A6 = some q → ∀ b ∈ l, blkOf b.rA ≠ some q from fun q e b hb e2 => by
        have h1 := hA6 q e
        have h2 := ((HGA.out.2.1 b hb).2.1.1.lt e2).2
        omega)
      replace HS := Lib.hid ((HS.out.grown HG45.out (fun g e => by cases e)).grown h6.2.1 (fun q e => by have := hA5 q e; omega))
      replace HR := Lib.hid (HR.out.grown HG4.out (by simp; omega))
      replace HP := Lib.hid (HP.out.grown HG4.out (by simp; omega))
      replace HGA := Lib.hid (HGA.out.low HG4.out (fun g e => by injection e with e; omega))
      replace HGH := Lib.hid (HGH.out.low HG4.out (fun g e => by injection e with e; simp; omega))
      replace HG := Lib.hid (gr_same (a := w) HG.out HG4.out)
      have zs := HG4.out.size
      have HM8 := Lib.hid HGA.out.1
      clear HG4
      have c8 := cxCell1 HM8.out HX.out
      have f8 := HM8.out.1.frozen (i * 3 + 1)
      clear h6 hA5 hA6 hX5
      refine hK _ _ (.inr c8) ?_
      clear hK K hHeld
      have hHeld := c8
      repeat (
        refine lex_take (v := ?_) (by rfl) (by rfl) (by exact fun _ _ _ h => h) (by rfl) ?_ (by assumption) ?_
        rotate_left 1
        · intro w hSw
          (try dsimp only at hSw)
          go_simp
          (try with_reducible rfl)
        (try simp only [Act.put, List.setIfInBounds_toArray, List.set_cons_zero, List.set_cons_succ]))
      refine lex_run (by rfl) (by rfl) (by rfl) (fun K hK => ?_)
      go_simp
      refine hK _ _ (.inl (by rfl)) ?_
      clear hK K hHeld
      refine lex_end ?_
      clear c8 f8
      obtain ⟨wz, hwz⟩ : ∃ wz, w6.setCell ⟨g, i * 3 + 1, none⟩ (.slice A6 (x.rn + x.rn) c6) = wz := ⟨_, rfl⟩
      have hgz : w6.grownBy wz (some g) := by rw [← hwz]; exact gr_setCell (gr_refl _ _) (.inl rfl) _
      have HGA1 := Lib.hid (show GCx wz (w.heap.size + 1) (some ⟨g, 0, none⟩) 3 c _ by rw [← hwz]; exact HGA.out.rulN HX.out HO6.out (by omega) (fun r hr => by rcases List.mem_append.1 hr with h | h <;> exact HRB.out r h) HF.out (by omega))
      replace HGH := Lib.hid (HGH.out.other HM8.out.1 (by decide) (by decide) (by decide) hgz)
      replace HP := Lib.hid (HP.out.grown hgz (by simp; omega))
      replace HR := Lib.hid (HR.out.grown hgz (by simp; omega))
      replace HS := Lib.hid (HS.out.grown hgz (fun g e => by injection e with e; omega))
      replace HG := Lib.hid (gr_trans (a := w) HG.out hgz (fun g e => .inr (by injection e with e; omega)))
      have zz := hgz.size
      go_upto_region 17 with (fail)
      (try rw [hwz])
      clear hwz hgz HGA
      have HGA := HGA1
      clear HGA1
      go_wp2_with (first
        | (refine wpl_load_all Tryz.plT rfl _ rfl _ rfl _ _ HP.out rfl ?_)
        | (refine wpl_store_all Tryz.plT rfl _ _ rfl _ rfl _ _ _ rfl HR.out rfl rfl (by simp [Value.oneCell']) ?_
           intro w9 h9
           have H9 := Lib.hid h9; clear h9)
        | fail)
      have hst := H9.out
      have hga := (HGA.out.low hst.2.1 (fun g e => by injection e with e; omega)).lower (show w.heap.size ≤ w.heap.size + 1 by omega)
      refine ret_cell (p := 4) (ty := 48) Tryz.plT (by kernel_rfl) w.heap.size 48 #[.slice (some ⟨g, 0, none⟩) 3 c, .slice B 2 d] (by rfl) hst.1 rfl rfl ?_
      exact ⟨_, rfl, ⟨⟨some ⟨g, 0, none⟩, 3, c, B, 2, d, _, hh⟩, rfl, ⟨by dsimp only; omega, by dsimp only; omega, hga.recs, fun a ha => (hga.2.1 a ha).ok, ((HGH.out.low hst.2.1 (fun g e => by injection e with e; simp; omega)).lower (by simp)).hrs⟩, by dsimp only; omega, by dsimp only; omega⟩, (HS.out.grown hst.2.1 (fun g e => by injection e with e; omega)).mono (by omega), gr_trans HG.out hst.2.1 (fun g e => .inr (by injection e with e; omega))⟩
    · have c2 := cxCell2 HGA.out.1 HX.out
      have HIO := Lib.hid (HGA.out.2.1 x (mem_of_get HX.out)).2.2
      have HIB := Lib.hid (HGA.out.2.1 x (mem_of_get HX.out)).1.2.2
      go_wp2_with fail
      refine (cloneS_any (w.heap.size + 1) _ _ _ x.incs _ HIO.out.recs (by omega)).mono ?_
      rintro e w5 ⟨A5, c5, rfl, ho5, hg5⟩
      have HG4 := Lib.hid (show w4.grownBy w5 (some sb) from gr_none (gr_refl _ _) hg5)
      replace HS := Lib.hid (HS.out.grown hg5 (fun g e => by cases e))
      have HO5 := Lib.hid ho5
      have z5 := hg5.size
      have hA5 : ∀ q, blkOf A5 = some q → w4.heap.size ≤ q := fun q e => (ho5.1.lt e).1
      clear ho5 hg5 c2
      go_wp2_with fail
      refine (some_new (n := 5) sb _ 4 _ HS.out (by omega) (by simp) (by
        repeat (first | exact StrsOk.nil _ | refine StrsOk.cons (by decide) ?_)) rfl (by omega) (by omega)).mono ?_
      rintro e w6 ⟨v6, rfl, ⟨y6, rfl, b6⟩, hs6, hg6⟩
      have HO6 := Lib.hid (HO5.out.low hg6 (fun g e => by injection e with e; omega))
      replace HG4 := Lib.hid (gr_same (a := w4) HG4.out hg6)
      have z6 := hg6.size
      replace HS := Lib.hid hs6
      clear hs6 hg6
      have hgs6 : g < w6.heap.size := by omega
      go_upto_region 17 with (first
        | (at_builtin
           refine wpl_app _ rfl _ _ Tryz.stT rfl w4.heap.size A5 x.en c5 (x.incs.flatMap srow) rfl (by exact HO6.out.1.alloc _) _ _ 1 1 [.string y6] rfl (by exact Reads.one _ _ _ _ rfl) (by simp [Value.oneCell']) (by unfold maxLen; omega) (by omega) (by simp; omega) ?_
           intro A7 c7 w7 h7
           replace HG4 := Lib.hid (show w4.grownBy w7 (some sb) from gr_trans (gr_alloc HG4.out _) h7.2.1 (fun q e => .inr (hA5 q e)))
           have HO7 := Lib.hid (show OwnR srow 1 w7 (w.heap.size + 1) 9 A7 (x.en + 1) c7 (x.incs ++ [y6]) from ((HO6.out.alloc _).app (a := y6) rfl h7).lower (by omega))
           replace HS := Lib.hid ((HS.out.alloc (.cells #[.string y6] 9)).grown h7.2.1 (fun q e => by have := hA5 q e; omega))
           replace HR := Lib.hid (HR.out.grown HG4.out (by simp; omega))
           replace HP := Lib.hid (HP.out.grown HG4.out (by simp; omega))
           replace HGA := Lib.hid (HGA.out.low HG4.out (fun g e => by injection e with e; omega))
           replace HGH := Lib.hid (HGH.out.low HG4.out (fun g e => by injection e with e; simp; omega))
           replace HG := Lib.hid (gr_same (a := w) HG.out HG4.out)
           have zs := HG4.out.size
           have HM8 := Lib.hid HGA.out.1
           clear HG4
           have c8 := cxCell2 HM8.out HX.out
           have f8 := HM8.out.1.frozen (i * 3 + 2)
           obtain ⟨wz, hwz⟩ : ∃ wz, w7.setCell ⟨g, i * 3 + 2, none⟩ (.slice A7 (x.en + 1) c7) = wz := ⟨_, rfl⟩
           have hgz : w7.grownBy wz (some g) := by rw [← hwz]; exact gr_setCell (gr_refl _ _) (.inl rfl) _
           have HGA1 := Lib.hid (show GCx wz (w.heap.size + 1) (some ⟨g, 0, none⟩) 3 c _ by rw [← hwz]; exact HGA.out.inc HX.out HO7.out (by omega) (fun s hs => by rcases List.mem_append.1 hs with h | h; exact HIB.out s h; rw [List.mem_singleton.1 h]; omega) (by omega))
           replace HGH := Lib.hid (HGH.out.other HM8.out.1 (by decide) (by decide) (by decide) hgz)
           replace HP := Lib.hid (HP.out.grown hgz (by simp; omega))
           replace HR := Lib.hid (HR.out.grown hgz (by simp; omega))
           replace HS := Lib.hid (HS.out.grown hgz (fun g e => by injection e with e; omega))
           replace HG := Lib.hid (gr_trans (a := w) HG.out hgz (fun g e => .inr (by injection e with e; omega)))
           have zz := hgz.size
      )
        | fail)
      (try rw [hwz])
      clear hwz hgz HGA
      have HGA := HGA1
      clear HGA1
      go_wp2_with (first
        | (refine wpl_load_all Tryz.plT rfl _ rfl _ rfl _ _ HP.out rfl ?_)
        | (refine wpl_store_all Tryz.plT rfl _ _ rfl _ rfl _ _ _ rfl HR.out rfl rfl (by simp [Value.oneCell']) ?_
           intro w9 h9
           have H9 := Lib.hid h9; clear h9)
        | fail)
      have hst := H9.out
      have hga := (HGA.out.low hst.2.1 (fun g e => by injection e with e; omega)).lower (show w.heap.size ≤ w.heap.size + 1 by omega)
      refine ret_cell (p := 4) (ty := 48) Tryz.plT (by kernel_rfl) w.heap.size 48 #[.slice (some ⟨g, 0, none⟩) 3 c, .slice B 2 d] (by rfl) hst.1 rfl rfl ?_
      exact ⟨_, rfl, ⟨⟨some ⟨g, 0, none⟩, 3, c, B, 2, d, _, hh⟩, rfl, ⟨by dsimp only; omega, by dsimp only; omega, hga.recs, fun a ha => (hga.2.1 a ha).ok, ((HGH.out.low hst.2.1 (fun g e => by injection e with e; simp; omega)).lower (by simp)).hrs⟩, by dsimp only; omega, by dsimp only; omega⟩, (HS.out.grown hst.2.1 (fun g e => by injection e with e; omega)).mono (by omega), gr_trans HG.out hst.2.1 (fun g e => .inr (by injection e with e; omega))⟩
    · go_wp2_with fail
      refine (hours_any sb _ _ HS.out (by omega)).mono ?_
      rintro e w5 ⟨v5, rfl, ⟨A5, c5, l5, rfl, h5⟩, hs5, hg5⟩
      have H5 := Lib.hid h5; clear h5
      replace HR := Lib.hid (HR.out.grown hg5 (by simp; omega))
      replace HP := Lib.hid (HP.out.grown hg5 (by simp; omega))
      replace HGA := Lib.hid (HGA.out.low hg5 (fun g e => by injection e with e; omega))
      replace HGH := Lib.hid (HGH.out.low hg5 (fun g e => by injection e with e; simp; omega))
      have z5 := hg5.size; (try simp at z5)
      replace HG := Lib.hid (gr_same (a := w) HG.out hg5); replace HS := Lib.hid hs5; clear hs5 hg5
      have cP := HP.out.cell 1
      have fP := HP.out.frozen 1
      have zp5 := HP.out.lt
      obtain ⟨wz, hwz⟩ : ∃ wz, w5.setCell ⟨w1.heap.size, 1, none⟩ (.slice A5 2 c5) = wz := ⟨_, rfl⟩
      have hgz : w5.grownBy wz (some w1.heap.size) := by rw [← hwz]; exact gr_setCell (gr_refl _ _) (.inl rfl) _
      have HP1 := Lib.hid (show Blk wz w1.heap.size 48 #[.slice (some ⟨g, 0, none⟩) 3 c, .slice A5 2 c5] by rw [← hwz]; exact HP.out.set_ 1 _)
      have HGA1 := Lib.hid (show GCx wz (w.heap.size + 1) (some ⟨g, 0, none⟩) 3 c l by rw [← hwz]; exact HGA.out.far HP.out (by decide) (by decide) (by decide) 1 _)
      have H5z := Lib.hid (H5.out.grown hgz (fun g e => by injection e with e; omega))
      replace HR := Lib.hid (HR.out.grown hgz (by simp; omega))
      replace HS := Lib.hid (HS.out.grown hgz (fun g e => by injection e with e; omega))
      replace HG := Lib.hid (gr_trans (a := w) HG.out hgz (fun g e => .inr (by injection e with e; omega)))
      have zz := hgz.size
      go_upto_region 17 with (fail)
      (try rw [hwz])
      clear hwz hgz HGA HP cP fP
      have HGA := HGA1
      have HP := HP1
      clear HGA1 HP1
      go_wp2_with (first
        | (refine wpl_load_all Tryz.plT rfl _ rfl _ rfl _ _ HP.out rfl ?_)
        | (refine wpl_store_all Tryz.plT rfl _ _ rfl _ rfl _ _ _ rfl HR.out rfl rfl (by simp [Value.oneCell']) ?_
           intro w9 h9
           have H9 := Lib.hid h9; clear h9)
        | fail)
      have hst := H9.out
      have hga := (HGA.out.low hst.2.1 (fun g e => by injection e with e; omega)).lower (show w.heap.size ≤ w.heap.size + 1 by omega)
      refine ret_cell (p := 4) (ty := 48) Tryz.plT (by kernel_rfl) w.heap.size 48 #[.slice (some ⟨g, 0, none⟩) 3 c, .slice A5 2 c5] (by rfl) hst.1 rfl rfl ?_
      exact ⟨_, rfl, ⟨⟨some ⟨g, 0, none⟩, 3, c, A5, 2, c5, _, l5⟩, rfl, ⟨by dsimp only; omega, by dsimp only; omega, hga.recs, fun a ha => (hga.2.1 a ha).ok, (H5z.out.grown hst.2.1 (fun g e => by injection e with e; omega)).lowerP (by omega)⟩, by dsimp only; omega, by dsimp only; omega⟩, (HS.out.grown hst.2.1 (fun g e => by injection e with e; omega)).mono (by omega), gr_trans HG.out hst.2.1 (fun g e => .inr (by injection e with e; omega))⟩
end Go.Proofs.YtpjheibkacbbcaaGreatDoor

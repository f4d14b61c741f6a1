/- The law TopQueueOpens: agents whose time is a turn of hours answer nobody while it is closed. Conditions: none beside the row's own. -/
import Derived.Test.YtelpakmiciilgaaGreatDoorBun2
import Derived.Test.YtelpakmiciilgaaGreatDoorTie
import Derived.Test.YtelpakmiciilgaaGreatDoorCards
import Derived.ChangeKeysEq
import Derived.ProofKit
import Derived.Lay
import Derived.OpenShut
import Derived.Stop.Joined
import Derived.SevenTiedAt
import Derived.LaidMore
import Derived.MakeChecks
import Derived.LaidHandle
import Derived.Lib.LaidTab
import Derived.Shelf.Vars
import Derived.Deep.CutBlock
import Derived.Deep.RegionHeld3
import Derived.Test.YtelpakmiciilgaaGreatDoorTq1
import Derived.Test.YtelpakmiciilgaaGreatDoorBun7
import Derived.Test.YtelpakmiciilgaaGreatDoorBun5
import Derived.Test.YtelpakmiciilgaaGreatDoorBun4
import Derived.Test.YtelpakmiciilgaaGreatDoorBun8
namespace Go.Proofs.YtelpakmiciilgaaGreatDoor
open Go.ChangeShapes Go.WideShapes Go.ChangeAt Go.RowKit

theorem two_cells {w : World} {lo g n c : Nat} {t0 t1 : Int} {r : List Int} (h : Recs nrow 1 w lo (some ⟨g, 0, none⟩) n c (t0 :: t1 :: r)) : w.cell? ⟨g, 0, none⟩ = some (.int .i64 t0) ∧ w.cell? ⟨g, 1, none⟩ = some (.int .i64 t1) :=
  ⟨by simpa using h.at_ nrow_len (i := 0) (a := t0) rfl 0 _ rfl, by simpa using h.at_ nrow_len (i := 1) (a := t1) rfl 0 _ rfl⟩
theorem len_two {l : List Int} (h : 2 ≤ l.length) : ∃ t0 t1 r, l = t0 :: t1 :: r := by
  match l, h with
  | t0 :: t1 :: r, _ => exact ⟨t0, t1, r, rfl⟩
set_option maxRecDepth 100000 in
set_option maxHeartbeats 8000000 in
theorem walk_TopQueueOpens (a0 : Option Addr) (len cap : Nat) (zs : List Int) (W : World) (h : IsRow .i64 W a0 len cap zs) (ht : DbT W) :
    Calls Tryz.prog 3 #[.slice a0 len cap] W (fun e w' => e = .returned (.bool true) ∧ Below W.heap.size W w') := by
  have hs := str_new h
  have hpos := ht.pos
  obtain ⟨sb, hsb⟩ : ∃ sb, W.heap.size = sb := ⟨_, rfl⟩
  have HG := Lib.hid (show W.grownBy (W.alloc (.cells #[.slice a0 len cap, .int .i64 0] 25)) (some sb) from gr_alloc (gr_refl _ _) _)
  have HT := Lib.hid (ht.grown HG.out (by rw [← hsb]; intro e; injection e with e; omega))
  rw [hsb] at hs
  have hlt := hs.lt
  have HS := Lib.hid hs
  have HSB := Lib.hid hsb
  have hne : (some sb) ≠ some 0 := by rw [← hsb]; intro e; injection e with e; omega
  have HNE := Lib.hid hne
  clear h hs ht hne
  go_enter Tryz.func3, Tryz.ntmps3
  go_wp2_with fail
  refine (rightHours_ok sb 0 _ HS.out (by omega)).mono ?_
  rintro e w1 ⟨v1, rfl, ⟨A, c, l, rfl, hhrs, hbd, hrr⟩, hs1, hg1⟩
  obtain ⟨lo, hlo⟩ : ∃ lo, (W.alloc (.cells #[.slice a0 len cap, .int .i64 0] 25)).heap.size = lo := ⟨_, rfl⟩
  rw [hlo] at hhrs
  have zlo : sb < lo := by have := HS.out.lt; omega
  have z1 := hg1.size
  rw [hlo] at z1
  obtain ⟨g, o_, a, rfl, _, hgl, hz, hc⟩ := hhrs.hrs.1.get HrV.row_len (show 0 < 2 by omega)
  have HO := Lib.hid (hhrs.hrs.2 a (mem_of_get hz))
  have HE := Lib.hid ((hrr a (mem_of_get hz)).e (hbd a (mem_of_get hz)).1 (hbd a (mem_of_get hz)).2)
  have HC := Lib.hid hc
  replace HT := Lib.hid (HT.out.grown hg1 HNE.out)
  replace HG := Lib.hid (gr_same HG.out hg1)
  replace HS := Lib.hid hs1
  clear hs1 hg1 hhrs hlo hz hc hbd hrr
  go_upto_region 3 with (first
    | (refine wpl_load_at Tryz.hrT rfl _ rfl _ rfl [.string a.key, .int .i64 a.zone, .slice a.rA a.rn a.rc, .slice a.hA a.hn a.hc] rfl (fun j u hu => by rw [add_mk]; exact (by simpa using HC.out j u hu)) ?_)
    | fail)
  obtain ⟨w2, hw2⟩ : ∃ w2, w1.alloc (.cells #[.string a.key, .int .i64 a.zone, .slice a.rA a.rn a.rc, .slice a.hA a.hn a.hc] 29) = w2 := ⟨_, rfl⟩
  rw [hw2]
  obtain ⟨hb, hhb⟩ : ∃ hb, w1.heap.size = hb := ⟨_, rfl⟩
  rw [hhb]
  have HH := Lib.hid (show Blk w2 hb 29 #[.string a.key, .int .i64 a.zone, .slice a.rA a.rn a.rc, .slice a.hA a.hn a.hc] by rw [← hw2, ← hhb]; exact Blk.new _ _ _)
  have hg2 : w1.grownBy w2 none := by rw [← hw2]; exact gr_alloc (gr_refl _ _) _
  have z2 := hg2.size
  have zhb : sb < hb := by omega
  replace HO := Lib.hid (HO.out.grown hg2 (fun g e => by cases e))
  replace HT := Lib.hid (HT.out.grown hg2 (by simp))
  replace HG := Lib.hid (gr_none HG.out hg2)
  replace HS := Lib.hid (HS.out.grown hg2 (fun g e => by cases e))
  have zhl : hb < w2.heap.size := HH.out.lt
  clear hw2 hhb hg2 HC hgl
  go_upto_region 4 with (fail)
  obtain ⟨w3, hw3⟩ : ∃ w3, w2.alloc (.cells #[.int .i64 0, .int .i64 172800000] 33) = w3 := ⟨_, rfl⟩
  rw [hw3]
  obtain ⟨wb, hwb⟩ : ∃ wb, w2.heap.size = wb := ⟨_, rfl⟩
  rw [hwb]
  have HW := Lib.hid (show Blk w3 wb 33 #[.int .i64 0, .int .i64 172800000] by rw [← hw3, ← hwb]; exact Blk.new _ _ _)
  have hg3 : w2.grownBy w3 none := by rw [← hw3]; exact gr_alloc (gr_refl _ _) _
  replace HH := Lib.hid (HH.out.grown hg3 (by simp))
  replace HO := Lib.hid (HO.out.grown hg3 (fun g e => by cases e))
  replace HT := Lib.hid (HT.out.grown hg3 (by simp))
  replace HG := Lib.hid (gr_none HG.out hg3)
  replace HS := Lib.hid (HS.out.grown hg3 (fun g e => by cases e))
  have z3 := hg3.size
  clear hw3 hg3
  go_wp2_with (first
    | (refine wpl_load_all Tryz.hrT rfl _ rfl _ rfl _ _ HH.out rfl ?_)
    | (refine wpl_load_all Tryz.wiT rfl _ rfl _ rfl _ _ HW.out rfl ?_)
    | fail)
  refine (Turns_any lo a 0 172800000 _ HO.out (by omega) (by omega) (by omega) (by omega)).mono ?_
  rintro e w4 ⟨tl, ⟨A7, n7, c7, rfl, hown, hg4⟩, htr, htn, htl⟩
  rw [turnE_w HE.out]
  have htr2 := htr (turnE_w HE.out)
  have hn7 : n7 ≤ 600000 := by rw [← hown.2]; exact htl
  have z4 := hg4.size
  replace HH := Lib.hid (HH.out.grown hg4 (by simp))
  replace HO := Lib.hid (HO.out.grown hg4 (fun g e => by cases e))
  replace HT := Lib.hid (HT.out.grown hg4 (by simp))
  replace HG := Lib.hid (gr_none HG.out hg4)
  replace HS := Lib.hid (HS.out.grown hg4 (fun g e => by cases e))
  clear hg4 htr htn htl HW
  by_cases h2 : n7 < 2
  · have d2 : decide ((n7 : Int) < 2) = true := decide_eq_true (by omega)
    clear hown htr2
    go_wp2_with fail
    refine (h10_true _ HT.out).mono ?_
    rintro e w9 ⟨rfl, hg9⟩
    have HGE := Lib.hid (gr_none HG.out hg9)
    clear hg9
    go_wp2_with fail
    go_ret
    refine ⟨rfl, ?_⟩
    have hfin := HGE.out
    rw [← HSB.out] at hfin
    exact below_of_gr hfin
  · have d2 : decide ((n7 : Int) < 2) = false := decide_eq_false (by omega)
    obtain ⟨g7, rfl, hg7, hg7'⟩ := hown.1.pos (by omega)
    have hl7 : 2 ≤ tl.length := by rw [hown.2]; omega
    obtain ⟨t0, t1, r7, rfl⟩ := len_two hl7
    obtain ⟨b0, b1, b2, hop⟩ := turn_two htr2
    have b2t : t0 ≤ 172800000 := by omega
    have HOP := Lib.hid hop
    have HOT := Lib.hid hown.recs
    have i0 : (0 : Int) < (n7 : Int) := by omega
    have i1 : (1 : Int) < (n7 : Int) := by omega
    have i0n : 0 < n7 := by omega
    have i1n : 1 < n7 := by omega
    clear hown htr2 hl7 hop
    go_upto_region 9 with (fail)
    refine H_begin (fun w' => w4.grownBy w' none) (by kernel_rfl) ?_
    have hHeld : w4.grownBy w4.drew none := gr_drew (gr_refl _ _)
    refine H_take (k := 0) (v := ?_) (by rfl) (by kernel_rfl) (by kernel_rfl) (by kernel_rfl) (by exact fun _ _ _ h => h) (by rfl) ?_ (by assumption) ?_
    rotate_left 1
    · intro w hSw
      (try dsimp only at hSw)
      go_simp
      (try with_reducible rfl)
    (try simp only [Act.put, List.setIfInBounds_toArray, List.set_cons_zero, List.set_cons_succ])
    refine H_take (k := 2) (v := ?_) (by rfl) (by kernel_rfl) (by kernel_rfl) (by kernel_rfl) (by exact fun _ _ _ h => h) (by rfl) ?_ (by assumption) ?_
    rotate_left 1
    · intro w hSw
      (try dsimp only at hSw)
      go_simp
      (try with_reducible rfl)
    (try simp only [Act.put, List.setIfInBounds_toArray, List.set_cons_zero, List.set_cons_succ])
    refine H_take (k := 3) (v := ?_) (by rfl) (by kernel_rfl) (by kernel_rfl) (by kernel_rfl) (by exact fun _ _ _ h => h) (by rfl) ?_ (by assumption) ?_
    rotate_left 1
    · intro w hSw
      (try dsimp only at hSw)
      go_simp
      (try with_reducible rfl)
    (try simp only [Act.put, List.setIfInBounds_toArray, List.set_cons_zero, List.set_cons_succ])
    refine H_take (k := 4) (v := ?_) (by rfl) (by kernel_rfl) (by kernel_rfl) (by kernel_rfl) (by exact fun _ _ _ h => h) (by rfl) ?_ (by assumption) ?_
    rotate_left 1
    · intro w' hSw
      have kc := (two_cells (HOT.out.grown hSw (fun g e => by cases e))).1
      go_simp
      (try with_reducible rfl)
    (try simp only [Act.put, List.setIfInBounds_toArray, List.set_cons_zero, List.set_cons_succ])
    refine H_take (k := 5) (v := ?_) (by rfl) (by kernel_rfl) (by kernel_rfl) (by kernel_rfl) (by exact fun _ _ _ h => h) (by rfl) ?_ (by assumption) ?_
    rotate_left 1
    · intro w hSw
      (try dsimp only at hSw)
      go_simp
      (try with_reducible rfl)
    (try simp only [Act.put, List.setIfInBounds_toArray, List.set_cons_zero, List.set_cons_succ])
    refine H_take (k := 6) (v := ?_) (by rfl) (by kernel_rfl) (by kernel_rfl) (by kernel_rfl) (by exact fun _ _ _ h => h) (by rfl) ?_ (by assumption) ?_
    rotate_left 1
    · intro w hSw
      (try dsimp only at hSw)
      go_simp
      (try with_reducible rfl)
    (try simp only [Act.put, List.setIfInBounds_toArray, List.set_cons_zero, List.set_cons_succ])
    refine H_take (k := 7) (v := ?_) (by rfl) (by kernel_rfl) (by kernel_rfl) (by kernel_rfl) (by exact fun _ _ _ h => h) (by rfl) ?_ (by assumption) ?_
    rotate_left 1
    · intro w' hSw
      have kc := (two_cells (HOT.out.grown hSw (fun g e => by cases e))).2
      go_simp
      (try with_reducible rfl)
    (try simp only [Act.put, List.setIfInBounds_toArray, List.set_cons_zero, List.set_cons_succ])
    refine H_take (k := 8) (v := ?_) (by rfl) (by kernel_rfl) (by kernel_rfl) (by kernel_rfl) (by exact fun _ _ _ h => h) (by rfl) ?_ (by assumption) ?_
    rotate_left 1
    · intro w hSw
      (try dsimp only at hSw)
      go_simp
      (try with_reducible rfl)
    (try simp only [Act.put, List.setIfInBounds_toArray, List.set_cons_zero, List.set_cons_succ])
    refine H_run (k := 1) (by rfl) (by kernel_rfl) (by rfl) (fun K hK => ?_)
    go_simp
    have hh1 := gr_alloc hHeld (.cells #[.string ⟨#[104, 101, 108, 112]⟩, .int .i64 5] 39)
    refine hK _ (w4.drew.alloc (.cells #[.string ⟨#[104, 101, 108, 112]⟩, .int .i64 5] 39)) hh1 ?_
    clear hK K hHeld
    obtain ⟨wk, hwk⟩ : ∃ wk, w4.drew.alloc (.cells #[.string ⟨#[104, 101, 108, 112]⟩, .int .i64 5] 39) = wk := ⟨_, rfl⟩
    rw [hwk] at hh1 ⊢
    obtain ⟨kb, hkb⟩ : ∃ kb, w4.heap.size = kb := ⟨_, rfl⟩
    (try rw [hkb])
    have HSK := Lib.hid (show Blk wk kb 39 #[.string ⟨#[104, 101, 108, 112]⟩, .int .i64 5] by rw [← hwk, ← hkb]; exact Blk.new _ _ _)
    have hHeld := hh1
    refine H_take (k := 9) (v := ?_) (by rfl) (by kernel_rfl) (by kernel_rfl) (by kernel_rfl) (by exact fun _ _ _ h => h) (by rfl) ?_ (by assumption) ?_
    rotate_left 1
    · intro w hSw
      (try dsimp only at hSw)
      go_simp
      (try with_reducible rfl)
    (try simp only [Act.put, List.setIfInBounds_toArray, List.set_cons_zero, List.set_cons_succ])
    refine H_run (k := 10) (by rfl) (by kernel_rfl) (by rfl) (fun K hK => ?_)
    go_simp
    have hh2 := gr_alloc hh1 (.cells #[.string ⟨#[97, 97]⟩, .slice (some ⟨kb, 0, none⟩) 1 1, .int .i64 t0, .int .i64 t1, .slice none 0 0, .int .i64 0] 43)
    refine hK _ (wk.alloc (.cells #[.string ⟨#[97, 97]⟩, .slice (some ⟨kb, 0, none⟩) 1 1, .int .i64 t0, .int .i64 t1, .slice none 0 0, .int .i64 0] 43)) hh2 ?_
    clear hK K hHeld
    have hHeld := hh2
    obtain ⟨w5, hw5⟩ : ∃ w5, wk.alloc (.cells #[.string ⟨#[97, 97]⟩, .slice (some ⟨kb, 0, none⟩) 1 1, .int .i64 t0, .int .i64 t1, .slice none 0 0, .int .i64 0] 43) = w5 := ⟨_, rfl⟩
    rw [hw5] at hh2 hHeld ⊢
    obtain ⟨ab, hab⟩ : ∃ ab, wk.heap.size = ab := ⟨_, rfl⟩
    (try rw [hab])
    refine H_take (k := 11) (v := ?_) (by rfl) (by kernel_rfl) (by kernel_rfl) (by kernel_rfl) (by exact fun _ _ _ h => h) (by rfl) ?_ (by assumption) ?_
    rotate_left 1
    · intro w hSw
      (try dsimp only at hSw)
      go_simp
      (try with_reducible rfl)
    (try simp only [Act.put, List.setIfInBounds_toArray, List.set_cons_zero, List.set_cons_succ])
    refine H_done (by kernel_rfl) ?_
    have zk := hh1.size
    have zkb : w4.heap.size ≤ kb := by rw [← hkb]; exact Nat.le_refl _
    have hag : Ags w5 w4.heap.size (some ⟨ab, 0, none⟩) 1 1 [tqA (some ⟨kb, 0, none⟩) t0 t1] := by
      have hg5 : wk.grownBy w5 none := by rw [← hw5]; exact gr_alloc (gr_refl _ _) _
      have hB : Blk w5 ab 43 #[.string ⟨#[97, 97]⟩, .slice (some ⟨kb, 0, none⟩) 1 1, .int .i64 t0, .int .i64 t1, .slice none 0 0, .int .i64 0] := by rw [← hw5, ← hab]; exact Blk.new _ _ _
      refine ⟨⟨(Reads.blk hB 6 1 rfl).lower (by omega), rfl⟩, fun x hx => ?_⟩
      rw [List.mem_singleton.1 hx]
      exact ⟨⟨by show 2 ≤ 1000; omega, fun s hs => by rw [List.mem_singleton.1 hs]; show 4 ≤ 1000; omega, by show 1 ≤ 1000; omega, Nat.zero_le _⟩, ⟨(Reads.blk (HSK.out.grown hg5 (by simp)) 2 1 rfl).lower zkb, rfl⟩, Recs.nil⟩
    have HAG := Lib.hid hag
    have z5 := hh2.size
    replace HOT := Lib.hid (HOT.out.grown hh2 (fun g e => by cases e))
    replace HH := Lib.hid (HH.out.grown hh2 (by simp))
    replace HO := Lib.hid (HO.out.grown hh2 (fun g e => by cases e))
    replace HT := Lib.hid (HT.out.grown hh2 (by simp))
    replace HG := Lib.hid (gr_none HG.out hh2)
    replace HS := Lib.hid (HS.out.grown hh2 (fun g e => by cases e))
    obtain ⟨lo4, hlo4⟩ : ∃ lo4, w4.heap.size = lo4 := ⟨_, rfl⟩
    rw [hlo4] at HAG z4 z5 hg7'
    clear hh1 hh2 hHeld hw5 hwk hkb hab HSK zk zkb hag hlo4 h2
    go_wp2_with fail
    refine (range_any sb _ 1 5 _ HS.out (by omega) (by omega) (by omega) (by omega)).mono ?_
    rintro e w6 ⟨v6, rfl, ⟨r6, hlo6, hhi6, rfl⟩, hs6, hg6⟩
    have z6 := hg6.size
    replace HAG := Lib.hid (HAG.out.grown hg6 (fun g e => by injection e with e; omega))
    replace HOT := Lib.hid (HOT.out.grown hg6 (fun g e => by injection e with e; omega))
    replace HH := Lib.hid (HH.out.grown hg6 (by simp; omega))
    replace HO := Lib.hid (HO.out.grown hg6 (fun g e => by injection e with e; omega))
    replace HT := Lib.hid (HT.out.grown hg6 HNE.out)
    replace HG := Lib.hid (gr_same HG.out hg6)
    replace HS := Lib.hid hs6
    clear hs6 hg6
    obtain ⟨nn, rfl⟩ : ∃ nn : Nat, r6 = nn := ⟨r6.toNat, by omega⟩
    obtain ⟨lo6, hlo6'⟩ : ∃ lo6, w6.heap.size = lo6 := ⟨_, rfl⟩
    have HG0 := Lib.hid HG.out
    go_wp2_with fail
    go_loopw [9, 10, 50] (fun v _ t wr => ∃ (k : Nat) (A : Option Addr) (c : Nat) (l : List CaV), k ≤ nn ∧ t = .int .i64 k ∧ v = .slice A k c ∧ Str wr sb (130 + 4 * k) ∧ w6.grownBy wr (some sb) ∧ OwnR CaV.row 8 wr lo6 49 A k c l ∧ ∀ j x, l[j]? = some x → CalG t0 j x) (fun _ _ t _ => nn - (intOf t).toNat)
    case atStart => exact ⟨0, none, 0, [], Nat.zero_le _, rfl, rfl, HS.out.mono (by omega), gr_refl _ _, OwnR.nil _ _ _, fun j x hx => by simp at hx⟩
    case round =>
      clear HS HG
      obtain ⟨k, A, c, l, hk, rfl, rfl, hs, hg, hca, hcg⟩ := hrel
      have HS := Lib.hid hs; have HG := Lib.hid hg; have HC := Lib.hid hca; have HCG := Lib.hid hcg
      have zr := hg.size
      rw [hlo6'] at zr
      clear hs hg hca hcg
      by_cases hlt2 : k < nn
      · have hkn : decide ((k : Int) < (nn : Int)) = true := decide_eq_true (by omega)
        have ct0 := (two_cells (HOT.out.grown HG.out (fun g e => by injection e with e; omega))).1
        obtain ⟨cc, hcc⟩ : ∃ cc : ByteArray, (⟨#[99]⟩ : ByteArray) = cc := ⟨_, rfl⟩
        have hccs : cc.size ≤ 1 := by rw [← hcc]; decide
        obtain ⟨en, hen⟩ : ∃ en, Utf8.encode (97 + (k : Int)) = en := ⟨_, rfl⟩
        have hens : en.size ≤ 4 := by rw [← hen]; exact encS _
        have a1 : ¬ 9223372036854775807 < cc.size + en.size := by omega
        obtain ⟨id, hid⟩ : ∃ id, cc ++ en = id := ⟨_, rfl⟩
        have hids : id.size ≤ 5 := by rw [← hid, appS]; omega
        have HID := Lib.hid (show nb id = [99, 97 + k] by rw [← hid, ← hcc, ← hen]; exact id_enc k (by omega))
        go_wp2_with fail
        refine (pick_new sb _ [0, t0] _ HS.out (by omega) (by simp) rfl rfl (by simp) (by simp)).mono ?_
        rintro e w11 ⟨v11, rfl, ⟨r11, hr11, rfl⟩, hs11, hg11⟩
        have hm11 : 0 ≤ r11 ∧ r11 ≤ t0 := by simp only [List.mem_cons, List.not_mem_nil, or_false] at hr11; omega
        clear hr11
        replace HC := Lib.hid (HC.out.low hg11 (fun g e => by injection e with e; omega))
        have z11 := hg11.size
        replace HG := Lib.hid (gr_same HG.out hg11)
        replace HS := Lib.hid hs11
        clear hs11 hg11
        clear hcc hen hid ct0
        go_wp2_with fail
        refine (pick_new sb _ [1, 60000] _ HS.out (by omega) (by simp) rfl rfl (by simp) (by simp)).mono ?_
        rintro e w12 ⟨v12, rfl, ⟨r12, hr12, rfl⟩, hs12, hg12⟩
        have hm12 : r12 = 1 ∨ r12 = 60000 := by simp only [List.mem_cons, List.not_mem_nil, or_false] at hr12; omega
        clear hr12
        replace HC := Lib.hid (HC.out.low hg12 (fun g e => by injection e with e; omega))
        have z12 := hg12.size
        replace HG := Lib.hid (gr_same HG.out hg12)
        replace HS := Lib.hid hs12
        clear hs12 hg12
        obtain ⟨q12, hq12⟩ : ∃ q, (k : Int) * r12 = q := ⟨_, rfl⟩
        have hqb : 0 ≤ q12 ∧ q12 ≤ 240000 := by
          rcases hm12 with e | e
          · rw [e] at hq12; omega
          · rw [e] at hq12; omega
        have hq13 : r11 + q12 ≤ t0 + 240000 := by omega
        have hq14 : 0 ≤ r11 + q12 := by omega
        clear hm12
        go_wp2_with fail
        refine (pick_new sb _ [1000, 86400000] _ HS.out (by omega) (by simp) rfl rfl (by simp) (by simp)).mono ?_
        rintro e w13 ⟨v13, rfl, ⟨r13, hr13, rfl⟩, hs13, hg13⟩
        have hm13 : 1000 ≤ r13 ∧ r13 ≤ 86400000 := by simp only [List.mem_cons, List.not_mem_nil, or_false] at hr13; omega
        clear hr13
        replace HC := Lib.hid (HC.out.low hg13 (fun g e => by injection e with e; omega))
        have z13 := hg13.size
        replace HG := Lib.hid (gr_same HG.out hg13)
        replace HS := Lib.hid hs13
        clear hs13 hg13
        go_wp2_with fail
        refine (pick_new sb _ [1000, 600000] _ HS.out (by omega) (by simp) rfl rfl (by simp) (by simp)).mono ?_
        rintro e w14 ⟨v14, rfl, ⟨r14, hr14, rfl⟩, hs14, hg14⟩
        have hm14 : 1000 ≤ r14 ∧ r14 ≤ 600000 := by simp only [List.mem_cons, List.not_mem_nil, or_false] at hr14; omega
        clear hr14
        replace HC := Lib.hid (HC.out.low hg14 (fun g e => by injection e with e; omega))
        have z14 := hg14.size
        replace HG := Lib.hid (gr_same HG.out hg14)
        replace HS := Lib.hid hs14
        clear hs14 hg14
        go_wp2_with (first
          | (at_builtin
             refine wpl_app _ rfl _ _ Tryz.casT rfl lo6 A k c _ rfl (by exact HC.out.1.alloc _) _ _ 1 1 [.string id, .string ⟨#[104, 101, 108, 112]⟩, .int .i64 (r11 + q12), .int .i64 1, .int .i64 0, .int .i64 r13, .int .i64 r14, .bool false] rfl (by exact Reads.one _ _ _ _ rfl) (by simp [Value.oneCell']) (by unfold maxLen; omega) (by omega) (by simp; omega) ?_
             intro A9 c9 w9 h9
             have H9 := Lib.hid h9; clear h9)
          | fail)
        go_roundw
        case rel =>
          refine ⟨k + 1, A9, c9, l ++ [⟨id, ⟨#[104, 101, 108, 112]⟩, r11 + q12, 1, 0, r13, r14, false⟩], by omega, by go_num, rfl, ((HS.out.alloc _).grown H9.out.2.1 (fun g e => by have := (HC.out.1.lt e).1; omega)).mono (by omega), H9.out.gr (gr_alloc HG.out _) (HC.out.1.alloc _) (by omega), (HC.out.alloc _).app rfl H9.out, fun j x hx => ?_⟩
          by_cases hj : j < l.length
          · rw [List.getElem?_append_left hj] at hx
            exact HCG.out j x hx
          · have hjl : j = l.length := by
              have := (List.getElem?_eq_some_iff.1 hx).1
              rw [List.length_append, List.length_singleton] at this
              omega
            subst hjl
            rw [List.getElem?_append_right (Nat.le_refl _), Nat.sub_self] at hx
            obtain rfl := Option.some.inj hx
            have hkl : l.length = k := HC.out.2
            rw [hkl]
            exact ⟨⟨HID.out, by omega⟩, rfl, ⟨hq14, hq13⟩, rfl, rfl, hm13, hm14⟩
        case measure => simp [intOf]; omega
      · obtain rfl : k = nn := by omega
        have hkn : decide ((k : Int) < (k : Int)) = false := decide_eq_false (by omega)
        clear hlt2
        go_wp2_with fail
        have hco : ∀ x ∈ l, CoOk x := fun x hx => by
          obtain ⟨j, hj⟩ := List.mem_iff_getElem?.1 hx
          exact (HCG.out j x hj).ok b2t
        refine (sortStableC_any lo6 A k c l _ ⟨HC.out, hco⟩ (by omega)).mono ?_
        rintro e w15 ⟨rfl, l2, hown2, hg15, hp2, hs2⟩
        have hgl := gr_trans HG.out hg15 (fun g e => .inr (by have := (HC.out.1.lt e).1; omega))
        have hc0 : casE l2 = 0 := casE_srt HCG.out (by rw [HC.out.2]; omega) b2t hp2 hs2
        obtain rfl : l2.length = k := hown2.1.2
        have HCC := Lib.hid (show Cas w15 lo6 A l2.length c l2 from ⟨hown2.1.recs, fun x hx => (hown2.2 x hx).1⟩)
        have HPC := Lib.hid (tq_pch (sA := some ⟨kb, 0, none⟩) b0 (Int.le_of_lt b1) (show t1 ≤ 345686400000 by omega) hc0)
        have z15 := hgl.size
        replace HAG := Lib.hid (HAG.out.grown hgl (fun g e => by injection e with e; omega))
        replace HH := Lib.hid (HH.out.grown hgl (by simp; omega))
        replace HO := Lib.hid (HO.out.grown hgl (fun g e => by injection e with e; omega))
        replace HT := Lib.hid (HT.out.grown hgl HNE.out)
        replace HG := Lib.hid (gr_same HG0.out hgl)
        clear hgl hg15 hown2 hp2 hs2 hc0 HC HCG HG0 HOT HS hco
        go_wp2_with fail
        refine (Play_any lo4 lo6 ⟨1, 0, 0⟩ (some ⟨ab, 0, none⟩) 1 [tqA (some ⟨kb, 0, none⟩) t0 t1] A c l2 _ HAG.out HCC.out (by show 1 ≤ 1000; omega) (by omega)).mono ?_
        rintro e w16 ⟨hg16, hcase⟩
        obtain ⟨B, m, c16, rfl, hown⟩ : ∃ B m c, e = .returned (.tuple #[.slice B m c, .int .i64 0]) ∧ OwnR SeV.row 5 w16 w15.heap.size 58 B m c (playOf ⟨1, 0, 0⟩ [tqA (some ⟨kb, 0, none⟩) t0 t1] l2).se := by
          rcases hcase with ⟨hne, _⟩ | ⟨_, B, m, c, h1, h2⟩
          · exact absurd HPC.out hne
          · exact ⟨B, m, c, h1, h2⟩
        obtain ⟨L, hL⟩ : ∃ L, (playOf ⟨1, 0, 0⟩ [tqA (some ⟨kb, 0, none⟩) t0 t1] l2).se = L := ⟨_, rfl⟩
        have HTH := Lib.hid (show ∀ z ∈ L, z.ag.toList = [] ∨ (t0 ≤ z.beg ∧ z.beg < t1) from fun z hz => by
          rcases playOf_there z (by rw [hL]; exact hz) with q | ⟨x, hx, q⟩
          · exact .inl q
          · rw [List.mem_singleton.1 hx] at q; exact .inr q)
        rw [hL] at hown
        have hm16 : m ≤ 1000000 := by
          obtain ⟨_, han, hcn⟩ := pch_right HAG.out HCC.out.2 HPC.out
          have h1 := (playOf_ok (s := ⟨1, 0, 0⟩) hcn han).s
          rw [hL] at h1
          have h2 := hown.2
          omega
        have HSE := Lib.hid hown.recs
        have z16 := hg16.size
        replace HH := Lib.hid (HH.out.grown hg16 (by simp))
        replace HO := Lib.hid (HO.out.grown hg16 (fun g e => by cases e))
        replace HT := Lib.hid (HT.out.grown hg16 (by simp))
        replace HG := Lib.hid (gr_none HG.out hg16)
        clear hg16 hcase hown hL HAG HCC HPC
        go_wp2_with fail
        go_loopw [14, 15, 16, 94] (fun _ _ _ t wr => ∃ i : Nat, i ≤ m ∧ t = .int .i64 i ∧ w16.grownBy wr none) (fun _ _ _ t _ => m - (intOf t).toNat)
        case atStart => exact ⟨0, Nat.zero_le _, rfl, gr_refl _ _⟩
        case round =>
          obtain ⟨i, hi, rfl, hg⟩ := hrel
          have HGR := Lib.hid hg
          clear hg
          by_cases hlt3 : i < m
          · have hin : decide ((i : Int) < (m : Int)) = true := decide_eq_true (by omega)
            have hin2 : (i : Int) < (m : Int) := by omega
            obtain ⟨gs, os, z, rfl, _, hgs, hz, hc⟩ := (HSE.out.grown HGR.out (fun g e => by cases e)).get SeV.row_len hlt3
            have HZ := Lib.hid (HTH.out z (mem_of_get hz))
            have HCZ := Lib.hid hc
            clear hz hc
            go_upto_region 23 with (first
              | (refine wpl_load_at Tryz.seT rfl _ rfl _ rfl [.string z.ca, .string z.ag, .int .i64 z.how, .int .i64 z.beg, .int .i64 z.fin] rfl (fun j u hu => by rw [add_mk]; exact HCZ.out j u hu) ?_)
              | fail)
            obtain ⟨w17, hw17⟩ : ∃ w17, wr.alloc (.cells #[.string z.ca, .string z.ag, .int .i64 z.how, .int .i64 z.beg, .int .i64 z.fin] 58) = w17 := ⟨_, rfl⟩
            rw [hw17]
            obtain ⟨zb, hzb⟩ : ∃ zb, wr.heap.size = zb := ⟨_, rfl⟩
            (try rw [hzb])
            have HZB := Lib.hid (show Blk w17 zb 58 #[.string z.ca, .string z.ag, .int .i64 z.how, .int .i64 z.beg, .int .i64 z.fin] by rw [← hw17, ← hzb]; exact Blk.new _ _ _)
            have hg17 : wr.grownBy w17 none := by rw [← hw17]; exact gr_alloc (gr_refl _ _) _
            have HG17 := Lib.hid (gr_none HGR.out hg17)
            have cz1 := HZB.out.cell 1
            have cz3 := HZB.out.cell 3
            clear hw17 hzb hg17 HCZ
            by_cases hag : z.ag.toList = []
            · go_wp2_with fail
              go_roundw
              case rel => exact ⟨i + 1, by omega, by go_num, HG17.out⟩
              case measure => simp [intOf]; omega
            · have hzt : t0 ≤ z.beg ∧ z.beg < t1 := HZ.out.resolve_left hag
              have hae : (z.ag.toList == []) = false := by rw [beq_eq_false_iff_ne]; exact hag
              have hor := openR_t HE.out (show 0 ≤ z.beg by omega) (by omega) (HOP.out z.beg hzt.1 hzt.2)
              have HOR := Lib.hid hor
              clear hor
              go_wp2_with (first
                | (refine wpl_load_all Tryz.hrT rfl _ rfl _ rfl _ _ (HH.out.grown HG17.out (by simp)) rfl ?_)
                | fail)
              refine (Open_any lo a z.beg _ (HO.out.grown HG17.out (fun g e => by cases e))).mono ?_
              rintro e w18 ⟨rfl, hg18⟩
              rw [HOR.out]
              have HG18 := Lib.hid (gr_none HG17.out hg18)
              clear hg18 cz1 cz3
              go_wp2_with fail
              go_roundw
              case rel => exact ⟨i + 1, by omega, by go_num, HG18.out⟩
              case measure => simp [intOf]; omega
          · obtain rfl : i = m := by omega
            have hin : decide ((i : Int) < (i : Int)) = false := decide_eq_false (by omega)
            replace HT := Lib.hid (HT.out.grown HGR.out (by simp))
            replace HG := Lib.hid (gr_none HG.out HGR.out)
            clear hlt3
            go_wp2_with fail
            refine (h10_true _ HT.out).mono ?_
            rintro e w20 ⟨rfl, hg20⟩
            have HGE := Lib.hid (gr_none HG.out hg20)
            clear hg20
            go_wp2_with fail
            go_ret
            refine ⟨rfl, ?_⟩
            have hfin := HGE.out
            rw [← HSB.out] at hfin
            exact below_of_gr hfin
theorem gDbTq : Tryz.prog.globalNamed "math/bits.deBruijn32tab" = some 0 := by kernel_rfl
theorem met_TopQueueOpens {W : World} (h : laidMetH Tryz.prog Rows.topQueueOpensRow.laid W) : DbT W := by
  rw [MakeChecks.laidMetH_plain _ _ _ (by kernel_rfl)] at h
  obtain ⟨ps, ⟨g0, t0, cs0, f0, p0, q0, hg0, ht0, hv0, hd0, _⟩, _, _⟩ := h
  obtain rfl := Option.some.inj (gDbTq.symm.trans hg0)
  obtain rfl := Option.some.inj (tDb.symm.trans ht0)
  intro i hi
  rw [World.var?_cell hg0 hv0 i]
  have := tab_cells (l := dbTab) Tryz.underlying149 Tryz.underlying5 (by kernel_rfl) hd0 i hi
  simpa using this

theorem own_TopQueueOpens : ownKnob Tryz.prog.godebug = none := by kernel_rfl
theorem laidOut_TopQueueOpens : laidOutB Tryz.prog = true := by kernel_rfl
set_option maxRecDepth 100000 in
theorem lifted_TopQueueOpens (os : Os) (started : os.Started) (H : Type) (enc : TypeId × Value → H) :
    ReturnsInHanded {} Tryz.checked os 3 .any (fun w args => (Rows.topQueueOpensSpec.pre enc Tryz.prog Tryz.f3 [] false w args ∧ laidMetH Tryz.prog Rows.topQueueOpensRow.laid w) ∧ sizedMet enc Tryz.prog Tryz.f3 (OpenSpec.ofChange Rows.topQueueOpensSpec) false w args) (Rows.topQueueOpensSpec.post enc Tryz.prog Tryz.f3 false true false false) := by
  refine returnsInHanded_of_change_and (C := Tryz.checked) (X := fun w _ => laidMetH Tryz.prog Rows.topQueueOpensRow.laid w) (fun _ _ _ hh h => h.of_heap hh) own_TopQueueOpens started (by kernel_rfl) Tryz.func3
    (ChangeSpec.witness_shaped (enc := enc) (C := Tryz.checked) (os := os) (X := fun w _ => laidMetH Tryz.prog Rows.topQueueOpensRow.laid w) false (World.laidAll Tryz.prog os Rows.topQueueOpensRow.laid) #[.slice none 0 0] 8 (World.laidAll_os _ _ _) (World.shaped_of_ZipB (by kernel_rfl) (by kernel_rfl)) (by kernel_rfl) (by kernel_rfl) (by kernel_rfl)
      (by rw [MakeChecks.laidMetH_plain _ _ _ (by kernel_rfl)]; exact laidMet_laidAll _ (by kernel_rfl) (by kernel_rfl))) ?_
  intro W base args ds gs before hval0 hW _ _ hL _
  have hval : ∀ (j : Nat) t v, Tryz.f3.params[j]? = some t → args[j]? = some v → Value.okWide Tryz.prog W .any base t v := hval0
  have hW' := hW
  obtain ⟨p, q, hA0, hV, rfl, hfz, hnd⟩ := hW
  have hA : DataW.TrodAll enc Tryz.prog W 0 (fun _ => true) true Tryz.f3.params.toList args.toList ds p := hA0
  rw [Tryz.params3] at hA hval
  obtain ⟨v0, vs0, d0, ds0, p0, q0, hargs, rfl, rfl, h0, r0⟩ := trodAll_cons hA
  obtain ⟨rfl, rfl, rfl⟩ := trodAll_nil r0
  obtain rfl : args = #[v0] := by cases args; simp_all
  obtain ⟨rfl, rfl⟩ := trodVars_none hV
  obtain ⟨a0, len0, cap0, rfl⟩ := okWide_slice Tryz.underlying22 (hval 0 22 v0 rfl rfl)
  have k0 := h0
  have lt0 : ∀ x ∈ p0, x.block < W.heap.size := by obtain ⟨m, hm⟩ := k0; exact DataW.trod_lt m _ _ _ hm
  obtain ⟨z0, w0⟩ : ∃ zs, IsRow .i64 W a0 len0 cap0 zs := by
    obtain ⟨fuel, hf⟩ := h0
    rcases open_ints Tryz.underlying22 Tryz.underlying3 (by kernel_rfl) hf with ⟨hcs, _⟩ | ⟨x, l, c, zs, hcs, _, hl, hm, hz, _, hcell, hwz⟩
    · simp [Value.cells] at hcs
      obtain ⟨rfl, rfl, rfl⟩ := hcs
      exact ⟨[], .inl ⟨rfl, rfl, rfl, rfl⟩⟩
    · simp [Value.cells] at hcs
      obtain ⟨rfl, rfl, rfl⟩ := hcs
      exact ⟨zs, .inr ⟨_, rfl, hl, hm, by simpa using hz, hcell, hwz⟩⟩
  clear hA0 hval0
  refine (walk_TopQueueOpens a0 len0 cap0 z0 W w0 (met_TopQueueOpens hL)).mono fun e W' ⟨he, bel⟩ => ?_
  subst he
  exact ⟨_, rfl, _, _, _, [], _, [], hW', trodAll_mk1 (shut_bool Tryz.underlying4 _), (trodAll_cons_mk (Below.trod laidOut_TopQueueOpens (by kernel_rfl) (of_decide_eq_true (by kernel_rfl)) k0 bel lt0) trodAll_mk0), rfl, bel.frame _, fun h => by cases h⟩

theorem over_TopQueueOpens : Rows.topQueueOpensRow.holds Tryz.pinned (OpenSpec.ofChange Rows.topQueueOpensSpec) :=
  OpenClaim.holds_of_wide 3 Tryz.f3 rfl rfl rfl rfl rfl rfl rfl ⟨rfl, rfl, rfl, rfl, rfl⟩ rfl rfl rfl rfl rfl (by kernel_rfl) Tryz.func3 (by kernel_rfl)
    (of_decide_eq_true (by kernel_rfl)) (by unfold Func.isWrapper; first | (rw [if_pos (by decide +kernel)]; kernel_rfl) | (rw [if_neg (by decide +kernel)]; exact ⟨rfl, rfl⟩))
    (fun os started H enc _ => lifted_TopQueueOpens os started H enc)

theorem proved_TopQueueOpens : Rows.TopQueueOpensCardSaid :=
  Claim7.holds_tied_plain_at .later [] [.data, .data, .pinned] true Rows.topQueueOpensCard.stood.harness false
    over_TopQueueOpens (fun _ h => by cases h) (by kernel_rfl) (fun _ h => by cases h) topQueueOpens_row_tie rfl ⟨rfl, rfl⟩ (by kernel_rfl) rfl
    (fun f fn hf hfn => by
      obtain rfl : f = 3 := Option.some.inj ((show Tryz.prog.funcNamed Rows.topQueueOpensRow.func = some 3 by kernel_rfl).symm.trans hf) |>.symm
      obtain rfl : fn = Tryz.f3 := (Option.some.inj (Tryz.func3.symm.trans hfn)).symm
      exact ⟨by kernel_rfl, fun j t ht => by
        rw [Tryz.params3] at ht
        have h3 : t = 22 := by
          rcases j with _ | j
          · simpa using ht.symm
          · simp at ht
        subst h3
        exact (show Tryz.prog.wantsStandIn 22 = false by kernel_rfl)⟩)
    (by kernel_rfl)
end Go.Proofs.YtelpakmiciilgaaGreatDoor


/- Contracts of the generators of forwards and of states. Conditions: none. -/
import Derived.Test.YtpjheibkacbbcaaGreatDoorCfS
import Derived.Test.YtpjheibkacbbcaaGreatDoorCf4
import Derived.Test.YtpjheibkacbbcaaGreatDoorBun7
import Derived.Test.YtpjheibkacbbcaaGreatDoorBun2
import Derived.Test.YtpjheibkacbbcaaGreatDoorBun1
import Derived.Laws.EntriesVeiled
namespace Go.Proofs.YtpjheibkacbbcaaGreatDoor
open Go.RowKit

theorem Tryz.fwsT : ElemT Tryz.prog 50 114 4 56 (.agg #[.string ⟨#[]⟩, .int .i64 0, .string ⟨#[]⟩, .string ⟨#[]⟩]) := elemT_of Tryz.underlying50 (by kernel_rfl) rfl (by decide)
theorem Tryz.prsT : ElemT Tryz.prog 72 186 2 32 (.agg #[.string ⟨#[]⟩, .string ⟨#[]⟩]) := elemT_of Tryz.underlying72 (by kernel_rfl) rfl (by decide)
theorem OwnFw.low {w w' : World} {lo n c : Nat} {A : Option Addr} {l : List FwV} {r : Option Nat} (h : OwnFw w lo A n c l) (hg : w.grownBy w' r) (hr : ∀ g, r = some g → g < lo) : OwnFw w' lo A n c l := ⟨h.1.low hg hr, h.2⟩
set_option maxHeartbeats 4000000 in
theorem tidy_any (lo : Nat) (A : Option Addr) (n c : Nat) (l : List FwV) (w : World) (h : OwnFw w lo A n c l) (hn : n ≤ 19) :
    Calls Tryz.prog 60 #[.slice A n c] w (fun e w' => ∃ m l', e = .returned (.slice A m c) ∧ OwnFw w' lo A m c l' ∧ w.grownBy w' (blkOf A) ∧ m ≤ n) := by
  have H := Lib.hid h; clear h
  obtain ⟨tb, htb⟩ : ∃ b, w.heap.size = b := ⟨_, rfl⟩
  obtain ⟨w1, hw1⟩ : ∃ v, w.alloc (.cells #[.func (.func 137) #[] #[]] 220) = v := ⟨_, rfl⟩
  have HKT := Lib.hid (show Blk w1 tb 220 #[.func (.func 137) #[] #[]] by rw [← hw1, ← htb]; exact Blk.new _ _ _)
  have hg1 : w.grownBy w1 none := by rw [← hw1]; exact gr_alloc (gr_refl _ _) _
  have HTN := Lib.hid (show ∀ g, blkOf A = some g → g ≠ tb from fun g e => by have := (H.out.1.1.lt e).2; omega)
  have H1 := Lib.hid (show OwnFw w1 lo A n c l from ⟨H.out.1.kept hg1 (fun g e => by cases e), H.out.2⟩)
  have HG1 := Lib.hid hg1
  have HW1 := Lib.hid hw1; have HTB := Lib.hid htb
  clear hg1 hw1 htb
  go_enter Tryz.func60, Tryz.ntmps60
  go_upto_region 2 with (fail)
  rw [HW1.out]
  (try rw [HTB.out])
  clear HW1 HTB
  go_wp2_with fail
  refine (sortStableF_any lo A n c l _ H1.out hn tb HKT.out HTN.out).mono ?_
  rintro e w2 ⟨rfl, l2, hown2, hg2⟩
  have HO2 := Lib.hid hown2; have HG2 := Lib.hid hg2
  have HK2 := Lib.hid (HKT.out.grown hg2 (fun e => HTN.out tb e.symm rfl))
  clear hown2 hg2
  go_wp2_with fail
  refine (compactF_any lo A n c l2 _ HO2.out (by omega) tb HK2.out HTN.out).mono ?_
  rintro e w3 ⟨m, l3, rfl, hown3, hg3, hmn⟩
  have HO3 := Lib.hid hown3
  have HG3 := Lib.hid (show w.grownBy w3 (blkOf A) from gr_same (gr_same (gr_none (gr_refl _ _) HG1.out) HG2.out) hg3)
  clear hown3 hg3
  go_wp2_with fail
  go_ret
  exact ⟨m, l3, rfl, HO3.out, HG3.out, hmn⟩
/-- Some forwards. -/
def IsFwW (lo k : Nat) (v : Value) (w : World) : Prop := ∃ A n c l, v = .slice A n c ∧ OwnFw w lo A n c l ∧ n ≤ k
set_option maxHeartbeats 8000000 in
set_option maxRecDepth 100000 in
theorem rightForwards_any (sb : Nat) (m : Int) (w : World) (hs : Str w sb m) (hm : m ≤ 1000000000) : Calls Tryz.prog 14 #[.pointer (some ⟨sb, 0, none⟩)] w (Drawn sb (m + 40) (IsFwW w.heap.size 7) w) := by
  have hlt := hs.lt
  have HS0 := Lib.hid hs; clear hs
  go_enter Tryz.func14, Tryz.ntmps14
  go_wp2_with fail
  refine (range_any sb _ 0 7 _ HS0.out (by omega) (by omega) (by omega) (by omega)).mono ?_
  rintro e w1 ⟨v1, rfl, ⟨r1, hlo1, hhi1, rfl⟩, hs1, hg1⟩
  obtain ⟨N, rfl⟩ : ∃ N : Nat, r1 = N := ⟨r1.toNat, by omega⟩
  have HS1 := Lib.hid hs1; have HG1 := Lib.hid hg1
  clear hs1 hg1
  go_wp2_with fail
  go_loopw [3, 4, 7] (fun v3 _ t7 wr => ∃ (i n c : Nat) (A : Option Addr) (l : List FwV), i ≤ N ∧ t7 = .int .i64 i ∧ v3 = .slice A n c ∧ n ≤ i ∧ Str wr sb (m + 1 + 4 * i) ∧ w.grownBy wr (some sb) ∧ OwnFw wr w.heap.size A n c l) (fun _ _ t7 _ => N - (intOf t7).toNat)
  case atStart => exact ⟨0, 0, 0, none, [], Nat.zero_le _, rfl, rfl, Nat.le_refl _, HS1.out.mono (by omega), HG1.out, OwnR.nil _ _ _, fun r hr => by cases hr⟩
  case round =>
    obtain ⟨i, n, c, A, l, hi, rfl, rfl, hni, hs, hg, hown⟩ := hrel
    have HS := Lib.hid hs; have HG := Lib.hid hg; have HO := Lib.hid hown
    have zr := hg.size
    clear hs hg hown
    by_cases hlt2 : i < N
    · have d1 : decide ((i : Int) < (N : Int)) = true := decide_eq_true (by omega)
      have d1' : decide (i < N) = true := decide_eq_true hlt2
      go_wp2_with fail
      refine (some_new (n := 5) sb _ 2 _ HS.out (by omega) (by simp) (by
        repeat (first | exact StrsOk.nil _ | refine StrsOk.cons (by decide) ?_)) rfl (by omega) (by omega)).mono ?_
      rintro e w2 ⟨v2, rfl, ⟨y2, rfl, hy2⟩, hs2, hg2⟩
      have z2 := hg2.size; (try simp at z2)
      replace HO := Lib.hid (HO.out.low hg2 (fun g e => by injection e with e; omega))
      replace HG := Lib.hid (gr_same (a := w) HG.out hg2)
      replace HS := Lib.hid hs2
      clear hs2 hg2
      clear d1 d1'
      go_wp2_with fail
      refine (range_any sb _ 1 3 _ HS.out (by omega) (by omega) (by omega) (by omega)).mono ?_
      rintro e w3 ⟨v3, rfl, ⟨r3, hlo3, hhi3, rfl⟩, hs3, hg3⟩
      have z3 := hg3.size; (try simp at z3)
      replace HO := Lib.hid (HO.out.low hg3 (fun g e => by injection e with e; omega))
      replace HG := Lib.hid (gr_same (a := w) HG.out hg3)
      replace HS := Lib.hid hs3
      clear hs3 hg3
      go_wp2_with fail
      refine (some_new (n := 5) sb _ 2 _ HS.out (by omega) (by simp) (by
        repeat (first | exact StrsOk.nil _ | refine StrsOk.cons (by decide) ?_)) rfl (by omega) (by omega)).mono ?_
      rintro e w4 ⟨v4, rfl, ⟨y4, rfl, hy4⟩, hs4, hg4⟩
      have z4 := hg4.size; (try simp at z4)
      replace HO := Lib.hid (HO.out.low hg4 (fun g e => by injection e with e; omega))
      replace HG := Lib.hid (gr_same (a := w) HG.out hg4)
      replace HS := Lib.hid hs4
      clear hs4 hg4
      go_wp2_with fail
      refine (some_new (n := 3) sb _ 2 _ HS.out (by omega) (by simp) (by
        repeat (first | exact StrsOk.nil _ | refine StrsOk.cons (by decide) ?_)) rfl (by omega) (by omega)).mono ?_
      rintro e w5 ⟨v5, rfl, ⟨y5, rfl, hy5⟩, hs5, hg5⟩
      have z5 := hg5.size; (try simp at z5)
      replace HO := Lib.hid (HO.out.low hg5 (fun g e => by injection e with e; omega))
      replace HG := Lib.hid (gr_same (a := w) HG.out hg5)
      replace HS := Lib.hid hs5
      clear hs5 hg5
      obtain ⟨w6, hw6⟩ : ∃ v, w5.alloc (.cells #[.string y2, .int .i64 r3, .string y4, .string y5] 114) = v := ⟨_, rfl⟩
      obtain ⟨fb, hfb⟩ : ∃ b, w5.heap.size = b := ⟨_, rfl⟩
      have HB := Lib.hid (show Blk w6 fb 114 #[.string y2, .int .i64 r3, .string y4, .string y5] by rw [← hw6, ← hfb]; exact Blk.new _ _ _)
      have hg6 : w5.grownBy w6 none := by rw [← hw6]; exact gr_alloc (gr_refl _ _) _
      replace HS := Lib.hid (HS.out.grown hg6 (fun g e => by cases e))
      replace HO := Lib.hid (HO.out.low hg6 (fun g e => by cases e))
      replace HG := Lib.hid (gr_none HG.out hg6)
      have HW6 := Lib.hid hw6; have HFB := Lib.hid hfb
      clear hw6 hfb hg6
      go_upto_region 5 with (fail)
      rw [HW6.out]
      (try rw [HFB.out])
      clear HW6 HFB
      have k0 := HB.out.cell 0; have k2 := HB.out.cell 2
      obtain ⟨EQ, hEQ⟩ : ∃ V, (y2.toList == y4.toList) = V := ⟨_, rfl⟩
      have zg := HG.out.size
      cases EQ
      · go_wp2_with (first
          | (refine wpl_load_all Tryz.fwT rfl _ rfl _ rfl _ _ HB.out rfl ?_)
          | (at_builtin
             refine wpl_app _ rfl _ _ Tryz.fwsT rfl w.heap.size A n c _ rfl (by exact HO.out.1.1.alloc _) _ _ 1 1 [.string y2, .int .i64 r3, .string y4, .string y5] rfl (by exact Reads.one _ _ _ _ rfl) (by simp [Value.oneCell']) (by unfold maxLen; omega) (by omega) (by simp; omega) ?_
             intro A7 c7 w7 h7
             have H7 := Lib.hid h7; clear h7)
          | fail)
        go_roundw
        case rel => exact ⟨i + 1, n + 1, c7, A7, l ++ [⟨y2, r3, y4, y5⟩], by omega, by go_num, rfl, by omega, ((HS.out.alloc _).grown H7.out.2.1 (fun g e => by have := (HO.out.1.1.lt e).1; omega)).mono (by omega), H7.out.gr (gr_alloc HG.out _) (HO.out.1.1.alloc _) (Nat.le_refl _), (HO.out.1.alloc _).app rfl H7.out, fun z hz => by
          rcases List.mem_append.1 hz with h | h
          · exact HO.out.2 z h
          · rw [List.mem_singleton.1 h]; exact ⟨⟨by dsimp only; omega, by dsimp only; omega, by dsimp only; omega⟩, by dsimp only; omega, by dsimp only; omega⟩⟩
        case measure => simp [intOf]; omega
      · go_wp2_with fail
        go_roundw
        case rel => exact ⟨i + 1, n, c, A, l, by omega, by go_num, rfl, by omega, HS.out.mono (by omega), HG.out, HO.out⟩
        case measure => simp [intOf]; omega
    · obtain rfl : i = N := by omega
      have d1 : decide ((i : Int) < (i : Int)) = false := decide_eq_false (by omega)
      go_wp2_with fail
      refine (tidy_any w.heap.size A n c l _ HO.out (by omega)).mono ?_
      rintro e w8 ⟨q, l8, rfl, hown8, hg8, hq⟩
      have HO8 := Lib.hid hown8
      have HS8 := Lib.hid (HS.out.grown hg8 (fun g e => by have := (HO.out.1.1.lt e).1; omega))
      have HG8 := Lib.hid (show w.grownBy w8 (some sb) from gr_trans HG.out hg8 (fun g e => .inr (by have := (HO.out.1.1.lt e).1; omega)))
      clear hown8 hg8
      go_wp2_with fail
      go_ret
      exact ⟨_, rfl, ⟨A, q, c, l8, rfl, HO8.out, by omega⟩, HS8.out.mono (by omega), HG8.out⟩
def spFw (sb : Nat) (f : FwV) : List (Nat × (Value → World → Prop)) :=
  [(9, SlOf sb 9 3 #[.string f.line, .string ⟨#[]⟩, .string ⟨#[122, 122]⟩]), (10, StrBd 1000000), (12, IntV),
   (22, SlOf sb 9 3 #[.string f.to_, .string f.line, .string ⟨#[65]⟩]), (23, StrBd 1000000),
   (25, SlOf sb 9 2 #[.string ⟨#[]⟩, .string ⟨#[104, 122]⟩]), (26, StrBd 1000000)]
theorem spFw_grown {sb k : Nat} {f : FwV} {v : Value} {w w' : World} (h : RSpec (spFw sb f) k v w) (hg : w.grownBy w' (some sb)) : RSpec (spFw sb f) k v w' := by
  refine RSpec.grown (fun p hp v w w' h1 hg => ?_) h hg
  simp only [spFw, List.mem_cons, List.not_mem_nil, or_false] at hp
  rcases hp with rfl | rfl | rfl | rfl | rfl | rfl | rfl
  all_goals first | exact SlOf.grown h1 hg | exact h1
/-- Some forwards, right or not. -/
def IsFws (lo k : Nat) (v : Value) (w : World) : Prop := ∃ A n c l, v = .slice A n c ∧ OwnR FwV.row 4 w lo 114 A n c l ∧ (∀ f ∈ l, FwOk f) ∧ n ≤ k
set_option maxHeartbeats 8000000 in
set_option maxRecDepth 100000 in
theorem forwards_any (sb : Nat) (m : Int) (w : World) (hs : Str w sb m) (hm : m ≤ 1000000000) : Calls Tryz.prog 28 #[.pointer (some ⟨sb, 0, none⟩)] w (Drawn sb (m + 80) (IsFws w.heap.size 7) w) := by
  have hlt := hs.lt
  have HS0 := Lib.hid hs; clear hs
  go_enter Tryz.func28, Tryz.ntmps28
  go_wp2_with fail
  refine (rightForwards_any sb _ _ HS0.out (by omega)).mono ?_
  rintro e w1 ⟨v1, rfl, ⟨A, n, c, l, rfl, hown, hn⟩, hs1, hg1⟩
  have HO := Lib.hid hown; have HS := Lib.hid hs1; have HG := Lib.hid hg1
  have z1 := hg1.size
  clear hown hs1 hg1
  by_cases hn0 : n = 0
  · subst hn0
    go_wp2_with fail
    go_ret
    exact ⟨_, rfl, ⟨A, 0, c, l, rfl, HO.out.1, fun f hf => (HO.out.2 f hf).1, hn⟩, HS.out.mono (by omega), HG.out⟩
  · have d0 : decide ((0 : Int) < (n : Int)) = true := decide_eq_true (by omega)
    have d0' : decide (0 < n) = true := decide_eq_true (by omega)
    go_wp2_with fail
    refine (flip_any sb _ 12 _ HS.out (by omega) (by omega) (by omega)).mono ?_
    rintro e w2 ⟨v2, rfl, ⟨f2, rfl⟩, hs2, hg2⟩
    have z2 := hg2.size; (try simp at z2)
    replace HO := Lib.hid (HO.out.low hg2 (fun g e => by injection e with e; omega))
    replace HG := Lib.hid (gr_same (a := w) HG.out hg2)
    replace HS := Lib.hid hs2
    clear hs2 hg2
    cases f2
    · go_wp2_with fail
      go_ret
      exact ⟨_, rfl, ⟨A, n, c, l, rfl, HO.out.1, fun f hf => (HO.out.2 f hf).1, hn⟩, HS.out.mono (by omega), HG.out⟩
    · obtain ⟨g, rfl, hgl, hgs⟩ := HO.out.1.1.pos (by omega)
      go_wp2_with fail
      refine (next_any sb _ n _ HS.out (by omega) (by omega) (by omega)).mono ?_
      rintro e w3 ⟨v3, rfl, ⟨r3, hlo3, hhi3, rfl⟩, hs3, hg3⟩
      have z3 := hg3.size; (try simp at z3)
      replace HO := Lib.hid (HO.out.low hg3 (fun g e => by injection e with e; omega))
      replace HG := Lib.hid (gr_same (a := w) HG.out hg3)
      replace HS := Lib.hid hs3
      clear hs3 hg3
      obtain ⟨i, rfl⟩ : ∃ i : Nat, r3 = i := ⟨r3.toNat, by omega⟩
      have hin : i < n := by omega
      obtain ⟨⟨ln, wh, too, hr⟩, hx⟩ : ∃ b, l[i]? = some b := ⟨_, List.getElem?_eq_getElem (by rw [HO.out.1.2]; exact hin)⟩
      obtain ⟨⟨p1, p2, p3⟩, _⟩ := HO.out.2 _ (mem_of_get hx)
      dsimp only at p1 p2 p3
      have HX := Lib.hid hx
      have HOF := Lib.hid (show ∀ f ∈ l, FwOk f from fun f hf => (HO.out.2 f hf).1)
      have HOW := Lib.hid HO.out.1
      clear hx d0 d0' HO
      have hin2 : (i : Int) < (n : Int) := by omega
      go_upto_region 4 with (fail)
      refine wp_region_B (fun w' => w3.grownBy w' (some sb)) 29 (by kernel_rfl) ?_
      have hHeld : w3.grownBy w3.drew (some sb) := gr_drew (gr_refl _ _)
      have HKC := Lib.hid (show ∀ w', w3.grownBy w' (some sb) → ∀ (j : Nat) (u : Value), (FwV.row ⟨ln, wh, too, hr⟩)[j]? = some u → w'.cell? ⟨g, i * 4 + j, none⟩ = some u from fun w' hSw j u hu => by
        have kc := (HOW.out.recs.grown hSw (fun g e => by injection e with e; omega)).at_ FwV.row_len HX.out j u hu
        simp only [Nat.zero_add] at kc
        exact kc)
      generalize hwd : w3.drew = wd at hHeld ⊢
      have HSD := Lib.hid (show Str wd sb _ by rw [← hwd]; exact HS.out.drew)
      clear hwd
      refine B_take (k := 0) false (v := ?_) (by rfl) (by kernel_rfl) (by exact fun _ _ _ h => h) (by rfl) ?_ (by first | exact .inr hHeld | exact .inl (by rfl)) ?_
      rotate_left 1
      · intro w hSw
        clear hSw
        go_simp
        (try with_reducible rfl)
      (try simp only [Act.put, List.setIfInBounds_toArray, List.set_cons_zero, List.set_cons_succ])
      refine B_take (k := 1) false (v := ?_) (by rfl) (by kernel_rfl) (by exact fun _ _ _ h => h) (by rfl) ?_ (by first | exact .inr hHeld | exact .inl (by rfl)) ?_
      rotate_left 1
      · intro w hSw
        clear hSw
        go_simp
        (try with_reducible rfl)
      (try simp only [Act.put, List.setIfInBounds_toArray, List.set_cons_zero, List.set_cons_succ])
      refine B_take (k := 2) false (v := ?_) (by rfl) (by kernel_rfl) (by exact fun _ _ _ h => h) (by rfl) ?_ (by first | exact .inr hHeld | exact .inl (by rfl)) ?_
      rotate_left 1
      · intro w hSw
        clear hSw
        go_simp
        (try with_reducible rfl)
      (try simp only [Act.put, List.setIfInBounds_toArray, List.set_cons_zero, List.set_cons_succ])
      refine B_take (k := 3) false (v := ?_) (by rfl) (by kernel_rfl) (by exact fun _ _ _ h => h) (by rfl) ?_ (by first | exact .inr hHeld | exact .inl (by rfl)) ?_
      rotate_left 1
      · intro w hSw
        clear hSw
        go_simp
        (try with_reducible rfl)
      (try simp only [Act.put, List.setIfInBounds_toArray, List.set_cons_zero, List.set_cons_succ])
      refine B_take (k := 4) false (v := ?_) (by rfl) (by kernel_rfl) (by exact fun _ _ _ h => h) (by rfl) ?_ (by first | exact .inr hHeld | exact .inl (by rfl)) ?_
      rotate_left 1
      · intro w hSw
        clear hSw
        go_simp
        (try with_reducible rfl)
      (try simp only [Act.put, List.setIfInBounds_toArray, List.set_cons_zero, List.set_cons_succ])
      refine B_take (k := 5) false (v := ?_) (by rfl) (by kernel_rfl) (by exact fun _ _ _ h => h) (by rfl) ?_ (by first | exact .inr hHeld | exact .inl (by rfl)) ?_
      rotate_left 1
      · intro w hSw
        clear hSw
        go_simp
        (try with_reducible rfl)
      (try simp only [Act.put, List.setIfInBounds_toArray, List.set_cons_zero, List.set_cons_succ])
      refine B_take (k := 6) false (v := ?_) (by rfl) (by kernel_rfl) (by exact fun _ _ _ h => h) (by rfl) ?_ (by first | exact .inr hHeld | exact .inl (by rfl)) ?_
      rotate_left 1
      · intro w hSw
        clear hSw
        go_simp
        (try with_reducible rfl)
      (try simp only [Act.put, List.setIfInBounds_toArray, List.set_cons_zero, List.set_cons_succ])
      refine B_take (k := 7) false (v := ?_) (by rfl) (by kernel_rfl) (by exact fun _ _ _ h => h) (by rfl) ?_ (by first | exact .inr hHeld | exact .inl (by rfl)) ?_
      rotate_left 1
      · intro w hSw
        clear hSw
        go_simp
        (try with_reducible rfl)
      (try simp only [Act.put, List.setIfInBounds_toArray, List.set_cons_zero, List.set_cons_succ])
      refine B_take (k := 8) true (v := ?_) (by rfl) (by kernel_rfl) (by exact fun _ _ _ h => h) (by rfl) ?_ (.inr hHeld) ?_
      rotate_left 1
      · intro w' hSw
        have kc := HKC.out w' hSw 0 _ rfl
        simp only [Nat.add_zero] at kc
        go_simp
        (try with_reducible rfl)
      (try simp only [Act.put, List.setIfInBounds_toArray, List.set_cons_zero, List.set_cons_succ])
      refine B_take (k := 11) false (v := ?_) (by rfl) (by kernel_rfl) (by exact fun _ _ _ h => h) (by rfl) ?_ (by first | exact .inr hHeld | exact .inl (by rfl)) ?_
      rotate_left 1
      · intro w hSw
        clear hSw
        go_simp
        (try with_reducible rfl)
      (try simp only [Act.put, List.setIfInBounds_toArray, List.set_cons_zero, List.set_cons_succ])
      refine B_take (k := 13) false (v := ?_) (by rfl) (by kernel_rfl) (by exact fun _ _ _ h => h) (by rfl) ?_ (by first | exact .inr hHeld | exact .inl (by rfl)) ?_
      rotate_left 1
      · intro w hSw
        clear hSw
        go_simp
        (try with_reducible rfl)
      (try simp only [Act.put, List.setIfInBounds_toArray, List.set_cons_zero, List.set_cons_succ])
      refine B_take (k := 14) false (v := ?_) (by rfl) (by kernel_rfl) (by exact fun _ _ _ h => h) (by rfl) ?_ (by first | exact .inr hHeld | exact .inl (by rfl)) ?_
      rotate_left 1
      · intro w hSw
        clear hSw
        go_simp
        (try with_reducible rfl)
      (try simp only [Act.put, List.setIfInBounds_toArray, List.set_cons_zero, List.set_cons_succ])
      refine B_take (k := 15) false (v := ?_) (by rfl) (by kernel_rfl) (by exact fun _ _ _ h => h) (by rfl) ?_ (by first | exact .inr hHeld | exact .inl (by rfl)) ?_
      rotate_left 1
      · intro w hSw
        clear hSw
        go_simp
        (try with_reducible rfl)
      (try simp only [Act.put, List.setIfInBounds_toArray, List.set_cons_zero, List.set_cons_succ])
      refine B_take (k := 16) false (v := ?_) (by rfl) (by kernel_rfl) (by exact fun _ _ _ h => h) (by rfl) ?_ (by first | exact .inr hHeld | exact .inl (by rfl)) ?_
      rotate_left 1
      · intro w hSw
        clear hSw
        go_simp
        (try with_reducible rfl)
      (try simp only [Act.put, List.setIfInBounds_toArray, List.set_cons_zero, List.set_cons_succ])
      refine B_take (k := 17) true (v := ?_) (by rfl) (by kernel_rfl) (by exact fun _ _ _ h => h) (by rfl) ?_ (.inr hHeld) ?_
      rotate_left 1
      · intro w' hSw
        have kc := HKC.out w' hSw 2 _ rfl
        go_simp
        (try with_reducible rfl)
      (try simp only [Act.put, List.setIfInBounds_toArray, List.set_cons_zero, List.set_cons_succ])
      refine B_take (k := 18) false (v := ?_) (by rfl) (by kernel_rfl) (by exact fun _ _ _ h => h) (by rfl) ?_ (by first | exact .inr hHeld | exact .inl (by rfl)) ?_
      rotate_left 1
      · intro w hSw
        clear hSw
        go_simp
        (try with_reducible rfl)
      (try simp only [Act.put, List.setIfInBounds_toArray, List.set_cons_zero, List.set_cons_succ])
      refine B_take (k := 19) false (v := ?_) (by rfl) (by kernel_rfl) (by exact fun _ _ _ h => h) (by rfl) ?_ (by first | exact .inr hHeld | exact .inl (by rfl)) ?_
      rotate_left 1
      · intro w hSw
        clear hSw
        go_simp
        (try with_reducible rfl)
      (try simp only [Act.put, List.setIfInBounds_toArray, List.set_cons_zero, List.set_cons_succ])
      refine B_take (k := 20) false (v := ?_) (by rfl) (by kernel_rfl) (by exact fun _ _ _ h => h) (by rfl) ?_ (by first | exact .inr hHeld | exact .inl (by rfl)) ?_
      rotate_left 1
      · intro w hSw
        clear hSw
        go_simp
        (try with_reducible rfl)
      (try simp only [Act.put, List.setIfInBounds_toArray, List.set_cons_zero, List.set_cons_succ])
      refine B_take (k := 21) true (v := ?_) (by rfl) (by kernel_rfl) (by exact fun _ _ _ h => h) (by rfl) ?_ (.inr hHeld) ?_
      rotate_left 1
      · intro w' hSw
        have kc := HKC.out w' hSw 0 _ rfl
        simp only [Nat.add_zero] at kc
        go_simp
        (try with_reducible rfl)
      (try simp only [Act.put, List.setIfInBounds_toArray, List.set_cons_zero, List.set_cons_succ])
      refine B_take (k := 24) false (v := ?_) (by rfl) (by kernel_rfl) (by exact fun _ _ _ h => h) (by rfl) ?_ (by first | exact .inr hHeld | exact .inl (by rfl)) ?_
      rotate_left 1
      · intro w hSw
        clear hSw
        go_simp
        (try with_reducible rfl)
      (try simp only [Act.put, List.setIfInBounds_toArray, List.set_cons_zero, List.set_cons_succ])
      refine wpAnyB_calls (phase := [9, 10, 12, 22, 23, 25, 26]) (T := 27) (fuel := 12) (n0 := 7) (fun k => k + 20) (RSpec (spFw sb ⟨ln, wh, too, hr⟩)) (sb := sb) (m := m + 40 + 1 + 1) (by kernel_rfl) (by decide) ?hsz rfl HSD.out ?hdst (fun k v w w' h hg => spFw_grown h hg) ?hS ?hlaw ?hend
      case hsz => intro k hk; simp only [List.mem_cons, List.not_mem_nil, or_false] at hk; rcases hk with rfl | rfl | rfl | rfl | rfl | rfl | rfl <;> simp
      case hdst => intro k hk; simp only [List.mem_cons, List.not_mem_nil, or_false] at hk; rcases hk with rfl | rfl | rfl | rfl | rfl | rfl | rfl <;> exact ⟨_, rfl, rfl, rfl⟩
      case hS => intro w' hg; exact gr_same hHeld hg
      case hlaw =>
        intro q o a w' m' K hq ho hsame hdeps hs hm' hg hK
        have h0 := hs.lt
        have hf : ∀ j, (∀ i ∈ [9, 10, 12, 22, 23, 25, 26], i + 20 ≠ j) → a.tmps[j]? = _ := fun j hj => hsame j hj
        simp only [List.mem_cons, List.not_mem_nil, or_false] at hq
        rcases hq with rfl | rfl | rfl | rfl | rfl | rfl | rfl
        · have e28 := hf 28 (by decide)
          obtain rfl := Option.some.inj ho
          go_simp
          exact hK _ _ ⟨_, rfl, hs.lt, Blk.new _ _ _⟩ ((hs.alloc _).mono (by omega)) (gr_alloc (gr_refl _ _) _)
        · have e24 := hf 24 (by decide)
          obtain rfl := Option.some.inj ho
          obtain ⟨gq, hv, hgs, hbq⟩ : SlOf sb _ _ _ _ _ := hdeps ⟨9, .data⟩ (by simp) rfl (by simp)
          rw [Array.getD_eq_getD_getElem?] at hv
          go_simp
          refine (some_any sb m' 1000000 gq 3 _ w' hs (by omega) hbq (by omega) (by
            repeat (first | exact StrsOk.nil _ | refine StrsOk.cons (by first | assumption | decide) ?_)) rfl (by omega) (by omega)).mono ?_
          rintro e wq ⟨vq, rfl, hvq, hsq, hgq⟩
          exact hK vq wq hvq (hsq.mono (by omega)) hgq
        · have e31 := hf 31 (by decide)
          obtain rfl := Option.some.inj ho
          go_simp
          refine (odd_any sb m' 1 3 w' hs (by omega) (by omega) (by omega) (by omega)).mono ?_
          rintro e wq ⟨vq, rfl, ⟨rq, _, _, rfl⟩, hsq, hgq⟩
          exact hK _ wq ⟨rq, rfl⟩ (hsq.mono (by omega)) hgq
        · have e37 := hf 37 (by decide)
          have e41 := hf 41 (by decide)
          obtain rfl := Option.some.inj ho
          go_simp
          exact hK _ _ ⟨_, rfl, hs.lt, Blk.new _ _ _⟩ ((hs.alloc _).mono (by omega)) (gr_alloc (gr_refl _ _) _)
        · have e33 := hf 33 (by decide)
          obtain rfl := Option.some.inj ho
          obtain ⟨gq, hv, hgs, hbq⟩ : SlOf sb _ _ _ _ _ := hdeps ⟨22, .data⟩ (by simp) rfl (by simp)
          rw [Array.getD_eq_getD_getElem?] at hv
          go_simp
          refine (some_any sb m' 1000000 gq 3 _ w' hs (by omega) hbq (by omega) (by
            repeat (first | exact StrsOk.nil _ | refine StrsOk.cons (by first | assumption | decide) ?_)) rfl (by omega) (by omega)).mono ?_
          rintro e wq ⟨vq, rfl, hvq, hsq, hgq⟩
          exact hK vq wq hvq (hsq.mono (by omega)) hgq
        · obtain rfl := Option.some.inj ho
          go_simp
          exact hK _ _ ⟨_, rfl, hs.lt, Blk.new _ _ _⟩ ((hs.alloc _).mono (by omega)) (gr_alloc (gr_refl _ _) _)
        · have e44 := hf 44 (by decide)
          obtain rfl := Option.some.inj ho
          obtain ⟨gq, hv, hgs, hbq⟩ : SlOf sb _ _ _ _ _ := hdeps ⟨25, .data⟩ (by simp) rfl (by simp)
          rw [Array.getD_eq_getD_getElem?] at hv
          go_simp
          refine (some_any sb m' 1000000 gq 2 _ w' hs (by omega) hbq (by omega) (by
            repeat (first | exact StrsOk.nil _ | refine StrsOk.cons (by first | assumption | decide) ?_)) rfl (by omega) (by omega)).mono ?_
          rintro e wq ⟨vq, rfl, hvq, hsq, hgq⟩
          exact hK vq wq hvq (hsq.mono (by omega)) hgq
      case hend =>
        intro vs w5 hR hs5 hg5
        obtain ⟨s1, hv1, hb1⟩ : StrBd 1000000 (vs 10) w5 := hR 10 (by simp)
        obtain ⟨z2, hz2⟩ : IntV (vs 12) w5 := hR 12 (by simp)
        obtain ⟨s3, hv3, hb3⟩ : StrBd 1000000 (vs 23) w5 := hR 23 (by simp)
        obtain ⟨s4, hv4, hb4⟩ : StrBd 1000000 (vs 26) w5 := hR 26 (by simp)
        have hgx : w3.grownBy w5 (some sb) := gr_same hHeld hg5
        clear hR hHeld
        have HO5 := Lib.hid (HOW.out.low hgx (fun g e => by injection e with e; omega))
        have HG5 := Lib.hid (gr_same HG.out hgx)
        have HS5 := Lib.hid hs5
        have hHeld := hgx
        clear hs5 hg5 HOW
        simp only [putAll, List.foldl_cons, List.foldl_nil, Act.put, Nat.reduceAdd, List.setIfInBounds_toArray, List.set_cons_zero, List.set_cons_succ, hv1, hz2, hv3, hv4]
        clear hv1 hz2 hv3 hv4
        have hl0 : i < l.length := (List.getElem?_eq_some_iff.1 HX.out).1
        refine B_take (k := 27) false (v := ?_) (by rfl) (by kernel_rfl) (by exact fun _ _ _ h => h) (by rfl) ?_ (by first | exact .inr hHeld | exact .inl (by rfl)) ?_
        rotate_left 1
        · intro w hSw
          clear hSw
          go_simp
          (try with_reducible rfl)
        (try simp only [Act.put, List.setIfInBounds_toArray, List.set_cons_zero, List.set_cons_succ])
        refine B_take (k := 28) false (v := ?_) (by rfl) (by kernel_rfl) (by exact fun _ _ _ h => h) (by rfl) ?_ (by first | exact .inr hHeld | exact .inl (by rfl)) ?_
        rotate_left 1
        · intro w hSw
          clear hSw
          go_simp
          (try with_reducible rfl)
        (try simp only [Act.put, List.setIfInBounds_toArray, List.set_cons_zero, List.set_cons_succ])
        have kc := (HO5.out.recs.at_ FwV.row_len HX.out) 0 _ rfl
        simp only [Nat.zero_add, Nat.add_zero] at kc
        have kf := HO5.out.1.frozen (i * 4)
        refine B_run (k := 29) (by rfl) (by kernel_rfl) (by rfl) (fun K hK => ?_)
        go_simp
        have HO6 := Lib.hid (HO5.out.set1 (j := 0) (u := .string s1) (a' := ⟨s1, wh, too, hr⟩) FwV.row_len HX.out (by decide) rfl (show i * 4 = i * 4 + 0 by omega))
        refine hK _ _ (.inl (by rfl)) ?_
        clear hK K kc kf
        (try simp only [Act.put, List.setIfInBounds_toArray, List.set_cons_zero, List.set_cons_succ])
        have HX6 := Lib.hid (show (l.set i ⟨s1, wh, too, hr⟩)[i]? = some ⟨s1, wh, too, hr⟩ from List.getElem?_set_self hl0)
        refine B_take (k := 30) false (v := ?_) (by rfl) (by kernel_rfl) (by exact fun _ _ _ h => h) (by rfl) ?_ (by first | exact .inr hHeld | exact .inl (by rfl)) ?_
        rotate_left 1
        · intro w hSw
          clear hSw
          go_simp
          (try with_reducible rfl)
        (try simp only [Act.put, List.setIfInBounds_toArray, List.set_cons_zero, List.set_cons_succ])
        refine B_take (k := 31) false (v := ?_) (by rfl) (by kernel_rfl) (by exact fun _ _ _ h => h) (by rfl) ?_ (by first | exact .inr hHeld | exact .inl (by rfl)) ?_
        rotate_left 1
        · intro w hSw
          clear hSw
          go_simp
          (try with_reducible rfl)
        (try simp only [Act.put, List.setIfInBounds_toArray, List.set_cons_zero, List.set_cons_succ])
        have kc := (HO6.out.recs.at_ FwV.row_len HX6.out) 1 _ rfl
        simp only [Nat.zero_add, Nat.add_zero] at kc
        have kf := HO6.out.1.frozen (i * 4 + 1)
        refine B_run (k := 32) (by rfl) (by kernel_rfl) (by rfl) (fun K hK => ?_)
        go_simp
        have HO7 := Lib.hid (HO6.out.set1 (j := 1) (u := .int .i64 z2) (a' := ⟨s1, z2, too, hr⟩) FwV.row_len HX6.out (by decide) rfl (show i * 4 + 1 = i * 4 + 1 by omega))
        refine hK _ _ (.inl (by rfl)) ?_
        clear hK K kc kf
        (try simp only [Act.put, List.setIfInBounds_toArray, List.set_cons_zero, List.set_cons_succ])
        have HX7 := Lib.hid (show ((l.set i ⟨s1, wh, too, hr⟩).set i ⟨s1, z2, too, hr⟩)[i]? = some ⟨s1, z2, too, hr⟩ from List.getElem?_set_self (by simpa using hl0))
        refine B_take (k := 33) false (v := ?_) (by rfl) (by kernel_rfl) (by exact fun _ _ _ h => h) (by rfl) ?_ (by first | exact .inr hHeld | exact .inl (by rfl)) ?_
        rotate_left 1
        · intro w hSw
          clear hSw
          go_simp
          (try with_reducible rfl)
        (try simp only [Act.put, List.setIfInBounds_toArray, List.set_cons_zero, List.set_cons_succ])
        refine B_take (k := 34) false (v := ?_) (by rfl) (by kernel_rfl) (by exact fun _ _ _ h => h) (by rfl) ?_ (by first | exact .inr hHeld | exact .inl (by rfl)) ?_
        rotate_left 1
        · intro w hSw
          clear hSw
          go_simp
          (try with_reducible rfl)
        (try simp only [Act.put, List.setIfInBounds_toArray, List.set_cons_zero, List.set_cons_succ])
        have kc := (HO7.out.recs.at_ FwV.row_len HX7.out) 2 _ rfl
        simp only [Nat.zero_add, Nat.add_zero] at kc
        have kf := HO7.out.1.frozen (i * 4 + 2)
        refine B_run (k := 35) (by rfl) (by kernel_rfl) (by rfl) (fun K hK => ?_)
        go_simp
        have HO8 := Lib.hid (HO7.out.set1 (j := 2) (u := .string s3) (a' := ⟨s1, z2, s3, hr⟩) FwV.row_len HX7.out (by decide) rfl (show i * 4 + 2 = i * 4 + 2 by omega))
        refine hK _ _ (.inl (by rfl)) ?_
        clear hK K kc kf
        (try simp only [Act.put, List.setIfInBounds_toArray, List.set_cons_zero, List.set_cons_succ])
        have HX8 := Lib.hid (show (((l.set i ⟨s1, wh, too, hr⟩).set i ⟨s1, z2, too, hr⟩).set i ⟨s1, z2, s3, hr⟩)[i]? = some ⟨s1, z2, s3, hr⟩ from List.getElem?_set_self (by simpa using hl0))
        refine B_take (k := 36) false (v := ?_) (by rfl) (by kernel_rfl) (by exact fun _ _ _ h => h) (by rfl) ?_ (by first | exact .inr hHeld | exact .inl (by rfl)) ?_
        rotate_left 1
        · intro w hSw
          clear hSw
          go_simp
          (try with_reducible rfl)
        (try simp only [Act.put, List.setIfInBounds_toArray, List.set_cons_zero, List.set_cons_succ])
        refine B_take (k := 37) false (v := ?_) (by rfl) (by kernel_rfl) (by exact fun _ _ _ h => h) (by rfl) ?_ (by first | exact .inr hHeld | exact .inl (by rfl)) ?_
        rotate_left 1
        · intro w hSw
          clear hSw
          go_simp
          (try with_reducible rfl)
        (try simp only [Act.put, List.setIfInBounds_toArray, List.set_cons_zero, List.set_cons_succ])
        have kc := (HO8.out.recs.at_ FwV.row_len HX8.out) 3 _ rfl
        simp only [Nat.zero_add, Nat.add_zero] at kc
        have kf := HO8.out.1.frozen (i * 4 + 3)
        refine B_run (k := 38) (by rfl) (by kernel_rfl) (by rfl) (fun K hK => ?_)
        go_simp
        have HO9 := Lib.hid (HO8.out.set1 (j := 3) (u := .string s4) (a' := ⟨s1, z2, s3, s4⟩) FwV.row_len HX8.out (by decide) rfl (show i * 4 + 3 = i * 4 + 3 by omega))
        refine hK _ _ (.inl (by rfl)) ?_
        clear hK K kc kf
        (try simp only [Act.put, List.setIfInBounds_toArray, List.set_cons_zero, List.set_cons_succ])
        refine B_done (by kernel_rfl) ?_
        have hgs : ∀ (wx : World) (p : Nat) (u : Value), wx.grownBy (wx.setCell ⟨g, p, none⟩ u) (some g) := fun wx p u => gr_setCell (gr_refl _ _) (.inl rfl) _
        have hg4 := gr_same (gr_same (gr_same (hgs w5 (i * 4) (.string s1)) (hgs _ (i * 4 + 1) (.int .i64 z2))) (hgs _ (i * 4 + 2) (.string s3))) (hgs _ (i * 4 + 3) (.string s4))
        have HS9 := Lib.hid (HS5.out.grown hg4 (fun g e => by injection e with e; omega))
        have HG9 := Lib.hid (gr_trans HG5.out hg4 (fun g e => .inr (by injection e with e; omega)))
        have HOK := Lib.hid (show ∀ f ∈ ((((l.set i ⟨s1, wh, too, hr⟩).set i ⟨s1, z2, too, hr⟩).set i ⟨s1, z2, s3, hr⟩).set i ⟨s1, z2, s3, s4⟩), FwOk f from fun f hf => by
          rcases List.mem_or_eq_of_mem_set hf with h | rfl
          · rcases List.mem_or_eq_of_mem_set h with h | rfl
            · rcases List.mem_or_eq_of_mem_set h with h | rfl
              · rcases List.mem_or_eq_of_mem_set h with h | rfl
                · exact HOF.out f h
                · exact ⟨hb1, p2, p3⟩
              · exact ⟨hb1, p2, p3⟩
            · exact ⟨hb1, hb3, p3⟩
          · exact ⟨hb1, hb3, hb4⟩)
        clear hg4 hgs
        go_wp2_with fail
        go_ret
        exact ⟨_, rfl, ⟨_, n, c, _, rfl, HO9.out, HOK.out, hn⟩, HS9.out.mono (by omega), HG9.out⟩
/-- Some states. -/
def IsPrs (lo k : Nat) (v : Value) (w : World) : Prop := ∃ A n c l, v = .slice A n c ∧ OwnR PrV.row 2 w lo 186 A n c l ∧ (∀ f ∈ l, PrOk f) ∧ n ≤ k
set_option maxHeartbeats 8000000 in
set_option maxRecDepth 100000 in
theorem states_any (sb : Nat) (m : Int) (w : World) (hs : Str w sb m) (hm : m ≤ 1000000000) : Calls Tryz.prog 31 #[.pointer (some ⟨sb, 0, none⟩)] w (Drawn sb (m + 20) (IsPrs w.heap.size 5) w) := by
  have hlt := hs.lt
  have HS0 := Lib.hid (hs.alloc (.cells #[.string ⟨#[108, 97]⟩, .string ⟨#[108, 98]⟩, .string ⟨#[108, 99]⟩, .string ⟨#[108, 100]⟩] 9)); clear hs
  obtain ⟨w1, hw1⟩ : ∃ v, w.alloc (.cells #[.string ⟨#[108, 97]⟩, .string ⟨#[108, 98]⟩, .string ⟨#[108, 99]⟩, .string ⟨#[108, 100]⟩] 9) = v := ⟨_, rfl⟩
  obtain ⟨nb_, hnb⟩ : ∃ b, w.heap.size = b := ⟨_, rfl⟩
  have HN := Lib.hid (show Blk w1 nb_ 9 #[.string ⟨#[108, 97]⟩, .string ⟨#[108, 98]⟩, .string ⟨#[108, 99]⟩, .string ⟨#[108, 100]⟩] by rw [← hw1, ← hnb]; exact Blk.new _ _ _)
  have HG1 := Lib.hid (show w.grownBy w1 (some sb) by rw [← hw1]; exact gr_alloc (gr_refl _ _) _)
  rw [hw1] at HS0
  have zn : w1.heap.size = nb_ + 1 := by rw [← hw1, ← hnb]; simp
  have hsn : sb < nb_ := by omega
  have HW1 := Lib.hid hw1; have HNB := Lib.hid hnb
  clear hw1
  go_enter Tryz.func31, Tryz.ntmps31
  go_upto_region 3 with (fail)
  rw [HW1.out]
  (try rw [hnb])
  clear HW1
  go_loopw [3, 5, 8] (fun v3 _ t8 wr => ∃ (i n c : Nat) (A : Option Addr) (l : List PrV), i ≤ 4 ∧ t8 = .int .i64 i ∧ v3 = .slice A n c ∧ n ≤ i ∧ Str wr sb (m + 2 * i) ∧ w.grownBy wr (some sb) ∧ Blk wr nb_ 9 #[.string ⟨#[108, 97]⟩, .string ⟨#[108, 98]⟩, .string ⟨#[108, 99]⟩, .string ⟨#[108, 100]⟩] ∧ OwnR PrV.row 2 wr (nb_ + 1) 186 A n c l ∧ ∀ f ∈ l, PrOk f) (fun _ _ t8 _ => 4 - (intOf t8).toNat)
  case atStart => exact ⟨0, 0, 0, none, [], Nat.zero_le _, rfl, rfl, Nat.le_refl _, HS0.out.mono (by omega), HG1.out, HN.out, OwnR.nil _ _ _, fun r hr => by cases hr⟩
  case round =>
    clear HS0 HG1 HN zn
    obtain ⟨i, n, c, A, l, hi, rfl, rfl, hni, hs, hg, hnn, hown, hok⟩ := hrel
    have HS := Lib.hid hs; have HG := Lib.hid hg; have HO := Lib.hid hown; have HOK := Lib.hid hok; have HN := Lib.hid hnn
    have zr := hg.size
    have znr := hnn.lt
    clear hs hg hown hok hnn
    by_cases hlt2 : i < 4
    · obtain ⟨ky, hkz, hky⟩ : ∃ s : ByteArray, s.size ≤ 2 ∧ wr.cell? ⟨nb_, i, none⟩ = some (.string s) := by
        rcases (by omega : i = 0 ∨ i = 1 ∨ i = 2 ∨ i = 3) with rfl | rfl | rfl | rfl
        · exact ⟨_, by decide, HN.out.cell 0⟩
        · exact ⟨_, by decide, HN.out.cell 1⟩
        · exact ⟨_, by decide, HN.out.cell 2⟩
        · exact ⟨_, by decide, HN.out.cell 3⟩
      have hi4 : (i : Int) < 4 := by omega
      go_wp2_with fail
      refine (flip_any sb _ 2 _ HS.out (by omega) (by omega) (by omega)).mono ?_
      rintro e w2 ⟨v2, rfl, ⟨f2, rfl⟩, hs2, hg2⟩
      replace HN := Lib.hid (HN.out.grown hg2 (by simp; omega))
      have z2 := hg2.size; (try simp at z2)
      replace HO := Lib.hid (HO.out.low hg2 (fun g e => by injection e with e; omega))
      replace HG := Lib.hid (gr_same (a := w) HG.out hg2)
      replace HS := Lib.hid hs2
      clear hs2 hg2
      cases f2
      · go_wp2_with fail
        go_roundw
        case rel => exact ⟨i + 1, n, c, A, l, by omega, by go_num, rfl, by omega, HS.out.mono (by omega), HG.out, HN.out, HO.out, HOK.out⟩
        case measure => simp [intOf]; omega
      · go_wp2_with fail
        refine (some_new (n := 2) sb _ 6 _ HS.out (by omega) (by simp) (by
          repeat (first | exact StrsOk.nil _ | refine StrsOk.cons (by decide) ?_)) rfl (by omega) (by omega)).mono ?_
        rintro e w3 ⟨v3, rfl, ⟨y3, rfl, hy3⟩, hs3, hg3⟩
        replace HN := Lib.hid (HN.out.grown hg3 (by simp; omega))
        have z3 := hg3.size; (try simp at z3)
        replace HO := Lib.hid (HO.out.low hg3 (fun g e => by injection e with e; omega))
        replace HG := Lib.hid (gr_same (a := w) HG.out hg3)
        replace HS := Lib.hid hs3
        clear hs3 hg3
        go_wp2_with (first
          | (at_builtin
             refine wpl_app _ rfl _ _ Tryz.prsT rfl (nb_ + 1) A n c _ rfl (by exact HO.out.1.alloc _) _ _ 1 1 [.string ky, .string y3] rfl (by exact Reads.one _ _ _ _ rfl) (by simp [Value.oneCell']) (by unfold maxLen; omega) (by omega) (by simp; omega) ?_
             intro A7 c7 w7 h7
             have H7 := Lib.hid h7; clear h7)
          | fail)
        go_roundw
        case rel => exact ⟨i + 1, n + 1, c7, A7, l ++ [⟨ky, y3⟩], by omega, by go_num, rfl, by omega, ((HS.out.alloc _).grown H7.out.2.1 (fun g e => by have := (HO.out.1.lt e).1; omega)).mono (by omega), gr_own (gr_alloc HG.out _) (HO.out.1.alloc _) (by omega) H7.out.2.1, (HN.out.alloc _).grown H7.out.2.1 (fun e => by have := (HO.out.1.lt e.symm).1; omega), (HO.out.alloc _).app rfl H7.out, fun z hz => by
          rcases List.mem_append.1 hz with h | h
          · exact HOK.out z h
          · rw [List.mem_singleton.1 h]; exact ⟨by dsimp only; omega, by dsimp only; omega⟩⟩
        case measure => simp [intOf]; omega
    · obtain rfl : i = 4 := by omega
      go_wp2_with fail
      refine (flip_any sb _ 20 _ HS.out (by omega) (by omega) (by omega)).mono ?_
      rintro e w2 ⟨v2, rfl, ⟨f2, rfl⟩, hs2, hg2⟩
      have z2 := hg2.size; (try simp at z2)
      replace HO := Lib.hid (HO.out.low hg2 (fun g e => by injection e with e; omega))
      replace HG := Lib.hid (gr_same (a := w) HG.out hg2)
      replace HS := Lib.hid hs2
      clear hs2 hg2
      cases f2
      · go_wp2_with fail
        go_ret
        exact ⟨_, rfl, ⟨A, n, c, l, rfl, HO.out.lower (by omega), HOK.out, by omega⟩, HS.out.mono (by omega), HG.out⟩
      · go_wp2_with fail
        refine (some_new (n := 3) sb _ 2 _ HS.out (by omega) (by simp) (by
          repeat (first | exact StrsOk.nil _ | refine StrsOk.cons (by decide) ?_)) rfl (by omega) (by omega)).mono ?_
        rintro e w3 ⟨v3, rfl, ⟨y3, rfl, hy3⟩, hs3, hg3⟩
        have z3 := hg3.size; (try simp at z3)
        replace HO := Lib.hid (HO.out.low hg3 (fun g e => by injection e with e; omega))
        replace HG := Lib.hid (gr_same (a := w) HG.out hg3)
        replace HS := Lib.hid hs3
        clear hs3 hg3
        go_wp2_with fail
        refine (some_new (n := 3) sb _ 4 _ HS.out (by omega) (by simp) (by
          repeat (first | exact StrsOk.nil _ | refine StrsOk.cons (by decide) ?_)) rfl (by omega) (by omega)).mono ?_
        rintro e w4 ⟨v4, rfl, ⟨y4, rfl, hy4⟩, hs4, hg4⟩
        have z4 := hg4.size; (try simp at z4)
        replace HO := Lib.hid (HO.out.low hg4 (fun g e => by injection e with e; omega))
        replace HG := Lib.hid (gr_same (a := w) HG.out hg4)
        replace HS := Lib.hid hs4
        clear hs4 hg4
        go_wp2_with (first
          | (at_builtin
             refine wpl_app _ rfl _ _ Tryz.prsT rfl (nb_ + 1) A n c _ rfl (by exact HO.out.1.alloc _) _ _ 1 1 [.string y3, .string y4] rfl (by exact Reads.one _ _ _ _ rfl) (by simp [Value.oneCell']) (by unfold maxLen; omega) (by omega) (by simp; omega) ?_
             intro A7 c7 w7 h7
             have H7 := Lib.hid h7; clear h7)
          | fail)
        go_ret
        exact ⟨_, rfl, ⟨A7, n + 1, c7, l ++ [⟨y3, y4⟩], rfl, ((HO.out.alloc _).app rfl H7.out).lower (by omega), fun z hz => by
          rcases List.mem_append.1 hz with h | h
          · exact HOK.out z h
          · rw [List.mem_singleton.1 h]; exact ⟨by dsimp only; omega, by dsimp only; omega⟩, by omega⟩, ((HS.out.alloc _).grown H7.out.2.1 (fun g e => by have := (HO.out.1.lt e).1; omega)).mono (by omega), gr_own (gr_alloc HG.out _) (HO.out.1.alloc _) (by omega) H7.out.2.1⟩
end Go.Proofs.YtpjheibkacbbcaaGreatDoor

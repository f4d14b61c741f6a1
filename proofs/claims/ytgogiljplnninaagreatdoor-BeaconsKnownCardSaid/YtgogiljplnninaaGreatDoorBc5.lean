/- Contract of slices.CompactFunc at beacons: some of the beacons. Conditions: at most 1000 beacons, each BcOk. -/
import Derived.Test.YtgogiljplnninaaGreatDoorBc4
import Derived.Test.YtgogiljplnninaaGreatDoorBun5
namespace Go.Proofs.YtgogiljplnninaaGreatDoor
open Go.RowKit

theorem flat_drop {α : Type} {row : α → List Value} {k : Nat} (hrow : ∀ a, (row a).length = k) : ∀ (l : List α) (i : Nat), (l.flatMap row).drop (i * k) = (l.drop i).flatMap row
  | l, 0 => by simp
  | [], i + 1 => by simp
  | a :: l, i + 1 => by
    rw [List.flatMap_cons, List.drop_succ_cons, ← flat_drop hrow l i, Nat.succ_mul, Nat.add_comm, ← List.drop_drop, show List.drop k (row a ++ l.flatMap row) = l.flatMap row by rw [← hrow a, List.drop_left]]
theorem flat_take2 {α : Type} {row : α → List Value} {k : Nat} (hrow : ∀ a, (row a).length = k) : ∀ (l : List α) (i : Nat), (l.flatMap row).take (i * k) = (l.take i).flatMap row
  | l, 0 => by simp
  | [], i + 1 => by simp
  | a :: l, i + 1 => by
    rw [List.flatMap_cons, List.take_succ_cons, List.flatMap_cons, ← flat_take2 hrow l i, Nat.succ_mul, Nat.add_comm, show k + i * k = (row a).length + i * k by rw [hrow], List.take_length_add_append]
theorem Recs.dropK {α : Type} {row : α → List Value} {k : Nat} {w : World} {lo n c g o i : Nat} {l : List α} (hrow : ∀ a, (row a).length = k) (h : Recs row k w lo (some ⟨g, o, none⟩) n c l) (hi : i < n) : Recs row k w lo (some ⟨g, o + i * k, none⟩) (n - i) (c - i) (l.drop i) := by
  obtain ⟨⟨h1, h2, h3⟩, h4⟩ := h
  obtain ⟨g', o', e, q1, q2, q3⟩ := h3 (by omega)
  injection e with e
  injection e with e1 e2
  subst e1; subst e2
  refine ⟨⟨?_, by omega, fun _ => ⟨g, o + i * k, rfl, q1, q2, fun j u hu => ?_⟩⟩, by rw [List.length_drop, h4]⟩
  · rw [← flat_drop hrow, List.length_drop, h1, Nat.sub_mul]
  · rw [← flat_drop hrow, List.getElem?_drop] at hu
    rw [Nat.add_assoc]
    exact q3 _ _ hu
theorem sameBeacon_any (a b : BcV) (w : World) (ha : BcOk a) (hb : BcOk b) : Calls Tryz.prog 102 #[.agg #[.string a.psn, .string a.dev, .int .i64 a.st, .int .i64 a.at_, .int .i64 a.un, .string a.note], .agg #[.string b.psn, .string b.dev, .int .i64 b.st, .int .i64 b.at_, .int .i64 b.un, .string b.note]] w (RetV (.bool (bcCmp a b == 0)) w) := by
  obtain ⟨W1, hW⟩ : ∃ W1, (w.alloc (.cells #[.string a.psn, .string a.dev, .int .i64 a.st, .int .i64 a.at_, .int .i64 a.un, .string a.note] 62)).alloc (.cells #[.string b.psn, .string b.dev, .int .i64 b.st, .int .i64 b.at_, .int .i64 b.un, .string b.note] 62) = W1 := ⟨_, rfl⟩
  have HA := Lib.hid (show Blk W1 w.heap.size 62 #[.string a.psn, .string a.dev, .int .i64 a.st, .int .i64 a.at_, .int .i64 a.un, .string a.note] by rw [← hW]; exact (Blk.new _ _ _).alloc _)
  have HB := Lib.hid (show Blk W1 (w.heap.size + 1) 62 #[.string b.psn, .string b.dev, .int .i64 b.st, .int .i64 b.at_, .int .i64 b.un, .string b.note] by
    rw [← hW]
    have h := Blk.new (w.alloc (.cells #[.string a.psn, .string a.dev, .int .i64 a.st, .int .i64 a.at_, .int .i64 a.un, .string a.note] 62)) 62 #[.string b.psn, .string b.dev, .int .i64 b.st, .int .i64 b.at_, .int .i64 b.un, .string b.note]
    simpa using h)
  have HG := Lib.hid (show w.grownBy W1 none by rw [← hW]; exact gr_alloc (gr_alloc (gr_refl _ _) _) _)
  have HW := Lib.hid hW; clear hW
  have HOA := Lib.hid ha; have HOB := Lib.hid hb
  clear ha hb
  go_enter Tryz.func102, Tryz.ntmps102
  go_upto_region 1 with (fail)
  rw [HW.out]
  go_wp2_with (first
    | (refine wpl_load_all Tryz.bcT rfl _ rfl _ rfl _ _ HA.out rfl ?_)
    | (refine wpl_load_all Tryz.bcT rfl _ rfl _ rfl _ _ HB.out rfl ?_)
    | fail)
  refine (beaconOrder_any a b _ HOA.out HOB.out).mono ?_
  rintro e w2 ⟨rfl, hg2⟩
  have HG2 := Lib.hid (gr_none HG.out hg2)
  clear hg2
  go_wp2_with fail
  go_ret
  exact ⟨rfl, HG2.out⟩
set_option maxHeartbeats 8000000 in
set_option maxRecDepth 100000 in
theorem compactB_any (lo : Nat) (A : Option Addr) (n c : Nat) (l : List BcV) (w : World) (h : OwnBc w lo A n c l) (hn : n ≤ 1000) :
    Calls Tryz.prog 101 #[.slice A n c, .func (.func 102) #[] #[]] w (fun e w' => ∃ m l', e = .returned (.slice A m c) ∧ OwnBc w' lo A m c l' ∧ w.grownBy w' (blkOf A) ∧ m ≤ n) := by
  have H := Lib.hid h; clear h
  by_cases h2 : n < 2
  · have d0 : decide ((n : Int) < 2) = true := decide_eq_true (by omega)
    go_enter Tryz.func101, Tryz.ntmps101
    go_wp2_with fail
    go_ret
    exact ⟨n, l, rfl, H.out, gr_refl _ _, Nat.le_refl _⟩
  · have d0 : decide ((n : Int) < 2) = false := decide_eq_false (by omega)
    obtain ⟨g, rfl, hgl, hgs⟩ := H.out.1.1.pos (by omega)
    have hcn := H.out.1.1.cap
    go_enter Tryz.func101, Tryz.ntmps101
    go_wp2_with fail
    clear d0
    go_loopw [5, 6, 7] (fun t _ _ wr => ∃ k : Nat, t = .int .i64 k ∧ 1 ≤ k ∧ k ≤ n ∧ OwnR BcV.row 6 wr lo 62 (some ⟨g, 0, none⟩) n c l ∧ w.grownBy wr (some g)) (fun t _ _ _ => n - (intOf t).toNat)
    case atStart => exact ⟨1, rfl, Nat.le_refl _, by omega, H.out.1, gr_refl _ _⟩
    case round =>
      obtain ⟨k, rfl, hk1, hkn, hown, hg⟩ := hrel
      have HO := Lib.hid hown; have HG := Lib.hid hg; have HK := Lib.hid H.out.2
      clear hown hg
      by_cases hlt : k < n
      · have hlt2 : (k : Int) < (n : Int) := by omega
        obtain ⟨⟨psn1, dev1, st1, at1, un1, note1⟩, hx⟩ : ∃ b, l[k]? = some b := ⟨_, List.getElem?_eq_getElem (by rw [HO.out.2]; omega)⟩
        obtain ⟨⟨psn2, dev2, st2, at2, un2, note2⟩, hy⟩ : ∃ b, l[k - 1]? = some b := ⟨_, List.getElem?_eq_getElem (by rw [HO.out.2]; omega)⟩
        have HX := Lib.hid hx; have HY := Lib.hid hy; clear hx hy
        have HRO := Lib.hid HO.out.recs
        have s2 : (0 : Int) ≤ (k : Int) - 1 := by omega
        have s5 : (1 : Int) ≤ (k : Int) := by omega
        have s3 : (k : Int) - 1 < (n : Int) := by omega
        have s6 : (0 : Int) < (n : Int) := by omega
        have s1 : IntKind.i64.wrap ((k : Int) - 1) = (k : Int) - 1 := IntWalk.i64_in _ (by omega)
        have s4 : ((k : Int) - 1).toNat = k - 1 := by omega
        have s7 : (0 : Int) ≤ (k : Int) := by omega
        go_wp2_with fail
        refine H_begin (fun w' => wr.grownBy w' none) (by kernel_rfl) ?_
        have hHeld : wr.grownBy wr.drew none := gr_drew (gr_refl _ _)
        refine H_take (k := 0) (v := ?_) (by rfl) (by kernel_rfl) (by kernel_rfl) (by kernel_rfl) (by exact fun _ _ _ h => h) (by rfl) ?_ (by assumption) ?_
        rotate_left 1
        · intro w hSw
          (try dsimp only at hSw)
          go_simp
          (try with_reducible rfl)
        (try simp only [Act.put, List.setIfInBounds_toArray, List.set_cons_zero, List.set_cons_succ])
        refine H_take (k := 1) (v := ?_) (by rfl) (by kernel_rfl) (by kernel_rfl) (by kernel_rfl) (by exact fun _ _ _ h => h) (by rfl) ?_ (by assumption) ?_
        rotate_left 1
        · intro w hSw
          (try dsimp only at hSw)
          go_simp
          (try with_reducible rfl)
        (try simp only [Act.put, List.setIfInBounds_toArray, List.set_cons_zero, List.set_cons_succ])
        refine H_take (k := 2) (v := ?_) (by rfl) (by kernel_rfl) (by kernel_rfl) (by kernel_rfl) (by exact fun _ _ _ h => h) (by rfl) ?_ (by assumption) ?_
        rotate_left 1
        · intro w hSw
          (try dsimp only at hSw)
          go_simp
          (try with_reducible rfl)
        (try simp only [Act.put, List.setIfInBounds_toArray, List.set_cons_zero, List.set_cons_succ])
        refine H_take (k := 3) (v := ?_) (by rfl) (by kernel_rfl) (by kernel_rfl) (by kernel_rfl) (by exact fun _ _ _ h => h) (by rfl) ?_ (by assumption) ?_
        rotate_left 1
        · intro w hSw
          (try dsimp only at hSw)
          go_simp
          (try with_reducible rfl)
        (try simp only [Act.put, List.setIfInBounds_toArray, List.set_cons_zero, List.set_cons_succ])
        refine H_take (k := 4) (v := .agg #[.string psn1, .string dev1, .int .i64 st1, .int .i64 at1, .int .i64 un1, .string note1]) (by rfl) (by kernel_rfl) (by kernel_rfl) (by kernel_rfl) (by exact fun _ _ _ h => h) (by rfl) (fun w' hSw => exec_ldr Tryz.bcT _ rfl _ rfl [.string psn1, .string dev1, .int .i64 st1, .int .i64 at1, .int .i64 un1, .string note1] (fun j u hu => by rw [add_mk]; have hcc := ((HRO.out.grown hSw (fun g e => by cases e)).at_ BcV.row_len HX.out) j u hu; simp only [Nat.zero_add] at hcc; exact hcc) rfl) (by assumption) ?_
        (try simp only [Act.put, List.setIfInBounds_toArray, List.set_cons_zero, List.set_cons_succ])
        refine H_take (k := 5) (v := ?_) (by rfl) (by kernel_rfl) (by kernel_rfl) (by kernel_rfl) (by exact fun _ _ _ h => h) (by rfl) ?_ (by assumption) ?_
        rotate_left 1
        · intro w hSw
          (try dsimp only at hSw)
          go_simp
          (try with_reducible rfl)
        (try simp only [Act.put, List.setIfInBounds_toArray, List.set_cons_zero, List.set_cons_succ])
        refine H_take (k := 6) (v := ?_) (by rfl) (by kernel_rfl) (by kernel_rfl) (by kernel_rfl) (by exact fun _ _ _ h => h) (by rfl) ?_ (by assumption) ?_
        rotate_left 1
        · intro w hSw
          (try dsimp only at hSw)
          go_simp
          (try with_reducible rfl)
        (try simp only [Act.put, List.setIfInBounds_toArray, List.set_cons_zero, List.set_cons_succ])
        refine H_take (k := 7) (v := ?_) (by rfl) (by kernel_rfl) (by kernel_rfl) (by kernel_rfl) (by exact fun _ _ _ h => h) (by rfl) ?_ (by assumption) ?_
        rotate_left 1
        · intro w hSw
          (try dsimp only at hSw)
          go_simp
          (try with_reducible rfl)
        (try simp only [Act.put, List.setIfInBounds_toArray, List.set_cons_zero, List.set_cons_succ])
        refine H_take (k := 8) (v := ?_) (by rfl) (by kernel_rfl) (by kernel_rfl) (by kernel_rfl) (by exact fun _ _ _ h => h) (by rfl) ?_ (by assumption) ?_
        rotate_left 1
        · intro w hSw
          (try dsimp only at hSw)
          go_simp
          (try with_reducible rfl)
        (try simp only [Act.put, List.setIfInBounds_toArray, List.set_cons_zero, List.set_cons_succ])
        refine H_take (k := 9) (v := .agg #[.string psn2, .string dev2, .int .i64 st2, .int .i64 at2, .int .i64 un2, .string note2]) (by rfl) (by kernel_rfl) (by kernel_rfl) (by kernel_rfl) (by exact fun _ _ _ h => h) (by rfl) (fun w' hSw => exec_ldr Tryz.bcT _ rfl _ rfl [.string psn2, .string dev2, .int .i64 st2, .int .i64 at2, .int .i64 un2, .string note2] (fun j u hu => by rw [add_mk]; have hcc := ((HRO.out.grown hSw (fun g e => by cases e)).at_ BcV.row_len HY.out) j u hu; simp only [Nat.zero_add] at hcc; exact hcc) rfl) (by assumption) ?_
        (try simp only [Act.put, List.setIfInBounds_toArray, List.set_cons_zero, List.set_cons_succ])
        refine H_run (k := 10) (by rfl) (by kernel_rfl) (by rfl) (fun K hK => ?_)
        go_simp
        refine (sameBeacon_any ⟨psn1, dev1, st1, at1, un1, note1⟩ ⟨psn2, dev2, st2, at2, un2, note2⟩ _ (HK.out _ (mem_of_get HX.out)) (HK.out _ (mem_of_get HY.out))).mono ?_
        rintro e w6 ⟨rfl, hg6⟩
        obtain ⟨ZB, hZB⟩ : ∃ ZB, (bcCmp ⟨psn1, dev1, st1, at1, un1, note1⟩ ⟨psn2, dev2, st2, at2, un2, note2⟩ == 0) = ZB := ⟨_, rfl⟩
        rw [hZB]
        have hgz := gr_none hHeld hg6
        refine hK _ _ hgz ?_
        clear hK K hHeld hg6
        have hHeld := hgz
        (try simp only [Act.put, List.setIfInBounds_toArray, List.set_cons_zero, List.set_cons_succ])
        refine H_done (by kernel_rfl) ?_
        have HO6 := Lib.hid (HO.out.kept hgz (fun g e => by cases e))
        have HG6 := Lib.hid (gr_none HG.out hgz)
        clear hgz hHeld hZB
        clear s1 s2 s3 s4 s5 s6
        cases ZB
        · go_wp2_with fail
          go_roundw
          case rel => exact ⟨k + 1, by go_num, by omega, by omega, HO6.out, HG6.out⟩
          case measure => simp [intOf]; omega
        · clear HO HG HX HY HRO HK
          have hck : ¬ c = k := by omega
          have s8 : (k : Int) ≤ (n : Int) := by omega
          go_wp2_with fail
          clear s8
          obtain ⟨w7, rfl⟩ : ∃ w7 : World, w7 = w6 := ⟨_, rfl⟩
          go_loopw [5, 7] (fun t5 t7 wr => ∃ (j q : Nat) (l' : List BcV), t5 = .int .i64 j ∧ t7 = .int .i64 q ∧ 1 ≤ q ∧ k ≤ j ∧ j < k + q ∧ k + q ≤ n ∧ OwnBc wr lo (some ⟨g, 0, none⟩) n c l' ∧ w.grownBy wr (some g)) (fun _ t7 _ => n - (intOf t7).toNat)
          case atStart => exact ⟨k, 1, l, rfl, rfl, Nat.le_refl _, Nat.le_refl _, by omega, by omega, ⟨HO6.out, H.out.2⟩, HG6.out⟩
          case round =>
            clear HO6 HG6
            obtain ⟨j, q, l1, rfl, rfl, hq1, hkj, hjq, hqn, hown, hg⟩ := hrel
            have HO := Lib.hid hown.1; have HK := Lib.hid hown.2; have HG := Lib.hid hg
            clear hown hg
            by_cases hltq : k + q < n
            · have hq2 : (q : Int) < ((n - k : Nat) : Int) := by omega
              obtain ⟨⟨psn1, dev1, st1, at1, un1, note1⟩, hx⟩ : ∃ b, l1[k + q]? = some b := ⟨_, List.getElem?_eq_getElem (by rw [HO.out.2]; omega)⟩
              obtain ⟨⟨psn2, dev2, st2, at2, un2, note2⟩, hy⟩ : ∃ b, l1[k + (q - 1)]? = some b := ⟨_, List.getElem?_eq_getElem (by rw [HO.out.2]; omega)⟩
              have HX := Lib.hid (show (l1.drop k)[q]? = some ⟨psn1, dev1, st1, at1, un1, note1⟩ by rw [List.getElem?_drop]; exact hx)
              have HY := Lib.hid (show (l1.drop k)[q - 1]? = some ⟨psn2, dev2, st2, at2, un2, note2⟩ by rw [List.getElem?_drop]; exact hy)
              have HMX := Lib.hid (mem_of_get hx); have HMY := Lib.hid (mem_of_get hy)
              clear hx hy
              have HRO := Lib.hid (HO.out.recs.dropK BcV.row_len (i := k) (by omega))
              have s2 : (0 : Int) ≤ (q : Int) - 1 := by omega
              have s5 : (1 : Int) ≤ (q : Int) := by omega
              have s3 : (q : Int) - 1 < ((n - k : Nat) : Int) := by omega
              have s1 : IntKind.i64.wrap ((q : Int) - 1) = (q : Int) - 1 := IntWalk.i64_in _ (by omega)
              have s4 : ((q : Int) - 1).toNat = q - 1 := by omega
              have s7 : (0 : Int) ≤ (q : Int) := by omega
              have u1 : IntKind.i64.wrap ((q : Int) + 1) = (q : Int) + 1 := IntWalk.i64_in _ (by omega)
              have u2 : IntKind.i64.wrap ((j : Int) + 1) = (j : Int) + 1 := IntWalk.i64_in _ (by omega)
              have hj2 : (j : Int) < (n : Int) := by omega
              go_wp2_with fail
              refine H_begin (fun w' => wr.grownBy w' none) (by kernel_rfl) ?_
              have hHeld : wr.grownBy wr.drew none := gr_drew (gr_refl _ _)
              refine H_take (k := 0) (v := ?_) (by rfl) (by kernel_rfl) (by kernel_rfl) (by kernel_rfl) (by exact fun _ _ _ h => h) (by rfl) ?_ (by assumption) ?_
              rotate_left 1
              · intro w hSw
                (try dsimp only at hSw)
                go_simp
                (try with_reducible rfl)
              (try simp only [Act.put, List.setIfInBounds_toArray, List.set_cons_zero, List.set_cons_succ])
              refine H_take (k := 1) (v := ?_) (by rfl) (by kernel_rfl) (by kernel_rfl) (by kernel_rfl) (by exact fun _ _ _ h => h) (by rfl) ?_ (by assumption) ?_
              rotate_left 1
              · intro w hSw
                (try dsimp only at hSw)
                go_simp
                (try with_reducible rfl)
              (try simp only [Act.put, List.setIfInBounds_toArray, List.set_cons_zero, List.set_cons_succ])
              refine H_take (k := 2) (v := ?_) (by rfl) (by kernel_rfl) (by kernel_rfl) (by kernel_rfl) (by exact fun _ _ _ h => h) (by rfl) ?_ (by assumption) ?_
              rotate_left 1
              · intro w hSw
                (try dsimp only at hSw)
                go_simp
                (try with_reducible rfl)
              (try simp only [Act.put, List.setIfInBounds_toArray, List.set_cons_zero, List.set_cons_succ])
              refine H_take (k := 3) (v := ?_) (by rfl) (by kernel_rfl) (by kernel_rfl) (by kernel_rfl) (by exact fun _ _ _ h => h) (by rfl) ?_ (by assumption) ?_
              rotate_left 1
              · intro w hSw
                (try dsimp only at hSw)
                go_simp
                (try with_reducible rfl)
              (try simp only [Act.put, List.setIfInBounds_toArray, List.set_cons_zero, List.set_cons_succ])
              refine H_take (k := 4) (v := .agg #[.string psn1, .string dev1, .int .i64 st1, .int .i64 at1, .int .i64 un1, .string note1]) (by rfl) (by kernel_rfl) (by kernel_rfl) (by kernel_rfl) (by exact fun _ _ _ h => h) (by rfl) (fun w' hSw => exec_ldr Tryz.bcT _ rfl _ rfl [.string psn1, .string dev1, .int .i64 st1, .int .i64 at1, .int .i64 un1, .string note1] (fun j u hu => by rw [add_mk]; have hcc := ((HRO.out.grown hSw (fun g e => by cases e)).at_ BcV.row_len HX.out) j u hu; simp only [Nat.zero_add] at hcc; exact hcc) rfl) (by assumption) ?_
              (try simp only [Act.put, List.setIfInBounds_toArray, List.set_cons_zero, List.set_cons_succ])
              refine H_take (k := 5) (v := ?_) (by rfl) (by kernel_rfl) (by kernel_rfl) (by kernel_rfl) (by exact fun _ _ _ h => h) (by rfl) ?_ (by assumption) ?_
              rotate_left 1
              · intro w hSw
                (try dsimp only at hSw)
                go_simp
                (try with_reducible rfl)
              (try simp only [Act.put, List.setIfInBounds_toArray, List.set_cons_zero, List.set_cons_succ])
              refine H_take (k := 6) (v := ?_) (by rfl) (by kernel_rfl) (by kernel_rfl) (by kernel_rfl) (by exact fun _ _ _ h => h) (by rfl) ?_ (by assumption) ?_
              rotate_left 1
              · intro w hSw
                (try dsimp only at hSw)
                go_simp
                (try with_reducible rfl)
              (try simp only [Act.put, List.setIfInBounds_toArray, List.set_cons_zero, List.set_cons_succ])
              refine H_take (k := 7) (v := ?_) (by rfl) (by kernel_rfl) (by kernel_rfl) (by kernel_rfl) (by exact fun _ _ _ h => h) (by rfl) ?_ (by assumption) ?_
              rotate_left 1
              · intro w hSw
                (try dsimp only at hSw)
                go_simp
                (try with_reducible rfl)
              (try simp only [Act.put, List.setIfInBounds_toArray, List.set_cons_zero, List.set_cons_succ])
              refine H_take (k := 8) (v := ?_) (by rfl) (by kernel_rfl) (by kernel_rfl) (by kernel_rfl) (by exact fun _ _ _ h => h) (by rfl) ?_ (by assumption) ?_
              rotate_left 1
              · intro w hSw
                (try dsimp only at hSw)
                go_simp
                (try with_reducible rfl)
              (try simp only [Act.put, List.setIfInBounds_toArray, List.set_cons_zero, List.set_cons_succ])
              refine H_take (k := 9) (v := .agg #[.string psn2, .string dev2, .int .i64 st2, .int .i64 at2, .int .i64 un2, .string note2]) (by rfl) (by kernel_rfl) (by kernel_rfl) (by kernel_rfl) (by exact fun _ _ _ h => h) (by rfl) (fun w' hSw => exec_ldr Tryz.bcT _ rfl _ rfl [.string psn2, .string dev2, .int .i64 st2, .int .i64 at2, .int .i64 un2, .string note2] (fun j u hu => by rw [add_mk]; have hcc := ((HRO.out.grown hSw (fun g e => by cases e)).at_ BcV.row_len HY.out) j u hu; simp only [Nat.zero_add] at hcc; exact hcc) rfl) (by assumption) ?_
              (try simp only [Act.put, List.setIfInBounds_toArray, List.set_cons_zero, List.set_cons_succ])
              refine H_run (k := 10) (by rfl) (by kernel_rfl) (by rfl) (fun K hK => ?_)
              go_simp
              refine (sameBeacon_any ⟨psn1, dev1, st1, at1, un1, note1⟩ ⟨psn2, dev2, st2, at2, un2, note2⟩ _ (HK.out _ HMX.out) (HK.out _ HMY.out)).mono ?_
              rintro e w6 ⟨rfl, hg6⟩
              obtain ⟨ZB, hZB⟩ : ∃ ZB, (bcCmp ⟨psn1, dev1, st1, at1, un1, note1⟩ ⟨psn2, dev2, st2, at2, un2, note2⟩ == 0) = ZB := ⟨_, rfl⟩
              rw [hZB]
              have hgz := gr_none hHeld hg6
              refine hK _ _ hgz ?_
              clear hK K hHeld hg6
              have hHeld := hgz
              (try simp only [Act.put, List.setIfInBounds_toArray, List.set_cons_zero, List.set_cons_succ])
              refine H_take (k := 11) (v := ?_) (by rfl) (by kernel_rfl) (by kernel_rfl) (by kernel_rfl) (by exact fun _ _ _ h => h) (by rfl) ?_ (by assumption) ?_
              rotate_left 1
              · intro w hSw
                (try dsimp only at hSw)
                go_simp
                (try with_reducible rfl)
              (try simp only [Act.put, List.setIfInBounds_toArray, List.set_cons_zero, List.set_cons_succ])
              refine H_done (by kernel_rfl) ?_
              have HO6 := Lib.hid (HO.out.kept hgz (fun g e => by cases e))
              have HG6 := Lib.hid (gr_none HG.out hgz)
              clear hgz hHeld hZB
              have HRO6 := Lib.hid (HO6.out.recs.dropK BcV.row_len (i := k) (by omega))
              have HC := Lib.hid (HRO6.out.at_ BcV.row_len HX.out)
              clear s1 s2 s3 s4 s5
              cases ZB
              · go_wp2_with (first
                  | (refine wpl_load_at Tryz.bcT rfl _ rfl _ rfl [.string psn1, .string dev1, .int .i64 st1, .int .i64 at1, .int .i64 un1, .string note1] rfl (fun j u hu => by rw [add_mk]; have hcc := HC.out j u hu; (try simp only [Nat.zero_add] at hcc); exact hcc) ?_)
                  | (refine wpl_store_rec (row := BcV.row) rfl Tryz.bcT BcV.row_len (by decide) _ _ rfl j _ rfl rfl ⟨psn1, dev1, st1, at1, un1, note1⟩ rfl HO6.out (by omega) (BcV.one _) ?_
                     intro w8 hown8 hg8
                     have HO8 := Lib.hid hown8
                     have HG8 := Lib.hid (gr_same HG6.out hg8)
                     clear hown8 hg8)
                  | fail)
                go_roundw
                case rel => exact ⟨j + 1, q + 1, _, by go_num, by go_num, by omega, by omega, by omega, by omega, ⟨HO8.out, fun r hr => by
                  rcases List.mem_or_eq_of_mem_set hr with h | rfl
                  · exact HK.out r h
                  · exact HK.out _ HMX.out⟩, HG8.out⟩
                case measure => simp [intOf]; omega
              · go_wp2_with fail
                go_roundw
                case rel => exact ⟨j, q + 1, l1, rfl, by go_num, by omega, by omega, by omega, by omega, ⟨HO6.out, HK.out⟩, HG6.out⟩
                case measure => simp [intOf]; omega
            · obtain rfl : q = n - k := by omega
              have hi2 : (j : Int) < (n : Int) := by omega
              have hi3 : (j : Int) ≤ (n : Int) := by omega
              have hcj : ¬ c = j := by omega
              obtain ⟨w9, hclr, ho9, hg9⟩ := run_clear_rows (P := Tryz.prog) Tryz.underlying57 Tryz.zeroValue62 rfl (by decide) (by intro v hv; simp [Value.cells] at hv; rcases hv with rfl | rfl | rfl | rfl | rfl | rfl <;> rfl) HO.out.1 j (j * 6) rfl (show j < n by omega) (n - j) (c - j) rfl
              have HO9 := Lib.hid (show OwnR BcV.row 6 w9 lo 62 (some ⟨g, 0, none⟩) j c (l1.take j) from ⟨by rw [← flat_take2 BcV.row_len]; exact ho9, by rw [List.length_take, HO.out.2]; omega⟩)
              have HG9 := Lib.hid (gr_same HG.out hg9)
              clear ho9 hg9
              go_wp2_with fail
              go_ret
              exact ⟨j, l1.take j, rfl, ⟨HO9.out, fun r hr => HK.out r (List.mem_of_mem_take hr)⟩, HG9.out, by omega⟩
      · obtain rfl : k = n := by omega
        go_wp2_with fail
        go_ret
        exact ⟨k, l, rfl, ⟨HO.out, H.out.2⟩, HG.out, Nat.le_refl _⟩
end Go.Proofs.YtgogiljplnninaaGreatDoor

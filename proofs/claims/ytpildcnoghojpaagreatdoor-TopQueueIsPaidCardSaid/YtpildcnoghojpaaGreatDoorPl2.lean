/- Contracts of slices.SortStableFunc at few waiters and of the program's line. Conditions: a player that is played. -/
import Derived.Test.YtpildcnoghojpaaGreatDoorPl1
namespace Go.Proofs.YtpildcnoghojpaaGreatDoor
open Go.RowKit

theorem Tryz.wlT : ElemT Tryz.prog 111 117 1 8 (.pointer none) := elemT_of Tryz.underlying111 (by kernel_rfl) rfl (by decide)
def wRow (R : PlC) (i : Nat) : List Value := [.pointer (some ⟨R.wi.getD i 0, 0, none⟩)]
theorem wRow_len (R : PlC) (i : Nat) : (wRow R i).length = 1 := rfl
/-- A player that is played, since the world wb. -/
structure Pm (wb w : World) (R : PlC) (s : StyV) (A : List AgV) (C : List CaV) (p : PlS) : Prop where
  g : wb.grownBy w none
  at_ : PlAt w wb.heap.size R s A C p
  ags : ∀ a ∈ A, AgOk wb 0 a
  m : A.length ≤ 1000
  n : C.length ≤ 19
  an : ∀ a ∈ A, AgN a ∧ a.key.size ≤ 1000
  cn : ∀ c ∈ C, CaN c ∧ CaOk c
  age : 0 ≤ s.age
  bd : ∀ x ∈ p.dk, 0 ≤ x.tk ∧ x.tk ≤ 2000000000000 ∧ 0 ≤ x.en ∧ x.en ≤ 2000000000000 ∧ 0 ≤ x.n ∧ x.n ≤ 1000000
section
variable {wb w w' : World} {R : PlC} {s : StyV} {A : List AgV} {C : List CaV} {p : PlS}
theorem Pm.kept (h : Pm wb w R s A C p) (hg : w.grownBy w' none) : Pm wb w' R s A C p := ⟨gr_none h.g hg, h.at_.kept0 hg, h.ags, h.m, h.n, h.an, h.cn, h.age, h.bd⟩
theorem Pm.ag (h : Pm wb w R s A C p) {i : Nat} {a : AgV} (ha : A[i]? = some a) : AgOk w 0 a := (h.ags a (mem_of_get ha)).grown h.g (fun g e => by cases e)
theorem Pm.pp (h : Pm wb w R s A C p) : Blk w R.pb 113 #[.int .i64 s.kind, .int .i64 s.age, .int .i64 s.say, .slice R.D A.length R.dc, .slice R.W C.length R.wc, .string p.last] := h.at_.pl
theorem getD_some {l : List Nat} {i b : Nat} (h : l[i]? = some b) : l.getD i 0 = b := by rw [List.getD_eq_getElem?_getD, h]; rfl
theorem rawP_len (wt : List WtV) (k : Nat) : (rawP wt k).length ≤ k := by
  induction k with
  | zero => exact Nat.le_refl _
  | succ k ih =>
    show (rawP wt k ++ (wt[k]?).elim [] _).length ≤ _
    rw [List.length_append]
    cases wt[k]? with
    | none => show _ + 0 ≤ _; omega
    | some x =>
      show _ + (if inL x then [k] else []).length ≤ _
      split
      · show _ + 1 ≤ _; omega
      · show _ + 0 ≤ _; omega
theorem rawP_mem {wt : List WtV} {k i : Nat} (h : i ∈ rawP wt k) : i < k ∧ ∃ x, wt[i]? = some x ∧ inL x = true := by
  induction k with
  | zero => cases h
  | succ k ih =>
    rcases List.mem_append.1 h with h | h
    · obtain ⟨h1, h2⟩ := ih h; exact ⟨by omega, h2⟩
    · cases hx : wt[k]? with
      | none => rw [hx] at h; cases h
      | some x =>
        rw [hx] at h
        change i ∈ (if inL x = true then [k] else []) at h
        split at h
        · rename_i hl
          rw [List.mem_singleton.1 h]
          exact ⟨by omega, x, hx, hl⟩
        · cases h
end
set_option maxHeartbeats 8000000 in
set_option maxRecDepth 100000 in
theorem wlIns_any (R : PlC) (lt : Nat → Nat → Bool) (lo : Nat) (A : Option Addr) (n c : Nat) (l : List Nat) (K1 K2 : Value) (w : World) (h : OwnR (wRow R) 1 w lo 117 A n c l) (hn : n ≤ 1000)
    (hcmp : ∀ (w1 : World) (x y : Nat), w.grownBy w1 (blkOf A) → x ∈ l → y ∈ l → ∃ z : Int, decide (z < 0) = lt x y ∧ Calls Tryz.prog 105 #[.pointer (some ⟨R.wi.getD x 0, 0, none⟩), .pointer (some ⟨R.wi.getD y 0, 0, none⟩), K1, K2] w1 (RetV (.int .i64 z) w1)) :
    Calls Tryz.prog 131 #[.slice A n c, .int .i64 0, .int .i64 n, .func (.func 105) #[] #[K1, K2]] w (fun e w' => e = .returned (.tuple #[]) ∧ OwnR (wRow R) 1 w' lo 117 A n c (srt lt l) ∧ w.grownBy w' (blkOf A)) := by
  have H := Lib.hid h; have HCMP := Lib.hid hcmp; clear h hcmp
  go_enter Tryz.func131, Tryz.ntmps131
  go_wp2_with fail
  go_loopw [8, 9] (fun t _ wr => ∃ (i : Nat) (l' : List Nat), t = .int .i64 i ∧ 1 ≤ i ∧ (i ≤ n ∨ i = 1) ∧ OwnR (wRow R) 1 wr lo 117 A n c l' ∧ w.grownBy wr (blkOf A) ∧ srtTo lt l i = l') (fun t _ _ => n + 1 - (intOf t).toNat)
  case atStart => exact ⟨1, l, rfl, Nat.le_refl _, .inr rfl, H.out, gr_refl _ _, rfl⟩
  case round =>
    obtain ⟨i, l1, rfl, hi, hi2, hown, hg, hsr⟩ := hrel
    have HO := Lib.hid hown; have HG := Lib.hid hg; have HSR := Lib.hid hsr; clear hown hg hsr
    have HLM := Lib.hid (show ∀ x ∈ l1, x ∈ l from fun x hx => srtTo_mem (lt := lt) (i := i) (by rw [HSR.out]; exact hx))
    by_cases hlt : i < n
    · obtain ⟨g, rfl, _, _⟩ := H.out.1.pos (by omega)
      have hl0 : (i : Int) < (n : Int) := by omega
      go_wp2_with fail
      go_loopw [9] (fun t wr => ∃ (j : Nat) (l' : List Nat), t = .int .i64 j ∧ j ≤ i ∧ OwnR (wRow R) 1 wr lo 117 (some ⟨g, 0, none⟩) n c l' ∧ w.grownBy wr (some g) ∧ sink lt l' j = sink lt l1 i ∧ ∀ x ∈ l', x ∈ l) (fun t _ => (intOf t).toNat)
      case atStart => exact ⟨i, l1, rfl, Nat.le_refl _, HO.out, HG.out, rfl, HLM.out⟩
      case round =>
        clear HO HG
        obtain ⟨j, l2, rfl, hj, hown, hg, hsk, hmem⟩ := hrel
        have HO := Lib.hid hown; have HG := Lib.hid hg; have HSK := Lib.hid hsk; have HM := Lib.hid hmem; clear hown hg hsk hmem
        have hHeld : wr.grownBy wr.drew none := gr_drew (gr_refl _ _)
        by_cases h0 : 0 < j
        · obtain ⟨q, rfl⟩ : ∃ q, j = q + 1 := ⟨j - 1, by omega⟩
          obtain ⟨x, hx⟩ : ∃ b, l2[q + 1]? = some b := ⟨_, List.getElem?_eq_getElem (by rw [HO.out.2]; omega)⟩
          obtain ⟨y, hy⟩ : ∃ b, l2[q]? = some b := ⟨_, List.getElem?_eq_getElem (by rw [HO.out.2]; omega)⟩
          have HX := Lib.hid hx; have HY := Lib.hid hy; clear hx hy
          have hi0 : decide ((0 : Int) < ((q + 1 : Nat) : Int)) = true := decide_eq_true (by omega)
          have hi1 : decide ((0 : Int) < (q : Int) + 1) = true := decide_eq_true (by omega)
          have q1 : IntKind.i64.wrap (q : Int) = (q : Int) := IntWalk.i64_in _ (by omega)
          have q2 : (0 : Int) ≤ (q : Int) + 1 := by omega
          have q3 : (q : Int) + 1 < (n : Int) := by omega
          have q4 : ((q : Int) + 1).toNat = q + 1 := by omega
          have q5 : (0 : Int) ≤ (q : Int) := by omega
          have q6 : (q : Int) < (n : Int) := by omega
          go_wp2_with fail
          refine H_begin (fun w' => wr.grownBy w' none) (by kernel_rfl) ?_
          refine H_take (k := 0) (v := ?_) (by rfl) (by kernel_rfl) (by kernel_rfl) (by kernel_rfl) (by exact fun _ _ _ h => h) (by rfl) ?_ (by assumption) ?_
          rotate_left 1
          · intro w hSw
            (try dsimp only at hSw)
            go_simp
            (try with_reducible rfl)
          (try simp only [Act.put, List.setIfInBounds_toArray, List.set_cons_zero, List.set_cons_succ])
          refine H_take (k := 1) (v := ?_) (by rfl) (by kernel_rfl) (by kernel_rfl) (by kernel_rfl) (by exact fun _ _ _ h => h) (by rfl) ?_ (by assumption) ?_
          rotate_left 1
          · intro w hSw
            (try dsimp only at hSw)
            go_simp
            (try with_reducible rfl)
          (try simp only [Act.put, List.setIfInBounds_toArray, List.set_cons_zero, List.set_cons_succ])
          refine H_take (k := 2) (v := ?_) (by rfl) (by kernel_rfl) (by kernel_rfl) (by kernel_rfl) (by exact fun _ _ _ h => h) (by rfl) ?_ (by assumption) ?_
          rotate_left 1
          · intro w hSw
            (try dsimp only at hSw)
            go_simp
            (try with_reducible rfl)
          (try simp only [Act.put, List.setIfInBounds_toArray, List.set_cons_zero, List.set_cons_succ])
          refine H_take (k := 3) (v := ?_) (by rfl) (by kernel_rfl) (by kernel_rfl) (by kernel_rfl) (by exact fun _ _ _ h => h) (by rfl) ?_ (by assumption) ?_
          rotate_left 1
          · intro w hSw
            (try dsimp only at hSw)
            go_simp
            (try with_reducible rfl)
          (try simp only [Act.put, List.setIfInBounds_toArray, List.set_cons_zero, List.set_cons_succ])
          refine H_take (k := 4) (v := ?_) (by rfl) (by kernel_rfl) (by kernel_rfl) (by kernel_rfl) (by exact fun _ _ _ h => h) (by rfl) ?_ (by assumption) ?_
          rotate_left 1
          · intro w hSw
            (try dsimp only at hSw)
            go_simp
            (try with_reducible rfl)
          (try simp only [Act.put, List.setIfInBounds_toArray, List.set_cons_zero, List.set_cons_succ])
          refine H_take (k := 5) (v := ?_) (by rfl) (by kernel_rfl) (by kernel_rfl) (by kernel_rfl) (by exact fun _ _ _ h => h) (by rfl) ?_ (by assumption) ?_
          rotate_left 1
          · intro w hSw
            (try dsimp only at hSw)
            go_simp
            (try with_reducible rfl)
          (try simp only [Act.put, List.setIfInBounds_toArray, List.set_cons_zero, List.set_cons_succ])
          refine H_take (k := 6) (v := ?_) (by rfl) (by kernel_rfl) (by kernel_rfl) (by kernel_rfl) (by exact fun _ _ _ h => h) (by rfl) ?_ (by assumption) ?_
          rotate_left 1
          · intro w hSw
            (try dsimp only at hSw)
            go_simp
            (try with_reducible rfl)
          (try simp only [Act.put, List.setIfInBounds_toArray, List.set_cons_zero, List.set_cons_succ])
          refine H_take (k := 7) (v := ?_) (by rfl) (by kernel_rfl) (by kernel_rfl) (by kernel_rfl) (by exact fun _ _ _ h => h) (by rfl) ?_ (by assumption) ?_
          rotate_left 1
          · intro w hSw
            (try dsimp only at hSw)
            go_simp
            (try with_reducible rfl)
          (try simp only [Act.put, List.setIfInBounds_toArray, List.set_cons_zero, List.set_cons_succ])
          refine H_take (k := 8) (v := ?_) (by rfl) (by kernel_rfl) (by kernel_rfl) (by kernel_rfl) (by exact fun _ _ _ h => h) (by rfl) ?_ (by assumption) ?_
          rotate_left 1
          · intro w' hSw
            have kc := (HO.out.recs.grown hSw (fun g e => by cases e)).at_ (wRow_len R) HX.out 0 _ rfl
            simp only [Nat.mul_one, Nat.add_zero, Nat.zero_add] at kc
            go_simp
            (try with_reducible rfl)
          (try simp only [Act.put, List.setIfInBounds_toArray, List.set_cons_zero, List.set_cons_succ])
          refine H_take (k := 9) (v := ?_) (by rfl) (by kernel_rfl) (by kernel_rfl) (by kernel_rfl) (by exact fun _ _ _ h => h) (by rfl) ?_ (by assumption) ?_
          rotate_left 1
          · intro w hSw
            (try dsimp only at hSw)
            go_simp
            (try with_reducible rfl)
          (try simp only [Act.put, List.setIfInBounds_toArray, List.set_cons_zero, List.set_cons_succ])
          refine H_take (k := 10) (v := ?_) (by rfl) (by kernel_rfl) (by kernel_rfl) (by kernel_rfl) (by exact fun _ _ _ h => h) (by rfl) ?_ (by assumption) ?_
          rotate_left 1
          · intro w hSw
            (try dsimp only at hSw)
            go_simp
            (try with_reducible rfl)
          (try simp only [Act.put, List.setIfInBounds_toArray, List.set_cons_zero, List.set_cons_succ])
          refine H_take (k := 11) (v := ?_) (by rfl) (by kernel_rfl) (by kernel_rfl) (by kernel_rfl) (by exact fun _ _ _ h => h) (by rfl) ?_ (by assumption) ?_
          rotate_left 1
          · intro w hSw
            (try dsimp only at hSw)
            go_simp
            (try with_reducible rfl)
          (try simp only [Act.put, List.setIfInBounds_toArray, List.set_cons_zero, List.set_cons_succ])
          refine H_take (k := 12) (v := ?_) (by rfl) (by kernel_rfl) (by kernel_rfl) (by kernel_rfl) (by exact fun _ _ _ h => h) (by rfl) ?_ (by assumption) ?_
          rotate_left 1
          · intro w hSw
            (try dsimp only at hSw)
            go_simp
            (try with_reducible rfl)
          (try simp only [Act.put, List.setIfInBounds_toArray, List.set_cons_zero, List.set_cons_succ])
          refine H_take (k := 13) (v := ?_) (by rfl) (by kernel_rfl) (by kernel_rfl) (by kernel_rfl) (by exact fun _ _ _ h => h) (by rfl) ?_ (by assumption) ?_
          rotate_left 1
          · intro w' hSw
            have kc := (HO.out.recs.grown hSw (fun g e => by cases e)).at_ (wRow_len R) HY.out 0 _ rfl
            simp only [Nat.mul_one, Nat.add_zero, Nat.zero_add] at kc
            go_simp
            (try with_reducible rfl)
          (try simp only [Act.put, List.setIfInBounds_toArray, List.set_cons_zero, List.set_cons_succ])
          refine H_run (k := 14) (by rfl) (by kernel_rfl) (by rfl) (fun K hK => ?_)
          go_simp
          obtain ⟨Z, hZ, hcall⟩ := HCMP.out _ x y (gr_drew HG.out) (HM.out _ (mem_of_get HX.out)) (HM.out _ (mem_of_get HY.out))
          refine hcall.mono ?_
          rintro e w6 ⟨rfl, hg6⟩
          clear hcall
          go_simp
          have hgz : wr.grownBy w6 none := gr_none (gr_drew (gr_refl wr none)) hg6
          refine hK _ _ hgz ?_
          clear hK K hHeld hg6
          have hHeld := hgz
          obtain ⟨ZB, hZB⟩ : ∃ ZB, decide (Z < 0) = ZB := ⟨_, rfl⟩
          have HZB := Lib.hid (show lt x y = ZB from hZ.symm.trans hZB)
          clear hZ
          refine H_take (k := 15) (v := ?_) (by rfl) (by kernel_rfl) (by kernel_rfl) (by kernel_rfl) (by exact fun _ _ _ h => h) (by rfl) ?_ (by assumption) ?_
          rotate_left 1
          · intro w hSw
            (try dsimp only at hSw)
            go_simp
            (try with_reducible rfl)
          (try simp only [Act.put, List.setIfInBounds_toArray, List.set_cons_zero, List.set_cons_succ])
          refine H_take (k := 16) (v := ?_) (by rfl) (by kernel_rfl) (by kernel_rfl) (by kernel_rfl) (by exact fun _ _ _ h => h) (by rfl) ?_ (by assumption) ?_
          rotate_left 1
          · intro w hSw
            (try dsimp only at hSw)
            go_simp
            (try with_reducible rfl)
          (try simp only [Act.put, List.setIfInBounds_toArray, List.set_cons_zero, List.set_cons_succ])
          refine H_done (by kernel_rfl) ?_
          clear hi0 hi1 hHeld
          have HO6 := Lib.hid (HO.out.kept hgz (fun g e => by cases e))
          have HG6 := Lib.hid (gr_none HG.out hgz)
          clear hgz hZB
          cases ZB
          · clear q1 q2 q3 q4 q5 q6
            go_wp2_with fail
            go_roundw
            case rel => exact ⟨i + 1, l2, by go_num, by omega, .inl (by omega), HO6.out, HG6.out, by show sink lt (srtTo lt l i) i = l2; rw [HSR.out, ← HSK.out]; exact sink_no HX.out HY.out HZB.out⟩
            case measure => simp [intOf]; omega
          · go_wp2_with fail
            refine wp_region_B (fun w' => w6.grownBy w' none) 15 (by kernel_rfl) ?_
            have hHeld : w6.grownBy w6.drew none := gr_drew (gr_refl _ _)
            refine B_take (k := 0) false (v := ?_) (by rfl) (by kernel_rfl) (by exact fun _ _ _ h => h) (by rfl) ?_ (by first | exact .inr hHeld | exact .inl (by rfl)) ?_
            rotate_left 1
            · intro w hSw
              clear hSw
              go_simp
              (try with_reducible rfl)
            (try simp only [Act.put, List.setIfInBounds_toArray, List.set_cons_zero, List.set_cons_succ])
            refine B_take (k := 1) false (v := ?_) (by rfl) (by kernel_rfl) (by exact fun _ _ _ h => h) (by rfl) ?_ (by first | exact .inr hHeld | exact .inl (by rfl)) ?_
            rotate_left 1
            · intro w hSw
              clear hSw
              go_simp
              (try with_reducible rfl)
            (try simp only [Act.put, List.setIfInBounds_toArray, List.set_cons_zero, List.set_cons_succ])
            refine B_take (k := 2) false (v := ?_) (by rfl) (by kernel_rfl) (by exact fun _ _ _ h => h) (by rfl) ?_ (by first | exact .inr hHeld | exact .inl (by rfl)) ?_
            rotate_left 1
            · intro w hSw
              clear hSw
              go_simp
              (try with_reducible rfl)
            (try simp only [Act.put, List.setIfInBounds_toArray, List.set_cons_zero, List.set_cons_succ])
            refine B_take (k := 3) false (v := ?_) (by rfl) (by kernel_rfl) (by exact fun _ _ _ h => h) (by rfl) ?_ (by first | exact .inr hHeld | exact .inl (by rfl)) ?_
            rotate_left 1
            · intro w hSw
              clear hSw
              go_simp
              (try with_reducible rfl)
            (try simp only [Act.put, List.setIfInBounds_toArray, List.set_cons_zero, List.set_cons_succ])
            refine B_take (k := 4) false (v := ?_) (by rfl) (by kernel_rfl) (by exact fun _ _ _ h => h) (by rfl) ?_ (by first | exact .inr hHeld | exact .inl (by rfl)) ?_
            rotate_left 1
            · intro w hSw
              clear hSw
              go_simp
              (try with_reducible rfl)
            (try simp only [Act.put, List.setIfInBounds_toArray, List.set_cons_zero, List.set_cons_succ])
            refine B_take (k := 5) false (v := ?_) (by rfl) (by kernel_rfl) (by exact fun _ _ _ h => h) (by rfl) ?_ (by first | exact .inr hHeld | exact .inl (by rfl)) ?_
            rotate_left 1
            · intro w hSw
              clear hSw
              go_simp
              (try with_reducible rfl)
            (try simp only [Act.put, List.setIfInBounds_toArray, List.set_cons_zero, List.set_cons_succ])
            refine B_take (k := 6) false (v := ?_) (by rfl) (by kernel_rfl) (by exact fun _ _ _ h => h) (by rfl) ?_ (by first | exact .inr hHeld | exact .inl (by rfl)) ?_
            rotate_left 1
            · intro w hSw
              clear hSw
              go_simp
              (try with_reducible rfl)
            (try simp only [Act.put, List.setIfInBounds_toArray, List.set_cons_zero, List.set_cons_succ])
            refine B_take (k := 7) false (v := ?_) (by rfl) (by kernel_rfl) (by exact fun _ _ _ h => h) (by rfl) ?_ (by first | exact .inr hHeld | exact .inl (by rfl)) ?_
            rotate_left 1
            · intro w hSw
              clear hSw
              go_simp
              (try with_reducible rfl)
            (try simp only [Act.put, List.setIfInBounds_toArray, List.set_cons_zero, List.set_cons_succ])
            refine B_take (k := 8) false (v := ?_) (by rfl) (by kernel_rfl) (by exact fun _ _ _ h => h) (by rfl) ?_ (by first | exact .inr hHeld | exact .inl (by rfl)) ?_
            rotate_left 1
            · intro w hSw
              clear hSw
              go_simp
              (try with_reducible rfl)
            (try simp only [Act.put, List.setIfInBounds_toArray, List.set_cons_zero, List.set_cons_succ])
            refine B_take (k := 9) true (v := ?_) (by rfl) (by kernel_rfl) (by exact fun _ _ _ h => h) (by rfl) ?_ (.inr hHeld) ?_
            rotate_left 1
            · intro w' hSw
              have kc := (HO6.out.recs.grown hSw (fun g e => by cases e)).at_ (wRow_len R) HY.out 0 _ rfl
              simp only [Nat.mul_one, Nat.add_zero, Nat.zero_add] at kc
              go_simp
              (try with_reducible rfl)
            (try simp only [Act.put, List.setIfInBounds_toArray, List.set_cons_zero, List.set_cons_succ])
            refine B_take (k := 10) false (v := ?_) (by rfl) (by kernel_rfl) (by exact fun _ _ _ h => h) (by rfl) ?_ (by first | exact .inr hHeld | exact .inl (by rfl)) ?_
            rotate_left 1
            · intro w hSw
              clear hSw
              go_simp
              (try with_reducible rfl)
            (try simp only [Act.put, List.setIfInBounds_toArray, List.set_cons_zero, List.set_cons_succ])
            refine B_take (k := 11) false (v := ?_) (by rfl) (by kernel_rfl) (by exact fun _ _ _ h => h) (by rfl) ?_ (by first | exact .inr hHeld | exact .inl (by rfl)) ?_
            rotate_left 1
            · intro w hSw
              clear hSw
              go_simp
              (try with_reducible rfl)
            (try simp only [Act.put, List.setIfInBounds_toArray, List.set_cons_zero, List.set_cons_succ])
            refine B_take (k := 12) false (v := ?_) (by rfl) (by kernel_rfl) (by exact fun _ _ _ h => h) (by rfl) ?_ (by first | exact .inr hHeld | exact .inl (by rfl)) ?_
            rotate_left 1
            · intro w hSw
              clear hSw
              go_simp
              (try with_reducible rfl)
            (try simp only [Act.put, List.setIfInBounds_toArray, List.set_cons_zero, List.set_cons_succ])
            refine B_take (k := 13) true (v := ?_) (by rfl) (by kernel_rfl) (by exact fun _ _ _ h => h) (by rfl) ?_ (.inr hHeld) ?_
            rotate_left 1
            · intro w' hSw
              have kc := (HO6.out.recs.grown hSw (fun g e => by cases e)).at_ (wRow_len R) HX.out 0 _ rfl
              simp only [Nat.mul_one, Nat.add_zero, Nat.zero_add] at kc
              go_simp
              (try with_reducible rfl)
            (try simp only [Act.put, List.setIfInBounds_toArray, List.set_cons_zero, List.set_cons_succ])
            refine B_take (k := 14) false (v := ?_) (by rfl) (by kernel_rfl) (by exact fun _ _ _ h => h) (by rfl) ?_ (by first | exact .inr hHeld | exact .inl (by rfl)) ?_
            rotate_left 1
            · intro w hSw
              clear hSw
              go_simp
              (try with_reducible rfl)
            (try simp only [Act.put, List.setIfInBounds_toArray, List.set_cons_zero, List.set_cons_succ])
            refine B_run (k := 15) (by rfl) (by kernel_rfl) (by rfl) (fun K hK => ?_)
            refine wp_store_one (row := (wRow R)) (by kernel_rfl) (wRow_len R) _ _ rfl (q + 1) rfl y (.pointer (some ⟨R.wi.getD y 0, 0, none⟩)) rfl rfl rfl (HO6.out.kept (gr_drew (gr_refl _ none)) (fun g e => by cases e)) (by omega) rfl ?_
            intro w7 hown7 hg7
            refine hK _ _ (.inl (by rfl)) ?_
            clear hK K hHeld
            (try simp only [Act.put, List.setIfInBounds_toArray, List.set_cons_zero, List.set_cons_succ])
            refine B_take (k := 16) false (v := ?_) (by rfl) (by kernel_rfl) (by exact fun _ _ _ h => h) (by rfl) ?_ (by first | exact .inr hHeld | exact .inl (by rfl)) ?_
            rotate_left 1
            · intro w hSw
              clear hSw
              go_simp
              (try with_reducible rfl)
            (try simp only [Act.put, List.setIfInBounds_toArray, List.set_cons_zero, List.set_cons_succ])
            refine B_run (k := 17) (by rfl) (by kernel_rfl) (by rfl) (fun K hK => ?_)
            refine wp_store_one (row := (wRow R)) (by kernel_rfl) (wRow_len R) _ _ rfl q rfl x (.pointer (some ⟨R.wi.getD x 0, 0, none⟩)) rfl rfl rfl hown7 (by omega) rfl ?_
            intro w8 hown8 hg8
            refine hK _ _ (.inl (by rfl)) ?_
            clear hK K
            (try simp only [Act.put, List.setIfInBounds_toArray, List.set_cons_zero, List.set_cons_succ])
            refine B_done (by kernel_rfl) ?_
            have HO8 := Lib.hid hown8
            have HG8 := Lib.hid (gr_same HG6.out (gr_same (gr_same (gr_drew (gr_refl w6 _)) hg7) hg8))
            clear hown7 hg7 hown8 hg8 q1 q2 q3 q4 q5 q6
            go_simp
            go_wp2_with fail
            go_roundw
            case rel => exact ⟨q, _, by go_num, by omega, HO8.out, HG8.out, by rw [← HSK.out]; exact (sink_yes HX.out HY.out HZB.out).symm, fun z hz => HM.out z (swap_mem (mem_of_get HX.out) (mem_of_get HY.out) hz)⟩
            case measure => simp [intOf]
        · obtain rfl : j = 0 := by omega
          have hi0 : decide ((0 : Int) < ((0 : Nat) : Int)) = false := by decide
          go_wp2_with fail
          refine H_begin (fun w' => wr.grownBy w' none) (by kernel_rfl) ?_
          refine H_take (k := 0) (v := ?_) (by rfl) (by kernel_rfl) (by kernel_rfl) (by kernel_rfl) (by exact fun _ _ _ h => h) (by rfl) ?_ (by assumption) ?_
          rotate_left 1
          · intro w hSw
            (try dsimp only at hSw)
            go_simp
            (try with_reducible rfl)
          (try simp only [Act.put, List.setIfInBounds_toArray, List.set_cons_zero, List.set_cons_succ])
          refine H_take (k := 1) (v := ?_) (by rfl) (by kernel_rfl) (by kernel_rfl) (by kernel_rfl) (by exact fun _ _ _ h => h) (by rfl) ?_ (by assumption) ?_
          rotate_left 1
          · intro w hSw
            (try dsimp only at hSw)
            go_simp
            (try with_reducible rfl)
          (try simp only [Act.put, List.setIfInBounds_toArray, List.set_cons_zero, List.set_cons_succ])
          refine H_take (k := 2) (v := ?_) (by rfl) (by kernel_rfl) (by kernel_rfl) (by kernel_rfl) (by exact fun _ _ _ h => h) (by rfl) ?_ (by assumption) ?_
          rotate_left 1
          · intro w hSw
            (try dsimp only at hSw)
            go_simp
            (try with_reducible rfl)
          (try simp only [Act.put, List.setIfInBounds_toArray, List.set_cons_zero, List.set_cons_succ])
          refine H_take (k := 3) (v := ?_) (by rfl) (by kernel_rfl) (by kernel_rfl) (by kernel_rfl) (by exact fun _ _ _ h => h) (by rfl) ?_ (by assumption) ?_
          rotate_left 1
          · intro w hSw
            (try dsimp only at hSw)
            go_simp
            (try with_reducible rfl)
          (try simp only [Act.put, List.setIfInBounds_toArray, List.set_cons_zero, List.set_cons_succ])
          refine H_skip (k := 4) (by rfl) (by kernel_rfl) (by kernel_rfl) (by kernel_rfl) (by exact fun _ _ _ h => h) (by rfl) (by assumption) ?_
          (try simp only [Act.put, List.setIfInBounds_toArray, List.set_cons_zero, List.set_cons_succ])
          refine H_skip (k := 5) (by rfl) (by kernel_rfl) (by kernel_rfl) (by kernel_rfl) (by exact fun _ _ _ h => h) (by rfl) (by assumption) ?_
          (try simp only [Act.put, List.setIfInBounds_toArray, List.set_cons_zero, List.set_cons_succ])
          refine H_skip (k := 6) (by rfl) (by kernel_rfl) (by kernel_rfl) (by kernel_rfl) (by exact fun _ _ _ h => h) (by rfl) (by assumption) ?_
          (try simp only [Act.put, List.setIfInBounds_toArray, List.set_cons_zero, List.set_cons_succ])
          refine H_skip (k := 7) (by rfl) (by kernel_rfl) (by kernel_rfl) (by kernel_rfl) (by exact fun _ _ _ h => h) (by rfl) (by assumption) ?_
          (try simp only [Act.put, List.setIfInBounds_toArray, List.set_cons_zero, List.set_cons_succ])
          refine H_skip (k := 8) (by rfl) (by kernel_rfl) (by kernel_rfl) (by kernel_rfl) (by exact fun _ _ _ h => h) (by rfl) (by assumption) ?_
          (try simp only [Act.put, List.setIfInBounds_toArray, List.set_cons_zero, List.set_cons_succ])
          refine H_skip (k := 9) (by rfl) (by kernel_rfl) (by kernel_rfl) (by kernel_rfl) (by exact fun _ _ _ h => h) (by rfl) (by assumption) ?_
          (try simp only [Act.put, List.setIfInBounds_toArray, List.set_cons_zero, List.set_cons_succ])
          refine H_skip (k := 10) (by rfl) (by kernel_rfl) (by kernel_rfl) (by kernel_rfl) (by exact fun _ _ _ h => h) (by rfl) (by assumption) ?_
          (try simp only [Act.put, List.setIfInBounds_toArray, List.set_cons_zero, List.set_cons_succ])
          refine H_skip (k := 11) (by rfl) (by kernel_rfl) (by kernel_rfl) (by kernel_rfl) (by exact fun _ _ _ h => h) (by rfl) (by assumption) ?_
          (try simp only [Act.put, List.setIfInBounds_toArray, List.set_cons_zero, List.set_cons_succ])
          refine H_skip (k := 12) (by rfl) (by kernel_rfl) (by kernel_rfl) (by kernel_rfl) (by exact fun _ _ _ h => h) (by rfl) (by assumption) ?_
          (try simp only [Act.put, List.setIfInBounds_toArray, List.set_cons_zero, List.set_cons_succ])
          refine H_skip (k := 13) (by rfl) (by kernel_rfl) (by kernel_rfl) (by kernel_rfl) (by exact fun _ _ _ h => h) (by rfl) (by assumption) ?_
          (try simp only [Act.put, List.setIfInBounds_toArray, List.set_cons_zero, List.set_cons_succ])
          refine H_skip (k := 14) (by rfl) (by kernel_rfl) (by kernel_rfl) (by kernel_rfl) (by exact fun _ _ _ h => h) (by rfl) (by assumption) ?_
          (try simp only [Act.put, List.setIfInBounds_toArray, List.set_cons_zero, List.set_cons_succ])
          refine H_skip (k := 15) (by rfl) (by kernel_rfl) (by kernel_rfl) (by kernel_rfl) (by exact fun _ _ _ h => h) (by rfl) (by assumption) ?_
          (try simp only [Act.put, List.setIfInBounds_toArray, List.set_cons_zero, List.set_cons_succ])
          refine H_take (k := 16) (v := ?_) (by rfl) (by kernel_rfl) (by kernel_rfl) (by kernel_rfl) (by exact fun _ _ _ h => h) (by rfl) ?_ (by assumption) ?_
          rotate_left 1
          · intro w hSw
            (try dsimp only at hSw)
            go_simp
            (try with_reducible rfl)
          (try simp only [Act.put, List.setIfInBounds_toArray, List.set_cons_zero, List.set_cons_succ])
          refine H_done (by kernel_rfl) ?_
          clear hi0 hHeld
          have HO6 := Lib.hid (HO.out.kept (gr_drew (gr_refl _ none)) (fun g e => by cases e))
          have HG6 := Lib.hid (gr_drew HG.out)
          go_wp2_with fail
          go_roundw
          case rel => exact ⟨i + 1, l2, by go_num, by omega, .inl (by omega), HO6.out, HG6.out, by show sink lt (srtTo lt l i) i = l2; rw [HSR.out, ← HSK.out]; rfl⟩
          case measure => simp [intOf]; omega
    · have hl0 : ¬ (i : Int) < (n : Int) := by omega
      go_wp2_with fail
      go_end0
      refine ⟨rfl, ?_, HG.out⟩
      have e : srt lt l = l1 := by
        unfold srt
        rw [H.out.2]
        by_cases hn0 : n = 0
        · subst hn0
          obtain rfl : i = 1 := by omega
          exact HSR.out
        · obtain rfl : i = n := by omega
          exact HSR.out
      rw [e]
      exact HO.out
set_option maxHeartbeats 2000000 in
theorem wlStb_any (R : PlC) (lt : Nat → Nat → Bool) (lo : Nat) (A : Option Addr) (n c : Nat) (l : List Nat) (K1 K2 : Value) (w : World) (h : OwnR (wRow R) 1 w lo 117 A n c l) (hn : n ≤ 19)
    (hcmp : ∀ (w1 : World) (x y : Nat), w.grownBy w1 (blkOf A) → x ∈ l → y ∈ l → ∃ z : Int, decide (z < 0) = lt x y ∧ Calls Tryz.prog 105 #[.pointer (some ⟨R.wi.getD x 0, 0, none⟩), .pointer (some ⟨R.wi.getD y 0, 0, none⟩), K1, K2] w1 (RetV (.int .i64 z) w1)) :
    Calls Tryz.prog 122 #[.slice A n c, .int .i64 n, .func (.func 105) #[] #[K1, K2]] w (fun e w' => e = .returned (.tuple #[]) ∧ OwnR (wRow R) 1 w' lo 117 A n c (srt lt l) ∧ w.grownBy w' (blkOf A)) := by
  have H := Lib.hid h; have HCMP := Lib.hid hcmp; clear h hcmp
  have d1 : decide ((20 : Int) ≤ (n : Int)) = false := decide_eq_false (by omega)
  have d2 : decide ((20 : Int) < (n : Int)) = false := decide_eq_false (by omega)
  go_enter Tryz.func122, Tryz.ntmps122
  go_wp2_with fail
  go_loopw [7, 8] (fun x y wr => x = .int .i64 0 ∧ y = .int .i64 20 ∧ w = wr) (fun _ _ _ => 0)
  case atStart => exact ⟨rfl, rfl, rfl⟩
  case round =>
    obtain ⟨rfl, rfl, rfl⟩ := hrel
    go_wp2_with fail
    refine (wlIns_any R lt lo A n c l K1 K2 _ H.out (by omega) HCMP.out).mono ?_
    rintro e w2 ⟨rfl, hown, hg⟩
    have HO := Lib.hid hown; have HG := Lib.hid hg; clear hown hg
    go_wp2_with fail
    go_loopw [6, 7, 8] (fun x _ _ wr => x = .int .i64 20 ∧ w2 = wr) (fun _ _ _ _ => 0)
    case atStart => exact ⟨rfl, rfl⟩
    case round =>
      obtain ⟨rfl, rfl⟩ := hrel
      go_wp2_with fail
      go_end0
      exact ⟨rfl, HO.out, HG.out⟩
set_option maxHeartbeats 1000000 in
theorem wlSort_any (R : PlC) (lt : Nat → Nat → Bool) (lo : Nat) (A : Option Addr) (n c : Nat) (l : List Nat) (K1 K2 : Value) (w : World) (h : OwnR (wRow R) 1 w lo 117 A n c l) (hn : n ≤ 19)
    (hcmp : ∀ (w1 : World) (x y : Nat), w.grownBy w1 (blkOf A) → x ∈ l → y ∈ l → ∃ z : Int, decide (z < 0) = lt x y ∧ Calls Tryz.prog 105 #[.pointer (some ⟨R.wi.getD x 0, 0, none⟩), .pointer (some ⟨R.wi.getD y 0, 0, none⟩), K1, K2] w1 (RetV (.int .i64 z) w1)) :
    Calls Tryz.prog 104 #[.slice A n c, .func (.func 105) #[] #[K1, K2]] w (fun e w' => e = .returned (.tuple #[]) ∧ OwnR (wRow R) 1 w' lo 117 A n c (srt lt l) ∧ w.grownBy w' (blkOf A)) := by
  have H := Lib.hid h; have HCMP := Lib.hid hcmp; clear h hcmp
  go_enter Tryz.func104, Tryz.ntmps104
  go_wp2_with fail
  refine (wlStb_any R lt lo A n c l K1 K2 _ H.out hn HCMP.out).mono ?_
  rintro e w2 ⟨rfl, hown, hg⟩
  have HO := Lib.hid hown; have HG := Lib.hid hg; clear hown hg
  go_wp2_with fail
  go_end0
  exact ⟨rfl, HO.out, HG.out⟩
set_option maxHeartbeats 8000000 in
set_option maxRecDepth 100000 in
theorem pline_any (wb : World) (R : PlC) (s : StyV) (A : List AgV) (C : List CaV) (p : PlS) (t : Int) (w : World) (h : Pm wb w R s A C p) (t0 : -1 ≤ t) (t1 : t ≤ 400000000000) :
    Calls Tryz.prog 85 #[.pointer (some ⟨R.pb, 0, none⟩), .int .i64 t] w (fun e w' => ∃ B m c, e = .returned (.slice B m c) ∧ OwnR (wRow R) 1 w' w.heap.size 117 B m c (lineP s C p.wt t) ∧ w.grownBy w' none) := by
  have H := Lib.hid h
  have hn := h.n
  obtain ⟨w0, hw0⟩ : ∃ w0, w.alloc (.cells #[.pointer (some ⟨R.pb, 0, none⟩)] 72) = w0 := ⟨_, rfl⟩
  obtain ⟨w1, hw1⟩ : ∃ w1, w0.alloc (.cells #[.int .i64 t] 3) = w1 := ⟨_, rfl⟩
  have hz0 : w0.heap.size = w.heap.size + 1 := by rw [← hw0]; simp
  have HR1 := Lib.hid (show Blk w1 w.heap.size 72 #[.pointer (some ⟨R.pb, 0, none⟩)] by rw [← hw1, ← hw0]; exact (Blk.new _ _ _).alloc _)
  have HT1 := Lib.hid (show Blk w1 (w.heap.size + 1) 3 #[.int .i64 t] by rw [← hw1, ← hz0]; exact Blk.new _ _ _)
  have HG1 := Lib.hid (show w.grownBy w1 none by rw [← hw1, ← hw0]; exact gr_alloc (gr_alloc (gr_refl _ _) _) _)
  have HW0 := Lib.hid hw0; have HW1 := Lib.hid hw1; have HZ0 := Lib.hid hz0
  clear h hw0 hw1 hz0
  go_enter Tryz.func85, Tryz.ntmps85
  go_upto_region 1 with (fail)
  rw [HW0.out, HW1.out]
  (try rw [HZ0.out])
  clear HW0 HW1 HZ0
  have kr := HR1.out.cell 0
  have k4 := (H.out.kept HG1.out).pp.cell 4
  go_upto_region 3 with (fail)
  clear k4 kr
  go_loopw [5, 7, 13] (fun v _ t13 wr => ∃ (k : Nat) (B : Option Addr) (m cB : Nat), v = .slice B m cB ∧ t13 = .int .i64 k ∧ k ≤ C.length ∧ m ≤ k ∧ OwnR (wRow R) 1 wr (w.heap.size + 2) 117 B m cB (rawP p.wt k) ∧ w.grownBy wr none ∧ Blk wr w.heap.size 72 #[.pointer (some ⟨R.pb, 0, none⟩)] ∧ Blk wr (w.heap.size + 1) 3 #[.int .i64 t]) (fun _ _ t13 _ => C.length - (intOf t13).toNat)
  case atStart => exact ⟨0, none, 0, 0, rfl, rfl, Nat.zero_le _, Nat.zero_le _, OwnR.nil _ _ _, HG1.out, HR1.out, HT1.out⟩
  case round =>
    clear HG1 HR1 HT1
    obtain ⟨k, B, m, cB, rfl, rfl, hk, hmk, hown, hg, hrb, htb⟩ := hrel
    have HO := Lib.hid hown; have HG := Lib.hid hg; have HR := Lib.hid hrb; have HT := Lib.hid htb
    have zr := htb.lt
    clear hown hg hrb htb
    by_cases hlt : k < C.length
    · obtain ⟨c, hc⟩ : ∃ c, C[k]? = some c := ⟨_, List.getElem?_eq_getElem hlt⟩
      obtain ⟨wg, wof, b, hW, hbi, kc, hx, hwb⟩ := (H.out.kept HG.out).at_.waiter hc
      have hlt2 : (k : Int) < (C.length : Int) := by omega
      have HWB := Lib.hid hwb
      obtain ⟨IL, hIL⟩ : ∃ I, inL (wtAt p.wt k) = I := ⟨_, rfl⟩
      have HIL := Lib.hid hIL
      have HRP := Lib.hid (rawP_succ hx)
      have HBI := Lib.hid (getD_some hbi)
      unfold ptrV at kc
      rw [hW]
      have HW := Lib.hid hW
      clear hc hx hwb hIL hbi hW
      go_wp2_with fail
      refine (inLine_any b c _ _ HWB.out).mono ?_
      rintro e w3 ⟨rfl, hg3⟩
      rw [HIL.out]
      replace HO := Lib.hid (HO.out.kept hg3 (fun g e => by cases e))
      replace HR := Lib.hid (HR.out.grown hg3 (by simp))
      replace HT := Lib.hid (HT.out.grown hg3 (by simp))
      replace HG := Lib.hid (gr_none HG.out hg3)
      clear hg3
      cases IL
      · have HE := Lib.hid (show rawP p.wt (k + 1) = rawP p.wt k by rw [HRP.out, HIL.out]; simp)
        go_wp2_with fail
        go_roundw
        case rel => exact ⟨k + 1, B, m, cB, rfl, by go_num, by omega, by omega, by rw [HE.out]; exact HO.out, HG.out, HR.out, HT.out⟩
        case measure => simp [intOf]; omega
      · have HE := Lib.hid (show rawP p.wt (k + 1) = rawP p.wt k ++ [k] by rw [HRP.out, HIL.out]; simp)
        go_wp2_with (first
          | (at_builtin; refine wpl_app _ rfl _ _ Tryz.wlT rfl (w.heap.size + 2) B m cB _ rfl (by exact HO.out.1.alloc _) _ _ 1 1 [.pointer (some ⟨b, 0, none⟩)] rfl (by exact Reads.one _ _ _ _ rfl) (by simp [Value.oneCell']) (by unfold maxLen; omega) (by omega) (by have := HT.out.lt; simp; omega) ?_; intro A8 c8 w8 h8; have H8 := Lib.hid h8; clear h8)
          | fail)
        have HO8 := Lib.hid (show OwnR (wRow R) 1 w8 (w.heap.size + 2) 117 A8 (m + 1) c8 (rawP p.wt k ++ [k]) from (HO.out.alloc _).app rfl (by have h9 := H8.out; unfold wRow; rw [HBI.out]; exact h9))
        have HG8 := Lib.hid (show w.grownBy w8 none from gr_own (lo := w.heap.size + 2) (gr_alloc HG.out _) (HO.out.1.alloc _) (by omega) H8.out.2.1)
        have HT8 := Lib.hid (show Blk w8 (w.heap.size + 1) 3 #[.int .i64 t] from (HT.out.alloc _).grown H8.out.2.1 (fun e => by have := (HO.out.1.lt e.symm).1; omega))
        have HR8 := Lib.hid (show Blk w8 w.heap.size 72 #[.pointer (some ⟨R.pb, 0, none⟩)] from (HR.out.alloc _).grown H8.out.2.1 (fun e => by have := (HO.out.1.lt e.symm).1; omega))
        clear H8
        go_roundw
        case rel => exact ⟨k + 1, A8, m + 1, c8, rfl, by go_num, by omega, by omega, by rw [HE.out]; exact HO8.out, HG8.out, HR8.out, HT8.out⟩
        case measure => simp [intOf]; omega
    · obtain rfl : k = C.length := by omega
      clear hlt
      have hcmp : ∀ (w1 : World) (x y : Nat), wr.grownBy w1 (blkOf B) → x ∈ rawP p.wt C.length → y ∈ rawP p.wt C.length → ∃ z : Int, decide (z < 0) = (fun a b => decide (rankAt s C t b < rankAt s C t a)) x y ∧ Calls Tryz.prog 105 #[.pointer (some ⟨R.wi.getD x 0, 0, none⟩), .pointer (some ⟨R.wi.getD y 0, 0, none⟩), .pointer (some ⟨w.heap.size, 0, none⟩), .pointer (some ⟨w.heap.size + 1, 0, none⟩)] w1 (RetV (.int .i64 z) w1) := by
        intro w1 x y hgx hx hy
        have hg1 : w.grownBy w1 none := gr_own (lo := w.heap.size + 2) HG.out HO.out.1 (by omega) hgx
        have hP := H.out.kept hg1
        obtain ⟨c1, hc1⟩ : ∃ c, C[x]? = some c := ⟨_, List.getElem?_eq_getElem (rawP_mem hx).1⟩
        obtain ⟨c2, hc2⟩ : ∃ c, C[y]? = some c := ⟨_, List.getElem?_eq_getElem (rawP_mem hy).1⟩
        obtain ⟨_, _, b1, _, hb1, _, _, hw1⟩ := hP.at_.waiter hc1
        obtain ⟨_, _, b2, _, hb2, _, _, hw2⟩ := hP.at_.waiter hc2
        rw [getD_some hb1, getD_some hb2]
        refine ⟨_, ?_, plineLt_any R s A.length C.length p.last b1 b2 c1 c2 _ _ t w.heap.size (w.heap.size + 1) w1 hP.at_.pl hw1 hw2 (H.out.cn c1 (mem_of_get hc1)).1 (H.out.cn c2 (mem_of_get hc2)).1 H.out.age t0 t1
          (HR.out.grown hgx (fun e => by have := (HO.out.1.lt e.symm).1; omega)) (HT.out.grown hgx (fun e => by have := (HO.out.1.lt e.symm).1; omega))⟩
        have e1 : rankAt s C t x = rankR s c1 t := by unfold rankAt; rw [hc1]; rfl
        have e2 : rankAt s C t y = rankR s c2 t := by unfold rankAt; rw [hc2]; rfl
        show decide (rankR s c2 t - rankR s c1 t < 0) = decide (rankAt s C t y < rankAt s C t x)
        rw [e1, e2]
        apply decide_eq_decide.2
        omega
      have HCMP := Lib.hid hcmp
      clear hcmp
      go_wp2_with fail
      refine (wlSort_any R (fun a b => decide (rankAt s C t b < rankAt s C t a)) (w.heap.size + 2) B m cB _ (.pointer (some ⟨w.heap.size, 0, none⟩)) (.pointer (some ⟨w.heap.size + 1, 0, none⟩)) _ HO.out (by omega) HCMP.out).mono ?_
      rintro e w3 ⟨rfl, ho3, hg3⟩
      have HO3 := Lib.hid ho3
      have HG3 := Lib.hid (show w.grownBy w3 none from gr_own (lo := w.heap.size + 2) HG.out HO.out.1 (by omega) hg3)
      have hwl := H.out.at_.wl2
      clear ho3 hg3
      go_wp2_with fail
      go_ret
      exact ⟨B, m, cB, rfl, by have h9 := HO3.out.lower (lo' := w.heap.size) (by omega); rw [show lineP s C p.wt t = srt (fun a b => decide (rankAt s C t b < rankAt s C t a)) (rawP p.wt C.length) by unfold lineP; rw [hwl]]; exact h9, HG3.out⟩
end Go.Proofs.YtpildcnoghojpaaGreatDoor

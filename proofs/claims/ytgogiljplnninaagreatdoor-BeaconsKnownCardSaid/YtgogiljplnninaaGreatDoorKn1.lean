/- Contracts of slices.BinarySearchFunc at beacons, and of voice.Presence. Conditions: beacons whose notes are of small bytes; the tables of unicode/utf8 and bytealg.MaxLen as laid. -/
import Derived.Test.YtgogiljplnninaaGreatDoorBun7
import Derived.Test.YtgogiljplnninaaGreatDoorBc2
import Derived.Test.YtgogiljplnninaaGreatDoorPr1
import Derived.BigQuiet
namespace Go.Proofs.YtgogiljplnninaaGreatDoor
open Go.RowKit

section
variable {P : Program} {w : World} {o : Oper} {ops : Array Oper} {rest : List Oper} {a : Act} {Q : Exit → Act → World → Prop}
theorem wplg_load_at {ty : TypeId} {n : Nat} (T : StructT P ty n) (hw : Region.wanted o (yielded ops a.tmps) = true) (x : Operand) (ho : o.op = .load ty x) (p : Addr) (hx : a.eval x = .pointer (some p)) (cs : List Value) (hn : cs.length = n) (hc : ∀ j u, cs[j]? = some u → w.cell? (p.add j) = some u)
    (h : wpList P ops Q rest (a.put o.dst (.agg cs.toArray)) w) : wpList P ops Q (o :: rest) a w :=
  BigFrame.wpList_want hw fun _ hK => wp_load_at T x ho p hx cs hn hc (hK _ _ h)
end
theorem _root_.Go.Proofs.YtgogiljplnninaaGreatDoor.Recs.at2_ {α : Type} {row : α → List Value} {k : Nat} {w : World} {lo n c g o : Nat} {l : List α} (h : Recs row k w lo (some ⟨g, o, none⟩) n c l) (hrow : ∀ a, (row a).length = k) {i : Nat} {a : α} (hi : l[i]? = some a) (j : Nat) (u : Value) (hu : (row a)[j]? = some u) : w.cell? ⟨g, o + i * k + j, none⟩ = some u := h.at_ hrow hi j u hu
theorem compareBeacons_any (a b : BcV) (w : World) : Calls Tryz.prog 104 #[.agg #[.string a.psn, .string a.dev, .int .i64 a.st, .int .i64 a.at_, .int .i64 a.un, .string a.note], .agg #[.string b.psn, .string b.dev, .int .i64 b.st, .int .i64 b.at_, .int .i64 b.un, .string b.note]] w (RetV (.int .i64 (bcCmp a b)) w) := by
  refine (compareBeacons_q a b w).mono ?_
  rintro e w' ⟨rfl, h⟩
  exact ⟨rfl, h.gr⟩
/-- Where x is in l, as far as the order goes. -/
def BFound (l : List BcV) (x : BcV) (i : Nat) (f : Bool) : Prop := (f = true ∧ ∃ y, l[i]? = some y ∧ bcCmp y x = 0) ∨ (f = false ∧ bkN l x = true)
def BFoundV (l : List BcV) (x : BcV) (w : World) (e : Ending) (w' : World) : Prop := ∃ (i : Nat) (f : Bool), e = .returned (.tuple #[.int .i64 i, .bool f]) ∧ BFound l x i f ∧ w.grownBy w' none
theorem bfound_of {l : List BcV} {x : BcV} {i : Nat} (hl : BAsc l) (h1 : ∀ (q : Nat) (c : BcV), q < i → l[q]? = some c → bcCmp c x < 0) (h2 : ∀ (q : Nat) (c : BcV), i ≤ q → l[q]? = some c → ¬ bcCmp c x < 0) : BFound l x i ((l[i]?).elim false fun y => decide (bcCmp y x = 0)) := by
  have hno : (∀ y, l[i]? = some y → bcCmp y x ≠ 0) → bkN l x = true := by
    intro h
    rw [bkN_t]
    intro y hy hz
    obtain ⟨q, hq⟩ := List.mem_iff_getElem?.1 hy
    rcases Nat.lt_trichotomy q i with h3 | h3 | h3
    · have := h1 q y h3 hq; omega
    · subst h3; exact h y hq hz
    · have hi : i < l.length := by have := (List.getElem?_eq_some_iff.1 hq).1; omega
      have hu := List.getElem?_eq_getElem hi
      have h4 := hl i q _ y h3 hu hq
      have h5 := h2 i _ (Nat.le_refl _) hu
      have h6 := (bcCmp_ne hz).2
      by_cases h7 : bcCmp l[i] x < 0
      · exact h5 h7
      · exact swo_ntr swoBc (x := l[i]) (y := x) (z := y) h7 h6 h4
  cases hi : l[i]? with
  | none => exact .inr ⟨rfl, hno (fun y hy => by rw [hi] at hy; cases hy)⟩
  | some y =>
    by_cases hz : bcCmp y x = 0
    · exact .inl ⟨by simp [hz], y, hi, hz⟩
    · exact .inr ⟨by simp [hz], hno (fun z hz2 => by rw [hi] at hz2; rw [← Option.some.inj hz2]; exact hz)⟩
set_option maxHeartbeats 4000000 in
set_option maxRecDepth 100000 in
theorem searchBc_any (lo : Nat) (A : Option Addr) (n c : Nat) (l : List BcV) (x : BcV) (w : World) (h : Recs BcV.row 6 w lo A n c l) (hn : n ≤ 1000000) (hl : BAsc l) :
    Calls Tryz.prog 103 #[.slice A n c, .agg #[.string x.psn, .string x.dev, .int .i64 x.st, .int .i64 x.at_, .int .i64 x.un, .string x.note], .func (.func 104) #[] #[]] w (BFoundV l x w) := by
  obtain ⟨w0, hw0⟩ : ∃ v, w.alloc (.cells #[.string x.psn, .string x.dev, .int .i64 x.st, .int .i64 x.at_, .int .i64 x.un, .string x.note] 62) = v := ⟨_, rfl⟩
  have HXB0 := Lib.hid (show Blk w0 w.heap.size 62 #[.string x.psn, .string x.dev, .int .i64 x.st, .int .i64 x.at_, .int .i64 x.un, .string x.note] by rw [← hw0]; exact Blk.new _ _ _)
  have HG0 := Lib.hid (show w.grownBy w0 none by rw [← hw0]; exact gr_alloc (gr_refl _ _) _)
  have HW0 := Lib.hid hw0
  clear hw0
  have H := Lib.hid h; have HL := Lib.hid hl; clear h hl
  go_enter Tryz.func103, Tryz.ntmps103
  go_upto_region 1 with (fail)
  rw [HW0.out]
  clear HW0
  go_wp2_with fail
  go_loopw [9, 10, 11] (fun i' j' _ wr => ∃ i j : Nat, i ≤ j ∧ j ≤ n ∧ i' = .int .i64 i ∧ j' = .int .i64 j ∧ w.grownBy wr none ∧ Blk wr w.heap.size 62 #[.string x.psn, .string x.dev, .int .i64 x.st, .int .i64 x.at_, .int .i64 x.un, .string x.note] ∧ (∀ (q : Nat) (c : BcV), q < i → l[q]? = some c → bcCmp c x < 0) ∧ (∀ (q : Nat) (c : BcV), j ≤ q → l[q]? = some c → ¬ bcCmp c x < 0)) (fun i' j' _ _ => (intOf j' - intOf i').toNat)
  case atStart => exact ⟨0, n, Nat.zero_le _, Nat.le_refl _, rfl, rfl, HG0.out, HXB0.out, (fun q c hq => by omega), fun q c hq hc => by have := (List.getElem?_eq_some_iff.1 hc).1; have := H.out.len; omega⟩
  case round =>
    clear HG0 HXB0
    obtain ⟨i, j, hij, hj, rfl, rfl, hg, hxb, h1, h2⟩ := hrel
    have HG := Lib.hid hg; have HXB := Lib.hid hxb; have H1 := Lib.hid h1; have H2 := Lib.hid h2; clear hg hxb h1 h2
    by_cases hlt : i < j
    · have hm3 : (i + j) / 2 < n := by omega
      obtain ⟨g, o, z, rfl, _, hgl, hz, hcc⟩ := (H.out.grown HG.out (fun g e => by cases e)).get BcV.row_len hm3
      have HZ := Lib.hid hz; have HC := Lib.hid hcc; clear hz hcc
      obtain ⟨V, hV⟩ : ∃ V, bcCmp z x = V := ⟨_, rfl⟩
      have HW := Lib.hid hV; clear hV
      by_cases hz0 : V < 0
      · have d0 : decide (V < 0) = true := decide_eq_true hz0
        have q5 : (0 : Int) ≤ ((i : Int) + j) / 2 := by omega
        have q6 : ((i : Int) + j) / 2 < (n : Int) := by omega
        have q7 : (((i : Int) + j) / 2).toNat = (i + j) / 2 := by omega
        go_upto_region 5 with (fail)
        refine H_begin (fun w' => wr.grownBy w' none) (by kernel_rfl) ?_
        have hHeld : wr.grownBy wr.drew none := gr_drew (gr_refl _ _)
        refine H_take (k := 0) (v := ?_) (by rfl) (by kernel_rfl) (by kernel_rfl) (by kernel_rfl) (by exact fun _ _ _ h => h) (by rfl) ?_ (by assumption) ?_
        rotate_left 1
        · intro w hSw
          (try dsimp only at hSw)
          go_simp
          (try with_reducible rfl)
        (try simp only [Act.put, List.setIfInBounds_toArray, List.set_cons_zero, List.set_cons_succ])
        refine H_take (k := 1) (v := ?_) (by rfl) (by kernel_rfl) (by kernel_rfl) (by kernel_rfl) (by exact fun _ _ _ h => h) (by rfl) ?_ (by assumption) ?_
        rotate_left 1
        · intro w hSw
          (try dsimp only at hSw)
          go_simp
          (try with_reducible rfl)
        (try simp only [Act.put, List.setIfInBounds_toArray, List.set_cons_zero, List.set_cons_succ])
        refine H_take (k := 2) (v := ?_) (by rfl) (by kernel_rfl) (by kernel_rfl) (by kernel_rfl) (by exact fun _ _ _ h => h) (by rfl) ?_ (by assumption) ?_
        rotate_left 1
        · intro w hSw
          (try dsimp only at hSw)
          go_simp
          (try with_reducible rfl)
        (try simp only [Act.put, List.setIfInBounds_toArray, List.set_cons_zero, List.set_cons_succ])
        refine H_take (k := 3) (v := ?_) (by rfl) (by kernel_rfl) (by kernel_rfl) (by kernel_rfl) (by exact fun _ _ _ h => h) (by rfl) ?_ (by assumption) ?_
        rotate_left 1
        · intro w hSw
          (try dsimp only at hSw)
          go_simp
          (try with_reducible rfl)
        (try simp only [Act.put, List.setIfInBounds_toArray, List.set_cons_zero, List.set_cons_succ])
        refine H_take (k := 4) (v := .agg #[.string z.psn, .string z.dev, .int .i64 z.st, .int .i64 z.at_, .int .i64 z.un, .string z.note]) (by rfl) (by kernel_rfl) (by kernel_rfl) (by kernel_rfl) (by exact fun _ _ _ h => h) (by rfl) (fun w' hSw => exec_ldr Tryz.bcT _ rfl _ rfl [.string z.psn, .string z.dev, .int .i64 z.st, .int .i64 z.at_, .int .i64 z.un, .string z.note] (fun j u hu => by rw [add_mk]; exact ((H.out.grown (gr_none HG.out hSw) (fun g e => by cases e)).at2_ BcV.row_len HZ.out) j u hu) rfl) (by assumption) ?_
        (try simp only [Act.put, List.setIfInBounds_toArray, List.set_cons_zero, List.set_cons_succ])
        refine H_take (k := 5) (v := .agg #[.string x.psn, .string x.dev, .int .i64 x.st, .int .i64 x.at_, .int .i64 x.un, .string x.note]) (by rfl) (by kernel_rfl) (by kernel_rfl) (by kernel_rfl) (by exact fun _ _ _ h => h) (by rfl) (fun w' hSw => exec_ldb Tryz.bcT _ rfl _ rfl 62 [.string x.psn, .string x.dev, .int .i64 x.st, .int .i64 x.at_, .int .i64 x.un, .string x.note] (HXB.out.grown hSw (by simp)) rfl) (by assumption) ?_
        (try simp only [Act.put, List.setIfInBounds_toArray, List.set_cons_zero, List.set_cons_succ])
        refine H_run (k := 6) (by rfl) (by kernel_rfl) (by rfl) (fun K hK => ?_)
        go_simp
        refine (compareBeacons_any z x _).mono ?_
        rintro e w2 ⟨rfl, hg2⟩
        rw [HW.out]
        have hgz := gr_none hHeld hg2
        refine hK _ _ hgz ?_
        clear hK K hHeld hg2
        have hHeld := hgz
        (try simp only [Act.put, List.setIfInBounds_toArray, List.set_cons_zero, List.set_cons_succ])
        refine H_take (k := 7) (v := ?_) (by rfl) (by kernel_rfl) (by kernel_rfl) (by kernel_rfl) (by exact fun _ _ _ h => h) (by rfl) ?_ (by assumption) ?_
        rotate_left 1
        · intro w hSw
          (try dsimp only at hSw)
          go_simp
          (try with_reducible rfl)
        (try simp only [Act.put, List.setIfInBounds_toArray, List.set_cons_zero, List.set_cons_succ])
        refine H_done (by kernel_rfl) ?_
        have HG2 := Lib.hid (gr_none HG.out hHeld)
        have HX2 := Lib.hid (HXB.out.grown hHeld (by simp))
        clear hHeld hgz q5 q6 q7
        go_wp2_with fail

        go_roundw
        case rel => exact ⟨(i + j) / 2 + 1, j, by omega, hj, congrArg (Value.int .i64) (by omega), rfl, HG2.out, HX2.out, (fun q c hq hc => by
          rcases Nat.lt_or_ge q ((i + j) / 2) with h | h
          · exact bcCmp_trans (HL.out q _ c _ h hc HZ.out) (by rw [HW.out]; exact hz0)
          · obtain rfl : q = (i + j) / 2 := by omega
            rw [HZ.out] at hc
            obtain rfl := Option.some.inj hc
            rw [HW.out]; exact hz0), fun q c hq hc => H2.out q c hq hc⟩
        case measure => simp [intOf]; omega
      · have d0 : decide (V < 0) = false := decide_eq_false hz0
        have q5 : (0 : Int) ≤ ((i : Int) + j) / 2 := by omega
        have q6 : ((i : Int) + j) / 2 < (n : Int) := by omega
        have q7 : (((i : Int) + j) / 2).toNat = (i + j) / 2 := by omega
        go_upto_region 5 with (fail)
        refine H_begin (fun w' => wr.grownBy w' none) (by kernel_rfl) ?_
        have hHeld : wr.grownBy wr.drew none := gr_drew (gr_refl _ _)
        refine H_take (k := 0) (v := ?_) (by rfl) (by kernel_rfl) (by kernel_rfl) (by kernel_rfl) (by exact fun _ _ _ h => h) (by rfl) ?_ (by assumption) ?_
        rotate_left 1
        · intro w hSw
          (try dsimp only at hSw)
          go_simp
          (try with_reducible rfl)
        (try simp only [Act.put, List.setIfInBounds_toArray, List.set_cons_zero, List.set_cons_succ])
        refine H_take (k := 1) (v := ?_) (by rfl) (by kernel_rfl) (by kernel_rfl) (by kernel_rfl) (by exact fun _ _ _ h => h) (by rfl) ?_ (by assumption) ?_
        rotate_left 1
        · intro w hSw
          (try dsimp only at hSw)
          go_simp
          (try with_reducible rfl)
        (try simp only [Act.put, List.setIfInBounds_toArray, List.set_cons_zero, List.set_cons_succ])
        refine H_take (k := 2) (v := ?_) (by rfl) (by kernel_rfl) (by kernel_rfl) (by kernel_rfl) (by exact fun _ _ _ h => h) (by rfl) ?_ (by assumption) ?_
        rotate_left 1
        · intro w hSw
          (try dsimp only at hSw)
          go_simp
          (try with_reducible rfl)
        (try simp only [Act.put, List.setIfInBounds_toArray, List.set_cons_zero, List.set_cons_succ])
        refine H_take (k := 3) (v := ?_) (by rfl) (by kernel_rfl) (by kernel_rfl) (by kernel_rfl) (by exact fun _ _ _ h => h) (by rfl) ?_ (by assumption) ?_
        rotate_left 1
        · intro w hSw
          (try dsimp only at hSw)
          go_simp
          (try with_reducible rfl)
        (try simp only [Act.put, List.setIfInBounds_toArray, List.set_cons_zero, List.set_cons_succ])
        refine H_take (k := 4) (v := .agg #[.string z.psn, .string z.dev, .int .i64 z.st, .int .i64 z.at_, .int .i64 z.un, .string z.note]) (by rfl) (by kernel_rfl) (by kernel_rfl) (by kernel_rfl) (by exact fun _ _ _ h => h) (by rfl) (fun w' hSw => exec_ldr Tryz.bcT _ rfl _ rfl [.string z.psn, .string z.dev, .int .i64 z.st, .int .i64 z.at_, .int .i64 z.un, .string z.note] (fun j u hu => by rw [add_mk]; exact ((H.out.grown (gr_none HG.out hSw) (fun g e => by cases e)).at2_ BcV.row_len HZ.out) j u hu) rfl) (by assumption) ?_
        (try simp only [Act.put, List.setIfInBounds_toArray, List.set_cons_zero, List.set_cons_succ])
        refine H_take (k := 5) (v := .agg #[.string x.psn, .string x.dev, .int .i64 x.st, .int .i64 x.at_, .int .i64 x.un, .string x.note]) (by rfl) (by kernel_rfl) (by kernel_rfl) (by kernel_rfl) (by exact fun _ _ _ h => h) (by rfl) (fun w' hSw => exec_ldb Tryz.bcT _ rfl _ rfl 62 [.string x.psn, .string x.dev, .int .i64 x.st, .int .i64 x.at_, .int .i64 x.un, .string x.note] (HXB.out.grown hSw (by simp)) rfl) (by assumption) ?_
        (try simp only [Act.put, List.setIfInBounds_toArray, List.set_cons_zero, List.set_cons_succ])
        refine H_run (k := 6) (by rfl) (by kernel_rfl) (by rfl) (fun K hK => ?_)
        go_simp
        refine (compareBeacons_any z x _).mono ?_
        rintro e w2 ⟨rfl, hg2⟩
        rw [HW.out]
        have hgz := gr_none hHeld hg2
        refine hK _ _ hgz ?_
        clear hK K hHeld hg2
        have hHeld := hgz
        (try simp only [Act.put, List.setIfInBounds_toArray, List.set_cons_zero, List.set_cons_succ])
        refine H_take (k := 7) (v := ?_) (by rfl) (by kernel_rfl) (by kernel_rfl) (by kernel_rfl) (by exact fun _ _ _ h => h) (by rfl) ?_ (by assumption) ?_
        rotate_left 1
        · intro w hSw
          (try dsimp only at hSw)
          go_simp
          (try with_reducible rfl)
        (try simp only [Act.put, List.setIfInBounds_toArray, List.set_cons_zero, List.set_cons_succ])
        refine H_done (by kernel_rfl) ?_
        have HG2 := Lib.hid (gr_none HG.out hHeld)
        have HX2 := Lib.hid (HXB.out.grown hHeld (by simp))
        clear hHeld hgz q5 q6 q7
        go_wp2_with fail

        go_roundw
        case rel => exact ⟨i, (i + j) / 2, by omega, by omega, rfl, congrArg (Value.int .i64) (by omega), HG2.out, HX2.out, (fun q c hq hc => H1.out q c hq hc), fun q c hq hc => by
          rcases Nat.lt_or_ge ((i + j) / 2) q with h | h
          · have h3 := HL.out _ q _ c h HZ.out hc
            intro h0
            have h4 : bcCmp z x < 0 := bcCmp_trans h3 h0
            rw [HW.out] at h4; exact hz0 h4
          · obtain rfl : q = (i + j) / 2 := by omega
            rw [HZ.out] at hc
            obtain rfl := Option.some.inj hc
            rw [HW.out]; exact hz0⟩
        case measure => simp [intOf]; omega
    · obtain rfl : i = j := by omega
      have HF := Lib.hid (bfound_of HL.out H1.out H2.out)
      by_cases hin : i < n
      · obtain ⟨g, o, z, rfl, _, hgl, hz, hcc⟩ := (H.out.grown HG.out (fun g e => by cases e)).get BcV.row_len hin
        have HZ := Lib.hid hz; have HC := Lib.hid hcc; clear hz hcc
        obtain ⟨V, hV⟩ : ∃ V, bcCmp z x = V := ⟨_, rfl⟩
        obtain ⟨f, hf⟩ : ∃ f, (V == 0) = f := ⟨_, rfl⟩
        have HF2 := Lib.hid (show BFound l x i f by
          have h := HF.out
          rw [HZ.out] at h
          have e : f = decide (bcCmp z x = 0) := by rw [hV, ← hf]; rfl
          rw [e]; exact h)
        have HW := Lib.hid hV; clear hV
        have d1 : decide ((i : Int) < (n : Int)) = true := decide_eq_true (by omega)
        have d2 : decide (i < n) = true := decide_eq_true hin
        have q5 : (0 : Int) ≤ (i : Int) := by omega
        have q6 : (i : Int) < (n : Int) := by omega
        have q7 : (i : Int).toNat = i := by omega
        go_wp2_with fail
        refine H_begin (fun w' => wr.grownBy w' none) (by kernel_rfl) ?_
        have hHeld : wr.grownBy wr.drew none := gr_drew (gr_refl _ _)
        refine H_take (k := 0) (v := ?_) (by rfl) (by kernel_rfl) (by kernel_rfl) (by kernel_rfl) (by exact fun _ _ _ h => h) (by rfl) ?_ (by assumption) ?_
        rotate_left 1
        · intro w hSw
          (try dsimp only at hSw)
          go_simp
          (try with_reducible rfl)
        (try simp only [Act.put, List.setIfInBounds_toArray, List.set_cons_zero, List.set_cons_succ])
        refine H_take (k := 1) (v := ?_) (by rfl) (by kernel_rfl) (by kernel_rfl) (by kernel_rfl) (by exact fun _ _ _ h => h) (by rfl) ?_ (by assumption) ?_
        rotate_left 1
        · intro w hSw
          (try dsimp only at hSw)
          go_simp
          (try with_reducible rfl)
        (try simp only [Act.put, List.setIfInBounds_toArray, List.set_cons_zero, List.set_cons_succ])
        refine H_take (k := 2) (v := ?_) (by rfl) (by kernel_rfl) (by kernel_rfl) (by kernel_rfl) (by exact fun _ _ _ h => h) (by rfl) ?_ (by assumption) ?_
        rotate_left 1
        · intro w hSw
          (try dsimp only at hSw)
          go_simp
          (try with_reducible rfl)
        (try simp only [Act.put, List.setIfInBounds_toArray, List.set_cons_zero, List.set_cons_succ])
        refine H_take (k := 3) (v := ?_) (by rfl) (by kernel_rfl) (by kernel_rfl) (by kernel_rfl) (by exact fun _ _ _ h => h) (by rfl) ?_ (by assumption) ?_
        rotate_left 1
        · intro w hSw
          (try dsimp only at hSw)
          go_simp
          (try with_reducible rfl)
        (try simp only [Act.put, List.setIfInBounds_toArray, List.set_cons_zero, List.set_cons_succ])
        refine H_take (k := 4) (v := ?_) (by rfl) (by kernel_rfl) (by kernel_rfl) (by kernel_rfl) (by exact fun _ _ _ h => h) (by rfl) ?_ (by assumption) ?_
        rotate_left 1
        · intro w hSw
          (try dsimp only at hSw)
          go_simp
          (try with_reducible rfl)
        (try simp only [Act.put, List.setIfInBounds_toArray, List.set_cons_zero, List.set_cons_succ])
        refine H_take (k := 5) (v := ?_) (by rfl) (by kernel_rfl) (by kernel_rfl) (by kernel_rfl) (by exact fun _ _ _ h => h) (by rfl) ?_ (by assumption) ?_
        rotate_left 1
        · intro w hSw
          (try dsimp only at hSw)
          go_simp
          (try with_reducible rfl)
        (try simp only [Act.put, List.setIfInBounds_toArray, List.set_cons_zero, List.set_cons_succ])
        refine H_take (k := 6) (v := ?_) (by rfl) (by kernel_rfl) (by kernel_rfl) (by kernel_rfl) (by exact fun _ _ _ h => h) (by rfl) ?_ (by assumption) ?_
        rotate_left 1
        · intro w hSw
          (try dsimp only at hSw)
          go_simp
          (try with_reducible rfl)
        (try simp only [Act.put, List.setIfInBounds_toArray, List.set_cons_zero, List.set_cons_succ])
        refine H_take (k := 7) (v := ?_) (by rfl) (by kernel_rfl) (by kernel_rfl) (by kernel_rfl) (by exact fun _ _ _ h => h) (by rfl) ?_ (by assumption) ?_
        rotate_left 1
        · intro w hSw
          (try dsimp only at hSw)
          go_simp
          (try with_reducible rfl)
        (try simp only [Act.put, List.setIfInBounds_toArray, List.set_cons_zero, List.set_cons_succ])
        refine H_take (k := 8) (v := ?_) (by rfl) (by kernel_rfl) (by kernel_rfl) (by kernel_rfl) (by exact fun _ _ _ h => h) (by rfl) ?_ (by assumption) ?_
        rotate_left 1
        · intro w hSw
          (try dsimp only at hSw)
          go_simp
          (try with_reducible rfl)
        (try simp only [Act.put, List.setIfInBounds_toArray, List.set_cons_zero, List.set_cons_succ])
        refine H_take (k := 9) (v := .agg #[.string z.psn, .string z.dev, .int .i64 z.st, .int .i64 z.at_, .int .i64 z.un, .string z.note]) (by rfl) (by kernel_rfl) (by kernel_rfl) (by kernel_rfl) (by exact fun _ _ _ h => h) (by rfl) (fun w' hSw => exec_ldr Tryz.bcT _ rfl _ rfl [.string z.psn, .string z.dev, .int .i64 z.st, .int .i64 z.at_, .int .i64 z.un, .string z.note] (fun j u hu => by rw [add_mk]; exact ((H.out.grown (gr_none HG.out hSw) (fun g e => by cases e)).at2_ BcV.row_len HZ.out) j u hu) rfl) (by assumption) ?_
        (try simp only [Act.put, List.setIfInBounds_toArray, List.set_cons_zero, List.set_cons_succ])
        refine H_take (k := 10) (v := .agg #[.string x.psn, .string x.dev, .int .i64 x.st, .int .i64 x.at_, .int .i64 x.un, .string x.note]) (by rfl) (by kernel_rfl) (by kernel_rfl) (by kernel_rfl) (by exact fun _ _ _ h => h) (by rfl) (fun w' hSw => exec_ldb Tryz.bcT _ rfl _ rfl 62 [.string x.psn, .string x.dev, .int .i64 x.st, .int .i64 x.at_, .int .i64 x.un, .string x.note] (HXB.out.grown hSw (by simp)) rfl) (by assumption) ?_
        (try simp only [Act.put, List.setIfInBounds_toArray, List.set_cons_zero, List.set_cons_succ])
        refine H_run (k := 11) (by rfl) (by kernel_rfl) (by rfl) (fun K hK => ?_)
        go_simp
        refine (compareBeacons_any z x _).mono ?_
        rintro e w2 ⟨rfl, hg2⟩
        rw [HW.out]
        have hgz := gr_none hHeld hg2
        refine hK _ _ hgz ?_
        clear hK K hHeld hg2
        have hHeld := hgz
        (try simp only [Act.put, List.setIfInBounds_toArray, List.set_cons_zero, List.set_cons_succ])
        refine H_take (k := 12) (v := ?_) (by rfl) (by kernel_rfl) (by kernel_rfl) (by kernel_rfl) (by exact fun _ _ _ h => h) (by rfl) ?_ (by assumption) ?_
        rotate_left 1
        · intro w hSw
          (try dsimp only at hSw)
          go_simp
          (try with_reducible rfl)
        (try simp only [Act.put, List.setIfInBounds_toArray, List.set_cons_zero, List.set_cons_succ])
        refine H_take (k := 13) (v := ?_) (by rfl) (by kernel_rfl) (by kernel_rfl) (by kernel_rfl) (by exact fun _ _ _ h => h) (by rfl) ?_ (by assumption) ?_
        rotate_left 1
        · intro w hSw
          (try dsimp only at hSw)
          go_simp
          (try with_reducible rfl)
        (try simp only [Act.put, List.setIfInBounds_toArray, List.set_cons_zero, List.set_cons_succ])
        refine H_take (k := 14) (v := ?_) (by rfl) (by kernel_rfl) (by kernel_rfl) (by kernel_rfl) (by exact fun _ _ _ h => h) (by rfl) ?_ (by assumption) ?_
        rotate_left 1
        · intro w hSw
          (try dsimp only at hSw)
          go_simp
          (try with_reducible rfl)
        (try simp only [Act.put, List.setIfInBounds_toArray, List.set_cons_zero, List.set_cons_succ])
        refine H_take (k := 15) (v := ?_) (by rfl) (by kernel_rfl) (by kernel_rfl) (by kernel_rfl) (by exact fun _ _ _ h => h) (by rfl) ?_ (by assumption) ?_
        rotate_left 1
        · intro w hSw
          (try dsimp only at hSw)
          go_simp
          (try with_reducible rfl)
        (try simp only [Act.put, List.setIfInBounds_toArray, List.set_cons_zero, List.set_cons_succ])
        refine H_done (by kernel_rfl) ?_
        (try rw [hf])
        have HG2 := Lib.hid (gr_none HG.out hHeld)
        clear hHeld hgz
        go_wp2_with fail
        go_ret2
        exact ⟨i, f, rfl, HF2.out, HG2.out⟩
      · have HF2 := Lib.hid (show BFound l x i false by
          have h := HF.out
          rw [List.getElem?_eq_none (by rw [H.out.len]; omega)] at h
          exact h)
        have d1 : decide ((i : Int) < (n : Int)) = false := decide_eq_false (by omega)
        have d2 : decide (i < n) = false := decide_eq_false hin
        go_upto_region 8 with (fail)
        refine H_begin (fun w' => wr.grownBy w' none) (by kernel_rfl) ?_
        have hHeld : wr.grownBy wr.drew none := gr_drew (gr_refl _ _)
        refine H_take (k := 0) (v := ?_) (by rfl) (by kernel_rfl) (by kernel_rfl) (by kernel_rfl) (by exact fun _ _ _ h => h) (by rfl) ?_ (by assumption) ?_
        rotate_left 1
        · intro w hSw
          (try dsimp only at hSw)
          go_simp
          (try with_reducible rfl)
        (try simp only [Act.put, List.setIfInBounds_toArray, List.set_cons_zero, List.set_cons_succ])
        refine H_take (k := 1) (v := ?_) (by rfl) (by kernel_rfl) (by kernel_rfl) (by kernel_rfl) (by exact fun _ _ _ h => h) (by rfl) ?_ (by assumption) ?_
        rotate_left 1
        · intro w hSw
          (try dsimp only at hSw)
          go_simp
          (try with_reducible rfl)
        (try simp only [Act.put, List.setIfInBounds_toArray, List.set_cons_zero, List.set_cons_succ])
        refine H_take (k := 2) (v := ?_) (by rfl) (by kernel_rfl) (by kernel_rfl) (by kernel_rfl) (by exact fun _ _ _ h => h) (by rfl) ?_ (by assumption) ?_
        rotate_left 1
        · intro w hSw
          (try dsimp only at hSw)
          go_simp
          (try with_reducible rfl)
        (try simp only [Act.put, List.setIfInBounds_toArray, List.set_cons_zero, List.set_cons_succ])
        refine H_take (k := 3) (v := ?_) (by rfl) (by kernel_rfl) (by kernel_rfl) (by kernel_rfl) (by exact fun _ _ _ h => h) (by rfl) ?_ (by assumption) ?_
        rotate_left 1
        · intro w hSw
          (try dsimp only at hSw)
          go_simp
          (try with_reducible rfl)
        (try simp only [Act.put, List.setIfInBounds_toArray, List.set_cons_zero, List.set_cons_succ])
        refine H_take (k := 4) (v := ?_) (by rfl) (by kernel_rfl) (by kernel_rfl) (by kernel_rfl) (by exact fun _ _ _ h => h) (by rfl) ?_ (by assumption) ?_
        rotate_left 1
        · intro w hSw
          (try dsimp only at hSw)
          go_simp
          (try with_reducible rfl)
        (try simp only [Act.put, List.setIfInBounds_toArray, List.set_cons_zero, List.set_cons_succ])
        refine H_skip (k := 5) (by rfl) (by kernel_rfl) (by kernel_rfl) (by kernel_rfl) (by exact fun _ _ _ h => h) (by rfl) (by assumption) ?_
        (try simp only [Act.put, List.setIfInBounds_toArray, List.set_cons_zero, List.set_cons_succ])
        refine H_skip (k := 6) (by rfl) (by kernel_rfl) (by kernel_rfl) (by kernel_rfl) (by exact fun _ _ _ h => h) (by rfl) (by assumption) ?_
        (try simp only [Act.put, List.setIfInBounds_toArray, List.set_cons_zero, List.set_cons_succ])
        refine H_skip (k := 7) (by rfl) (by kernel_rfl) (by kernel_rfl) (by kernel_rfl) (by exact fun _ _ _ h => h) (by rfl) (by assumption) ?_
        (try simp only [Act.put, List.setIfInBounds_toArray, List.set_cons_zero, List.set_cons_succ])
        refine H_skip (k := 8) (by rfl) (by kernel_rfl) (by kernel_rfl) (by kernel_rfl) (by exact fun _ _ _ h => h) (by rfl) (by assumption) ?_
        (try simp only [Act.put, List.setIfInBounds_toArray, List.set_cons_zero, List.set_cons_succ])
        refine H_skip (k := 9) (by rfl) (by kernel_rfl) (by kernel_rfl) (by kernel_rfl) (by exact fun _ _ _ h => h) (by rfl) (by assumption) ?_
        (try simp only [Act.put, List.setIfInBounds_toArray, List.set_cons_zero, List.set_cons_succ])
        refine H_skip (k := 10) (by rfl) (by kernel_rfl) (by kernel_rfl) (by kernel_rfl) (by exact fun _ _ _ h => h) (by rfl) (by assumption) ?_
        (try simp only [Act.put, List.setIfInBounds_toArray, List.set_cons_zero, List.set_cons_succ])
        refine H_skip (k := 11) (by rfl) (by kernel_rfl) (by kernel_rfl) (by kernel_rfl) (by exact fun _ _ _ h => h) (by rfl) (by assumption) ?_
        (try simp only [Act.put, List.setIfInBounds_toArray, List.set_cons_zero, List.set_cons_succ])
        refine H_skip (k := 12) (by rfl) (by kernel_rfl) (by kernel_rfl) (by kernel_rfl) (by exact fun _ _ _ h => h) (by rfl) (by assumption) ?_
        (try simp only [Act.put, List.setIfInBounds_toArray, List.set_cons_zero, List.set_cons_succ])
        refine H_take (k := 13) (v := ?_) (by rfl) (by kernel_rfl) (by kernel_rfl) (by kernel_rfl) (by exact fun _ _ _ h => h) (by rfl) ?_ (by assumption) ?_
        rotate_left 1
        · intro w hSw
          (try dsimp only at hSw)
          go_simp
          (try with_reducible rfl)
        (try simp only [Act.put, List.setIfInBounds_toArray, List.set_cons_zero, List.set_cons_succ])
        refine H_take (k := 14) (v := ?_) (by rfl) (by kernel_rfl) (by kernel_rfl) (by kernel_rfl) (by exact fun _ _ _ h => h) (by rfl) ?_ (by assumption) ?_
        rotate_left 1
        · intro w hSw
          (try dsimp only at hSw)
          go_simp
          (try with_reducible rfl)
        (try simp only [Act.put, List.setIfInBounds_toArray, List.set_cons_zero, List.set_cons_succ])
        refine H_take (k := 15) (v := ?_) (by rfl) (by kernel_rfl) (by kernel_rfl) (by kernel_rfl) (by exact fun _ _ _ h => h) (by rfl) ?_ (by assumption) ?_
        rotate_left 1
        · intro w hSw
          (try dsimp only at hSw)
          go_simp
          (try with_reducible rfl)
        (try simp only [Act.put, List.setIfInBounds_toArray, List.set_cons_zero, List.set_cons_succ])
        refine H_done (by kernel_rfl) ?_
        clear hHeld
        replace HG := Lib.hid (gr_drew HG.out)
        go_wp2_with fail
        go_ret2
        exact ⟨i, false, rfl, HF2.out, HG.out⟩

theorem ret_cell_tmp2 {P : Program} {w : World} {fn : Func} {a : Act} {R : Ending → World → Prop} {ty : TypeId} {n : Nat} (T : StructT P ty n) {p q r : Tmp} (hr : fn.results = #[.cell p ty, .tmp q, .tmp r]) (g : Nat) (t : TypeId) (cs : Array Value) (u v : Value) (hp : a.tmps.getD p undef = .pointer (some ⟨g, 0, none⟩)) (hq : a.tmps.getD q undef = u) (hu : a.tmps.getD r undef = v) (hb : Blk w g t cs) (hn : cs.size = n)
    (hd : a.defers = []) (h : R (.returned (.tuple #[.agg cs, u, v])) w) : bodyPost P fn R .ret a w := by
  obtain ⟨d, h1, h2, h3⟩ := T
  refine bodyPost_ret (v := .tuple #[.agg cs, u, v]) ?_ hd h
  have hp' : a.tmps[p]?.getD undef = .pointer (some ⟨g, 0, none⟩) := by simpa using hp
  have hq' : a.tmps[q]?.getD undef = u := by simpa using hq
  have hu' : a.tmps[r]?.getD undef = v := by simpa using hu
  simp [results, hr, hp', hq', hu', asAddr, run_loadVar_row w g t ty cs (0, 0) d hb h1 (by cases d <;> first | rfl | (cases h2)) (by rw [hn]; exact h3)]
def prE (l : List BcV) (p : ByteArray) (t : Int) : Int := if bcsE l = 0 then (if keyOk (nb p) then (if momB t then 0 else 1) else 5) else bcsE l
noncomputable def prV (l : List BcV) (p : ByteArray) (t : Int) : Bool × BcV := if prE l p t = 0 then prs l p t else (false, bc0)
theorem pr_parts {l : List BcV} {p : ByteArray} {t : Int} (h : prE l p t = 0) : bcsE l = 0 ∧ keyOk (nb p) = true ∧ momB t = true := by
  unfold prE at h
  by_cases h1 : bcsE l = 0
  · rw [if_pos h1] at h
    cases hk : keyOk (nb p)
    · rw [hk] at h; simp at h
    · cases hm : momB t
      · rw [hk, hm] at h; simp at h
      · exact ⟨h1, rfl, rfl⟩
  · rw [if_neg h1] at h; exact absurd h h1
set_option maxHeartbeats 8000000 in
set_option maxRecDepth 100000 in
theorem presence_any (lo : Nat) (A : Option Addr) (n c : Nat) (l : List BcV) (p : ByteArray) (t : Int) (w : World) (h : Bcs w lo A n c l) (hn : n ≤ 1000000) (hp : p.size ≤ 1000) (hu : U8T w) (hm : MxT w) :
    Calls Tryz.prog 34 #[.slice A n c, .string p, .int .i64 t] w (RetV (.tuple #[.agg #[.string (prV l p t).2.psn, .string (prV l p t).2.dev, .int .i64 (prV l p t).2.st, .int .i64 (prV l p t).2.at_, .int .i64 (prV l p t).2.un, .string (prV l p t).2.note], .bool (prV l p t).1, .int .i64 (prE l p t)]) w) := by
  have H := Lib.hid h; have HU := Lib.hid hu; have HMX := Lib.hid hm; clear h hu hm
  obtain ⟨w0, hw0⟩ : ∃ v, w.alloc (.cells #[.string ⟨#[]⟩, .string ⟨#[]⟩, .int .i64 0, .int .i64 0, .int .i64 0, .string ⟨#[]⟩] 62) = v := ⟨_, rfl⟩
  have HR0 := Lib.hid (show Blk w0 w.heap.size 62 #[.string ⟨#[]⟩, .string ⟨#[]⟩, .int .i64 0, .int .i64 0, .int .i64 0, .string ⟨#[]⟩] by rw [← hw0]; exact Blk.new _ _ _)
  have HG0 := Lib.hid (show w.grownBy w0 none by rw [← hw0]; exact gr_alloc (gr_refl _ _) _)
  have HW0 := Lib.hid hw0
  clear hw0
  go_enter Tryz.func34, Tryz.ntmps34
  go_upto_region 1 with (fail)
  rw [HW0.out]
  clear HW0
  go_wp2_with fail
  refine (checkBeacons_any lo A n c l _ (H.out.grown HG0.out (fun g e => by cases e)) (by omega) (HU.out.grown HG0.out) (HMX.out.grown HG0.out)).mono ?_
  rintro e w1 ⟨rfl, hg1⟩
  have HG := Lib.hid (gr_none HG0.out hg1)
  have HR := Lib.hid (HR0.out.grown hg1 (by simp))
  clear hg1 HG0 HR0
  obtain ⟨E, hE⟩ : ∃ E, bcsE l = E := ⟨_, rfl⟩
  rw [hE]
  have HE0 := Lib.hid hE
  clear hE
  by_cases h0 : E = 0
  · subst h0
    go_wp2_with fail
    refine (isKey_any p _ (by omega)).mono ?_
    rintro e w2 ⟨rfl, hg2⟩
    replace HG := Lib.hid (gr_none HG.out hg2)
    replace HR := Lib.hid (HR.out.grown hg2 (by simp))
    clear hg2
    obtain ⟨KY, hKY⟩ : ∃ V, keyOk (nb p) = V := ⟨_, rfl⟩
    have HKY := Lib.hid hKY
    rw [hKY]
    clear hKY
    cases KY
    · have HF := Lib.hid (show prE l p t = 5 by unfold prE; rw [HE0.out, HKY.out]; rfl)
      have HF2 := Lib.hid (show prV l p t = (false, bc0) by unfold prV; rw [HF.out]; exact if_neg (by first | decide | exact h0))
      go_wp2_with (first
        | (refine wpl_store_all Tryz.bcT rfl _ _ rfl _ rfl _ _ _ rfl HR.out rfl rfl (by simp [Value.oneCell']) ?_; intro wz hst; have HST := Lib.hid hst; clear hst)
        | fail)
      refine ret_cell_tmp2 Tryz.bcT rfl w.heap.size 62 #[.string ⟨#[]⟩, .string ⟨#[]⟩, .int .i64 0, .int .i64 0, .int .i64 0, .string ⟨#[]⟩] _ _ rfl rfl rfl HST.out.1 rfl rfl ?_
      exact ⟨by rw [HF.out, HF2.out]; rfl, gr_trans HG.out HST.out.2.1 (fun g e => .inr (by injection e with e; omega))⟩
    · obtain ⟨VM, hVM⟩ : ∃ V, momB t = V := ⟨_, rfl⟩
      have HVM := Lib.hid hVM
      clear hVM
      go_wp2_with fail
      refine (isMomB_any t _).mono ?_
      rintro e wv ⟨rfl, rfl⟩
      rw [HVM.out]
      cases VM
      · have HF := Lib.hid (show prE l p t = 1 by unfold prE; rw [HE0.out, HKY.out, HVM.out]; rfl)
        have HF2 := Lib.hid (show prV l p t = (false, bc0) by unfold prV; rw [HF.out]; exact if_neg (by first | decide | exact h0))
        go_wp2_with (first
          | (refine wpl_store_all Tryz.bcT rfl _ _ rfl _ rfl _ _ _ rfl HR.out rfl rfl (by simp [Value.oneCell']) ?_; intro wz hst; have HST := Lib.hid hst; clear hst)
          | fail)
        refine ret_cell_tmp2 Tryz.bcT rfl w.heap.size 62 #[.string ⟨#[]⟩, .string ⟨#[]⟩, .int .i64 0, .int .i64 0, .int .i64 0, .string ⟨#[]⟩] _ _ rfl rfl rfl HST.out.1 rfl rfl ?_
        exact ⟨by rw [HF.out, HF2.out]; rfl, gr_trans HG.out HST.out.2.1 (fun g e => .inr (by injection e with e; omega))⟩
      · have HF := Lib.hid (show prE l p t = 0 by unfold prE; rw [HE0.out, HKY.out, HVM.out]; rfl)
        have HF2 := Lib.hid (show prV l p t = prs l p t by unfold prV; rw [HF.out]; exact if_pos rfl)
        go_wp2_with fail
        refine (says_any lo A n c l p t _ (H.out.1.grown HG.out (fun g e => by cases e)) (by omega) (bAsc_of (bcs_all HE0.out).2.2)).mono ?_
        rintro e w4 ⟨rfl, hg4⟩
        replace HG := Lib.hid (gr_none HG.out hg4)
        replace HR := Lib.hid (HR.out.grown hg4 (by simp))
        clear hg4
        obtain ⟨F, B, hB⟩ : ∃ F B, prs l p t = (F, B) := ⟨_, _, rfl⟩
        rw [hB]
        rw [hB] at HF2
        dsimp only
        clear hB
        obtain ⟨w5, hw5⟩ : ∃ v, w4.alloc (.cells #[.string B.psn, .string B.dev, .int .i64 B.st, .int .i64 B.at_, .int .i64 B.un, .string B.note] 62) = v := ⟨_, rfl⟩
        have HB := Lib.hid (show Blk w5 w4.heap.size 62 #[.string B.psn, .string B.dev, .int .i64 B.st, .int .i64 B.at_, .int .i64 B.un, .string B.note] by rw [← hw5]; exact Blk.new _ _ _)
        replace HG := Lib.hid (show w.grownBy w5 none by rw [← hw5]; exact gr_alloc HG.out _)
        replace HR := Lib.hid (show Blk w5 w.heap.size 62 #[.string ⟨#[]⟩, .string ⟨#[]⟩, .int .i64 0, .int .i64 0, .int .i64 0, .string ⟨#[]⟩] by rw [← hw5]; exact HR.out.alloc _)
        go_upto_region 9 with (fail)
        (try rw [hw5])
        clear hw5
        go_wp2_with (first
          | (refine wpl_load_all Tryz.bcT rfl _ rfl _ rfl _ _ HB.out rfl ?_)
          | (refine wpl_store_all Tryz.bcT rfl _ _ rfl _ rfl _ _ _ rfl HR.out rfl rfl (by simp [Value.oneCell']) ?_; intro wz hst; have HST := Lib.hid hst; clear hst)
          | fail)
        refine ret_cell_tmp2 Tryz.bcT rfl w.heap.size 62 #[.string B.psn, .string B.dev, .int .i64 B.st, .int .i64 B.at_, .int .i64 B.un, .string B.note] _ _ rfl rfl rfl HST.out.1 rfl rfl ?_
        exact ⟨by rw [HF.out, HF2.out]; rfl, gr_trans HG.out HST.out.2.1 (fun g e => .inr (by injection e with e; omega))⟩
  · have HF := Lib.hid (show prE l p t = E by unfold prE; rw [HE0.out]; exact if_neg h0)
    have HF2 := Lib.hid (show prV l p t = (false, bc0) by unfold prV; rw [HF.out]; exact if_neg (by first | decide | exact h0))
    go_wp2_with (first
      | (refine wpl_store_all Tryz.bcT rfl _ _ rfl _ rfl _ _ _ rfl HR.out rfl rfl (by simp [Value.oneCell']) ?_; intro wz hst; have HST := Lib.hid hst; clear hst)
      | fail)
    refine ret_cell_tmp2 Tryz.bcT rfl w.heap.size 62 #[.string ⟨#[]⟩, .string ⟨#[]⟩, .int .i64 0, .int .i64 0, .int .i64 0, .string ⟨#[]⟩] _ _ rfl rfl rfl HST.out.1 rfl rfl ?_
    exact ⟨by rw [HF.out, HF2.out]; rfl, gr_trans HG.out HST.out.2.1 (fun g e => .inr (by injection e with e; omega))⟩
end Go.Proofs.YtgogiljplnninaaGreatDoor

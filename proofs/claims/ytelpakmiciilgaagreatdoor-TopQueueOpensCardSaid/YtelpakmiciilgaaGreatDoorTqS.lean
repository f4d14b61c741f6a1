/- Contract of slices.SortStableFunc at few callers, by the moment they came: they are the same callers, in order. Conditions: at most 19 callers, each CoOk. -/
import Derived.Test.YtelpakmiciilgaaGreatDoorBun5
import Derived.Test.YtelpakmiciilgaaGreatDoorBun2
import Derived.Test.YtelpakmiciilgaaGreatDoorBun8
import Derived.Test.YtelpakmiciilgaaGreatDoorQue3
namespace Go.Proofs.YtelpakmiciilgaaGreatDoor
open Go.RowKit Go.Sort

theorem exec_lda {P : Program} {w : World} {o : Oper} {ev : Operand → Value} {ty : TypeId} {n : Nat} (T : StructT P ty n) (x : Operand) (ho : o.op = .load ty x) (p : Addr) (hx : ev x = .pointer (some p)) (cs : List Value) (hn : cs.length = n) (hc : ∀ j u, cs[j]? = some u → w.cell? (p.add j) = some u) :
    (execOp ev o).run P w = .ok (.value (.agg cs.toArray)) w := by
  unfold execOp
  simp only [ho, hx, Instr.loadAt, Instr.sureAddr, Sem.run_bind, Sem.run_pure, Result.andThen_ok, run_load_at T hn hc]
/-- Callers by the moment they came. -/
def coCmp (a b : CaV) : Int := a.at_ - b.at_
theorem swoCo : SWO (ltOf coCmp) where
  irrefl a := by unfold ltOf coCmp; exact decide_eq_false (by omega)
  trans a b c h1 h2 := by
    unfold ltOf coCmp at h1 h2 ⊢
    have h1 := of_decide_eq_true h1
    have h2 := of_decide_eq_true h2
    exact decide_eq_true (by omega)
  ntrans a b c h1 h2 := by
    unfold ltOf coCmp at h1 h2 ⊢
    have h1 := of_decide_eq_false h1
    have h2 := of_decide_eq_false h2
    exact decide_eq_false (by omega)
def CoOk (c : CaV) : Prop := CaOk c ∧ 0 ≤ c.at_ ∧ c.at_ ≤ 345686400000
def OwnCa (w : World) (lo : Nat) (A : Option Addr) (n c : Nat) (l : List CaV) : Prop := OwnR CaV.row 8 w lo 49 A n c l ∧ ∀ r ∈ l, CoOk r
theorem OwnCa.swap {l : List CaV} {i j : Nat} {x y : CaV} (hok : ∀ r ∈ l, CoOk r) (hx : x ∈ l) (hy : y ∈ l) : ∀ r ∈ (l.set i x).set j y, CoOk r := by
  intro r hr
  rcases List.mem_or_eq_of_mem_set hr with h | rfl
  · rcases List.mem_or_eq_of_mem_set h with h | rfl
    · exact hok r h
    · exact hok _ hx
  · exact hok _ hy
theorem CaV.one (a : CaV) : ∀ v ∈ a.row, v.oneCell' = true := by
  intro v hv
  simp [CaV.row] at hv
  rcases hv with rfl | rfl | rfl | rfl | rfl | rfl | rfl | rfl <;> rfl
set_option maxHeartbeats 1000000 in
theorem callerOrder_any (a b : CaV) (w : World) (ha : CoOk a) (hb : CoOk b) : Calls Tryz.prog 10 #[.agg #[.string a.id, .string a.skill, .int .i64 a.at_, .int .i64 a.least, .int .i64 a.prio, .int .i64 a.pat, .int .i64 a.talk, .bool a.back], .agg #[.string b.id, .string b.skill, .int .i64 b.at_, .int .i64 b.least, .int .i64 b.prio, .int .i64 b.pat, .int .i64 b.talk, .bool b.back]] w (RetV (.int .i64 (coCmp a b)) w) := by
  obtain ⟨w1, hw1⟩ : ∃ v, w.alloc (.cells #[.string a.id, .string a.skill, .int .i64 a.at_, .int .i64 a.least, .int .i64 a.prio, .int .i64 a.pat, .int .i64 a.talk, .bool a.back] 49) = v := ⟨_, rfl⟩
  obtain ⟨w2, hw2⟩ : ∃ v, w1.alloc (.cells #[.string b.id, .string b.skill, .int .i64 b.at_, .int .i64 b.least, .int .i64 b.prio, .int .i64 b.pat, .int .i64 b.talk, .bool b.back] 49) = v := ⟨_, rfl⟩
  have HX := Lib.hid (show Blk w2 w.heap.size 49 #[.string a.id, .string a.skill, .int .i64 a.at_, .int .i64 a.least, .int .i64 a.prio, .int .i64 a.pat, .int .i64 a.talk, .bool a.back] by rw [← hw2, ← hw1]; exact (Blk.new _ _ _).alloc _)
  have HY := Lib.hid (show Blk w2 (w.heap.size + 1) 49 #[.string b.id, .string b.skill, .int .i64 b.at_, .int .i64 b.least, .int .i64 b.prio, .int .i64 b.pat, .int .i64 b.talk, .bool b.back] by
    rw [← hw2, ← hw1]
    have h := Blk.new (w.alloc (.cells #[.string a.id, .string a.skill, .int .i64 a.at_, .int .i64 a.least, .int .i64 a.prio, .int .i64 a.pat, .int .i64 a.talk, .bool a.back] 49)) 49 #[.string b.id, .string b.skill, .int .i64 b.at_, .int .i64 b.least, .int .i64 b.prio, .int .i64 b.pat, .int .i64 b.talk, .bool b.back]
    simpa using h)
  have HG := Lib.hid (show w.grownBy w2 none by rw [← hw2, ← hw1]; exact gr_alloc (gr_alloc (gr_refl _ _) _) _)
  have HW1 := Lib.hid hw1; have HW2 := Lib.hid hw2
  have cx := HX.out.cell 2
  have cy := HY.out.cell 2
  have HV := Lib.hid (show wrap64 (a.at_ - b.at_) = coCmp a b by have := ha.2; have := hb.2; unfold wrap64 coCmp; omega)
  clear hw1 hw2
  go_enter Tryz.func10, Tryz.ntmps10
  go_upto_region 1 with (fail)
  (try rw [HW1.out])
  (try rw [HW2.out])
  go_wp2_with fail
  go_ret
  exact ⟨by rw [← HV.out]; rfl, HG.out⟩
def SortedC (A : Option Addr) (n c lo : Nat) (l : List CaV) (w : World) (e : Ending) (w' : World) : Prop := e = .returned (.tuple #[]) ∧ ∃ l', OwnCa w' lo A n c l' ∧ w.grownBy w' (blkOf A) ∧ (l'.Perm l ∧ Asc coCmp l')
set_option maxHeartbeats 8000000 in
set_option maxRecDepth 100000 in
theorem insSortC_any (lo : Nat) (A : Option Addr) (n c : Nat) (l : List CaV) (w : World) (h : OwnCa w lo A n c l) (hn : n ≤ 100) :
    Calls Tryz.prog 40 #[.slice A n c, .int .i64 0, .int .i64 n, .func (.func 10) #[] #[]] w (SortedC A n c lo l w) := by
  have H := Lib.hid h; clear h
  go_enter Tryz.func40, Tryz.ntmps40
  go_wp2_with fail
  go_loopw [8, 9] (fun t _ wr => ∃ (i : Nat) (l' : List CaV), t = .int .i64 i ∧ 1 ≤ i ∧ i ≤ n + 1 ∧ OwnCa wr lo A n c l' ∧ w.grownBy wr (blkOf A) ∧ (l'.Perm l ∧ SrtTo coCmp l' i)) (fun t _ _ => n + 1 - (intOf t).toNat)
  case atStart => exact ⟨1, l, rfl, Nat.le_refl _, by omega, H.out, gr_refl _ _, .refl _, SrtTo.one⟩
  case round =>
    obtain ⟨i, l1, rfl, hi, hi2, hown, hg, hps⟩ := hrel
    have HO := Lib.hid hown; have HG := Lib.hid hg; have HPS := Lib.hid hps; clear hown hg hps
    by_cases hlt : i < n
    · obtain ⟨g, rfl, _, _⟩ := H.out.1.1.pos (by omega)
      have hl0 : (i : Int) < (n : Int) := by omega
      go_wp2_with fail
      go_loopw [9] (fun t wr => ∃ (j : Nat) (l' : List CaV), t = .int .i64 j ∧ j ≤ i ∧ OwnCa wr lo (some ⟨g, 0, none⟩) n c l' ∧ w.grownBy wr (some g) ∧ (l'.Perm l ∧ Hole coCmp l' i j)) (fun t _ => (intOf t).toNat)
      case atStart => exact ⟨i, l1, rfl, Nat.le_refl _, HO.out, HG.out, HPS.out.1, HPS.out.2.hole⟩
      case round =>
        clear HO HG HPS
        obtain ⟨j, l2, rfl, hj, hown, hg, hps⟩ := hrel
        have HPS := Lib.hid hps; clear hps
        have HO := Lib.hid hown.1; have HK := Lib.hid hown.2; have HG := Lib.hid hg; clear hown hg
        have hHeld : wr.grownBy wr.drew none := gr_drew (gr_refl _ _)
        by_cases h0 : 0 < j
        · obtain ⟨q, rfl⟩ : ∃ q, j = q + 1 := ⟨j - 1, by omega⟩
          obtain ⟨⟨cid1, csk1, at1, ls1, pr1, pa1, tk1, bk1⟩, hx⟩ : ∃ b, l2[q + 1]? = some b := ⟨_, List.getElem?_eq_getElem (by rw [HO.out.2]; omega)⟩
          obtain ⟨⟨cid2, csk2, at2, ls2, pr2, pa2, tk2, bk2⟩, hy⟩ : ∃ b, l2[q]? = some b := ⟨_, List.getElem?_eq_getElem (by rw [HO.out.2]; omega)⟩
          have HX := Lib.hid hx; have HY := Lib.hid hy; clear hx hy
          have HCX := Lib.hid (HO.out.recs.at_ CaV.row_len HX.out)
          have HCY := Lib.hid (HO.out.recs.at_ CaV.row_len HY.out)
          have hi0 : decide ((0 : Int) < ((q + 1 : Nat) : Int)) = true := decide_eq_true (by omega)
          have hi1 : decide ((0 : Int) < (q : Int) + 1) = true := decide_eq_true (by omega)
          have q1 : IntKind.i64.wrap (q : Int) = (q : Int) := IntWalk.i64_in _ (by omega)
          have q2 : (0 : Int) ≤ (q : Int) + 1 := by omega
          have q3 : (q : Int) + 1 < (n : Int) := by omega
          have q4 : ((q : Int) + 1).toNat = q + 1 := by omega
          have q5 : (0 : Int) ≤ (q : Int) := by omega
          have q6 : (q : Int) < (n : Int) := by omega
          go_wp2_with fail
          refine H_begin (fun w' => wr.grownBy w' none) (by kernel_rfl) ?_
          refine H_take (k := 0) (v := ?_) (by rfl) (by kernel_rfl) (by kernel_rfl) (by kernel_rfl) (by exact fun _ _ _ h => h) (by rfl) ?_ (by assumption) ?_
          rotate_left 1
          · intro w hSw
            (try dsimp only at hSw)
            go_simp
            (try with_reducible rfl)
          (try simp only [Act.put, List.setIfInBounds_toArray, List.set_cons_zero, List.set_cons_succ])
          refine H_take (k := 1) (v := ?_) (by rfl) (by kernel_rfl) (by kernel_rfl) (by kernel_rfl) (by exact fun _ _ _ h => h) (by rfl) ?_ (by assumption) ?_
          rotate_left 1
          · intro w hSw
            (try dsimp only at hSw)
            go_simp
            (try with_reducible rfl)
          (try simp only [Act.put, List.setIfInBounds_toArray, List.set_cons_zero, List.set_cons_succ])
          refine H_take (k := 2) (v := ?_) (by rfl) (by kernel_rfl) (by kernel_rfl) (by kernel_rfl) (by exact fun _ _ _ h => h) (by rfl) ?_ (by assumption) ?_
          rotate_left 1
          · intro w hSw
            (try dsimp only at hSw)
            go_simp
            (try with_reducible rfl)
          (try simp only [Act.put, List.setIfInBounds_toArray, List.set_cons_zero, List.set_cons_succ])
          refine H_take (k := 3) (v := ?_) (by rfl) (by kernel_rfl) (by kernel_rfl) (by kernel_rfl) (by exact fun _ _ _ h => h) (by rfl) ?_ (by assumption) ?_
          rotate_left 1
          · intro w hSw
            (try dsimp only at hSw)
            go_simp
            (try with_reducible rfl)
          (try simp only [Act.put, List.setIfInBounds_toArray, List.set_cons_zero, List.set_cons_succ])
          refine H_take (k := 4) (v := ?_) (by rfl) (by kernel_rfl) (by kernel_rfl) (by kernel_rfl) (by exact fun _ _ _ h => h) (by rfl) ?_ (by assumption) ?_
          rotate_left 1
          · intro w hSw
            (try dsimp only at hSw)
            go_simp
            (try with_reducible rfl)
          (try simp only [Act.put, List.setIfInBounds_toArray, List.set_cons_zero, List.set_cons_succ])
          refine H_take (k := 5) (v := ?_) (by rfl) (by kernel_rfl) (by kernel_rfl) (by kernel_rfl) (by exact fun _ _ _ h => h) (by rfl) ?_ (by assumption) ?_
          rotate_left 1
          · intro w hSw
            (try dsimp only at hSw)
            go_simp
            (try with_reducible rfl)
          (try simp only [Act.put, List.setIfInBounds_toArray, List.set_cons_zero, List.set_cons_succ])
          refine H_take (k := 6) (v := ?_) (by rfl) (by kernel_rfl) (by kernel_rfl) (by kernel_rfl) (by exact fun _ _ _ h => h) (by rfl) ?_ (by assumption) ?_
          rotate_left 1
          · intro w hSw
            (try dsimp only at hSw)
            go_simp
            (try with_reducible rfl)
          (try simp only [Act.put, List.setIfInBounds_toArray, List.set_cons_zero, List.set_cons_succ])
          refine H_take (k := 7) (v := ?_) (by rfl) (by kernel_rfl) (by kernel_rfl) (by kernel_rfl) (by exact fun _ _ _ h => h) (by rfl) ?_ (by assumption) ?_
          rotate_left 1
          · intro w hSw
            (try dsimp only at hSw)
            go_simp
            (try with_reducible rfl)
          (try simp only [Act.put, List.setIfInBounds_toArray, List.set_cons_zero, List.set_cons_succ])
          refine H_take (k := 8) (v := .agg #[.string cid1, .string csk1, .int .i64 at1, .int .i64 ls1, .int .i64 pr1, .int .i64 pa1, .int .i64 tk1, .bool bk1]) (by rfl) (by kernel_rfl) (by kernel_rfl) (by kernel_rfl) (by exact fun _ _ _ h => h) (by rfl) (fun w' hSw => exec_lda Tryz.caT _ rfl _ rfl [.string cid1, .string csk1, .int .i64 at1, .int .i64 ls1, .int .i64 pr1, .int .i64 pa1, .int .i64 tk1, .bool bk1] rfl (fun j u hu => by rw [add_mk]; exact (by simpa using ((HO.out.recs.grown hSw (fun g e => by cases e)).at_ CaV.row_len HX.out) j u hu))) (by assumption) ?_
          (try simp only [Act.put, List.setIfInBounds_toArray, List.set_cons_zero, List.set_cons_succ])
          refine H_take (k := 9) (v := ?_) (by rfl) (by kernel_rfl) (by kernel_rfl) (by kernel_rfl) (by exact fun _ _ _ h => h) (by rfl) ?_ (by assumption) ?_
          rotate_left 1
          · intro w hSw
            (try dsimp only at hSw)
            go_simp
            (try with_reducible rfl)
          (try simp only [Act.put, List.setIfInBounds_toArray, List.set_cons_zero, List.set_cons_succ])
          refine H_take (k := 10) (v := ?_) (by rfl) (by kernel_rfl) (by kernel_rfl) (by kernel_rfl) (by exact fun _ _ _ h => h) (by rfl) ?_ (by assumption) ?_
          rotate_left 1
          · intro w hSw
            (try dsimp only at hSw)
            go_simp
            (try with_reducible rfl)
          (try simp only [Act.put, List.setIfInBounds_toArray, List.set_cons_zero, List.set_cons_succ])
          refine H_take (k := 11) (v := ?_) (by rfl) (by kernel_rfl) (by kernel_rfl) (by kernel_rfl) (by exact fun _ _ _ h => h) (by rfl) ?_ (by assumption) ?_
          rotate_left 1
          · intro w hSw
            (try dsimp only at hSw)
            go_simp
            (try with_reducible rfl)
          (try simp only [Act.put, List.setIfInBounds_toArray, List.set_cons_zero, List.set_cons_succ])
          refine H_take (k := 12) (v := ?_) (by rfl) (by kernel_rfl) (by kernel_rfl) (by kernel_rfl) (by exact fun _ _ _ h => h) (by rfl) ?_ (by assumption) ?_
          rotate_left 1
          · intro w hSw
            (try dsimp only at hSw)
            go_simp
            (try with_reducible rfl)
          (try simp only [Act.put, List.setIfInBounds_toArray, List.set_cons_zero, List.set_cons_succ])
          refine H_take (k := 13) (v := .agg #[.string cid2, .string csk2, .int .i64 at2, .int .i64 ls2, .int .i64 pr2, .int .i64 pa2, .int .i64 tk2, .bool bk2]) (by rfl) (by kernel_rfl) (by kernel_rfl) (by kernel_rfl) (by exact fun _ _ _ h => h) (by rfl) (fun w' hSw => exec_lda Tryz.caT _ rfl _ rfl [.string cid2, .string csk2, .int .i64 at2, .int .i64 ls2, .int .i64 pr2, .int .i64 pa2, .int .i64 tk2, .bool bk2] rfl (fun j u hu => by rw [add_mk]; exact (by simpa using ((HO.out.recs.grown hSw (fun g e => by cases e)).at_ CaV.row_len HY.out) j u hu))) (by assumption) ?_
          (try simp only [Act.put, List.setIfInBounds_toArray, List.set_cons_zero, List.set_cons_succ])
          refine H_run (k := 14) (by rfl) (by kernel_rfl) (by rfl) (fun K hK => ?_)
          go_simp
          refine (callerOrder_any ⟨cid1, csk1, at1, ls1, pr1, pa1, tk1, bk1⟩ ⟨cid2, csk2, at2, ls2, pr2, pa2, tk2, bk2⟩ _ (HK.out _ (mem_of_get HX.out)) (HK.out _ (mem_of_get HY.out))).mono ?_
          rintro e w6 ⟨rfl, hg6⟩
          obtain ⟨Z, hZ⟩ : ∃ Z, coCmp ⟨cid1, csk1, at1, ls1, pr1, pa1, tk1, bk1⟩ ⟨cid2, csk2, at2, ls2, pr2, pa2, tk2, bk2⟩ = Z := ⟨_, rfl⟩
          rw [hZ]
          have HZ := Lib.hid hZ
          clear hZ
          go_simp
          have hgz : wr.grownBy w6 none := gr_none (gr_drew (gr_refl wr none)) hg6
          refine hK _ _ hgz ?_
          clear hK K hHeld hg6
          have hHeld := hgz
          obtain ⟨ZB, hZB⟩ : ∃ ZB, decide (Z < 0) = ZB := ⟨_, rfl⟩
          refine H_take (k := 15) (v := ?_) (by rfl) (by kernel_rfl) (by kernel_rfl) (by kernel_rfl) (by exact fun _ _ _ h => h) (by rfl) ?_ (by assumption) ?_
          rotate_left 1
          · intro w hSw
            (try dsimp only at hSw)
            go_simp
            (try with_reducible rfl)
          (try simp only [Act.put, List.setIfInBounds_toArray, List.set_cons_zero, List.set_cons_succ])
          refine H_take (k := 16) (v := ?_) (by rfl) (by kernel_rfl) (by kernel_rfl) (by kernel_rfl) (by exact fun _ _ _ h => h) (by rfl) ?_ (by assumption) ?_
          rotate_left 1
          · intro w hSw
            (try dsimp only at hSw)
            go_simp
            (try with_reducible rfl)
          (try simp only [Act.put, List.setIfInBounds_toArray, List.set_cons_zero, List.set_cons_succ])
          refine H_done (by kernel_rfl) ?_
          clear hi0 hi1 hHeld
          have HO6 := Lib.hid (HO.out.kept hgz (fun g e => by cases e))
          have HG6 := Lib.hid (gr_none HG.out hgz)
          have HZB := Lib.hid hZB
          clear hgz hZB
          cases ZB
          · clear q1 q2 q3 q4 q5 q6
            go_wp2_with fail
            go_roundw
            case rel => exact ⟨i + 1, l2, by go_num, by omega, by omega, ⟨HO6.out, HK.out⟩, HG6.out, HPS.out.1, Hole.done swoCo HPS.out.2 HX.out HY.out hj (by rw [HZ.out]; exact of_decide_eq_false HZB.out)⟩
            case measure => simp [intOf]; omega
          · have HCX2 := Lib.hid (HO6.out.recs.at_ CaV.row_len HX.out)
            go_wp2_with fail
            refine wp_region_B (fun w' => w6.grownBy w' none) 15 (by kernel_rfl) ?_
            have hHeld : w6.grownBy w6.drew none := gr_drew (gr_refl _ _)
            refine B_take (k := 0) false (v := ?_) (by rfl) (by kernel_rfl) (by exact fun _ _ _ h => h) (by rfl) ?_ (by first | exact .inr hHeld | exact .inl (by rfl)) ?_
            rotate_left 1
            · intro w hSw
              clear hSw
              go_simp
              (try with_reducible rfl)
            (try simp only [Act.put, List.setIfInBounds_toArray, List.set_cons_zero, List.set_cons_succ])
            refine B_take (k := 1) false (v := ?_) (by rfl) (by kernel_rfl) (by exact fun _ _ _ h => h) (by rfl) ?_ (by first | exact .inr hHeld | exact .inl (by rfl)) ?_
            rotate_left 1
            · intro w hSw
              clear hSw
              go_simp
              (try with_reducible rfl)
            (try simp only [Act.put, List.setIfInBounds_toArray, List.set_cons_zero, List.set_cons_succ])
            refine B_take (k := 2) false (v := ?_) (by rfl) (by kernel_rfl) (by exact fun _ _ _ h => h) (by rfl) ?_ (by first | exact .inr hHeld | exact .inl (by rfl)) ?_
            rotate_left 1
            · intro w hSw
              clear hSw
              go_simp
              (try with_reducible rfl)
            (try simp only [Act.put, List.setIfInBounds_toArray, List.set_cons_zero, List.set_cons_succ])
            refine B_take (k := 3) false (v := ?_) (by rfl) (by kernel_rfl) (by exact fun _ _ _ h => h) (by rfl) ?_ (by first | exact .inr hHeld | exact .inl (by rfl)) ?_
            rotate_left 1
            · intro w hSw
              clear hSw
              go_simp
              (try with_reducible rfl)
            (try simp only [Act.put, List.setIfInBounds_toArray, List.set_cons_zero, List.set_cons_succ])
            refine B_take (k := 4) false (v := ?_) (by rfl) (by kernel_rfl) (by exact fun _ _ _ h => h) (by rfl) ?_ (by first | exact .inr hHeld | exact .inl (by rfl)) ?_
            rotate_left 1
            · intro w hSw
              clear hSw
              go_simp
              (try with_reducible rfl)
            (try simp only [Act.put, List.setIfInBounds_toArray, List.set_cons_zero, List.set_cons_succ])
            refine B_take (k := 5) false (v := ?_) (by rfl) (by kernel_rfl) (by exact fun _ _ _ h => h) (by rfl) ?_ (by first | exact .inr hHeld | exact .inl (by rfl)) ?_
            rotate_left 1
            · intro w hSw
              clear hSw
              go_simp
              (try with_reducible rfl)
            (try simp only [Act.put, List.setIfInBounds_toArray, List.set_cons_zero, List.set_cons_succ])
            refine B_take (k := 6) false (v := ?_) (by rfl) (by kernel_rfl) (by exact fun _ _ _ h => h) (by rfl) ?_ (by first | exact .inr hHeld | exact .inl (by rfl)) ?_
            rotate_left 1
            · intro w hSw
              clear hSw
              go_simp
              (try with_reducible rfl)
            (try simp only [Act.put, List.setIfInBounds_toArray, List.set_cons_zero, List.set_cons_succ])
            refine B_take (k := 7) false (v := ?_) (by rfl) (by kernel_rfl) (by exact fun _ _ _ h => h) (by rfl) ?_ (by first | exact .inr hHeld | exact .inl (by rfl)) ?_
            rotate_left 1
            · intro w hSw
              clear hSw
              go_simp
              (try with_reducible rfl)
            (try simp only [Act.put, List.setIfInBounds_toArray, List.set_cons_zero, List.set_cons_succ])
            refine B_take (k := 8) false (v := ?_) (by rfl) (by kernel_rfl) (by exact fun _ _ _ h => h) (by rfl) ?_ (by first | exact .inr hHeld | exact .inl (by rfl)) ?_
            rotate_left 1
            · intro w hSw
              clear hSw
              go_simp
              (try with_reducible rfl)
            (try simp only [Act.put, List.setIfInBounds_toArray, List.set_cons_zero, List.set_cons_succ])
            refine B_take (k := 9) true (v := .agg #[.string cid2, .string csk2, .int .i64 at2, .int .i64 ls2, .int .i64 pr2, .int .i64 pa2, .int .i64 tk2, .bool bk2]) (by rfl) (by kernel_rfl) (by exact fun _ _ _ h => h) (by rfl) (fun w' hSw => exec_lda Tryz.caT _ rfl _ rfl [.string cid2, .string csk2, .int .i64 at2, .int .i64 ls2, .int .i64 pr2, .int .i64 pa2, .int .i64 tk2, .bool bk2] rfl (fun j u hu => by rw [add_mk]; exact (by simpa using ((HO6.out.recs.grown hSw (fun g e => by cases e)).at_ CaV.row_len HY.out) j u hu))) (.inr hHeld) ?_
            (try simp only [Act.put, List.setIfInBounds_toArray, List.set_cons_zero, List.set_cons_succ])
            refine B_take (k := 10) false (v := ?_) (by rfl) (by kernel_rfl) (by exact fun _ _ _ h => h) (by rfl) ?_ (by first | exact .inr hHeld | exact .inl (by rfl)) ?_
            rotate_left 1
            · intro w hSw
              clear hSw
              go_simp
              (try with_reducible rfl)
            (try simp only [Act.put, List.setIfInBounds_toArray, List.set_cons_zero, List.set_cons_succ])
            refine B_take (k := 11) false (v := ?_) (by rfl) (by kernel_rfl) (by exact fun _ _ _ h => h) (by rfl) ?_ (by first | exact .inr hHeld | exact .inl (by rfl)) ?_
            rotate_left 1
            · intro w hSw
              clear hSw
              go_simp
              (try with_reducible rfl)
            (try simp only [Act.put, List.setIfInBounds_toArray, List.set_cons_zero, List.set_cons_succ])
            refine B_take (k := 12) false (v := ?_) (by rfl) (by kernel_rfl) (by exact fun _ _ _ h => h) (by rfl) ?_ (by first | exact .inr hHeld | exact .inl (by rfl)) ?_
            rotate_left 1
            · intro w hSw
              clear hSw
              go_simp
              (try with_reducible rfl)
            (try simp only [Act.put, List.setIfInBounds_toArray, List.set_cons_zero, List.set_cons_succ])
            refine B_take (k := 13) true (v := .agg #[.string cid1, .string csk1, .int .i64 at1, .int .i64 ls1, .int .i64 pr1, .int .i64 pa1, .int .i64 tk1, .bool bk1]) (by rfl) (by kernel_rfl) (by exact fun _ _ _ h => h) (by rfl) (fun w' hSw => exec_lda Tryz.caT _ rfl _ rfl [.string cid1, .string csk1, .int .i64 at1, .int .i64 ls1, .int .i64 pr1, .int .i64 pa1, .int .i64 tk1, .bool bk1] rfl (fun j u hu => by rw [add_mk]; exact (by simpa using ((HO6.out.recs.grown hSw (fun g e => by cases e)).at_ CaV.row_len HX.out) j u hu))) (.inr hHeld) ?_
            (try simp only [Act.put, List.setIfInBounds_toArray, List.set_cons_zero, List.set_cons_succ])
            refine B_take (k := 14) false (v := ?_) (by rfl) (by kernel_rfl) (by exact fun _ _ _ h => h) (by rfl) ?_ (by first | exact .inr hHeld | exact .inl (by rfl)) ?_
            rotate_left 1
            · intro w hSw
              clear hSw
              go_simp
              (try with_reducible rfl)
            (try simp only [Act.put, List.setIfInBounds_toArray, List.set_cons_zero, List.set_cons_succ])
            refine B_run (k := 15) (by rfl) (by kernel_rfl) (by rfl) (fun K hK => ?_)
            refine wp_store_rec (row := CaV.row) Tryz.caT CaV.row_len (by decide) _ _ rfl (q + 1) _ rfl rfl ⟨cid2, csk2, at2, ls2, pr2, pa2, tk2, bk2⟩ rfl (HO6.out.kept (gr_drew (gr_refl _ none)) (fun g e => by cases e)) (by omega) (CaV.one _) ?_
            intro w7 hown7 hg7
            refine hK _ _ (.inl (by rfl)) ?_
            clear hK K hHeld
            (try simp only [Act.put, List.setIfInBounds_toArray, List.set_cons_zero, List.set_cons_succ])
            refine B_take (k := 16) false (v := ?_) (by rfl) (by kernel_rfl) (by exact fun _ _ _ h => h) (by rfl) ?_ (by first | exact .inr hHeld | exact .inl (by rfl)) ?_
            rotate_left 1
            · intro w hSw
              clear hSw
              go_simp
              (try with_reducible rfl)
            (try simp only [Act.put, List.setIfInBounds_toArray, List.set_cons_zero, List.set_cons_succ])
            refine B_run (k := 17) (by rfl) (by kernel_rfl) (by rfl) (fun K hK => ?_)
            refine wp_store_rec (row := CaV.row) Tryz.caT CaV.row_len (by decide) _ _ rfl q _ rfl rfl ⟨cid1, csk1, at1, ls1, pr1, pa1, tk1, bk1⟩ rfl hown7 (by omega) (CaV.one _) ?_
            intro w8 hown8 hg8
            refine hK _ _ (.inl (by rfl)) ?_
            clear hK K
            (try simp only [Act.put, List.setIfInBounds_toArray, List.set_cons_zero, List.set_cons_succ])
            refine B_done (by kernel_rfl) ?_
            have HO8 := Lib.hid hown8
            have HG8 := Lib.hid (gr_same HG6.out (gr_same (gr_same (gr_drew (gr_refl w6 _)) hg7) hg8))
            clear hown7 hg7 hown8 hg8 q1 q2 q3 q4 q5 q6
            go_simp
            go_wp2_with fail
            go_roundw
            case rel => exact ⟨q, _, by go_num, by omega, ⟨HO8.out, OwnCa.swap HK.out (mem_of_get HY.out) (mem_of_get HX.out)⟩, HG8.out, (swap_perm HX.out HY.out).trans HPS.out.1, Hole.swap swoCo HPS.out.2 HX.out HY.out hj (by rw [HZ.out]; exact of_decide_eq_true HZB.out)⟩
            case measure => simp [intOf]
        · obtain rfl : j = 0 := by omega
          have hi0 : decide ((0 : Int) < ((0 : Nat) : Int)) = false := by decide
          go_wp2_with fail
          refine H_begin (fun w' => wr.grownBy w' none) (by kernel_rfl) ?_
          refine H_take (k := 0) (v := ?_) (by rfl) (by kernel_rfl) (by kernel_rfl) (by kernel_rfl) (by exact fun _ _ _ h => h) (by rfl) ?_ (by assumption) ?_
          rotate_left 1
          · intro w hSw
            (try dsimp only at hSw)
            go_simp
            (try with_reducible rfl)
          (try simp only [Act.put, List.setIfInBounds_toArray, List.set_cons_zero, List.set_cons_succ])
          refine H_take (k := 1) (v := ?_) (by rfl) (by kernel_rfl) (by kernel_rfl) (by kernel_rfl) (by exact fun _ _ _ h => h) (by rfl) ?_ (by assumption) ?_
          rotate_left 1
          · intro w hSw
            (try dsimp only at hSw)
            go_simp
            (try with_reducible rfl)
          (try simp only [Act.put, List.setIfInBounds_toArray, List.set_cons_zero, List.set_cons_succ])
          refine H_take (k := 2) (v := ?_) (by rfl) (by kernel_rfl) (by kernel_rfl) (by kernel_rfl) (by exact fun _ _ _ h => h) (by rfl) ?_ (by assumption) ?_
          rotate_left 1
          · intro w hSw
            (try dsimp only at hSw)
            go_simp
            (try with_reducible rfl)
          (try simp only [Act.put, List.setIfInBounds_toArray, List.set_cons_zero, List.set_cons_succ])
          refine H_take (k := 3) (v := ?_) (by rfl) (by kernel_rfl) (by kernel_rfl) (by kernel_rfl) (by exact fun _ _ _ h => h) (by rfl) ?_ (by assumption) ?_
          rotate_left 1
          · intro w hSw
            (try dsimp only at hSw)
            go_simp
            (try with_reducible rfl)
          (try simp only [Act.put, List.setIfInBounds_toArray, List.set_cons_zero, List.set_cons_succ])
          refine H_skip (k := 4) (by rfl) (by kernel_rfl) (by kernel_rfl) (by kernel_rfl) (by exact fun _ _ _ h => h) (by rfl) (by assumption) ?_
          (try simp only [Act.put, List.setIfInBounds_toArray, List.set_cons_zero, List.set_cons_succ])
          refine H_skip (k := 5) (by rfl) (by kernel_rfl) (by kernel_rfl) (by kernel_rfl) (by exact fun _ _ _ h => h) (by rfl) (by assumption) ?_
          (try simp only [Act.put, List.setIfInBounds_toArray, List.set_cons_zero, List.set_cons_succ])
          refine H_skip (k := 6) (by rfl) (by kernel_rfl) (by kernel_rfl) (by kernel_rfl) (by exact fun _ _ _ h => h) (by rfl) (by assumption) ?_
          (try simp only [Act.put, List.setIfInBounds_toArray, List.set_cons_zero, List.set_cons_succ])
          refine H_skip (k := 7) (by rfl) (by kernel_rfl) (by kernel_rfl) (by kernel_rfl) (by exact fun _ _ _ h => h) (by rfl) (by assumption) ?_
          (try simp only [Act.put, List.setIfInBounds_toArray, List.set_cons_zero, List.set_cons_succ])
          refine H_skip (k := 8) (by rfl) (by kernel_rfl) (by kernel_rfl) (by kernel_rfl) (by exact fun _ _ _ h => h) (by rfl) (by assumption) ?_
          (try simp only [Act.put, List.setIfInBounds_toArray, List.set_cons_zero, List.set_cons_succ])
          refine H_skip (k := 9) (by rfl) (by kernel_rfl) (by kernel_rfl) (by kernel_rfl) (by exact fun _ _ _ h => h) (by rfl) (by assumption) ?_
          (try simp only [Act.put, List.setIfInBounds_toArray, List.set_cons_zero, List.set_cons_succ])
          refine H_skip (k := 10) (by rfl) (by kernel_rfl) (by kernel_rfl) (by kernel_rfl) (by exact fun _ _ _ h => h) (by rfl) (by assumption) ?_
          (try simp only [Act.put, List.setIfInBounds_toArray, List.set_cons_zero, List.set_cons_succ])
          refine H_skip (k := 11) (by rfl) (by kernel_rfl) (by kernel_rfl) (by kernel_rfl) (by exact fun _ _ _ h => h) (by rfl) (by assumption) ?_
          (try simp only [Act.put, List.setIfInBounds_toArray, List.set_cons_zero, List.set_cons_succ])
          refine H_skip (k := 12) (by rfl) (by kernel_rfl) (by kernel_rfl) (by kernel_rfl) (by exact fun _ _ _ h => h) (by rfl) (by assumption) ?_
          (try simp only [Act.put, List.setIfInBounds_toArray, List.set_cons_zero, List.set_cons_succ])
          refine H_skip (k := 13) (by rfl) (by kernel_rfl) (by kernel_rfl) (by kernel_rfl) (by exact fun _ _ _ h => h) (by rfl) (by assumption) ?_
          (try simp only [Act.put, List.setIfInBounds_toArray, List.set_cons_zero, List.set_cons_succ])
          refine H_skip (k := 14) (by rfl) (by kernel_rfl) (by kernel_rfl) (by kernel_rfl) (by exact fun _ _ _ h => h) (by rfl) (by assumption) ?_
          (try simp only [Act.put, List.setIfInBounds_toArray, List.set_cons_zero, List.set_cons_succ])
          refine H_skip (k := 15) (by rfl) (by kernel_rfl) (by kernel_rfl) (by kernel_rfl) (by exact fun _ _ _ h => h) (by rfl) (by assumption) ?_
          (try simp only [Act.put, List.setIfInBounds_toArray, List.set_cons_zero, List.set_cons_succ])
          refine H_take (k := 16) (v := ?_) (by rfl) (by kernel_rfl) (by kernel_rfl) (by kernel_rfl) (by exact fun _ _ _ h => h) (by rfl) ?_ (by assumption) ?_
          rotate_left 1
          · intro w hSw
            (try dsimp only at hSw)
            go_simp
            (try with_reducible rfl)
          (try simp only [Act.put, List.setIfInBounds_toArray, List.set_cons_zero, List.set_cons_succ])
          refine H_done (by kernel_rfl) ?_
          clear hi0 hHeld
          have HO6 := Lib.hid (HO.out.kept (gr_drew (gr_refl _ none)) (fun g e => by cases e))
          have HG6 := Lib.hid (gr_drew HG.out)
          go_wp2_with fail
          go_roundw
          case rel => exact ⟨i + 1, l2, by go_num, by omega, by omega, ⟨HO6.out, HK.out⟩, HG6.out, HPS.out.1, Hole.done0 HPS.out.2⟩
          case measure => simp [intOf]; omega
    · have hl0 : ¬ (i : Int) < (n : Int) := by omega
      go_wp2_with fail
      go_end0
      exact ⟨rfl, l1, HO.out, HG.out, HPS.out.1, HPS.out.2.asc (by rw [HO.out.1.2]; omega)⟩
set_option maxHeartbeats 2000000 in
theorem stableC_any (lo : Nat) (A : Option Addr) (n c : Nat) (l : List CaV) (w : World) (h : OwnCa w lo A n c l) (hn : n ≤ 19) :
    Calls Tryz.prog 22 #[.slice A n c, .int .i64 n, .func (.func 10) #[] #[]] w (SortedC A n c lo l w) := by
  have H := Lib.hid h; clear h
  have d1 : decide ((20 : Int) ≤ (n : Int)) = false := decide_eq_false (by omega)
  have d2 : decide ((20 : Int) < (n : Int)) = false := decide_eq_false (by omega)
  go_enter Tryz.func22, Tryz.ntmps22
  go_wp2_with fail
  go_loopw [7, 8] (fun x y wr => x = .int .i64 0 ∧ y = .int .i64 20 ∧ w = wr) (fun _ _ _ => 0)
  case atStart => exact ⟨rfl, rfl, rfl⟩
  case round =>
    obtain ⟨rfl, rfl, rfl⟩ := hrel
    go_wp2_with fail
    refine (insSortC_any lo A n c l _ H.out (by omega)).mono ?_
    rintro e w2 ⟨rfl, l2, hown, hg, hps⟩
    have HO := Lib.hid hown; have HG := Lib.hid hg; have HPS := Lib.hid hps; clear hown hg hps
    go_wp2_with fail
    go_loopw [6, 7, 8] (fun x _ _ wr => x = .int .i64 20 ∧ w2 = wr) (fun _ _ _ _ => 0)
    case atStart => exact ⟨rfl, rfl⟩
    case round =>
      obtain ⟨rfl, rfl⟩ := hrel
      go_wp2_with fail
      go_end0
      exact ⟨rfl, l2, HO.out, HG.out, HPS.out⟩
set_option maxHeartbeats 1000000 in
theorem sortStableC_any (lo : Nat) (A : Option Addr) (n c : Nat) (l : List CaV) (w : World) (h : OwnCa w lo A n c l) (hn : n ≤ 19) :
    Calls Tryz.prog 9 #[.slice A n c, .func (.func 10) #[] #[]] w (SortedC A n c lo l w) := by
  have H := Lib.hid h; clear h
  go_enter Tryz.func9, Tryz.ntmps9
  go_wp2_with fail
  refine (stableC_any lo A n c l _ H.out hn).mono ?_
  rintro e w2 ⟨rfl, l2, hown, hg, hps⟩
  have HO := Lib.hid hown; have HG := Lib.hid hg; have HPS := Lib.hid hps; clear hown hg hps
  go_wp2_with fail
  go_end0
  exact ⟨rfl, l2, HO.out, HG.out, HPS.out⟩
end Go.Proofs.YtelpakmiciilgaaGreatDoor

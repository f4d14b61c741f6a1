/- Contract of slices.SortStableFunc at few acts, in the document's order: they are the same acts, in some order. Conditions: at most 19 acts, each AcOk. -/
import Derived.Test.YtgogiljplnninaaGreatDoorBun3
import Derived.Test.YtgogiljplnninaaGreatDoorBun2
import Derived.Test.YtgogiljplnninaaGreatDoorBun1
import Derived.WalkKit
namespace Go.Proofs.YtgogiljplnninaaGreatDoor
section
open Go.RowKit

theorem exec_lda {P : Program} {w : World} {o : Oper} {ev : Operand → Value} {ty : TypeId} {n : Nat} (T : StructT P ty n) (x : Operand) (ho : o.op = .load ty x) (p : Addr) (hx : ev x = .pointer (some p)) (cs : List Value) (hn : cs.length = n) (hc : ∀ j u, cs[j]? = some u → w.cell? (p.add j) = some u) :
    (execOp ev o).run P w = .ok (.value (.agg cs.toArray)) w := by
  unfold execOp
  simp only [ho, hx, Instr.loadAt, Instr.sureAddr, Sem.run_bind, Sem.run_pure, Result.andThen_ok, run_load_at T hn hc]
theorem actOrder_any (a b : ActV) (w : World) (ha : AcOk a) (hb : AcOk b) : Calls Tryz.prog 72 #[.agg #[.int .i64 a.at_, .string a.bx, .string a.id, .int .i64 a.kd, .int .i64 a.lg, .string a.frm], .agg #[.int .i64 b.at_, .string b.bx, .string b.id, .int .i64 b.kd, .int .i64 b.lg, .string b.frm]] w (RetV (.int .i64 (acCmp a b)) w) := by
  refine (actOrder_q a b w ha.l hb.l).mono ?_
  rintro e w' ⟨rfl, h⟩
  exact ⟨rfl, h.gr⟩
def OwnAc (w : World) (lo : Nat) (A : Option Addr) (n c : Nat) (l : List ActV) : Prop := OwnR ActV.row 6 w lo 56 A n c l ∧ ∀ r ∈ l, AcOk r
def SortedVA (A : Option Addr) (n c lo : Nat) (w : World) (e : Ending) (w' : World) : Prop := e = .returned (.tuple #[]) ∧ ∃ l', OwnAc w' lo A n c l' ∧ w.grownBy w' (blkOf A)
theorem OwnAc.swap {l : List ActV} {i j : Nat} {x y : ActV} (hok : ∀ r ∈ l, AcOk r) (hx : x ∈ l) (hy : y ∈ l) : ∀ r ∈ (l.set i x).set j y, AcOk r := by
  intro r hr
  rcases List.mem_or_eq_of_mem_set hr with h | rfl
  · rcases List.mem_or_eq_of_mem_set h with h | rfl
    · exact hok r h
    · exact hok _ hx
  · exact hok _ hy
set_option maxHeartbeats 8000000 in
set_option maxRecDepth 100000 in
theorem insSortA_any (lo : Nat) (A : Option Addr) (n c : Nat) (l : List ActV) (w : World) (h : OwnAc w lo A n c l) (hn : n ≤ 100) :
    Calls Tryz.prog 195 #[.slice A n c, .int .i64 0, .int .i64 n, .func (.func 72) #[] #[]] w (SortedVA A n c lo w) := by
  have H := Lib.hid h; clear h
  go_enter Tryz.func195, Tryz.ntmps195
  go_wp2_with fail
  go_loopw [8, 9] (fun t _ wr => ∃ (i : Nat) (l' : List ActV), t = .int .i64 i ∧ 1 ≤ i ∧ i ≤ n + 1 ∧ OwnAc wr lo A n c l' ∧ w.grownBy wr (blkOf A)) (fun t _ _ => n + 1 - (intOf t).toNat)
  case atStart => exact ⟨1, l, rfl, Nat.le_refl _, by omega, H.out, gr_refl _ _⟩
  case round =>
    obtain ⟨i, l1, rfl, hi, hi2, hown, hg⟩ := hrel
    have HO := Lib.hid hown; have HG := Lib.hid hg; clear hown hg
    by_cases hlt : i < n
    · obtain ⟨g, rfl, _, _⟩ := H.out.1.1.pos (by omega)
      have hl0 : (i : Int) < (n : Int) := by omega
      go_wp2_with fail
      go_loopw [9] (fun t wr => ∃ (j : Nat) (l' : List ActV), t = .int .i64 j ∧ j ≤ i ∧ OwnAc wr lo (some ⟨g, 0, none⟩) n c l' ∧ w.grownBy wr (some g)) (fun t _ => (intOf t).toNat)
      case atStart => exact ⟨i, l1, rfl, Nat.le_refl _, HO.out, HG.out⟩
      case round =>
        clear HO HG
        obtain ⟨j, l2, rfl, hj, hown, hg⟩ := hrel
        have HO := Lib.hid hown.1; have HK := Lib.hid hown.2; have HG := Lib.hid hg; clear hown hg
        have hHeld : wr.grownBy wr.drew none := gr_drew (gr_refl _ _)
        by_cases h0 : 0 < j
        · obtain ⟨q, rfl⟩ : ∃ q, j = q + 1 := ⟨j - 1, by omega⟩
          obtain ⟨⟨at1, bx1, id1, kd1, lg1, frm1⟩, hx⟩ : ∃ b, l2[q + 1]? = some b := ⟨_, List.getElem?_eq_getElem (by rw [HO.out.2]; omega)⟩
          obtain ⟨⟨at2, bx2, id2, kd2, lg2, frm2⟩, hy⟩ : ∃ b, l2[q]? = some b := ⟨_, List.getElem?_eq_getElem (by rw [HO.out.2]; omega)⟩
          have HX := Lib.hid hx; have HY := Lib.hid hy; clear hx hy
          have HCX := Lib.hid (HO.out.recs.at_ ActV.row_len HX.out)
          have HCY := Lib.hid (HO.out.recs.at_ ActV.row_len HY.out)
          have hi0 : decide ((0 : Int) < ((q + 1 : Nat) : Int)) = true := decide_eq_true (by omega)
          have hi1 : decide ((0 : Int) < (q : Int) + 1) = true := decide_eq_true (by omega)
          have q1 : IntKind.i64.wrap (q : Int) = (q : Int) := IntWalk.i64_in _ (by omega)
          have q2 : (0 : Int) ≤ (q : Int) + 1 := by omega
          have q3 : (q : Int) + 1 < (n : Int) := by omega
          have q4 : ((q : Int) + 1).toNat = q + 1 := by omega
          have q5 : (0 : Int) ≤ (q : Int) := by omega
          have q6 : (q : Int) < (n : Int) := by omega
          go_wp2_with fail
          refine H_begin (fun w' => wr.grownBy w' none) (by kernel_rfl) ?_
          refine H_take (k := 0) (v := ?_) (by rfl) (by kernel_rfl) (by kernel_rfl) (by kernel_rfl) (by exact fun _ _ _ h => h) (by rfl) ?_ (by assumption) ?_
          rotate_left 1
          · intro w hSw
            (try dsimp only at hSw)
            go_simp
            (try with_reducible rfl)
          (try simp only [Act.put, List.setIfInBounds_toArray, List.set_cons_zero, List.set_cons_succ])
          refine H_take (k := 1) (v := ?_) (by rfl) (by kernel_rfl) (by kernel_rfl) (by kernel_rfl) (by exact fun _ _ _ h => h) (by rfl) ?_ (by assumption) ?_
          rotate_left 1
          · intro w hSw
            (try dsimp only at hSw)
            go_simp
            (try with_reducible rfl)
          (try simp only [Act.put, List.setIfInBounds_toArray, List.set_cons_zero, List.set_cons_succ])
          refine H_take (k := 2) (v := ?_) (by rfl) (by kernel_rfl) (by kernel_rfl) (by kernel_rfl) (by exact fun _ _ _ h => h) (by rfl) ?_ (by assumption) ?_
          rotate_left 1
          · intro w hSw
            (try dsimp only at hSw)
            go_simp
            (try with_reducible rfl)
          (try simp only [Act.put, List.setIfInBounds_toArray, List.set_cons_zero, List.set_cons_succ])
          refine H_take (k := 3) (v := ?_) (by rfl) (by kernel_rfl) (by kernel_rfl) (by kernel_rfl) (by exact fun _ _ _ h => h) (by rfl) ?_ (by assumption) ?_
          rotate_left 1
          · intro w hSw
            (try dsimp only at hSw)
            go_simp
            (try with_reducible rfl)
          (try simp only [Act.put, List.setIfInBounds_toArray, List.set_cons_zero, List.set_cons_succ])
          refine H_take (k := 4) (v := ?_) (by rfl) (by kernel_rfl) (by kernel_rfl) (by kernel_rfl) (by exact fun _ _ _ h => h) (by rfl) ?_ (by assumption) ?_
          rotate_left 1
          · intro w hSw
            (try dsimp only at hSw)
            go_simp
            (try with_reducible rfl)
          (try simp only [Act.put, List.setIfInBounds_toArray, List.set_cons_zero, List.set_cons_succ])
          refine H_take (k := 5) (v := ?_) (by rfl) (by kernel_rfl) (by kernel_rfl) (by kernel_rfl) (by exact fun _ _ _ h => h) (by rfl) ?_ (by assumption) ?_
          rotate_left 1
          · intro w hSw
            (try dsimp only at hSw)
            go_simp
            (try with_reducible rfl)
          (try simp only [Act.put, List.setIfInBounds_toArray, List.set_cons_zero, List.set_cons_succ])
          refine H_take (k := 6) (v := ?_) (by rfl) (by kernel_rfl) (by kernel_rfl) (by kernel_rfl) (by exact fun _ _ _ h => h) (by rfl) ?_ (by assumption) ?_
          rotate_left 1
          · intro w hSw
            (try dsimp only at hSw)
            go_simp
            (try with_reducible rfl)
          (try simp only [Act.put, List.setIfInBounds_toArray, List.set_cons_zero, List.set_cons_succ])
          refine H_take (k := 7) (v := ?_) (by rfl) (by kernel_rfl) (by kernel_rfl) (by kernel_rfl) (by exact fun _ _ _ h => h) (by rfl) ?_ (by assumption) ?_
          rotate_left 1
          · intro w hSw
            (try dsimp only at hSw)
            go_simp
            (try with_reducible rfl)
          (try simp only [Act.put, List.setIfInBounds_toArray, List.set_cons_zero, List.set_cons_succ])
          refine H_take (k := 8) (v := .agg #[.int .i64 at1, .string bx1, .string id1, .int .i64 kd1, .int .i64 lg1, .string frm1]) (by rfl) (by kernel_rfl) (by kernel_rfl) (by kernel_rfl) (by exact fun _ _ _ h => h) (by rfl) (fun w' hSw => exec_lda Tryz.acT _ rfl _ rfl [.int .i64 at1, .string bx1, .string id1, .int .i64 kd1, .int .i64 lg1, .string frm1] rfl (fun j u hu => by rw [add_mk]; exact (by simpa using ((HO.out.recs.grown hSw (fun g e => by cases e)).at_ ActV.row_len HX.out) j u hu))) (by assumption) ?_
          (try simp only [Act.put, List.setIfInBounds_toArray, List.set_cons_zero, List.set_cons_succ])
          refine H_take (k := 9) (v := ?_) (by rfl) (by kernel_rfl) (by kernel_rfl) (by kernel_rfl) (by exact fun _ _ _ h => h) (by rfl) ?_ (by assumption) ?_
          rotate_left 1
          · intro w hSw
            (try dsimp only at hSw)
            go_simp
            (try with_reducible rfl)
          (try simp only [Act.put, List.setIfInBounds_toArray, List.set_cons_zero, List.set_cons_succ])
          refine H_take (k := 10) (v := ?_) (by rfl) (by kernel_rfl) (by kernel_rfl) (by kernel_rfl) (by exact fun _ _ _ h => h) (by rfl) ?_ (by assumption) ?_
          rotate_left 1
          · intro w hSw
            (try dsimp only at hSw)
            go_simp
            (try with_reducible rfl)
          (try simp only [Act.put, List.setIfInBounds_toArray, List.set_cons_zero, List.set_cons_succ])
          refine H_take (k := 11) (v := ?_) (by rfl) (by kernel_rfl) (by kernel_rfl) (by kernel_rfl) (by exact fun _ _ _ h => h) (by rfl) ?_ (by assumption) ?_
          rotate_left 1
          · intro w hSw
            (try dsimp only at hSw)
            go_simp
            (try with_reducible rfl)
          (try simp only [Act.put, List.setIfInBounds_toArray, List.set_cons_zero, List.set_cons_succ])
          refine H_take (k := 12) (v := ?_) (by rfl) (by kernel_rfl) (by kernel_rfl) (by kernel_rfl) (by exact fun _ _ _ h => h) (by rfl) ?_ (by assumption) ?_
          rotate_left 1
          · intro w hSw
            (try dsimp only at hSw)
            go_simp
            (try with_reducible rfl)
          (try simp only [Act.put, List.setIfInBounds_toArray, List.set_cons_zero, List.set_cons_succ])
          refine H_take (k := 13) (v := .agg #[.int .i64 at2, .string bx2, .string id2, .int .i64 kd2, .int .i64 lg2, .string frm2]) (by rfl) (by kernel_rfl) (by kernel_rfl) (by kernel_rfl) (by exact fun _ _ _ h => h) (by rfl) (fun w' hSw => exec_lda Tryz.acT _ rfl _ rfl [.int .i64 at2, .string bx2, .string id2, .int .i64 kd2, .int .i64 lg2, .string frm2] rfl (fun j u hu => by rw [add_mk]; exact (by simpa using ((HO.out.recs.grown hSw (fun g e => by cases e)).at_ ActV.row_len HY.out) j u hu))) (by assumption) ?_
          (try simp only [Act.put, List.setIfInBounds_toArray, List.set_cons_zero, List.set_cons_succ])
          refine H_run (k := 14) (by rfl) (by kernel_rfl) (by rfl) (fun K hK => ?_)
          go_simp
          refine (actOrder_any ⟨at1, bx1, id1, kd1, lg1, frm1⟩ ⟨at2, bx2, id2, kd2, lg2, frm2⟩ _ (HK.out _ (mem_of_get HX.out)) (HK.out _ (mem_of_get HY.out))).mono ?_
          rintro e w6 ⟨rfl, hg6⟩
          obtain ⟨Z, hZ⟩ : ∃ Z, acCmp ⟨at1, bx1, id1, kd1, lg1, frm1⟩ ⟨at2, bx2, id2, kd2, lg2, frm2⟩ = Z := ⟨_, rfl⟩
          rw [hZ]
          clear hZ
          go_simp
          have hgz : wr.grownBy w6 none := gr_none (gr_drew (gr_refl wr none)) hg6
          refine hK _ _ hgz ?_
          clear hK K hHeld hg6
          have hHeld := hgz
          obtain ⟨ZB, hZB⟩ : ∃ ZB, decide (Z < 0) = ZB := ⟨_, rfl⟩
          refine H_take (k := 15) (v := ?_) (by rfl) (by kernel_rfl) (by kernel_rfl) (by kernel_rfl) (by exact fun _ _ _ h => h) (by rfl) ?_ (by assumption) ?_
          rotate_left 1
          · intro w hSw
            (try dsimp only at hSw)
            go_simp
            (try with_reducible rfl)
          (try simp only [Act.put, List.setIfInBounds_toArray, List.set_cons_zero, List.set_cons_succ])
          refine H_take (k := 16) (v := ?_) (by rfl) (by kernel_rfl) (by kernel_rfl) (by kernel_rfl) (by exact fun _ _ _ h => h) (by rfl) ?_ (by assumption) ?_
          rotate_left 1
          · intro w hSw
            (try dsimp only at hSw)
            go_simp
            (try with_reducible rfl)
          (try simp only [Act.put, List.setIfInBounds_toArray, List.set_cons_zero, List.set_cons_succ])
          refine H_done (by kernel_rfl) ?_
          clear hi0 hi1 hHeld
          have HO6 := Lib.hid (HO.out.kept hgz (fun g e => by cases e))
          have HG6 := Lib.hid (gr_none HG.out hgz)
          clear hgz hZB
          cases ZB
          · clear q1 q2 q3 q4 q5 q6
            go_wp2_with fail
            go_roundw
            case rel => exact ⟨i + 1, l2, by go_num, by omega, by omega, ⟨HO6.out, HK.out⟩, HG6.out⟩
            case measure => simp [intOf]; omega
          · have HCX2 := Lib.hid (HO6.out.recs.at_ ActV.row_len HX.out)
            go_wp2_with fail
            refine wp_region_B (fun w' => w6.grownBy w' none) 15 (by kernel_rfl) ?_
            have hHeld : w6.grownBy w6.drew none := gr_drew (gr_refl _ _)
            refine B_take (k := 0) false (v := ?_) (by rfl) (by kernel_rfl) (by exact fun _ _ _ h => h) (by rfl) ?_ (by first | exact .inr hHeld | exact .inl (by rfl)) ?_
            rotate_left 1
            · intro w hSw
              clear hSw
              go_simp
              (try with_reducible rfl)
            (try simp only [Act.put, List.setIfInBounds_toArray, List.set_cons_zero, List.set_cons_succ])
            refine B_take (k := 1) false (v := ?_) (by rfl) (by kernel_rfl) (by exact fun _ _ _ h => h) (by rfl) ?_ (by first | exact .inr hHeld | exact .inl (by rfl)) ?_
            rotate_left 1
            · intro w hSw
              clear hSw
              go_simp
              (try with_reducible rfl)
            (try simp only [Act.put, List.setIfInBounds_toArray, List.set_cons_zero, List.set_cons_succ])
            refine B_take (k := 2) false (v := ?_) (by rfl) (by kernel_rfl) (by exact fun _ _ _ h => h) (by rfl) ?_ (by first | exact .inr hHeld | exact .inl (by rfl)) ?_
            rotate_left 1
            · intro w hSw
              clear hSw
              go_simp
              (try with_reducible rfl)
            (try simp only [Act.put, List.setIfInBounds_toArray, List.set_cons_zero, List.set_cons_succ])
            refine B_take (k := 3) false (v := ?_) (by rfl) (by kernel_rfl) (by exact fun _ _ _ h => h) (by rfl) ?_ (by first | exact .inr hHeld | exact .inl (by rfl)) ?_
            rotate_left 1
            · intro w hSw
              clear hSw
              go_simp
              (try with_reducible rfl)
            (try simp only [Act.put, List.setIfInBounds_toArray, List.set_cons_zero, List.set_cons_succ])
            refine B_take (k := 4) false (v := ?_) (by rfl) (by kernel_rfl) (by exact fun _ _ _ h => h) (by rfl) ?_ (by first | exact .inr hHeld | exact .inl (by rfl)) ?_
            rotate_left 1
            · intro w hSw
              clear hSw
              go_simp
              (try with_reducible rfl)
            (try simp only [Act.put, List.setIfInBounds_toArray, List.set_cons_zero, List.set_cons_succ])
            refine B_take (k := 5) false (v := ?_) (by rfl) (by kernel_rfl) (by exact fun _ _ _ h => h) (by rfl) ?_ (by first | exact .inr hHeld | exact .inl (by rfl)) ?_
            rotate_left 1
            · intro w hSw
              clear hSw
              go_simp
              (try with_reducible rfl)
            (try simp only [Act.put, List.setIfInBounds_toArray, List.set_cons_zero, List.set_cons_succ])
            refine B_take (k := 6) false (v := ?_) (by rfl) (by kernel_rfl) (by exact fun _ _ _ h => h) (by rfl) ?_ (by first | exact .inr hHeld | exact .inl (by rfl)) ?_
            rotate_left 1
            · intro w hSw
              clear hSw
              go_simp
              (try with_reducible rfl)
            (try simp only [Act.put, List.setIfInBounds_toArray, List.set_cons_zero, List.set_cons_succ])
            refine B_take (k := 7) false (v := ?_) (by rfl) (by kernel_rfl) (by exact fun _ _ _ h => h) (by rfl) ?_ (by first | exact .inr hHeld | exact .inl (by rfl)) ?_
            rotate_left 1
            · intro w hSw
              clear hSw
              go_simp
              (try with_reducible rfl)
            (try simp only [Act.put, List.setIfInBounds_toArray, List.set_cons_zero, List.set_cons_succ])
            refine B_take (k := 8) false (v := ?_) (by rfl) (by kernel_rfl) (by exact fun _ _ _ h => h) (by rfl) ?_ (by first | exact .inr hHeld | exact .inl (by rfl)) ?_
            rotate_left 1
            · intro w hSw
              clear hSw
              go_simp
              (try with_reducible rfl)
            (try simp only [Act.put, List.setIfInBounds_toArray, List.set_cons_zero, List.set_cons_succ])
            refine B_take (k := 9) true (v := .agg #[.int .i64 at2, .string bx2, .string id2, .int .i64 kd2, .int .i64 lg2, .string frm2]) (by rfl) (by kernel_rfl) (by exact fun _ _ _ h => h) (by rfl) (fun w' hSw => exec_lda Tryz.acT _ rfl _ rfl [.int .i64 at2, .string bx2, .string id2, .int .i64 kd2, .int .i64 lg2, .string frm2] rfl (fun j u hu => by rw [add_mk]; exact (by simpa using ((HO6.out.recs.grown hSw (fun g e => by cases e)).at_ ActV.row_len HY.out) j u hu))) (.inr hHeld) ?_
            (try simp only [Act.put, List.setIfInBounds_toArray, List.set_cons_zero, List.set_cons_succ])
            refine B_take (k := 10) false (v := ?_) (by rfl) (by kernel_rfl) (by exact fun _ _ _ h => h) (by rfl) ?_ (by first | exact .inr hHeld | exact .inl (by rfl)) ?_
            rotate_left 1
            · intro w hSw
              clear hSw
              go_simp
              (try with_reducible rfl)
            (try simp only [Act.put, List.setIfInBounds_toArray, List.set_cons_zero, List.set_cons_succ])
            refine B_take (k := 11) false (v := ?_) (by rfl) (by kernel_rfl) (by exact fun _ _ _ h => h) (by rfl) ?_ (by first | exact .inr hHeld | exact .inl (by rfl)) ?_
            rotate_left 1
            · intro w hSw
              clear hSw
              go_simp
              (try with_reducible rfl)
            (try simp only [Act.put, List.setIfInBounds_toArray, List.set_cons_zero, List.set_cons_succ])
            refine B_take (k := 12) false (v := ?_) (by rfl) (by kernel_rfl) (by exact fun _ _ _ h => h) (by rfl) ?_ (by first | exact .inr hHeld | exact .inl (by rfl)) ?_
            rotate_left 1
            · intro w hSw
              clear hSw
              go_simp
              (try with_reducible rfl)
            (try simp only [Act.put, List.setIfInBounds_toArray, List.set_cons_zero, List.set_cons_succ])
            refine B_take (k := 13) true (v := .agg #[.int .i64 at1, .string bx1, .string id1, .int .i64 kd1, .int .i64 lg1, .string frm1]) (by rfl) (by kernel_rfl) (by exact fun _ _ _ h => h) (by rfl) (fun w' hSw => exec_lda Tryz.acT _ rfl _ rfl [.int .i64 at1, .string bx1, .string id1, .int .i64 kd1, .int .i64 lg1, .string frm1] rfl (fun j u hu => by rw [add_mk]; exact (by simpa using ((HO6.out.recs.grown hSw (fun g e => by cases e)).at_ ActV.row_len HX.out) j u hu))) (.inr hHeld) ?_
            (try simp only [Act.put, List.setIfInBounds_toArray, List.set_cons_zero, List.set_cons_succ])
            refine B_take (k := 14) false (v := ?_) (by rfl) (by kernel_rfl) (by exact fun _ _ _ h => h) (by rfl) ?_ (by first | exact .inr hHeld | exact .inl (by rfl)) ?_
            rotate_left 1
            · intro w hSw
              clear hSw
              go_simp
              (try with_reducible rfl)
            (try simp only [Act.put, List.setIfInBounds_toArray, List.set_cons_zero, List.set_cons_succ])
            refine B_run (k := 15) (by rfl) (by kernel_rfl) (by rfl) (fun K hK => ?_)
            refine wp_store_rec (row := ActV.row) Tryz.acT ActV.row_len (by decide) _ _ rfl (q + 1) _ rfl rfl ⟨at2, bx2, id2, kd2, lg2, frm2⟩ rfl (HO6.out.kept (gr_drew (gr_refl _ none)) (fun g e => by cases e)) (by omega) (ActV.one _) ?_
            intro w7 hown7 hg7
            refine hK _ _ (.inl (by rfl)) ?_
            clear hK K hHeld
            (try simp only [Act.put, List.setIfInBounds_toArray, List.set_cons_zero, List.set_cons_succ])
            refine B_take (k := 16) false (v := ?_) (by rfl) (by kernel_rfl) (by exact fun _ _ _ h => h) (by rfl) ?_ (by first | exact .inr hHeld | exact .inl (by rfl)) ?_
            rotate_left 1
            · intro w hSw
              clear hSw
              go_simp
              (try with_reducible rfl)
            (try simp only [Act.put, List.setIfInBounds_toArray, List.set_cons_zero, List.set_cons_succ])
            refine B_run (k := 17) (by rfl) (by kernel_rfl) (by rfl) (fun K hK => ?_)
            refine wp_store_rec (row := ActV.row) Tryz.acT ActV.row_len (by decide) _ _ rfl q _ rfl rfl ⟨at1, bx1, id1, kd1, lg1, frm1⟩ rfl hown7 (by omega) (ActV.one _) ?_
            intro w8 hown8 hg8
            refine hK _ _ (.inl (by rfl)) ?_
            clear hK K
            (try simp only [Act.put, List.setIfInBounds_toArray, List.set_cons_zero, List.set_cons_succ])
            refine B_done (by kernel_rfl) ?_
            have HO8 := Lib.hid hown8
            have HG8 := Lib.hid (gr_same HG6.out (gr_same (gr_same (gr_drew (gr_refl w6 _)) hg7) hg8))
            clear hown7 hg7 hown8 hg8 q1 q2 q3 q4 q5 q6
            go_simp
            go_wp2_with fail
            go_roundw
            case rel => exact ⟨q, _, by go_num, by omega, ⟨HO8.out, OwnAc.swap HK.out (mem_of_get HY.out) (mem_of_get HX.out)⟩, HG8.out⟩
            case measure => simp [intOf]
        · obtain rfl : j = 0 := by omega
          have hi0 : decide ((0 : Int) < ((0 : Nat) : Int)) = false := by decide
          go_wp2_with fail
          refine H_begin (fun w' => wr.grownBy w' none) (by kernel_rfl) ?_
          refine H_take (k := 0) (v := ?_) (by rfl) (by kernel_rfl) (by kernel_rfl) (by kernel_rfl) (by exact fun _ _ _ h => h) (by rfl) ?_ (by assumption) ?_
          rotate_left 1
          · intro w hSw
            (try dsimp only at hSw)
            go_simp
            (try with_reducible rfl)
          (try simp only [Act.put, List.setIfInBounds_toArray, List.set_cons_zero, List.set_cons_succ])
          refine H_take (k := 1) (v := ?_) (by rfl) (by kernel_rfl) (by kernel_rfl) (by kernel_rfl) (by exact fun _ _ _ h => h) (by rfl) ?_ (by assumption) ?_
          rotate_left 1
          · intro w hSw
            (try dsimp only at hSw)
            go_simp
            (try with_reducible rfl)
          (try simp only [Act.put, List.setIfInBounds_toArray, List.set_cons_zero, List.set_cons_succ])
          refine H_take (k := 2) (v := ?_) (by rfl) (by kernel_rfl) (by kernel_rfl) (by kernel_rfl) (by exact fun _ _ _ h => h) (by rfl) ?_ (by assumption) ?_
          rotate_left 1
          · intro w hSw
            (try dsimp only at hSw)
            go_simp
            (try with_reducible rfl)
          (try simp only [Act.put, List.setIfInBounds_toArray, List.set_cons_zero, List.set_cons_succ])
          refine H_take (k := 3) (v := ?_) (by rfl) (by kernel_rfl) (by kernel_rfl) (by kernel_rfl) (by exact fun _ _ _ h => h) (by rfl) ?_ (by assumption) ?_
          rotate_left 1
          · intro w hSw
            (try dsimp only at hSw)
            go_simp
            (try with_reducible rfl)
          (try simp only [Act.put, List.setIfInBounds_toArray, List.set_cons_zero, List.set_cons_succ])
          refine H_skip (k := 4) (by rfl) (by kernel_rfl) (by kernel_rfl) (by kernel_rfl) (by exact fun _ _ _ h => h) (by rfl) (by assumption) ?_
          (try simp only [Act.put, List.setIfInBounds_toArray, List.set_cons_zero, List.set_cons_succ])
          refine H_skip (k := 5) (by rfl) (by kernel_rfl) (by kernel_rfl) (by kernel_rfl) (by exact fun _ _ _ h => h) (by rfl) (by assumption) ?_
          (try simp only [Act.put, List.setIfInBounds_toArray, List.set_cons_zero, List.set_cons_succ])
          refine H_skip (k := 6) (by rfl) (by kernel_rfl) (by kernel_rfl) (by kernel_rfl) (by exact fun _ _ _ h => h) (by rfl) (by assumption) ?_
          (try simp only [Act.put, List.setIfInBounds_toArray, List.set_cons_zero, List.set_cons_succ])
          refine H_skip (k := 7) (by rfl) (by kernel_rfl) (by kernel_rfl) (by kernel_rfl) (by exact fun _ _ _ h => h) (by rfl) (by assumption) ?_
          (try simp only [Act.put, List.setIfInBounds_toArray, List.set_cons_zero, List.set_cons_succ])
          refine H_skip (k := 8) (by rfl) (by kernel_rfl) (by kernel_rfl) (by kernel_rfl) (by exact fun _ _ _ h => h) (by rfl) (by assumption) ?_
          (try simp only [Act.put, List.setIfInBounds_toArray, List.set_cons_zero, List.set_cons_succ])
          refine H_skip (k := 9) (by rfl) (by kernel_rfl) (by kernel_rfl) (by kernel_rfl) (by exact fun _ _ _ h => h) (by rfl) (by assumption) ?_
          (try simp only [Act.put, List.setIfInBounds_toArray, List.set_cons_zero, List.set_cons_succ])
          refine H_skip (k := 10) (by rfl) (by kernel_rfl) (by kernel_rfl) (by kernel_rfl) (by exact fun _ _ _ h => h) (by rfl) (by assumption) ?_
          (try simp only [Act.put, List.setIfInBounds_toArray, List.set_cons_zero, List.set_cons_succ])
          refine H_skip (k := 11) (by rfl) (by kernel_rfl) (by kernel_rfl) (by kernel_rfl) (by exact fun _ _ _ h => h) (by rfl) (by assumption) ?_
          (try simp only [Act.put, List.setIfInBounds_toArray, List.set_cons_zero, List.set_cons_succ])
          refine H_skip (k := 12) (by rfl) (by kernel_rfl) (by kernel_rfl) (by kernel_rfl) (by exact fun _ _ _ h => h) (by rfl) (by assumption) ?_
          (try simp only [Act.put, List.setIfInBounds_toArray, List.set_cons_zero, List.set_cons_succ])
          refine H_skip (k := 13) (by rfl) (by kernel_rfl) (by kernel_rfl) (by kernel_rfl) (by exact fun _ _ _ h => h) (by rfl) (by assumption) ?_
          (try simp only [Act.put, List.setIfInBounds_toArray, List.set_cons_zero, List.set_cons_succ])
          refine H_skip (k := 14) (by rfl) (by kernel_rfl) (by kernel_rfl) (by kernel_rfl) (by exact fun _ _ _ h => h) (by rfl) (by assumption) ?_
          (try simp only [Act.put, List.setIfInBounds_toArray, List.set_cons_zero, List.set_cons_succ])
          refine H_skip (k := 15) (by rfl) (by kernel_rfl) (by kernel_rfl) (by kernel_rfl) (by exact fun _ _ _ h => h) (by rfl) (by assumption) ?_
          (try simp only [Act.put, List.setIfInBounds_toArray, List.set_cons_zero, List.set_cons_succ])
          refine H_take (k := 16) (v := ?_) (by rfl) (by kernel_rfl) (by kernel_rfl) (by kernel_rfl) (by exact fun _ _ _ h => h) (by rfl) ?_ (by assumption) ?_
          rotate_left 1
          · intro w hSw
            (try dsimp only at hSw)
            go_simp
            (try with_reducible rfl)
          (try simp only [Act.put, List.setIfInBounds_toArray, List.set_cons_zero, List.set_cons_succ])
          refine H_done (by kernel_rfl) ?_
          clear hi0 hHeld
          have HO6 := Lib.hid (HO.out.kept (gr_drew (gr_refl _ none)) (fun g e => by cases e))
          have HG6 := Lib.hid (gr_drew HG.out)
          go_wp2_with fail
          go_roundw
          case rel => exact ⟨i + 1, l2, by go_num, by omega, by omega, ⟨HO6.out, HK.out⟩, HG6.out⟩
          case measure => simp [intOf]; omega
    · have hl0 : ¬ (i : Int) < (n : Int) := by omega
      go_wp2_with fail
      go_end0
      exact ⟨rfl, l1, HO.out, HG.out⟩
set_option maxHeartbeats 2000000 in
theorem stableA_any (lo : Nat) (A : Option Addr) (n c : Nat) (l : List ActV) (w : World) (h : OwnAc w lo A n c l) (hn : n ≤ 19) :
    Calls Tryz.prog 133 #[.slice A n c, .int .i64 n, .func (.func 72) #[] #[]] w (SortedVA A n c lo w) := by
  have H := Lib.hid h; clear h
  have d1 : decide ((20 : Int) ≤ (n : Int)) = false := decide_eq_false (by omega)
  have d2 : decide ((20 : Int) < (n : Int)) = false := decide_eq_false (by omega)
  go_enter Tryz.func133, Tryz.ntmps133
  go_wp2_with fail
  go_loopw [7, 8] (fun x y wr => x = .int .i64 0 ∧ y = .int .i64 20 ∧ w = wr) (fun _ _ _ => 0)
  case atStart => exact ⟨rfl, rfl, rfl⟩
  case round =>
    obtain ⟨rfl, rfl, rfl⟩ := hrel
    go_wp2_with fail
    refine (insSortA_any lo A n c l _ H.out (by omega)).mono ?_
    rintro e w2 ⟨rfl, l2, hown, hg⟩
    have HO := Lib.hid hown; have HG := Lib.hid hg; clear hown hg
    go_wp2_with fail
    go_loopw [6, 7, 8] (fun x _ _ wr => x = .int .i64 20 ∧ w2 = wr) (fun _ _ _ _ => 0)
    case atStart => exact ⟨rfl, rfl⟩
    case round =>
      obtain ⟨rfl, rfl⟩ := hrel
      go_wp2_with fail
      go_end0
      exact ⟨rfl, l2, HO.out, HG.out⟩
set_option maxHeartbeats 1000000 in
theorem sortStableA_any (lo : Nat) (A : Option Addr) (n c : Nat) (l : List ActV) (w : World) (h : OwnAc w lo A n c l) (hn : n ≤ 19) :
    Calls Tryz.prog 71 #[.slice A n c, .func (.func 72) #[] #[]] w (SortedVA A n c lo w) := by
  have H := Lib.hid h; clear h
  go_enter Tryz.func71, Tryz.ntmps71
  go_wp2_with fail
  refine (stableA_any lo A n c l _ H.out hn).mono ?_
  rintro e w2 ⟨rfl, l2, hown, hg⟩
  have HO := Lib.hid hown; have HG := Lib.hid hg; clear hown hg
  go_wp2_with fail
  go_end0
  exact ⟨rfl, l2, HO.out, HG.out⟩
end
end Go.Proofs.YtgogiljplnninaaGreatDoor
/- voiced() answers true. Conditions: none. -/
namespace Go.Proofs.YtgogiljplnninaaGreatDoor
section
open Go.RowKit

theorem Tryz.boxT : StructT Tryz.prog 135 9 := ⟨_, Tryz.underlying135, rfl, by kernel_rfl⟩
theorem Tryz.msgT : StructT Tryz.prog 137 6 := ⟨_, Tryz.underlying137, rfl, by kernel_rfl⟩
set_option maxRecDepth 100000 in
set_option maxHeartbeats 4000000 in
theorem checkBox0_any (w : World) : Calls Tryz.prog 205 #[.agg #[.string ⟨#[98]⟩, .int .i64 1, .int .i64 1, .int .i64 0, .int .i64 0, .slice none 0 0, .bool false, .int .i64 0, .int .i64 0]] w (RetV (.int .i64 0) w) := by
  have i1 : inB 1 1 1000 = true := by decide
  have i2 : inB 1 0 4000 = true := by decide
  have i3 : inB 0 0 4000 = true := by decide
  have i4 : inB 0 0 1439 = true := by decide
  have i5 : inB 0 (-1440) 1440 = true := by decide
  obtain ⟨w1, hw1⟩ : ∃ v, w.alloc (.cells #[.string ⟨#[98]⟩, .int .i64 1, .int .i64 1, .int .i64 0, .int .i64 0, .slice none 0 0, .bool false, .int .i64 0, .int .i64 0] 135) = v := ⟨_, rfl⟩
  obtain ⟨b, hb⟩ : ∃ b, w.heap.size = b := ⟨_, rfl⟩
  have HB := Lib.hid (show Blk w1 b 135 #[.string ⟨#[98]⟩, .int .i64 1, .int .i64 1, .int .i64 0, .int .i64 0, .slice none 0 0, .bool false, .int .i64 0, .int .i64 0] by rw [← hw1, ← hb]; exact Blk.new _ _ _)
  have HG := Lib.hid (show w.grownBy w1 none by rw [← hw1]; exact gr_alloc (gr_refl _ _) _)
  have HW := Lib.hid hw1; have HZ := Lib.hid hb
  clear hw1 hb
  go_enter Tryz.func205, Tryz.ntmps205
  go_upto_region 1 with (fail)
  rw [HW.out]
  (try rw [HZ.out])
  have c1 := HB.out.cell 1
  have c2 := HB.out.cell 2
  have c3 := HB.out.cell 3
  have c4 := HB.out.cell 4
  have c5 := HB.out.cell 5
  have c6 := HB.out.cell 6
  have c7 := HB.out.cell 7
  have c8 := HB.out.cell 8
  go_wp2_with (first
    | (go_at_call 108; refine same_calls (withinV_any _ _ _ _) ?_; first | rw [i1] | rw [i2] | rw [i3] | rw [i4] | rw [i5])
    | fail)
  go_loopw [4, 34] (fun _ t wr => t = .int .i64 0 ∧ w1 = wr) (fun _ _ _ => 0)
  case atStart => exact ⟨rfl, rfl⟩
  case round =>
    obtain ⟨rfl, rfl⟩ := hrel
    go_wp2_with (first
      | (go_at_call 108; refine same_calls (withinV_any _ _ _ _) ?_; first | rw [i1] | rw [i2] | rw [i3] | rw [i4] | rw [i5])
      | fail)
    go_ret
    exact ⟨rfl, HG.out⟩
set_option maxRecDepth 100000 in
set_option maxHeartbeats 4000000 in
theorem checkBoxes0_any (g : Nat) (w : World) (h : Blk w g 135 #[.string ⟨#[98]⟩, .int .i64 1, .int .i64 1, .int .i64 0, .int .i64 0, .slice none 0 0, .bool false, .int .i64 0, .int .i64 0]) : Calls Tryz.prog 146 #[.slice (some ⟨g, 0, none⟩) 1 1] w (RetV (.int .i64 0) w) := by
  have k1 : keyOk (nb ⟨#[98]⟩) = true := by decide
  have H := Lib.hid h
  clear h
  go_enter Tryz.func146, Tryz.ntmps146
  go_wp2_with fail
  go_loopw [3, 4, 5, 11] (fun _ _ _ t wr => ∃ i : Nat, i ≤ 1 ∧ t = .int .i64 i ∧ w.grownBy wr none) (fun _ _ _ t _ => 1 - (intOf t).toNat)
  case atStart => exact ⟨0, by omega, rfl, gr_refl _ _⟩
  case round =>
    obtain ⟨i, hi, rfl, hg⟩ := hrel
    have HG := Lib.hid hg
    have HB := Lib.hid (H.out.grown hg (by simp))
    clear hg
    have hi2 : i = 0 ∨ i = 1 := by omega
    rcases hi2 with rfl | rfl
    · clear hi
      go_upto_region 6 with (first
        | (refine wpl_load_all Tryz.boxT rfl _ rfl g rfl 135 _ HB.out rfl ?_)
        | (refine wpl_store_all Tryz.boxT rfl _ _ rfl _ rfl _ _ _ rfl (Blk.new _ _ _) rfl rfl (by simp [Value.oneCell']) ?_; intro wz hst; have HST := Lib.hid hst; clear hst)
        | fail)
      obtain ⟨sb, hsb⟩ : ∃ b, wr.heap.size = b := ⟨_, rfl⟩
      have HS := Lib.hid (show Blk wz sb 135 #[.string ⟨#[98]⟩, .int .i64 1, .int .i64 1, .int .i64 0, .int .i64 0, .slice none 0 0, .bool false, .int .i64 0, .int .i64 0] by rw [← hsb]; exact HST.out.1)
      have hg2 : w.grownBy wz none := gr_trans (gr_alloc HG.out _) HST.out.2.1 (fun g e => .inr (by injection e with e; have := HG.out.size; omega))
      have HG2 := Lib.hid hg2
      (try rw [hsb])
      have c0 := HS.out.cell 0
      clear hsb HST HG hg2
      go_wp2_with (first
        | (go_at_call 61; refine (isKey_any _ _ (by decide)).mono ?_; rintro e wk ⟨rfl, hgk⟩; first | rw [k1] | rw [k2])
        | fail)
      have HS2 := Lib.hid (HS.out.grown hgk (by simp))
      replace HG2 := Lib.hid (gr_none HG2.out hgk)
      clear HS hgk c0
      have c0 := HS2.out.cell 0
      go_wp2_with fail
      go_quiet (fail)
      go_wp2_with (first
        | (refine wpl_load_all Tryz.boxT rfl _ rfl sb rfl 135 _ HS2.out rfl ?_)
        | (go_at_call 205; refine (checkBox0_any _).mono ?_; rintro e wc ⟨rfl, hgc⟩; have HGC := Lib.hid hgc; clear hgc)
        | fail)
      go_roundw
      case rel => exact ⟨1, by omega, by go_num, gr_none (gr_drewN HG2.out _) HGC.out⟩
      case measure => simp [intOf]
    · go_wp2_with fail
      go_ret
      exact ⟨rfl, HG.out⟩
set_option maxRecDepth 100000 in
set_option maxHeartbeats 4000000 in
theorem ends0_any (w : World) : Calls Tryz.prog 147 #[.agg #[.string ⟨#[98]⟩, .int .i64 1, .int .i64 1, .int .i64 0, .int .i64 0, .slice none 0 0, .bool false, .int .i64 0, .int .i64 0], .agg #[.string ⟨#[109]⟩, .string ⟨#[]⟩, .int .i64 0, .int .i64 1, .int .i64 1, .int .i64 0]] w (RetV (.int .i64 86400000) w) := by
  obtain ⟨w1, hw1⟩ : ∃ v, w.alloc (.cells #[.string ⟨#[98]⟩, .int .i64 1, .int .i64 1, .int .i64 0, .int .i64 0, .slice none 0 0, .bool false, .int .i64 0, .int .i64 0] 135) = v := ⟨_, rfl⟩
  obtain ⟨w2, hw2⟩ : ∃ v, w1.alloc (.cells #[.string ⟨#[109]⟩, .string ⟨#[]⟩, .int .i64 0, .int .i64 1, .int .i64 1, .int .i64 0] 137) = v := ⟨_, rfl⟩
  have HB := Lib.hid (show Blk w2 w.heap.size 135 #[.string ⟨#[98]⟩, .int .i64 1, .int .i64 1, .int .i64 0, .int .i64 0, .slice none 0 0, .bool false, .int .i64 0, .int .i64 0] by rw [← hw2, ← hw1]; exact (Blk.new _ _ _).alloc _)
  have HM := Lib.hid (show Blk w2 (w.heap.size + 1) 137 #[.string ⟨#[109]⟩, .string ⟨#[]⟩, .int .i64 0, .int .i64 1, .int .i64 1, .int .i64 0] by
    rw [← hw2, ← hw1]
    have h := Blk.new (w.alloc (.cells #[.string ⟨#[98]⟩, .int .i64 1, .int .i64 1, .int .i64 0, .int .i64 0, .slice none 0 0, .bool false, .int .i64 0, .int .i64 0] 135)) 137 #[.string ⟨#[109]⟩, .string ⟨#[]⟩, .int .i64 0, .int .i64 1, .int .i64 1, .int .i64 0]
    simpa using h)
  have HG := Lib.hid (show w.grownBy w2 none by rw [← hw2, ← hw1]; exact gr_alloc (gr_alloc (gr_refl _ _) _) _)
  have HW := Lib.hid hw2; have HW1 := Lib.hid hw1
  clear hw1 hw2
  go_enter Tryz.func147, Tryz.ntmps147
  go_upto_region 1 with (fail)
  (try rw [HW1.out])
  (try rw [HW.out])
  have c2 := HB.out.cell 2
  have c3 := HB.out.cell 3
  have c4 := HB.out.cell 4
  have m4 := HM.out.cell 4
  have m5 := HM.out.cell 5
  go_wp2_with fail
  go_ret
  exact ⟨rfl, HG.out⟩
set_option maxRecDepth 100000 in
set_option maxHeartbeats 4000000 in
theorem voicedEnds_any (w : World) : Calls Tryz.prog 97 #[.agg #[.string ⟨#[98]⟩, .int .i64 1, .int .i64 1, .int .i64 0, .int .i64 0, .slice none 0 0, .bool false, .int .i64 0, .int .i64 0], .agg #[.string ⟨#[109]⟩, .string ⟨#[]⟩, .int .i64 0, .int .i64 1, .int .i64 1, .int .i64 0]] w (RetV (.tuple #[.int .i64 86400000, .int .i64 0]) w) := by
  have k2 : keyOk (nb ⟨#[109]⟩) = true := by decide
  have i1 : inB 1 1 86400000 = true := by decide
  have i2 : inB 1 1 4 = true := by decide
  obtain ⟨w1, hw1⟩ : ∃ v, w.alloc (.cells #[.string ⟨#[98]⟩, .int .i64 1, .int .i64 1, .int .i64 0, .int .i64 0, .slice none 0 0, .bool false, .int .i64 0, .int .i64 0] 135) = v := ⟨_, rfl⟩
  obtain ⟨w2, hw2⟩ : ∃ v, w1.alloc (.cells #[.string ⟨#[109]⟩, .string ⟨#[]⟩, .int .i64 0, .int .i64 1, .int .i64 1, .int .i64 0] 137) = v := ⟨_, rfl⟩
  have HB := Lib.hid (show Blk w2 w.heap.size 135 #[.string ⟨#[98]⟩, .int .i64 1, .int .i64 1, .int .i64 0, .int .i64 0, .slice none 0 0, .bool false, .int .i64 0, .int .i64 0] by rw [← hw2, ← hw1]; exact (Blk.new _ _ _).alloc _)
  have HM := Lib.hid (show Blk w2 (w.heap.size + 1) 137 #[.string ⟨#[109]⟩, .string ⟨#[]⟩, .int .i64 0, .int .i64 1, .int .i64 1, .int .i64 0] by
    rw [← hw2, ← hw1]
    have h := Blk.new (w.alloc (.cells #[.string ⟨#[98]⟩, .int .i64 1, .int .i64 1, .int .i64 0, .int .i64 0, .slice none 0 0, .bool false, .int .i64 0, .int .i64 0] 135)) 137 #[.string ⟨#[109]⟩, .string ⟨#[]⟩, .int .i64 0, .int .i64 1, .int .i64 1, .int .i64 0]
    simpa using h)
  have HG := Lib.hid (show w.grownBy w2 none by rw [← hw2, ← hw1]; exact gr_alloc (gr_alloc (gr_refl _ _) _) _)
  have HW := Lib.hid hw2; have HW1 := Lib.hid hw1
  clear hw1 hw2
  go_enter Tryz.func97, Tryz.ntmps97
  go_upto_region 1 with (fail)
  (try rw [HW1.out])
  (try rw [HW.out])
  go_wp2_with (first
    | (refine wpl_load_all Tryz.boxT rfl _ rfl _ rfl 135 _ HB.out rfl ?_)
    | fail)
  refine (checkBoxes0_any _ _ (Blk.new _ _ _)).mono ?_
  rintro e w3 ⟨rfl, hg3⟩
  have hg4 := gr_trans (gr_alloc (gr_refl w2 none) (.cells #[.string ⟨#[98]⟩, .int .i64 1, .int .i64 1, .int .i64 0, .int .i64 0, .slice none 0 0, .bool false, .int .i64 0, .int .i64 0] 135)) hg3 (fun g e => by cases e)
  replace HB := Lib.hid (HB.out.grown hg4 (by simp))
  replace HM := Lib.hid (HM.out.grown hg4 (by simp))
  replace HG := Lib.hid (gr_none HG.out hg4)
  clear hg3 hg4
  have m0 := HM.out.cell 0
  go_upto_region 6 with (first
    | (go_at_call 61; refine (isKey_any _ _ (by decide)).mono ?_; rintro e wk ⟨rfl, hgk⟩; first | rw [k1] | rw [k2])
    | fail)
  replace HB := Lib.hid (HB.out.grown hgk (by simp))
  replace HM := Lib.hid (HM.out.grown hgk (by simp))
  replace HG := Lib.hid (gr_none HG.out hgk)
  clear hgk m0
  have m2 := HM.out.cell 2
  have m3 := HM.out.cell 3
  have m4 := HM.out.cell 4
  have m5 := HM.out.cell 5
  have q1 : momB 0 = true := by decide
  go_wp2_with (first
    | (go_at_call 63; refine same_calls (isMomB_any _ _) ?_)
    | (go_at_call 108; refine same_calls (withinV_any _ _ _ _) ?_; first | rw [i1] | rw [i2] | rw [i3] | rw [i4] | rw [i5])
    | (refine wpl_load_all Tryz.boxT rfl _ rfl _ rfl 135 _ HB.out rfl ?_)
    | (refine wpl_load_all Tryz.msgT rfl _ rfl _ rfl 137 _ HM.out rfl ?_)
    | (go_at_call 147; refine (ends0_any _).mono ?_; rintro e wc ⟨rfl, hgc⟩; have HGC := Lib.hid hgc; clear hgc)
    | fail)
  go_ret2
  exact ⟨rfl, gr_none HG.out HGC.out⟩
set_option maxRecDepth 100000 in
set_option maxHeartbeats 4000000 in
theorem voiced_true (w : World) : Calls Tryz.prog 29 #[] w (RetV (.bool true) w) := by
  go_enter Tryz.func29, Tryz.ntmps29
  go_wp2_with fail
  refine (voicedEnds_any _).mono ?_
  rintro e w1 ⟨rfl, hg⟩
  have HG := Lib.hid hg
  clear hg
  go_wp2_with fail
  go_ret
  exact ⟨rfl, HG.out⟩
end
end Go.Proofs.YtgogiljplnninaaGreatDoor

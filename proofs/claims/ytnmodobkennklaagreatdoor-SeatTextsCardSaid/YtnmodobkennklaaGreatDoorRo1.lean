/- Contracts of the room's free and rank, and of the order of those in line. Conditions: none. -/
import Derived.Test.YtnmodobkennklaaGreatDoorBun3
import Derived.Test.YtnmodobkennklaaGreatDoorQue5
import Derived.Test.YtnmodobkennklaaGreatDoorBun2
import Derived.Test.YtnmodobkennklaaGreatDoorBun1
import Derived.Deep.QuietTactic
import Derived.BigQuiet
namespace Go.Proofs.YtnmodobkennklaaGreatDoor
open Go.RowKit

theorem exec_ldr {P : Program} {w : World} {o : Oper} {ev : Operand → Value} {ty : TypeId} {n : Nat} (T : StructT P ty n) (x : Operand) (ho : o.op = .load ty x) (a : Addr) (hx : ev x = .pointer (some a)) (cs : List Value) (hb : ∀ (j : Nat) (u : Value), cs[j]? = some u → w.cell? (a.add j) = some u) (hn : cs.length = n) :
    (execOp ev o).run P w = .ok (.value (.agg cs.toArray)) w := by
  unfold execOp
  simp only [ho, hx, Instr.loadAt, Instr.sureAddr, Sem.run_bind, Sem.run_pure, Result.andThen_ok, run_load_at T hn hb]
theorem exec_ldb {P : Program} {w : World} {o : Oper} {ev : Operand → Value} {ty : TypeId} {n : Nat} (T : StructT P ty n) (x : Operand) (ho : o.op = .load ty x) (g : Nat) (hx : ev x = .pointer (some ⟨g, 0, none⟩)) (t : TypeId) (cs : List Value) (hb : Blk w g t cs.toArray) (hn : cs.length = n) :
    (execOp ev o).run P w = .ok (.value (.agg cs.toArray)) w := by
  unfold execOp
  simp only [ho, hx, Instr.loadAt, Instr.sureAddr, Sem.run_bind, Sem.run_pure, Result.andThen_ok, run_load_at T hn (fun j u hu => by rw [add_mk, Nat.zero_add, hb.cell]; simpa using hu)]
theorem H_runTwo {P : Program} {ls : List Oper} {md : Region.Mode} {Q : Exit → Act → World → Prop} {S : World → Prop} {fuel k1 k2 : Nat} {listed : Array Bool} {o1 o2 : Oper} {a : Act} {w : World} (ho1 : opAt ls k1 = some o1) (ho2 : opAt ls k2 = some o2) (hr : Region.ready md ls.toArray listed = [k1, k2]) (hw1 : Region.wanted o1 (yielded ls.toArray a.tmps) = true) (hw2 : Region.wanted o2 (yielded ls.toArray a.tmps) = true)
    (h1 : ∀ K : Act → World → Prop, (∀ a' w', S w' → wpAnyH P md ls.toArray Q S fuel (listed.setIfInBounds k1 true) a' w' → K a' w') → o1.wp P a w K Q)
    (h2 : ∀ K : Act → World → Prop, (∀ a' w', S w' → wpAnyH P md ls.toArray Q S fuel (listed.setIfInBounds k2 true) a' w' → K a' w') → o2.wp P a w K Q) : wpAnyH P md ls.toArray Q S (fuel + 1) listed a w := by
  refine ⟨fun h => (by rw [hr] at h; cases h), fun i hi => ?_⟩
  rw [hr] at hi
  have hik : i = k1 ∨ i = k2 := by simpa using hi
  rcases hik with rfl | rfl
  · rw [opAt_eq] at ho1
    unfold wpOp
    simp only [ho1, hw1, if_true]
    exact .inl (h1 _ fun a' w' hs h => ⟨hs, h⟩)
  · rw [opAt_eq] at ho2
    unfold wpOp
    simp only [ho2, hw2, if_true]
    exact .inl (h2 _ fun a' w' hs h => ⟨hs, h⟩)
theorem Tryz.dkT : StructT Tryz.prog 251 2 := ⟨_, Tryz.underlying251, rfl, by kernel_rfl⟩
theorem Tryz.seT : StructT Tryz.prog 58 5 := ⟨_, Tryz.underlying58, rfl, by kernel_rfl⟩
/-- A room that is played, since the world wb: its agents and callers lie in wb. -/
structure Rm (wb w : World) (R : RoC) (s : StyV) (A : List AgV) (C : List CaV) (st : RoS) : Prop where
  g : wb.grownBy w none
  at_ : RoAt w wb.heap.size R s A.length C.length st
  ags : Ags wb 0 R.aA A.length R.ac A
  cas : Cas wb 0 R.cA C.length R.cc C
  m : A.length ≤ 1000
  n : C.length ≤ 19
  ok : RoOk A C st
  an : ∀ a ∈ A, AgN a ∧ a.key.size ≤ 1000
  cn : ∀ c ∈ C, CaN c ∧ CaOk c
  age : 0 ≤ s.age
section
variable {wb w w' : World} {R : RoC} {s : StyV} {A : List AgV} {C : List CaV} {st : RoS}
theorem Rm.kept (h : Rm wb w R s A C st) (hg : w.grownBy w' none) : Rm wb w' R s A C st := ⟨gr_none h.g hg, h.at_.kept hg, h.ags, h.cas, h.m, h.n, h.ok, h.an, h.cn, h.age⟩
theorem Rm.agsW (h : Rm wb w R s A C st) : Ags w 0 R.aA A.length R.ac A := h.ags.grown h.g (fun g e => by cases e)
theorem Rm.casW (h : Rm wb w R s A C st) : Cas w 0 R.cA C.length R.cc C := h.cas.grown h.g (fun g e => by cases e)
theorem Rm.agent (h : Rm wb w R s A C st) {i : Nat} {a : AgV} (ha : A[i]? = some a) : ∃ g o, R.aA = some ⟨g, o, none⟩ ∧ Recs AgV.row 6 w 0 (some ⟨g, o, none⟩) A.length R.ac A ∧ AgOk w 0 a := by
  have hi : i < A.length := (List.getElem?_eq_some_iff.1 ha).1
  have h1 := h.agsW
  obtain ⟨g, o, _, e, _⟩ := h1.1.get AgV.row_len hi
  have h2 := h1.1
  rw [e] at h2
  exact ⟨g, o, e, h2, h1.2 a (mem_of_get ha)⟩
theorem Rm.caller (h : Rm wb w R s A C st) {i : Nat} {c : CaV} (hc : C[i]? = some c) : ∃ g o, R.cA = some ⟨g, o, none⟩ ∧ Recs CaV.row 8 w 0 (some ⟨g, o, none⟩) C.length R.cc C := by
  have hi : i < C.length := (List.getElem?_eq_some_iff.1 hc).1
  have h1 := h.casW.1
  obtain ⟨g, o, _, e, _⟩ := h1.get CaV.row_len hi
  rw [e] at h1
  exact ⟨g, o, e, h1⟩
end
set_option maxHeartbeats 8000000 in
set_option maxRecDepth 100000 in
theorem free_any (wb : World) (R : RoC) (s : StyV) (A : List AgV) (C : List CaV) (st : RoS) (i : Nat) (a : AgV) (t : Int) (w : World) (h : Rm wb w R s A C st) (ha : A[i]? = some a) :
    Calls Tryz.prog 194 #[.pointer (some ⟨R.g, 0, none⟩), .int .i64 i, .int .i64 t] w (RetV (.bool (freeB a (dAt st.ds i) t)) w) := by
  have hi : i < A.length := (List.getElem?_eq_some_iff.1 ha).1
  have hi2 : (i : Int) < (A.length : Int) := by omega
  obtain ⟨dg, d, hdA, hd, hd0, hd1⟩ := h.at_.desk hi
  obtain ⟨ag, ao, haA, hrec, hao⟩ := h.agent ha
  obtain ⟨b1, b2, b3, b4⟩ := h.ok.dv d (mem_of_get hd)
  obtain ⟨n1, n2, n3, n4, n5, _⟩ := (h.an a (mem_of_get ha)).1
  rw [dAt_some hd]
  obtain ⟨P, hP⟩ : ∃ P, presB a t = P := ⟨_, rfl⟩
  have HV := Lib.hid (show freeB a d t = (P && (decide (d.1 = 0) || decide (d.2 + a.wrap ≤ t))) by unfold freeB; rw [hP])
  have HP := Lib.hid hP
  have HA := Lib.hid ha; have HREC := Lib.hid hrec; have HAO := Lib.hid hao
  have HDC := Lib.hid (show ∀ j u, (dkRow d)[j]? = some u → w.cell? ⟨dg, 0 + i * 2 + j, none⟩ = some u from by
    have hr := h.at_.2.1.recs
    rw [hdA] at hr
    exact hr.at_ dkRow_len hd)
  obtain ⟨w1, hw1⟩ : ∃ w1, w.alloc (.cells #[.int .i64 d.1, .int .i64 d.2] 251) = w1 := ⟨_, rfl⟩
  have HDB := Lib.hid (show Blk w1 w.heap.size 251 #[.int .i64 d.1, .int .i64 d.2] by rw [← hw1]; exact Blk.new _ _ _)
  have HG1 := Lib.hid (show w.grownBy w1 none by rw [← hw1]; exact gr_alloc (gr_refl _ _) _)
  have HBL := Lib.hid (h.at_.blk.grown HG1.out (by simp))
  have HW1 := Lib.hid hw1
  have k5 := h.at_.blk.cell 5
  rw [hdA] at k5
  have HAA := Lib.hid haA
  clear h ha hP hrec hao hw1 hd hdA haA hd0 hd1
  go_enter Tryz.func194, Tryz.ntmps194
  go_upto_region 2 with (first
    | (refine wpl_load_at Tryz.dkT rfl _ rfl _ rfl [.int .i64 d.1, .int .i64 d.2] rfl (fun j u hu => by rw [add_mk]; exact (by simpa using HDC.out j u hu)) ?_)
    | fail)
  rw [HW1.out]
  clear k5 HW1 HDC
  refine H_begin (fun w' => w1.grownBy w' none) (by kernel_rfl) ?_
  have hHeld : w1.grownBy w1.drew none := gr_drew (gr_refl _ _)
  refine H_take (k := 0) (v := ?_) (by rfl) (by kernel_rfl) (by kernel_rfl) (by kernel_rfl) (by exact fun _ _ _ h => h) (by rfl) ?_ (by assumption) ?_
  rotate_left 1
  · intro w hSw
    (try dsimp only at hSw)
    go_simp
    (try with_reducible rfl)
  (try simp only [Act.put, List.setIfInBounds_toArray, List.set_cons_zero, List.set_cons_succ])
  refine H_take (k := 1) (v := ?_) (by rfl) (by kernel_rfl) (by kernel_rfl) (by kernel_rfl) (by exact fun _ _ _ h => h) (by rfl) ?_ (by assumption) ?_
  rotate_left 1
  · intro w hSw
    (try dsimp only at hSw)
    go_simp
    (try with_reducible rfl)
  (try simp only [Act.put, List.setIfInBounds_toArray, List.set_cons_zero, List.set_cons_succ])
  refine H_take (k := 2) (v := ?_) (by rfl) (by kernel_rfl) (by kernel_rfl) (by kernel_rfl) (by exact fun _ _ _ h => h) (by rfl) ?_ (by assumption) ?_
  rotate_left 1
  · intro w hSw
    (try dsimp only at hSw)
    go_simp
    (try with_reducible rfl)
  (try simp only [Act.put, List.setIfInBounds_toArray, List.set_cons_zero, List.set_cons_succ])
  refine H_take (k := 3) (v := ?_) (by rfl) (by kernel_rfl) (by kernel_rfl) (by kernel_rfl) (by exact fun _ _ _ h => h) (by rfl) ?_ (by assumption) ?_
  rotate_left 1
  · intro w' hSw
    have kc := (HBL.out.grown hSw (by simp)).cell 3; rw [HAA.out] at kc
    go_simp
    (try with_reducible rfl)
  (try simp only [Act.put, List.setIfInBounds_toArray, List.set_cons_zero, List.set_cons_succ])
  refine H_take (k := 4) (v := ?_) (by rfl) (by kernel_rfl) (by kernel_rfl) (by kernel_rfl) (by exact fun _ _ _ h => h) (by rfl) ?_ (by assumption) ?_
  rotate_left 1
  · intro w hSw
    (try dsimp only at hSw)
    go_simp
    (try with_reducible rfl)
  (try simp only [Act.put, List.setIfInBounds_toArray, List.set_cons_zero, List.set_cons_succ])
  refine H_take (k := 5) (v := ?_) (by rfl) (by kernel_rfl) (by kernel_rfl) (by kernel_rfl) (by exact fun _ _ _ h => h) (by rfl) ?_ (by assumption) ?_
  rotate_left 1
  · intro w hSw
    (try dsimp only at hSw)
    go_simp
    (try with_reducible rfl)
  (try simp only [Act.put, List.setIfInBounds_toArray, List.set_cons_zero, List.set_cons_succ])
  refine H_take (k := 6) (v := .agg #[.string a.key, .slice a.sA a.sn a.sc, .int .i64 a.fr, .int .i64 a.til, .slice a.pA a.pn a.pc, .int .i64 a.wrap]) (by rfl) (by kernel_rfl) (by kernel_rfl) (by kernel_rfl) (by exact fun _ _ _ h => h) (by rfl) (fun w' hSw => exec_ldr Tryz.agT _ rfl _ rfl [.string a.key, .slice a.sA a.sn a.sc, .int .i64 a.fr, .int .i64 a.til, .slice a.pA a.pn a.pc, .int .i64 a.wrap] (fun j u hu => by rw [add_mk]; exact ((HREC.out.grown (gr_none HG1.out hSw) (fun g e => by cases e)).at_ AgV.row_len HA.out) j u hu) rfl) (by assumption) ?_
  (try simp only [Act.put, List.setIfInBounds_toArray, List.set_cons_zero, List.set_cons_succ])
  refine H_take (k := 7) (v := ?_) (by rfl) (by kernel_rfl) (by kernel_rfl) (by kernel_rfl) (by exact fun _ _ _ h => h) (by rfl) ?_ (by assumption) ?_
  rotate_left 1
  · intro w hSw
    (try dsimp only at hSw)
    go_simp
    (try with_reducible rfl)
  (try simp only [Act.put, List.setIfInBounds_toArray, List.set_cons_zero, List.set_cons_succ])
  refine H_run (k := 8) (by rfl) (by kernel_rfl) (by rfl) (fun K hK => ?_)
  go_simp
  refine (presentOf_any 0 a t _ (HAO.out.grown (gr_none HG1.out hHeld) (fun g e => by cases e))).mono ?_
  rintro e w3 ⟨rfl, hg3⟩
  rw [HP.out]
  have hg := gr_none hHeld hg3
  refine hK _ _ hg ?_
  clear hK K hHeld hg3
  have hHeld := hg
  refine H_take (k := 9) (v := ?_) (by rfl) (by kernel_rfl) (by kernel_rfl) (by kernel_rfl) (by exact fun _ _ _ h => h) (by rfl) ?_ (by assumption) ?_
  rotate_left 1
  · intro w hSw
    (try dsimp only at hSw)
    go_simp
    (try with_reducible rfl)
  (try simp only [Act.put, List.setIfInBounds_toArray, List.set_cons_zero, List.set_cons_succ])
  cases P
  · refine H_skip (k := 10) (by rfl) (by kernel_rfl) (by kernel_rfl) (by kernel_rfl) (by exact fun _ _ _ h => h) (by rfl) (by assumption) ?_
    (try simp only [Act.put, List.setIfInBounds_toArray, List.set_cons_zero, List.set_cons_succ])
    refine H_skip (k := 11) (by rfl) (by kernel_rfl) (by kernel_rfl) (by kernel_rfl) (by exact fun _ _ _ h => h) (by rfl) (by assumption) ?_
    (try simp only [Act.put, List.setIfInBounds_toArray, List.set_cons_zero, List.set_cons_succ])
    refine H_skip (k := 12) (by rfl) (by kernel_rfl) (by kernel_rfl) (by kernel_rfl) (by exact fun _ _ _ h => h) (by rfl) (by assumption) ?_
    (try simp only [Act.put, List.setIfInBounds_toArray, List.set_cons_zero, List.set_cons_succ])
    refine H_skip (k := 13) (by rfl) (by kernel_rfl) (by kernel_rfl) (by kernel_rfl) (by exact fun _ _ _ h => h) (by rfl) (by assumption) ?_
    (try simp only [Act.put, List.setIfInBounds_toArray, List.set_cons_zero, List.set_cons_succ])
    refine H_skip (k := 14) (by rfl) (by kernel_rfl) (by kernel_rfl) (by kernel_rfl) (by exact fun _ _ _ h => h) (by rfl) (by assumption) ?_
    (try simp only [Act.put, List.setIfInBounds_toArray, List.set_cons_zero, List.set_cons_succ])
    refine H_skip (k := 15) (by rfl) (by kernel_rfl) (by kernel_rfl) (by kernel_rfl) (by exact fun _ _ _ h => h) (by rfl) (by assumption) ?_
    (try simp only [Act.put, List.setIfInBounds_toArray, List.set_cons_zero, List.set_cons_succ])
    refine H_skip (k := 16) (by rfl) (by kernel_rfl) (by kernel_rfl) (by kernel_rfl) (by exact fun _ _ _ h => h) (by rfl) (by assumption) ?_
    (try simp only [Act.put, List.setIfInBounds_toArray, List.set_cons_zero, List.set_cons_succ])
    refine H_skip (k := 17) (by rfl) (by kernel_rfl) (by kernel_rfl) (by kernel_rfl) (by exact fun _ _ _ h => h) (by rfl) (by assumption) ?_
    (try simp only [Act.put, List.setIfInBounds_toArray, List.set_cons_zero, List.set_cons_succ])
    refine H_skip (k := 18) (by rfl) (by kernel_rfl) (by kernel_rfl) (by kernel_rfl) (by exact fun _ _ _ h => h) (by rfl) (by assumption) ?_
    (try simp only [Act.put, List.setIfInBounds_toArray, List.set_cons_zero, List.set_cons_succ])
    refine H_skip (k := 19) (by rfl) (by kernel_rfl) (by kernel_rfl) (by kernel_rfl) (by exact fun _ _ _ h => h) (by rfl) (by assumption) ?_
    (try simp only [Act.put, List.setIfInBounds_toArray, List.set_cons_zero, List.set_cons_succ])
    refine H_skip (k := 20) (by rfl) (by kernel_rfl) (by kernel_rfl) (by kernel_rfl) (by exact fun _ _ _ h => h) (by rfl) (by assumption) ?_
    (try simp only [Act.put, List.setIfInBounds_toArray, List.set_cons_zero, List.set_cons_succ])
    refine H_skip (k := 21) (by rfl) (by kernel_rfl) (by kernel_rfl) (by kernel_rfl) (by exact fun _ _ _ h => h) (by rfl) (by assumption) ?_
    (try simp only [Act.put, List.setIfInBounds_toArray, List.set_cons_zero, List.set_cons_succ])
    refine H_skip (k := 22) (by rfl) (by kernel_rfl) (by kernel_rfl) (by kernel_rfl) (by exact fun _ _ _ h => h) (by rfl) (by assumption) ?_
    (try simp only [Act.put, List.setIfInBounds_toArray, List.set_cons_zero, List.set_cons_succ])
    refine H_skip (k := 23) (by rfl) (by kernel_rfl) (by kernel_rfl) (by kernel_rfl) (by exact fun _ _ _ h => h) (by rfl) (by assumption) ?_
    (try simp only [Act.put, List.setIfInBounds_toArray, List.set_cons_zero, List.set_cons_succ])
    refine H_skip (k := 24) (by rfl) (by kernel_rfl) (by kernel_rfl) (by kernel_rfl) (by exact fun _ _ _ h => h) (by rfl) (by assumption) ?_
    (try simp only [Act.put, List.setIfInBounds_toArray, List.set_cons_zero, List.set_cons_succ])
    refine H_skip (k := 25) (by rfl) (by kernel_rfl) (by kernel_rfl) (by kernel_rfl) (by exact fun _ _ _ h => h) (by rfl) (by assumption) ?_
    (try simp only [Act.put, List.setIfInBounds_toArray, List.set_cons_zero, List.set_cons_succ])
    refine H_skip (k := 26) (by rfl) (by kernel_rfl) (by kernel_rfl) (by kernel_rfl) (by exact fun _ _ _ h => h) (by rfl) (by assumption) ?_
    (try simp only [Act.put, List.setIfInBounds_toArray, List.set_cons_zero, List.set_cons_succ])
    refine H_skip (k := 27) (by rfl) (by kernel_rfl) (by kernel_rfl) (by kernel_rfl) (by exact fun _ _ _ h => h) (by rfl) (by assumption) ?_
    (try simp only [Act.put, List.setIfInBounds_toArray, List.set_cons_zero, List.set_cons_succ])
    refine H_take (k := 28) (v := ?_) (by rfl) (by kernel_rfl) (by kernel_rfl) (by kernel_rfl) (by exact fun _ _ _ h => h) (by rfl) ?_ (by assumption) ?_
    rotate_left 1
    · intro w hSw
      (try dsimp only at hSw)
      go_simp
      (try with_reducible rfl)
    (try simp only [Act.put, List.setIfInBounds_toArray, List.set_cons_zero, List.set_cons_succ])
    refine H_take (k := 29) (v := ?_) (by rfl) (by kernel_rfl) (by kernel_rfl) (by kernel_rfl) (by exact fun _ _ _ h => h) (by rfl) ?_ (by assumption) ?_
    rotate_left 1
    · intro w hSw
      (try dsimp only at hSw)
      go_simp
      (try with_reducible rfl)
    (try simp only [Act.put, List.setIfInBounds_toArray, List.set_cons_zero, List.set_cons_succ])
    refine H_done (by kernel_rfl) ?_
    go_wp2_with fail
    go_ret
    exact ⟨by rw [HV.out]; rfl, gr_none HG1.out hg⟩
  · refine H_take (k := 10) (v := ?_) (by rfl) (by kernel_rfl) (by kernel_rfl) (by kernel_rfl) (by exact fun _ _ _ h => h) (by rfl) ?_ (by assumption) ?_
    rotate_left 1
    · intro w hSw
      (try dsimp only at hSw)
      go_simp
      (try with_reducible rfl)
    (try simp only [Act.put, List.setIfInBounds_toArray, List.set_cons_zero, List.set_cons_succ])
    refine H_take (k := 11) (v := ?_) (by rfl) (by kernel_rfl) (by kernel_rfl) (by kernel_rfl) (by exact fun _ _ _ h => h) (by rfl) ?_ (by assumption) ?_
    rotate_left 1
    · intro w' hSw
      have kc := (HDB.out.grown hSw (by simp)).cell 0
      go_simp
      (try with_reducible rfl)
    (try simp only [Act.put, List.setIfInBounds_toArray, List.set_cons_zero, List.set_cons_succ])
    by_cases hz : d.1 = 0
    · have hzb : (d.1 == 0) = true := by simpa using hz
      refine H_take (k := 12) (v := ?_) (by rfl) (by kernel_rfl) (by kernel_rfl) (by kernel_rfl) (by exact fun _ _ _ h => h) (by rfl) ?_ (by assumption) ?_
      rotate_left 1
      · intro w hSw
        (try dsimp only at hSw)
        go_simp
        (try with_reducible rfl)
      (try simp only [Act.put, List.setIfInBounds_toArray, List.set_cons_zero, List.set_cons_succ])
      refine H_take (k := 13) (v := ?_) (by rfl) (by kernel_rfl) (by kernel_rfl) (by kernel_rfl) (by exact fun _ _ _ h => h) (by rfl) ?_ (by assumption) ?_
      rotate_left 1
      · intro w hSw
        (try dsimp only at hSw)
        go_simp
        (try with_reducible rfl)
      (try simp only [Act.put, List.setIfInBounds_toArray, List.set_cons_zero, List.set_cons_succ])
      refine H_skip (k := 14) (by rfl) (by kernel_rfl) (by kernel_rfl) (by kernel_rfl) (by exact fun _ _ _ h => h) (by rfl) (by assumption) ?_
      (try simp only [Act.put, List.setIfInBounds_toArray, List.set_cons_zero, List.set_cons_succ])
      refine H_skip (k := 15) (by rfl) (by kernel_rfl) (by kernel_rfl) (by kernel_rfl) (by exact fun _ _ _ h => h) (by rfl) (by assumption) ?_
      (try simp only [Act.put, List.setIfInBounds_toArray, List.set_cons_zero, List.set_cons_succ])
      refine H_skip (k := 16) (by rfl) (by kernel_rfl) (by kernel_rfl) (by kernel_rfl) (by exact fun _ _ _ h => h) (by rfl) (by assumption) ?_
      (try simp only [Act.put, List.setIfInBounds_toArray, List.set_cons_zero, List.set_cons_succ])
      refine H_skip (k := 17) (by rfl) (by kernel_rfl) (by kernel_rfl) (by kernel_rfl) (by exact fun _ _ _ h => h) (by rfl) (by assumption) ?_
      (try simp only [Act.put, List.setIfInBounds_toArray, List.set_cons_zero, List.set_cons_succ])
      refine H_skip (k := 18) (by rfl) (by kernel_rfl) (by kernel_rfl) (by kernel_rfl) (by exact fun _ _ _ h => h) (by rfl) (by assumption) ?_
      (try simp only [Act.put, List.setIfInBounds_toArray, List.set_cons_zero, List.set_cons_succ])
      refine H_skip (k := 19) (by rfl) (by kernel_rfl) (by kernel_rfl) (by kernel_rfl) (by exact fun _ _ _ h => h) (by rfl) (by assumption) ?_
      (try simp only [Act.put, List.setIfInBounds_toArray, List.set_cons_zero, List.set_cons_succ])
      refine H_skip (k := 20) (by rfl) (by kernel_rfl) (by kernel_rfl) (by kernel_rfl) (by exact fun _ _ _ h => h) (by rfl) (by assumption) ?_
      (try simp only [Act.put, List.setIfInBounds_toArray, List.set_cons_zero, List.set_cons_succ])
      refine H_skip (k := 21) (by rfl) (by kernel_rfl) (by kernel_rfl) (by kernel_rfl) (by exact fun _ _ _ h => h) (by rfl) (by assumption) ?_
      (try simp only [Act.put, List.setIfInBounds_toArray, List.set_cons_zero, List.set_cons_succ])
      refine H_skip (k := 22) (by rfl) (by kernel_rfl) (by kernel_rfl) (by kernel_rfl) (by exact fun _ _ _ h => h) (by rfl) (by assumption) ?_
      (try simp only [Act.put, List.setIfInBounds_toArray, List.set_cons_zero, List.set_cons_succ])
      refine H_skip (k := 23) (by rfl) (by kernel_rfl) (by kernel_rfl) (by kernel_rfl) (by exact fun _ _ _ h => h) (by rfl) (by assumption) ?_
      (try simp only [Act.put, List.setIfInBounds_toArray, List.set_cons_zero, List.set_cons_succ])
      refine H_skip (k := 24) (by rfl) (by kernel_rfl) (by kernel_rfl) (by kernel_rfl) (by exact fun _ _ _ h => h) (by rfl) (by assumption) ?_
      (try simp only [Act.put, List.setIfInBounds_toArray, List.set_cons_zero, List.set_cons_succ])
      refine H_skip (k := 25) (by rfl) (by kernel_rfl) (by kernel_rfl) (by kernel_rfl) (by exact fun _ _ _ h => h) (by rfl) (by assumption) ?_
      (try simp only [Act.put, List.setIfInBounds_toArray, List.set_cons_zero, List.set_cons_succ])
      refine H_skip (k := 26) (by rfl) (by kernel_rfl) (by kernel_rfl) (by kernel_rfl) (by exact fun _ _ _ h => h) (by rfl) (by assumption) ?_
      (try simp only [Act.put, List.setIfInBounds_toArray, List.set_cons_zero, List.set_cons_succ])
      refine H_take (k := 27) (v := ?_) (by rfl) (by kernel_rfl) (by kernel_rfl) (by kernel_rfl) (by exact fun _ _ _ h => h) (by rfl) ?_ (by assumption) ?_
      rotate_left 1
      · intro w hSw
        (try dsimp only at hSw)
        go_simp
        (try with_reducible rfl)
      (try simp only [Act.put, List.setIfInBounds_toArray, List.set_cons_zero, List.set_cons_succ])
      refine H_take (k := 28) (v := ?_) (by rfl) (by kernel_rfl) (by kernel_rfl) (by kernel_rfl) (by exact fun _ _ _ h => h) (by rfl) ?_ (by assumption) ?_
      rotate_left 1
      · intro w hSw
        (try dsimp only at hSw)
        go_simp
        (try with_reducible rfl)
      (try simp only [Act.put, List.setIfInBounds_toArray, List.set_cons_zero, List.set_cons_succ])
      refine H_take (k := 29) (v := ?_) (by rfl) (by kernel_rfl) (by kernel_rfl) (by kernel_rfl) (by exact fun _ _ _ h => h) (by rfl) ?_ (by assumption) ?_
      rotate_left 1
      · intro w hSw
        (try dsimp only at hSw)
        go_simp
        (try with_reducible rfl)
      (try simp only [Act.put, List.setIfInBounds_toArray, List.set_cons_zero, List.set_cons_succ])
      refine H_done (by kernel_rfl) ?_
      go_wp2_with fail
      go_ret
      exact ⟨by rw [HV.out, decide_eq_true hz]; rfl, gr_none HG1.out hg⟩
    · have hzb : (d.1 == 0) = false := by simpa using hz
      have qw : IntKind.i64.wrap (d.2 + a.wrap) = d.2 + a.wrap := IntWalk.i64_in _ (by omega)
      obtain ⟨Z, hZ⟩ : ∃ Z, decide (d.2 + a.wrap ≤ t) = Z := ⟨_, rfl⟩
      rw [hZ, decide_eq_false hz] at HV
      refine H_take (k := 12) (v := ?_) (by rfl) (by kernel_rfl) (by kernel_rfl) (by kernel_rfl) (by exact fun _ _ _ h => h) (by rfl) ?_ (by assumption) ?_
      rotate_left 1
      · intro w hSw
        (try dsimp only at hSw)
        go_simp
        (try with_reducible rfl)
      (try simp only [Act.put, List.setIfInBounds_toArray, List.set_cons_zero, List.set_cons_succ])
      refine H_take (k := 13) (v := ?_) (by rfl) (by kernel_rfl) (by kernel_rfl) (by kernel_rfl) (by exact fun _ _ _ h => h) (by rfl) ?_ (by assumption) ?_
      rotate_left 1
      · intro w hSw
        (try dsimp only at hSw)
        go_simp
        (try with_reducible rfl)
      (try simp only [Act.put, List.setIfInBounds_toArray, List.set_cons_zero, List.set_cons_succ])
      refine H_take (k := 14) (v := ?_) (by rfl) (by kernel_rfl) (by kernel_rfl) (by kernel_rfl) (by exact fun _ _ _ h => h) (by rfl) ?_ (by assumption) ?_
      rotate_left 1
      · intro w hSw
        (try dsimp only at hSw)
        go_simp
        (try with_reducible rfl)
      (try simp only [Act.put, List.setIfInBounds_toArray, List.set_cons_zero, List.set_cons_succ])
      refine H_take (k := 15) (v := ?_) (by rfl) (by kernel_rfl) (by kernel_rfl) (by kernel_rfl) (by exact fun _ _ _ h => h) (by rfl) ?_ (by assumption) ?_
      rotate_left 1
      · intro w hSw
        (try dsimp only at hSw)
        go_simp
        (try with_reducible rfl)
      (try simp only [Act.put, List.setIfInBounds_toArray, List.set_cons_zero, List.set_cons_succ])
      refine H_take (k := 16) (v := ?_) (by rfl) (by kernel_rfl) (by kernel_rfl) (by kernel_rfl) (by exact fun _ _ _ h => h) (by rfl) ?_ (by assumption) ?_
      rotate_left 1
      · intro w' hSw
        have kc := (HDB.out.grown hSw (by simp)).cell 1
        go_simp
        (try with_reducible rfl)
      (try simp only [Act.put, List.setIfInBounds_toArray, List.set_cons_zero, List.set_cons_succ])
      refine H_take (k := 17) (v := ?_) (by rfl) (by kernel_rfl) (by kernel_rfl) (by kernel_rfl) (by exact fun _ _ _ h => h) (by rfl) ?_ (by assumption) ?_
      rotate_left 1
      · intro w hSw
        (try dsimp only at hSw)
        go_simp
        (try with_reducible rfl)
      (try simp only [Act.put, List.setIfInBounds_toArray, List.set_cons_zero, List.set_cons_succ])
      refine H_take (k := 18) (v := ?_) (by rfl) (by kernel_rfl) (by kernel_rfl) (by kernel_rfl) (by exact fun _ _ _ h => h) (by rfl) ?_ (by assumption) ?_
      rotate_left 1
      · intro w hSw
        (try dsimp only at hSw)
        go_simp
        (try with_reducible rfl)
      (try simp only [Act.put, List.setIfInBounds_toArray, List.set_cons_zero, List.set_cons_succ])
      refine H_take (k := 19) (v := ?_) (by rfl) (by kernel_rfl) (by kernel_rfl) (by kernel_rfl) (by exact fun _ _ _ h => h) (by rfl) ?_ (by assumption) ?_
      rotate_left 1
      · intro w hSw
        (try dsimp only at hSw)
        go_simp
        (try with_reducible rfl)
      (try simp only [Act.put, List.setIfInBounds_toArray, List.set_cons_zero, List.set_cons_succ])
      refine H_take (k := 20) (v := ?_) (by rfl) (by kernel_rfl) (by kernel_rfl) (by kernel_rfl) (by exact fun _ _ _ h => h) (by rfl) ?_ (by assumption) ?_
      rotate_left 1
      · intro w' hSw
        have kc := (HBL.out.grown hSw (by simp)).cell 3; rw [HAA.out] at kc
        go_simp
        (try with_reducible rfl)
      (try simp only [Act.put, List.setIfInBounds_toArray, List.set_cons_zero, List.set_cons_succ])
      refine H_take (k := 21) (v := ?_) (by rfl) (by kernel_rfl) (by kernel_rfl) (by kernel_rfl) (by exact fun _ _ _ h => h) (by rfl) ?_ (by assumption) ?_
      rotate_left 1
      · intro w hSw
        (try dsimp only at hSw)
        go_simp
        (try with_reducible rfl)
      (try simp only [Act.put, List.setIfInBounds_toArray, List.set_cons_zero, List.set_cons_succ])
      refine H_take (k := 22) (v := ?_) (by rfl) (by kernel_rfl) (by kernel_rfl) (by kernel_rfl) (by exact fun _ _ _ h => h) (by rfl) ?_ (by assumption) ?_
      rotate_left 1
      · intro w hSw
        (try dsimp only at hSw)
        go_simp
        (try with_reducible rfl)
      (try simp only [Act.put, List.setIfInBounds_toArray, List.set_cons_zero, List.set_cons_succ])
      refine H_take (k := 23) (v := ?_) (by rfl) (by kernel_rfl) (by kernel_rfl) (by kernel_rfl) (by exact fun _ _ _ h => h) (by rfl) ?_ (by assumption) ?_
      rotate_left 1
      · intro w hSw
        (try dsimp only at hSw)
        go_simp
        (try with_reducible rfl)
      (try simp only [Act.put, List.setIfInBounds_toArray, List.set_cons_zero, List.set_cons_succ])
      refine H_take (k := 24) (v := ?_) (by rfl) (by kernel_rfl) (by kernel_rfl) (by kernel_rfl) (by exact fun _ _ _ h => h) (by rfl) ?_ (by assumption) ?_
      rotate_left 1
      · intro w' hSw
        have kc := (HREC.out.grown (gr_none HG1.out hSw) (fun g e => by cases e)).at_ AgV.row_len HA.out 5 _ rfl
        go_simp
        (try with_reducible rfl)
      (try simp only [Act.put, List.setIfInBounds_toArray, List.set_cons_zero, List.set_cons_succ])
      refine H_take (k := 25) (v := ?_) (by rfl) (by kernel_rfl) (by kernel_rfl) (by kernel_rfl) (by exact fun _ _ _ h => h) (by rfl) ?_ (by assumption) ?_
      rotate_left 1
      · intro w hSw
        (try dsimp only at hSw)
        go_simp
        (try with_reducible rfl)
      (try simp only [Act.put, List.setIfInBounds_toArray, List.set_cons_zero, List.set_cons_succ])
      refine H_take (k := 26) (v := ?_) (by rfl) (by kernel_rfl) (by kernel_rfl) (by kernel_rfl) (by exact fun _ _ _ h => h) (by rfl) ?_ (by assumption) ?_
      rotate_left 1
      · intro w hSw
        (try dsimp only at hSw)
        go_simp
        (try with_reducible rfl)
      (try simp only [Act.put, List.setIfInBounds_toArray, List.set_cons_zero, List.set_cons_succ])
      refine H_take (k := 27) (v := ?_) (by rfl) (by kernel_rfl) (by kernel_rfl) (by kernel_rfl) (by exact fun _ _ _ h => h) (by rfl) ?_ (by assumption) ?_
      rotate_left 1
      · intro w hSw
        (try dsimp only at hSw)
        go_simp
        (try with_reducible rfl)
      (try simp only [Act.put, List.setIfInBounds_toArray, List.set_cons_zero, List.set_cons_succ])
      refine H_take (k := 28) (v := ?_) (by rfl) (by kernel_rfl) (by kernel_rfl) (by kernel_rfl) (by exact fun _ _ _ h => h) (by rfl) ?_ (by assumption) ?_
      rotate_left 1
      · intro w hSw
        (try dsimp only at hSw)
        go_simp
        (try with_reducible rfl)
      (try simp only [Act.put, List.setIfInBounds_toArray, List.set_cons_zero, List.set_cons_succ])
      refine H_take (k := 29) (v := ?_) (by rfl) (by kernel_rfl) (by kernel_rfl) (by kernel_rfl) (by exact fun _ _ _ h => h) (by rfl) ?_ (by assumption) ?_
      rotate_left 1
      · intro w hSw
        (try dsimp only at hSw)
        go_simp
        (try with_reducible rfl)
      (try simp only [Act.put, List.setIfInBounds_toArray, List.set_cons_zero, List.set_cons_succ])
      refine H_done (by kernel_rfl) ?_
      clear hZ
      go_wp2_with fail
      go_ret
      exact ⟨by rw [HV.out]; cases Z <;> rfl, gr_none HG1.out hg⟩
theorem tdiv_bd {a b : Int} (ha : -1000000000000 ≤ a) (ha2 : a ≤ 1000000000000) (hb : 0 < b) : -1000000000000 ≤ a.tdiv b ∧ a.tdiv b ≤ 1000000000000 := by
  rcases Int.le_total 0 a with h | h
  · have h1 : 0 ≤ a.tdiv b := Int.tdiv_nonneg h (by omega)
    have h2 : a.tdiv b ≤ a := Int.tdiv_le_self b h
    omega
  · have h1 : 0 ≤ (-a).tdiv b := Int.tdiv_nonneg (by omega) (by omega)
    have h2 : (-a).tdiv b ≤ -a := Int.tdiv_le_self b (by omega)
    rw [Int.neg_tdiv] at h1 h2
    omega
set_option maxHeartbeats 4000000 in
set_option maxRecDepth 100000 in
theorem rank_any (wb : World) (R : RoC) (s : StyV) (A : List AgV) (C : List CaV) (st : RoS) (i : Nat) (t : Int) (w : World) (h : Rm wb w R s A C st) (hi : i < C.length) (t0 : -1 ≤ t) (t1 : t ≤ 400000000000) :
    Calls Tryz.prog 192 #[.pointer (some ⟨R.g, 0, none⟩), .int .i64 i, .int .i64 t] w (RetV (.int .i64 (rankAt s C t i)) w) := by
  have hi2 : (i : Int) < (C.length : Int) := by omega
  obtain ⟨c, hc⟩ : ∃ c, C[i]? = some c := ⟨_, List.getElem?_eq_getElem hi⟩
  obtain ⟨cg, co, hcA, hrec⟩ := h.caller hc
  obtain ⟨n1, n2, n3, n4, n5, n6, n7, n8⟩ := (h.cn c (mem_of_get hc)).1
  have hage := h.age
  have HCC := Lib.hid (hrec.at_ CaV.row_len hc)
  have HV := Lib.hid (show rankAt s C t i = if s.age = 0 then c.prio else c.prio + (t - c.at_).tdiv s.age by unfold rankAt; rw [hc]; rfl)
  obtain ⟨w1, hw1⟩ : ∃ w1, w.alloc (.cells #[.string c.id, .string c.skill, .int .i64 c.at_, .int .i64 c.least, .int .i64 c.prio, .int .i64 c.pat, .int .i64 c.talk, .bool c.back] 49) = w1 := ⟨_, rfl⟩
  have HCB := Lib.hid (show Blk w1 w.heap.size 49 #[.string c.id, .string c.skill, .int .i64 c.at_, .int .i64 c.least, .int .i64 c.prio, .int .i64 c.pat, .int .i64 c.talk, .bool c.back] by rw [← hw1]; exact Blk.new _ _ _)
  have HG1 := Lib.hid (show w.grownBy w1 none by rw [← hw1]; exact gr_alloc (gr_refl _ _) _)
  have HBL := Lib.hid (h.at_.blk.grown HG1.out (by simp))
  have HW1 := Lib.hid hw1
  have k4 := h.at_.blk.cell 4
  rw [hcA] at k4
  clear h hc hrec hw1 hcA
  go_enter Tryz.func192, Tryz.ntmps192
  go_upto_region 2 with (first
    | (refine wpl_load_at Tryz.caT rfl _ rfl _ rfl [.string c.id, .string c.skill, .int .i64 c.at_, .int .i64 c.least, .int .i64 c.prio, .int .i64 c.pat, .int .i64 c.talk, .bool c.back] rfl (fun j u hu => by rw [add_mk]; exact HCC.out j u hu) ?_)
    | fail)
  rw [HW1.out]
  clear k4 HW1 HCC
  have k1 := HBL.out.cell 1
  have c4 := HCB.out.cell 4
  by_cases hz : s.age = 0
  · have hzb : (s.age == 0) = true := by simpa using hz
    rw [if_pos hz] at HV
    clear hz
    go_wp2_with fail
    go_ret
    exact ⟨by rw [HV.out]; rfl, HG1.out⟩
  · have hzb : (s.age == 0) = false := by simpa using hz
    rw [if_neg hz] at HV
    have c2 := HCB.out.cell 2
    have hpos : 0 < s.age := by omega
    obtain ⟨d1, d2⟩ := tdiv_bd (a := t - c.at_) (b := s.age) (by omega) (by omega) hpos
    have q1 : IntKind.i64.wrap (t - c.at_) = t - c.at_ := IntWalk.i64_in _ (by omega)
    have q2 : IntKind.i64.wrap ((t - c.at_).tdiv s.age) = (t - c.at_).tdiv s.age := IntWalk.i64_in _ (by omega)
    have q3 : IntKind.i64.wrap (c.prio + (t - c.at_).tdiv s.age) = c.prio + (t - c.at_).tdiv s.age := IntWalk.i64_in _ (by omega)
    go_wp2_with fail
    go_quiet (fail)
    go_wp2_with fail
    go_ret
    exact ⟨by rw [HV.out]; try rfl, gr_drewN HG1.out _⟩
def sgn3 (z : Int) : Int := if z < 0 then -1 else if 0 < z then 1 else 0
theorem sgn3_lt (z : Int) : decide (sgn3 z < 0) = decide (z < 0) := by
  unfold sgn3
  by_cases h : z < 0
  · rw [if_pos h, decide_eq_true h]; rfl
  · rw [if_neg h, decide_eq_false h]
    by_cases h2 : 0 < z
    · rw [if_pos h2]; rfl
    · rw [if_neg h2]; rfl
set_option maxHeartbeats 1000000 in
theorem sign_any (z : Int) (w : World) : Calls Tryz.prog 191 #[.int .i64 z] w (Same (.int .i64 (sgn3 z)) w) := by
  by_cases h1 : z < 0
  · have hd : decide (z < 0) = true := decide_eq_true h1
    have HV := Lib.hid (show sgn3 z = -1 by unfold sgn3; rw [if_pos h1])
    go_enter Tryz.func191, Tryz.ntmps191
    go_wp2_with fail
    go_ret
    exact ⟨by rw [HV.out]; rfl, rfl⟩
  · have hd : decide (z < 0) = false := decide_eq_false h1
    by_cases h2 : 0 < z
    · have hd2 : decide (0 < z) = true := decide_eq_true h2
      have HV := Lib.hid (show sgn3 z = 1 by unfold sgn3; rw [if_neg h1, if_pos h2])
      go_enter Tryz.func191, Tryz.ntmps191
      go_wp2_with fail
      go_ret
      exact ⟨by rw [HV.out]; rfl, rfl⟩
    · have hd2 : decide (0 < z) = false := decide_eq_false h2
      have HV := Lib.hid (show sgn3 z = 0 by unfold sgn3; rw [if_neg h1, if_neg h2])
      go_enter Tryz.func191, Tryz.ntmps191
      go_wp2_with fail
      go_ret
      exact ⟨by rw [HV.out]; rfl, rfl⟩
set_option maxHeartbeats 4000000 in
set_option maxRecDepth 100000 in
/-- The order of those in line. -/
theorem lineLt_any (wb : World) (R : RoC) (s : StyV) (A : List AgV) (C : List CaV) (st : RoS) (x y : Nat) (t : Int) (rb ab : Nat) (w : World) (h : Rm wb w R s A C st) (hx : x < C.length) (hy : y < C.length) (t0 : -1 ≤ t) (t1 : t ≤ 400000000000)
    (hr : Blk w rb 209 #[.pointer (some ⟨R.g, 0, none⟩)]) (ha : Blk w ab 3 #[.int .i64 t]) :
    Calls Tryz.prog 190 #[.int .i64 x, .int .i64 y, .pointer (some ⟨rb, 0, none⟩), .pointer (some ⟨ab, 0, none⟩)] w (RetV (.int .i64 (sgn3 (rankAt s C t y - rankAt s C t x))) w) := by
  have bd : ∀ i, i < C.length → -2000000000000 ≤ rankAt s C t i ∧ rankAt s C t i ≤ 2000000000000 := fun i hi => by
    obtain ⟨c, hc⟩ : ∃ c, C[i]? = some c := ⟨_, List.getElem?_eq_getElem hi⟩
    obtain ⟨n1, n2, n3, n4, n5, n6, n7, n8⟩ := (h.cn c (mem_of_get hc)).1
    have hage := h.age
    unfold rankAt rankR
    rw [hc]
    simp only [Option.elim]
    split
    · omega
    · obtain ⟨d1, d2⟩ := tdiv_bd (a := t - c.at_) (b := s.age) (by omega) (by omega) (by omega)
      omega
  obtain ⟨X, hX⟩ : ∃ X, rankAt s C t x = X := ⟨_, rfl⟩
  obtain ⟨Y, hY⟩ : ∃ Y, rankAt s C t y = Y := ⟨_, rfl⟩
  obtain ⟨x1, x2⟩ := bd x hx
  obtain ⟨y1, y2⟩ := bd y hy
  rw [hX] at x1 x2
  rw [hY] at y1 y2
  have q1 : IntKind.i64.wrap (Y - X) = Y - X := IntWalk.i64_in _ (by omega)
  rw [hX, hY]
  have H := Lib.hid h; have HX := Lib.hid hX; have HY := Lib.hid hY
  have HR := Lib.hid hr; have HA := Lib.hid ha
  obtain ⟨S3, hS3⟩ : ∃ S3, sgn3 (Y - X) = S3 := ⟨_, rfl⟩
  rw [hS3]
  have HS3 := Lib.hid hS3
  clear h hX hY hr ha hS3 bd
  go_enter Tryz.func190, Tryz.ntmps190
  go_upto_region 1 with (fail)
  refine H_begin (fun w' => w.grownBy w' none) (by kernel_rfl) ?_
  have hHeld : w.grownBy w.drew none := gr_drew (gr_refl _ _)
  refine H_take (k := 0) (v := ?_) (by rfl) (by kernel_rfl) (by kernel_rfl) (by kernel_rfl) (by exact fun _ _ _ h => h) (by rfl) ?_ (by assumption) ?_
  rotate_left 1
  · intro w' hSw
    have kc := (HR.out.grown hSw (by simp)).cell 0
    go_simp
    (try with_reducible rfl)
  (try simp only [Act.put, List.setIfInBounds_toArray, List.set_cons_zero, List.set_cons_succ])
  refine H_take (k := 1) (v := ?_) (by rfl) (by kernel_rfl) (by kernel_rfl) (by kernel_rfl) (by exact fun _ _ _ h => h) (by rfl) ?_ (by assumption) ?_
  rotate_left 1
  · intro w hSw
    (try dsimp only at hSw)
    go_simp
    (try with_reducible rfl)
  (try simp only [Act.put, List.setIfInBounds_toArray, List.set_cons_zero, List.set_cons_succ])
  refine H_take (k := 2) (v := ?_) (by rfl) (by kernel_rfl) (by kernel_rfl) (by kernel_rfl) (by exact fun _ _ _ h => h) (by rfl) ?_ (by assumption) ?_
  rotate_left 1
  · intro w' hSw
    have kc := (HA.out.grown hSw (by simp)).cell 0
    go_simp
    (try with_reducible rfl)
  (try simp only [Act.put, List.setIfInBounds_toArray, List.set_cons_zero, List.set_cons_succ])
  refine H_take (k := 4) (v := ?_) (by rfl) (by kernel_rfl) (by kernel_rfl) (by kernel_rfl) (by exact fun _ _ _ h => h) (by rfl) ?_ (by assumption) ?_
  rotate_left 1
  · intro w' hSw
    have kc := (HR.out.grown hSw (by simp)).cell 0
    go_simp
    (try with_reducible rfl)
  (try simp only [Act.put, List.setIfInBounds_toArray, List.set_cons_zero, List.set_cons_succ])
  refine H_take (k := 5) (v := ?_) (by rfl) (by kernel_rfl) (by kernel_rfl) (by kernel_rfl) (by exact fun _ _ _ h => h) (by rfl) ?_ (by assumption) ?_
  rotate_left 1
  · intro w hSw
    (try dsimp only at hSw)
    go_simp
    (try with_reducible rfl)
  (try simp only [Act.put, List.setIfInBounds_toArray, List.set_cons_zero, List.set_cons_succ])
  refine H_take (k := 6) (v := ?_) (by rfl) (by kernel_rfl) (by kernel_rfl) (by kernel_rfl) (by exact fun _ _ _ h => h) (by rfl) ?_ (by assumption) ?_
  rotate_left 1
  · intro w' hSw
    have kc := (HA.out.grown hSw (by simp)).cell 0
    go_simp
    (try with_reducible rfl)
  (try simp only [Act.put, List.setIfInBounds_toArray, List.set_cons_zero, List.set_cons_succ])
  refine H_run (k := 3) (by rfl) (by kernel_rfl) (by rfl) (fun K hK => ?_)
  go_simp
  refine (rank_any wb R s A C st y t _ (H.out.kept hHeld) hy t0 t1).mono ?_
  rintro e w8 ⟨rfl, hg8⟩
  rw [HY.out]
  have hg := gr_none hHeld hg8
  refine hK _ _ hg ?_
  clear hK K hHeld hg8
  have hHeld := hg
  clear hg
  (try simp only [Act.put, List.setIfInBounds_toArray, List.set_cons_zero, List.set_cons_succ])
  refine H_run (k := 7) (by rfl) (by kernel_rfl) (by rfl) (fun K hK => ?_)
  go_simp
  refine (rank_any wb R s A C st x t _ (H.out.kept hHeld) hx t0 t1).mono ?_
  rintro e w8 ⟨rfl, hg8⟩
  rw [HX.out]
  have hg := gr_none hHeld hg8
  refine hK _ _ hg ?_
  clear hK K hHeld hg8
  have hHeld := hg
  clear hg
  (try simp only [Act.put, List.setIfInBounds_toArray, List.set_cons_zero, List.set_cons_succ])
  refine H_take (k := 8) (v := ?_) (by rfl) (by kernel_rfl) (by kernel_rfl) (by kernel_rfl) (by exact fun _ _ _ h => h) (by rfl) ?_ (by assumption) ?_
  rotate_left 1
  · intro w hSw
    (try dsimp only at hSw)
    go_simp
    (try with_reducible rfl)
  (try simp only [Act.put, List.setIfInBounds_toArray, List.set_cons_zero, List.set_cons_succ])
  refine H_run (k := 9) (by rfl) (by kernel_rfl) (by rfl) (fun K hK => ?_)
  go_simp
  refine (sign_any _ _).mono ?_
  rintro e w9 ⟨rfl, rfl⟩
  rw [HS3.out]
  refine hK _ _ hHeld ?_
  clear hK K
  (try simp only [Act.put, List.setIfInBounds_toArray, List.set_cons_zero, List.set_cons_succ])
  refine H_take (k := 10) (v := ?_) (by rfl) (by kernel_rfl) (by kernel_rfl) (by kernel_rfl) (by exact fun _ _ _ h => h) (by rfl) ?_ (by assumption) ?_
  rotate_left 1
  · intro w hSw
    (try dsimp only at hSw)
    go_simp
    (try with_reducible rfl)
  (try simp only [Act.put, List.setIfInBounds_toArray, List.set_cons_zero, List.set_cons_succ])
  refine H_done (by kernel_rfl) ?_
  go_wp2_with fail
  go_ret
  exact ⟨rfl, hHeld⟩
end Go.Proofs.YtnmodobkennklaaGreatDoor

/- Beacons compared; loads under a guard. Conditions: none. -/
import Derived.Test.YtgogiljplnninaaGreatDoorBc6
import Derived.Test.YtgogiljplnninaaGreatDoorBun6
import Derived.Test.YtgogiljplnninaaGreatDoorBun1
import Derived.Test.YtgogiljplnninaaGreatDoorBun5
import Derived.Test.YtgogiljplnninaaGreatDoorKnS
namespace Go.Proofs.YtgogiljplnninaaGreatDoor
section
open Go.RowKit

section
variable {P : Program} {w : World} {o : Oper} {ops : Array Oper} {rest : List Oper} {a : Act} {Q : Exit → Act → World → Prop}
theorem wplg_load_all {ty : TypeId} {n : Nat} (T : StructT P ty n) (hw : Region.wanted o (yielded ops a.tmps) = true) (x : Operand) (ho : o.op = .load ty x) (g : Nat) (hx : a.eval x = .pointer (some ⟨g, 0, none⟩)) (t : TypeId) (cs : Array Value) (hb : Blk w g t cs) (hn : cs.size = n)
    (h : wpList P ops Q rest (a.put o.dst (.agg cs)) w) : wpList P ops Q (o :: rest) a w :=
  BigFrame.wpList_want hw fun _ hK => wp_load_all T x ho g hx t cs hb hn (hK _ _ h)
theorem wplg_eqs {op : BinOp} {T tr : TypeId} (hw : Region.wanted o (yielded ops a.tmps) = true) (x y : Operand) (ho : o.op = .binOp op T x y tr) (us vs : Array Value) (hx : a.eval x = .agg us) (hy : a.eval y = .agg vs) (hm : P.eqGuardType P.depth T = false) {v : Value} (hr : (binOp op T (.agg us) (.agg vs)).run P w = .ok v w)
    (h : wpList P ops Q rest (a.put o.dst v) w) : wpList P ops Q (o :: rest) a w :=
  BigFrame.wpList_want hw fun _ hK => wp_eqs x y ho us vs hx hy hm hr (hK _ _ h)
end
theorem bcEq_guard : Tryz.prog.eqGuardType Tryz.prog.depth 62 = false := by kernel_rfl
set_option maxHeartbeats 4000000 in
theorem bcEq_in (a b : BcV) (w : World) : (Op.equalIn 10000 62 (.agg #[.string a.psn, .string a.dev, .int .i64 a.st, .int .i64 a.at_, .int .i64 a.un, .string a.note]) (.agg #[.string b.psn, .string b.dev, .int .i64 b.st, .int .i64 b.at_, .int .i64 b.un, .string b.note])).run Tryz.prog w = .ok (decide (a = b)) w := by
  have u9 := Tryz.underlying9
  have u3 := Tryz.underlying3
  have hS : Tryz.prog.underlying 62 = some (.struct (Tryz.prog.fieldsOf 62)) := by kernel_rfl
  have hp : Tryz.prog.stoodInHeld 62 = false := by kernel_rfl
  rw [show (10000 : Nat) = 9999 + 1 from rfl, run_equalIn_agg w 9999 62 _ _ hS hp]
  simp only [Program.fieldsOf, Tryz.underlying62]
  go_simp
  by_cases h0 : a.psn = b.psn
  rotate_left 1
  · rw [decide_eq_false (fun e => h0 (by rw [e]))]
    have q0 : ¬ a.psn.toList = b.psn.toList := by
      intro e
      have e2 := eqS_nb a.psn b.psn
      rw [e] at e2
      simp at e2
      exact h0 (nb_inj e2)
    simp [q0]
  by_cases h1 : a.dev = b.dev
  rotate_left 1
  · rw [decide_eq_false (fun e => h1 (by rw [e]))]
    have q1 : ¬ a.dev.toList = b.dev.toList := by
      intro e
      have e2 := eqS_nb a.dev b.dev
      rw [e] at e2
      simp at e2
      exact h1 (nb_inj e2)
    simp [h0, q1]
  by_cases h2 : a.st = b.st
  rotate_left 1
  · rw [decide_eq_false (fun e => h2 (by rw [e]))]
    have q2 := h2
    simp [h0, h1, q2]
  by_cases h3 : a.at_ = b.at_
  rotate_left 1
  · rw [decide_eq_false (fun e => h3 (by rw [e]))]
    have q3 := h3
    simp [h0, h1, h2, q3]
  by_cases h4 : a.un = b.un
  rotate_left 1
  · rw [decide_eq_false (fun e => h4 (by rw [e]))]
    have q4 := h4
    simp [h0, h1, h2, h3, q4]
  by_cases h5 : a.note = b.note
  rotate_left 1
  · rw [decide_eq_false (fun e => h5 (by rw [e]))]
    have q5 : ¬ a.note.toList = b.note.toList := by
      intro e
      have e2 := eqS_nb a.note b.note
      rw [e] at e2
      simp at e2
      exact h5 (nb_inj e2)
    simp [h0, h1, h2, h3, h4, q5]
  rw [decide_eq_true (show a = b by cases a; cases b; simp_all)]
  simp [h0, h1, h2, h3, h4, h5]
theorem bcEq_eql (a b : BcV) (w : World) : (binOp .eql 62 (.agg #[.string a.psn, .string a.dev, .int .i64 a.st, .int .i64 a.at_, .int .i64 a.un, .string a.note]) (.agg #[.string b.psn, .string b.dev, .int .i64 b.st, .int .i64 b.at_, .int .i64 b.un, .string b.note])).run Tryz.prog w = .ok (.bool (decide (a = b))) w := by
  rw [run_eql_struct, bcEq_in]; rfl
theorem bcEq_neq (a b : BcV) (w : World) : (binOp .neq 62 (.agg #[.string a.psn, .string a.dev, .int .i64 a.st, .int .i64 a.at_, .int .i64 a.un, .string a.note]) (.agg #[.string b.psn, .string b.dev, .int .i64 b.st, .int .i64 b.at_, .int .i64 b.un, .string b.note])).run Tryz.prog w = .ok (.bool (!decide (a = b))) w := by
  rw [run_neq_struct, bcEq_in]; rfl

theorem Tryz.winTh : StructT Tryz.prog 79 2 := ⟨_, Tryz.underlying79, rfl, by kernel_rfl⟩
set_option maxHeartbeats 1000000 in
theorem insideT_any (t : Int) (p : Int × Int) (w : World) : Calls Tryz.prog 116 #[.int .i64 t, .agg #[.int .i64 p.1, .int .i64 p.2]] w (RetV (.bool (decide (p.1 ≤ t) && decide (t < p.2))) w) := by
  obtain ⟨pf, pt⟩ := p
  dsimp only
  cases c1 : decide (pf ≤ t) <;> cases c2 : decide (t < pt)
  all_goals
    go_enter Tryz.func116, Tryz.ntmps116
    go_wp2_with fail
    go_ret
    exact ⟨by first | rfl | simp, gr_alloc (gr_refl _ _) _⟩
theorem two_at {a b v : Int} {j : Nat} (h : [a, b][j]? = some v) : (#[Value.int .i64 a, Value.int .i64 b] : Array Value)[j]? = some (.int .i64 v) := by
  rcases j with _ | _ | j
  · simpa using h
  · simpa using h
  · simp at h
theorem filt_succ {l : List Int} {c : Int → Bool} {j : Nat} {v : Int} (h : l[j]? = some v) : (l.take (j + 1)).filter c = (l.take j).filter c ++ (if c v then [v] else []) := by
  obtain ⟨hl, e⟩ := List.getElem?_eq_some_iff.1 h
  rw [List.take_succ_eq_append_getElem hl, List.filter_append, e]
  cases hc : c v <;> simp [hc]
end
end Go.Proofs.YtgogiljplnninaaGreatDoor
/- Contract of slices.Compact at beacons. Conditions: at most a thousand beacons, each BcOk. -/
namespace Go.Proofs.YtgogiljplnninaaGreatDoor
section
open Go.RowKit

theorem ddE_short {l : List BcV} (h : l.length ≤ 1) : ddE l = l := by
  match l, h with
  | [], _ => rfl
  | [a], _ => rfl
  | a :: b :: r, h => simp at h
theorem take_set_snoc {α : Type} {l : List α} {j : Nat} {x : α} (h : j < l.length) : (l.set j x).take (j + 1) = l.take j ++ [x] := by
  rw [List.take_succ_eq_append_getElem (by rw [List.length_set]; exact h), List.getElem_set_self, List.take_set_of_le (Nat.le_refl _)]
set_option maxHeartbeats 8000000 in
set_option maxRecDepth 100000 in
theorem compactK_any (lo : Nat) (A : Option Addr) (n c : Nat) (l : List BcV) (w : World) (h : OwnBc w lo A n c l) (hn : n ≤ 1000) :
    Calls Tryz.prog 112 #[.slice A n c] w (fun e w' => ∃ m, e = .returned (.slice A m c) ∧ OwnBc w' lo A m c (ddE l) ∧ w.grownBy w' (blkOf A) ∧ m ≤ n) := by
  have H := Lib.hid h; clear h
  by_cases h2 : n < 2
  · have d0 : decide ((n : Int) < 2) = true := decide_eq_true (by omega)
    go_enter Tryz.func112, Tryz.ntmps112
    go_wp2_with fail
    go_ret
    exact ⟨n, rfl, by rw [show ddE l = l from ddE_short (by rw [H.out.1.2]; omega)]; exact H.out, gr_refl _ _, Nat.le_refl _⟩
  · have d0 : decide ((n : Int) < 2) = false := decide_eq_false (by omega)
    obtain ⟨g, rfl, hgl, hgs⟩ := H.out.1.1.pos (by omega)
    have hcn := H.out.1.1.cap
    go_enter Tryz.func112, Tryz.ntmps112
    go_wp2_with fail
    clear d0
    go_loopw [3, 4, 5] (fun t _ _ wr => ∃ k : Nat, t = .int .i64 k ∧ 1 ≤ k ∧ k ≤ n ∧ OwnR BcV.row 6 wr lo 62 (some ⟨g, 0, none⟩) n c l ∧ w.grownBy wr (some g) ∧ NoEq l k) (fun t _ _ _ => n - (intOf t).toNat)
    case atStart => exact ⟨1, rfl, Nat.le_refl _, by omega, H.out.1, gr_refl _ _, NoEq.one⟩
    case round =>
      obtain ⟨k, rfl, hk1, hkn, hown, hg, hne⟩ := hrel
      have HNE := Lib.hid hne
      clear hne
      have HO := Lib.hid hown; have HG := Lib.hid hg; have HK := Lib.hid H.out.2
      clear hown hg
      by_cases hlt : k < n
      · have hlt2 : (k : Int) < (n : Int) := by omega
        obtain ⟨⟨psn1, dev1, st1, at1, un1, note1⟩, hx⟩ : ∃ b, l[k]? = some b := ⟨_, List.getElem?_eq_getElem (by rw [HO.out.2]; omega)⟩
        obtain ⟨⟨psn2, dev2, st2, at2, un2, note2⟩, hy⟩ : ∃ b, l[k - 1]? = some b := ⟨_, List.getElem?_eq_getElem (by rw [HO.out.2]; omega)⟩
        have HX := Lib.hid hx; have HY := Lib.hid hy; clear hx hy
        have HRO := Lib.hid HO.out.recs
        have s2 : (0 : Int) ≤ (k : Int) - 1 := by omega
        have s5 : (1 : Int) ≤ (k : Int) := by omega
        have s3 : (k : Int) - 1 < (n : Int) := by omega
        have s6 : (0 : Int) < (n : Int) := by omega
        have s1 : IntKind.i64.wrap ((k : Int) - 1) = (k : Int) - 1 := IntWalk.i64_in _ (by omega)
        have s4 : ((k : Int) - 1).toNat = k - 1 := by omega
        have s7 : (0 : Int) ≤ (k : Int) := by omega
        go_wp2_with fail
        refine H_begin (fun w' => wr.grownBy w' none) (by kernel_rfl) ?_
        have hHeld : wr.grownBy wr.drew none := gr_drew (gr_refl _ _)
        refine H_take (k := 0) (v := ?_) (by rfl) (by kernel_rfl) (by kernel_rfl) (by kernel_rfl) (by exact fun _ _ _ h => h) (by rfl) ?_ (by assumption) ?_
        rotate_left 1
        · intro w hSw
          (try dsimp only at hSw)
          go_simp
          (try with_reducible rfl)
        (try simp only [Act.put, List.setIfInBounds_toArray, List.set_cons_zero, List.set_cons_succ])
        refine H_take (k := 1) (v := ?_) (by rfl) (by kernel_rfl) (by kernel_rfl) (by kernel_rfl) (by exact fun _ _ _ h => h) (by rfl) ?_ (by assumption) ?_
        rotate_left 1
        · intro w hSw
          (try dsimp only at hSw)
          go_simp
          (try with_reducible rfl)
        (try simp only [Act.put, List.setIfInBounds_toArray, List.set_cons_zero, List.set_cons_succ])
        refine H_take (k := 2) (v := ?_) (by rfl) (by kernel_rfl) (by kernel_rfl) (by kernel_rfl) (by exact fun _ _ _ h => h) (by rfl) ?_ (by assumption) ?_
        rotate_left 1
        · intro w hSw
          (try dsimp only at hSw)
          go_simp
          (try with_reducible rfl)
        (try simp only [Act.put, List.setIfInBounds_toArray, List.set_cons_zero, List.set_cons_succ])
        refine H_take (k := 3) (v := .agg #[.string psn1, .string dev1, .int .i64 st1, .int .i64 at1, .int .i64 un1, .string note1]) (by rfl) (by kernel_rfl) (by kernel_rfl) (by kernel_rfl) (by exact fun _ _ _ h => h) (by rfl) (fun w' hSw => exec_ldr Tryz.bcT _ rfl _ rfl [.string psn1, .string dev1, .int .i64 st1, .int .i64 at1, .int .i64 un1, .string note1] (fun j u hu => by rw [add_mk]; have hcc := ((HRO.out.grown hSw (fun g e => by cases e)).at_ BcV.row_len HX.out) j u hu; simp only [Nat.zero_add] at hcc; exact hcc) rfl) (by assumption) ?_
        (try simp only [Act.put, List.setIfInBounds_toArray, List.set_cons_zero, List.set_cons_succ])
        refine H_take (k := 4) (v := ?_) (by rfl) (by kernel_rfl) (by kernel_rfl) (by kernel_rfl) (by exact fun _ _ _ h => h) (by rfl) ?_ (by assumption) ?_
        rotate_left 1
        · intro w hSw
          (try dsimp only at hSw)
          go_simp
          (try with_reducible rfl)
        (try simp only [Act.put, List.setIfInBounds_toArray, List.set_cons_zero, List.set_cons_succ])
        refine H_take (k := 5) (v := ?_) (by rfl) (by kernel_rfl) (by kernel_rfl) (by kernel_rfl) (by exact fun _ _ _ h => h) (by rfl) ?_ (by assumption) ?_
        rotate_left 1
        · intro w hSw
          (try dsimp only at hSw)
          go_simp
          (try with_reducible rfl)
        (try simp only [Act.put, List.setIfInBounds_toArray, List.set_cons_zero, List.set_cons_succ])
        refine H_take (k := 6) (v := ?_) (by rfl) (by kernel_rfl) (by kernel_rfl) (by kernel_rfl) (by exact fun _ _ _ h => h) (by rfl) ?_ (by assumption) ?_
        rotate_left 1
        · intro w hSw
          (try dsimp only at hSw)
          go_simp
          (try with_reducible rfl)
        (try simp only [Act.put, List.setIfInBounds_toArray, List.set_cons_zero, List.set_cons_succ])
        refine H_take (k := 7) (v := ?_) (by rfl) (by kernel_rfl) (by kernel_rfl) (by kernel_rfl) (by exact fun _ _ _ h => h) (by rfl) ?_ (by assumption) ?_
        rotate_left 1
        · intro w hSw
          (try dsimp only at hSw)
          go_simp
          (try with_reducible rfl)
        (try simp only [Act.put, List.setIfInBounds_toArray, List.set_cons_zero, List.set_cons_succ])
        refine H_take (k := 8) (v := .agg #[.string psn2, .string dev2, .int .i64 st2, .int .i64 at2, .int .i64 un2, .string note2]) (by rfl) (by kernel_rfl) (by kernel_rfl) (by kernel_rfl) (by exact fun _ _ _ h => h) (by rfl) (fun w' hSw => exec_ldr Tryz.bcT _ rfl _ rfl [.string psn2, .string dev2, .int .i64 st2, .int .i64 at2, .int .i64 un2, .string note2] (fun j u hu => by rw [add_mk]; have hcc := ((HRO.out.grown hSw (fun g e => by cases e)).at_ BcV.row_len HY.out) j u hu; simp only [Nat.zero_add] at hcc; exact hcc) rfl) (by assumption) ?_
        (try simp only [Act.put, List.setIfInBounds_toArray, List.set_cons_zero, List.set_cons_succ])
        obtain ⟨ZB, hZB⟩ : ∃ ZB, decide ((⟨psn1, dev1, st1, at1, un1, note1⟩ : BcV) = ⟨psn2, dev2, st2, at2, un2, note2⟩) = ZB := ⟨_, rfl⟩
        have HZB := Lib.hid hZB
        have HEQ := Lib.hid (fun w' => (bcEq_eql ⟨psn1, dev1, st1, at1, un1, note1⟩ ⟨psn2, dev2, st2, at2, un2, note2⟩ w').trans (by rw [hZB]))
        clear hZB
        refine H_take (k := 9) (v := .bool ZB) (by rfl) (by kernel_rfl) (by kernel_rfl) (by kernel_rfl) (by exact fun _ _ _ h => h) (by rfl) (fun w' _ => exec_eqs _ _ rfl _ _ rfl rfl bcEq_guard (HEQ.out w')) (by assumption) ?_
        (try simp only [Act.put, List.setIfInBounds_toArray, List.set_cons_zero, List.set_cons_succ])
        refine H_done (by kernel_rfl) ?_
        obtain ⟨w6, hw6⟩ : ∃ w6, wr.drew = w6 := ⟨_, rfl⟩
        have hgz : wr.grownBy w6 none := by rw [← hw6]; exact gr_drew (gr_refl _ _)
        rw [hw6]
        have HO6 := Lib.hid (HO.out.kept hgz (fun g e => by cases e))
        have HG6 := Lib.hid (gr_none HG.out hgz)
        clear hgz hHeld hw6 HEQ
        clear s1 s2 s3 s4 s5 s6
        cases ZB
        · go_wp2_with fail
          go_roundw
          case rel => exact ⟨k + 1, by go_num, by omega, by omega, HO6.out, HG6.out, HNE.out.succ (by omega) HX.out HY.out (fun e => of_decide_eq_false HZB.out e.symm)⟩
          case measure => simp [intOf]; omega
        · have hddk : l.take k = ddE (l.take (k + 1)) := by
            rw [ddE_take (by omega) HX.out HY.out, if_pos (of_decide_eq_true HZB.out).symm, HNE.out.dd (by rw [HO.out.2]; omega)]
          have HDD := Lib.hid hddk
          clear hddk HZB HNE HO HG HX HY HRO HK
          have hck : ¬ c = k := by omega
          have s8 : (k : Int) ≤ (n : Int) := by omega
          go_wp2_with fail
          clear s8
          obtain ⟨w7, rfl⟩ : ∃ w7 : World, w7 = w6 := ⟨_, rfl⟩
          go_loopw [3, 5] (fun t5 t7 wr => ∃ (j q : Nat) (l' : List BcV), t5 = .int .i64 j ∧ t7 = .int .i64 q ∧ 1 ≤ q ∧ k ≤ j ∧ j < k + q ∧ k + q ≤ n ∧ OwnBc wr lo (some ⟨g, 0, none⟩) n c l' ∧ w.grownBy wr (some g) ∧ (l'.take j = ddE (l.take (k + q)) ∧ ∀ p, k + q ≤ p + 1 → l'[p]? = l[p]?)) (fun _ t7 _ => n - (intOf t7).toNat)
          case atStart => exact ⟨k, 1, l, rfl, rfl, Nat.le_refl _, Nat.le_refl _, by omega, by omega, ⟨HO6.out, H.out.2⟩, HG6.out, HDD.out, fun _ _ => rfl⟩
          case round =>
            clear HO6 HG6 HDD
            obtain ⟨j, q, l1, rfl, rfl, hq1, hkj, hjq, hqn, hown, hg, hdl⟩ := hrel
            have HDL := Lib.hid hdl; clear hdl
            have HO := Lib.hid hown.1; have HK := Lib.hid hown.2; have HG := Lib.hid hg
            clear hown hg
            by_cases hltq : k + q < n
            · have hq2 : (q : Int) < ((n - k : Nat) : Int) := by omega
              obtain ⟨⟨psn1, dev1, st1, at1, un1, note1⟩, hx⟩ : ∃ b, l1[k + q]? = some b := ⟨_, List.getElem?_eq_getElem (by rw [HO.out.2]; omega)⟩
              obtain ⟨⟨psn2, dev2, st2, at2, un2, note2⟩, hy⟩ : ∃ b, l1[k + (q - 1)]? = some b := ⟨_, List.getElem?_eq_getElem (by rw [HO.out.2]; omega)⟩
              have HX := Lib.hid (show (l1.drop k)[q]? = some ⟨psn1, dev1, st1, at1, un1, note1⟩ by rw [List.getElem?_drop]; exact hx)
              have HY := Lib.hid (show (l1.drop k)[q - 1]? = some ⟨psn2, dev2, st2, at2, un2, note2⟩ by rw [List.getElem?_drop]; exact hy)
              have HMX := Lib.hid (mem_of_get hx)
              have HLX := Lib.hid (show l[k + q]? = some ⟨psn1, dev1, st1, at1, un1, note1⟩ by rw [← HDL.out.2 _ (by omega)]; exact hx)
              have HLY := Lib.hid (show l[k + q - 1]? = some ⟨psn2, dev2, st2, at2, un2, note2⟩ by rw [← HDL.out.2 _ (by omega), show k + q - 1 = k + (q - 1) by omega]; exact hy)
              clear hx hy
              have HRO := Lib.hid (HO.out.recs.dropK BcV.row_len (i := k) (by omega))
              have s2 : (0 : Int) ≤ (q : Int) - 1 := by omega
              have s5 : (1 : Int) ≤ (q : Int) := by omega
              have s3 : (q : Int) - 1 < ((n - k : Nat) : Int) := by omega
              have s1 : IntKind.i64.wrap ((q : Int) - 1) = (q : Int) - 1 := IntWalk.i64_in _ (by omega)
              have s4 : ((q : Int) - 1).toNat = q - 1 := by omega
              have s7 : (0 : Int) ≤ (q : Int) := by omega
              have u1 : IntKind.i64.wrap ((q : Int) + 1) = (q : Int) + 1 := IntWalk.i64_in _ (by omega)
              have u2 : IntKind.i64.wrap ((j : Int) + 1) = (j : Int) + 1 := IntWalk.i64_in _ (by omega)
              have hj2 : (j : Int) < (n : Int) := by omega
              go_wp2_with fail
              refine H_begin (fun w' => wr.grownBy w' none) (by kernel_rfl) ?_
              have hHeld : wr.grownBy wr.drew none := gr_drew (gr_refl _ _)
              refine H_take (k := 0) (v := ?_) (by rfl) (by kernel_rfl) (by kernel_rfl) (by kernel_rfl) (by exact fun _ _ _ h => h) (by rfl) ?_ (by assumption) ?_
              rotate_left 1
              · intro w hSw
                (try dsimp only at hSw)
                go_simp
                (try with_reducible rfl)
              (try simp only [Act.put, List.setIfInBounds_toArray, List.set_cons_zero, List.set_cons_succ])
              refine H_take (k := 1) (v := ?_) (by rfl) (by kernel_rfl) (by kernel_rfl) (by kernel_rfl) (by exact fun _ _ _ h => h) (by rfl) ?_ (by assumption) ?_
              rotate_left 1
              · intro w hSw
                (try dsimp only at hSw)
                go_simp
                (try with_reducible rfl)
              (try simp only [Act.put, List.setIfInBounds_toArray, List.set_cons_zero, List.set_cons_succ])
              refine H_take (k := 2) (v := ?_) (by rfl) (by kernel_rfl) (by kernel_rfl) (by kernel_rfl) (by exact fun _ _ _ h => h) (by rfl) ?_ (by assumption) ?_
              rotate_left 1
              · intro w hSw
                (try dsimp only at hSw)
                go_simp
                (try with_reducible rfl)
              (try simp only [Act.put, List.setIfInBounds_toArray, List.set_cons_zero, List.set_cons_succ])
              refine H_take (k := 3) (v := .agg #[.string psn1, .string dev1, .int .i64 st1, .int .i64 at1, .int .i64 un1, .string note1]) (by rfl) (by kernel_rfl) (by kernel_rfl) (by kernel_rfl) (by exact fun _ _ _ h => h) (by rfl) (fun w' hSw => exec_ldr Tryz.bcT _ rfl _ rfl [.string psn1, .string dev1, .int .i64 st1, .int .i64 at1, .int .i64 un1, .string note1] (fun j u hu => by rw [add_mk]; have hcc := ((HRO.out.grown hSw (fun g e => by cases e)).at_ BcV.row_len HX.out) j u hu; simp only [Nat.zero_add] at hcc; exact hcc) rfl) (by assumption) ?_
              (try simp only [Act.put, List.setIfInBounds_toArray, List.set_cons_zero, List.set_cons_succ])
              refine H_take (k := 4) (v := ?_) (by rfl) (by kernel_rfl) (by kernel_rfl) (by kernel_rfl) (by exact fun _ _ _ h => h) (by rfl) ?_ (by assumption) ?_
              rotate_left 1
              · intro w hSw
                (try dsimp only at hSw)
                go_simp
                (try with_reducible rfl)
              (try simp only [Act.put, List.setIfInBounds_toArray, List.set_cons_zero, List.set_cons_succ])
              refine H_take (k := 5) (v := ?_) (by rfl) (by kernel_rfl) (by kernel_rfl) (by kernel_rfl) (by exact fun _ _ _ h => h) (by rfl) ?_ (by assumption) ?_
              rotate_left 1
              · intro w hSw
                (try dsimp only at hSw)
                go_simp
                (try with_reducible rfl)
              (try simp only [Act.put, List.setIfInBounds_toArray, List.set_cons_zero, List.set_cons_succ])
              refine H_take (k := 6) (v := ?_) (by rfl) (by kernel_rfl) (by kernel_rfl) (by kernel_rfl) (by exact fun _ _ _ h => h) (by rfl) ?_ (by assumption) ?_
              rotate_left 1
              · intro w hSw
                (try dsimp only at hSw)
                go_simp
                (try with_reducible rfl)
              (try simp only [Act.put, List.setIfInBounds_toArray, List.set_cons_zero, List.set_cons_succ])
              refine H_take (k := 7) (v := ?_) (by rfl) (by kernel_rfl) (by kernel_rfl) (by kernel_rfl) (by exact fun _ _ _ h => h) (by rfl) ?_ (by assumption) ?_
              rotate_left 1
              · intro w hSw
                (try dsimp only at hSw)
                go_simp
                (try with_reducible rfl)
              (try simp only [Act.put, List.setIfInBounds_toArray, List.set_cons_zero, List.set_cons_succ])
              refine H_take (k := 8) (v := .agg #[.string psn2, .string dev2, .int .i64 st2, .int .i64 at2, .int .i64 un2, .string note2]) (by rfl) (by kernel_rfl) (by kernel_rfl) (by kernel_rfl) (by exact fun _ _ _ h => h) (by rfl) (fun w' hSw => exec_ldr Tryz.bcT _ rfl _ rfl [.string psn2, .string dev2, .int .i64 st2, .int .i64 at2, .int .i64 un2, .string note2] (fun j u hu => by rw [add_mk]; have hcc := ((HRO.out.grown hSw (fun g e => by cases e)).at_ BcV.row_len HY.out) j u hu; simp only [Nat.zero_add] at hcc; exact hcc) rfl) (by assumption) ?_
              (try simp only [Act.put, List.setIfInBounds_toArray, List.set_cons_zero, List.set_cons_succ])
              obtain ⟨ZB, hZB⟩ : ∃ ZB, (!decide ((⟨psn1, dev1, st1, at1, un1, note1⟩ : BcV) = ⟨psn2, dev2, st2, at2, un2, note2⟩)) = ZB := ⟨_, rfl⟩
              have HZB := Lib.hid hZB
              have HEQ := Lib.hid (fun w' => (bcEq_neq ⟨psn1, dev1, st1, at1, un1, note1⟩ ⟨psn2, dev2, st2, at2, un2, note2⟩ w').trans (by rw [hZB]))
              clear hZB
              refine H_take (k := 9) (v := .bool ZB) (by rfl) (by kernel_rfl) (by kernel_rfl) (by kernel_rfl) (by exact fun _ _ _ h => h) (by rfl) (fun w' _ => exec_eqs _ _ rfl _ _ rfl rfl bcEq_guard (HEQ.out w')) (by assumption) ?_
              (try simp only [Act.put, List.setIfInBounds_toArray, List.set_cons_zero, List.set_cons_succ])
              refine H_done (by kernel_rfl) ?_
              obtain ⟨w6, hw6⟩ : ∃ w6, wr.drew = w6 := ⟨_, rfl⟩
              have hgz : wr.grownBy w6 none := by rw [← hw6]; exact gr_drew (gr_refl _ _)
              rw [hw6]
              have HO6 := Lib.hid (HO.out.kept hgz (fun g e => by cases e))
              have HG6 := Lib.hid (gr_none HG.out hgz)
              clear hgz hHeld hw6 HEQ
              have HRO6 := Lib.hid (HO6.out.recs.dropK BcV.row_len (i := k) (by omega))
              have HC := Lib.hid (HRO6.out.at_ BcV.row_len HX.out)
              clear s1 s2 s3 s4 s5
              cases ZB
              rotate_left 1
              · go_wp2_with (first
                  | (refine wpl_load_at Tryz.bcT rfl _ rfl _ rfl [.string psn1, .string dev1, .int .i64 st1, .int .i64 at1, .int .i64 un1, .string note1] rfl (fun j u hu => by rw [add_mk]; have hcc := HC.out j u hu; (try simp only [Nat.zero_add] at hcc); exact hcc) ?_)
                  | (refine wpl_store_rec (row := BcV.row) rfl Tryz.bcT BcV.row_len (by decide) _ _ rfl j _ rfl rfl ⟨psn1, dev1, st1, at1, un1, note1⟩ rfl HO6.out (by omega) (BcV.one _) ?_
                     intro w8 hown8 hg8
                     have HO8 := Lib.hid hown8
                     have HG8 := Lib.hid (gr_same HG6.out hg8)
                     clear hown8 hg8)
                  | fail)
                go_roundw
                case rel => exact ⟨j + 1, q + 1, _, by go_num, by go_num, by omega, by omega, by omega, by omega, ⟨HO8.out, fun r hr => by
                  rcases List.mem_or_eq_of_mem_set hr with h | rfl
                  · exact HK.out r h
                  · exact HK.out _ HMX.out⟩, HG8.out, by
                  rw [take_set_snoc (by rw [HO6.out.2]; omega), HDL.out.1, show k + (q + 1) = k + q + 1 by omega, ddE_take (by omega) HLX.out HLY.out, if_neg (fun e => by have h := HZB.out; rw [decide_eq_true e.symm] at h; cases h)], fun p hp => by
                  rw [List.getElem?_set_ne (by omega)]
                  exact HDL.out.2 p (by omega)⟩
                case measure => simp [intOf]; omega
              · go_wp2_with fail
                go_roundw
                case rel => exact ⟨j, q + 1, l1, rfl, by go_num, by omega, by omega, by omega, by omega, ⟨HO6.out, HK.out⟩, HG6.out, by
                  rw [HDL.out.1, show k + (q + 1) = k + q + 1 by omega, ddE_take (by omega) HLX.out HLY.out, if_pos (by have h := HZB.out; rw [Bool.not_eq_false'] at h; exact (of_decide_eq_true h).symm)], fun p hp => HDL.out.2 p (by omega)⟩
                case measure => simp [intOf]; omega
            · obtain rfl : q = n - k := by omega
              have hi2 : (j : Int) < (n : Int) := by omega
              have hi3 : (j : Int) ≤ (n : Int) := by omega
              have hcj : ¬ c = j := by omega
              obtain ⟨w9, hclr, ho9, hg9⟩ := run_clear_rows (P := Tryz.prog) Tryz.underlying57 Tryz.zeroValue62 rfl (by decide) (by intro v hv; simp [Value.cells] at hv; rcases hv with rfl | rfl | rfl | rfl | rfl | rfl <;> rfl) HO.out.1 j (j * 6) rfl (show j < n by omega) (n - j) (c - j) rfl
              have HO9 := Lib.hid (show OwnR BcV.row 6 w9 lo 62 (some ⟨g, 0, none⟩) j c (l1.take j) from ⟨by rw [← flat_take2 BcV.row_len]; exact ho9, by rw [List.length_take, HO.out.2]; omega⟩)
              have HG9 := Lib.hid (gr_same HG.out hg9)
              clear ho9 hg9
              go_wp2_with fail
              go_ret
              have hfin : l1.take j = ddE l := by
                rw [HDL.out.1, List.take_of_length_le (by rw [H.out.1.2]; omega)]
              exact ⟨j, rfl, by rw [← hfin]; exact ⟨HO9.out, fun r hr => HK.out r (List.mem_of_mem_take hr)⟩, HG9.out, by omega⟩
      · obtain rfl : k = n := by omega
        go_wp2_with fail
        go_ret
        have hfin : ddE l = l := by
          have h := HNE.out.dd (by rw [H.out.1.2]; exact Nat.le_refl _)
          rwa [List.take_of_length_le (by rw [H.out.1.2]; exact Nat.le_refl _)] at h
        exact ⟨k, rfl, by rw [hfin]; exact ⟨HO.out, H.out.2⟩, HG.out, Nat.le_refl _⟩
end
end Go.Proofs.YtgogiljplnninaaGreatDoor
/- Contracts of slices.Clone, Grow (of nil), Concat (of two) at beacons. Conditions: lengths of at most a million. -/
namespace Go.Proofs.YtgogiljplnninaaGreatDoor
section
open Go.RowKit

theorem BcV.one1 (z : BcV) : ∀ u ∈ z.row, u.oneCell' = true := fun u hu => by
  unfold BcV.row at hu
  simp only [List.mem_cons, List.not_mem_nil, or_false] at hu
  rcases hu with rfl | rfl | rfl | rfl | rfl | rfl <;> rfl
theorem BcV.ones {l : List BcV} : ∀ u ∈ l.flatMap BcV.row, u.oneCell' = true := fun u hu => by
  obtain ⟨r, _, hr⟩ := List.mem_flatMap.1 hu
  exact BcV.one1 r u hr
set_option maxHeartbeats 2000000 in
set_option maxRecDepth 100000 in
theorem cloneBc_any (lo : Nat) (A : Option Addr) (n c : Nat) (l : List BcV) (w : World) (h : Recs BcV.row 6 w lo A n c l) (hn : n ≤ 1000000) :
    Calls Tryz.prog 32 #[.slice A n c] w (fun e w' => ∃ A' c', e = .returned (.slice A' n c') ∧ OwnR BcV.row 6 w' w.heap.size 62 A' n c' l ∧ w.grownBy w' none) := by
  have hl := h.len
  have qT : ∀ (w : World) (a : Option Addr) (n c n' c' : Nat), (binOp .eql 57 (.slice a n c) (.slice none n' c')).run Tryz.prog w = .ok (.bool a.isNone) w := fun w a n c n' c' => Lib.run_eql_slice_nil w _ _ a n c n' c' Tryz.underlying57
  have H := Lib.hid h
  have HL := Lib.hid hl
  clear h hl
  cases A with
  | none =>
    rcases Nat.eq_zero_or_pos n with rfl | h0
    rotate_left 1
    · exfalso
      obtain ⟨g, o, e, _⟩ := H.out.1.2.2 h0
      cases e
    · obtain rfl : l = [] := List.eq_nil_of_length_eq_zero HL.out
      go_enter Tryz.func32, Tryz.ntmps32
      go_wp2_with fail
      go_ret
      exact ⟨none, _, rfl, OwnR.nil _ _ _, gr_refl _ _⟩
  | some a =>
    go_enter Tryz.func32, Tryz.ntmps32
    go_wp2_with (first
      | (at_builtin
         refine wpl_app _ rfl _ _ Tryz.bcsT rfl w.heap.size (some ⟨w.heap.size, 0, none⟩) 0 0 [] rfl (by exact Own.lit w 62 6 [] 0 (by unfold maxLen; omega) rfl) lo (some a) n c (l.flatMap BcV.row) rfl (by exact (H.out.grown (gr_alloc (gr_refl _ none) _) (fun g e => by cases e)).1) BcV.ones (by unfold maxLen; omega) (by omega) (by simp) ?_
         intro A5 c5 w5 h5
         have H5 := Lib.hid h5; clear h5)
      | fail)
    go_ret
    exact ⟨A5, c5, by simp, ⟨by simpa using H5.out.1, HL.out⟩, gr_trans (gr_alloc (gr_refl _ none) _) H5.out.2.1 (fun g e => .inr (by simp [blkOf] at e; omega))⟩
set_option maxHeartbeats 2000000 in
theorem growBc_any (n : Nat) (w : World) (hn : n ≤ 1000000) :
    Calls Tryz.prog 158 #[.slice none 0 0, .int .i64 n] w (fun e w' => ∃ A' c', e = .returned (.slice A' 0 c') ∧ OwnR BcV.row 6 w' w.heap.size 62 A' 0 c' [] ∧ w.grownBy w' none) := by
  by_cases h0 : 0 < n
  · have d1 : decide ((0 : Int) < (n : Int)) = true := decide_eq_true (by omega)
    have d2 : decide ((n : Int) < 0) = false := decide_eq_false (by omega)
    have u1 : IntKind.i64.wrap (n : Int) = n := IntWalk.i64_in _ (by omega)
    go_enter Tryz.func158, Tryz.ntmps158
    go_wp2_with (first
      | (refine wpl_app_nilK Tryz.bcsT Tryz.underlying3 rfl _ _ rfl rfl n rfl h0 (by unfold maxLen; omega) (by omega) ?_
         intro c1 w1 hown hc1 hc2 hg1
         have HO := Lib.hid hown; have HG := Lib.hid hg1; clear hown hg1)
      | fail)
    go_ret
    exact ⟨_, c1, rfl, ⟨HO.out, rfl⟩, HG.out⟩
  · obtain rfl : n = 0 := by omega
    go_enter Tryz.func158, Tryz.ntmps158
    go_wp2_with fail
    go_ret
    exact ⟨none, 0, rfl, OwnR.nil _ _ _, gr_refl _ _⟩
/-- How far the two lists have been counted. -/
def BcCI (n n' : Nat) (s i : Value) : Prop := (i = .int .i64 0 ∧ s = .int .i64 0) ∨ (i = .int .i64 1 ∧ s = .int .i64 n) ∨ (i = .int .i64 2 ∧ s = .int .i64 ((n + n' : Nat) : Int))
/-- How far they have been laid. -/
def BcCJ (w : World) (n n' : Nat) (l l' : List BcV) (v i : Value) (wr : World) : Prop := w.grownBy wr none ∧ ∃ B cc,
  (i = .int .i64 0 ∧ v = .slice B 0 cc ∧ OwnR BcV.row 6 wr w.heap.size 62 B 0 cc []) ∨ (i = .int .i64 1 ∧ v = .slice B n cc ∧ OwnR BcV.row 6 wr w.heap.size 62 B n cc l) ∨ (i = .int .i64 2 ∧ v = .slice B (n + n') cc ∧ OwnR BcV.row 6 wr w.heap.size 62 B (n + n') cc (l ++ l'))
set_option maxHeartbeats 4000000 in
set_option maxRecDepth 100000 in
theorem concatBc_any (lo lo' : Nat) (A A' : Option Addr) (n c n' c' : Nat) (l l' : List BcV) (w : World) (g : Nat) (hg : Blk w g 57 #[.slice A n c, .slice A' n' c']) (h : Recs BcV.row 6 w lo A n c l) (h' : Recs BcV.row 6 w lo' A' n' c' l') (hn : n ≤ 100000) (hn' : n' ≤ 100000) :
    Calls Tryz.prog 111 #[.slice (some ⟨g, 0, none⟩) 2 2] w (fun e w' => ∃ A1 c1, e = .returned (.slice A1 (n + n') c1) ∧ OwnR BcV.row 6 w' w.heap.size 62 A1 (n + n') c1 (l ++ l') ∧ w.grownBy w' none) := by
  have HB := Lib.hid hg; have H := Lib.hid h; have H' := Lib.hid h'
  have k0 := hg.cell 0; have k1 := hg.cell 1
  have hlt := hg.lt
  clear hg h h'
  have d0 : decide ((n : Int) < 0) = false := decide_eq_false (by omega)
  have u0 : IntKind.i64.wrap (n : Int) = n := IntWalk.i64_in _ (by omega)
  have u1 : IntKind.i64.wrap ((n : Int) + n') = n + n' := IntWalk.i64_in _ (by omega)
  have d1 : decide ((n : Int) + n' < 0) = false := decide_eq_false (by omega)
  go_enter Tryz.func111, Tryz.ntmps111
  go_wp2_with fail
  go_loop [3, 5, 11] (fun s _ i => BcCI n n' s i) (fun _ _ i => 2 - (intOf i).toNat)
  case atStart => exact .inl ⟨rfl, rfl⟩
  case round =>
    rcases hrel with ⟨rfl, rfl⟩ | ⟨rfl, rfl⟩ | ⟨rfl, rfl⟩
    · go_wp2_with fail
      go_round
      case rel => exact .inr (.inl ⟨rfl, rfl⟩)
      case measure => simp [intOf]
    · go_wp2_with fail
      go_round
      case rel => exact .inr (.inr ⟨rfl, by go_num⟩)
      case measure => simp [intOf]
    · clear d0 u0 u1 d1
      go_wp2_with fail
      refine (growBc_any (n + n') _ (by omega)).mono ?_
      rintro e w1 ⟨A1, c1, rfl, hown, hg1⟩
      have HO := Lib.hid hown; have HG := Lib.hid hg1; clear hown hg1
      clear k0 k1
      go_wp2_with fail
      go_loopw [6, 8, 27] (fun v _ i wr => BcCJ w n n' l l' v i wr) (fun _ _ i _ => 2 - (intOf i).toNat)
      case atStart => exact ⟨HG.out, A1, c1, .inl ⟨rfl, rfl, HO.out⟩⟩
      case round =>
        clear HO HG
        obtain ⟨hg, B, cc, hrel⟩ := hrel
        have HG := Lib.hid hg; clear hg
        have k0 := (HB.out.grown HG.out (by simp)).cell 0; have k1 := (HB.out.grown HG.out (by simp)).cell 1
        rcases hrel with ⟨rfl, rfl, hown⟩ | ⟨rfl, rfl, hown⟩ | ⟨rfl, rfl, hown⟩
        · have HO := Lib.hid hown; clear hown
          go_wp2_with (first
            | (at_builtin
               refine wpl_app _ rfl _ _ Tryz.bcsT rfl w.heap.size B 0 cc _ rfl (by exact HO.out.1) lo A n c _ rfl (by exact (H.out.grown HG.out (fun g e => by cases e)).1) BcV.ones (by unfold maxLen; omega) (by omega) (by have := HG.out.size; omega) ?_
               intro A5 c5 w5 h5
               have H5 := Lib.hid h5; clear h5)
            | fail)

          go_roundw
          case rel => exact ⟨gr_own HG.out HO.out.1 (Nat.le_refl _) H5.out.2.1, A5, c5, .inr (.inl ⟨rfl, by simp, by have := H5.out.1; simp only [Nat.zero_add, List.flatMap_nil, List.nil_append] at this; exact this, H.out.len⟩)⟩
          case measure => simp [intOf]
        · have HO := Lib.hid hown; clear hown
          go_wp2_with (first
            | (at_builtin
               refine wpl_app _ rfl _ _ Tryz.bcsT rfl w.heap.size B n cc _ rfl (by exact HO.out.1) lo' A' n' c' _ rfl (by exact (H'.out.grown HG.out (fun g e => by cases e)).1) BcV.ones (by unfold maxLen; omega) (by omega) (by have := HG.out.size; omega) ?_
               intro A5 c5 w5 h5
               have H5 := Lib.hid h5; clear h5)
            | fail)

          go_roundw
          case rel => exact ⟨gr_own HG.out HO.out.1 (Nat.le_refl _) H5.out.2.1, A5, c5, .inr (.inr ⟨rfl, rfl, by rw [List.flatMap_append]; exact H5.out.1, by rw [List.length_append, H.out.len, H'.out.len]⟩)⟩
          case measure => simp [intOf]
        · have HO := Lib.hid hown; clear hown
          go_wp2_with fail
          go_ret
          exact ⟨B, cc, rfl, HO.out, HG.out⟩
end
end Go.Proofs.YtgogiljplnninaaGreatDoor
/- Contract of the document's BeaconsOf. Conditions: at most 19 beacons in both lists, each BcOk. -/
namespace Go.Proofs.YtgogiljplnninaaGreatDoor
section
open Go.RowKit

/-- What the document gives of right lists: sorted beacons, once, or an error. -/
theorem Recs.at3_ {α : Type} {row : α → List Value} {k : Nat} {w : World} {lo n c g : Nat} {l : List α} (h : Recs row k w lo (some ⟨g, 0, none⟩) n c l) (hrow : ∀ a, (row a).length = k) {i : Nat} {a : α} (hi : l[i]? = some a) (j : Nat) (u : Value) (hu : (row a)[j]? = some u) : w.cell? ⟨g, i * k + j, none⟩ = some u := by
  have := h.at_ hrow hi j u hu
  rwa [Nat.zero_add] at this
def BoR (a b : List BcV) (w : World) (e : Ending) (w' : World) : Prop := ∃ A n c s, s.Perm (a ++ b) ∧ Asc bcCmp s ∧ w.grownBy w' none ∧
  ((bkAdj (ddE s) ∧ e = .returned (.tuple #[.slice none 0 0, .int .i64 13])) ∨ (¬ bkAdj (ddE s) ∧ e = .returned (.tuple #[.slice A n c, .int .i64 0]) ∧ Recs BcV.row 6 w' w.heap.size A n c (ddE s) ∧ n ≤ 19))
set_option maxHeartbeats 16000000 in
set_option maxRecDepth 100000 in
theorem beaconsOf_any (lo lo' : Nat) (A A' : Option Addr) (n c n' c' : Nat) (l l' : List BcV) (w : World) (h : Bcs w lo A n c l) (h' : Bcs w lo' A' n' c' l') (hn : n + n' ≤ 19) :
    Calls Tryz.prog 40 #[.slice A n c, .slice A' n' c'] w (BoR l l' w) := by
  have H := Lib.hid h; have H' := Lib.hid h'; clear h h'
  obtain ⟨W1, hW1⟩ : ∃ v, w.alloc (.cells #[.slice A n c, .slice A' n' c'] 57) = v := ⟨_, rfl⟩
  have HB1 := Lib.hid (show Blk W1 w.heap.size 57 #[.slice A n c, .slice A' n' c'] by rw [← hW1]; exact Blk.new _ _ _)
  have HG := Lib.hid (show w.grownBy W1 none by rw [← hW1]; exact gr_alloc (gr_refl _ _) _)
  have HW1 := Lib.hid hW1
  clear hW1
  go_enter Tryz.func40, Tryz.ntmps40
  go_wp2_with (first
    | (go_at_call 111
       first
       | rw [HW1.out]
       | fail
       refine (concatBc_any lo lo' A A' n c n' c' l l' W1 w.heap.size HB1.out (H.out.1.grown HG.out (fun g e => by cases e)) (H'.out.1.grown HG.out (fun g e => by cases e)) (by omega) (by omega)).mono ?_
       rintro e w2 ⟨O, oc, rfl, hown, hg2⟩)
    | fail)
  have HO := Lib.hid (show OwnBc w2 w.heap.size O (n + n') oc (l ++ l') from ⟨hown.lower HG.out.size, fun r hr => (List.mem_append.1 hr).elim (H.out.2 r) (H'.out.2 r)⟩)
  replace HG := Lib.hid (gr_none HG.out hg2)
  clear hown hg2 HB1
  refine (sortStableK_any w.heap.size O (n + n') oc (l ++ l') _ HO.out hn).mono ?_
  rintro e w3 ⟨rfl, s, hown, hg3, hps⟩
  replace HG := Lib.hid (gr_own HG.out HO.out.1.1 (Nat.le_refl _) hg3)
  replace HO := Lib.hid hown
  have HPS := Lib.hid hps
  clear hown hg3 hps
  go_wp2_with fail
  refine (compactK_any w.heap.size O (n + n') oc s _ HO.out (by omega)).mono ?_
  rintro e w4 ⟨m, rfl, hown, hg4, hmn⟩
  replace HG := Lib.hid (gr_own HG.out HO.out.1.1 (Nat.le_refl _) hg4)
  replace HO := Lib.hid hown
  clear hown hg4
  obtain ⟨d, hd⟩ : ∃ d, ddE s = d := ⟨_, rfl⟩
  have HD := Lib.hid hd
  rw [hd] at HO
  clear hd
  go_wp2_with fail
  go_loopw [7, 18] (fun _ t wr => ∃ j : Nat, j ≤ m ∧ t = .int .i64 j ∧ w4.grownBy wr none ∧ (∀ (p : Nat) (x y : BcV), p + 1 < j → d[p]? = some x → d[p + 1]? = some y → bcCmp x y ≠ 0)) (fun _ t _ => m - (intOf t).toNat)
  case atStart => exact ⟨0, Nat.zero_le _, rfl, gr_refl _ _, fun p x y h => by omega⟩
  case round =>
    obtain ⟨j, hj, rfl, hg, hna⟩ := hrel
    have HGr := Lib.hid hg; have HNA := Lib.hid hna; clear hg hna
    by_cases hlt : j < m
    · obtain ⟨g, rfl, _, _⟩ := HO.out.1.1.pos (by omega)
      by_cases h0 : 0 < j
      · obtain ⟨q, rfl⟩ : ∃ q, j = q + 1 := ⟨j - 1, by omega⟩
        obtain ⟨y, hy⟩ : ∃ b, d[q + 1]? = some b := ⟨_, List.getElem?_eq_getElem (by rw [HO.out.1.2]; omega)⟩
        obtain ⟨x, hx⟩ : ∃ b, d[q]? = some b := ⟨_, List.getElem?_eq_getElem (by rw [HO.out.1.2]; omega)⟩
        have HX := Lib.hid hx; have HY := Lib.hid hy
        have HMX := Lib.hid (HO.out.2 x (mem_of_get hx)); have HMY := Lib.hid (HO.out.2 y (mem_of_get hy)); clear hx hy
        have hi0 : decide ((0 : Int) < ((q + 1 : Nat) : Int)) = true := decide_eq_true (by omega)
        have hi1 : decide ((0 : Int) < (q : Int) + 1) = true := decide_eq_true (by omega)
        have q1 : IntKind.i64.wrap (q : Int) = (q : Int) := IntWalk.i64_in _ (by omega)
        have q2 : (0 : Int) ≤ (q : Int) + 1 := by omega
        have q3 : (q : Int) + 1 < (m : Int) := by omega
        have q4 : ((q : Int) + 1).toNat = q + 1 := by omega
        have q5 : (0 : Int) ≤ (q : Int) := by omega
        have q6 : (q : Int) < (m : Int) := by omega
        have hHeld : wr.grownBy wr.drew none := gr_drew (gr_refl _ _)
        go_upto_region 7 with (fail)
        refine H_begin (fun w' => wr.grownBy w' none) (by kernel_rfl) ?_
        refine H_take (k := 0) (v := ?_) (by rfl) (by kernel_rfl) (by kernel_rfl) (by kernel_rfl) (by exact fun _ _ _ h => h) (by rfl) ?_ (by assumption) ?_
        rotate_left 1
        · intro w hSw
          (try dsimp only at hSw)
          go_simp
          (try with_reducible rfl)
        (try simp only [Act.put, List.setIfInBounds_toArray, List.set_cons_zero, List.set_cons_succ])
        refine H_take (k := 1) (v := ?_) (by rfl) (by kernel_rfl) (by kernel_rfl) (by kernel_rfl) (by exact fun _ _ _ h => h) (by rfl) ?_ (by assumption) ?_
        rotate_left 1
        · intro w hSw
          (try dsimp only at hSw)
          go_simp
          (try with_reducible rfl)
        (try simp only [Act.put, List.setIfInBounds_toArray, List.set_cons_zero, List.set_cons_succ])
        refine H_take (k := 2) (v := ?_) (by rfl) (by kernel_rfl) (by kernel_rfl) (by kernel_rfl) (by exact fun _ _ _ h => h) (by rfl) ?_ (by assumption) ?_
        rotate_left 1
        · intro w hSw
          (try dsimp only at hSw)
          go_simp
          (try with_reducible rfl)
        (try simp only [Act.put, List.setIfInBounds_toArray, List.set_cons_zero, List.set_cons_succ])
        refine H_take (k := 3) (v := ?_) (by rfl) (by kernel_rfl) (by kernel_rfl) (by kernel_rfl) (by exact fun _ _ _ h => h) (by rfl) ?_ (by assumption) ?_
        rotate_left 1
        · intro w hSw
          (try dsimp only at hSw)
          go_simp
          (try with_reducible rfl)
        (try simp only [Act.put, List.setIfInBounds_toArray, List.set_cons_zero, List.set_cons_succ])
        refine H_take (k := 4) (v := ?_) (by rfl) (by kernel_rfl) (by kernel_rfl) (by kernel_rfl) (by exact fun _ _ _ h => h) (by rfl) ?_ (by assumption) ?_
        rotate_left 1
        · intro w hSw
          (try dsimp only at hSw)
          go_simp
          (try with_reducible rfl)
        (try simp only [Act.put, List.setIfInBounds_toArray, List.set_cons_zero, List.set_cons_succ])
        refine H_take (k := 5) (v := ?_) (by rfl) (by kernel_rfl) (by kernel_rfl) (by kernel_rfl) (by exact fun _ _ _ h => h) (by rfl) ?_ (by assumption) ?_
        rotate_left 1
        · intro w hSw
          (try dsimp only at hSw)
          go_simp
          (try with_reducible rfl)
        (try simp only [Act.put, List.setIfInBounds_toArray, List.set_cons_zero, List.set_cons_succ])
        refine H_take (k := 6) (v := ?_) (by rfl) (by kernel_rfl) (by kernel_rfl) (by kernel_rfl) (by exact fun _ _ _ h => h) (by rfl) ?_ (by assumption) ?_
        rotate_left 1
        · intro w hSw
          (try dsimp only at hSw)
          go_simp
          (try with_reducible rfl)
        (try simp only [Act.put, List.setIfInBounds_toArray, List.set_cons_zero, List.set_cons_succ])
        refine H_take (k := 7) (v := .agg #[.string x.psn, .string x.dev, .int .i64 x.st, .int .i64 x.at_, .int .i64 x.un, .string x.note]) (by rfl) (by kernel_rfl) (by kernel_rfl) (by kernel_rfl) (by exact fun _ _ _ h => h) (by rfl) (fun w' hSw => exec_ldr Tryz.bcT _ rfl _ rfl [.string x.psn, .string x.dev, .int .i64 x.st, .int .i64 x.at_, .int .i64 x.un, .string x.note] (fun j u hu => by rw [add_mk]; exact ((HO.out.1.recs.grown (gr_none HGr.out hSw) (fun g e => by cases e)).at3_ BcV.row_len HX.out) j u hu) rfl) (by assumption) ?_
        (try simp only [Act.put, List.setIfInBounds_toArray, List.set_cons_zero, List.set_cons_succ])
        refine H_take (k := 8) (v := ?_) (by rfl) (by kernel_rfl) (by kernel_rfl) (by kernel_rfl) (by exact fun _ _ _ h => h) (by rfl) ?_ (by assumption) ?_
        rotate_left 1
        · intro w hSw
          (try dsimp only at hSw)
          go_simp
          (try with_reducible rfl)
        (try simp only [Act.put, List.setIfInBounds_toArray, List.set_cons_zero, List.set_cons_succ])
        refine H_take (k := 9) (v := ?_) (by rfl) (by kernel_rfl) (by kernel_rfl) (by kernel_rfl) (by exact fun _ _ _ h => h) (by rfl) ?_ (by assumption) ?_
        rotate_left 1
        · intro w hSw
          (try dsimp only at hSw)
          go_simp
          (try with_reducible rfl)
        (try simp only [Act.put, List.setIfInBounds_toArray, List.set_cons_zero, List.set_cons_succ])
        refine H_take (k := 10) (v := ?_) (by rfl) (by kernel_rfl) (by kernel_rfl) (by kernel_rfl) (by exact fun _ _ _ h => h) (by rfl) ?_ (by assumption) ?_
        rotate_left 1
        · intro w hSw
          (try dsimp only at hSw)
          go_simp
          (try with_reducible rfl)
        (try simp only [Act.put, List.setIfInBounds_toArray, List.set_cons_zero, List.set_cons_succ])
        refine H_take (k := 11) (v := .agg #[.string y.psn, .string y.dev, .int .i64 y.st, .int .i64 y.at_, .int .i64 y.un, .string y.note]) (by rfl) (by kernel_rfl) (by kernel_rfl) (by kernel_rfl) (by exact fun _ _ _ h => h) (by rfl) (fun w' hSw => exec_ldr Tryz.bcT _ rfl _ rfl [.string y.psn, .string y.dev, .int .i64 y.st, .int .i64 y.at_, .int .i64 y.un, .string y.note] (fun j u hu => by rw [add_mk]; exact ((HO.out.1.recs.grown (gr_none HGr.out hSw) (fun g e => by cases e)).at3_ BcV.row_len HY.out) j u hu) rfl) (by assumption) ?_
        (try simp only [Act.put, List.setIfInBounds_toArray, List.set_cons_zero, List.set_cons_succ])
        refine H_run (k := 12) (by rfl) (by kernel_rfl) (by rfl) (fun K hK => ?_)
        go_simp
        refine (beaconOrder_any x y _ HMX.out HMY.out).mono ?_
        rintro e w6 ⟨rfl, hg6⟩
        obtain ⟨Z, hZ⟩ : ∃ Z, bcCmp x y = Z := ⟨_, rfl⟩
        rw [hZ]
        have HZ := Lib.hid hZ
        clear hZ
        go_simp
        have hgz := gr_none hHeld hg6
        refine hK _ _ hgz ?_
        clear hK K hHeld hg6
        have hHeld := hgz
        (try simp only [Act.put, List.setIfInBounds_toArray, List.set_cons_zero, List.set_cons_succ])
        obtain ⟨ZB, hZB⟩ : ∃ ZB, (Z == 0) = ZB := ⟨_, rfl⟩
        refine H_take (k := 13) (v := ?_) (by rfl) (by kernel_rfl) (by kernel_rfl) (by kernel_rfl) (by exact fun _ _ _ h => h) (by rfl) ?_ (by assumption) ?_
        rotate_left 1
        · intro w hSw
          (try dsimp only at hSw)
          go_simp
          (try with_reducible rfl)
        (try simp only [Act.put, List.setIfInBounds_toArray, List.set_cons_zero, List.set_cons_succ])
        refine H_take (k := 14) (v := ?_) (by rfl) (by kernel_rfl) (by kernel_rfl) (by kernel_rfl) (by exact fun _ _ _ h => h) (by rfl) ?_ (by assumption) ?_
        rotate_left 1
        · intro w hSw
          (try dsimp only at hSw)
          go_simp
          (try with_reducible rfl)
        (try simp only [Act.put, List.setIfInBounds_toArray, List.set_cons_zero, List.set_cons_succ])
        refine H_done (by kernel_rfl) ?_
        (try rw [hZB])
        have HZB := Lib.hid hZB
        have HGz := Lib.hid (gr_none HGr.out hgz)
        clear hHeld hgz hZB hi0 hi1 q1 q2 q3 q4 q5 q6
        cases ZB
        · go_wp2_with fail
          go_roundw
          case rel => exact ⟨q + 1 + 1, by omega, by go_num, HGz.out, fun p u v hp hu hv => by
            by_cases e : p = q
            · subst e
              rw [HX.out] at hu; rw [HY.out] at hv
              obtain rfl := Option.some.inj hu
              obtain rfl := Option.some.inj hv
              rw [HZ.out]
              exact beq_eq_false_iff_ne.1 HZB.out
            · exact HNA.out p u v (by omega) hu hv⟩
          case measure => simp [intOf]; omega
        · have HADJ := Lib.hid (show bkAdj (ddE s) by rw [HD.out]; exact ⟨q, x, y, HX.out, HY.out, by rw [HZ.out]; exact eq_of_beq HZB.out⟩)
          go_wp2_with fail
          go_ret2
          exact ⟨none, 0, 0, s, HPS.out.1, HPS.out.2, gr_none HG.out HGz.out, .inl ⟨HADJ.out, rfl⟩⟩
      · obtain rfl : j = 0 := by omega
        have hi0 : decide ((0 : Int) < ((0 : Nat) : Int)) = false := by decide
        have hHeld : wr.grownBy wr.drew none := gr_drew (gr_refl _ _)
        go_upto_region 7 with (fail)
        refine H_begin (fun w' => wr.grownBy w' none) (by kernel_rfl) ?_
        refine H_take (k := 0) (v := ?_) (by rfl) (by kernel_rfl) (by kernel_rfl) (by kernel_rfl) (by exact fun _ _ _ h => h) (by rfl) ?_ (by assumption) ?_
        rotate_left 1
        · intro w hSw
          (try dsimp only at hSw)
          go_simp
          (try with_reducible rfl)
        (try simp only [Act.put, List.setIfInBounds_toArray, List.set_cons_zero, List.set_cons_succ])
        refine H_take (k := 1) (v := ?_) (by rfl) (by kernel_rfl) (by kernel_rfl) (by kernel_rfl) (by exact fun _ _ _ h => h) (by rfl) ?_ (by assumption) ?_
        rotate_left 1
        · intro w hSw
          (try dsimp only at hSw)
          go_simp
          (try with_reducible rfl)
        (try simp only [Act.put, List.setIfInBounds_toArray, List.set_cons_zero, List.set_cons_succ])
        refine H_take (k := 2) (v := ?_) (by rfl) (by kernel_rfl) (by kernel_rfl) (by kernel_rfl) (by exact fun _ _ _ h => h) (by rfl) ?_ (by assumption) ?_
        rotate_left 1
        · intro w hSw
          (try dsimp only at hSw)
          go_simp
          (try with_reducible rfl)
        (try simp only [Act.put, List.setIfInBounds_toArray, List.set_cons_zero, List.set_cons_succ])
        refine H_skip (k := 3) (by rfl) (by kernel_rfl) (by kernel_rfl) (by kernel_rfl) (by exact fun _ _ _ h => h) (by rfl) (by assumption) ?_
        (try simp only [Act.put, List.setIfInBounds_toArray, List.set_cons_zero, List.set_cons_succ])
        refine H_skip (k := 4) (by rfl) (by kernel_rfl) (by kernel_rfl) (by kernel_rfl) (by exact fun _ _ _ h => h) (by rfl) (by assumption) ?_
        (try simp only [Act.put, List.setIfInBounds_toArray, List.set_cons_zero, List.set_cons_succ])
        refine H_skip (k := 5) (by rfl) (by kernel_rfl) (by kernel_rfl) (by kernel_rfl) (by exact fun _ _ _ h => h) (by rfl) (by assumption) ?_
        (try simp only [Act.put, List.setIfInBounds_toArray, List.set_cons_zero, List.set_cons_succ])
        refine H_skip (k := 6) (by rfl) (by kernel_rfl) (by kernel_rfl) (by kernel_rfl) (by exact fun _ _ _ h => h) (by rfl) (by assumption) ?_
        (try simp only [Act.put, List.setIfInBounds_toArray, List.set_cons_zero, List.set_cons_succ])
        refine H_skip (k := 7) (by rfl) (by kernel_rfl) (by kernel_rfl) (by kernel_rfl) (by exact fun _ _ _ h => h) (by rfl) (by assumption) ?_
        (try simp only [Act.put, List.setIfInBounds_toArray, List.set_cons_zero, List.set_cons_succ])
        refine H_skip (k := 8) (by rfl) (by kernel_rfl) (by kernel_rfl) (by kernel_rfl) (by exact fun _ _ _ h => h) (by rfl) (by assumption) ?_
        (try simp only [Act.put, List.setIfInBounds_toArray, List.set_cons_zero, List.set_cons_succ])
        refine H_skip (k := 9) (by rfl) (by kernel_rfl) (by kernel_rfl) (by kernel_rfl) (by exact fun _ _ _ h => h) (by rfl) (by assumption) ?_
        (try simp only [Act.put, List.setIfInBounds_toArray, List.set_cons_zero, List.set_cons_succ])
        refine H_skip (k := 10) (by rfl) (by kernel_rfl) (by kernel_rfl) (by kernel_rfl) (by exact fun _ _ _ h => h) (by rfl) (by assumption) ?_
        (try simp only [Act.put, List.setIfInBounds_toArray, List.set_cons_zero, List.set_cons_succ])
        refine H_skip (k := 11) (by rfl) (by kernel_rfl) (by kernel_rfl) (by kernel_rfl) (by exact fun _ _ _ h => h) (by rfl) (by assumption) ?_
        (try simp only [Act.put, List.setIfInBounds_toArray, List.set_cons_zero, List.set_cons_succ])
        refine H_skip (k := 12) (by rfl) (by kernel_rfl) (by kernel_rfl) (by kernel_rfl) (by exact fun _ _ _ h => h) (by rfl) (by assumption) ?_
        (try simp only [Act.put, List.setIfInBounds_toArray, List.set_cons_zero, List.set_cons_succ])
        refine H_skip (k := 13) (by rfl) (by kernel_rfl) (by kernel_rfl) (by kernel_rfl) (by exact fun _ _ _ h => h) (by rfl) (by assumption) ?_
        (try simp only [Act.put, List.setIfInBounds_toArray, List.set_cons_zero, List.set_cons_succ])
        refine H_take (k := 14) (v := ?_) (by rfl) (by kernel_rfl) (by kernel_rfl) (by kernel_rfl) (by exact fun _ _ _ h => h) (by rfl) ?_ (by assumption) ?_
        rotate_left 1
        · intro w hSw
          (try dsimp only at hSw)
          go_simp
          (try with_reducible rfl)
        (try simp only [Act.put, List.setIfInBounds_toArray, List.set_cons_zero, List.set_cons_succ])
        refine H_done (by kernel_rfl) ?_
        clear hi0 hHeld
        go_wp2_with fail
        go_roundw
        case rel => exact ⟨0 + 1, by omega, by go_num, gr_drew HGr.out, fun p u v hp => by omega⟩
        case measure => simp [intOf]; omega
    · obtain rfl : j = m := by omega
      have HNADJ := Lib.hid (show ¬ bkAdj (ddE s) by
        rw [HD.out]
        rintro ⟨p, x, y, hx, hy, hz⟩
        exact HNA.out p x y (by have := (List.getElem?_eq_some_iff.1 hy).1; have := HO.out.1.2; omega) hx hy hz)
      have d9 : decide ((1000 : Int) < (j : Int)) = false := decide_eq_false (by omega)
      have d9' : decide (1000 < j) = false := decide_eq_false (by omega)
      go_wp2_with fail
      go_ret2
      exact ⟨O, j, oc, s, HPS.out.1, HPS.out.2, gr_none HG.out HGr.out, .inr ⟨HNADJ.out, rfl, by rw [HD.out]; exact HO.out.1.recs.grown HGr.out (fun g e => by cases e), by omega⟩⟩
end
end Go.Proofs.YtgogiljplnninaaGreatDoor

/- Contracts of slices.Clone, Grow (of nil), Concat (of two), '==' and IndexFunc (by an Id) at records. Conditions: lengths of at most a million. -/
import Derived.Test.YtgogiljplnninaaGreatDoorBun2
import Derived.Test.YtgogiljplnninaaGreatDoorRc3
import Derived.Test.YtgogiljplnninaaGreatDoorGenRec
namespace Go.Proofs.YtgogiljplnninaaGreatDoor
open Go.RowKit

theorem RcV.one1 (z : RcV) : ∀ u ∈ z.row, u.oneCell' = true := fun u hu => by
  unfold RcV.row at hu
  simp only [List.mem_cons, List.not_mem_nil, or_false] at hu
  rcases hu with rfl | rfl | rfl | rfl | rfl | rfl | rfl | rfl <;> rfl
theorem RcV.ones {l : List RcV} : ∀ u ∈ l.flatMap RcV.row, u.oneCell' = true := fun u hu => by
  obtain ⟨r, _, hr⟩ := List.mem_flatMap.1 hu
  exact RcV.one1 r u hr
set_option maxHeartbeats 2000000 in
set_option maxRecDepth 100000 in
theorem cloneRc_any (lo : Nat) (A : Option Addr) (n c : Nat) (l : List RcV) (w : World) (h : Recs RcV.row 8 w lo A n c l) (hn : n ≤ 1000000) :
    Calls Tryz.prog 10 #[.slice A n c] w (fun e w' => ∃ A' c', e = .returned (.slice A' n c') ∧ OwnR RcV.row 8 w' w.heap.size 32 A' n c' l ∧ w.grownBy w' none) := by
  have hl := h.len
  have qT : ∀ (w : World) (a : Option Addr) (n c n' c' : Nat), (binOp .eql 26 (.slice a n c) (.slice none n' c')).run Tryz.prog w = .ok (.bool a.isNone) w := fun w a n c n' c' => Lib.run_eql_slice_nil w _ _ a n c n' c' Tryz.underlying26
  have H := Lib.hid h
  have HL := Lib.hid hl
  clear h hl
  cases A with
  | none =>
    rcases Nat.eq_zero_or_pos n with rfl | h0
    rotate_left 1
    · exfalso
      obtain ⟨g, o, e, _⟩ := H.out.1.2.2 h0
      cases e
    · obtain rfl : l = [] := List.eq_nil_of_length_eq_zero HL.out
      go_enter Tryz.func10, Tryz.ntmps10
      go_wp2_with fail
      go_ret
      exact ⟨none, _, rfl, OwnR.nil _ _ _, gr_refl _ _⟩
  | some a =>
    go_enter Tryz.func10, Tryz.ntmps10
    go_wp2_with (first
      | (at_builtin
         refine wpl_app _ rfl _ _ Tryz.rcsT rfl w.heap.size (some ⟨w.heap.size, 0, none⟩) 0 0 [] rfl (by exact Own.lit w 32 8 [] 0 (by unfold maxLen; omega) rfl) lo (some a) n c (l.flatMap RcV.row) rfl (by exact (H.out.grown (gr_alloc (gr_refl _ none) _) (fun g e => by cases e)).1) RcV.ones (by unfold maxLen; omega) (by omega) (by simp) ?_
         intro A5 c5 w5 h5
         have H5 := Lib.hid h5; clear h5)
      | fail)
    go_ret
    exact ⟨A5, c5, by simp, ⟨by simpa using H5.out.1, HL.out⟩, gr_trans (gr_alloc (gr_refl _ none) _) H5.out.2.1 (fun g e => .inr (by simp [blkOf] at e; omega))⟩
set_option maxHeartbeats 2000000 in
theorem growRc_any (n : Nat) (w : World) (hn : n ≤ 1000000) :
    Calls Tryz.prog 128 #[.slice none 0 0, .int .i64 n] w (fun e w' => ∃ A' c', e = .returned (.slice A' 0 c') ∧ OwnR RcV.row 8 w' w.heap.size 32 A' 0 c' [] ∧ w.grownBy w' none) := by
  by_cases h0 : 0 < n
  · have d1 : decide ((0 : Int) < (n : Int)) = true := decide_eq_true (by omega)
    have d2 : decide ((n : Int) < 0) = false := decide_eq_false (by omega)
    have u1 : IntKind.i64.wrap (n : Int) = n := IntWalk.i64_in _ (by omega)
    go_enter Tryz.func128, Tryz.ntmps128
    go_wp2_with (first
      | (refine wpl_app_nilK Tryz.rcsT Tryz.underlying3 rfl _ _ rfl rfl n rfl h0 (by unfold maxLen; omega) (by omega) ?_
         intro c1 w1 hown hc1 hc2 hg1
         have HO := Lib.hid hown; have HG := Lib.hid hg1; clear hown hg1)
      | fail)
    go_ret
    exact ⟨_, c1, rfl, ⟨HO.out, rfl⟩, HG.out⟩
  · obtain rfl : n = 0 := by omega
    go_enter Tryz.func128, Tryz.ntmps128
    go_wp2_with fail
    go_ret
    exact ⟨none, 0, rfl, OwnR.nil _ _ _, gr_refl _ _⟩
/-- How far the two lists have been counted. -/
def RcCI (n n' : Nat) (s i : Value) : Prop := (i = .int .i64 0 ∧ s = .int .i64 0) ∨ (i = .int .i64 1 ∧ s = .int .i64 n) ∨ (i = .int .i64 2 ∧ s = .int .i64 ((n + n' : Nat) : Int))
/-- How far they have been laid. -/
def RcCJ (w : World) (n n' : Nat) (l l' : List RcV) (v i : Value) (wr : World) : Prop := w.grownBy wr none ∧ ∃ B cc,
  (i = .int .i64 0 ∧ v = .slice B 0 cc ∧ OwnR RcV.row 8 wr w.heap.size 32 B 0 cc []) ∨ (i = .int .i64 1 ∧ v = .slice B n cc ∧ OwnR RcV.row 8 wr w.heap.size 32 B n cc l) ∨ (i = .int .i64 2 ∧ v = .slice B (n + n') cc ∧ OwnR RcV.row 8 wr w.heap.size 32 B (n + n') cc (l ++ l'))
set_option maxHeartbeats 4000000 in
set_option maxRecDepth 100000 in
theorem concatRc_any (lo lo' : Nat) (A A' : Option Addr) (n c n' c' : Nat) (l l' : List RcV) (w : World) (g : Nat) (hg : Blk w g 26 #[.slice A n c, .slice A' n' c']) (h : Recs RcV.row 8 w lo A n c l) (h' : Recs RcV.row 8 w lo' A' n' c' l') (hn : n ≤ 100000) (hn' : n' ≤ 100000) :
    Calls Tryz.prog 65 #[.slice (some ⟨g, 0, none⟩) 2 2] w (fun e w' => ∃ A1 c1, e = .returned (.slice A1 (n + n') c1) ∧ OwnR RcV.row 8 w' w.heap.size 32 A1 (n + n') c1 (l ++ l') ∧ w.grownBy w' none) := by
  have HB := Lib.hid hg; have H := Lib.hid h; have H' := Lib.hid h'
  have k0 := hg.cell 0; have k1 := hg.cell 1
  have hlt := hg.lt
  clear hg h h'
  have d0 : decide ((n : Int) < 0) = false := decide_eq_false (by omega)
  have u0 : IntKind.i64.wrap (n : Int) = n := IntWalk.i64_in _ (by omega)
  have u1 : IntKind.i64.wrap ((n : Int) + n') = n + n' := IntWalk.i64_in _ (by omega)
  have d1 : decide ((n : Int) + n' < 0) = false := decide_eq_false (by omega)
  go_enter Tryz.func65, Tryz.ntmps65
  go_wp2_with fail
  go_loop [3, 5, 11] (fun s _ i => RcCI n n' s i) (fun _ _ i => 2 - (intOf i).toNat)
  case atStart => exact .inl ⟨rfl, rfl⟩
  case round =>
    rcases hrel with ⟨rfl, rfl⟩ | ⟨rfl, rfl⟩ | ⟨rfl, rfl⟩
    · go_wp2_with fail
      go_round
      case rel => exact .inr (.inl ⟨rfl, rfl⟩)
      case measure => simp [intOf]
    · go_wp2_with fail
      go_round
      case rel => exact .inr (.inr ⟨rfl, by go_num⟩)
      case measure => simp [intOf]
    · clear d0 u0 u1 d1
      go_wp2_with fail
      refine (growRc_any (n + n') _ (by omega)).mono ?_
      rintro e w1 ⟨A1, c1, rfl, hown, hg1⟩
      have HO := Lib.hid hown; have HG := Lib.hid hg1; clear hown hg1
      clear k0 k1
      go_wp2_with fail
      go_loopw [6, 8, 27] (fun v _ i wr => RcCJ w n n' l l' v i wr) (fun _ _ i _ => 2 - (intOf i).toNat)
      case atStart => exact ⟨HG.out, A1, c1, .inl ⟨rfl, rfl, HO.out⟩⟩
      case round =>
        clear HO HG
        obtain ⟨hg, B, cc, hrel⟩ := hrel
        have HG := Lib.hid hg; clear hg
        have k0 := (HB.out.grown HG.out (by simp)).cell 0; have k1 := (HB.out.grown HG.out (by simp)).cell 1
        rcases hrel with ⟨rfl, rfl, hown⟩ | ⟨rfl, rfl, hown⟩ | ⟨rfl, rfl, hown⟩
        · have HO := Lib.hid hown; clear hown
          go_wp2_with (first
            | (at_builtin
               refine wpl_app _ rfl _ _ Tryz.rcsT rfl w.heap.size B 0 cc _ rfl (by exact HO.out.1) lo A n c _ rfl (by exact (H.out.grown HG.out (fun g e => by cases e)).1) RcV.ones (by unfold maxLen; omega) (by omega) (by have := HG.out.size; omega) ?_
               intro A5 c5 w5 h5
               have H5 := Lib.hid h5; clear h5)
            | fail)

          go_roundw
          case rel => exact ⟨gr_own HG.out HO.out.1 (Nat.le_refl _) H5.out.2.1, A5, c5, .inr (.inl ⟨rfl, by simp, by have := H5.out.1; simp only [Nat.zero_add, List.flatMap_nil, List.nil_append] at this; exact this, H.out.len⟩)⟩
          case measure => simp [intOf]
        · have HO := Lib.hid hown; clear hown
          go_wp2_with (first
            | (at_builtin
               refine wpl_app _ rfl _ _ Tryz.rcsT rfl w.heap.size B n cc _ rfl (by exact HO.out.1) lo' A' n' c' _ rfl (by exact (H'.out.grown HG.out (fun g e => by cases e)).1) RcV.ones (by unfold maxLen; omega) (by omega) (by have := HG.out.size; omega) ?_
               intro A5 c5 w5 h5
               have H5 := Lib.hid h5; clear h5)
            | fail)

          go_roundw
          case rel => exact ⟨gr_own HG.out HO.out.1 (Nat.le_refl _) H5.out.2.1, A5, c5, .inr (.inr ⟨rfl, rfl, by rw [List.flatMap_append]; exact H5.out.1, by rw [List.length_append, H.out.len, H'.out.len]⟩)⟩
          case measure => simp [intOf]
        · have HO := Lib.hid hown; clear hown
          go_wp2_with fail
          go_ret
          exact ⟨B, cc, rfl, HO.out, HG.out⟩
theorem rcEq_guard : Tryz.prog.eqGuardType Tryz.prog.depth 32 = false := by kernel_rfl
set_option maxHeartbeats 4000000 in
theorem rcEq_in (a b : RcV) (w : World) : (Op.equalIn 10000 32 (.agg #[.string a.id, .string a.frm, .string a.too, .int .i64 a.at_, .int .i64 a.ring, .int .i64 a.talk, .int .i64 a.how, .string a.car]) (.agg #[.string b.id, .string b.frm, .string b.too, .int .i64 b.at_, .int .i64 b.ring, .int .i64 b.talk, .int .i64 b.how, .string b.car])).run Tryz.prog w = .ok (decide (a = b)) w := by
  have u9 := Tryz.underlying9
  have u3 := Tryz.underlying3
  have hS : Tryz.prog.underlying 32 = some (.struct (Tryz.prog.fieldsOf 32)) := by kernel_rfl
  have hp : Tryz.prog.stoodInHeld 32 = false := by kernel_rfl
  rw [show (10000 : Nat) = 9999 + 1 from rfl, run_equalIn_agg w 9999 32 _ _ hS hp]
  simp only [Program.fieldsOf, Tryz.underlying32]
  go_simp
  by_cases h0 : a.id = b.id
  rotate_left 1
  · rw [decide_eq_false (fun e => h0 (by rw [e]))]
    have q0 : ¬ a.id.toList = b.id.toList := by
      intro e
      have e2 := eqS_nb a.id b.id
      rw [e] at e2
      simp at e2
      exact h0 (nb_inj e2)
    simp [q0]
  by_cases h1 : a.frm = b.frm
  rotate_left 1
  · rw [decide_eq_false (fun e => h1 (by rw [e]))]
    have q1 : ¬ a.frm.toList = b.frm.toList := by
      intro e
      have e2 := eqS_nb a.frm b.frm
      rw [e] at e2
      simp at e2
      exact h1 (nb_inj e2)
    simp [h0, q1]
  by_cases h2 : a.too = b.too
  rotate_left 1
  · rw [decide_eq_false (fun e => h2 (by rw [e]))]
    have q2 : ¬ a.too.toList = b.too.toList := by
      intro e
      have e2 := eqS_nb a.too b.too
      rw [e] at e2
      simp at e2
      exact h2 (nb_inj e2)
    simp [h0, h1, q2]
  by_cases h3 : a.at_ = b.at_
  rotate_left 1
  · rw [decide_eq_false (fun e => h3 (by rw [e]))]
    have q3 := h3
    simp [h0, h1, h2, q3]
  by_cases h4 : a.ring = b.ring
  rotate_left 1
  · rw [decide_eq_false (fun e => h4 (by rw [e]))]
    have q4 := h4
    simp [h0, h1, h2, h3, q4]
  by_cases h5 : a.talk = b.talk
  rotate_left 1
  · rw [decide_eq_false (fun e => h5 (by rw [e]))]
    have q5 := h5
    simp [h0, h1, h2, h3, h4, q5]
  by_cases h6 : a.how = b.how
  rotate_left 1
  · rw [decide_eq_false (fun e => h6 (by rw [e]))]
    have q6 := h6
    simp [h0, h1, h2, h3, h4, h5, q6]
  by_cases h7 : a.car = b.car
  rotate_left 1
  · rw [decide_eq_false (fun e => h7 (by rw [e]))]
    have q7 : ¬ a.car.toList = b.car.toList := by
      intro e
      have e2 := eqS_nb a.car b.car
      rw [e] at e2
      simp at e2
      exact h7 (nb_inj e2)
    simp [h0, h1, h2, h3, h4, h5, h6, q7]
  rw [decide_eq_true (show a = b by cases a; cases b; simp_all)]
  simp [h0, h1, h2, h3, h4, h5, h6, h7]
theorem rcEq_eql (a b : RcV) (w : World) : (binOp .eql 32 (.agg #[.string a.id, .string a.frm, .string a.too, .int .i64 a.at_, .int .i64 a.ring, .int .i64 a.talk, .int .i64 a.how, .string a.car]) (.agg #[.string b.id, .string b.frm, .string b.too, .int .i64 b.at_, .int .i64 b.ring, .int .i64 b.talk, .int .i64 b.how, .string b.car])).run Tryz.prog w = .ok (.bool (decide (a = b))) w := by
  rw [run_eql_struct, rcEq_in]; rfl
theorem rcEq_neq (a b : RcV) (w : World) : (binOp .neq 32 (.agg #[.string a.id, .string a.frm, .string a.too, .int .i64 a.at_, .int .i64 a.ring, .int .i64 a.talk, .int .i64 a.how, .string a.car]) (.agg #[.string b.id, .string b.frm, .string b.too, .int .i64 b.at_, .int .i64 b.ring, .int .i64 b.talk, .int .i64 b.how, .string b.car])).run Tryz.prog w = .ok (.bool (!decide (a = b))) w := by
  rw [run_neq_struct, rcEq_in]; rfl
set_option maxHeartbeats 1000000 in
theorem sameId_any (x : RcV) (t : ByteArray) (cb : Nat) (cs : List Value) (w : World) (hb : Blk w cb 32 (.string t :: cs).toArray) :
    Calls Tryz.prog 67 #[.agg #[.string x.id, .string x.frm, .string x.too, .int .i64 x.at_, .int .i64 x.ring, .int .i64 x.talk, .int .i64 x.how, .string x.car], .pointer (some ⟨cb, 0, none⟩)] w (RetV (.bool (isId t x)) w) := by
  have hlt := hb.lt
  have kc : (w.alloc (.cells #[.string x.id, .string x.frm, .string x.too, .int .i64 x.at_, .int .i64 x.ring, .int .i64 x.talk, .int .i64 x.how, .string x.car] 32)).cell? ⟨cb, 0, none⟩ = some (.string t) := (hb.alloc _).cell 0
  have HE := Lib.hid (eqS_nb x.id t)
  clear hb
  go_enter Tryz.func67, Tryz.ntmps67
  go_wp2_with fail
  go_ret
  exact ⟨by unfold isId; rw [← HE.out]; rfl, gr_alloc (gr_refl _ _) _⟩
set_option maxHeartbeats 4000000 in
theorem byIdIdx_any (lo : Nat) (A : Option Addr) (n c : Nat) (l : List RcV) (t : ByteArray) (cb : Nat) (cs : List Value) (w : World) (h : Recs RcV.row 8 w lo A n c l) (hn : n ≤ 1000000000000) (h_B : Blk w cb 32 (.string t :: cs).toArray) :
    Calls Tryz.prog 66 #[.slice A n c, .func (.func 67) #[] #[.pointer (some ⟨cb, 0, none⟩)]] w (RetV (.int .i64 (idxP (isId t) l)) w) := by
  have H := Lib.hid h; have HB := Lib.hid h_B; clear h h_B
  go_enter Tryz.func66, Tryz.ntmps66
  go_wp2_with fail
  go_loopw [5, 8] (fun _ t' wr => ∃ i : Nat, i ≤ n ∧ t' = .int .i64 i ∧ w.grownBy wr none ∧ (l.take i).all (fun x => !((isId t) x)) = true) (fun _ t' _ => n - (intOf t').toNat)
  case atStart => exact ⟨0, Nat.zero_le _, rfl, gr_refl _ _, by simp⟩
  case round =>
    obtain ⟨i, hi, rfl, hg, ha⟩ := hrel
    have HA := Lib.hid ha; have HG := Lib.hid hg; clear ha hg
    by_cases hlt : i < n
    · obtain ⟨g, o, b, rfl, _, hgl, hz, hc⟩ := (H.out.grown HG.out (fun g e => by cases e)).get RcV.row_len hlt
      have HZ := Lib.hid hz; have HC := Lib.hid hc; clear hz hc
      obtain ⟨B, hB⟩ : ∃ B, (isId t) b = B := ⟨_, rfl⟩
      have HE := Lib.hid hB; clear hB
      cases B
      all_goals
        go_wp2_with (first
          | (refine wpl_load_at Tryz.rcT rfl _ rfl _ rfl [.string b.id, .string b.frm, .string b.too, .int .i64 b.at_, .int .i64 b.ring, .int .i64 b.talk, .int .i64 b.how, .string b.car] rfl (fun j u hu => by rw [add_mk]; exact HC.out j u hu) ?_)
          | (go_at_call 67; refine (sameId_any b t cb cs _ (HB.out.grown HG.out (by simp))).mono ?_; rintro e w2 ⟨rfl, hg2⟩; have he := HE.out; (try dsimp only at he); rw [he]; clear he; have HG2 := Lib.hid (gr_none HG.out hg2); clear hg2)
          | fail)
      · go_roundw
        case rel => exact ⟨i + 1, by omega, by go_num, HG2.out, allP_succ (p := (isId t)) HA.out HZ.out HE.out⟩
        case measure => simp [intOf]; omega
      · go_ret
        exact ⟨by rw [idxP_some (p := (isId t)) HA.out HZ.out HE.out]; rfl, HG2.out⟩
    · obtain rfl : i = n := by omega
      go_wp2_with fail
      go_ret
      have h := HA.out
      rw [List.take_of_length_le (by rw [H.out.len]; exact Nat.le_refl _)] at h
      exact ⟨by rw [idxP_none (p := (isId t)) h]; rfl, HG.out⟩
end Go.Proofs.YtgogiljplnninaaGreatDoor

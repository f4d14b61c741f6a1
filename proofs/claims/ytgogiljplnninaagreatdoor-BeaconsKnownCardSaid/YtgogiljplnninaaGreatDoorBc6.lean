/- Contract of the generator of beacons. Conditions: at most 18 beacons are asked for. -/
import Derived.Test.YtgogiljplnninaaGreatDoorBc5
import Derived.Test.YtgogiljplnninaaGreatDoorBun2
import Derived.Test.YtgogiljplnninaaGreatDoorGenOdd
import Derived.Test.YtgogiljplnninaaGreatDoorShelfRep
import Derived.Deep.CutBlock
namespace Go.Proofs.YtgogiljplnninaaGreatDoor
open Go.RowKit

theorem Tryz.bcsT : ElemT Tryz.prog 57 62 6 72 (.agg #[.string ⟨#[]⟩, .string ⟨#[]⟩, .int .i64 0, .int .i64 0, .int .i64 0, .string ⟨#[]⟩]) := elemT_of Tryz.underlying57 (by kernel_rfl) rfl (by decide)
def IsBcs (lo k : Nat) (v : Value) (w : World) : Prop := ∃ A n c l, v = .slice A n c ∧ Bcs w lo A n c l ∧ n ≤ k
/-- A note: short, of small bytes. -/
def NtQ (s : ByteArray) : Prop := s.size ≤ 101 ∧ ascB s
/-- A name. -/
def NmQ (s : ByteArray) : Prop := s.size ≤ 8
theorem OwnBc.low {w w' : World} {lo n c : Nat} {A : Option Addr} {l : List BcV} (h : OwnBc w lo A n c l) {r : Option Nat} (hg : w.grownBy w' r) (hr : ∀ g, r = some g → g < lo) : OwnBc w' lo A n c l := ⟨h.1.low hg hr, h.2⟩
theorem OwnBc.bcs {w : World} {lo n c : Nat} {A : Option Addr} {l : List BcV} (h : OwnBc w lo A n c l) : Bcs w lo A n c l := ⟨h.1.recs, h.2⟩
theorem rep_mem {b : UInt8} {l : List UInt8} : ∀ {c : Nat}, b ∈ Lib.repeatL l c → b ∈ l
  | 0, h => by simp [Lib.repeatL] at h
  | c + 1, h => by
    rw [Lib.repeatL] at h
    rcases List.mem_append.1 h with h | h
    · first | exact h | exact rep_mem h
    · first | exact rep_mem h | exact h
theorem rep101_any (w : World) : Calls Tryz.prog 98 #[.string ⟨#[110]⟩, .int .i64 101] w (RetP (fun v _ => ∃ t : ByteArray, v = .string t ∧ NtQ t) w) := by
  refine (Tryz.strings_Repeat ⟨#[110]⟩ 101 w (by omega) (by decide)).mono ?_
  rintro e w' ⟨rfl, hb⟩
  refine ⟨_, rfl, ⟨_, rfl, ?_, ?_⟩, gr_below hb none⟩
  · have : (Lib.repeatL [110] 101).length = 101 := by
      rw [Lib.repeatL_length]; rfl
    show (Lib.repeatL [110] 101).toArray.size ≤ 101
    rw [List.size_toArray, this]; exact Nat.le_refl _
  · intro b hb
    have := rep_mem (show b ∈ Lib.repeatL [110] 101 by simpa using hb)
    rw [List.mem_singleton.1 this]
    decide
set_option maxHeartbeats 16000000 in
set_option maxRecDepth 100000 in
theorem beacons_any (sb : Nat) (m : Int) (many : Nat) (w : World) (hs : Str w sb m) (hm : m ≤ 1000000000) (hmany : many ≤ 18) : Calls Tryz.prog 30 #[.pointer (some ⟨sb, 0, none⟩), .int .i64 many] w (Drawn sb (m + 40 * many + 10) (IsBcs w.heap.size many) w) := by
  have hlt := hs.lt
  have HS0 := Lib.hid hs; clear hs
  go_enter Tryz.func30, Tryz.ntmps30
  go_wp2_with fail
  go_loopw [5, 6, 8] (fun out _ t wr => ∃ (k c : Nat) (A : Option Addr) (l : List BcV), k ≤ many ∧ t = .int .i64 k ∧ out = .slice A k c ∧ Str wr sb (m + 40 * k) ∧ w.grownBy wr (some sb) ∧ OwnBc wr w.heap.size A k c l) (fun _ _ t _ => many - (intOf t).toNat)
  case atStart => exact ⟨0, 0, none, [], Nat.zero_le _, rfl, rfl, HS0.out.mono (by omega), gr_refl _ _, OwnR.nil _ _ _, (fun r hr => by cases hr)⟩
  case round =>
    obtain ⟨k, c, A, l, hk, rfl, rfl, hs, hg, hown⟩ := hrel
    have zr := hg.size
    have HS := Lib.hid hs; have HG := Lib.hid hg; have HO := Lib.hid hown; clear hs hg hown
    by_cases hlt2 : k < many
    · have hkn : decide (k < many) = true := by simpa using hlt2
      go_wp2_with fail
      refine (some_newQ (n := 3) NmQ sb _ _ HS.out (by omega) (by simp) (by
        repeat (first | exact StrsQ.nil _ | refine StrsQ.cons (by first | (unfold NtQ ascB; decide) | (unfold NmQ; decide) | decide | assumption) ?_)) rfl (by omega) (by omega)).mono ?_
      rintro e w1 ⟨v1, rfl, ⟨y1, rfl, hy1⟩, hs1, hg1⟩
      have z1 := hg1.size; (try simp at z1)
      replace HO := Lib.hid (HO.out.low hg1 (fun g e => by injection e with e; omega))
      (try replace HR := Lib.hid (HR.out.grown hg1 (by simp; omega)))
      replace HG := Lib.hid (gr_same (a := w) HG.out hg1)
      replace HS := Lib.hid hs1
      clear hs1 hg1
      go_wp2_with fail
      refine (some_newQ (n := 2) NmQ sb _ _ HS.out (by omega) (by simp) (by
        repeat (first | exact StrsQ.nil _ | refine StrsQ.cons (by first | (unfold NtQ ascB; decide) | (unfold NmQ; decide) | decide | assumption) ?_)) rfl (by omega) (by omega)).mono ?_
      rintro e w2 ⟨v2, rfl, ⟨y2, rfl, hy2⟩, hs2, hg2⟩
      have z2 := hg2.size; (try simp at z2)
      replace HO := Lib.hid (HO.out.low hg2 (fun g e => by injection e with e; omega))
      (try replace HR := Lib.hid (HR.out.grown hg2 (by simp; omega)))
      replace HG := Lib.hid (gr_same (a := w) HG.out hg2)
      replace HS := Lib.hid hs2
      clear hs2 hg2
      go_wp2_with fail
      refine (range_any sb _ 0 4 _ HS.out (by omega) (by omega) (by omega) (by omega)).mono ?_
      rintro e w3 ⟨v3, rfl, ⟨r3, hlo3, hhi3, rfl⟩, hs3, hg3⟩
      have z3 := hg3.size; (try simp at z3)
      replace HO := Lib.hid (HO.out.low hg3 (fun g e => by injection e with e; omega))
      (try replace HR := Lib.hid (HR.out.grown hg3 (by simp; omega)))
      replace HG := Lib.hid (gr_same (a := w) HG.out hg3)
      replace HS := Lib.hid hs3
      clear hs3 hg3
      go_wp2_with fail
      refine (range_any sb _ 0 8 _ HS.out (by omega) (by omega) (by omega) (by omega)).mono ?_
      rintro e w4 ⟨v4, rfl, ⟨r4, hlo4, hhi4, rfl⟩, hs4, hg4⟩
      have z4 := hg4.size; (try simp at z4)
      replace HO := Lib.hid (HO.out.low hg4 (fun g e => by injection e with e; omega))
      (try replace HR := Lib.hid (HR.out.grown hg4 (by simp; omega)))
      replace HG := Lib.hid (gr_same (a := w) HG.out hg4)
      replace HS := Lib.hid hs4
      clear hs4 hg4
      go_wp2_with fail
      refine (some_newQ (n := 3) NtQ sb _ _ HS.out (by omega) (by simp) (by
        repeat (first | exact StrsQ.nil _ | refine StrsQ.cons (by first | (unfold NtQ ascB; decide) | (unfold NmQ; decide) | decide | assumption) ?_)) rfl (by omega) (by omega)).mono ?_
      rintro e w5 ⟨v5, rfl, ⟨y5, rfl, hy5⟩, hs5, hg5⟩
      have z5 := hg5.size; (try simp at z5)
      replace HO := Lib.hid (HO.out.low hg5 (fun g e => by injection e with e; omega))
      (try replace HR := Lib.hid (HR.out.grown hg5 (by simp; omega)))
      replace HG := Lib.hid (gr_same (a := w) HG.out hg5)
      replace HS := Lib.hid hs5
      clear hs5 hg5
      obtain ⟨R, hR⟩ : ∃ R, w5.heap.size = R := ⟨_, rfl⟩
      obtain ⟨at1, hat1⟩ : ∃ a, r4 * 5 = a := ⟨_, rfl⟩
      have hb0 : 0 ≤ at1 := by omega
      have hb1 : at1 ≤ 40 := by omega
      have u1 : IntKind.i64.wrap (r4 * 5) = r4 * 5 := IntWalk.i64_in _ (by omega)
      go_upto_region 5 with (fail)
      (try rw [hat1])
      obtain ⟨w8, hw8⟩ : ∃ w8, w5.alloc (.cells #[.string y1, .string y2, .int .i64 r3, .int .i64 at1, .int .i64 0, .string y5] 62) = w8 := ⟨_, rfl⟩
      rw [hw8]
      have HR := Lib.hid (show Blk w8 R 62 #[.string y1, .string y2, .int .i64 r3, .int .i64 at1, .int .i64 0, .string y5] by rw [← hw8, ← hR]; exact Blk.new _ _ _)
      have HNE := Lib.hid (show blkOf A ≠ some R from fun e => by have := (HO.out.1.1.lt e).2; omega)
      have hRs : sb < R := by have := HS.out.lt; omega
      have hRw : w.heap.size ≤ R := by have := HG.out.size; omega
      replace HO := Lib.hid (HO.out.low (show w5.grownBy w8 none by rw [← hw8]; exact gr_alloc (gr_refl _ _) _) (fun g e => by cases e))
      replace HG := Lib.hid (show w.grownBy w8 (some sb) by rw [← hw8]; exact gr_alloc HG.out _)
      replace HS := Lib.hid (show Str w8 sb _ by rw [← hw8]; exact HS.out.alloc _)
      have z8 := HR.out.lt
      (try rw [hR])
      clear hw8 hR hat1 u1 z1 z2 z3 z4 z5
      refine wp_region_lex (fun w' => w'.cell? ⟨R, 3, none⟩ = some (.int .i64 at1)) [0, 1, 2, 3, 4, 5, 6, 7] (by kernel_rfl) (by kernel_rfl) ?_
      replace HR := Lib.hid (HR.out.drewN 1); replace HS := Lib.hid (HS.out.drewN 1); replace HG := Lib.hid (gr_drewN HG.out 1)
      replace HO := Lib.hid (show OwnBc (w8.drewN 1) w.heap.size A k c l from HO.out.low (gr_drewN (gr_refl _ none) 1) (fun g e => by cases e))
      have z8 : R < (w8.drewN 1).heap.size := HR.out.lt
      have hHeld : (w8.drewN 1).cell? ⟨R, 3, none⟩ = some (.int .i64 at1) := HR.out.cell 3
      show wpLex _ _ _ _ _ _ _ (w8.drewN 1)
      generalize w8.drewN 1 = wd at HR HS HG HO hHeld z8 ⊢
      repeat (
        refine lex_take (v := ?_) (by rfl) (by rfl) (by exact fun _ _ _ h => h) (by rfl) ?_ (by assumption) ?_
        rotate_left 1
        · intro w hSw
          (try dsimp only at hSw)
          go_simp
          (try with_reducible rfl)
        (try simp only [Act.put, List.setIfInBounds_toArray, List.set_cons_zero, List.set_cons_succ]))
      refine lex_run (by rfl) (by rfl) (by rfl) (fun K hK => ?_)
      go_simp
      refine hK _ _ (.inr (by go_keep)) ?_
      clear hK K
      (try simp only [Act.put, List.setIfInBounds_toArray, List.set_cons_zero, List.set_cons_succ])
      refine lex_run (by rfl) (by rfl) (by rfl) (fun K hK => ?_)
      go_simp
      refine (pick_new sb _ [0, 5, 7, 20, 100] _ HS.out (by omega) (by simp) rfl rfl (by simp) (by simp)).mono ?_
      rintro e w6 ⟨v6, rfl, ⟨r6, hr6, rfl⟩, hs6, hg6⟩
      have hx6 : 0 ≤ r6 ∧ r6 ≤ 100 := by simp only [List.mem_cons, List.not_mem_nil, or_false] at hr6; omega
      clear hr6 hHeld
      have z6 := hg6.size
      replace HO := Lib.hid (HO.out.low hg6 (fun g e => by injection e with e; omega))
      replace HR := Lib.hid (HR.out.grown hg6 (by simp; omega))
      replace HG := Lib.hid (gr_same (a := w) HG.out hg6)
      replace HS := Lib.hid hs6
      clear hs6 hg6
      have hHeld : w6.cell? ⟨R, 3, none⟩ = some (.int .i64 at1) := HR.out.cell 3
      refine hK _ _ (.inr hHeld) ?_
      clear hK K
      (try simp only [Act.put, List.setIfInBounds_toArray, List.set_cons_zero, List.set_cons_succ])
      have u2 : IntKind.i64.wrap (at1 + r6) = at1 + r6 := IntWalk.i64_in _ (by omega)
      repeat (
        refine lex_take (v := ?_) (by rfl) (by rfl) (by exact fun _ _ _ h => h) (by rfl) ?_ (by assumption) ?_
        rotate_left 1
        · intro w hSw
          (try dsimp only at hSw)
          go_simp
          (try with_reducible rfl)
        (try simp only [Act.put, List.setIfInBounds_toArray, List.set_cons_zero, List.set_cons_succ]))
      have f4 := HR.out.frozen 4; have c4 := HR.out.cell 4
      refine lex_run (by rfl) (by rfl) (by rfl) (fun K hK => ?_)
      go_simp
      refine hK _ _ (.inl rfl) ?_
      clear hK K hHeld
      refine lex_end ?_
      obtain ⟨un1, hun1⟩ : ∃ u, at1 + r6 = u := ⟨_, rfl⟩
      (try rw [u2])
      (try rw [hun1])
      clear u2 f4 c4
      have hgu : w6.grownBy (w6.setCell ⟨R, 4, none⟩ (.int .i64 un1)) (some R) := gr_setCell (gr_refl _ _) (.inl rfl) _
      obtain ⟨w7, hw7⟩ : ∃ x, w6.setCell ⟨R, 4, none⟩ (.int .i64 un1) = x := ⟨_, rfl⟩
      replace HR := Lib.hid (show Blk w7 R 62 #[.string y1, .string y2, .int .i64 r3, .int .i64 at1, .int .i64 un1, .string y5] by rw [← hw7]; exact HR.out.set_ 4 _)
      rw [hw7] at hgu ⊢
      replace HS := Lib.hid (HS.out.grown hgu (fun g e => by injection e with e; omega))
      replace HG := Lib.hid (gr_trans HG.out hgu (fun g e => .inr (by injection e with e; omega)))
      replace HO := Lib.hid (show OwnBc w7 w.heap.size A k c l from ⟨HO.out.1.kept hgu (fun g e e2 => HNE.out (by rw [e2, e])), HO.out.2⟩)
      have z7 := hgu.size
      clear hw7 hgu hun1
      go_wp2_with fail
      refine (flip_any sb _ 60 _ HS.out (by omega) (by omega) (by omega)).mono ?_
      rintro e w10 ⟨v10, rfl, ⟨f10, rfl⟩, hs10, hg10⟩
      have z10 := hg10.size; (try simp at z10)
      replace HO := Lib.hid (HO.out.low hg10 (fun g e => by injection e with e; omega))
      (try replace HR := Lib.hid (HR.out.grown hg10 (by simp; omega)))
      replace HG := Lib.hid (gr_same (a := w) HG.out hg10)
      replace HS := Lib.hid hs10
      clear hs10 hg10
      go_upto_if 33 with (fail)
      go_cut [6] (fun p wx => p = .pointer (some ⟨R, 0, none⟩) ∧ ∃ r : BcV, BcOk r ∧ Blk wx R 62 r.row.toArray ∧ Str wx sb (m + 40 * k + 30) ∧ w.grownBy wx (some sb) ∧ OwnBc wx w.heap.size A k c l)
      case first =>
        cases f10
        · go_wp2_with fail
          go_meet
          exact ⟨rfl, ⟨y1, y2, r3, at1, un1, y5⟩, ⟨⟨Nat.le_trans hy1 (by decide), Nat.le_trans hy2 (by decide), Nat.le_trans hy5.1 (by decide)⟩, ⟨by dsimp only; omega, by dsimp only; omega⟩, hy5.2⟩, HR.out, HS.out.mono (by omega), HG.out, HO.out⟩
        · go_wp2_with fail
          refine (some_newQ (n := 2) NmQ sb _ _ HS.out (by omega) (by simp) (by
            repeat (first | exact StrsQ.nil _ | refine StrsQ.cons (by first | (unfold NtQ ascB; decide) | (unfold NmQ; decide) | decide | assumption) ?_)) rfl (by omega) (by omega)).mono ?_
          rintro e w11 ⟨v11, rfl, ⟨y11, rfl, hy11⟩, hs11, hg11⟩
          have z11 := hg11.size; (try simp at z11)
          replace HO := Lib.hid (HO.out.low hg11 (fun g e => by injection e with e; omega))
          (try replace HR := Lib.hid (HR.out.grown hg11 (by simp; omega)))
          replace HG := Lib.hid (gr_same (a := w) HG.out hg11)
          replace HS := Lib.hid hs11
          clear hs11 hg11
          go_wp2_with fail
          refine (odd_any sb _ 0 4 _ HS.out (by omega) (by omega) (by omega) (by omega)).mono ?_
          rintro e w12 ⟨v12, rfl, ⟨r12, hlo12, hhi12, rfl⟩, hs12, hg12⟩
          have z12 := hg12.size; (try simp at z12)
          replace HO := Lib.hid (HO.out.low hg12 (fun g e => by injection e with e; omega))
          (try replace HR := Lib.hid (HR.out.grown hg12 (by simp; omega)))
          replace HG := Lib.hid (gr_same (a := w) HG.out hg12)
          replace HS := Lib.hid hs12
          clear hs12 hg12
          go_wp2_with fail
          refine (odd_any sb _ 0 50 _ HS.out (by omega) (by omega) (by omega) (by omega)).mono ?_
          rintro e w13 ⟨v13, rfl, ⟨r13, hlo13, hhi13, rfl⟩, hs13, hg13⟩
          have z13 := hg13.size; (try simp at z13)
          replace HO := Lib.hid (HO.out.low hg13 (fun g e => by injection e with e; omega))
          (try replace HR := Lib.hid (HR.out.grown hg13 (by simp; omega)))
          replace HG := Lib.hid (gr_same (a := w) HG.out hg13)
          replace HS := Lib.hid hs13
          clear hs13 hg13
          go_wp2_with fail
          refine (rep101_any _).mono ?_
          rintro e w14 ⟨v14, rfl, ⟨t14, rfl, ht14⟩, hg14⟩
          replace HS := Lib.hid (HS.out.grown hg14 (fun g e => by cases e))
          replace HG := Lib.hid (gr_none HG.out hg14)
          replace HO := Lib.hid (HO.out.low hg14 (fun g e => by cases e))
          replace HR := Lib.hid (HR.out.grown hg14 (by simp))
          have z14 := hg14.size
          clear hg14
          go_wp2_with fail
          refine (some_newQ (n := 4) NtQ sb _ _ HS.out (by omega) (by simp) (by
            repeat (first | exact StrsQ.nil _ | refine StrsQ.cons (by first | (unfold NtQ ascB; decide) | (unfold NmQ; decide) | decide | assumption) ?_)) rfl (by omega) (by omega)).mono ?_
          rintro e w15 ⟨v15, rfl, ⟨y15, rfl, hy15⟩, hs15, hg15⟩
          have z15 := hg15.size; (try simp at z15)
          replace HO := Lib.hid (HO.out.low hg15 (fun g e => by injection e with e; omega))
          (try replace HR := Lib.hid (HR.out.grown hg15 (by simp; omega)))
          replace HG := Lib.hid (gr_same (a := w) HG.out hg15)
          replace HS := Lib.hid hs15
          clear hs15 hg15
          have f0 := HR.out.frozen 0
          have c0 := HR.out.cell 0
          have f2 := HR.out.frozen 2
          have c2 := HR.out.cell 2
          have f4 := HR.out.frozen 4
          have c4 := HR.out.cell 4
          have f5 := HR.out.frozen 5
          have c5 := HR.out.cell 5
          go_wp2_with fail
          go_meet
          have hg9 : w15.grownBy ((((w15.setCell ⟨R, 0, none⟩ (.string y11)).setCell ⟨R, 2, none⟩ (.int .i64 r12)).setCell ⟨R, 4, none⟩ (.int .i64 r13)).setCell ⟨R, 5, none⟩ (.string y15)) (some R) := gr_setCell (row := some R) (gr_setCell (row := some R) (gr_setCell (row := some R) (gr_setCell (row := some R) (gr_refl _ _) (.inl rfl) _) (.inl rfl) _) (.inl rfl) _) (.inl rfl) _
          exact ⟨rfl, ⟨y11, y2, r12, at1, r13, y15⟩, ⟨⟨Nat.le_trans hy11 (by decide), Nat.le_trans hy2 (by decide), Nat.le_trans hy15.1 (by decide)⟩, ⟨by dsimp only; omega, by dsimp only; omega⟩, hy15.2⟩, ((((HR.out.set_ 0 _).set_ 2 _).set_ 4 _).set_ 5 _), (HS.out.grown hg9 (fun g e => by injection e with e; omega)).mono (by omega), gr_trans HG.out hg9 (fun g e => .inr (by injection e with e; omega)), HO.out.1.kept hg9 (fun g e e2 => HNE.out (by rw [e2, e])), HO.out.2⟩
      case rest =>
        clear HR HS HG HO
        obtain ⟨rfl, ⟨psn, dev, st, at2, un, note⟩, hok, hr, hs, hg, hown⟩ := hcut
        have HR := Lib.hid (show Blk _ R 62 #[.string psn, .string dev, .int .i64 st, .int .i64 at2, .int .i64 un, .string note] from hr); have HS := Lib.hid hs; have HG := Lib.hid hg; have HO := Lib.hid hown; have HOK := Lib.hid hok
        have zc := hg.size
        clear hr hs hg hown hok
        go_wp2_with (first
          | (refine wpl_load_all Tryz.bcT rfl _ rfl _ rfl _ _ HR.out rfl ?_)
          | (at_builtin
             refine wpl_app _ rfl _ _ Tryz.bcsT rfl w.heap.size A k c _ rfl (by exact HO.out.1.1.alloc _) _ _ 1 1 [.string psn, .string dev, .int .i64 st, .int .i64 at2, .int .i64 un, .string note] rfl (by exact Reads.one _ _ _ _ rfl) (by simp [Value.oneCell']) (by unfold maxLen; omega) (by omega) (by simp; omega) ?_
             intro A5 c5 w5 h5
             have H5 := Lib.hid h5; clear h5)
          | fail)
        go_roundw
        case rel => exact ⟨k + 1, c5, A5, l ++ [⟨psn, dev, st, at2, un, note⟩], by omega, by go_num, rfl, ((HS.out.alloc _).grown H5.out.2.1 (fun g e => by have := (HO.out.1.1.lt e).1; omega)).mono (by omega), H5.out.gr (gr_alloc HG.out _) (HO.out.1.1.alloc _) (Nat.le_refl _), (HO.out.1.alloc _).app rfl H5.out, fun r hr => by
          rcases List.mem_append.1 hr with h | h
          · exact HO.out.2 r h
          · rw [List.mem_singleton.1 h]; exact HOK.out⟩
        case measure => simp [intOf]; omega
    · obtain rfl : k = many := by omega
      go_wp2_with fail
      refine (sortStableB_any w.heap.size A k c l _ HO.out (by omega)).mono ?_
      rintro e w3 ⟨rfl, l3, hown3, hg3⟩
      replace HS := Lib.hid (HS.out.grown hg3 (fun g e => by have := (HO.out.1.1.lt e).1; omega))
      replace HG := Lib.hid (gr_own HG.out HO.out.1.1 (Nat.le_refl _) hg3)
      replace HO := Lib.hid hown3
      clear hown3 hg3
      go_wp2_with fail
      refine (flip_any sb _ 60 _ HS.out (by omega) (by omega) (by omega)).mono ?_
      rintro e w5 ⟨v5, rfl, ⟨f5, rfl⟩, hs5, hg5⟩
      have z5 := hg5.size; (try simp at z5)
      replace HO := Lib.hid (HO.out.low hg5 (fun g e => by injection e with e; omega))
      (try replace HR := Lib.hid (HR.out.grown hg5 (by simp; omega)))
      replace HG := Lib.hid (gr_same (a := w) HG.out hg5)
      replace HS := Lib.hid hs5
      clear hs5 hg5
      cases f5
      · go_wp2_with fail
        refine (compactB_any w.heap.size A k c l3 _ HO.out (by omega)).mono ?_
        rintro e w6 ⟨q, l6, rfl, hown6, hg6, hq⟩
        replace HS := Lib.hid (HS.out.grown hg6 (fun g e => by have := (HO.out.1.1.lt e).1; omega))
        replace HG := Lib.hid (gr_own HG.out HO.out.1.1 (Nat.le_refl _) hg6)
        have HO6 := Lib.hid hown6
        clear hown6 hg6
        go_wp2_with fail
        go_ret
        exact ⟨_, rfl, ⟨A, q, c, l6, rfl, HO6.out.bcs, by omega⟩, HS.out.mono (by omega), HG.out⟩
      · go_wp2_with fail
        go_ret
        exact ⟨_, rfl, ⟨A, k, c, l3, rfl, HO.out.bcs, Nat.le_refl _⟩, HS.out.mono (by omega), HG.out⟩
end Go.Proofs.YtgogiljplnninaaGreatDoor

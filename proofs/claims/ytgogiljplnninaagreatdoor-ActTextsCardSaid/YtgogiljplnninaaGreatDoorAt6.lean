/- Contracts of the generators of acts. Conditions: at most 19 acts are asked for. -/
import Derived.Test.YtgogiljplnninaaGreatDoorAt5
import Derived.Test.YtgogiljplnninaaGreatDoorAt3
import Derived.Test.YtgogiljplnninaaGreatDoorBun1
import Derived.Deep.CutBlock
namespace Go.Proofs.YtgogiljplnninaaGreatDoor
open Go.RowKit

theorem Tryz.acsT : ElemT Tryz.prog 45 56 6 72 (.agg #[.int .i64 0, .string ⟨#[]⟩, .string ⟨#[]⟩, .int .i64 0, .int .i64 0, .string ⟨#[]⟩]) := elemT_of Tryz.underlying45 (by kernel_rfl) rfl (by decide)
def IsAcs (lo k : Nat) (v : Value) (w : World) : Prop := ∃ A n c l, v = .slice A n c ∧ Acs w lo A n c l ∧ n ≤ k
theorem OwnAc.low {w w' : World} {lo n c : Nat} {A : Option Addr} {l : List ActV} (h : OwnAc w lo A n c l) {r : Option Nat} (hg : w.grownBy w' r) (hr : ∀ g, r = some g → g < lo) : OwnAc w' lo A n c l := ⟨h.1.low hg hr, h.2⟩
theorem OwnAc.acs {w : World} {lo n c : Nat} {A : Option Addr} {l : List ActV} (h : OwnAc w lo A n c l) : Acs w lo A n c l := ⟨h.1.recs, h.2⟩
set_option maxHeartbeats 16000000 in
set_option maxRecDepth 100000 in
theorem acts_any (sb : Nat) (m : Int) (many : Nat) (w : World) (hs : Str w sb m) (hm : m ≤ 1000000000) (hmany : many ≤ 19) : Calls Tryz.prog 21 #[.pointer (some ⟨sb, 0, none⟩), .int .i64 many] w (Drawn sb (m + 40 * many + 10) (IsAcs w.heap.size many) w) := by
  have hlt := hs.lt
  have HS0 := Lib.hid hs; clear hs
  go_enter Tryz.func21, Tryz.ntmps21
  go_wp2_with fail
  go_loopw [5, 6, 7, 9] (fun out at0 _ t wr => ∃ (k n c : Nat) (A : Option Addr) (l : List ActV) (at_ : Int), k ≤ many ∧ t = .int .i64 k ∧ out = .slice A n c ∧ at0 = .int .i64 at_ ∧ 0 ≤ at_ ∧ at_ ≤ 86400000 * k ∧ n ≤ k ∧ Str wr sb (m + 40 * k) ∧ w.grownBy wr (some sb) ∧ OwnAc wr w.heap.size A n c l) (fun _ _ _ t _ => many - (intOf t).toNat)
  case atStart => exact ⟨0, 0, 0, none, [], 0, Nat.zero_le _, rfl, rfl, rfl, Int.le_refl _, Int.le_refl _, Nat.le_refl _, HS0.out.mono (by omega), gr_refl _ _, OwnR.nil _ _ _, (fun r hr => by cases hr)⟩
  case round =>
    obtain ⟨k, n, c, A, l, at_, hk, rfl, rfl, rfl, ha0, ha1, hnk, hs, hg, hown⟩ := hrel
    have zr := hg.size
    have HS := Lib.hid hs; have HG := Lib.hid hg; have HO := Lib.hid hown; clear hs hg hown
    by_cases hlt2 : k < many
    · have hkn : decide (k < many) = true := by simpa using hlt2
      go_wp2_with fail
      refine (pick_new sb _ [0, 1, 1000, 3600000, 43200000, 86399999, 86400000] _ HS.out (by omega) (by simp) rfl rfl (by simp) (by simp)).mono ?_
      rintro e w1 ⟨v1, rfl, ⟨r1, hr1, rfl⟩, hs1, hg1⟩
      have hx1 : 0 ≤ r1 ∧ r1 ≤ 86400000 := by simp only [List.mem_cons, List.not_mem_nil, or_false] at hr1; omega
      clear hr1
      have z1 := hg1.size; (try simp at z1)
      replace HO := Lib.hid (HO.out.low hg1 (fun g e => by injection e with e; omega))
      (try replace HR := Lib.hid (HR.out.grown hg1 (by simp; omega)))
      replace HG := Lib.hid (gr_same (a := w) HG.out hg1)
      replace HS := Lib.hid hs1
      clear hs1 hg1
      go_wp2_with fail
      refine (some_new (n := 4) sb _ 2 _ HS.out (by omega) (by simp) (by
        repeat (first | exact StrsOk.nil _ | refine StrsOk.cons (by decide) ?_)) rfl (by omega) (by omega)).mono ?_
      rintro e w2 ⟨v2, rfl, ⟨y2, rfl, hy2⟩, hs2, hg2⟩
      have z2 := hg2.size; (try simp at z2)
      replace HO := Lib.hid (HO.out.low hg2 (fun g e => by injection e with e; omega))
      (try replace HR := Lib.hid (HR.out.grown hg2 (by simp; omega)))
      replace HG := Lib.hid (gr_same (a := w) HG.out hg2)
      replace HS := Lib.hid hs2
      clear hs2 hg2
      go_wp2_with fail
      refine (some_new (n := 3) sb _ 2 _ HS.out (by omega) (by simp) (by
        repeat (first | exact StrsOk.nil _ | refine StrsOk.cons (by decide) ?_)) rfl (by omega) (by omega)).mono ?_
      rintro e w3 ⟨v3, rfl, ⟨y3, rfl, hy3⟩, hs3, hg3⟩
      have z3 := hg3.size; (try simp at z3)
      replace HO := Lib.hid (HO.out.low hg3 (fun g e => by injection e with e; omega))
      (try replace HR := Lib.hid (HR.out.grown hg3 (by simp; omega)))
      replace HG := Lib.hid (gr_same (a := w) HG.out hg3)
      replace HS := Lib.hid hs3
      clear hs3 hg3
      go_wp2_with fail
      refine (pick_new sb _ [1, 1, 1, 2, 2, 3, 4, 5] _ HS.out (by omega) (by simp) rfl rfl (by simp) (by simp)).mono ?_
      rintro e w4 ⟨v4, rfl, ⟨r4, hr4, rfl⟩, hs4, hg4⟩
      have hx4 : 1 ≤ r4 ∧ r4 ≤ 5 := by simp only [List.mem_cons, List.not_mem_nil, or_false] at hr4; omega
      clear hr4
      have z4 := hg4.size; (try simp at z4)
      replace HO := Lib.hid (HO.out.low hg4 (fun g e => by injection e with e; omega))
      (try replace HR := Lib.hid (HR.out.grown hg4 (by simp; omega)))
      replace HG := Lib.hid (gr_same (a := w) HG.out hg4)
      replace HS := Lib.hid hs4
      clear hs4 hg4
      obtain ⟨R, hR⟩ : ∃ R, w4.heap.size = R := ⟨_, rfl⟩
      obtain ⟨at1, hat1⟩ : ∃ a, at_ + r1 = a := ⟨_, rfl⟩
      have hb0 : 0 ≤ at1 := by omega
      have hb1 : at1 ≤ 86400000 * (k + 1) := by omega
      go_upto_region 7 with (fail)
      obtain ⟨w8, hw8⟩ : ∃ w8, w4.alloc (.cells #[.int .i64 at1, .string y2, .string y3, .int .i64 r4, .int .i64 0, .string ⟨#[]⟩] 56) = w8 := ⟨_, rfl⟩
      rw [hw8]
      have HR := Lib.hid (show Blk w8 R 56 #[.int .i64 at1, .string y2, .string y3, .int .i64 r4, .int .i64 0, .string ⟨#[]⟩] by rw [← hw8, ← hR]; exact Blk.new _ _ _)
      have HNE := Lib.hid (show blkOf A ≠ some R from fun e => by have := (HO.out.1.1.lt e).2; omega)
      have hRs : sb < R := by have := HS.out.lt; omega
      have hRw : w.heap.size ≤ R := by have := HG.out.size; omega
      replace HO := Lib.hid (HO.out.low (show w4.grownBy w8 none by rw [← hw8]; exact gr_alloc (gr_refl _ _) _) (fun g e => by cases e))
      replace HG := Lib.hid (show w.grownBy w8 (some sb) by rw [← hw8]; exact gr_alloc HG.out _)
      replace HS := Lib.hid (show Str w8 sb _ by rw [← hw8]; exact HS.out.alloc _)
      have z8 := HR.out.lt
      clear hw8 hR hat1 ha0 ha1 z1 z2 z3 z4
      have k3 := HR.out.cell 3
      go_upto_if 29 with (fail)
      go_cut [32] (fun _ wx => ∃ (lg : Int) (fr : ByteArray), fr.size ≤ 8 ∧ Blk wx R 56 #[.int .i64 at1, .string y2, .string y3, .int .i64 r4, .int .i64 lg, .string fr] ∧ Str wx sb (m + 40 * k + 10) ∧ w.grownBy wx (some sb) ∧ OwnAc wx w.heap.size A n c l)
      case first =>
        by_cases d1 : r4 = 1
        · have e1 : (r4 == 1) = true := by simpa using d1
          clear d1
          go_wp2_with fail
          refine (pick_new sb _ [1, 5000, 60000] _ HS.out (by omega) (by simp) rfl rfl (by simp) (by simp)).mono ?_
          rintro e w9 ⟨v9, rfl, ⟨r9, hr9, rfl⟩, hs9, hg9⟩
          skip
          clear hr9
          have z9 := hg9.size; (try simp at z9)
          replace HO := Lib.hid (HO.out.low hg9 (fun g e => by injection e with e; omega))
          (try replace HR := Lib.hid (HR.out.grown hg9 (by simp; omega)))
          replace HG := Lib.hid (gr_same (a := w) HG.out hg9)
          replace HS := Lib.hid hs9
          clear hs9 hg9
          go_wp2_with fail
          refine (some_new (n := 3) sb _ 8 _ HS.out (by omega) (by simp) (by
            repeat (first | exact StrsOk.nil _ | refine StrsOk.cons (by decide) ?_)) rfl (by omega) (by omega)).mono ?_
          rintro e w10 ⟨v10, rfl, ⟨y10, rfl, hy10⟩, hs10, hg10⟩
          have z10 := hg10.size; (try simp at z10)
          replace HO := Lib.hid (HO.out.low hg10 (fun g e => by injection e with e; omega))
          (try replace HR := Lib.hid (HR.out.grown hg10 (by simp; omega)))
          replace HG := Lib.hid (gr_same (a := w) HG.out hg10)
          replace HS := Lib.hid hs10
          clear hs10 hg10
          clear k3
          have f4 := HR.out.frozen 4
          have c4 := HR.out.cell 4
          have f5 := HR.out.frozen 5
          have c5 := HR.out.cell 5
          go_wp2_with fail
          go_meet
          have hg9 : w10.grownBy ((w10.setCell ⟨R, 4, none⟩ (.int .i64 r9)).setCell ⟨R, 5, none⟩ (.string y10)) (some R) := gr_setCell (row := some R) (gr_setCell (row := some R) (gr_refl _ _) (.inl rfl) _) (.inl rfl) _
          exact ⟨r9, y10, hy10, ((HR.out.set_ 4 _).set_ 5 _), (HS.out.grown hg9 (fun g e => by injection e with e; omega)).mono (by omega), gr_trans HG.out hg9 (fun g e => .inr (by injection e with e; omega)), HO.out.1.kept hg9 (fun g e e2 => HNE.out (by rw [e2, e])), HO.out.2⟩
        · have e1 : (r4 == 1) = false := by simpa using d1
          clear d1
          go_wp2_with fail
          go_meet
          exact ⟨0, ⟨#[]⟩, by decide, HR.out, HS.out.mono (by omega), HG.out, HO.out⟩
      case rest =>
        clear HR HS HG HO k3
        obtain ⟨lg, fr, hfr, hr, hs, hg, hown⟩ := hcut
        have HR := Lib.hid hr; have HS := Lib.hid hs; have HG := Lib.hid hg; have HO := Lib.hid hown
        clear hr hs hg hown
        go_wp2_with fail
        refine (flip_any sb _ 60 _ HS.out (by omega) (by omega) (by omega)).mono ?_
        rintro e w10 ⟨v10, rfl, ⟨f10, rfl⟩, hs10, hg10⟩
        have z10 := hg10.size; (try simp at z10)
        replace HO := Lib.hid (HO.out.low hg10 (fun g e => by injection e with e; omega))
        (try replace HR := Lib.hid (HR.out.grown hg10 (by simp; omega)))
        replace HG := Lib.hid (gr_same (a := w) HG.out hg10)
        replace HS := Lib.hid hs10
        clear hs10 hg10
        go_upto_if 39 with (fail)
        go_cut [41] (fun _ wx => ∃ r : ActV, AcOk r ∧ Blk wx R 56 r.row.toArray ∧ Str wx sb (m + 40 * k + 30) ∧ w.grownBy wx (some sb) ∧ OwnAc wx w.heap.size A n c l)
        case first =>
          cases f10
          · go_wp2_with fail
            go_meet
            have hg9 : w10.grownBy w10 (some R) := gr_refl _ _
            exact ⟨⟨at1, y2, y3, r4, lg, fr⟩, ⟨⟨by dsimp only; omega, by dsimp only; omega, by dsimp only; omega⟩, ⟨by dsimp only; omega, by dsimp only; omega⟩, by dsimp only; omega, by dsimp only; omega⟩, HR.out, (HS.out.grown hg9 (fun g e => by injection e with e; omega)).mono (by omega), gr_trans HG.out hg9 (fun g e => .inr (by injection e with e; omega)), HO.out.1.kept hg9 (fun g e e2 => HNE.out (by rw [e2, e])), HO.out.2⟩
          · go_wp2_with fail
            refine (next_any sb _ 4 _ HS.out (by omega) (by omega) (by omega)).mono ?_
            rintro e w11 ⟨v11, rfl, ⟨r11, hlo11, hhi11, rfl⟩, hs11, hg11⟩
            have z11 := hg11.size; (try simp at z11)
            replace HO := Lib.hid (HO.out.low hg11 (fun g e => by injection e with e; omega))
            (try replace HR := Lib.hid (HR.out.grown hg11 (by simp; omega)))
            replace HG := Lib.hid (gr_same (a := w) HG.out hg11)
            replace HS := Lib.hid hs11
            clear hs11 hg11
            rcases (by omega : r11 = 0 ∨ r11 = 1 ∨ r11 = 2 ∨ r11 = 3) with rfl | rfl | rfl | rfl
            · go_wp2_with fail
              refine (some_new (n := 3) sb _ 2 _ HS.out (by omega) (by simp) (by
                repeat (first | exact StrsOk.nil _ | refine StrsOk.cons (by decide) ?_)) rfl (by omega) (by omega)).mono ?_
              rintro e w12 ⟨v12, rfl, ⟨y12, rfl, hy12⟩, hs12, hg12⟩
              have z12 := hg12.size; (try simp at z12)
              replace HO := Lib.hid (HO.out.low hg12 (fun g e => by injection e with e; omega))
              (try replace HR := Lib.hid (HR.out.grown hg12 (by simp; omega)))
              replace HG := Lib.hid (gr_same (a := w) HG.out hg12)
              replace HS := Lib.hid hs12
              clear hs12 hg12
              go_wp2_with fail
              refine (some_new (n := 2) sb _ 2 _ HS.out (by omega) (by simp) (by
                repeat (first | exact StrsOk.nil _ | refine StrsOk.cons (by decide) ?_)) rfl (by omega) (by omega)).mono ?_
              rintro e w13 ⟨v13, rfl, ⟨y13, rfl, hy13⟩, hs13, hg13⟩
              have z13 := hg13.size; (try simp at z13)
              replace HO := Lib.hid (HO.out.low hg13 (fun g e => by injection e with e; omega))
              (try replace HR := Lib.hid (HR.out.grown hg13 (by simp; omega)))
              replace HG := Lib.hid (gr_same (a := w) HG.out hg13)
              replace HS := Lib.hid hs13
              clear hs13 hg13
              have f1 := HR.out.frozen 1
              have c1 := HR.out.cell 1
              have f2 := HR.out.frozen 2
              have c2 := HR.out.cell 2
              go_wp2_with fail
              go_meet
              have hg9 : w13.grownBy ((w13.setCell ⟨R, 1, none⟩ (.string y12)).setCell ⟨R, 2, none⟩ (.string y13)) (some R) := gr_setCell (row := some R) (gr_setCell (row := some R) (gr_refl _ _) (.inl rfl) _) (.inl rfl) _
              exact ⟨⟨at1, y12, y13, r4, lg, fr⟩, ⟨⟨by dsimp only; omega, by dsimp only; omega, by dsimp only; omega⟩, ⟨by dsimp only; omega, by dsimp only; omega⟩, by dsimp only; omega, by dsimp only; omega⟩, ((HR.out.set_ 1 _).set_ 2 _), (HS.out.grown hg9 (fun g e => by injection e with e; omega)).mono (by omega), gr_trans HG.out hg9 (fun g e => .inr (by injection e with e; omega)), HO.out.1.kept hg9 (fun g e e2 => HNE.out (by rw [e2, e])), HO.out.2⟩
            · go_wp2_with fail
              refine (odd_any sb _ 1 5 _ HS.out (by omega) (by omega) (by omega) (by omega)).mono ?_
              rintro e w12 ⟨v12, rfl, ⟨r12, hlo12, hhi12, rfl⟩, hs12, hg12⟩
              have z12 := hg12.size; (try simp at z12)
              replace HO := Lib.hid (HO.out.low hg12 (fun g e => by injection e with e; omega))
              (try replace HR := Lib.hid (HR.out.grown hg12 (by simp; omega)))
              replace HG := Lib.hid (gr_same (a := w) HG.out hg12)
              replace HS := Lib.hid hs12
              clear hs12 hg12
              have f3 := HR.out.frozen 3
              have c3 := HR.out.cell 3
              go_wp2_with fail
              go_meet
              have hg9 : w12.grownBy (w12.setCell ⟨R, 3, none⟩ (.int .i64 r12)) (some R) := gr_setCell (row := some R) (gr_refl _ _) (.inl rfl) _
              exact ⟨⟨at1, y2, y3, r12, lg, fr⟩, ⟨⟨by dsimp only; omega, by dsimp only; omega, by dsimp only; omega⟩, ⟨by dsimp only; omega, by dsimp only; omega⟩, by dsimp only; omega, by dsimp only; omega⟩, (HR.out.set_ 3 _), (HS.out.grown hg9 (fun g e => by injection e with e; omega)).mono (by omega), gr_trans HG.out hg9 (fun g e => .inr (by injection e with e; omega)), HO.out.1.kept hg9 (fun g e e2 => HNE.out (by rw [e2, e])), HO.out.2⟩
            · go_wp2_with fail
              refine (odd_any sb _ 1 1000 _ HS.out (by omega) (by omega) (by omega) (by omega)).mono ?_
              rintro e w12 ⟨v12, rfl, ⟨r12, hlo12, hhi12, rfl⟩, hs12, hg12⟩
              have z12 := hg12.size; (try simp at z12)
              replace HO := Lib.hid (HO.out.low hg12 (fun g e => by injection e with e; omega))
              (try replace HR := Lib.hid (HR.out.grown hg12 (by simp; omega)))
              replace HG := Lib.hid (gr_same (a := w) HG.out hg12)
              replace HS := Lib.hid hs12
              clear hs12 hg12
              go_wp2_with fail
              refine (some_new (n := 3) sb _ 8 _ HS.out (by omega) (by simp) (by
                repeat (first | exact StrsOk.nil _ | refine StrsOk.cons (by decide) ?_)) rfl (by omega) (by omega)).mono ?_
              rintro e w13 ⟨v13, rfl, ⟨y13, rfl, hy13⟩, hs13, hg13⟩
              have z13 := hg13.size; (try simp at z13)
              replace HO := Lib.hid (HO.out.low hg13 (fun g e => by injection e with e; omega))
              (try replace HR := Lib.hid (HR.out.grown hg13 (by simp; omega)))
              replace HG := Lib.hid (gr_same (a := w) HG.out hg13)
              replace HS := Lib.hid hs13
              clear hs13 hg13
              have f4 := HR.out.frozen 4
              have c4 := HR.out.cell 4
              have f5 := HR.out.frozen 5
              have c5 := HR.out.cell 5
              go_wp2_with fail
              go_meet
              have hg9 : w13.grownBy ((w13.setCell ⟨R, 4, none⟩ (.int .i64 r12)).setCell ⟨R, 5, none⟩ (.string y13)) (some R) := gr_setCell (row := some R) (gr_setCell (row := some R) (gr_refl _ _) (.inl rfl) _) (.inl rfl) _
              exact ⟨⟨at1, y2, y3, r4, r12, y13⟩, ⟨⟨by dsimp only; omega, by dsimp only; omega, by dsimp only; omega⟩, ⟨by dsimp only; omega, by dsimp only; omega⟩, by dsimp only; omega, by dsimp only; omega⟩, ((HR.out.set_ 4 _).set_ 5 _), (HS.out.grown hg9 (fun g e => by injection e with e; omega)).mono (by omega), gr_trans HG.out hg9 (fun g e => .inr (by injection e with e; omega)), HO.out.1.kept hg9 (fun g e e2 => HNE.out (by rw [e2, e])), HO.out.2⟩
            · go_wp2_with fail
              refine (odd_any sb _ 0 1000 _ HS.out (by omega) (by omega) (by omega) (by omega)).mono ?_
              rintro e w12 ⟨v12, rfl, ⟨r12, hlo12, hhi12, rfl⟩, hs12, hg12⟩
              have z12 := hg12.size; (try simp at z12)
              replace HO := Lib.hid (HO.out.low hg12 (fun g e => by injection e with e; omega))
              (try replace HR := Lib.hid (HR.out.grown hg12 (by simp; omega)))
              replace HG := Lib.hid (gr_same (a := w) HG.out hg12)
              replace HS := Lib.hid hs12
              clear hs12 hg12
              have f0 := HR.out.frozen 0
              have c0 := HR.out.cell 0
              go_wp2_with fail
              go_meet
              have hg9 : w12.grownBy (w12.setCell ⟨R, 0, none⟩ (.int .i64 r12)) (some R) := gr_setCell (row := some R) (gr_refl _ _) (.inl rfl) _
              exact ⟨⟨r12, y2, y3, r4, lg, fr⟩, ⟨⟨by dsimp only; omega, by dsimp only; omega, by dsimp only; omega⟩, ⟨by dsimp only; omega, by dsimp only; omega⟩, by dsimp only; omega, by dsimp only; omega⟩, (HR.out.set_ 0 _), (HS.out.grown hg9 (fun g e => by injection e with e; omega)).mono (by omega), gr_trans HG.out hg9 (fun g e => .inr (by injection e with e; omega)), HO.out.1.kept hg9 (fun g e e2 => HNE.out (by rw [e2, e])), HO.out.2⟩
        case rest =>
          clear HR HS HG HO
          obtain ⟨⟨at2, bx, id, kd, lg2, frm⟩, hok, hr, hs, hg, hown⟩ := hcut
          have HR := Lib.hid (show Blk _ R 56 #[.int .i64 at2, .string bx, .string id, .int .i64 kd, .int .i64 lg2, .string frm] from hr); have HS := Lib.hid hs; have HG := Lib.hid hg; have HO := Lib.hid hown; have HOK := Lib.hid hok
          have zc := hg.size
          clear hr hs hg hown hok
          go_wp2_with (first
            | (refine wpl_load_all Tryz.acT rfl _ rfl _ rfl _ _ HR.out rfl ?_)
            | (at_builtin
               refine wpl_app _ rfl _ _ Tryz.acsT rfl w.heap.size A n c _ rfl (by exact HO.out.1.1.alloc _) _ _ 1 1 [.int .i64 at2, .string bx, .string id, .int .i64 kd, .int .i64 lg2, .string frm] rfl (by exact Reads.one _ _ _ _ rfl) (by simp [Value.oneCell']) (by unfold maxLen; omega) (by omega) (by simp; omega) ?_
               intro A5 c5 w5 h5
               have H5 := Lib.hid h5; clear h5)
            | fail)
          go_roundw
          case rel => exact ⟨k + 1, n + 1, c5, A5, l ++ [⟨at2, bx, id, kd, lg2, frm⟩], at1, by omega, by go_num, rfl, rfl, hb0, by omega, by omega, ((HS.out.alloc _).grown H5.out.2.1 (fun g e => by have := (HO.out.1.1.lt e).1; omega)).mono (by omega), H5.out.gr (gr_alloc HG.out _) (HO.out.1.1.alloc _) (Nat.le_refl _), (HO.out.1.alloc _).app rfl H5.out, fun r hr => by
            rcases List.mem_append.1 hr with h | h
            · exact HO.out.2 r h
            · rw [List.mem_singleton.1 h]; exact HOK.out⟩
          case measure => simp [intOf]; omega
    · obtain rfl : k = many := by omega
      go_wp2_with fail
      refine (sortStableA_any w.heap.size A n c l _ HO.out (by omega)).mono ?_
      rintro e w3 ⟨rfl, l3, hown3, hg3⟩
      replace HS := Lib.hid (HS.out.grown hg3 (fun g e => by have := (HO.out.1.1.lt e).1; omega))
      replace HG := Lib.hid (gr_own HG.out HO.out.1.1 (Nat.le_refl _) hg3)
      replace HO := Lib.hid hown3
      clear hown3 hg3
      go_wp2_with fail
      refine (flip_any sb _ 60 _ HS.out (by omega) (by omega) (by omega)).mono ?_
      rintro e w5 ⟨v5, rfl, ⟨f5, rfl⟩, hs5, hg5⟩
      have z5 := hg5.size; (try simp at z5)
      replace HO := Lib.hid (HO.out.low hg5 (fun g e => by injection e with e; omega))
      (try replace HR := Lib.hid (HR.out.grown hg5 (by simp; omega)))
      replace HG := Lib.hid (gr_same (a := w) HG.out hg5)
      replace HS := Lib.hid hs5
      clear hs5 hg5
      cases f5
      · go_wp2_with fail
        refine (compactA_any w.heap.size A n c l3 _ HO.out (by omega)).mono ?_
        rintro e w6 ⟨q, l6, rfl, hown6, hg6, hq⟩
        replace HS := Lib.hid (HS.out.grown hg6 (fun g e => by have := (HO.out.1.1.lt e).1; omega))
        replace HG := Lib.hid (gr_own HG.out HO.out.1.1 (Nat.le_refl _) hg6)
        have HO6 := Lib.hid hown6
        clear hown6 hg6
        go_wp2_with fail
        go_ret
        exact ⟨_, rfl, ⟨A, q, c, l6, rfl, HO6.out.acs, by omega⟩, HS.out.mono (by omega), HG.out⟩
      · go_wp2_with fail
        go_ret
        exact ⟨_, rfl, ⟨A, n, c, l3, rfl, HO.out.acs, hnk⟩, HS.out.mono (by omega), HG.out⟩
set_option maxHeartbeats 8000000 in
theorem rightActs_any (sb : Nat) (m : Int) (many : Nat) (w : World) (hs : Str w sb m) (hm : m ≤ 100000000) (hmany : many ≤ 14) :
    Calls Tryz.prog 75 #[.pointer (some ⟨sb, 0, none⟩), .int .i64 many] w (Drawn sb (m + 200 * many + 50) (fun v w' => ∃ A n c l, v = .slice A n c ∧ Acs w' w.heap.size A n c l ∧ n ≤ many ∧ ∀ z ∈ l, AcRg z) w) := by
  have hlt := hs.lt
  have HS0 := Lib.hid hs; clear hs
  go_enter Tryz.func75, Tryz.ntmps75
  go_wp2_with fail
  go_loopw [5, 6] (fun _ t wr => ∃ k : Nat, k ≤ 5 ∧ t = .int .i64 k ∧ Str wr sb (m + (40 * many + 10) * k) ∧ w.grownBy wr (some sb)) (fun _ t _ => 5 - (intOf t).toNat)
  case atStart => exact ⟨0, Nat.zero_le _, rfl, by simpa using HS0.out, gr_refl _ _⟩
  case round =>
    obtain ⟨k, hk, rfl, hs, hg⟩ := hrel
    have zr := hg.size
    have HS := Lib.hid hs; have HG := Lib.hid hg; clear hs hg
    obtain ⟨Q, hQ⟩ : ∃ Q : Int, 40 * (many : Int) + 10 = Q := ⟨_, rfl⟩
    rw [hQ] at HS
    have hQ0 : 0 ≤ Q ∧ Q ≤ 600 := by omega
    obtain ⟨M, hM⟩ : ∃ M : Int, m + Q * k = M := ⟨_, rfl⟩
    have hmk : Q * (k : Int) ≤ 600 * 5 := Int.mul_le_mul (by omega) (by omega) (by omega) (by omega)
    have hmk0 : 0 ≤ Q * (k : Int) := Int.mul_nonneg (by omega) (by omega)
    rw [hM] at HS
    have hfin : M ≤ m + 200 * many + 50 := by
      have : Q * (k : Int) ≤ Q * 5 := Int.mul_le_mul_of_nonneg_left (by omega) (by omega)
      omega
    by_cases hlt2 : k < 5
    · have hM2 : M + 40 * many + 10 = m + Q * ((k + 1 : Nat) : Int) := by
        rw [← hM, show ((k + 1 : Nat) : Int) = (k : Int) + 1 by omega, Int.mul_add, Int.mul_one]; omega
      have hfin2 : M + 40 * many + 10 ≤ m + 200 * many + 50 := by
        have : Q * (k : Int) ≤ Q * 4 := Int.mul_le_mul_of_nonneg_left (by omega) (by omega)
        omega
      go_wp2_with fail
      refine (acts_any sb _ many _ HS.out (by omega) (by omega)).mono ?_
      rintro e w1 ⟨v1, rfl, ⟨A, n, c, l, rfl, hrc, hn⟩, hs1, hg1⟩
      replace HS := Lib.hid hs1
      have HR := Lib.hid hrc
      replace HG := Lib.hid (gr_same (a := w) HG.out hg1)
      obtain ⟨E, hE⟩ : ∃ E, acsE l = E := ⟨_, rfl⟩
      have HE := Lib.hid hE
      clear hs1 hrc hg1 hE
      go_wp2_with fail
      refine (actsFault_any _ A n c l _ HR.out (by omega)).mono ?_
      rintro e w2 ⟨rfl, hg2⟩
      rw [HE.out]
      replace HS := Lib.hid (HS.out.grown hg2 (fun g e => by cases e))
      replace HR := Lib.hid (HR.out.grown hg2 (fun g e => by cases e))
      replace HG := Lib.hid (gr_none HG.out hg2)
      clear hg2
      by_cases hz : E = 0
      · have dz : (E == 0) = true := by simpa using hz
        have hrg := (acs_all (HE.out.trans hz)).2
        have HRG := Lib.hid hrg
        clear hz hrg
        go_wp2_with fail
        go_ret
        exact ⟨_, rfl, ⟨A, n, c, l, rfl, ⟨HR.out.1.lower zr, HR.out.2⟩, hn, HRG.out⟩, HS.out.mono (by omega), HG.out⟩
      · have dz : (E == 0) = false := by simpa using hz
        go_wp2_with fail
        go_roundw
        case rel => exact ⟨k + 1, by omega, by go_num, (by rw [hQ]; exact HS.out.mono (by omega)), HG.out⟩
        case measure => simp [intOf]; omega
    · obtain rfl : k = 5 := by omega
      go_wp2_with fail
      go_ret
      exact ⟨_, rfl, ⟨none, 0, 0, [], rfl, ⟨(OwnR.nil (row := ActV.row) (k := 6) wr w.heap.size 0).recs, fun z hz => by cases hz⟩, by omega, fun z hz => by cases hz⟩, HS.out.mono (by omega), HG.out⟩
end Go.Proofs.YtgogiljplnninaaGreatDoor

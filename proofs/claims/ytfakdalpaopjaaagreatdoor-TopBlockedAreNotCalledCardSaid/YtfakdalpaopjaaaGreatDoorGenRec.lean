/- Contract of the generator of records. Conditions: at most 14 records are asked for. -/
import Derived.Test.YtfakdalpaopjaaaGreatDoorBun14
import Derived.Test.YtfakdalpaopjaaaGreatDoorBun12
import Derived.Test.YtfakdalpaopjaaaGreatDoorBun1
import Derived.Deep.CutBlock
namespace Go.Proofs.YtfakdalpaopjaaaGreatDoor
open Go.RowKit

theorem Tryz.rcsT : ElemT Tryz.prog 35 55 8 96 (.agg #[.string ⟨#[]⟩, .string ⟨#[]⟩, .string ⟨#[]⟩, .int .i64 0, .int .i64 0, .int .i64 0, .int .i64 0, .string ⟨#[]⟩]) := elemT_of Tryz.underlying35 (by kernel_rfl) rfl (by decide)
def IsRcs (lo k : Nat) (v : Value) (w : World) : Prop := ∃ A n c l, v = .slice A n c ∧ Rcs w lo A n c l ∧ n ≤ k
theorem OwnRc.low {w w' : World} {lo n c : Nat} {A : Option Addr} {l : List RcV} (h : OwnRc w lo A n c l) {r : Option Nat} (hg : w.grownBy w' r) (hr : ∀ g, r = some g → g < lo) : OwnRc w' lo A n c l := ⟨h.1.low hg hr, h.2⟩
theorem OwnRc.rcs {w : World} {lo n c : Nat} {A : Option Addr} {l : List RcV} (h : OwnRc w lo A n c l) : Rcs w lo A n c l := ⟨h.1.recs, h.2⟩
set_option maxHeartbeats 1000000 in
theorem sameIdG_any (x z : RcV) (cb : Nat) (w : World) (hb : Blk w cb 55 #[.string z.id, .string z.frm, .string z.too, .int .i64 z.at_, .int .i64 z.ring, .int .i64 z.talk, .int .i64 z.how, .string z.car]) :
    Calls Tryz.prog 49 #[.agg #[.string x.id, .string x.frm, .string x.too, .int .i64 x.at_, .int .i64 x.ring, .int .i64 x.talk, .int .i64 x.how, .string x.car], .pointer (some ⟨cb, 0, none⟩)] w (RetV (.bool (nb x.id == nb z.id)) w) := by
  have hlt := hb.lt
  have kc := (hb.alloc (.cells #[.string x.id, .string x.frm, .string x.too, .int .i64 x.at_, .int .i64 x.ring, .int .i64 x.talk, .int .i64 x.how, .string x.car] 55)).cell 0
  have HE := Lib.hid (eqS_nb x.id z.id)
  have HB := Lib.hid hb; clear hb
  go_enter Tryz.func49, Tryz.ntmps49
  go_wp2_with fail
  go_ret
  exact ⟨by rw [← HE.out]; rfl, gr_alloc (gr_refl _ _) _⟩
set_option maxHeartbeats 2000000 in
theorem idxRecG_any (lo : Nat) (A : Option Addr) (n c : Nat) (l : List RcV) (z : RcV) (cb : Nat) (w : World) (h : Recs RcV.row 8 w lo A n c l) (hn : n ≤ 1000000000000) (hb : Blk w cb 55 #[.string z.id, .string z.frm, .string z.too, .int .i64 z.at_, .int .i64 z.ring, .int .i64 z.talk, .int .i64 z.how, .string z.car]) :
    Calls Tryz.prog 87 #[.slice A n c, .func (.func 49) #[] #[.pointer (some ⟨cb, 0, none⟩)]] w (RetV (.int .i64 (idxP (fun x : RcV => nb x.id == nb z.id) l)) w) := by
  have H := Lib.hid h; have HB := Lib.hid hb; clear h hb
  go_enter Tryz.func87, Tryz.ntmps87
  go_wp2_with fail
  go_loopw [5, 8] (fun _ t wr => ∃ i : Nat, i ≤ n ∧ t = .int .i64 i ∧ w.grownBy wr none ∧ (l.take i).all (fun x => !(nb x.id == nb z.id)) = true) (fun _ t _ => n - (intOf t).toNat)
  case atStart => exact ⟨0, Nat.zero_le _, rfl, gr_refl _ _, by simp⟩
  case round =>
    obtain ⟨i, hi, rfl, hg, ha⟩ := hrel
    have HA := Lib.hid ha; have HG := Lib.hid hg; clear ha hg
    by_cases hlt : i < n
    · obtain ⟨g, o, x, rfl, _, hgl, hz, hc⟩ := (H.out.grown HG.out (fun g e => by cases e)).get RcV.row_len hlt
      have HZ := Lib.hid hz; have HC := Lib.hid hc; clear hz hc
      obtain ⟨B, hB⟩ : ∃ B, (nb x.id == nb z.id) = B := ⟨_, rfl⟩
      have HE := Lib.hid hB; clear hB
      cases B
      all_goals
        go_wp2_with (first
          | (refine wpl_load_at Tryz.rcT rfl _ rfl _ rfl [.string x.id, .string x.frm, .string x.too, .int .i64 x.at_, .int .i64 x.ring, .int .i64 x.talk, .int .i64 x.how, .string x.car] rfl (fun j u hu => by rw [add_mk]; exact HC.out j u hu) ?_)
          | (go_at_call 49; refine (sameIdG_any x z cb _ (HB.out.grown HG.out (by simp))).mono ?_; rintro e w2 ⟨rfl, hg2⟩; rw [HE.out]; have HG2 := Lib.hid (gr_none HG.out hg2); clear hg2)
          | fail)
      · go_roundw
        case rel => exact ⟨i + 1, by omega, by go_num, HG2.out, allP_succ (p := fun x : RcV => nb x.id == nb z.id) HA.out HZ.out HE.out⟩
        case measure => simp [intOf]; omega
      · go_ret
        exact ⟨by rw [idxP_some (p := fun x : RcV => nb x.id == nb z.id) HA.out HZ.out HE.out]; rfl, HG2.out⟩
    · obtain rfl : i = n := by omega
      go_wp2_with fail
      go_ret
      have h := HA.out
      rw [List.take_of_length_le (by rw [H.out.len]; exact Nat.le_refl _)] at h
      exact ⟨by rw [idxP_none (p := fun x : RcV => nb x.id == nb z.id) h]; rfl, HG.out⟩
set_option maxHeartbeats 1000000 in
theorem hasRecG_any (lo : Nat) (A : Option Addr) (n c : Nat) (l : List RcV) (z : RcV) (cb : Nat) (w : World) (h : Recs RcV.row 8 w lo A n c l) (hn : n ≤ 1000000000000) (hb : Blk w cb 55 #[.string z.id, .string z.frm, .string z.too, .int .i64 z.at_, .int .i64 z.ring, .int .i64 z.talk, .int .i64 z.how, .string z.car]) :
    Calls Tryz.prog 48 #[.slice A n c, .func (.func 49) #[] #[.pointer (some ⟨cb, 0, none⟩)]] w (RetV (.bool (memS (l.map (·.id)) z.id)) w) := by
  have H := Lib.hid h; have HB := Lib.hid hb; clear h hb
  have HI := Lib.hid (show decide (0 ≤ idxP (fun x : RcV => nb x.id == nb z.id) l) = memS (l.map (·.id)) z.id by rw [idxP_any]; unfold memS; rw [List.any_map]; rfl)
  obtain ⟨I, hI⟩ : ∃ I, idxP (fun x : RcV => nb x.id == nb z.id) l = I := ⟨_, rfl⟩
  rw [hI] at HI
  have HI2 := Lib.hid hI; clear hI
  go_enter Tryz.func48, Tryz.ntmps48
  go_wp2_with (first
    | (go_at_call 87; refine (idxRecG_any lo _ _ _ l z cb _ H.out hn HB.out).mono ?_; rintro e w2 ⟨rfl, hg2⟩; rw [HI2.out]; have HG2 := Lib.hid hg2; clear hg2)
    | fail)
  go_ret
  exact ⟨by rw [← HI.out]; rfl, HG2.out⟩
set_option maxHeartbeats 8000000 in
set_option maxRecDepth 100000 in
theorem records_any (sb : Nat) (m : Int) (many : Nat) (w : World) (hs : Str w sb m) (hm : m ≤ 1000000000) (hmany : many ≤ 14) : Calls Tryz.prog 21 #[.pointer (some ⟨sb, 0, none⟩), .int .i64 many] w (Drawn sb (m + 60 * many) (IsRcs w.heap.size many) w) := by
  have hlt := hs.lt
  have HS0 := Lib.hid hs; clear hs
  go_enter Tryz.func21, Tryz.ntmps21
  go_wp2_with fail
  go_loopw [5, 6, 7, 8, 10] (fun out at0 _ _ t wr => ∃ (k n c : Nat) (A : Option Addr) (l : List RcV) (at_ : Int), k ≤ many ∧ t = .int .i64 k ∧ out = .slice A n c ∧ at0 = .int .i64 at_ ∧ 0 ≤ at_ ∧ at_ ≤ 1296000000 * k ∧ n ≤ k ∧ Str wr sb (m + 60 * k) ∧ w.grownBy wr (some sb) ∧ OwnRc wr w.heap.size A n c l) (fun _ _ _ _ t _ => many - (intOf t).toNat)
  case atStart => exact ⟨0, 0, 0, none, [], 0, Nat.zero_le _, rfl, rfl, rfl, Int.le_refl _, Int.le_refl _, Nat.le_refl _, HS0.out.mono (by omega), gr_refl _ _, OwnR.nil _ _ _, (fun r hr => by cases hr)⟩
  case round =>
    obtain ⟨k, n, c, A, l, at_, hk, rfl, rfl, rfl, ha0, ha1, hnk, hs, hg, hown⟩ := hrel
    have zr := hg.size
    have HS := Lib.hid hs; have HG := Lib.hid hg; have HO := Lib.hid hown; clear hs hg hown
    by_cases hlt2 : k < many
    · have hkn : decide (k < many) = true := by simpa using hlt2
      go_wp2_with fail
      refine (pick_new sb _ [0, 10, 100, 1000, 60000, 1296000000] _ HS.out (by omega) (by simp) rfl rfl (by simp) (by simp)).mono ?_
      rintro e w1 ⟨v1, rfl, ⟨r1, hr1, rfl⟩, hs1, hg1⟩
      have hx1 : 0 ≤ r1 ∧ r1 ≤ 1296000000 := by simp at hr1; omega
      clear hr1
      obtain ⟨hx10, hx11⟩ := hx1
      have z1 := hg1.size; (try simp at z1)
      replace HO := Lib.hid (HO.out.low hg1 (fun g e => by injection e with e; omega))
      (try replace HR := Lib.hid (HR.out.grown hg1 (by simp; omega)))
      replace HG := Lib.hid (gr_same (a := w) HG.out hg1)
      replace HS := Lib.hid hs1
      clear hs1 hg1
      go_wp2_with fail
      refine (next_any sb _ 3 _ HS.out (by omega) (by omega) (by omega)).mono ?_
      rintro e w2 ⟨v2, rfl, ⟨r2, hlo2, hhi2, rfl⟩, hs2, hg2⟩
      have z2 := hg2.size; (try simp at z2)
      replace HO := Lib.hid (HO.out.low hg2 (fun g e => by injection e with e; omega))
      (try replace HR := Lib.hid (HR.out.grown hg2 (by simp; omega)))
      replace HG := Lib.hid (gr_same (a := w) HG.out hg2)
      replace HS := Lib.hid hs2
      clear hs2 hg2
      obtain ⟨c0, hc0⟩ : ∃ c0, Utf8.encode (97 + ((k : Int) * 7 + r2) % 26) = c0 := ⟨_, rfl⟩
      have hcs : c0.size ≤ 4 := by rw [← hc0]; exact enc_size _
      obtain ⟨ids, hids⟩ : ∃ ids, (⟨#[114]⟩ : ByteArray) ++ c0 = ids := ⟨_, rfl⟩
      have hid1 : ids.size ≤ 5 := by rw [← hids, app_size]; show 1 + c0.size ≤ 5; omega
      have a1 : ¬ 9223372036854775807 < 1 + c0.size := by omega
      have a2 : ¬ 9223372036854775807 < (⟨#[114]⟩ : ByteArray).size + c0.size := a1
      go_wp2_with fail
      refine (some_new (n := 5) sb _ 5 _ HS.out (by omega) (by simp) (by
        repeat (first | exact StrsOk.nil _ | refine StrsOk.cons (by decide) ?_)) rfl (by omega) (by omega)).mono ?_
      rintro e w3 ⟨v3, rfl, ⟨y3, rfl, hy3⟩, hs3, hg3⟩
      have z3 := hg3.size; (try simp at z3)
      replace HO := Lib.hid (HO.out.low hg3 (fun g e => by injection e with e; omega))
      (try replace HR := Lib.hid (HR.out.grown hg3 (by simp; omega)))
      replace HG := Lib.hid (gr_same (a := w) HG.out hg3)
      replace HS := Lib.hid hs3
      clear hs3 hg3
      clear hc0 hids a1 a2 hcs
      go_wp2_with fail
      refine (some_new (n := 5) sb _ 6 _ HS.out (by omega) (by simp) (by
        repeat (first | exact StrsOk.nil _ | refine StrsOk.cons (by decide) ?_)) rfl (by omega) (by omega)).mono ?_
      rintro e w4 ⟨v4, rfl, ⟨y4, rfl, hy4⟩, hs4, hg4⟩
      have z4 := hg4.size; (try simp at z4)
      replace HO := Lib.hid (HO.out.low hg4 (fun g e => by injection e with e; omega))
      (try replace HR := Lib.hid (HR.out.grown hg4 (by simp; omega)))
      replace HG := Lib.hid (gr_same (a := w) HG.out hg4)
      replace HS := Lib.hid hs4
      clear hs4 hg4
      go_wp2_with fail
      refine (pick_new sb _ [0, 5000] _ HS.out (by omega) (by simp) rfl rfl (by simp) (by simp)).mono ?_
      rintro e w5 ⟨v5, rfl, ⟨r5, hr5, rfl⟩, hs5, hg5⟩
      clear hr5
      have z5 := hg5.size; (try simp at z5)
      replace HO := Lib.hid (HO.out.low hg5 (fun g e => by injection e with e; omega))
      (try replace HR := Lib.hid (HR.out.grown hg5 (by simp; omega)))
      replace HG := Lib.hid (gr_same (a := w) HG.out hg5)
      replace HS := Lib.hid hs5
      clear hs5 hg5
      go_wp2_with fail
      refine (pick_new sb _ [1, 1, 1, 2, 3, 4] _ HS.out (by omega) (by simp) rfl rfl (by simp) (by simp)).mono ?_
      rintro e w6 ⟨v6, rfl, ⟨r6, hr6, rfl⟩, hs6, hg6⟩
      clear hr6
      have z6 := hg6.size; (try simp at z6)
      replace HO := Lib.hid (HO.out.low hg6 (fun g e => by injection e with e; omega))
      (try replace HR := Lib.hid (HR.out.grown hg6 (by simp; omega)))
      replace HG := Lib.hid (gr_same (a := w) HG.out hg6)
      replace HS := Lib.hid hs6
      clear hs6 hg6
      go_wp2_with fail
      refine (some_new (n := 2) sb _ 4 _ HS.out (by omega) (by simp) (by
        repeat (first | exact StrsOk.nil _ | refine StrsOk.cons (by decide) ?_)) rfl (by omega) (by omega)).mono ?_
      rintro e w7 ⟨v7, rfl, ⟨y7, rfl, hy7⟩, hs7, hg7⟩
      have z7 := hg7.size; (try simp at z7)
      replace HO := Lib.hid (HO.out.low hg7 (fun g e => by injection e with e; omega))
      (try replace HR := Lib.hid (HR.out.grown hg7 (by simp; omega)))
      replace HG := Lib.hid (gr_same (a := w) HG.out hg7)
      replace HS := Lib.hid hs7
      clear hs7 hg7
      obtain ⟨R, hR⟩ : ∃ R, w7.heap.size = R := ⟨_, rfl⟩
      obtain ⟨at1, hat1⟩ : ∃ a, at_ + r1 = a := ⟨_, rfl⟩
      have hb0 : 0 ≤ at1 := by omega
      have hb1 : at1 ≤ 1296000000 * (k + 1) := by omega
      go_upto_region 8 with (fail)
      obtain ⟨w8, hw8⟩ : ∃ w8, w7.alloc (.cells #[.string ids, .string y3, .string y4, .int .i64 at1, .int .i64 r5, .int .i64 0, .int .i64 r6, .string y7] 55) = w8 := ⟨_, rfl⟩
      rw [hw8]
      have HR := Lib.hid (show Blk w8 R 55 #[.string ids, .string y3, .string y4, .int .i64 at1, .int .i64 r5, .int .i64 0, .int .i64 r6, .string y7] by rw [← hw8, ← hR]; exact Blk.new _ _ _)
      have HNE := Lib.hid (show blkOf A ≠ some R from fun e => by have := (HO.out.1.1.lt e).2; omega)
      have hRs : sb < R := by have := HS.out.lt; omega
      have hRw : w.heap.size ≤ R := by have := HG.out.size; omega
      replace HO := Lib.hid (HO.out.low (show w7.grownBy w8 none by rw [← hw8]; exact gr_alloc (gr_refl _ _) _) (fun g e => by cases e))
      replace HG := Lib.hid (show w.grownBy w8 (some sb) by rw [← hw8]; exact gr_alloc HG.out _)
      replace HS := Lib.hid (show Str w8 sb _ by rw [← hw8]; exact HS.out.alloc _)
      have z8 := HR.out.lt
      clear hw8 hR hat1 ha0 ha1 z1 z2 z3 z4 z5 z6 z7
      have k6 := HR.out.cell 6
      go_upto_if 47 with (fail)
      go_cut [50] (fun _ wx => ∃ tk : Int, Blk wx R 55 #[.string ids, .string y3, .string y4, .int .i64 at1, .int .i64 r5, .int .i64 tk, .int .i64 r6, .string y7] ∧ Str wx sb (m + 60 * k + 20) ∧ w.grownBy wx (some sb) ∧ OwnRc wx w.heap.size A n c l)
      case first =>
        by_cases d1 : r6 = 1
        · have e1 : (r6 == 1) = true := by simpa using d1
          clear d1
          go_wp2_with fail
          refine (pick_new sb _ [1, 5000, 60000, 60001, 61500, 90000] _ HS.out (by omega) (by simp) rfl rfl (by simp) (by simp)).mono ?_
          rintro e w9 ⟨v9, rfl, ⟨r9, hr9, rfl⟩, hs9, hg9⟩
          clear hr9 k6
          have z9 := hg9.size; (try simp at z9)
          replace HO := Lib.hid (HO.out.low hg9 (fun g e => by injection e with e; omega))
          (try replace HR := Lib.hid (HR.out.grown hg9 (by simp; omega)))
          replace HG := Lib.hid (gr_same (a := w) HG.out hg9)
          replace HS := Lib.hid hs9
          clear hs9 hg9
          have f5 := HR.out.frozen 5
          have c5 := HR.out.cell 5
          go_wp2_with fail
          go_meet
          have hg9 : w9.grownBy (w9.setCell ⟨R, 5, none⟩ (.int .i64 r9)) (some R) := gr_setCell (gr_refl _ _) (.inl rfl) _
          exact ⟨r9, HR.out.set_ 5 _, (HS.out.grown hg9 (fun g e => by injection e with e; omega)).mono (by omega), gr_trans HG.out hg9 (fun g e => .inr (by injection e with e; omega)), HO.out.1.kept hg9 (fun g e e2 => HNE.out (by rw [e2, e])), HO.out.2⟩
        · have e1 : (r6 == 1) = false := by simpa using d1
          clear d1
          go_wp2_with fail
          go_meet
          exact ⟨0, HR.out, HS.out.mono (by omega), HG.out, HO.out⟩
      case rest =>
        clear HR HS HG HO k6
        obtain ⟨tk, hr, hs, hg, hown⟩ := hcut
        have HR := Lib.hid hr; have HS := Lib.hid hs; have HG := Lib.hid hg; have HO := Lib.hid hown
        clear hr hs hg hown
        go_wp2_with fail
        refine (flip_any sb _ 80 _ HS.out (by omega) (by omega) (by omega)).mono ?_
        rintro e w10 ⟨v10, rfl, ⟨f10, rfl⟩, hs10, hg10⟩
        have z10 := hg10.size; (try simp at z10)
        replace HO := Lib.hid (HO.out.low hg10 (fun g e => by injection e with e; omega))
        (try replace HR := Lib.hid (HR.out.grown hg10 (by simp; omega)))
        replace HG := Lib.hid (gr_same (a := w) HG.out hg10)
        replace HS := Lib.hid hs10
        clear hs10 hg10
        go_upto_if 53 with (fail)
        go_cut [55] (fun _ wx => ∃ r : RcV, RcOk r ∧ Blk wx R 55 r.row.toArray ∧ Str wx sb (m + 60 * k + 40) ∧ w.grownBy wx (some sb) ∧ OwnRc wx w.heap.size A n c l)
        case first =>
          cases f10
          · go_wp2_with fail
            go_meet
            have hg9 : w10.grownBy w10 (some R) := gr_refl _ _
            exact ⟨⟨ids, y3, y4, at1, r5, tk, r6, y7⟩, ⟨by dsimp only; omega, by dsimp only; omega, by dsimp only; omega, by dsimp only; omega, by dsimp only; omega, by dsimp only; omega⟩, HR.out, (HS.out.grown hg9 (fun g e => by injection e with e; omega)).mono (by omega), gr_trans HG.out hg9 (fun g e => .inr (by injection e with e; omega)), HO.out.1.kept hg9 (fun g e e2 => HNE.out (by rw [e2, e])), HO.out.2⟩
          · go_wp2_with fail
            refine (next_any sb _ 4 _ HS.out (by omega) (by omega) (by omega)).mono ?_
            rintro e w11 ⟨v11, rfl, ⟨r11, hlo11, hhi11, rfl⟩, hs11, hg11⟩
            have z11 := hg11.size; (try simp at z11)
            replace HO := Lib.hid (HO.out.low hg11 (fun g e => by injection e with e; omega))
            (try replace HR := Lib.hid (HR.out.grown hg11 (by simp; omega)))
            replace HG := Lib.hid (gr_same (a := w) HG.out hg11)
            replace HS := Lib.hid hs11
            clear hs11 hg11
            rcases (by omega : r11 = 0 ∨ r11 = 1 ∨ r11 = 2 ∨ r11 = 3) with rfl | rfl | rfl | rfl
            · go_wp2_with fail
              refine (some_new (n := 3) sb _ 4 _ HS.out (by omega) (by simp) (by
                repeat (first | exact StrsOk.nil _ | refine StrsOk.cons (by decide) ?_)) rfl (by omega) (by omega)).mono ?_
              rintro e w12 ⟨v12, rfl, ⟨y12, rfl, hy12⟩, hs12, hg12⟩
              have z12 := hg12.size; (try simp at z12)
              replace HO := Lib.hid (HO.out.low hg12 (fun g e => by injection e with e; omega))
              (try replace HR := Lib.hid (HR.out.grown hg12 (by simp; omega)))
              replace HG := Lib.hid (gr_same (a := w) HG.out hg12)
              replace HS := Lib.hid hs12
              clear hs12 hg12
              have f0 := HR.out.frozen 0
              have c0 := HR.out.cell 0
              go_wp2_with fail
              go_meet
              have hg9 : w12.grownBy (w12.setCell ⟨R, 0, none⟩ (.string y12)) (some R) := gr_setCell (gr_refl _ _) (.inl rfl) _
              exact ⟨⟨y12, y3, y4, at1, r5, tk, r6, y7⟩, ⟨by dsimp only; omega, by dsimp only; omega, by dsimp only; omega, by dsimp only; omega, by dsimp only; omega, by dsimp only; omega⟩, (HR.out.set_ 0 _), (HS.out.grown hg9 (fun g e => by injection e with e; omega)).mono (by omega), gr_trans HG.out hg9 (fun g e => .inr (by injection e with e; omega)), HO.out.1.kept hg9 (fun g e e2 => HNE.out (by rw [e2, e])), HO.out.2⟩
            · go_wp2_with fail
              refine (phone_any sb _ _ HS.out (by omega)).mono ?_
              rintro e w12 ⟨v12, rfl, ⟨y12, rfl, hy12⟩, hs12, hg12⟩
              have z12 := hg12.size; (try simp at z12)
              replace HO := Lib.hid (HO.out.low hg12 (fun g e => by injection e with e; omega))
              (try replace HR := Lib.hid (HR.out.grown hg12 (by simp; omega)))
              replace HG := Lib.hid (gr_same (a := w) HG.out hg12)
              replace HS := Lib.hid hs12
              clear hs12 hg12
              go_wp2_with fail
              refine (phone_any sb _ _ HS.out (by omega)).mono ?_
              rintro e w13 ⟨v13, rfl, ⟨y13, rfl, hy13⟩, hs13, hg13⟩
              have z13 := hg13.size; (try simp at z13)
              replace HO := Lib.hid (HO.out.low hg13 (fun g e => by injection e with e; omega))
              (try replace HR := Lib.hid (HR.out.grown hg13 (by simp; omega)))
              replace HG := Lib.hid (gr_same (a := w) HG.out hg13)
              replace HS := Lib.hid hs13
              clear hs13 hg13
              have f1 := HR.out.frozen 1
              have c1 := HR.out.cell 1
              have f2 := HR.out.frozen 2
              have c2 := HR.out.cell 2
              go_wp2_with fail
              go_meet
              have hg9 : w13.grownBy ((w13.setCell ⟨R, 1, none⟩ (.string y12)).setCell ⟨R, 2, none⟩ (.string y13)) (some R) := gr_setCell (row := some R) (gr_setCell (row := some R) (gr_refl _ _) (.inl rfl) _) (.inl rfl) _
              exact ⟨⟨ids, y12, y13, at1, r5, tk, r6, y7⟩, ⟨by dsimp only; omega, by dsimp only; omega, by dsimp only; omega, by dsimp only; omega, by dsimp only; omega, by dsimp only; omega⟩, ((HR.out.set_ 1 _).set_ 2 _), (HS.out.grown hg9 (fun g e => by injection e with e; omega)).mono (by omega), gr_trans HG.out hg9 (fun g e => .inr (by injection e with e; omega)), HO.out.1.kept hg9 (fun g e e2 => HNE.out (by rw [e2, e])), HO.out.2⟩
            · go_wp2_with fail
              refine (odd_any sb _ 0 100 _ HS.out (by omega) (by omega) (by omega) (by omega)).mono ?_
              rintro e w12 ⟨v12, rfl, ⟨r12, hlo12, hhi12, rfl⟩, hs12, hg12⟩
              have z12 := hg12.size; (try simp at z12)
              replace HO := Lib.hid (HO.out.low hg12 (fun g e => by injection e with e; omega))
              (try replace HR := Lib.hid (HR.out.grown hg12 (by simp; omega)))
              replace HG := Lib.hid (gr_same (a := w) HG.out hg12)
              replace HS := Lib.hid hs12
              clear hs12 hg12
              go_wp2_with fail
              refine (odd_any sb _ 1 4 _ HS.out (by omega) (by omega) (by omega) (by omega)).mono ?_
              rintro e w13 ⟨v13, rfl, ⟨r13, hlo13, hhi13, rfl⟩, hs13, hg13⟩
              have z13 := hg13.size; (try simp at z13)
              replace HO := Lib.hid (HO.out.low hg13 (fun g e => by injection e with e; omega))
              (try replace HR := Lib.hid (HR.out.grown hg13 (by simp; omega)))
              replace HG := Lib.hid (gr_same (a := w) HG.out hg13)
              replace HS := Lib.hid hs13
              clear hs13 hg13
              have f5 := HR.out.frozen 5
              have c5 := HR.out.cell 5
              have f6 := HR.out.frozen 6
              have c6 := HR.out.cell 6
              go_wp2_with fail
              go_meet
              have hg9 : w13.grownBy ((w13.setCell ⟨R, 5, none⟩ (.int .i64 r12)).setCell ⟨R, 6, none⟩ (.int .i64 r13)) (some R) := gr_setCell (row := some R) (gr_setCell (row := some R) (gr_refl _ _) (.inl rfl) _) (.inl rfl) _
              exact ⟨⟨ids, y3, y4, at1, r5, r12, r13, y7⟩, ⟨by dsimp only; omega, by dsimp only; omega, by dsimp only; omega, by dsimp only; omega, by dsimp only; omega, by dsimp only; omega⟩, ((HR.out.set_ 5 _).set_ 6 _), (HS.out.grown hg9 (fun g e => by injection e with e; omega)).mono (by omega), gr_trans HG.out hg9 (fun g e => .inr (by injection e with e; omega)), HO.out.1.kept hg9 (fun g e e2 => HNE.out (by rw [e2, e])), HO.out.2⟩
            · go_wp2_with fail
              refine (odd_any sb _ 0 100 _ HS.out (by omega) (by omega) (by omega) (by omega)).mono ?_
              rintro e w12 ⟨v12, rfl, ⟨r12, hlo12, hhi12, rfl⟩, hs12, hg12⟩
              have z12 := hg12.size; (try simp at z12)
              replace HO := Lib.hid (HO.out.low hg12 (fun g e => by injection e with e; omega))
              (try replace HR := Lib.hid (HR.out.grown hg12 (by simp; omega)))
              replace HG := Lib.hid (gr_same (a := w) HG.out hg12)
              replace HS := Lib.hid hs12
              clear hs12 hg12
              go_wp2_with fail
              refine (odd_any sb _ 0 100 _ HS.out (by omega) (by omega) (by omega) (by omega)).mono ?_
              rintro e w13 ⟨v13, rfl, ⟨r13, hlo13, hhi13, rfl⟩, hs13, hg13⟩
              have z13 := hg13.size; (try simp at z13)
              replace HO := Lib.hid (HO.out.low hg13 (fun g e => by injection e with e; omega))
              (try replace HR := Lib.hid (HR.out.grown hg13 (by simp; omega)))
              replace HG := Lib.hid (gr_same (a := w) HG.out hg13)
              replace HS := Lib.hid hs13
              clear hs13 hg13
              go_wp2_with fail
              refine (some_new (n := 2) sb _ 4 _ HS.out (by omega) (by simp) (by
                repeat (first | exact StrsOk.nil _ | refine StrsOk.cons (by decide) ?_)) rfl (by omega) (by omega)).mono ?_
              rintro e w14 ⟨v14, rfl, ⟨y14, rfl, hy14⟩, hs14, hg14⟩
              have z14 := hg14.size; (try simp at z14)
              replace HO := Lib.hid (HO.out.low hg14 (fun g e => by injection e with e; omega))
              (try replace HR := Lib.hid (HR.out.grown hg14 (by simp; omega)))
              replace HG := Lib.hid (gr_same (a := w) HG.out hg14)
              replace HS := Lib.hid hs14
              clear hs14 hg14
              have f3 := HR.out.frozen 3
              have c3 := HR.out.cell 3
              have f4 := HR.out.frozen 4
              have c4 := HR.out.cell 4
              have f7 := HR.out.frozen 7
              have c7 := HR.out.cell 7
              go_wp2_with fail
              go_meet
              have hg9 : w14.grownBy (((w14.setCell ⟨R, 3, none⟩ (.int .i64 r12)).setCell ⟨R, 4, none⟩ (.int .i64 r13)).setCell ⟨R, 7, none⟩ (.string y14)) (some R) := gr_setCell (row := some R) (gr_setCell (row := some R) (gr_setCell (row := some R) (gr_refl _ _) (.inl rfl) _) (.inl rfl) _) (.inl rfl) _
              exact ⟨⟨ids, y3, y4, r12, r13, tk, r6, y14⟩, ⟨by dsimp only; omega, by dsimp only; omega, by dsimp only; omega, by dsimp only; omega, by dsimp only; omega, by dsimp only; omega⟩, (((HR.out.set_ 3 _).set_ 4 _).set_ 7 _), (HS.out.grown hg9 (fun g e => by injection e with e; omega)).mono (by omega), gr_trans HG.out hg9 (fun g e => .inr (by injection e with e; omega)), HO.out.1.kept hg9 (fun g e e2 => HNE.out (by rw [e2, e])), HO.out.2⟩
        case rest =>
          clear HR HS HG HO
          obtain ⟨⟨id, frm, too, att, ring, talk, how, car⟩, hok, hr, hs, hg, hown⟩ := hcut
          have HR := Lib.hid (show Blk _ R 55 #[.string id, .string frm, .string too, .int .i64 att, .int .i64 ring, .int .i64 talk, .int .i64 how, .string car] from hr); have HS := Lib.hid hs; have HG := Lib.hid hg; have HO := Lib.hid hown; have HOK := Lib.hid hok
          clear hr hs hg hown hok
          go_wp2_with fail
          refine (flip_any sb _ 80 _ HS.out (by omega) (by omega) (by omega)).mono ?_
          rintro e w15 ⟨v15, rfl, ⟨f15, rfl⟩, hs15, hg15⟩
          have z15 := hg15.size; (try simp at z15)
          replace HO := Lib.hid (HO.out.low hg15 (fun g e => by injection e with e; omega))
          (try replace HR := Lib.hid (HR.out.grown hg15 (by simp; omega)))
          replace HG := Lib.hid (gr_same (a := w) HG.out hg15)
          replace HS := Lib.hid hs15
          clear hs15 hg15
          cases f15
          · go_wp2_with fail
            refine (hasRecG_any w.heap.size A n c l ⟨id, frm, too, att, ring, talk, how, car⟩ R _ HO.out.1.recs (by omega) HR.out).mono ?_
            rintro e w16 ⟨rfl, hg16⟩
            obtain ⟨B, hB⟩ : ∃ B, memS (l.map (·.id)) (RcV.id ⟨id, frm, too, att, ring, talk, how, car⟩) = B := ⟨_, rfl⟩
            rw [hB]
            clear hB
            replace HR := Lib.hid (HR.out.grown hg16 (by simp))
            replace HO := Lib.hid (HO.out.low hg16 (fun g e => by cases e))
            replace HS := Lib.hid (HS.out.grown hg16 (fun g e => by cases e))
            replace HG := Lib.hid (gr_none HG.out hg16)
            clear hg16
            cases B
            · go_wp2_with (first
                | (refine wpl_load_all Tryz.rcT rfl _ rfl _ rfl _ _ HR.out rfl ?_)
                | (at_builtin
                   refine wpl_app _ rfl _ _ Tryz.rcsT rfl w.heap.size A n c _ rfl (by exact HO.out.1.1.alloc _) _ _ 1 1 [.string id, .string frm, .string too, .int .i64 att, .int .i64 ring, .int .i64 talk, .int .i64 how, .string car] rfl (by exact Reads.one _ _ _ _ rfl) (by simp [Value.oneCell']) (by unfold maxLen; omega) (by omega) (by simp; have := HG.out.size; omega) ?_
                   intro A5 c5 w5 h5
                   have H5 := Lib.hid h5; clear h5)
                | fail)
              go_roundw
              case rel => exact ⟨k + 1, n + 1, c5, A5, l ++ [⟨id, frm, too, att, ring, talk, how, car⟩], at1, by omega, by go_num, rfl, rfl, hb0, by omega, by omega, ((HS.out.alloc _).grown H5.out.2.1 (fun g e => by have := (HO.out.1.1.lt e).1; omega)).mono (by omega), H5.out.gr (gr_alloc HG.out _) (HO.out.1.1.alloc _) (Nat.le_refl _), (HO.out.1.alloc _).app rfl H5.out, fun r hr => by
                rcases List.mem_append.1 hr with h | h
                · exact HO.out.2 r h
                · rw [List.mem_singleton.1 h]; exact HOK.out⟩
              case measure => simp [intOf]; omega
            · go_wp2_with fail
              go_roundw
              case rel => exact ⟨k + 1, n, c, A, l, at1, by omega, by go_num, rfl, rfl, hb0, by omega, by omega, HS.out.mono (by omega), HG.out, HO.out⟩
              case measure => simp [intOf]; omega
          · go_wp2_with (first
              | (refine wpl_load_all Tryz.rcT rfl _ rfl _ rfl _ _ HR.out rfl ?_)
              | (at_builtin
                 refine wpl_app _ rfl _ _ Tryz.rcsT rfl w.heap.size A n c _ rfl (by exact HO.out.1.1.alloc _) _ _ 1 1 [.string id, .string frm, .string too, .int .i64 att, .int .i64 ring, .int .i64 talk, .int .i64 how, .string car] rfl (by exact Reads.one _ _ _ _ rfl) (by simp [Value.oneCell']) (by unfold maxLen; omega) (by omega) (by simp; have := HG.out.size; omega) ?_
                 intro A5 c5 w5 h5
                 have H5 := Lib.hid h5; clear h5)
              | fail)
            go_roundw
            case rel => exact ⟨k + 1, n + 1, c5, A5, l ++ [⟨id, frm, too, att, ring, talk, how, car⟩], at1, by omega, by go_num, rfl, rfl, hb0, by omega, by omega, ((HS.out.alloc _).grown H5.out.2.1 (fun g e => by have := (HO.out.1.1.lt e).1; omega)).mono (by omega), H5.out.gr (gr_alloc HG.out _) (HO.out.1.1.alloc _) (Nat.le_refl _), (HO.out.1.alloc _).app rfl H5.out, fun r hr => by
              rcases List.mem_append.1 hr with h | h
              · exact HO.out.2 r h
              · rw [List.mem_singleton.1 h]; exact HOK.out⟩
            case measure => simp [intOf]; omega
    · obtain rfl : k = many := by omega
      go_wp2_with fail
      refine (sortStable_any w.heap.size A n c l _ HO.out (by omega)).mono ?_
      rintro e w3 ⟨rfl, l3, hown3, hg3⟩
      have HS3 := Lib.hid (HS.out.grown hg3 (fun g e => by have := (HO.out.1.1.lt e).1; omega))
      have HG3 := Lib.hid (gr_own HG.out HO.out.1.1 (Nat.le_refl _) hg3)
      have HO3 := Lib.hid hown3
      clear hown3 hg3
      go_wp2_with fail
      go_ret
      exact ⟨_, rfl, ⟨A, n, c, l3, rfl, HO3.out.rcs, hnk⟩, HS3.out.mono (by omega), HG3.out⟩
end Go.Proofs.YtfakdalpaopjaaaGreatDoor

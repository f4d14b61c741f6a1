/- Contract of the program's says. Conditions: beacons in order. -/
import Derived.Test.YtgogiljplnninaaGreatDoorBun5
import Derived.Test.YtgogiljplnninaaGreatDoorBc1
namespace Go.Proofs.YtgogiljplnninaaGreatDoor
open Go.RowKit

theorem eqS_yes {a b : ByteArray} (h : nb a = nb b) : a.toList = b.toList ∧ (a.toList == b.toList) = true ∧ (a.toList != b.toList) = false := by
  have e : a.toList = b.toList := by rw [nb_inj h]
  exact ⟨e, by rw [e]; exact beq_self_eq_true _, by rw [e]; unfold bne; rw [beq_self_eq_true]; rfl⟩
theorem eqS_no {a b : ByteArray} (h : nb a ≠ nb b) : ¬ a.toList = b.toList ∧ (a.toList == b.toList) = false ∧ (a.toList != b.toList) = true := by
  have e : (a.toList == b.toList) = false := by rw [eqS_nb]; exact beq_eq_false_iff_ne.2 h
  exact ⟨beq_eq_false_iff_ne.1 e, e, by unfold bne; rw [e]; rfl⟩
set_option maxHeartbeats 16000000 in
set_option maxRecDepth 100000 in
theorem says_any (lo : Nat) (A : Option Addr) (n c : Nat) (l : List BcV) (p : ByteArray) (t : Int) (w : World) (h : Recs BcV.row 6 w lo A n c l) (hn : n ≤ 1000000000) (hl : BAsc l) :
    Calls Tryz.prog 106 #[.slice A n c, .string p, .int .i64 t] w (RetV (.tuple #[.agg #[.string (prs l p t).2.psn, .string (prs l p t).2.dev, .int .i64 (prs l p t).2.st, .int .i64 (prs l p t).2.at_, .int .i64 (prs l p t).2.un, .string (prs l p t).2.note], .bool (prs l p t).1]) w) := by
  have H := Lib.hid h; have HL := Lib.hid hl; clear h hl
  go_enter Tryz.func106, Tryz.ntmps106
  go_wp2_with fail
  go_loopw [9, 10, 11, 14] (fun f _ _ x wr => ∃ (k : Nat) (F : Bool) (B : BcV), k ≤ n ∧ f = .bool F ∧ x = .int .i64 k ∧ w.grownBy wr none ∧ Blk wr w.heap.size 62 #[.string bc0.psn, .string bc0.dev, .int .i64 bc0.st, .int .i64 bc0.at_, .int .i64 bc0.un, .string bc0.note] ∧ Blk wr (w.heap.size + 1) 62 #[.string B.psn, .string B.dev, .int .i64 B.st, .int .i64 B.at_, .int .i64 B.un, .string B.note] ∧ IsW (SyC l p t k) F B) (fun _ _ _ x _ => n - (intOf x).toNat)
  case atStart => exact ⟨0, false, bc0, Nat.zero_le _, rfl, rfl, gr_alloc (gr_alloc (gr_refl _ _) _) _, (Blk.new _ _ _).alloc _, by
    have h := Blk.new (w.alloc (.cells #[.string bc0.psn, .string bc0.dev, .int .i64 bc0.st, .int .i64 bc0.at_, .int .i64 bc0.un, .string bc0.note] 62)) 62 #[.string bc0.psn, .string bc0.dev, .int .i64 bc0.st, .int .i64 bc0.at_, .int .i64 bc0.un, .string bc0.note]
    simpa [bc0] using h, .inr ⟨rfl, rfl, fun d ⟨j, h, _⟩ => by omega⟩⟩
  case round =>
    obtain ⟨k, F, B, hk, rfl, rfl, hg, hr0, hbb, hw⟩ := hrel
    have HG := Lib.hid hg; have HR0 := Lib.hid hr0; have HBB := Lib.hid hbb; have HW := Lib.hid hw; clear hg hr0 hbb hw
    by_cases hlt : k < n
    · obtain ⟨g, o, z, rfl, _, hgl, hz, hc⟩ := (H.out.grown HG.out (fun g e => by cases e)).get BcV.row_len hlt
      have HZ := Lib.hid hz; have HC := Lib.hid hc; clear hz hc
      obtain ⟨w1, hw1⟩ : ∃ v, wr.alloc (.cells #[.string z.psn, .string z.dev, .int .i64 z.st, .int .i64 z.at_, .int .i64 z.un, .string z.note] 62) = v := ⟨_, rfl⟩
      obtain ⟨zb, hzb⟩ : ∃ b, wr.heap.size = b := ⟨_, rfl⟩
      have HB := Lib.hid (show Blk w1 zb 62 #[.string z.psn, .string z.dev, .int .i64 z.st, .int .i64 z.at_, .int .i64 z.un, .string z.note] by rw [← hw1, ← hzb]; exact Blk.new _ _ _)
      replace HG := Lib.hid (show w.grownBy w1 none by rw [← hw1]; exact gr_alloc HG.out _)
      replace HR0 := Lib.hid (show Blk w1 w.heap.size 62 #[.string bc0.psn, .string bc0.dev, .int .i64 bc0.st, .int .i64 bc0.at_, .int .i64 bc0.un, .string bc0.note] by rw [← hw1]; exact HR0.out.alloc _)
      replace HBB := Lib.hid (show Blk w1 (w.heap.size + 1) 62 #[.string B.psn, .string B.dev, .int .i64 B.st, .int .i64 B.at_, .int .i64 B.un, .string B.note] by rw [← hw1]; exact HBB.out.alloc _)
      have HW1 := Lib.hid hw1; have HZB := Lib.hid hzb
      clear hw1 hzb
      go_upto_region 6 with (first
        | (refine wpl_load_at Tryz.bcT rfl _ rfl _ rfl [.string z.psn, .string z.dev, .int .i64 z.st, .int .i64 z.at_, .int .i64 z.un, .string z.note] rfl (fun j u hu => by rw [add_mk]; exact HC.out j u hu) ?_)
        | fail)
      rw [HW1.out]
      (try rw [HZB.out])
      clear HW1 HZB HC
      have k0 := HB.out.cell 0; have k1 := HB.out.cell 1; have k2 := HB.out.cell 2; have k3 := HB.out.cell 3; have k4 := HB.out.cell 4
      obtain ⟨V2, hV2⟩ : ∃ V, decide (t < z.at_) = V := ⟨_, rfl⟩
      obtain ⟨V3, hV3⟩ : ∃ V, decide (z.un ≤ t) = V := ⟨_, rfl⟩
      by_cases hp : nb z.psn = nb p
      · have HV1 := Lib.hid hp
        obtain ⟨e1, e2, e3⟩ := eqS_yes hp
        clear hp
        cases V2
        · cases V3
          · have HP := Lib.hid (show nb z.psn = nb p ∧ z.at_ ≤ t ∧ t < z.un from ⟨HV1.out, by have := of_decide_eq_false hV2; omega, by have := of_decide_eq_false hV3; omega⟩)
            have sw : IntKind.i64.wrap ((k : Int) + 1) = (k : Int) + 1 := IntWalk.i64_in _ (by omega)
            by_cases h2 : k + 1 < n
            · obtain ⟨y, hy⟩ : ∃ y, l[k + 1]? = some y := ⟨_, List.getElem?_eq_getElem (by rw [H.out.len]; omega)⟩
              have HY := Lib.hid hy; clear hy
              have s2 : decide ((k : Int) + 1 < (n : Int)) = true := decide_eq_true (by omega)
              have s3 : (0 : Int) ≤ (k : Int) + 1 := by omega
              have s4 : (k : Int) + 1 < (n : Int) := by omega
              have s5 : ((k : Int) + 1).toNat = k + 1 := by omega
              have kn0 := (H.out.grown HG.out (fun g e => by cases e)).at_ BcV.row_len HY.out 0 _ rfl
              have kn1 := (H.out.grown HG.out (fun g e => by cases e)).at_ BcV.row_len HY.out 1 _ rfl
              have kn3 := (H.out.grown HG.out (fun g e => by cases e)).at_ BcV.row_len HY.out 3 _ rfl
              simp only [Nat.add_zero] at kn0
              by_cases hy1 : nb y.psn = nb p
              · have HY1 := Lib.hid hy1
                obtain ⟨f1, f2, f3⟩ := eqS_yes hy1
                clear hy1
                by_cases hy2 : nb y.dev = nb z.dev
                · have HY2 := Lib.hid hy2
                  obtain ⟨g1, g2, g3⟩ := eqS_yes hy2
                  clear hy2
                  obtain ⟨V4, hV4⟩ : ∃ V, decide (y.at_ ≤ t) = V := ⟨_, rfl⟩
                  cases V4
                  · have HC1 := Lib.hid (show PrC l p t z from (prC_at HL.out HZ.out).2 ⟨HP.out.1, HP.out.2.1, HP.out.2.2, fun ⟨d, hd, hx⟩ => (show ∀ d, l[k + 1]? = some d → ¬ (nb d.psn = nb p ∧ nb d.dev = nb z.dev ∧ d.at_ ≤ t) from fun d hd => by rw [HY.out] at hd; obtain rfl := Option.some.inj hd; exact fun h => absurd h.2.2 (of_decide_eq_false hV4)) d hd hx⟩)
                    go_upto_region 7 with (fail)
                    go_quiet (fail)
                    go_upto_region 8 with (fail)
                    obtain ⟨wq, hwq⟩ : ∃ v, w1.drewN nq = v := ⟨_, rfl⟩
                    rw [hwq]
                    have hgq : w1.grownBy wq none := by rw [← hwq]; exact gr_drewN (gr_refl _ _) _
                    clear hwq k0 k1 k2 k3 k4
                    replace HG := Lib.hid (gr_none HG.out hgq); replace HB := Lib.hid (HB.out.grown hgq (by simp)); replace HBB := Lib.hid (HBB.out.grown hgq (by simp)); replace HR0 := Lib.hid (HR0.out.grown hgq (by simp))
                    clear hgq
                    refine H_begin (fun w' => wq.grownBy w' none) (by kernel_rfl) ?_
                    have hHeld : wq.grownBy wq.drew none := gr_drew (gr_refl _ _)
                    generalize wq.drew = wd at hHeld ⊢
                    cases F
                    · refine H_take (k := 0) (v := ?_) (by rfl) (by kernel_rfl) (by kernel_rfl) (by kernel_rfl) (by exact fun _ _ _ h => h) (by rfl) ?_ (by assumption) ?_
                      rotate_left 1
                      · intro w hSw
                        (try dsimp only at hSw)
                        go_simp
                        (try with_reducible rfl)
                      (try simp only [Act.put, List.setIfInBounds_toArray, List.set_cons_zero, List.set_cons_succ])
                      refine H_take (k := 1) (v := ?_) (by rfl) (by kernel_rfl) (by kernel_rfl) (by kernel_rfl) (by exact fun _ _ _ h => h) (by rfl) ?_ (by assumption) ?_
                      rotate_left 1
                      · intro w hSw
                        (try dsimp only at hSw)
                        go_simp
                        (try with_reducible rfl)
                      (try simp only [Act.put, List.setIfInBounds_toArray, List.set_cons_zero, List.set_cons_succ])
                      refine H_take (k := 2) (v := ?_) (by rfl) (by kernel_rfl) (by kernel_rfl) (by kernel_rfl) (by exact fun _ _ _ h => h) (by rfl) ?_ (by assumption) ?_
                      rotate_left 1
                      · intro w hSw
                        (try dsimp only at hSw)
                        go_simp
                        (try with_reducible rfl)
                      (try simp only [Act.put, List.setIfInBounds_toArray, List.set_cons_zero, List.set_cons_succ])
                      refine H_skip (k := 3) (by rfl) (by kernel_rfl) (by kernel_rfl) (by kernel_rfl) (by exact fun _ _ _ h => h) (by rfl) (by assumption) ?_
                      (try simp only [Act.put, List.setIfInBounds_toArray, List.set_cons_zero, List.set_cons_succ])
                      refine H_skip (k := 4) (by rfl) (by kernel_rfl) (by kernel_rfl) (by kernel_rfl) (by exact fun _ _ _ h => h) (by rfl) (by assumption) ?_
                      (try simp only [Act.put, List.setIfInBounds_toArray, List.set_cons_zero, List.set_cons_succ])
                      refine H_skip (k := 5) (by rfl) (by kernel_rfl) (by kernel_rfl) (by kernel_rfl) (by exact fun _ _ _ h => h) (by rfl) (by assumption) ?_
                      (try simp only [Act.put, List.setIfInBounds_toArray, List.set_cons_zero, List.set_cons_succ])
                      refine H_skip (k := 6) (by rfl) (by kernel_rfl) (by kernel_rfl) (by kernel_rfl) (by exact fun _ _ _ h => h) (by rfl) (by assumption) ?_
                      (try simp only [Act.put, List.setIfInBounds_toArray, List.set_cons_zero, List.set_cons_succ])
                      refine H_skip (k := 7) (by rfl) (by kernel_rfl) (by kernel_rfl) (by kernel_rfl) (by exact fun _ _ _ h => h) (by rfl) (by assumption) ?_
                      (try simp only [Act.put, List.setIfInBounds_toArray, List.set_cons_zero, List.set_cons_succ])
                      refine H_skip (k := 8) (by rfl) (by kernel_rfl) (by kernel_rfl) (by kernel_rfl) (by exact fun _ _ _ h => h) (by rfl) (by assumption) ?_
                      (try simp only [Act.put, List.setIfInBounds_toArray, List.set_cons_zero, List.set_cons_succ])
                      refine H_skip (k := 9) (by rfl) (by kernel_rfl) (by kernel_rfl) (by kernel_rfl) (by exact fun _ _ _ h => h) (by rfl) (by assumption) ?_
                      (try simp only [Act.put, List.setIfInBounds_toArray, List.set_cons_zero, List.set_cons_succ])
                      refine H_skip (k := 10) (by rfl) (by kernel_rfl) (by kernel_rfl) (by kernel_rfl) (by exact fun _ _ _ h => h) (by rfl) (by assumption) ?_
                      (try simp only [Act.put, List.setIfInBounds_toArray, List.set_cons_zero, List.set_cons_succ])
                      refine H_skip (k := 11) (by rfl) (by kernel_rfl) (by kernel_rfl) (by kernel_rfl) (by exact fun _ _ _ h => h) (by rfl) (by assumption) ?_
                      (try simp only [Act.put, List.setIfInBounds_toArray, List.set_cons_zero, List.set_cons_succ])
                      refine H_skip (k := 12) (by rfl) (by kernel_rfl) (by kernel_rfl) (by kernel_rfl) (by exact fun _ _ _ h => h) (by rfl) (by assumption) ?_
                      (try simp only [Act.put, List.setIfInBounds_toArray, List.set_cons_zero, List.set_cons_succ])
                      refine H_skip (k := 13) (by rfl) (by kernel_rfl) (by kernel_rfl) (by kernel_rfl) (by exact fun _ _ _ h => h) (by rfl) (by assumption) ?_
                      (try simp only [Act.put, List.setIfInBounds_toArray, List.set_cons_zero, List.set_cons_succ])
                      refine H_skip (k := 14) (by rfl) (by kernel_rfl) (by kernel_rfl) (by kernel_rfl) (by exact fun _ _ _ h => h) (by rfl) (by assumption) ?_
                      (try simp only [Act.put, List.setIfInBounds_toArray, List.set_cons_zero, List.set_cons_succ])
                      refine H_skip (k := 15) (by rfl) (by kernel_rfl) (by kernel_rfl) (by kernel_rfl) (by exact fun _ _ _ h => h) (by rfl) (by assumption) ?_
                      (try simp only [Act.put, List.setIfInBounds_toArray, List.set_cons_zero, List.set_cons_succ])
                      refine H_take (k := 16) (v := ?_) (by rfl) (by kernel_rfl) (by kernel_rfl) (by kernel_rfl) (by exact fun _ _ _ h => h) (by rfl) ?_ (by assumption) ?_
                      rotate_left 1
                      · intro w hSw
                        (try dsimp only at hSw)
                        go_simp
                        (try with_reducible rfl)
                      (try simp only [Act.put, List.setIfInBounds_toArray, List.set_cons_zero, List.set_cons_succ])
                      refine H_done (by kernel_rfl) ?_
                      replace HG := Lib.hid (gr_none HG.out hHeld); replace HB := Lib.hid (HB.out.grown hHeld (by simp)); replace HBB := Lib.hid (HBB.out.grown hHeld (by simp)); replace HR0 := Lib.hid (HR0.out.grown hHeld (by simp))
                      clear hHeld
                      have HPB := Lib.hid (show false = false ∨ PrB z B from .inl rfl)
                      go_wp2_with (first
                        | (refine wpl_load_all Tryz.bcT rfl _ rfl _ rfl _ _ HB.out rfl ?_)
                        | (refine wpl_store_all Tryz.bcT rfl _ _ rfl _ rfl _ _ _ rfl HBB.out rfl rfl (by simp [Value.oneCell']) ?_; intro wz hst; have HST := Lib.hid hst; clear hst)
                        | fail)
                      have HG9 := Lib.hid (gr_trans HG.out HST.out.2.1 (fun g e => .inr (by injection e with e; rw [← e]; omega)))
                      have HR9 := Lib.hid (HR0.out.grown HST.out.2.1 (by simp))
                      go_roundw
                      case rel => exact ⟨k + 1, true, z, by omega, rfl, by go_num, HG9.out, HR9.out, HST.out.1, HW.out.put (syC_add HZ.out HC1.out) HPB.out⟩
                      case measure => simp [intOf]; omega
                    · obtain ⟨q1, h1⟩ : ∃ q, cmpZ z.st B.st = q := ⟨_, rfl⟩
                      obtain ⟨q2, h2⟩ : ∃ q, cmpZ z.at_ B.at_ = q := ⟨_, rfl⟩
                      have HV := Lib.hid (prB_prog HL.out HZ.out HC1.out (show SyC l p t k B from by
                        rcases HW.out with ⟨_, h, _⟩ | ⟨h, _⟩
                        · exact h
                        · cases h))
                      rw [h1, h2] at HV
                      have H1 := Lib.hid h1; have H2 := Lib.hid h2
                      clear h1 h2
                      refine H_take (k := 0) (v := ?_) (by rfl) (by kernel_rfl) (by kernel_rfl) (by kernel_rfl) (by exact fun _ _ _ h => h) (by rfl) ?_ (by assumption) ?_
                      rotate_left 1
                      · intro w hSw
                        (try dsimp only at hSw)
                        go_simp
                        (try with_reducible rfl)
                      (try simp only [Act.put, List.setIfInBounds_toArray, List.set_cons_zero, List.set_cons_succ])
                      refine H_take (k := 1) (v := ?_) (by rfl) (by kernel_rfl) (by kernel_rfl) (by kernel_rfl) (by exact fun _ _ _ h => h) (by rfl) ?_ (by assumption) ?_
                      rotate_left 1
                      · intro w hSw
                        (try dsimp only at hSw)
                        go_simp
                        (try with_reducible rfl)
                      (try simp only [Act.put, List.setIfInBounds_toArray, List.set_cons_zero, List.set_cons_succ])
                      refine H_take (k := 2) (v := ?_) (by rfl) (by kernel_rfl) (by kernel_rfl) (by kernel_rfl) (by exact fun _ _ _ h => h) (by rfl) ?_ (by assumption) ?_
                      rotate_left 1
                      · intro w hSw
                        (try dsimp only at hSw)
                        go_simp
                        (try with_reducible rfl)
                      (try simp only [Act.put, List.setIfInBounds_toArray, List.set_cons_zero, List.set_cons_succ])
                      refine H_take (k := 3) (v := ?_) (by rfl) (by kernel_rfl) (by kernel_rfl) (by kernel_rfl) (by exact fun _ _ _ h => h) (by rfl) ?_ (by assumption) ?_
                      rotate_left 1
                      · intro w hSw
                        (try dsimp only at hSw)
                        go_simp
                        (try with_reducible rfl)
                      (try simp only [Act.put, List.setIfInBounds_toArray, List.set_cons_zero, List.set_cons_succ])
                      refine H_take (k := 4) (v := ?_) (by rfl) (by kernel_rfl) (by kernel_rfl) (by kernel_rfl) (by exact fun _ _ _ h => h) (by rfl) ?_ (by assumption) ?_
                      rotate_left 1
                      · intro w' hSw
                        have kc := (HB.out.grown hSw (by simp)).cell 2
                        go_simp
                        (try with_reducible rfl)
                      (try simp only [Act.put, List.setIfInBounds_toArray, List.set_cons_zero, List.set_cons_succ])
                      refine H_take (k := 5) (v := ?_) (by rfl) (by kernel_rfl) (by kernel_rfl) (by kernel_rfl) (by exact fun _ _ _ h => h) (by rfl) ?_ (by assumption) ?_
                      rotate_left 1
                      · intro w hSw
                        (try dsimp only at hSw)
                        go_simp
                        (try with_reducible rfl)
                      (try simp only [Act.put, List.setIfInBounds_toArray, List.set_cons_zero, List.set_cons_succ])
                      refine H_take (k := 6) (v := ?_) (by rfl) (by kernel_rfl) (by kernel_rfl) (by kernel_rfl) (by exact fun _ _ _ h => h) (by rfl) ?_ (by assumption) ?_
                      rotate_left 1
                      · intro w' hSw
                        have kc := (HBB.out.grown hSw (by simp)).cell 2
                        go_simp
                        (try with_reducible rfl)
                      (try simp only [Act.put, List.setIfInBounds_toArray, List.set_cons_zero, List.set_cons_succ])
                      refine H_take (k := 8) (v := ?_) (by rfl) (by kernel_rfl) (by kernel_rfl) (by kernel_rfl) (by exact fun _ _ _ h => h) (by rfl) ?_ (by assumption) ?_
                      rotate_left 1
                      · intro w hSw
                        (try dsimp only at hSw)
                        go_simp
                        (try with_reducible rfl)
                      (try simp only [Act.put, List.setIfInBounds_toArray, List.set_cons_zero, List.set_cons_succ])
                      refine H_take (k := 9) (v := ?_) (by rfl) (by kernel_rfl) (by kernel_rfl) (by kernel_rfl) (by exact fun _ _ _ h => h) (by rfl) ?_ (by assumption) ?_
                      rotate_left 1
                      · intro w' hSw
                        have kc := (HB.out.grown hSw (by simp)).cell 3
                        go_simp
                        (try with_reducible rfl)
                      (try simp only [Act.put, List.setIfInBounds_toArray, List.set_cons_zero, List.set_cons_succ])
                      refine H_take (k := 10) (v := ?_) (by rfl) (by kernel_rfl) (by kernel_rfl) (by kernel_rfl) (by exact fun _ _ _ h => h) (by rfl) ?_ (by assumption) ?_
                      rotate_left 1
                      · intro w hSw
                        (try dsimp only at hSw)
                        go_simp
                        (try with_reducible rfl)
                      (try simp only [Act.put, List.setIfInBounds_toArray, List.set_cons_zero, List.set_cons_succ])
                      refine H_take (k := 11) (v := ?_) (by rfl) (by kernel_rfl) (by kernel_rfl) (by kernel_rfl) (by exact fun _ _ _ h => h) (by rfl) ?_ (by assumption) ?_
                      rotate_left 1
                      · intro w' hSw
                        have kc := (HBB.out.grown hSw (by simp)).cell 3
                        go_simp
                        (try with_reducible rfl)
                      (try simp only [Act.put, List.setIfInBounds_toArray, List.set_cons_zero, List.set_cons_succ])
                      refine H_run (k := 7) (by rfl) (by kernel_rfl) (by rfl) (fun K hK => ?_)
                      go_simp
                      refine (cmpZ_any _ _ _).mono ?_
                      rintro e w6 ⟨rfl, rfl⟩
                      rw [H1.out]
                      refine hK _ _ hHeld ?_
                      clear hK K
                      (try simp only [Act.put, List.setIfInBounds_toArray, List.set_cons_zero, List.set_cons_succ])
                      refine H_run (k := 12) (by rfl) (by kernel_rfl) (by rfl) (fun K hK => ?_)
                      go_simp
                      refine (cmpZ_any _ _ _).mono ?_
                      rintro e w6 ⟨rfl, rfl⟩
                      rw [H2.out]
                      refine hK _ _ hHeld ?_
                      clear hK K
                      (try simp only [Act.put, List.setIfInBounds_toArray, List.set_cons_zero, List.set_cons_succ])
                      refine H_run (k := 13) (by rfl) (by kernel_rfl) (by rfl) (fun K hK => ?_)
                      go_simp
                      obtain ⟨W2, hW2⟩ : ∃ W2, wd.alloc (.cells #[.int .i64 q1, .int .i64 q2] 3) = W2 := ⟨_, rfl⟩
                      obtain ⟨g2, hg2⟩ : ∃ g, wd.heap.size = g := ⟨_, rfl⟩
                      have hq2 : wq.grownBy W2 none := by rw [← hW2]; exact gr_alloc hHeld _
                      have HC := Lib.hid (show Blk W2 g2 3 ([q1, q2].map (Value.int .i64)).toArray by rw [← hW2, ← hg2]; exact Blk.new _ _ _)
                      (try rw [hW2])
                      (try rw [hg2])
                      refine hK _ _ hq2 ?_
                      clear hK K hHeld hW2 hg2
                      have hHeld := hq2
                      (try simp only [Act.put, List.setIfInBounds_toArray, List.set_cons_zero, List.set_cons_succ])
                      obtain ⟨OV, hOV⟩ : ∃ O, orL [q1, q2] = O := ⟨_, rfl⟩
                      have HOV := Lib.hid hOV
                      rw [hOV] at HV
                      clear hOV
                      refine H_run (k := 14) (by rfl) (by kernel_rfl) (by rfl) (fun K hK => ?_)
                      go_simp
                      refine (orL_any [q1, q2] g2 2 _ HC.out rfl (by omega)).mono ?_
                      rintro e w6 ⟨rfl, rfl⟩
                      rw [HOV.out]
                      refine hK _ _ hHeld ?_
                      clear hK K
                      (try simp only [Act.put, List.setIfInBounds_toArray, List.set_cons_zero, List.set_cons_succ])
                      obtain ⟨VB, hVB⟩ : ∃ V, decide (0 < OV) = V := ⟨_, rfl⟩
                      have HVB := Lib.hid hVB
                      refine H_take (k := 15) (v := ?_) (by rfl) (by kernel_rfl) (by kernel_rfl) (by kernel_rfl) (by exact fun _ _ _ h => h) (by rfl) ?_ (by assumption) ?_
                      rotate_left 1
                      · intro w hSw
                        (try dsimp only at hSw)
                        go_simp
                        (try with_reducible rfl)
                      (try simp only [Act.put, List.setIfInBounds_toArray, List.set_cons_zero, List.set_cons_succ])
                      refine H_take (k := 16) (v := ?_) (by rfl) (by kernel_rfl) (by kernel_rfl) (by kernel_rfl) (by exact fun _ _ _ h => h) (by rfl) ?_ (by assumption) ?_
                      rotate_left 1
                      · intro w hSw
                        (try dsimp only at hSw)
                        go_simp
                        (try with_reducible rfl)
                      (try simp only [Act.put, List.setIfInBounds_toArray, List.set_cons_zero, List.set_cons_succ])
                      refine H_done (by kernel_rfl) ?_
                      replace HG := Lib.hid (gr_none HG.out hHeld); replace HB := Lib.hid (HB.out.grown hHeld (by simp)); replace HBB := Lib.hid (HBB.out.grown hHeld (by simp)); replace HR0 := Lib.hid (HR0.out.grown hHeld (by simp))
                      clear hHeld hq2 hVB
                      cases VB
                      · have HNB := Lib.hid (show ¬ PrB z B from fun h => of_decide_eq_false HVB.out (HV.out.1 h))
                        have hvb := HVB.out
                        go_wp2_with fail
                        go_roundw
                        case rel => exact ⟨k + 1, true, B, by omega, rfl, by go_num, HG.out, HR0.out, HBB.out, HW.out.stay (syC_add HZ.out HC1.out) rfl HNB.out⟩
                        case measure => simp [intOf]; omega
                      · have HPB := Lib.hid (show true = false ∨ PrB z B from .inr (HV.out.2 (of_decide_eq_true HVB.out)))
                        have hvb := HVB.out
                        go_wp2_with (first
                          | (refine wpl_load_all Tryz.bcT rfl _ rfl _ rfl _ _ HB.out rfl ?_)
                          | (refine wpl_store_all Tryz.bcT rfl _ _ rfl _ rfl _ _ _ rfl HBB.out rfl rfl (by simp [Value.oneCell']) ?_; intro wz hst; have HST := Lib.hid hst; clear hst)
                          | fail)
                        have HG9 := Lib.hid (gr_trans HG.out HST.out.2.1 (fun g e => .inr (by injection e with e; rw [← e]; omega)))
                        have HR9 := Lib.hid (HR0.out.grown HST.out.2.1 (by simp))
                        go_roundw
                        case rel => exact ⟨k + 1, true, z, by omega, rfl, by go_num, HG9.out, HR9.out, HST.out.1, HW.out.put (syC_add HZ.out HC1.out) HPB.out⟩
                        case measure => simp [intOf]; omega
                  · go_upto_region 7 with (fail)
                    go_quiet (fail)
                    have HNC := Lib.hid (show ¬ PrC l p t z from fun h => ((prC_at HL.out HZ.out).1 h).2.2.2 ⟨y, HY.out, HY1.out, HY2.out, of_decide_eq_true hV4⟩)
                    go_wp2_with fail
                    go_roundw
                    case rel => exact ⟨k + 1, F, B, by omega, rfl, by go_num, gr_drewN HG.out _, HR0.out.drewN _, HBB.out.drewN _, HW.out.same (syC_skip HZ.out HNC.out)⟩
                    case measure => simp [intOf]; omega
                · have HY2 := Lib.hid hy2
                  obtain ⟨g1, g2, g3⟩ := eqS_no hy2
                  clear hy2
                  have HC1 := Lib.hid (show PrC l p t z from (prC_at HL.out HZ.out).2 ⟨HP.out.1, HP.out.2.1, HP.out.2.2, fun ⟨d, hd, hx⟩ => (show ∀ d, l[k + 1]? = some d → ¬ (nb d.psn = nb p ∧ nb d.dev = nb z.dev ∧ d.at_ ≤ t) from fun d hd => by rw [HY.out] at hd; obtain rfl := Option.some.inj hd; exact fun h => HY2.out h.2.1) d hd hx⟩)
                  go_upto_region 7 with (fail)
                  go_quiet (fail)
                  go_upto_region 8 with (fail)
                  obtain ⟨wq, hwq⟩ : ∃ v, w1.drewN nq = v := ⟨_, rfl⟩
                  rw [hwq]
                  have hgq : w1.grownBy wq none := by rw [← hwq]; exact gr_drewN (gr_refl _ _) _
                  clear hwq k0 k1 k2 k3 k4
                  replace HG := Lib.hid (gr_none HG.out hgq); replace HB := Lib.hid (HB.out.grown hgq (by simp)); replace HBB := Lib.hid (HBB.out.grown hgq (by simp)); replace HR0 := Lib.hid (HR0.out.grown hgq (by simp))
                  clear hgq
                  refine H_begin (fun w' => wq.grownBy w' none) (by kernel_rfl) ?_
                  have hHeld : wq.grownBy wq.drew none := gr_drew (gr_refl _ _)
                  generalize wq.drew = wd at hHeld ⊢
                  cases F
                  · refine H_take (k := 0) (v := ?_) (by rfl) (by kernel_rfl) (by kernel_rfl) (by kernel_rfl) (by exact fun _ _ _ h => h) (by rfl) ?_ (by assumption) ?_
                    rotate_left 1
                    · intro w hSw
                      (try dsimp only at hSw)
                      go_simp
                      (try with_reducible rfl)
                    (try simp only [Act.put, List.setIfInBounds_toArray, List.set_cons_zero, List.set_cons_succ])
                    refine H_take (k := 1) (v := ?_) (by rfl) (by kernel_rfl) (by kernel_rfl) (by kernel_rfl) (by exact fun _ _ _ h => h) (by rfl) ?_ (by assumption) ?_
                    rotate_left 1
                    · intro w hSw
                      (try dsimp only at hSw)
                      go_simp
                      (try with_reducible rfl)
                    (try simp only [Act.put, List.setIfInBounds_toArray, List.set_cons_zero, List.set_cons_succ])
                    refine H_take (k := 2) (v := ?_) (by rfl) (by kernel_rfl) (by kernel_rfl) (by kernel_rfl) (by exact fun _ _ _ h => h) (by rfl) ?_ (by assumption) ?_
                    rotate_left 1
                    · intro w hSw
                      (try dsimp only at hSw)
                      go_simp
                      (try with_reducible rfl)
                    (try simp only [Act.put, List.setIfInBounds_toArray, List.set_cons_zero, List.set_cons_succ])
                    refine H_skip (k := 3) (by rfl) (by kernel_rfl) (by kernel_rfl) (by kernel_rfl) (by exact fun _ _ _ h => h) (by rfl) (by assumption) ?_
                    (try simp only [Act.put, List.setIfInBounds_toArray, List.set_cons_zero, List.set_cons_succ])
                    refine H_skip (k := 4) (by rfl) (by kernel_rfl) (by kernel_rfl) (by kernel_rfl) (by exact fun _ _ _ h => h) (by rfl) (by assumption) ?_
                    (try simp only [Act.put, List.setIfInBounds_toArray, List.set_cons_zero, List.set_cons_succ])
                    refine H_skip (k := 5) (by rfl) (by kernel_rfl) (by kernel_rfl) (by kernel_rfl) (by exact fun _ _ _ h => h) (by rfl) (by assumption) ?_
                    (try simp only [Act.put, List.setIfInBounds_toArray, List.set_cons_zero, List.set_cons_succ])
                    refine H_skip (k := 6) (by rfl) (by kernel_rfl) (by kernel_rfl) (by kernel_rfl) (by exact fun _ _ _ h => h) (by rfl) (by assumption) ?_
                    (try simp only [Act.put, List.setIfInBounds_toArray, List.set_cons_zero, List.set_cons_succ])
                    refine H_skip (k := 7) (by rfl) (by kernel_rfl) (by kernel_rfl) (by kernel_rfl) (by exact fun _ _ _ h => h) (by rfl) (by assumption) ?_
                    (try simp only [Act.put, List.setIfInBounds_toArray, List.set_cons_zero, List.set_cons_succ])
                    refine H_skip (k := 8) (by rfl) (by kernel_rfl) (by kernel_rfl) (by kernel_rfl) (by exact fun _ _ _ h => h) (by rfl) (by assumption) ?_
                    (try simp only [Act.put, List.setIfInBounds_toArray, List.set_cons_zero, List.set_cons_succ])
                    refine H_skip (k := 9) (by rfl) (by kernel_rfl) (by kernel_rfl) (by kernel_rfl) (by exact fun _ _ _ h => h) (by rfl) (by assumption) ?_
                    (try simp only [Act.put, List.setIfInBounds_toArray, List.set_cons_zero, List.set_cons_succ])
                    refine H_skip (k := 10) (by rfl) (by kernel_rfl) (by kernel_rfl) (by kernel_rfl) (by exact fun _ _ _ h => h) (by rfl) (by assumption) ?_
                    (try simp only [Act.put, List.setIfInBounds_toArray, List.set_cons_zero, List.set_cons_succ])
                    refine H_skip (k := 11) (by rfl) (by kernel_rfl) (by kernel_rfl) (by kernel_rfl) (by exact fun _ _ _ h => h) (by rfl) (by assumption) ?_
                    (try simp only [Act.put, List.setIfInBounds_toArray, List.set_cons_zero, List.set_cons_succ])
                    refine H_skip (k := 12) (by rfl) (by kernel_rfl) (by kernel_rfl) (by kernel_rfl) (by exact fun _ _ _ h => h) (by rfl) (by assumption) ?_
                    (try simp only [Act.put, List.setIfInBounds_toArray, List.set_cons_zero, List.set_cons_succ])
                    refine H_skip (k := 13) (by rfl) (by kernel_rfl) (by kernel_rfl) (by kernel_rfl) (by exact fun _ _ _ h => h) (by rfl) (by assumption) ?_
                    (try simp only [Act.put, List.setIfInBounds_toArray, List.set_cons_zero, List.set_cons_succ])
                    refine H_skip (k := 14) (by rfl) (by kernel_rfl) (by kernel_rfl) (by kernel_rfl) (by exact fun _ _ _ h => h) (by rfl) (by assumption) ?_
                    (try simp only [Act.put, List.setIfInBounds_toArray, List.set_cons_zero, List.set_cons_succ])
                    refine H_skip (k := 15) (by rfl) (by kernel_rfl) (by kernel_rfl) (by kernel_rfl) (by exact fun _ _ _ h => h) (by rfl) (by assumption) ?_
                    (try simp only [Act.put, List.setIfInBounds_toArray, List.set_cons_zero, List.set_cons_succ])
                    refine H_take (k := 16) (v := ?_) (by rfl) (by kernel_rfl) (by kernel_rfl) (by kernel_rfl) (by exact fun _ _ _ h => h) (by rfl) ?_ (by assumption) ?_
                    rotate_left 1
                    · intro w hSw
                      (try dsimp only at hSw)
                      go_simp
                      (try with_reducible rfl)
                    (try simp only [Act.put, List.setIfInBounds_toArray, List.set_cons_zero, List.set_cons_succ])
                    refine H_done (by kernel_rfl) ?_
                    replace HG := Lib.hid (gr_none HG.out hHeld); replace HB := Lib.hid (HB.out.grown hHeld (by simp)); replace HBB := Lib.hid (HBB.out.grown hHeld (by simp)); replace HR0 := Lib.hid (HR0.out.grown hHeld (by simp))
                    clear hHeld
                    have HPB := Lib.hid (show false = false ∨ PrB z B from .inl rfl)
                    go_wp2_with (first
                      | (refine wpl_load_all Tryz.bcT rfl _ rfl _ rfl _ _ HB.out rfl ?_)
                      | (refine wpl_store_all Tryz.bcT rfl _ _ rfl _ rfl _ _ _ rfl HBB.out rfl rfl (by simp [Value.oneCell']) ?_; intro wz hst; have HST := Lib.hid hst; clear hst)
                      | fail)
                    have HG9 := Lib.hid (gr_trans HG.out HST.out.2.1 (fun g e => .inr (by injection e with e; rw [← e]; omega)))
                    have HR9 := Lib.hid (HR0.out.grown HST.out.2.1 (by simp))
                    go_roundw
                    case rel => exact ⟨k + 1, true, z, by omega, rfl, by go_num, HG9.out, HR9.out, HST.out.1, HW.out.put (syC_add HZ.out HC1.out) HPB.out⟩
                    case measure => simp [intOf]; omega
                  · obtain ⟨q1, h1⟩ : ∃ q, cmpZ z.st B.st = q := ⟨_, rfl⟩
                    obtain ⟨q2, h2⟩ : ∃ q, cmpZ z.at_ B.at_ = q := ⟨_, rfl⟩
                    have HV := Lib.hid (prB_prog HL.out HZ.out HC1.out (show SyC l p t k B from by
                      rcases HW.out with ⟨_, h, _⟩ | ⟨h, _⟩
                      · exact h
                      · cases h))
                    rw [h1, h2] at HV
                    have H1 := Lib.hid h1; have H2 := Lib.hid h2
                    clear h1 h2
                    refine H_take (k := 0) (v := ?_) (by rfl) (by kernel_rfl) (by kernel_rfl) (by kernel_rfl) (by exact fun _ _ _ h => h) (by rfl) ?_ (by assumption) ?_
                    rotate_left 1
                    · intro w hSw
                      (try dsimp only at hSw)
                      go_simp
                      (try with_reducible rfl)
                    (try simp only [Act.put, List.setIfInBounds_toArray, List.set_cons_zero, List.set_cons_succ])
                    refine H_take (k := 1) (v := ?_) (by rfl) (by kernel_rfl) (by kernel_rfl) (by kernel_rfl) (by exact fun _ _ _ h => h) (by rfl) ?_ (by assumption) ?_
                    rotate_left 1
                    · intro w hSw
                      (try dsimp only at hSw)
                      go_simp
                      (try with_reducible rfl)
                    (try simp only [Act.put, List.setIfInBounds_toArray, List.set_cons_zero, List.set_cons_succ])
                    refine H_take (k := 2) (v := ?_) (by rfl) (by kernel_rfl) (by kernel_rfl) (by kernel_rfl) (by exact fun _ _ _ h => h) (by rfl) ?_ (by assumption) ?_
                    rotate_left 1
                    · intro w hSw
                      (try dsimp only at hSw)
                      go_simp
                      (try with_reducible rfl)
                    (try simp only [Act.put, List.setIfInBounds_toArray, List.set_cons_zero, List.set_cons_succ])
                    refine H_take (k := 3) (v := ?_) (by rfl) (by kernel_rfl) (by kernel_rfl) (by kernel_rfl) (by exact fun _ _ _ h => h) (by rfl) ?_ (by assumption) ?_
                    rotate_left 1
                    · intro w hSw
                      (try dsimp only at hSw)
                      go_simp
                      (try with_reducible rfl)
                    (try simp only [Act.put, List.setIfInBounds_toArray, List.set_cons_zero, List.set_cons_succ])
                    refine H_take (k := 4) (v := ?_) (by rfl) (by kernel_rfl) (by kernel_rfl) (by kernel_rfl) (by exact fun _ _ _ h => h) (by rfl) ?_ (by assumption) ?_
                    rotate_left 1
                    · intro w' hSw
                      have kc := (HB.out.grown hSw (by simp)).cell 2
                      go_simp
                      (try with_reducible rfl)
                    (try simp only [Act.put, List.setIfInBounds_toArray, List.set_cons_zero, List.set_cons_succ])
                    refine H_take (k := 5) (v := ?_) (by rfl) (by kernel_rfl) (by kernel_rfl) (by kernel_rfl) (by exact fun _ _ _ h => h) (by rfl) ?_ (by assumption) ?_
                    rotate_left 1
                    · intro w hSw
                      (try dsimp only at hSw)
                      go_simp
                      (try with_reducible rfl)
                    (try simp only [Act.put, List.setIfInBounds_toArray, List.set_cons_zero, List.set_cons_succ])
                    refine H_take (k := 6) (v := ?_) (by rfl) (by kernel_rfl) (by kernel_rfl) (by kernel_rfl) (by exact fun _ _ _ h => h) (by rfl) ?_ (by assumption) ?_
                    rotate_left 1
                    · intro w' hSw
                      have kc := (HBB.out.grown hSw (by simp)).cell 2
                      go_simp
                      (try with_reducible rfl)
                    (try simp only [Act.put, List.setIfInBounds_toArray, List.set_cons_zero, List.set_cons_succ])
                    refine H_take (k := 8) (v := ?_) (by rfl) (by kernel_rfl) (by kernel_rfl) (by kernel_rfl) (by exact fun _ _ _ h => h) (by rfl) ?_ (by assumption) ?_
                    rotate_left 1
                    · intro w hSw
                      (try dsimp only at hSw)
                      go_simp
                      (try with_reducible rfl)
                    (try simp only [Act.put, List.setIfInBounds_toArray, List.set_cons_zero, List.set_cons_succ])
                    refine H_take (k := 9) (v := ?_) (by rfl) (by kernel_rfl) (by kernel_rfl) (by kernel_rfl) (by exact fun _ _ _ h => h) (by rfl) ?_ (by assumption) ?_
                    rotate_left 1
                    · intro w' hSw
                      have kc := (HB.out.grown hSw (by simp)).cell 3
                      go_simp
                      (try with_reducible rfl)
                    (try simp only [Act.put, List.setIfInBounds_toArray, List.set_cons_zero, List.set_cons_succ])
                    refine H_take (k := 10) (v := ?_) (by rfl) (by kernel_rfl) (by kernel_rfl) (by kernel_rfl) (by exact fun _ _ _ h => h) (by rfl) ?_ (by assumption) ?_
                    rotate_left 1
                    · intro w hSw
                      (try dsimp only at hSw)
                      go_simp
                      (try with_reducible rfl)
                    (try simp only [Act.put, List.setIfInBounds_toArray, List.set_cons_zero, List.set_cons_succ])
                    refine H_take (k := 11) (v := ?_) (by rfl) (by kernel_rfl) (by kernel_rfl) (by kernel_rfl) (by exact fun _ _ _ h => h) (by rfl) ?_ (by assumption) ?_
                    rotate_left 1
                    · intro w' hSw
                      have kc := (HBB.out.grown hSw (by simp)).cell 3
                      go_simp
                      (try with_reducible rfl)
                    (try simp only [Act.put, List.setIfInBounds_toArray, List.set_cons_zero, List.set_cons_succ])
                    refine H_run (k := 7) (by rfl) (by kernel_rfl) (by rfl) (fun K hK => ?_)
                    go_simp
                    refine (cmpZ_any _ _ _).mono ?_
                    rintro e w6 ⟨rfl, rfl⟩
                    rw [H1.out]
                    refine hK _ _ hHeld ?_
                    clear hK K
                    (try simp only [Act.put, List.setIfInBounds_toArray, List.set_cons_zero, List.set_cons_succ])
                    refine H_run (k := 12) (by rfl) (by kernel_rfl) (by rfl) (fun K hK => ?_)
                    go_simp
                    refine (cmpZ_any _ _ _).mono ?_
                    rintro e w6 ⟨rfl, rfl⟩
                    rw [H2.out]
                    refine hK _ _ hHeld ?_
                    clear hK K
                    (try simp only [Act.put, List.setIfInBounds_toArray, List.set_cons_zero, List.set_cons_succ])
                    refine H_run (k := 13) (by rfl) (by kernel_rfl) (by rfl) (fun K hK => ?_)
                    go_simp
                    obtain ⟨W2, hW2⟩ : ∃ W2, wd.alloc (.cells #[.int .i64 q1, .int .i64 q2] 3) = W2 := ⟨_, rfl⟩
                    obtain ⟨g2, hg2⟩ : ∃ g, wd.heap.size = g := ⟨_, rfl⟩
                    have hq2 : wq.grownBy W2 none := by rw [← hW2]; exact gr_alloc hHeld _
                    have HC := Lib.hid (show Blk W2 g2 3 ([q1, q2].map (Value.int .i64)).toArray by rw [← hW2, ← hg2]; exact Blk.new _ _ _)
                    (try rw [hW2])
                    (try rw [hg2])
                    refine hK _ _ hq2 ?_
                    clear hK K hHeld hW2 hg2
                    have hHeld := hq2
                    (try simp only [Act.put, List.setIfInBounds_toArray, List.set_cons_zero, List.set_cons_succ])
                    obtain ⟨OV, hOV⟩ : ∃ O, orL [q1, q2] = O := ⟨_, rfl⟩
                    have HOV := Lib.hid hOV
                    rw [hOV] at HV
                    clear hOV
                    refine H_run (k := 14) (by rfl) (by kernel_rfl) (by rfl) (fun K hK => ?_)
                    go_simp
                    refine (orL_any [q1, q2] g2 2 _ HC.out rfl (by omega)).mono ?_
                    rintro e w6 ⟨rfl, rfl⟩
                    rw [HOV.out]
                    refine hK _ _ hHeld ?_
                    clear hK K
                    (try simp only [Act.put, List.setIfInBounds_toArray, List.set_cons_zero, List.set_cons_succ])
                    obtain ⟨VB, hVB⟩ : ∃ V, decide (0 < OV) = V := ⟨_, rfl⟩
                    have HVB := Lib.hid hVB
                    refine H_take (k := 15) (v := ?_) (by rfl) (by kernel_rfl) (by kernel_rfl) (by kernel_rfl) (by exact fun _ _ _ h => h) (by rfl) ?_ (by assumption) ?_
                    rotate_left 1
                    · intro w hSw
                      (try dsimp only at hSw)
                      go_simp
                      (try with_reducible rfl)
                    (try simp only [Act.put, List.setIfInBounds_toArray, List.set_cons_zero, List.set_cons_succ])
                    refine H_take (k := 16) (v := ?_) (by rfl) (by kernel_rfl) (by kernel_rfl) (by kernel_rfl) (by exact fun _ _ _ h => h) (by rfl) ?_ (by assumption) ?_
                    rotate_left 1
                    · intro w hSw
                      (try dsimp only at hSw)
                      go_simp
                      (try with_reducible rfl)
                    (try simp only [Act.put, List.setIfInBounds_toArray, List.set_cons_zero, List.set_cons_succ])
                    refine H_done (by kernel_rfl) ?_
                    replace HG := Lib.hid (gr_none HG.out hHeld); replace HB := Lib.hid (HB.out.grown hHeld (by simp)); replace HBB := Lib.hid (HBB.out.grown hHeld (by simp)); replace HR0 := Lib.hid (HR0.out.grown hHeld (by simp))
                    clear hHeld hq2 hVB
                    cases VB
                    · have HNB := Lib.hid (show ¬ PrB z B from fun h => of_decide_eq_false HVB.out (HV.out.1 h))
                      have hvb := HVB.out
                      go_wp2_with fail
                      go_roundw
                      case rel => exact ⟨k + 1, true, B, by omega, rfl, by go_num, HG.out, HR0.out, HBB.out, HW.out.stay (syC_add HZ.out HC1.out) rfl HNB.out⟩
                      case measure => simp [intOf]; omega
                    · have HPB := Lib.hid (show true = false ∨ PrB z B from .inr (HV.out.2 (of_decide_eq_true HVB.out)))
                      have hvb := HVB.out
                      go_wp2_with (first
                        | (refine wpl_load_all Tryz.bcT rfl _ rfl _ rfl _ _ HB.out rfl ?_)
                        | (refine wpl_store_all Tryz.bcT rfl _ _ rfl _ rfl _ _ _ rfl HBB.out rfl rfl (by simp [Value.oneCell']) ?_; intro wz hst; have HST := Lib.hid hst; clear hst)
                        | fail)
                      have HG9 := Lib.hid (gr_trans HG.out HST.out.2.1 (fun g e => .inr (by injection e with e; rw [← e]; omega)))
                      have HR9 := Lib.hid (HR0.out.grown HST.out.2.1 (by simp))
                      go_roundw
                      case rel => exact ⟨k + 1, true, z, by omega, rfl, by go_num, HG9.out, HR9.out, HST.out.1, HW.out.put (syC_add HZ.out HC1.out) HPB.out⟩
                      case measure => simp [intOf]; omega
              · have HY1 := Lib.hid hy1
                obtain ⟨f1, f2, f3⟩ := eqS_no hy1
                clear hy1
                have HC1 := Lib.hid (show PrC l p t z from (prC_at HL.out HZ.out).2 ⟨HP.out.1, HP.out.2.1, HP.out.2.2, fun ⟨d, hd, hx⟩ => (show ∀ d, l[k + 1]? = some d → ¬ (nb d.psn = nb p ∧ nb d.dev = nb z.dev ∧ d.at_ ≤ t) from fun d hd => by rw [HY.out] at hd; obtain rfl := Option.some.inj hd; exact fun h => HY1.out h.1) d hd hx⟩)
                go_upto_region 7 with (fail)
                go_quiet (fail)
                go_upto_region 8 with (fail)
                obtain ⟨wq, hwq⟩ : ∃ v, w1.drewN nq = v := ⟨_, rfl⟩
                rw [hwq]
                have hgq : w1.grownBy wq none := by rw [← hwq]; exact gr_drewN (gr_refl _ _) _
                clear hwq k0 k1 k2 k3 k4
                replace HG := Lib.hid (gr_none HG.out hgq); replace HB := Lib.hid (HB.out.grown hgq (by simp)); replace HBB := Lib.hid (HBB.out.grown hgq (by simp)); replace HR0 := Lib.hid (HR0.out.grown hgq (by simp))
                clear hgq
                refine H_begin (fun w' => wq.grownBy w' none) (by kernel_rfl) ?_
                have hHeld : wq.grownBy wq.drew none := gr_drew (gr_refl _ _)
                generalize wq.drew = wd at hHeld ⊢
                cases F
                · refine H_take (k := 0) (v := ?_) (by rfl) (by kernel_rfl) (by kernel_rfl) (by kernel_rfl) (by exact fun _ _ _ h => h) (by rfl) ?_ (by assumption) ?_
                  rotate_left 1
                  · intro w hSw
                    (try dsimp only at hSw)
                    go_simp
                    (try with_reducible rfl)
                  (try simp only [Act.put, List.setIfInBounds_toArray, List.set_cons_zero, List.set_cons_succ])
                  refine H_take (k := 1) (v := ?_) (by rfl) (by kernel_rfl) (by kernel_rfl) (by kernel_rfl) (by exact fun _ _ _ h => h) (by rfl) ?_ (by assumption) ?_
                  rotate_left 1
                  · intro w hSw
                    (try dsimp only at hSw)
                    go_simp
                    (try with_reducible rfl)
                  (try simp only [Act.put, List.setIfInBounds_toArray, List.set_cons_zero, List.set_cons_succ])
                  refine H_take (k := 2) (v := ?_) (by rfl) (by kernel_rfl) (by kernel_rfl) (by kernel_rfl) (by exact fun _ _ _ h => h) (by rfl) ?_ (by assumption) ?_
                  rotate_left 1
                  · intro w hSw
                    (try dsimp only at hSw)
                    go_simp
                    (try with_reducible rfl)
                  (try simp only [Act.put, List.setIfInBounds_toArray, List.set_cons_zero, List.set_cons_succ])
                  refine H_skip (k := 3) (by rfl) (by kernel_rfl) (by kernel_rfl) (by kernel_rfl) (by exact fun _ _ _ h => h) (by rfl) (by assumption) ?_
                  (try simp only [Act.put, List.setIfInBounds_toArray, List.set_cons_zero, List.set_cons_succ])
                  refine H_skip (k := 4) (by rfl) (by kernel_rfl) (by kernel_rfl) (by kernel_rfl) (by exact fun _ _ _ h => h) (by rfl) (by assumption) ?_
                  (try simp only [Act.put, List.setIfInBounds_toArray, List.set_cons_zero, List.set_cons_succ])
                  refine H_skip (k := 5) (by rfl) (by kernel_rfl) (by kernel_rfl) (by kernel_rfl) (by exact fun _ _ _ h => h) (by rfl) (by assumption) ?_
                  (try simp only [Act.put, List.setIfInBounds_toArray, List.set_cons_zero, List.set_cons_succ])
                  refine H_skip (k := 6) (by rfl) (by kernel_rfl) (by kernel_rfl) (by kernel_rfl) (by exact fun _ _ _ h => h) (by rfl) (by assumption) ?_
                  (try simp only [Act.put, List.setIfInBounds_toArray, List.set_cons_zero, List.set_cons_succ])
                  refine H_skip (k := 7) (by rfl) (by kernel_rfl) (by kernel_rfl) (by kernel_rfl) (by exact fun _ _ _ h => h) (by rfl) (by assumption) ?_
                  (try simp only [Act.put, List.setIfInBounds_toArray, List.set_cons_zero, List.set_cons_succ])
                  refine H_skip (k := 8) (by rfl) (by kernel_rfl) (by kernel_rfl) (by kernel_rfl) (by exact fun _ _ _ h => h) (by rfl) (by assumption) ?_
                  (try simp only [Act.put, List.setIfInBounds_toArray, List.set_cons_zero, List.set_cons_succ])
                  refine H_skip (k := 9) (by rfl) (by kernel_rfl) (by kernel_rfl) (by kernel_rfl) (by exact fun _ _ _ h => h) (by rfl) (by assumption) ?_
                  (try simp only [Act.put, List.setIfInBounds_toArray, List.set_cons_zero, List.set_cons_succ])
                  refine H_skip (k := 10) (by rfl) (by kernel_rfl) (by kernel_rfl) (by kernel_rfl) (by exact fun _ _ _ h => h) (by rfl) (by assumption) ?_
                  (try simp only [Act.put, List.setIfInBounds_toArray, List.set_cons_zero, List.set_cons_succ])
                  refine H_skip (k := 11) (by rfl) (by kernel_rfl) (by kernel_rfl) (by kernel_rfl) (by exact fun _ _ _ h => h) (by rfl) (by assumption) ?_
                  (try simp only [Act.put, List.setIfInBounds_toArray, List.set_cons_zero, List.set_cons_succ])
                  refine H_skip (k := 12) (by rfl) (by kernel_rfl) (by kernel_rfl) (by kernel_rfl) (by exact fun _ _ _ h => h) (by rfl) (by assumption) ?_
                  (try simp only [Act.put, List.setIfInBounds_toArray, List.set_cons_zero, List.set_cons_succ])
                  refine H_skip (k := 13) (by rfl) (by kernel_rfl) (by kernel_rfl) (by kernel_rfl) (by exact fun _ _ _ h => h) (by rfl) (by assumption) ?_
                  (try simp only [Act.put, List.setIfInBounds_toArray, List.set_cons_zero, List.set_cons_succ])
                  refine H_skip (k := 14) (by rfl) (by kernel_rfl) (by kernel_rfl) (by kernel_rfl) (by exact fun _ _ _ h => h) (by rfl) (by assumption) ?_
                  (try simp only [Act.put, List.setIfInBounds_toArray, List.set_cons_zero, List.set_cons_succ])
                  refine H_skip (k := 15) (by rfl) (by kernel_rfl) (by kernel_rfl) (by kernel_rfl) (by exact fun _ _ _ h => h) (by rfl) (by assumption) ?_
                  (try simp only [Act.put, List.setIfInBounds_toArray, List.set_cons_zero, List.set_cons_succ])
                  refine H_take (k := 16) (v := ?_) (by rfl) (by kernel_rfl) (by kernel_rfl) (by kernel_rfl) (by exact fun _ _ _ h => h) (by rfl) ?_ (by assumption) ?_
                  rotate_left 1
                  · intro w hSw
                    (try dsimp only at hSw)
                    go_simp
                    (try with_reducible rfl)
                  (try simp only [Act.put, List.setIfInBounds_toArray, List.set_cons_zero, List.set_cons_succ])
                  refine H_done (by kernel_rfl) ?_
                  replace HG := Lib.hid (gr_none HG.out hHeld); replace HB := Lib.hid (HB.out.grown hHeld (by simp)); replace HBB := Lib.hid (HBB.out.grown hHeld (by simp)); replace HR0 := Lib.hid (HR0.out.grown hHeld (by simp))
                  clear hHeld
                  have HPB := Lib.hid (show false = false ∨ PrB z B from .inl rfl)
                  go_wp2_with (first
                    | (refine wpl_load_all Tryz.bcT rfl _ rfl _ rfl _ _ HB.out rfl ?_)
                    | (refine wpl_store_all Tryz.bcT rfl _ _ rfl _ rfl _ _ _ rfl HBB.out rfl rfl (by simp [Value.oneCell']) ?_; intro wz hst; have HST := Lib.hid hst; clear hst)
                    | fail)
                  have HG9 := Lib.hid (gr_trans HG.out HST.out.2.1 (fun g e => .inr (by injection e with e; rw [← e]; omega)))
                  have HR9 := Lib.hid (HR0.out.grown HST.out.2.1 (by simp))
                  go_roundw
                  case rel => exact ⟨k + 1, true, z, by omega, rfl, by go_num, HG9.out, HR9.out, HST.out.1, HW.out.put (syC_add HZ.out HC1.out) HPB.out⟩
                  case measure => simp [intOf]; omega
                · obtain ⟨q1, h1⟩ : ∃ q, cmpZ z.st B.st = q := ⟨_, rfl⟩
                  obtain ⟨q2, h2⟩ : ∃ q, cmpZ z.at_ B.at_ = q := ⟨_, rfl⟩
                  have HV := Lib.hid (prB_prog HL.out HZ.out HC1.out (show SyC l p t k B from by
                    rcases HW.out with ⟨_, h, _⟩ | ⟨h, _⟩
                    · exact h
                    · cases h))
                  rw [h1, h2] at HV
                  have H1 := Lib.hid h1; have H2 := Lib.hid h2
                  clear h1 h2
                  refine H_take (k := 0) (v := ?_) (by rfl) (by kernel_rfl) (by kernel_rfl) (by kernel_rfl) (by exact fun _ _ _ h => h) (by rfl) ?_ (by assumption) ?_
                  rotate_left 1
                  · intro w hSw
                    (try dsimp only at hSw)
                    go_simp
                    (try with_reducible rfl)
                  (try simp only [Act.put, List.setIfInBounds_toArray, List.set_cons_zero, List.set_cons_succ])
                  refine H_take (k := 1) (v := ?_) (by rfl) (by kernel_rfl) (by kernel_rfl) (by kernel_rfl) (by exact fun _ _ _ h => h) (by rfl) ?_ (by assumption) ?_
                  rotate_left 1
                  · intro w hSw
                    (try dsimp only at hSw)
                    go_simp
                    (try with_reducible rfl)
                  (try simp only [Act.put, List.setIfInBounds_toArray, List.set_cons_zero, List.set_cons_succ])
                  refine H_take (k := 2) (v := ?_) (by rfl) (by kernel_rfl) (by kernel_rfl) (by kernel_rfl) (by exact fun _ _ _ h => h) (by rfl) ?_ (by assumption) ?_
                  rotate_left 1
                  · intro w hSw
                    (try dsimp only at hSw)
                    go_simp
                    (try with_reducible rfl)
                  (try simp only [Act.put, List.setIfInBounds_toArray, List.set_cons_zero, List.set_cons_succ])
                  refine H_take (k := 3) (v := ?_) (by rfl) (by kernel_rfl) (by kernel_rfl) (by kernel_rfl) (by exact fun _ _ _ h => h) (by rfl) ?_ (by assumption) ?_
                  rotate_left 1
                  · intro w hSw
                    (try dsimp only at hSw)
                    go_simp
                    (try with_reducible rfl)
                  (try simp only [Act.put, List.setIfInBounds_toArray, List.set_cons_zero, List.set_cons_succ])
                  refine H_take (k := 4) (v := ?_) (by rfl) (by kernel_rfl) (by kernel_rfl) (by kernel_rfl) (by exact fun _ _ _ h => h) (by rfl) ?_ (by assumption) ?_
                  rotate_left 1
                  · intro w' hSw
                    have kc := (HB.out.grown hSw (by simp)).cell 2
                    go_simp
                    (try with_reducible rfl)
                  (try simp only [Act.put, List.setIfInBounds_toArray, List.set_cons_zero, List.set_cons_succ])
                  refine H_take (k := 5) (v := ?_) (by rfl) (by kernel_rfl) (by kernel_rfl) (by kernel_rfl) (by exact fun _ _ _ h => h) (by rfl) ?_ (by assumption) ?_
                  rotate_left 1
                  · intro w hSw
                    (try dsimp only at hSw)
                    go_simp
                    (try with_reducible rfl)
                  (try simp only [Act.put, List.setIfInBounds_toArray, List.set_cons_zero, List.set_cons_succ])
                  refine H_take (k := 6) (v := ?_) (by rfl) (by kernel_rfl) (by kernel_rfl) (by kernel_rfl) (by exact fun _ _ _ h => h) (by rfl) ?_ (by assumption) ?_
                  rotate_left 1
                  · intro w' hSw
                    have kc := (HBB.out.grown hSw (by simp)).cell 2
                    go_simp
                    (try with_reducible rfl)
                  (try simp only [Act.put, List.setIfInBounds_toArray, List.set_cons_zero, List.set_cons_succ])
                  refine H_take (k := 8) (v := ?_) (by rfl) (by kernel_rfl) (by kernel_rfl) (by kernel_rfl) (by exact fun _ _ _ h => h) (by rfl) ?_ (by assumption) ?_
                  rotate_left 1
                  · intro w hSw
                    (try dsimp only at hSw)
                    go_simp
                    (try with_reducible rfl)
                  (try simp only [Act.put, List.setIfInBounds_toArray, List.set_cons_zero, List.set_cons_succ])
                  refine H_take (k := 9) (v := ?_) (by rfl) (by kernel_rfl) (by kernel_rfl) (by kernel_rfl) (by exact fun _ _ _ h => h) (by rfl) ?_ (by assumption) ?_
                  rotate_left 1
                  · intro w' hSw
                    have kc := (HB.out.grown hSw (by simp)).cell 3
                    go_simp
                    (try with_reducible rfl)
                  (try simp only [Act.put, List.setIfInBounds_toArray, List.set_cons_zero, List.set_cons_succ])
                  refine H_take (k := 10) (v := ?_) (by rfl) (by kernel_rfl) (by kernel_rfl) (by kernel_rfl) (by exact fun _ _ _ h => h) (by rfl) ?_ (by assumption) ?_
                  rotate_left 1
                  · intro w hSw
                    (try dsimp only at hSw)
                    go_simp
                    (try with_reducible rfl)
                  (try simp only [Act.put, List.setIfInBounds_toArray, List.set_cons_zero, List.set_cons_succ])
                  refine H_take (k := 11) (v := ?_) (by rfl) (by kernel_rfl) (by kernel_rfl) (by kernel_rfl) (by exact fun _ _ _ h => h) (by rfl) ?_ (by assumption) ?_
                  rotate_left 1
                  · intro w' hSw
                    have kc := (HBB.out.grown hSw (by simp)).cell 3
                    go_simp
                    (try with_reducible rfl)
                  (try simp only [Act.put, List.setIfInBounds_toArray, List.set_cons_zero, List.set_cons_succ])
                  refine H_run (k := 7) (by rfl) (by kernel_rfl) (by rfl) (fun K hK => ?_)
                  go_simp
                  refine (cmpZ_any _ _ _).mono ?_
                  rintro e w6 ⟨rfl, rfl⟩
                  rw [H1.out]
                  refine hK _ _ hHeld ?_
                  clear hK K
                  (try simp only [Act.put, List.setIfInBounds_toArray, List.set_cons_zero, List.set_cons_succ])
                  refine H_run (k := 12) (by rfl) (by kernel_rfl) (by rfl) (fun K hK => ?_)
                  go_simp
                  refine (cmpZ_any _ _ _).mono ?_
                  rintro e w6 ⟨rfl, rfl⟩
                  rw [H2.out]
                  refine hK _ _ hHeld ?_
                  clear hK K
                  (try simp only [Act.put, List.setIfInBounds_toArray, List.set_cons_zero, List.set_cons_succ])
                  refine H_run (k := 13) (by rfl) (by kernel_rfl) (by rfl) (fun K hK => ?_)
                  go_simp
                  obtain ⟨W2, hW2⟩ : ∃ W2, wd.alloc (.cells #[.int .i64 q1, .int .i64 q2] 3) = W2 := ⟨_, rfl⟩
                  obtain ⟨g2, hg2⟩ : ∃ g, wd.heap.size = g := ⟨_, rfl⟩
                  have hq2 : wq.grownBy W2 none := by rw [← hW2]; exact gr_alloc hHeld _
                  have HC := Lib.hid (show Blk W2 g2 3 ([q1, q2].map (Value.int .i64)).toArray by rw [← hW2, ← hg2]; exact Blk.new _ _ _)
                  (try rw [hW2])
                  (try rw [hg2])
                  refine hK _ _ hq2 ?_
                  clear hK K hHeld hW2 hg2
                  have hHeld := hq2
                  (try simp only [Act.put, List.setIfInBounds_toArray, List.set_cons_zero, List.set_cons_succ])
                  obtain ⟨OV, hOV⟩ : ∃ O, orL [q1, q2] = O := ⟨_, rfl⟩
                  have HOV := Lib.hid hOV
                  rw [hOV] at HV
                  clear hOV
                  refine H_run (k := 14) (by rfl) (by kernel_rfl) (by rfl) (fun K hK => ?_)
                  go_simp
                  refine (orL_any [q1, q2] g2 2 _ HC.out rfl (by omega)).mono ?_
                  rintro e w6 ⟨rfl, rfl⟩
                  rw [HOV.out]
                  refine hK _ _ hHeld ?_
                  clear hK K
                  (try simp only [Act.put, List.setIfInBounds_toArray, List.set_cons_zero, List.set_cons_succ])
                  obtain ⟨VB, hVB⟩ : ∃ V, decide (0 < OV) = V := ⟨_, rfl⟩
                  have HVB := Lib.hid hVB
                  refine H_take (k := 15) (v := ?_) (by rfl) (by kernel_rfl) (by kernel_rfl) (by kernel_rfl) (by exact fun _ _ _ h => h) (by rfl) ?_ (by assumption) ?_
                  rotate_left 1
                  · intro w hSw
                    (try dsimp only at hSw)
                    go_simp
                    (try with_reducible rfl)
                  (try simp only [Act.put, List.setIfInBounds_toArray, List.set_cons_zero, List.set_cons_succ])
                  refine H_take (k := 16) (v := ?_) (by rfl) (by kernel_rfl) (by kernel_rfl) (by kernel_rfl) (by exact fun _ _ _ h => h) (by rfl) ?_ (by assumption) ?_
                  rotate_left 1
                  · intro w hSw
                    (try dsimp only at hSw)
                    go_simp
                    (try with_reducible rfl)
                  (try simp only [Act.put, List.setIfInBounds_toArray, List.set_cons_zero, List.set_cons_succ])
                  refine H_done (by kernel_rfl) ?_
                  replace HG := Lib.hid (gr_none HG.out hHeld); replace HB := Lib.hid (HB.out.grown hHeld (by simp)); replace HBB := Lib.hid (HBB.out.grown hHeld (by simp)); replace HR0 := Lib.hid (HR0.out.grown hHeld (by simp))
                  clear hHeld hq2 hVB
                  cases VB
                  · have HNB := Lib.hid (show ¬ PrB z B from fun h => of_decide_eq_false HVB.out (HV.out.1 h))
                    have hvb := HVB.out
                    go_wp2_with fail
                    go_roundw
                    case rel => exact ⟨k + 1, true, B, by omega, rfl, by go_num, HG.out, HR0.out, HBB.out, HW.out.stay (syC_add HZ.out HC1.out) rfl HNB.out⟩
                    case measure => simp [intOf]; omega
                  · have HPB := Lib.hid (show true = false ∨ PrB z B from .inr (HV.out.2 (of_decide_eq_true HVB.out)))
                    have hvb := HVB.out
                    go_wp2_with (first
                      | (refine wpl_load_all Tryz.bcT rfl _ rfl _ rfl _ _ HB.out rfl ?_)
                      | (refine wpl_store_all Tryz.bcT rfl _ _ rfl _ rfl _ _ _ rfl HBB.out rfl rfl (by simp [Value.oneCell']) ?_; intro wz hst; have HST := Lib.hid hst; clear hst)
                      | fail)
                    have HG9 := Lib.hid (gr_trans HG.out HST.out.2.1 (fun g e => .inr (by injection e with e; rw [← e]; omega)))
                    have HR9 := Lib.hid (HR0.out.grown HST.out.2.1 (by simp))
                    go_roundw
                    case rel => exact ⟨k + 1, true, z, by omega, rfl, by go_num, HG9.out, HR9.out, HST.out.1, HW.out.put (syC_add HZ.out HC1.out) HPB.out⟩
                    case measure => simp [intOf]; omega
            · have s2 : decide ((k : Int) + 1 < (n : Int)) = false := decide_eq_false (by omega)
              have HC1 := Lib.hid (show PrC l p t z from (prC_at HL.out HZ.out).2 ⟨HP.out.1, HP.out.2.1, HP.out.2.2, fun ⟨d, hd, hx⟩ => (show ∀ d, l[k + 1]? = some d → ¬ (nb d.psn = nb p ∧ nb d.dev = nb z.dev ∧ d.at_ ≤ t) from fun d hd => by have := (List.getElem?_eq_some_iff.1 hd).1; have := H.out.len; omega) d hd hx⟩)
              go_upto_region 7 with (fail)
              go_quiet (fail)
              go_upto_region 8 with (fail)
              obtain ⟨wq, hwq⟩ : ∃ v, w1.drewN nq = v := ⟨_, rfl⟩
              rw [hwq]
              have hgq : w1.grownBy wq none := by rw [← hwq]; exact gr_drewN (gr_refl _ _) _
              clear hwq k0 k1 k2 k3 k4
              replace HG := Lib.hid (gr_none HG.out hgq); replace HB := Lib.hid (HB.out.grown hgq (by simp)); replace HBB := Lib.hid (HBB.out.grown hgq (by simp)); replace HR0 := Lib.hid (HR0.out.grown hgq (by simp))
              clear hgq
              refine H_begin (fun w' => wq.grownBy w' none) (by kernel_rfl) ?_
              have hHeld : wq.grownBy wq.drew none := gr_drew (gr_refl _ _)
              generalize wq.drew = wd at hHeld ⊢
              cases F
              · refine H_take (k := 0) (v := ?_) (by rfl) (by kernel_rfl) (by kernel_rfl) (by kernel_rfl) (by exact fun _ _ _ h => h) (by rfl) ?_ (by assumption) ?_
                rotate_left 1
                · intro w hSw
                  (try dsimp only at hSw)
                  go_simp
                  (try with_reducible rfl)
                (try simp only [Act.put, List.setIfInBounds_toArray, List.set_cons_zero, List.set_cons_succ])
                refine H_take (k := 1) (v := ?_) (by rfl) (by kernel_rfl) (by kernel_rfl) (by kernel_rfl) (by exact fun _ _ _ h => h) (by rfl) ?_ (by assumption) ?_
                rotate_left 1
                · intro w hSw
                  (try dsimp only at hSw)
                  go_simp
                  (try with_reducible rfl)
                (try simp only [Act.put, List.setIfInBounds_toArray, List.set_cons_zero, List.set_cons_succ])
                refine H_take (k := 2) (v := ?_) (by rfl) (by kernel_rfl) (by kernel_rfl) (by kernel_rfl) (by exact fun _ _ _ h => h) (by rfl) ?_ (by assumption) ?_
                rotate_left 1
                · intro w hSw
                  (try dsimp only at hSw)
                  go_simp
                  (try with_reducible rfl)
                (try simp only [Act.put, List.setIfInBounds_toArray, List.set_cons_zero, List.set_cons_succ])
                refine H_skip (k := 3) (by rfl) (by kernel_rfl) (by kernel_rfl) (by kernel_rfl) (by exact fun _ _ _ h => h) (by rfl) (by assumption) ?_
                (try simp only [Act.put, List.setIfInBounds_toArray, List.set_cons_zero, List.set_cons_succ])
                refine H_skip (k := 4) (by rfl) (by kernel_rfl) (by kernel_rfl) (by kernel_rfl) (by exact fun _ _ _ h => h) (by rfl) (by assumption) ?_
                (try simp only [Act.put, List.setIfInBounds_toArray, List.set_cons_zero, List.set_cons_succ])
                refine H_skip (k := 5) (by rfl) (by kernel_rfl) (by kernel_rfl) (by kernel_rfl) (by exact fun _ _ _ h => h) (by rfl) (by assumption) ?_
                (try simp only [Act.put, List.setIfInBounds_toArray, List.set_cons_zero, List.set_cons_succ])
                refine H_skip (k := 6) (by rfl) (by kernel_rfl) (by kernel_rfl) (by kernel_rfl) (by exact fun _ _ _ h => h) (by rfl) (by assumption) ?_
                (try simp only [Act.put, List.setIfInBounds_toArray, List.set_cons_zero, List.set_cons_succ])
                refine H_skip (k := 7) (by rfl) (by kernel_rfl) (by kernel_rfl) (by kernel_rfl) (by exact fun _ _ _ h => h) (by rfl) (by assumption) ?_
                (try simp only [Act.put, List.setIfInBounds_toArray, List.set_cons_zero, List.set_cons_succ])
                refine H_skip (k := 8) (by rfl) (by kernel_rfl) (by kernel_rfl) (by kernel_rfl) (by exact fun _ _ _ h => h) (by rfl) (by assumption) ?_
                (try simp only [Act.put, List.setIfInBounds_toArray, List.set_cons_zero, List.set_cons_succ])
                refine H_skip (k := 9) (by rfl) (by kernel_rfl) (by kernel_rfl) (by kernel_rfl) (by exact fun _ _ _ h => h) (by rfl) (by assumption) ?_
                (try simp only [Act.put, List.setIfInBounds_toArray, List.set_cons_zero, List.set_cons_succ])
                refine H_skip (k := 10) (by rfl) (by kernel_rfl) (by kernel_rfl) (by kernel_rfl) (by exact fun _ _ _ h => h) (by rfl) (by assumption) ?_
                (try simp only [Act.put, List.setIfInBounds_toArray, List.set_cons_zero, List.set_cons_succ])
                refine H_skip (k := 11) (by rfl) (by kernel_rfl) (by kernel_rfl) (by kernel_rfl) (by exact fun _ _ _ h => h) (by rfl) (by assumption) ?_
                (try simp only [Act.put, List.setIfInBounds_toArray, List.set_cons_zero, List.set_cons_succ])
                refine H_skip (k := 12) (by rfl) (by kernel_rfl) (by kernel_rfl) (by kernel_rfl) (by exact fun _ _ _ h => h) (by rfl) (by assumption) ?_
                (try simp only [Act.put, List.setIfInBounds_toArray, List.set_cons_zero, List.set_cons_succ])
                refine H_skip (k := 13) (by rfl) (by kernel_rfl) (by kernel_rfl) (by kernel_rfl) (by exact fun _ _ _ h => h) (by rfl) (by assumption) ?_
                (try simp only [Act.put, List.setIfInBounds_toArray, List.set_cons_zero, List.set_cons_succ])
                refine H_skip (k := 14) (by rfl) (by kernel_rfl) (by kernel_rfl) (by kernel_rfl) (by exact fun _ _ _ h => h) (by rfl) (by assumption) ?_
                (try simp only [Act.put, List.setIfInBounds_toArray, List.set_cons_zero, List.set_cons_succ])
                refine H_skip (k := 15) (by rfl) (by kernel_rfl) (by kernel_rfl) (by kernel_rfl) (by exact fun _ _ _ h => h) (by rfl) (by assumption) ?_
                (try simp only [Act.put, List.setIfInBounds_toArray, List.set_cons_zero, List.set_cons_succ])
                refine H_take (k := 16) (v := ?_) (by rfl) (by kernel_rfl) (by kernel_rfl) (by kernel_rfl) (by exact fun _ _ _ h => h) (by rfl) ?_ (by assumption) ?_
                rotate_left 1
                · intro w hSw
                  (try dsimp only at hSw)
                  go_simp
                  (try with_reducible rfl)
                (try simp only [Act.put, List.setIfInBounds_toArray, List.set_cons_zero, List.set_cons_succ])
                refine H_done (by kernel_rfl) ?_
                replace HG := Lib.hid (gr_none HG.out hHeld); replace HB := Lib.hid (HB.out.grown hHeld (by simp)); replace HBB := Lib.hid (HBB.out.grown hHeld (by simp)); replace HR0 := Lib.hid (HR0.out.grown hHeld (by simp))
                clear hHeld
                have HPB := Lib.hid (show false = false ∨ PrB z B from .inl rfl)
                go_wp2_with (first
                  | (refine wpl_load_all Tryz.bcT rfl _ rfl _ rfl _ _ HB.out rfl ?_)
                  | (refine wpl_store_all Tryz.bcT rfl _ _ rfl _ rfl _ _ _ rfl HBB.out rfl rfl (by simp [Value.oneCell']) ?_; intro wz hst; have HST := Lib.hid hst; clear hst)
                  | fail)
                have HG9 := Lib.hid (gr_trans HG.out HST.out.2.1 (fun g e => .inr (by injection e with e; rw [← e]; omega)))
                have HR9 := Lib.hid (HR0.out.grown HST.out.2.1 (by simp))
                go_roundw
                case rel => exact ⟨k + 1, true, z, by omega, rfl, by go_num, HG9.out, HR9.out, HST.out.1, HW.out.put (syC_add HZ.out HC1.out) HPB.out⟩
                case measure => simp [intOf]; omega
              · obtain ⟨q1, h1⟩ : ∃ q, cmpZ z.st B.st = q := ⟨_, rfl⟩
                obtain ⟨q2, h2⟩ : ∃ q, cmpZ z.at_ B.at_ = q := ⟨_, rfl⟩
                have HV := Lib.hid (prB_prog HL.out HZ.out HC1.out (show SyC l p t k B from by
                  rcases HW.out with ⟨_, h, _⟩ | ⟨h, _⟩
                  · exact h
                  · cases h))
                rw [h1, h2] at HV
                have H1 := Lib.hid h1; have H2 := Lib.hid h2
                clear h1 h2
                refine H_take (k := 0) (v := ?_) (by rfl) (by kernel_rfl) (by kernel_rfl) (by kernel_rfl) (by exact fun _ _ _ h => h) (by rfl) ?_ (by assumption) ?_
                rotate_left 1
                · intro w hSw
                  (try dsimp only at hSw)
                  go_simp
                  (try with_reducible rfl)
                (try simp only [Act.put, List.setIfInBounds_toArray, List.set_cons_zero, List.set_cons_succ])
                refine H_take (k := 1) (v := ?_) (by rfl) (by kernel_rfl) (by kernel_rfl) (by kernel_rfl) (by exact fun _ _ _ h => h) (by rfl) ?_ (by assumption) ?_
                rotate_left 1
                · intro w hSw
                  (try dsimp only at hSw)
                  go_simp
                  (try with_reducible rfl)
                (try simp only [Act.put, List.setIfInBounds_toArray, List.set_cons_zero, List.set_cons_succ])
                refine H_take (k := 2) (v := ?_) (by rfl) (by kernel_rfl) (by kernel_rfl) (by kernel_rfl) (by exact fun _ _ _ h => h) (by rfl) ?_ (by assumption) ?_
                rotate_left 1
                · intro w hSw
                  (try dsimp only at hSw)
                  go_simp
                  (try with_reducible rfl)
                (try simp only [Act.put, List.setIfInBounds_toArray, List.set_cons_zero, List.set_cons_succ])
                refine H_take (k := 3) (v := ?_) (by rfl) (by kernel_rfl) (by kernel_rfl) (by kernel_rfl) (by exact fun _ _ _ h => h) (by rfl) ?_ (by assumption) ?_
                rotate_left 1
                · intro w hSw
                  (try dsimp only at hSw)
                  go_simp
                  (try with_reducible rfl)
                (try simp only [Act.put, List.setIfInBounds_toArray, List.set_cons_zero, List.set_cons_succ])
                refine H_take (k := 4) (v := ?_) (by rfl) (by kernel_rfl) (by kernel_rfl) (by kernel_rfl) (by exact fun _ _ _ h => h) (by rfl) ?_ (by assumption) ?_
                rotate_left 1
                · intro w' hSw
                  have kc := (HB.out.grown hSw (by simp)).cell 2
                  go_simp
                  (try with_reducible rfl)
                (try simp only [Act.put, List.setIfInBounds_toArray, List.set_cons_zero, List.set_cons_succ])
                refine H_take (k := 5) (v := ?_) (by rfl) (by kernel_rfl) (by kernel_rfl) (by kernel_rfl) (by exact fun _ _ _ h => h) (by rfl) ?_ (by assumption) ?_
                rotate_left 1
                · intro w hSw
                  (try dsimp only at hSw)
                  go_simp
                  (try with_reducible rfl)
                (try simp only [Act.put, List.setIfInBounds_toArray, List.set_cons_zero, List.set_cons_succ])
                refine H_take (k := 6) (v := ?_) (by rfl) (by kernel_rfl) (by kernel_rfl) (by kernel_rfl) (by exact fun _ _ _ h => h) (by rfl) ?_ (by assumption) ?_
                rotate_left 1
                · intro w' hSw
                  have kc := (HBB.out.grown hSw (by simp)).cell 2
                  go_simp
                  (try with_reducible rfl)
                (try simp only [Act.put, List.setIfInBounds_toArray, List.set_cons_zero, List.set_cons_succ])
                refine H_take (k := 8) (v := ?_) (by rfl) (by kernel_rfl) (by kernel_rfl) (by kernel_rfl) (by exact fun _ _ _ h => h) (by rfl) ?_ (by assumption) ?_
                rotate_left 1
                · intro w hSw
                  (try dsimp only at hSw)
                  go_simp
                  (try with_reducible rfl)
                (try simp only [Act.put, List.setIfInBounds_toArray, List.set_cons_zero, List.set_cons_succ])
                refine H_take (k := 9) (v := ?_) (by rfl) (by kernel_rfl) (by kernel_rfl) (by kernel_rfl) (by exact fun _ _ _ h => h) (by rfl) ?_ (by assumption) ?_
                rotate_left 1
                · intro w' hSw
                  have kc := (HB.out.grown hSw (by simp)).cell 3
                  go_simp
                  (try with_reducible rfl)
                (try simp only [Act.put, List.setIfInBounds_toArray, List.set_cons_zero, List.set_cons_succ])
                refine H_take (k := 10) (v := ?_) (by rfl) (by kernel_rfl) (by kernel_rfl) (by kernel_rfl) (by exact fun _ _ _ h => h) (by rfl) ?_ (by assumption) ?_
                rotate_left 1
                · intro w hSw
                  (try dsimp only at hSw)
                  go_simp
                  (try with_reducible rfl)
                (try simp only [Act.put, List.setIfInBounds_toArray, List.set_cons_zero, List.set_cons_succ])
                refine H_take (k := 11) (v := ?_) (by rfl) (by kernel_rfl) (by kernel_rfl) (by kernel_rfl) (by exact fun _ _ _ h => h) (by rfl) ?_ (by assumption) ?_
                rotate_left 1
                · intro w' hSw
                  have kc := (HBB.out.grown hSw (by simp)).cell 3
                  go_simp
                  (try with_reducible rfl)
                (try simp only [Act.put, List.setIfInBounds_toArray, List.set_cons_zero, List.set_cons_succ])
                refine H_run (k := 7) (by rfl) (by kernel_rfl) (by rfl) (fun K hK => ?_)
                go_simp
                refine (cmpZ_any _ _ _).mono ?_
                rintro e w6 ⟨rfl, rfl⟩
                rw [H1.out]
                refine hK _ _ hHeld ?_
                clear hK K
                (try simp only [Act.put, List.setIfInBounds_toArray, List.set_cons_zero, List.set_cons_succ])
                refine H_run (k := 12) (by rfl) (by kernel_rfl) (by rfl) (fun K hK => ?_)
                go_simp
                refine (cmpZ_any _ _ _).mono ?_
                rintro e w6 ⟨rfl, rfl⟩
                rw [H2.out]
                refine hK _ _ hHeld ?_
                clear hK K
                (try simp only [Act.put, List.setIfInBounds_toArray, List.set_cons_zero, List.set_cons_succ])
                refine H_run (k := 13) (by rfl) (by kernel_rfl) (by rfl) (fun K hK => ?_)
                go_simp
                obtain ⟨W2, hW2⟩ : ∃ W2, wd.alloc (.cells #[.int .i64 q1, .int .i64 q2] 3) = W2 := ⟨_, rfl⟩
                obtain ⟨g2, hg2⟩ : ∃ g, wd.heap.size = g := ⟨_, rfl⟩
                have hq2 : wq.grownBy W2 none := by rw [← hW2]; exact gr_alloc hHeld _
                have HC := Lib.hid (show Blk W2 g2 3 ([q1, q2].map (Value.int .i64)).toArray by rw [← hW2, ← hg2]; exact Blk.new _ _ _)
                (try rw [hW2])
                (try rw [hg2])
                refine hK _ _ hq2 ?_
                clear hK K hHeld hW2 hg2
                have hHeld := hq2
                (try simp only [Act.put, List.setIfInBounds_toArray, List.set_cons_zero, List.set_cons_succ])
                obtain ⟨OV, hOV⟩ : ∃ O, orL [q1, q2] = O := ⟨_, rfl⟩
                have HOV := Lib.hid hOV
                rw [hOV] at HV
                clear hOV
                refine H_run (k := 14) (by rfl) (by kernel_rfl) (by rfl) (fun K hK => ?_)
                go_simp
                refine (orL_any [q1, q2] g2 2 _ HC.out rfl (by omega)).mono ?_
                rintro e w6 ⟨rfl, rfl⟩
                rw [HOV.out]
                refine hK _ _ hHeld ?_
                clear hK K
                (try simp only [Act.put, List.setIfInBounds_toArray, List.set_cons_zero, List.set_cons_succ])
                obtain ⟨VB, hVB⟩ : ∃ V, decide (0 < OV) = V := ⟨_, rfl⟩
                have HVB := Lib.hid hVB
                refine H_take (k := 15) (v := ?_) (by rfl) (by kernel_rfl) (by kernel_rfl) (by kernel_rfl) (by exact fun _ _ _ h => h) (by rfl) ?_ (by assumption) ?_
                rotate_left 1
                · intro w hSw
                  (try dsimp only at hSw)
                  go_simp
                  (try with_reducible rfl)
                (try simp only [Act.put, List.setIfInBounds_toArray, List.set_cons_zero, List.set_cons_succ])
                refine H_take (k := 16) (v := ?_) (by rfl) (by kernel_rfl) (by kernel_rfl) (by kernel_rfl) (by exact fun _ _ _ h => h) (by rfl) ?_ (by assumption) ?_
                rotate_left 1
                · intro w hSw
                  (try dsimp only at hSw)
                  go_simp
                  (try with_reducible rfl)
                (try simp only [Act.put, List.setIfInBounds_toArray, List.set_cons_zero, List.set_cons_succ])
                refine H_done (by kernel_rfl) ?_
                replace HG := Lib.hid (gr_none HG.out hHeld); replace HB := Lib.hid (HB.out.grown hHeld (by simp)); replace HBB := Lib.hid (HBB.out.grown hHeld (by simp)); replace HR0 := Lib.hid (HR0.out.grown hHeld (by simp))
                clear hHeld hq2 hVB
                cases VB
                · have HNB := Lib.hid (show ¬ PrB z B from fun h => of_decide_eq_false HVB.out (HV.out.1 h))
                  have hvb := HVB.out
                  go_wp2_with fail
                  go_roundw
                  case rel => exact ⟨k + 1, true, B, by omega, rfl, by go_num, HG.out, HR0.out, HBB.out, HW.out.stay (syC_add HZ.out HC1.out) rfl HNB.out⟩
                  case measure => simp [intOf]; omega
                · have HPB := Lib.hid (show true = false ∨ PrB z B from .inr (HV.out.2 (of_decide_eq_true HVB.out)))
                  have hvb := HVB.out
                  go_wp2_with (first
                    | (refine wpl_load_all Tryz.bcT rfl _ rfl _ rfl _ _ HB.out rfl ?_)
                    | (refine wpl_store_all Tryz.bcT rfl _ _ rfl _ rfl _ _ _ rfl HBB.out rfl rfl (by simp [Value.oneCell']) ?_; intro wz hst; have HST := Lib.hid hst; clear hst)
                    | fail)
                  have HG9 := Lib.hid (gr_trans HG.out HST.out.2.1 (fun g e => .inr (by injection e with e; rw [← e]; omega)))
                  have HR9 := Lib.hid (HR0.out.grown HST.out.2.1 (by simp))
                  go_roundw
                  case rel => exact ⟨k + 1, true, z, by omega, rfl, by go_num, HG9.out, HR9.out, HST.out.1, HW.out.put (syC_add HZ.out HC1.out) HPB.out⟩
                  case measure => simp [intOf]; omega
          · have HNC := Lib.hid (show ¬ PrC l p t z from fun h => by have := of_decide_eq_true hV3; have := h.2.2.2.1; omega)
            go_wp2_with fail
            go_roundw
            case rel => exact ⟨k + 1, F, B, by omega, rfl, by go_num, HG.out, HR0.out, HBB.out, HW.out.same (syC_skip HZ.out HNC.out)⟩
            case measure => simp [intOf]; omega
        · have HNC := Lib.hid (show ¬ PrC l p t z from fun h => by have := of_decide_eq_true hV2; have := h.2.2.1; omega)
          go_wp2_with fail
          go_roundw
          case rel => exact ⟨k + 1, F, B, by omega, rfl, by go_num, HG.out, HR0.out, HBB.out, HW.out.same (syC_skip HZ.out HNC.out)⟩
          case measure => simp [intOf]; omega
      · have HV1 := Lib.hid hp
        obtain ⟨e1, e2, e3⟩ := eqS_no hp
        clear hp
        have HNC := Lib.hid (show ¬ PrC l p t z from fun h => HV1.out h.2.1)
        go_wp2_with fail
        go_roundw
        case rel => exact ⟨k + 1, F, B, by omega, rfl, by go_num, HG.out, HR0.out, HBB.out, HW.out.same (syC_skip HZ.out HNC.out)⟩
        case measure => simp [intOf]; omega
    · obtain rfl : k = n := by omega
      have HFIN := Lib.hid (prs_of HL.out (HW.out.same (fun d => (syC_all (l := l) (p := p) (t := t) d).symm.trans (by rw [H.out.len]))))
      go_wp2_with (first
        | (refine wpl_load_all Tryz.bcT rfl _ rfl _ rfl _ _ HBB.out rfl ?_)
        | (refine wpl_store_all Tryz.bcT rfl _ _ rfl _ rfl _ _ _ rfl HR0.out rfl rfl (by simp [Value.oneCell']) ?_; intro wz hst; have HST := Lib.hid hst; clear hst)
        | fail)
      refine ret_cell_tmp Tryz.bcT rfl w.heap.size 62 #[.string B.psn, .string B.dev, .int .i64 B.st, .int .i64 B.at_, .int .i64 B.un, .string B.note] _ rfl rfl HST.out.1 rfl rfl ?_
      exact ⟨by rw [HFIN.out]; rfl, gr_trans HG.out HST.out.2.1 (fun g e => .inr (by injection e with e; omega))⟩
end Go.Proofs.YtgogiljplnninaaGreatDoor

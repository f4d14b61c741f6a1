/- Contract of the document's ThroughOf. Conditions: right beacons. -/
import Derived.Test.YtgogiljplnninaaGreatDoorPr2
import Derived.Test.YtgogiljplnninaaGreatDoorBun4
import Derived.Test.YtgogiljplnninaaGreatDoorThG
namespace Go.Proofs.YtgogiljplnninaaGreatDoor
open Go.RowKit

noncomputable def thD (l : List BcV) (p : ByteArray) (fr til : Int) : List BcV := (thr (stD (prs l p)) ([], []) (sortI (evD l p fr til))).1
set_option maxHeartbeats 16000000 in
set_option maxRecDepth 100000 in
theorem throughOf_any (lo : Nat) (A : Option Addr) (n c : Nat) (l : List BcV) (p : ByteArray) (fr til : Int) (w : World) (h : Bcs w lo A n c l) (hn : n ≤ 1000000) (hla : BAsc l) :
    Calls Tryz.prog 47 #[.slice A n c, .string p, .agg #[.int .i64 fr, .int .i64 til]] w (fun e w' => ∃ A' n' c', e = .returned (.slice A' n' c') ∧ Recs BcV.row 6 w' w.heap.size A' n' c' (thD l p fr til) ∧ n' ≤ 4000000 ∧ w.grownBy w' none) := by
  have H := Lib.hid h; have HLA := Lib.hid hla; clear h hla
  obtain ⟨w0, hw0⟩ : ∃ v, w.alloc (.cells #[.int .i64 fr, .int .i64 til] 79) = v := ⟨_, rfl⟩
  have HWc := Lib.hid (show Blk w0 w.heap.size 79 #[.int .i64 fr, .int .i64 til] by rw [← hw0]; exact Blk.new _ _ _)
  have HGc := Lib.hid (show w.grownBy w0 none by rw [← hw0]; exact gr_alloc (gr_refl _ _) _)
  have HW0 := Lib.hid hw0
  clear hw0
  have j0 := HWc.out.cell 0; have j1 := HWc.out.cell 1
  go_enter Tryz.func47, Tryz.ntmps47
  go_upto_region 1 with (fail)
  rw [HW0.out]
  clear HW0
  go_wp2_with fail
  clear j0 j1
  go_loopw [7, 9, 11, 25] (fun v _ _ t wr => ∃ (k : Nat) (B : Option Addr) (m cB : Nat), k ≤ n ∧ t = .int .i64 k ∧ v = .slice B m cB ∧ w.grownBy wr none ∧ OwnR nrow 1 wr (w.heap.size + 1) 3 B m cB (evD (l.take k) p fr til) ∧ m ≤ 2 + 2 * k ∧ Blk wr w.heap.size 79 #[.int .i64 fr, .int .i64 til]) (fun _ _ _ t _ => n - (intOf t).toNat)
  case atStart => exact ⟨0, _, 2, _, Nat.zero_le _, rfl, rfl, gr_alloc HGc.out _, (show OwnR nrow 1 _ (w.heap.size + 1) _ _ _ _ _ from ⟨(Own.lit _ _ 1 [.int .i64 fr, .int .i64 til] 2 (by unfold maxLen; omega) rfl).lower (by have := HWc.out.lt; omega), rfl⟩), by omega, HWc.out.alloc _⟩
  case round =>
    clear HGc HWc
    obtain ⟨k, B, m, cB, hk, rfl, rfl, hg, hown, hm, hwb⟩ := hrel
    have HO := Lib.hid hown; have HG := Lib.hid hg; have HW := Lib.hid hwb
    clear hown hg hwb
    by_cases hlt : k < n
    · obtain ⟨g, o, z, rfl, _, hgl, hz, hc⟩ := (H.out.1.grown HG.out (fun g e => by cases e)).get BcV.row_len hlt
      have HZ := Lib.hid hz; have HC := Lib.hid hc; clear hz hc
      obtain ⟨w1, hw1⟩ : ∃ v, wr.alloc (.cells #[.string z.psn, .string z.dev, .int .i64 z.st, .int .i64 z.at_, .int .i64 z.un, .string z.note] 62) = v := ⟨_, rfl⟩
      obtain ⟨zb, hzb⟩ : ∃ b, wr.heap.size = b := ⟨_, rfl⟩
      have HB := Lib.hid (show Blk w1 zb 62 #[.string z.psn, .string z.dev, .int .i64 z.st, .int .i64 z.at_, .int .i64 z.un, .string z.note] by rw [← hw1, ← hzb]; exact Blk.new _ _ _)
      replace HG := Lib.hid (show w.grownBy w1 none by rw [← hw1]; exact gr_alloc HG.out _)
      replace HW := Lib.hid (show Blk w1 w.heap.size 79 #[.int .i64 fr, .int .i64 til] by rw [← hw1]; exact HW.out.alloc _)
      replace HO := Lib.hid (show OwnR nrow 1 w1 (w.heap.size + 1) 3 B m cB (evD (l.take k) p fr til) by rw [← hw1]; exact HO.out.alloc _)
      have HW1 := Lib.hid hw1; have HZB := Lib.hid hzb
      clear hw1 hzb
      go_upto_region 5 with (first
        | (refine wpl_load_at Tryz.bcT rfl _ rfl _ rfl [.string z.psn, .string z.dev, .int .i64 z.st, .int .i64 z.at_, .int .i64 z.un, .string z.note] rfl (fun j u hu => by rw [add_mk]; exact HC.out j u hu) ?_)
        | fail)
      rw [HW1.out]
      (try rw [HZB.out])
      clear HW1 HZB HC
      have k3 := HB.out.cell 3; have k4 := HB.out.cell 4
      obtain ⟨w2, hw2⟩ : ∃ v, w1.alloc (.cells #[.int .i64 z.at_, .int .i64 z.un] 3) = v := ⟨_, rfl⟩
      obtain ⟨lb, hlb⟩ : ∃ b, w1.heap.size = b := ⟨_, rfl⟩
      have HLB := Lib.hid (show Blk w2 lb 3 #[.int .i64 z.at_, .int .i64 z.un] by rw [← hw2, ← hlb]; exact Blk.new _ _ _)
      go_wp2_with fail
      (try rw [hw2])
      (try rw [hlb])
      replace HG := Lib.hid (show w.grownBy w2 none by rw [← hw2]; exact gr_alloc HG.out _)
      have HNE0 := Lib.hid (show blkOf B ≠ some lb from fun e => by have := (HO.out.1.lt e).2; omega)
      replace HW := Lib.hid (show Blk w2 w.heap.size 79 #[.int .i64 fr, .int .i64 til] by rw [← hw2]; exact HW.out.alloc _)
      replace HB := Lib.hid (show Blk w2 zb 62 #[.string z.psn, .string z.dev, .int .i64 z.st, .int .i64 z.at_, .int .i64 z.un, .string z.note] by rw [← hw2]; exact HB.out.alloc _)
      replace HO := Lib.hid (show OwnR nrow 1 w2 (w.heap.size + 1) 3 B m cB (evD (l.take k) p fr til) by rw [← hw2]; exact HO.out.alloc _)
      clear hw2 hlb k3 k4
      go_loopw [7, 11, 35] (fun v _ t wr => ∃ (j : Nat) (B : Option Addr) (m' cB : Nat), j ≤ 2 ∧ t = .int .i64 j ∧ v = .slice B m' cB ∧ w.grownBy wr none ∧ OwnR nrow 1 wr (w.heap.size + 1) 3 B m' cB (evD (l.take k) p fr til ++ ([z.at_, z.un].take j).filter fun n => decide (nb z.psn = nb p) && (decide (fr ≤ n) && decide (n < til))) ∧ m' ≤ 2 + 2 * k + j ∧ Blk wr w.heap.size 79 #[.int .i64 fr, .int .i64 til] ∧ Blk wr zb 62 #[.string z.psn, .string z.dev, .int .i64 z.st, .int .i64 z.at_, .int .i64 z.un, .string z.note] ∧ Blk wr lb 3 #[.int .i64 z.at_, .int .i64 z.un] ∧ blkOf B ≠ some lb) (fun _ _ t _ => 2 - (intOf t).toNat)
      case atStart => exact ⟨0, B, m, cB, by omega, rfl, rfl, HG.out, by simpa using HO.out, by omega, HW.out, HB.out, HLB.out, HNE0.out⟩
      case round =>
        clear HG HO HW HB HLB HNE0
        obtain ⟨j, B, m, cB, hj, rfl, rfl, hg, hown, hm2, hwb, hb, hlb, hne⟩ := hrel
        have HO := Lib.hid hown; have HG := Lib.hid hg; have HW := Lib.hid hwb; have HB := Lib.hid hb; have HLB := Lib.hid hlb; have HNE := Lib.hid hne
        have zr := hg.size
        clear hown hg hwb hb hlb hne
        by_cases hj2 : j < 2
        · obtain ⟨v, hv⟩ : ∃ v, [z.at_, z.un][j]? = some v := ⟨_, List.getElem?_eq_getElem (by simpa using hj2)⟩
          have HV := Lib.hid hv
          have kv := (HLB.out.cell j).trans (two_at hv)
          have i1 : (0 : Int) ≤ (j : Int) := by omega
          have i2 : (j : Int) < 2 := by omega
          have i3 : decide ((j : Int) < 2) = true := decide_eq_true i2
          clear hv
          have k0 := HB.out.cell 0
        
          by_cases hp1 : nb z.psn = nb p
          · have HP1 := Lib.hid hp1
            obtain ⟨e1, e2, e3⟩ := eqS_yes hp1
            clear hp1
            obtain ⟨IV, hIV⟩ : ∃ V, (decide (fr ≤ v) && decide (v < til)) = V := ⟨_, rfl⟩
            have HIV := Lib.hid hIV
            clear hIV
            cases IV
            · go_wp2_with (first
                | (refine wplg_load_all Tryz.winTh (by rfl) _ rfl _ rfl _ _ HW.out rfl ?_)
                | fail)
              refine (insideT_any v (fr, til) _).mono ?_
              rintro e w3 ⟨rfl, hg3⟩
              dsimp only
              rw [HIV.out]
              replace HG := Lib.hid (gr_none HG.out hg3)
              replace HO := Lib.hid (HO.out.kept hg3 (fun g e => by cases e))
              replace HW := Lib.hid (HW.out.grown hg3 (by simp))
              replace HB := Lib.hid (HB.out.grown hg3 (by simp))
              replace HLB := Lib.hid (HLB.out.grown hg3 (by simp))
              have zr3 := hg3.size
              clear hg3 kv k0
              have hf := filt_succ (c := fun n => decide (nb z.psn = nb p) && (decide (fr ≤ n) && decide (n < til))) HV.out
              rw [show (decide (nb z.psn = nb p) && (decide (fr ≤ v) && decide (v < til))) = false by rw [HIV.out, Bool.and_false]] at hf
              replace hf := hf.trans (List.append_nil _)
              go_wp2_with fail
              go_roundw
              case rel => exact ⟨j + 1, B, m, cB, by omega, by go_num, rfl, HG.out, by rw [hf]; exact HO.out, by omega, HW.out, HB.out, HLB.out, HNE.out⟩
              case measure => simp [intOf]; omega
            · go_wp2_with (first
                | (refine wplg_load_all Tryz.winTh (by rfl) _ rfl _ rfl _ _ HW.out rfl ?_)
                | fail)
              refine (insideT_any v (fr, til) _).mono ?_
              rintro e w3 ⟨rfl, hg3⟩
              dsimp only
              rw [HIV.out]
              replace HG := Lib.hid (gr_none HG.out hg3)
              replace HO := Lib.hid (HO.out.kept hg3 (fun g e => by cases e))
              replace HW := Lib.hid (HW.out.grown hg3 (by simp))
              replace HB := Lib.hid (HB.out.grown hg3 (by simp))
              replace HLB := Lib.hid (HLB.out.grown hg3 (by simp))
              have zr3 := hg3.size
              clear hg3 kv k0
              have hf := filt_succ (c := fun n => decide (nb z.psn = nb p) && (decide (fr ≤ n) && decide (n < til))) HV.out
              rw [show (decide (nb z.psn = nb p) && (decide (fr ≤ v) && decide (v < til))) = true by rw [decide_eq_true HP1.out, HIV.out]; rfl] at hf
              replace hf := hf.trans (show _ = _ ++ [v] from rfl)
              go_wp2_with (first
                | (at_builtin
                   refine wpl_app _ rfl _ _ Tryz.inT rfl (w.heap.size + 1) B m cB _ rfl (by exact HO.out.1.alloc _) _ _ 1 1 [.int .i64 v] rfl (by exact Reads.one _ _ _ _ rfl) (by simp [Value.oneCell']) (by unfold maxLen; omega) (by omega) (by have := HG.out.size; simp; omega) ?_
                   intro A8 c8 w8 h8
                   have H8 := Lib.hid h8; clear h8)
                | fail)
              have HO8 := Lib.hid (show OwnR nrow 1 w8 (w.heap.size + 1) 3 A8 (m + 1) c8 ((evD (l.take k) p fr til ++ ([z.at_, z.un].take j).filter fun n => decide (nb z.psn = nb p) && (decide (fr ≤ n) && decide (n < til))) ++ [v]) from (HO.out.alloc _).app rfl H8.out)
              have HG8 := Lib.hid (show w.grownBy w8 none from gr_own (lo := w.heap.size + 1) (gr_alloc HG.out _) (HO.out.1.alloc _) (by omega) H8.out.2.1)
              have hne8 : ∀ b, b ≤ w.heap.size ∨ some b ≠ blkOf B → some b ≠ blkOf B := fun b h => h.elim (fun h e => by have := (HO.out.1.lt e.symm).1; omega) id
              have HW8 := Lib.hid (show Blk w8 w.heap.size 79 #[.int .i64 fr, .int .i64 til] from (HW.out.alloc _).grown H8.out.2.1 (hne8 _ (.inl (Nat.le_refl _))))
              have HB8 := Lib.hid (show Blk w8 zb 62 #[.string z.psn, .string z.dev, .int .i64 z.st, .int .i64 z.at_, .int .i64 z.un, .string z.note] from (HB.out.alloc _).grown H8.out.2.1 (Ne.symm (HO.out.1.blk_ne HB.out (by decide))))
              have HLB8 := Lib.hid (show Blk w8 lb 3 #[.int .i64 z.at_, .int .i64 z.un] from (HLB.out.alloc _).grown H8.out.2.1 (fun e => HNE.out e.symm))
              have HN8 := Lib.hid (show blkOf A8 ≠ some lb from fun e => (H8.out.2.2 lb e).elim (fun h => HNE.out h) (fun h => by have := HLB.out.lt; simp at h; omega))
              clear hne8
              go_roundw
              case rel => exact ⟨j + 1, A8, m + 1, c8, by omega, by go_num, rfl, HG8.out, by rw [hf, ← List.append_assoc]; exact HO8.out, by omega, HW8.out, HB8.out, HLB8.out, HN8.out⟩
              case measure => simp [intOf]; omega
          · have HP1 := Lib.hid hp1
            obtain ⟨e1, e2, e3⟩ := eqS_no hp1
            clear hp1
            have hf := filt_succ (c := fun n => decide (nb z.psn = nb p) && (decide (fr ≤ n) && decide (n < til))) HV.out
            rw [show (decide (nb z.psn = nb p) && (decide (fr ≤ v) && decide (v < til))) = false by rw [decide_eq_false HP1.out]; rfl] at hf
            replace hf := hf.trans (List.append_nil _)
            go_wp2_with fail
            go_roundw
            case rel => exact ⟨j + 1, B, m, cB, by omega, by go_num, rfl, HG.out, by rw [hf]; exact HO.out, by omega, HW.out, HB.out, HLB.out, HNE.out⟩
            case measure => simp [intOf]; omega
        · obtain rfl : j = 2 := by omega
          go_wp2_with fail
          go_roundw
          case rel => exact ⟨k + 1, B, m, cB, by omega, by go_num, rfl, HG.out, by
            have e : evD (l.take (k + 1)) p fr til = evD (l.take k) p fr til ++ edD p fr til z := by
              unfold evD
              rw [List.take_succ_eq_append_getElem (by rw [H.out.1.len]; exact hlt), List.flatMap_append, List.append_assoc]
              have e : l[k]'(by rw [H.out.1.len]; exact hlt) = z := Option.some.inj ((List.getElem?_eq_getElem _).symm.trans HZ.out)
              rw [e]; simp
            rw [e]; exact HO.out, by omega, HW.out⟩
          case measure => simp [intOf]; omega
    · obtain rfl : k = n := by omega
      have e : l.take k = l := List.take_of_length_le (by rw [H.out.1.len]; exact Nat.le_refl _)
      rw [e] at HO
      clear e hlt
      go_wp2_with fail
      refine (sortI_any (w.heap.size + 1) B m cB _ _ HO.out (by omega)).mono ?_
      rintro e w5 ⟨rfl, ho5, hg5⟩
      have HO5 := Lib.hid ho5
      have HG5 := Lib.hid (gr_trans HG.out hg5 (fun g e => .inr (by have := (HO.out.1.lt e).1; omega)))
      clear ho5 hg5 HO HG HW

      have hEm : (sortI (evD l p fr til)).length ≤ m := by
        have h2 := HO5.out.2
        omega
      obtain ⟨EL, hEL⟩ : ∃ v, sortI (evD l p fr til) = v := ⟨_, rfl⟩
      have hEl5 : m = EL.length := by rw [← hEL]; exact HO5.out.2.symm
      rw [hEL] at HO5 hEm
      subst hEl5
      have HE := HO5
      have HG6 := HG5
      have HRES := Lib.hid (show thD l p fr til = (thr (stD (prs l p)) ([], []) (EL.drop 0)).1 by unfold thD; rw [hEL, List.drop_zero])
      have hz6 := HG6.out.size
      have hEg : ∀ g, blkOf B = some g → g < w5.heap.size := fun g e => (HE.out.1.lt e).2
      clear HO5 HG5 hEL
      obtain ⟨lb, hlb⟩ : ∃ v, w5.heap.size = v := ⟨_, rfl⟩
      rw [hlb] at hEg hz6
      go_wp2_with fail
      go_loopw [12, 13, 14, 15, 16, 17] (fun out was i _ _ _ wr => ∃ (k : Nat) (A2 : Option Addr) (m2 c2 : Nat) (A3 : Option Addr) (c3 : Nat) (ol ws : List BcV), k ≤ EL.length ∧ i = .int .i64 ((k : Int) + 1) ∧ out = .slice A2 m2 c2 ∧ was = .slice A3 m2 c3 ∧ w5.grownBy wr none ∧ OwnR nrow 1 wr (w.heap.size + 1) 3 B EL.length cB EL ∧ OwnR BcV.row 6 wr lb 62 A2 m2 c2 ol ∧ OwnR BcV.row 6 wr lb 62 A3 m2 c3 ws ∧ (∀ g, blkOf A2 = some g → blkOf A3 ≠ some g) ∧ m2 ≤ k ∧ thD l p fr til = (thr (stD (prs l p)) (ol, ws) (EL.drop k)).1) (fun _ _ i _ _ _ _ => EL.length + 1 - (intOf i).toNat)
      case atStart => exact ⟨0, none, 0, 0, none, 0, [], [], Nat.zero_le _, rfl, rfl, rfl, gr_refl _ _, HE.out, OwnR.nil _ _ _, OwnR.nil _ _ _, (fun g e => by cases e), Nat.le_refl _, HRES.out⟩
      case round =>
        clear HE HRES
        obtain ⟨k2, A2, m2, c2, A3, c3, ol, ws, hk2, rfl, rfl, rfl, hg, hel, hol, hwl, hne, hm2, ht⟩ := hrel
        have HG := Lib.hid hg; have HE := Lib.hid hel; have HO := Lib.hid hol; have HP := Lib.hid hwl; have HT := Lib.hid ht; have HNE := Lib.hid hne
        clear hg hel hol hwl ht hne
        have sw : IntKind.i64.wrap ((k2 : Int) + 1 - 1) = (k2 : Int) := by rw [IntWalk.i64_in _ (by omega)]; omega
        have sw2 : (k2 : Int) + 1 - 1 = (k2 : Int) := by omega
        have sw3 : IntKind.i64.wrap (k2 : Int) = (k2 : Int) := IntWalk.i64_in _ (by omega)
        by_cases h2 : k2 + 1 < EL.length
        · obtain ⟨eg, rfl, _, _⟩ := HE.out.1.pos (by omega)
          obtain ⟨a, ha⟩ : ∃ v, EL[k2]? = some v := ⟨_, List.getElem?_eq_getElem (by omega)⟩
          obtain ⟨b, hb⟩ : ∃ v, EL[k2 + 1]? = some v := ⟨_, List.getElem?_eq_getElem h2⟩
          have HTS := Lib.hid (thr_step (stD (prs l p)) (ol, ws) ha hb)
          have HA := Lib.hid ha; have HBv := Lib.hid hb
          clear ha hb
          have s2 : decide ((k2 : Int) + 1 < (EL.length : Int)) = true := decide_eq_true (by omega)
          have s3 : (0 : Int) ≤ (k2 : Int) + 1 := by omega
          have s4 : (k2 : Int) + 1 < (EL.length : Int) := by omega
          have s5 : ((k2 : Int) + 1).toNat = k2 + 1 := by omega
          have s6 : (0 : Int) ≤ (k2 : Int) := by omega
          have s7 : (k2 : Int) < (EL.length : Int) := by omega
          have ca := HE.out.recs.at_ nrow_len HA.out 0 _ rfl
          simp only [Nat.mul_one, Nat.add_zero, Nat.zero_add] at ca
          have zr := HG.out.size
          go_wp2_with fail
          refine (presenceOf_any lo A _ c l p a _ (H.out.grown (gr_none HG6.out HG.out) (fun g e => by cases e)) (by omega) HLA.out).mono ?_
          rintro e w7 ⟨rfl, hg7⟩
          obtain ⟨⟨G, z⟩, hpr⟩ : ∃ q, prs l p a = q := ⟨_, rfl⟩
          have HPR := Lib.hid hpr
          rw [hpr]
          clear hpr ca
          replace HG := Lib.hid (gr_none HG.out hg7); replace HE := Lib.hid (HE.out.kept hg7 (fun g e => by cases e)); replace HO := Lib.hid (HO.out.kept hg7 (fun g e => by cases e)); replace HP := Lib.hid (HP.out.kept hg7 (fun g e => by cases e))
          clear hg7
          obtain ⟨w8, hw8⟩ : ∃ v, w7.alloc (.cells #[.string z.psn, .string z.dev, .int .i64 z.st, .int .i64 z.at_, .int .i64 z.un, .string z.note] 62) = v := ⟨_, rfl⟩
          obtain ⟨zb, hzb⟩ : ∃ b, w7.heap.size = b := ⟨_, rfl⟩
          have HOz := Lib.hid (show ∀ g, blkOf A2 = some g → g < zb from fun g e => by rw [← hzb]; exact (HO.out.1.lt e).2)
          have HPz := Lib.hid (show ∀ g, blkOf A3 = some g → g < zb from fun g e => by rw [← hzb]; exact (HP.out.1.lt e).2)
          have hwz : lb ≤ zb := by rw [← hzb]; have := HG.out.size; omega
          have HB := Lib.hid (show Blk w8 zb 62 #[.string z.psn, .string z.dev, .int .i64 z.st, .int .i64 z.at_, .int .i64 z.un, .string z.note] by rw [← hw8, ← hzb]; exact Blk.new _ _ _)
          replace HG := Lib.hid (show w5.grownBy w8 none by rw [← hw8]; exact gr_alloc HG.out _)
          replace HE := Lib.hid (show OwnR nrow 1 w8 (w.heap.size + 1) 3 (some ⟨eg, 0, none⟩) EL.length cB EL by rw [← hw8]; exact HE.out.alloc _)
          replace HO := Lib.hid (show OwnR BcV.row 6 w8 lb 62 A2 m2 c2 ol by rw [← hw8]; exact HO.out.alloc _)
          replace HP := Lib.hid (show OwnR BcV.row 6 w8 lb 62 A3 m2 c3 ws by rw [← hw8]; exact HP.out.alloc _)
          have hz8 : w8.heap.size = zb + 1 := by rw [← hw8, ← hzb]; simp
          have HW8 := Lib.hid hw8; have HZB := Lib.hid hzb
          clear hw8 hzb
          go_upto_region 19 with (fail)
          rw [HW8.out]
          (try rw [HZB.out])
          clear HW8 HZB
          have ca := HE.out.recs.at_ nrow_len HA.out 0 _ rfl
          simp only [Nat.mul_one, Nat.add_zero, Nat.zero_add] at ca
          have cb := HE.out.recs.at_ nrow_len HBv.out 0 _ rfl
          simp only [Nat.mul_one, Nat.add_zero, Nat.zero_add] at cb
          cases G
          · have hst : stD (prs l p) (ol, ws) a b = (ol, ws) := by unfold stD; rw [HPR.out]; rfl
            go_quiet (fail)
            go_wp2_with fail
            go_roundw
            case rel => exact ⟨k2 + 1, A2, m2, _, A3, _, ol, ws, by omega, by go_num, rfl, rfl, gr_drewN HG.out _, HE.out, HO.out, HP.out, HNE.out, by omega, by rw [HT.out, HTS.out, hst]⟩
            case measure => simp [intOf]; omega
          · by_cases hab : a = b
            · have hst : stD (prs l p) (ol, ws) a b = (ol, ws) := by unfold stD; rw [HPR.out, decide_eq_false (fun h => h hab)]; rfl
              have q1 : (a == b) = true := by rw [hab]; exact beq_self_eq_true _
              have q2 : decide (a = b) = true := decide_eq_true hab
              go_quiet (fail)
              go_wp2_with fail
              go_roundw
              case rel => exact ⟨k2 + 1, A2, m2, _, A3, _, ol, ws, by omega, by go_num, rfl, rfl, gr_drewN HG.out _, HE.out, HO.out, HP.out, HNE.out, by omega, by rw [HT.out, HTS.out, hst]⟩
              case measure => simp [intOf]; omega
            · have q1 : (a == b) = false := beq_eq_false_iff_ne.2 hab
              have q2 : decide (a = b) = false := decide_eq_false hab
              have HLN := Lib.hid (show ol.length = m2 from HO.out.2)
              have sm : IntKind.i64.wrap ((m2 : Int) - 1) = (m2 : Int) - 1 := IntWalk.i64_in _ (by omega)
              have hst0 : stD (prs l p) (ol, ws) a b = if mgD (prs l p) (ol, ws) a then (lastU ol b, ws) else (ol ++ [bcAtUn z a b], ws ++ [z]) := by unfold stD; rw [HPR.out, decide_eq_true hab]; rfl
              have HM0 := Lib.hid (show mgD (prs l p) (ol, ws) a = ((ol[m2 - 1]?).elim false (fun y => decide (y.un = a)) && (ws[m2 - 1]?).elim false (fun y => decide (y = z))) by unfold mgD; rw [HPR.out]; dsimp only; rw [HLN.out])
              go_quiet (fail)
              go_upto_region 21 with (fail)
              obtain ⟨wq, hwq⟩ : ∃ v, w8.drewN nq = v := ⟨_, rfl⟩
              rw [hwq]
              have hgq : w8.grownBy wq none := by rw [← hwq]; exact gr_drewN (gr_refl _ _) _
              have hzq0 := hgq.size
              clear hwq ca cb
              replace HG := Lib.hid (gr_none HG.out hgq); replace HE := Lib.hid (HE.out.kept hgq (fun g e => by cases e)); replace HO := Lib.hid (HO.out.kept hgq (fun g e => by cases e)); replace HP := Lib.hid (HP.out.kept hgq (fun g e => by cases e)); replace HB := Lib.hid (HB.out.grown hgq (by simp))
              clear hgq q1 q2
              by_cases hm0 : m2 = 0
              · have d1 : decide ((0 : Int) ≤ (m2 : Int) - 1) = false := decide_eq_false (by omega)
                have hol : ol = [] := List.eq_nil_of_length_eq_zero (HLN.out.trans hm0)
                have hst : stD (prs l p) (ol, ws) a b = (ol ++ [bcAtUn z a b], ws ++ [z]) := by
                  rw [hst0, show mgD (prs l p) (ol, ws) a = false by rw [HM0.out, hol]; simp]; rfl
                have n8 : ¬ (0 : Int) ≤ (m2 : Int) - 1 := by omega
                have n9 : ¬ (1 : Int) ≤ (m2 : Int) := by omega
                clear hm0 hol
                refine H_begin (fun w' => wq.grownBy w' none) (by kernel_rfl) ?_
                have hHeld : wq.grownBy wq.drew none := gr_drew (gr_refl _ _)
                refine H_take (k := 0) (v := ?_) (by rfl) (by kernel_rfl) (by kernel_rfl) (by kernel_rfl) (by exact fun _ _ _ h => h) (by rfl) ?_ (by assumption) ?_
                rotate_left 1
                · intro w hSw
                  (try dsimp only at hSw)
                  go_simp
                  (try with_reducible rfl)
                (try simp only [Act.put, List.setIfInBounds_toArray, List.set_cons_zero, List.set_cons_succ])
                refine H_take (k := 1) (v := ?_) (by rfl) (by kernel_rfl) (by kernel_rfl) (by kernel_rfl) (by exact fun _ _ _ h => h) (by rfl) ?_ (by assumption) ?_
                rotate_left 1
                · intro w hSw
                  (try dsimp only at hSw)
                  go_simp
                  (try with_reducible rfl)
                (try simp only [Act.put, List.setIfInBounds_toArray, List.set_cons_zero, List.set_cons_succ])
                refine H_take (k := 2) (v := ?_) (by rfl) (by kernel_rfl) (by kernel_rfl) (by kernel_rfl) (by exact fun _ _ _ h => h) (by rfl) ?_ (by assumption) ?_
                rotate_left 1
                · intro w hSw
                  (try dsimp only at hSw)
                  go_simp
                  (try with_reducible rfl)
                (try simp only [Act.put, List.setIfInBounds_toArray, List.set_cons_zero, List.set_cons_succ])
                refine H_skip (k := 3) (by rfl) (by kernel_rfl) (by kernel_rfl) (by kernel_rfl) (by exact fun _ _ _ h => h) (by rfl) (by assumption) ?_
                (try simp only [Act.put, List.setIfInBounds_toArray, List.set_cons_zero, List.set_cons_succ])
                refine H_skip (k := 4) (by rfl) (by kernel_rfl) (by kernel_rfl) (by kernel_rfl) (by exact fun _ _ _ h => h) (by rfl) (by assumption) ?_
                (try simp only [Act.put, List.setIfInBounds_toArray, List.set_cons_zero, List.set_cons_succ])
                refine H_skip (k := 5) (by rfl) (by kernel_rfl) (by kernel_rfl) (by kernel_rfl) (by exact fun _ _ _ h => h) (by rfl) (by assumption) ?_
                (try simp only [Act.put, List.setIfInBounds_toArray, List.set_cons_zero, List.set_cons_succ])
                refine H_skip (k := 6) (by rfl) (by kernel_rfl) (by kernel_rfl) (by kernel_rfl) (by exact fun _ _ _ h => h) (by rfl) (by assumption) ?_
                (try simp only [Act.put, List.setIfInBounds_toArray, List.set_cons_zero, List.set_cons_succ])
                refine H_skip (k := 7) (by rfl) (by kernel_rfl) (by kernel_rfl) (by kernel_rfl) (by exact fun _ _ _ h => h) (by rfl) (by assumption) ?_
                (try simp only [Act.put, List.setIfInBounds_toArray, List.set_cons_zero, List.set_cons_succ])
                refine H_skip (k := 8) (by rfl) (by kernel_rfl) (by kernel_rfl) (by kernel_rfl) (by exact fun _ _ _ h => h) (by rfl) (by assumption) ?_
                (try simp only [Act.put, List.setIfInBounds_toArray, List.set_cons_zero, List.set_cons_succ])
                refine H_skip (k := 9) (by rfl) (by kernel_rfl) (by kernel_rfl) (by kernel_rfl) (by exact fun _ _ _ h => h) (by rfl) (by assumption) ?_
                (try simp only [Act.put, List.setIfInBounds_toArray, List.set_cons_zero, List.set_cons_succ])
                refine H_skip (k := 10) (by rfl) (by kernel_rfl) (by kernel_rfl) (by kernel_rfl) (by exact fun _ _ _ h => h) (by rfl) (by assumption) ?_
                (try simp only [Act.put, List.setIfInBounds_toArray, List.set_cons_zero, List.set_cons_succ])
                refine H_skip (k := 11) (by rfl) (by kernel_rfl) (by kernel_rfl) (by kernel_rfl) (by exact fun _ _ _ h => h) (by rfl) (by assumption) ?_
                (try simp only [Act.put, List.setIfInBounds_toArray, List.set_cons_zero, List.set_cons_succ])
                refine H_skip (k := 12) (by rfl) (by kernel_rfl) (by kernel_rfl) (by kernel_rfl) (by exact fun _ _ _ h => h) (by rfl) (by assumption) ?_
                (try simp only [Act.put, List.setIfInBounds_toArray, List.set_cons_zero, List.set_cons_succ])
                refine H_skip (k := 13) (by rfl) (by kernel_rfl) (by kernel_rfl) (by kernel_rfl) (by exact fun _ _ _ h => h) (by rfl) (by assumption) ?_
                (try simp only [Act.put, List.setIfInBounds_toArray, List.set_cons_zero, List.set_cons_succ])
                refine H_take (k := 14) (v := ?_) (by rfl) (by kernel_rfl) (by kernel_rfl) (by kernel_rfl) (by exact fun _ _ _ h => h) (by rfl) ?_ (by assumption) ?_
                rotate_left 1
                · intro w hSw
                  (try dsimp only at hSw)
                  go_simp
                  (try with_reducible rfl)
                (try simp only [Act.put, List.setIfInBounds_toArray, List.set_cons_zero, List.set_cons_succ])
                refine H_take (k := 15) (v := ?_) (by rfl) (by kernel_rfl) (by kernel_rfl) (by kernel_rfl) (by exact fun _ _ _ h => h) (by rfl) ?_ (by assumption) ?_
                rotate_left 1
                · intro w hSw
                  (try dsimp only at hSw)
                  go_simp
                  (try with_reducible rfl)
                (try simp only [Act.put, List.setIfInBounds_toArray, List.set_cons_zero, List.set_cons_succ])
                refine H_skip (k := 16) (by rfl) (by kernel_rfl) (by kernel_rfl) (by kernel_rfl) (by exact fun _ _ _ h => h) (by rfl) (by assumption) ?_
                (try simp only [Act.put, List.setIfInBounds_toArray, List.set_cons_zero, List.set_cons_succ])
                refine H_skip (k := 17) (by rfl) (by kernel_rfl) (by kernel_rfl) (by kernel_rfl) (by exact fun _ _ _ h => h) (by rfl) (by assumption) ?_
                (try simp only [Act.put, List.setIfInBounds_toArray, List.set_cons_zero, List.set_cons_succ])
                refine H_skip (k := 18) (by rfl) (by kernel_rfl) (by kernel_rfl) (by kernel_rfl) (by exact fun _ _ _ h => h) (by rfl) (by assumption) ?_
                (try simp only [Act.put, List.setIfInBounds_toArray, List.set_cons_zero, List.set_cons_succ])
                refine H_skip (k := 19) (by rfl) (by kernel_rfl) (by kernel_rfl) (by kernel_rfl) (by exact fun _ _ _ h => h) (by rfl) (by assumption) ?_
                (try simp only [Act.put, List.setIfInBounds_toArray, List.set_cons_zero, List.set_cons_succ])
                refine H_skip (k := 20) (by rfl) (by kernel_rfl) (by kernel_rfl) (by kernel_rfl) (by exact fun _ _ _ h => h) (by rfl) (by assumption) ?_
                (try simp only [Act.put, List.setIfInBounds_toArray, List.set_cons_zero, List.set_cons_succ])
                refine H_skip (k := 21) (by rfl) (by kernel_rfl) (by kernel_rfl) (by kernel_rfl) (by exact fun _ _ _ h => h) (by rfl) (by assumption) ?_
                (try simp only [Act.put, List.setIfInBounds_toArray, List.set_cons_zero, List.set_cons_succ])
                refine H_take (k := 22) (v := ?_) (by rfl) (by kernel_rfl) (by kernel_rfl) (by kernel_rfl) (by exact fun _ _ _ h => h) (by rfl) ?_ (by assumption) ?_
                rotate_left 1
                · intro w hSw
                  (try dsimp only at hSw)
                  go_simp
                  (try with_reducible rfl)
                (try simp only [Act.put, List.setIfInBounds_toArray, List.set_cons_zero, List.set_cons_succ])
                refine H_done (by kernel_rfl) ?_
                replace HG := Lib.hid (gr_none HG.out hHeld); replace HE := Lib.hid (HE.out.kept hHeld (fun g e => by cases e)); replace HO := Lib.hid (HO.out.kept hHeld (fun g e => by cases e)); replace HP := Lib.hid (HP.out.kept hHeld (fun g e => by cases e)); replace HB := Lib.hid (HB.out.grown hHeld (by simp)); have hzq := hHeld.size
                clear hHeld
                generalize wq.drew = w9 at HG HE HO HP HB hzq ⊢
                go_wp2_with (first
                  | (refine wpl_load_all Tryz.bcT rfl _ rfl _ rfl _ _ HB.out rfl ?_)
                  | (at_builtin
                     refine wpl_app _ rfl _ _ Tryz.bcsT rfl lb A3 m2 c3 _ rfl (by exact HP.out.1.alloc _) _ _ 1 1 [.string z.psn, .string z.dev, .int .i64 z.st, .int .i64 z.at_, .int .i64 z.un, .string z.note] rfl (by exact Reads.one _ _ _ _ rfl) (by simp [Value.oneCell']) (by unfold maxLen; omega) (by omega) (by simp; omega) ?_
                     intro A5 c5 wz h5
                     have H5 := Lib.hid h5; clear h5)
                  | fail)
                have HP9 := Lib.hid ((HP.out.alloc _).app rfl H5.out)
                have HG9 := Lib.hid (show w5.grownBy wz none from gr_own (lo := lb) (gr_alloc HG.out _) (HP.out.1.alloc _) (by omega) H5.out.2.1)
                have HE9 := Lib.hid ((HE.out.alloc _).kept H5.out.2.1 (fun g e e2 => by have := (HP.out.1.lt e).1; have := hEg g e2; omega))
                have HO9 := Lib.hid ((HO.out.alloc _).kept H5.out.2.1 (fun g e e2 => HNE.out g e2 e))
                have HN9 := Lib.hid (show ∀ g, blkOf A2 = some g → blkOf A5 ≠ some g from fun g e e2 => (H5.out.2.2 g e2).elim (fun h => HNE.out g e h) (fun h => by have := HOz.out g e; simp at h; omega))
                have HB9 := Lib.hid ((HB.out.alloc _).grown H5.out.2.1 (fun e => by have := HPz.out _ e.symm; omega))
                have HZ9 := Lib.hid (show blkOf A5 ≠ some zb from fun e => (H5.out.2.2 zb e).elim (fun h => by have := HPz.out _ h; omega) (fun h => by simp at h; omega))
                have hz9 := H5.out.2.1.size
                simp at hz9
                clear HG HE HO HP HB H5
                refine H_begin (fun w' => wz.grownBy w' (some zb)) (by kernel_rfl) ?_
                have hHeld : wz.grownBy wz.drew (some zb) := gr_drew (gr_refl _ _)
                have HBd := Lib.hid (show Blk wz.drew zb 62 #[.string z.psn, .string z.dev, .int .i64 z.st, .int .i64 z.at_, .int .i64 z.un, .string z.note] from HB9.out)
                generalize wz.drew = wd at hHeld HBd ⊢
                refine H_take (k := 0) (v := ?_) (by rfl) (by kernel_rfl) (by kernel_rfl) (by kernel_rfl) (by exact fun _ _ _ h => h) (by rfl) ?_ (by assumption) ?_
                rotate_left 1
                · intro w hSw
                  (try dsimp only at hSw)
                  go_simp
                  (try with_reducible rfl)
                (try simp only [Act.put, List.setIfInBounds_toArray, List.set_cons_zero, List.set_cons_succ])
                refine H_take (k := 1) (v := ?_) (by rfl) (by kernel_rfl) (by kernel_rfl) (by kernel_rfl) (by exact fun _ _ _ h => h) (by rfl) ?_ (by assumption) ?_
                rotate_left 1
                · intro w hSw
                  (try dsimp only at hSw)
                  go_simp
                  (try with_reducible rfl)
                (try simp only [Act.put, List.setIfInBounds_toArray, List.set_cons_zero, List.set_cons_succ])
                refine H_take (k := 2) (v := ?_) (by rfl) (by kernel_rfl) (by kernel_rfl) (by kernel_rfl) (by exact fun _ _ _ h => h) (by rfl) ?_ (by assumption) ?_
                rotate_left 1
                · intro w hSw
                  (try dsimp only at hSw)
                  go_simp
                  (try with_reducible rfl)
                (try simp only [Act.put, List.setIfInBounds_toArray, List.set_cons_zero, List.set_cons_succ])
                refine H_take (k := 3) (v := ?_) (by rfl) (by kernel_rfl) (by kernel_rfl) (by kernel_rfl) (by exact fun _ _ _ h => h) (by rfl) ?_ (by assumption) ?_
                rotate_left 1
                · intro w hSw
                  (try dsimp only at hSw)
                  go_simp
                  (try with_reducible rfl)
                (try simp only [Act.put, List.setIfInBounds_toArray, List.set_cons_zero, List.set_cons_succ])
                refine H_take (k := 4) (v := ?_) (by rfl) (by kernel_rfl) (by kernel_rfl) (by kernel_rfl) (by exact fun _ _ _ h => h) (by rfl) ?_ (by assumption) ?_
                rotate_left 1
                · intro w' hSw
                  have kc := (HE9.out.kept hSw (fun g e e2 => by injection e with e; have := hEg g e2; omega)).recs.at_ nrow_len HA.out 0 _ rfl; simp only [Nat.mul_one, Nat.add_zero, Nat.zero_add] at kc
                  go_simp
                  (try with_reducible rfl)
                (try simp only [Act.put, List.setIfInBounds_toArray, List.set_cons_zero, List.set_cons_succ])
                refine H_take (k := 5) (v := ?_) (by rfl) (by kernel_rfl) (by kernel_rfl) (by kernel_rfl) (by exact fun _ _ _ h => h) (by rfl) ?_ (by assumption) ?_
                rotate_left 1
                · intro w hSw
                  (try dsimp only at hSw)
                  go_simp
                  (try with_reducible rfl)
                (try simp only [Act.put, List.setIfInBounds_toArray, List.set_cons_zero, List.set_cons_succ])
                refine H_take (k := 6) (v := ?_) (by rfl) (by kernel_rfl) (by kernel_rfl) (by kernel_rfl) (by exact fun _ _ _ h => h) (by rfl) ?_ (by assumption) ?_
                rotate_left 1
                · intro w hSw
                  (try dsimp only at hSw)
                  go_simp
                  (try with_reducible rfl)
                (try simp only [Act.put, List.setIfInBounds_toArray, List.set_cons_zero, List.set_cons_succ])
                refine H_take (k := 7) (v := ?_) (by rfl) (by kernel_rfl) (by kernel_rfl) (by kernel_rfl) (by exact fun _ _ _ h => h) (by rfl) ?_ (by assumption) ?_
                rotate_left 1
                · intro w hSw
                  (try dsimp only at hSw)
                  go_simp
                  (try with_reducible rfl)
                (try simp only [Act.put, List.setIfInBounds_toArray, List.set_cons_zero, List.set_cons_succ])
                refine H_take (k := 8) (v := ?_) (by rfl) (by kernel_rfl) (by kernel_rfl) (by kernel_rfl) (by exact fun _ _ _ h => h) (by rfl) ?_ (by assumption) ?_
                rotate_left 1
                · intro w' hSw
                  have kc := (HE9.out.kept hSw (fun g e e2 => by injection e with e; have := hEg g e2; omega)).recs.at_ nrow_len HBv.out 0 _ rfl; simp only [Nat.mul_one, Nat.add_zero, Nat.zero_add] at kc
                  go_simp
                  (try with_reducible rfl)
                (try simp only [Act.put, List.setIfInBounds_toArray, List.set_cons_zero, List.set_cons_succ])
                refine H_take (k := 9) (v := ?_) (by rfl) (by kernel_rfl) (by kernel_rfl) (by kernel_rfl) (by exact fun _ _ _ h => h) (by rfl) ?_ (by assumption) ?_
                rotate_left 1
                · intro w hSw
                  (try dsimp only at hSw)
                  go_simp
                  (try with_reducible rfl)
                (try simp only [Act.put, List.setIfInBounds_toArray, List.set_cons_zero, List.set_cons_succ])
                refine H_run (k := 10) (by rfl) (by kernel_rfl) (by rfl) (fun K hK => ?_)
                refine wp_store_cell (by kernel_rfl) _ _ rfl zb 3 rfl (.int .i64 a) rfl rfl rfl _ (HBd.out.cell 3) (HBd.out.frozen 3) ?_
                have HBe := Lib.hid (HBd.out.set_ 3 (.int .i64 a))
                have hgy := gr_setCell (p := ⟨zb, 3, none⟩) hHeld (.inl rfl) (.int .i64 a)
                refine hK _ _ hgy ?_
                clear hK K hHeld
                have hHeld := hgy
                (try simp only [Act.put, List.setIfInBounds_toArray, List.set_cons_zero, List.set_cons_succ])
                refine H_take (k := 11) (v := ?_) (by rfl) (by kernel_rfl) (by kernel_rfl) (by kernel_rfl) (by exact fun _ _ _ h => h) (by rfl) ?_ (by assumption) ?_
                rotate_left 1
                · intro w hSw
                  (try dsimp only at hSw)
                  go_simp
                  (try with_reducible rfl)
                (try simp only [Act.put, List.setIfInBounds_toArray, List.set_cons_zero, List.set_cons_succ])
                refine H_run (k := 12) (by rfl) (by kernel_rfl) (by rfl) (fun K hK => ?_)
                refine wp_store_cell (by kernel_rfl) _ _ rfl zb 4 rfl (.int .i64 b) rfl rfl rfl _ (HBe.out.cell 4) (HBe.out.frozen 4) ?_
                have hgx := gr_setCell (p := ⟨zb, 4, none⟩) hHeld (.inl rfl) (.int .i64 b)
                refine hK _ _ hgx ?_
                clear hK K hHeld
                (try simp only [Act.put, List.setIfInBounds_toArray, List.set_cons_zero, List.set_cons_succ])
                refine H_done (by kernel_rfl) ?_
                obtain ⟨w10, hw10⟩ : ∃ v, (wd.setCell ⟨zb, 3, none⟩ (.int .i64 a)).setCell ⟨zb, 4, none⟩ (.int .i64 b) = v := ⟨_, rfl⟩
                have hgz : wz.grownBy w10 (some zb) := by rw [← hw10]; exact hgx
                clear hgx hgy
                have HBf := Lib.hid (show Blk w10 zb 62 #[.string (bcAtUn z a b).psn, .string (bcAtUn z a b).dev, .int .i64 (bcAtUn z a b).st, .int .i64 (bcAtUn z a b).at_, .int .i64 (bcAtUn z a b).un, .string (bcAtUn z a b).note] by rw [← hw10]; exact HBe.out.set_ 4 (.int .i64 b))
                rw [hw10]
                replace HG9 := Lib.hid (gr_trans HG9.out hgz (fun g e => .inr (by injection e with e; omega)))
                replace HE9 := Lib.hid (HE9.out.kept hgz (fun g e e2 => by injection e with e; have := hEg g e2; omega))
                replace HO9 := Lib.hid (HO9.out.kept hgz (fun g e e2 => by injection e with e; have := HOz.out g e2; omega))
                replace HP9 := Lib.hid (HP9.out.kept hgz (fun g e e2 => by injection e with e; rw [← e] at e2; exact HZ9.out e2))
                have hz10 := hgz.size
                clear hw10 hgz HBd HBe HB9
                go_simp
                go_wp2_with (first
                  | (refine wpl_load_all Tryz.bcT rfl _ rfl _ rfl _ _ HBf.out rfl ?_)
                  | (at_builtin
                     refine wpl_app _ rfl _ _ Tryz.bcsT rfl lb A2 m2 c2 _ rfl (by exact HO9.out.1.alloc _) _ _ 1 1 [.string (bcAtUn z a b).psn, .string (bcAtUn z a b).dev, .int .i64 (bcAtUn z a b).st, .int .i64 (bcAtUn z a b).at_, .int .i64 (bcAtUn z a b).un, .string (bcAtUn z a b).note] rfl (by exact Reads.one _ _ _ _ rfl) (by simp [Value.oneCell']) (by unfold maxLen; omega) (by omega) (by simp; omega) ?_
                     intro A6 c6 w11 h5
                     have H5 := Lib.hid h5; clear h5)
                  | fail)
                have HGa := Lib.hid (show w5.grownBy w11 none from gr_own (lo := lb) (gr_alloc HG9.out _) (HO9.out.1.alloc _) (by omega) H5.out.2.1)
                have HEa := Lib.hid ((HE9.out.alloc _).kept H5.out.2.1 (fun g e e2 => by have := (HO9.out.1.lt e).1; have := hEg g e2; omega))
                have HPa := Lib.hid ((HP9.out.alloc _).kept H5.out.2.1 (fun g e e2 => HN9.out g e e2))
                have HNa := Lib.hid (show ∀ g, blkOf A6 = some g → blkOf A5 ≠ some g from fun g e e2 => (H5.out.2.2 g e).elim (fun h => HN9.out g h e2) (fun h => by have := (HP9.out.1.lt e2).2; simp at h; omega))
                go_roundw
                case rel => exact ⟨k2 + 1, A6, m2 + 1, _, A5, _, ol ++ [bcAtUn z a b], ws ++ [z], by omega, by go_num, rfl, rfl, HGa.out, HEa.out, (HO9.out.alloc _).app rfl H5.out, HPa.out, HNa.out, by omega, by rw [HT.out, HTS.out, hst]⟩
                case measure => simp [intOf]; omega
              · obtain ⟨og, rfl, hog, _⟩ := HO.out.1.pos (by omega)
                obtain ⟨pg, rfl, hpg, _⟩ := HP.out.1.pos (by omega)
                obtain ⟨y, hy⟩ : ∃ y, ol[m2 - 1]? = some y := ⟨_, List.getElem?_eq_getElem (by rw [HLN.out]; omega)⟩
                obtain ⟨y2, hy2⟩ : ∃ y, ws[m2 - 1]? = some y := ⟨_, List.getElem?_eq_getElem (by rw [HP.out.2]; omega)⟩
                rw [hy, hy2] at HM0
                have HYY := Lib.hid hy; have HYP := Lib.hid hy2
                clear hy hy2
                have s8 : (0 : Int) ≤ (m2 : Int) - 1 := by omega
                have s8b : (1 : Int) ≤ (m2 : Int) := by omega
                have s9 : (m2 : Int) - 1 < (m2 : Int) := by omega
                have s10 : ((m2 : Int) - 1).toNat = m2 - 1 := by omega
                by_cases hyu : y.un = a
                · have u1 : (y.un == a) = true := by rw [hyu]; exact beq_self_eq_true _
                  have u2 : decide (y.un = a) = true := decide_eq_true hyu
                  obtain ⟨VQ, hVQ⟩ : ∃ V, decide (y2 = z) = V := ⟨_, rfl⟩
                  have HEQ := Lib.hid (fun w' => (bcEq_eql y2 z w').trans (by rw [hVQ]))
                  have HMV := Lib.hid (show mgD (prs l p) (ol, ws) a = VQ by rw [HM0.out]; show (decide (y.un = a) && decide (y2 = z)) = VQ; rw [u2, hVQ]; rfl)
                  clear hyu hVQ
                  refine H_begin (fun w' => wq.grownBy w' none) (by kernel_rfl) ?_
                  have hHeld : wq.grownBy wq.drew none := gr_drew (gr_refl _ _)
                  refine H_take (k := 0) (v := ?_) (by rfl) (by kernel_rfl) (by kernel_rfl) (by kernel_rfl) (by exact fun _ _ _ h => h) (by rfl) ?_ (by assumption) ?_
                  rotate_left 1
                  · intro w hSw
                    (try dsimp only at hSw)
                    go_simp
                    (try with_reducible rfl)
                  (try simp only [Act.put, List.setIfInBounds_toArray, List.set_cons_zero, List.set_cons_succ])
                  refine H_take (k := 1) (v := ?_) (by rfl) (by kernel_rfl) (by kernel_rfl) (by kernel_rfl) (by exact fun _ _ _ h => h) (by rfl) ?_ (by assumption) ?_
                  rotate_left 1
                  · intro w hSw
                    (try dsimp only at hSw)
                    go_simp
                    (try with_reducible rfl)
                  (try simp only [Act.put, List.setIfInBounds_toArray, List.set_cons_zero, List.set_cons_succ])
                  refine H_take (k := 2) (v := ?_) (by rfl) (by kernel_rfl) (by kernel_rfl) (by kernel_rfl) (by exact fun _ _ _ h => h) (by rfl) ?_ (by assumption) ?_
                  rotate_left 1
                  · intro w hSw
                    (try dsimp only at hSw)
                    go_simp
                    (try with_reducible rfl)
                  (try simp only [Act.put, List.setIfInBounds_toArray, List.set_cons_zero, List.set_cons_succ])
                  refine H_take (k := 3) (v := ?_) (by rfl) (by kernel_rfl) (by kernel_rfl) (by kernel_rfl) (by exact fun _ _ _ h => h) (by rfl) ?_ (by assumption) ?_
                  rotate_left 1
                  · intro w hSw
                    (try dsimp only at hSw)
                    go_simp
                    (try with_reducible rfl)
                  (try simp only [Act.put, List.setIfInBounds_toArray, List.set_cons_zero, List.set_cons_succ])
                  refine H_take (k := 4) (v := ?_) (by rfl) (by kernel_rfl) (by kernel_rfl) (by kernel_rfl) (by exact fun _ _ _ h => h) (by rfl) ?_ (by assumption) ?_
                  rotate_left 1
                  · intro w hSw
                    (try dsimp only at hSw)
                    go_simp
                    (try with_reducible rfl)
                  (try simp only [Act.put, List.setIfInBounds_toArray, List.set_cons_zero, List.set_cons_succ])
                  refine H_take (k := 5) (v := ?_) (by rfl) (by kernel_rfl) (by kernel_rfl) (by kernel_rfl) (by exact fun _ _ _ h => h) (by rfl) ?_ (by assumption) ?_
                  rotate_left 1
                  · intro w hSw
                    (try dsimp only at hSw)
                    go_simp
                    (try with_reducible rfl)
                  (try simp only [Act.put, List.setIfInBounds_toArray, List.set_cons_zero, List.set_cons_succ])
                  refine H_take (k := 6) (v := ?_) (by rfl) (by kernel_rfl) (by kernel_rfl) (by kernel_rfl) (by exact fun _ _ _ h => h) (by rfl) ?_ (by assumption) ?_
                  rotate_left 1
                  · intro w hSw
                    (try dsimp only at hSw)
                    go_simp
                    (try with_reducible rfl)
                  (try simp only [Act.put, List.setIfInBounds_toArray, List.set_cons_zero, List.set_cons_succ])
                  refine H_take (k := 7) (v := ?_) (by rfl) (by kernel_rfl) (by kernel_rfl) (by kernel_rfl) (by exact fun _ _ _ h => h) (by rfl) ?_ (by assumption) ?_
                  rotate_left 1
                  · intro w' hSw
                    have kc := (HO.out.kept hSw (fun g e => by cases e)).recs.at_ BcV.row_len HYY.out 4 _ rfl; simp only [Nat.zero_add] at kc
                    go_simp
                    (try with_reducible rfl)
                  (try simp only [Act.put, List.setIfInBounds_toArray, List.set_cons_zero, List.set_cons_succ])
                  refine H_take (k := 8) (v := ?_) (by rfl) (by kernel_rfl) (by kernel_rfl) (by kernel_rfl) (by exact fun _ _ _ h => h) (by rfl) ?_ (by assumption) ?_
                  rotate_left 1
                  · intro w hSw
                    (try dsimp only at hSw)
                    go_simp
                    (try with_reducible rfl)
                  (try simp only [Act.put, List.setIfInBounds_toArray, List.set_cons_zero, List.set_cons_succ])
                  refine H_take (k := 9) (v := ?_) (by rfl) (by kernel_rfl) (by kernel_rfl) (by kernel_rfl) (by exact fun _ _ _ h => h) (by rfl) ?_ (by assumption) ?_
                  rotate_left 1
                  · intro w hSw
                    (try dsimp only at hSw)
                    go_simp
                    (try with_reducible rfl)
                  (try simp only [Act.put, List.setIfInBounds_toArray, List.set_cons_zero, List.set_cons_succ])
                  refine H_take (k := 10) (v := ?_) (by rfl) (by kernel_rfl) (by kernel_rfl) (by kernel_rfl) (by exact fun _ _ _ h => h) (by rfl) ?_ (by assumption) ?_
                  rotate_left 1
                  · intro w hSw
                    (try dsimp only at hSw)
                    go_simp
                    (try with_reducible rfl)
                  (try simp only [Act.put, List.setIfInBounds_toArray, List.set_cons_zero, List.set_cons_succ])
                  refine H_take (k := 11) (v := ?_) (by rfl) (by kernel_rfl) (by kernel_rfl) (by kernel_rfl) (by exact fun _ _ _ h => h) (by rfl) ?_ (by assumption) ?_
                  rotate_left 1
                  · intro w hSw
                    (try dsimp only at hSw)
                    go_simp
                    (try with_reducible rfl)
                  (try simp only [Act.put, List.setIfInBounds_toArray, List.set_cons_zero, List.set_cons_succ])
                  refine H_take (k := 12) (v := ?_) (by rfl) (by kernel_rfl) (by kernel_rfl) (by kernel_rfl) (by exact fun _ _ _ h => h) (by rfl) ?_ (by assumption) ?_
                  rotate_left 1
                  · intro w' hSw
                    have kc := (HE.out.kept hSw (fun g e => by cases e)).recs.at_ nrow_len HA.out 0 _ rfl; simp only [Nat.mul_one, Nat.add_zero, Nat.zero_add] at kc
                    go_simp
                    (try with_reducible rfl)
                  (try simp only [Act.put, List.setIfInBounds_toArray, List.set_cons_zero, List.set_cons_succ])
                  refine H_take (k := 13) (v := ?_) (by rfl) (by kernel_rfl) (by kernel_rfl) (by kernel_rfl) (by exact fun _ _ _ h => h) (by rfl) ?_ (by assumption) ?_
                  rotate_left 1
                  · intro w hSw
                    (try dsimp only at hSw)
                    go_simp
                    (try with_reducible rfl)
                  (try simp only [Act.put, List.setIfInBounds_toArray, List.set_cons_zero, List.set_cons_succ])
                  refine H_take (k := 14) (v := ?_) (by rfl) (by kernel_rfl) (by kernel_rfl) (by kernel_rfl) (by exact fun _ _ _ h => h) (by rfl) ?_ (by assumption) ?_
                  rotate_left 1
                  · intro w hSw
                    (try dsimp only at hSw)
                    go_simp
                    (try with_reducible rfl)
                  (try simp only [Act.put, List.setIfInBounds_toArray, List.set_cons_zero, List.set_cons_succ])
                  refine H_take (k := 15) (v := ?_) (by rfl) (by kernel_rfl) (by kernel_rfl) (by kernel_rfl) (by exact fun _ _ _ h => h) (by rfl) ?_ (by assumption) ?_
                  rotate_left 1
                  · intro w hSw
                    (try dsimp only at hSw)
                    go_simp
                    (try with_reducible rfl)
                  (try simp only [Act.put, List.setIfInBounds_toArray, List.set_cons_zero, List.set_cons_succ])
                  refine H_take (k := 16) (v := ?_) (by rfl) (by kernel_rfl) (by kernel_rfl) (by kernel_rfl) (by exact fun _ _ _ h => h) (by rfl) ?_ (by assumption) ?_
                  rotate_left 1
                  · intro w hSw
                    (try dsimp only at hSw)
                    go_simp
                    (try with_reducible rfl)
                  (try simp only [Act.put, List.setIfInBounds_toArray, List.set_cons_zero, List.set_cons_succ])
                  refine H_take (k := 17) (v := ?_) (by rfl) (by kernel_rfl) (by kernel_rfl) (by kernel_rfl) (by exact fun _ _ _ h => h) (by rfl) ?_ (by assumption) ?_
                  rotate_left 1
                  · intro w hSw
                    (try dsimp only at hSw)
                    go_simp
                    (try with_reducible rfl)
                  (try simp only [Act.put, List.setIfInBounds_toArray, List.set_cons_zero, List.set_cons_succ])
                  refine H_take (k := 18) (v := ?_) (by rfl) (by kernel_rfl) (by kernel_rfl) (by kernel_rfl) (by exact fun _ _ _ h => h) (by rfl) ?_ (by assumption) ?_
                  rotate_left 1
                  · intro w hSw
                    (try dsimp only at hSw)
                    go_simp
                    (try with_reducible rfl)
                  (try simp only [Act.put, List.setIfInBounds_toArray, List.set_cons_zero, List.set_cons_succ])
                  refine H_take (k := 19) (v := .agg #[.string y2.psn, .string y2.dev, .int .i64 y2.st, .int .i64 y2.at_, .int .i64 y2.un, .string y2.note]) (by rfl) (by kernel_rfl) (by kernel_rfl) (by kernel_rfl) (by exact fun _ _ _ h => h) (by rfl) (fun w' hSw => exec_ldr Tryz.bcT _ rfl _ rfl [.string y2.psn, .string y2.dev, .int .i64 y2.st, .int .i64 y2.at_, .int .i64 y2.un, .string y2.note] (fun j u hu => by rw [add_mk]; have h := (HP.out.kept hSw (fun g e => by cases e)).recs.at_ BcV.row_len HYP.out j u hu; simpa using h) rfl) (by assumption) ?_
                  (try simp only [Act.put, List.setIfInBounds_toArray, List.set_cons_zero, List.set_cons_succ])
                  refine H_take (k := 20) (v := .agg #[.string z.psn, .string z.dev, .int .i64 z.st, .int .i64 z.at_, .int .i64 z.un, .string z.note]) (by rfl) (by kernel_rfl) (by kernel_rfl) (by kernel_rfl) (by exact fun _ _ _ h => h) (by rfl) (fun w' hSw => exec_ldb Tryz.bcT _ rfl _ rfl 62 [.string z.psn, .string z.dev, .int .i64 z.st, .int .i64 z.at_, .int .i64 z.un, .string z.note] (HB.out.grown hSw (by simp)) rfl) (by assumption) ?_
                  (try simp only [Act.put, List.setIfInBounds_toArray, List.set_cons_zero, List.set_cons_succ])
                  refine H_take (k := 21) (v := .bool VQ) (by rfl) (by kernel_rfl) (by kernel_rfl) (by kernel_rfl) (by exact fun _ _ _ h => h) (by rfl) (fun w' hSw => exec_eqs _ _ rfl _ _ rfl rfl bcEq_guard (HEQ.out w')) (by assumption) ?_
                  (try simp only [Act.put, List.setIfInBounds_toArray, List.set_cons_zero, List.set_cons_succ])
                  refine H_take (k := 22) (v := ?_) (by rfl) (by kernel_rfl) (by kernel_rfl) (by kernel_rfl) (by exact fun _ _ _ h => h) (by rfl) ?_ (by assumption) ?_
                  rotate_left 1
                  · intro w hSw
                    (try dsimp only at hSw)
                    go_simp
                    (try with_reducible rfl)
                  (try simp only [Act.put, List.setIfInBounds_toArray, List.set_cons_zero, List.set_cons_succ])
                  refine H_done (by kernel_rfl) ?_
                  replace HG := Lib.hid (gr_none HG.out hHeld); replace HE := Lib.hid (HE.out.kept hHeld (fun g e => by cases e)); replace HO := Lib.hid (HO.out.kept hHeld (fun g e => by cases e)); replace HP := Lib.hid (HP.out.kept hHeld (fun g e => by cases e)); replace HB := Lib.hid (HB.out.grown hHeld (by simp)); have hzq := hHeld.size
                  clear hHeld
                  generalize wq.drew = w9 at HG HE HO HP HB hzq ⊢
                  cases VQ
                  · have hst : stD (prs l p) (ol, ws) a b = (ol ++ [bcAtUn z a b], ws ++ [z]) := by rw [hst0, HMV.out]; rfl
                    go_wp2_with (first
                      | (refine wpl_load_all Tryz.bcT rfl _ rfl _ rfl _ _ HB.out rfl ?_)
                      | (at_builtin
                         refine wpl_app _ rfl _ _ Tryz.bcsT rfl lb (some ⟨pg, 0, none⟩) m2 c3 _ rfl (by exact HP.out.1.alloc _) _ _ 1 1 [.string z.psn, .string z.dev, .int .i64 z.st, .int .i64 z.at_, .int .i64 z.un, .string z.note] rfl (by exact Reads.one _ _ _ _ rfl) (by simp [Value.oneCell']) (by unfold maxLen; omega) (by omega) (by simp; omega) ?_
                         intro A5 c5 wz h5
                         have H5 := Lib.hid h5; clear h5)
                      | fail)
                    have HP9 := Lib.hid ((HP.out.alloc _).app rfl H5.out)
                    have HG9 := Lib.hid (show w5.grownBy wz none from gr_own (lo := lb) (gr_alloc HG.out _) (HP.out.1.alloc _) (by omega) H5.out.2.1)
                    have HE9 := Lib.hid ((HE.out.alloc _).kept H5.out.2.1 (fun g e e2 => by have := (HP.out.1.lt e).1; have := hEg g e2; omega))
                    have HO9 := Lib.hid ((HO.out.alloc _).kept H5.out.2.1 (fun g e e2 => HNE.out g e2 e))
                    have HN9 := Lib.hid (show ∀ g, blkOf (some ⟨og, 0, none⟩) = some g → blkOf A5 ≠ some g from fun g e e2 => (H5.out.2.2 g e2).elim (fun h => HNE.out g e h) (fun h => by have := HOz.out g e; simp at h; omega))
                    have HB9 := Lib.hid ((HB.out.alloc _).grown H5.out.2.1 (fun e => by have := HPz.out _ e.symm; omega))
                    have HZ9 := Lib.hid (show blkOf A5 ≠ some zb from fun e => (H5.out.2.2 zb e).elim (fun h => by have := HPz.out _ h; omega) (fun h => by simp at h; omega))
                    have hz9 := H5.out.2.1.size
                    simp at hz9
                    clear HG HE HO HP HB H5
                    refine H_begin (fun w' => wz.grownBy w' (some zb)) (by kernel_rfl) ?_
                    have hHeld : wz.grownBy wz.drew (some zb) := gr_drew (gr_refl _ _)
                    have HBd := Lib.hid (show Blk wz.drew zb 62 #[.string z.psn, .string z.dev, .int .i64 z.st, .int .i64 z.at_, .int .i64 z.un, .string z.note] from HB9.out)
                    generalize wz.drew = wd at hHeld HBd ⊢
                    refine H_take (k := 0) (v := ?_) (by rfl) (by kernel_rfl) (by kernel_rfl) (by kernel_rfl) (by exact fun _ _ _ h => h) (by rfl) ?_ (by assumption) ?_
                    rotate_left 1
                    · intro w hSw
                      (try dsimp only at hSw)
                      go_simp
                      (try with_reducible rfl)
                    (try simp only [Act.put, List.setIfInBounds_toArray, List.set_cons_zero, List.set_cons_succ])
                    refine H_take (k := 1) (v := ?_) (by rfl) (by kernel_rfl) (by kernel_rfl) (by kernel_rfl) (by exact fun _ _ _ h => h) (by rfl) ?_ (by assumption) ?_
                    rotate_left 1
                    · intro w hSw
                      (try dsimp only at hSw)
                      go_simp
                      (try with_reducible rfl)
                    (try simp only [Act.put, List.setIfInBounds_toArray, List.set_cons_zero, List.set_cons_succ])
                    refine H_take (k := 2) (v := ?_) (by rfl) (by kernel_rfl) (by kernel_rfl) (by kernel_rfl) (by exact fun _ _ _ h => h) (by rfl) ?_ (by assumption) ?_
                    rotate_left 1
                    · intro w hSw
                      (try dsimp only at hSw)
                      go_simp
                      (try with_reducible rfl)
                    (try simp only [Act.put, List.setIfInBounds_toArray, List.set_cons_zero, List.set_cons_succ])
                    refine H_take (k := 3) (v := ?_) (by rfl) (by kernel_rfl) (by kernel_rfl) (by kernel_rfl) (by exact fun _ _ _ h => h) (by rfl) ?_ (by assumption) ?_
                    rotate_left 1
                    · intro w hSw
                      (try dsimp only at hSw)
                      go_simp
                      (try with_reducible rfl)
                    (try simp only [Act.put, List.setIfInBounds_toArray, List.set_cons_zero, List.set_cons_succ])
                    refine H_take (k := 4) (v := ?_) (by rfl) (by kernel_rfl) (by kernel_rfl) (by kernel_rfl) (by exact fun _ _ _ h => h) (by rfl) ?_ (by assumption) ?_
                    rotate_left 1
                    · intro w' hSw
                      have kc := (HE9.out.kept hSw (fun g e e2 => by injection e with e; have := hEg g e2; omega)).recs.at_ nrow_len HA.out 0 _ rfl; simp only [Nat.mul_one, Nat.add_zero, Nat.zero_add] at kc
                      go_simp
                      (try with_reducible rfl)
                    (try simp only [Act.put, List.setIfInBounds_toArray, List.set_cons_zero, List.set_cons_succ])
                    refine H_take (k := 5) (v := ?_) (by rfl) (by kernel_rfl) (by kernel_rfl) (by kernel_rfl) (by exact fun _ _ _ h => h) (by rfl) ?_ (by assumption) ?_
                    rotate_left 1
                    · intro w hSw
                      (try dsimp only at hSw)
                      go_simp
                      (try with_reducible rfl)
                    (try simp only [Act.put, List.setIfInBounds_toArray, List.set_cons_zero, List.set_cons_succ])
                    refine H_take (k := 6) (v := ?_) (by rfl) (by kernel_rfl) (by kernel_rfl) (by kernel_rfl) (by exact fun _ _ _ h => h) (by rfl) ?_ (by assumption) ?_
                    rotate_left 1
                    · intro w hSw
                      (try dsimp only at hSw)
                      go_simp
                      (try with_reducible rfl)
                    (try simp only [Act.put, List.setIfInBounds_toArray, List.set_cons_zero, List.set_cons_succ])
                    refine H_take (k := 7) (v := ?_) (by rfl) (by kernel_rfl) (by kernel_rfl) (by kernel_rfl) (by exact fun _ _ _ h => h) (by rfl) ?_ (by assumption) ?_
                    rotate_left 1
                    · intro w hSw
                      (try dsimp only at hSw)
                      go_simp
                      (try with_reducible rfl)
                    (try simp only [Act.put, List.setIfInBounds_toArray, List.set_cons_zero, List.set_cons_succ])
                    refine H_take (k := 8) (v := ?_) (by rfl) (by kernel_rfl) (by kernel_rfl) (by kernel_rfl) (by exact fun _ _ _ h => h) (by rfl) ?_ (by assumption) ?_
                    rotate_left 1
                    · intro w' hSw
                      have kc := (HE9.out.kept hSw (fun g e e2 => by injection e with e; have := hEg g e2; omega)).recs.at_ nrow_len HBv.out 0 _ rfl; simp only [Nat.mul_one, Nat.add_zero, Nat.zero_add] at kc
                      go_simp
                      (try with_reducible rfl)
                    (try simp only [Act.put, List.setIfInBounds_toArray, List.set_cons_zero, List.set_cons_succ])
                    refine H_take (k := 9) (v := ?_) (by rfl) (by kernel_rfl) (by kernel_rfl) (by kernel_rfl) (by exact fun _ _ _ h => h) (by rfl) ?_ (by assumption) ?_
                    rotate_left 1
                    · intro w hSw
                      (try dsimp only at hSw)
                      go_simp
                      (try with_reducible rfl)
                    (try simp only [Act.put, List.setIfInBounds_toArray, List.set_cons_zero, List.set_cons_succ])
                    refine H_run (k := 10) (by rfl) (by kernel_rfl) (by rfl) (fun K hK => ?_)
                    refine wp_store_cell (by kernel_rfl) _ _ rfl zb 3 rfl (.int .i64 a) rfl rfl rfl _ (HBd.out.cell 3) (HBd.out.frozen 3) ?_
                    have HBe := Lib.hid (HBd.out.set_ 3 (.int .i64 a))
                    have hgy := gr_setCell (p := ⟨zb, 3, none⟩) hHeld (.inl rfl) (.int .i64 a)
                    refine hK _ _ hgy ?_
                    clear hK K hHeld
                    have hHeld := hgy
                    (try simp only [Act.put, List.setIfInBounds_toArray, List.set_cons_zero, List.set_cons_succ])
                    refine H_take (k := 11) (v := ?_) (by rfl) (by kernel_rfl) (by kernel_rfl) (by kernel_rfl) (by exact fun _ _ _ h => h) (by rfl) ?_ (by assumption) ?_
                    rotate_left 1
                    · intro w hSw
                      (try dsimp only at hSw)
                      go_simp
                      (try with_reducible rfl)
                    (try simp only [Act.put, List.setIfInBounds_toArray, List.set_cons_zero, List.set_cons_succ])
                    refine H_run (k := 12) (by rfl) (by kernel_rfl) (by rfl) (fun K hK => ?_)
                    refine wp_store_cell (by kernel_rfl) _ _ rfl zb 4 rfl (.int .i64 b) rfl rfl rfl _ (HBe.out.cell 4) (HBe.out.frozen 4) ?_
                    have hgx := gr_setCell (p := ⟨zb, 4, none⟩) hHeld (.inl rfl) (.int .i64 b)
                    refine hK _ _ hgx ?_
                    clear hK K hHeld
                    (try simp only [Act.put, List.setIfInBounds_toArray, List.set_cons_zero, List.set_cons_succ])
                    refine H_done (by kernel_rfl) ?_
                    obtain ⟨w10, hw10⟩ : ∃ v, (wd.setCell ⟨zb, 3, none⟩ (.int .i64 a)).setCell ⟨zb, 4, none⟩ (.int .i64 b) = v := ⟨_, rfl⟩
                    have hgz : wz.grownBy w10 (some zb) := by rw [← hw10]; exact hgx
                    clear hgx hgy
                    have HBf := Lib.hid (show Blk w10 zb 62 #[.string (bcAtUn z a b).psn, .string (bcAtUn z a b).dev, .int .i64 (bcAtUn z a b).st, .int .i64 (bcAtUn z a b).at_, .int .i64 (bcAtUn z a b).un, .string (bcAtUn z a b).note] by rw [← hw10]; exact HBe.out.set_ 4 (.int .i64 b))
                    rw [hw10]
                    replace HG9 := Lib.hid (gr_trans HG9.out hgz (fun g e => .inr (by injection e with e; omega)))
                    replace HE9 := Lib.hid (HE9.out.kept hgz (fun g e e2 => by injection e with e; have := hEg g e2; omega))
                    replace HO9 := Lib.hid (HO9.out.kept hgz (fun g e e2 => by injection e with e; have := HOz.out g e2; omega))
                    replace HP9 := Lib.hid (HP9.out.kept hgz (fun g e e2 => by injection e with e; rw [← e] at e2; exact HZ9.out e2))
                    have hz10 := hgz.size
                    clear hw10 hgz HBd HBe HB9
                    go_simp
                    go_wp2_with (first
                      | (refine wpl_load_all Tryz.bcT rfl _ rfl _ rfl _ _ HBf.out rfl ?_)
                      | (at_builtin
                         refine wpl_app _ rfl _ _ Tryz.bcsT rfl lb (some ⟨og, 0, none⟩) m2 c2 _ rfl (by exact HO9.out.1.alloc _) _ _ 1 1 [.string (bcAtUn z a b).psn, .string (bcAtUn z a b).dev, .int .i64 (bcAtUn z a b).st, .int .i64 (bcAtUn z a b).at_, .int .i64 (bcAtUn z a b).un, .string (bcAtUn z a b).note] rfl (by exact Reads.one _ _ _ _ rfl) (by simp [Value.oneCell']) (by unfold maxLen; omega) (by omega) (by simp; omega) ?_
                         intro A6 c6 w11 h5
                         have H5 := Lib.hid h5; clear h5)
                      | fail)
                    have HGa := Lib.hid (show w5.grownBy w11 none from gr_own (lo := lb) (gr_alloc HG9.out _) (HO9.out.1.alloc _) (by omega) H5.out.2.1)
                    have HEa := Lib.hid ((HE9.out.alloc _).kept H5.out.2.1 (fun g e e2 => by have := (HO9.out.1.lt e).1; have := hEg g e2; omega))
                    have HPa := Lib.hid ((HP9.out.alloc _).kept H5.out.2.1 (fun g e e2 => HN9.out g e e2))
                    have HNa := Lib.hid (show ∀ g, blkOf A6 = some g → blkOf A5 ≠ some g from fun g e e2 => (H5.out.2.2 g e).elim (fun h => HN9.out g h e2) (fun h => by have := (HP9.out.1.lt e2).2; simp at h; omega))
                    go_roundw
                    case rel => exact ⟨k2 + 1, A6, m2 + 1, _, A5, _, ol ++ [bcAtUn z a b], ws ++ [z], by omega, by go_num, rfl, rfl, HGa.out, HEa.out, (HO9.out.alloc _).app rfl H5.out, HPa.out, HNa.out, by omega, by rw [HT.out, HTS.out, hst]⟩
                    case measure => simp [intOf]; omega
                  · have hst : stD (prs l p) (ol, ws) a b = (lastU ol b, ws) := by rw [hst0, HMV.out]; rfl
                    have co := HO.out.recs.at_ BcV.row_len HYY.out 4 _ rfl
                    simp only [Nat.zero_add] at co
                    have cf := HO.out.1.frozen ((m2 - 1) * 6 + 4)
                    have HSET := Lib.hid (HO.out.set1 (j := 4) (u := .int .i64 b) (a' := { y with un := b }) BcV.row_len HYY.out (by decide) rfl rfl)
                    have cb := HE.out.recs.at_ nrow_len HBv.out 0 _ rfl
                    simp only [Nat.mul_one, Nat.add_zero, Nat.zero_add] at cb
                    have hlu : lastU ol b = ol.set (m2 - 1) { y with un := b } := by unfold lastU; rw [HLN.out, HYY.out]; rfl
                    go_wp2_with (first
                      | (refine wpList_plain rfl (fun K hK => ?_); refine wp_store_cell (by kernel_rfl) _ _ rfl og ((m2 - 1) * 6 + 4) rfl (.int .i64 b) rfl rfl rfl _ co cf ?_; refine hK _ _ ?_; clear hK K)
                      | fail)
                    have hgs : w9.grownBy (w9.setCell ⟨og, (m2 - 1) * 6 + 4, none⟩ (.int .i64 b)) (some og) := gr_setCell (gr_refl _ _) (.inl rfl) _
                    go_roundw
                    case rel => exact ⟨k2 + 1, some ⟨og, 0, none⟩, m2, _, (some ⟨pg, 0, none⟩), _, lastU ol b, ws, by omega, by go_num, rfl, rfl, gr_setCell HG.out (.inr (by simp; omega)) _, HE.out.kept hgs (fun g e e2 => by injection e with e; have := hEg g e2; omega), by rw [hlu]; exact HSET.out, HP.out.kept hgs (fun g e e2 => HNE.out g e e2), HNE.out, by omega, by rw [HT.out, HTS.out, hst]⟩
                    case measure => simp [intOf]; omega
                · have u1 : (y.un == a) = false := beq_eq_false_iff_ne.2 hyu
                  have u2 : decide (y.un = a) = false := decide_eq_false hyu
                  have hst : stD (prs l p) (ol, ws) a b = (ol ++ [bcAtUn z a b], ws ++ [z]) := by
                    rw [hst0, show mgD (prs l p) (ol, ws) a = false by rw [HM0.out]; show (decide (y.un = a) && _) = false; rw [u2]; rfl]; rfl
                  refine H_begin (fun w' => wq.grownBy w' none) (by kernel_rfl) ?_
                  have hHeld : wq.grownBy wq.drew none := gr_drew (gr_refl _ _)
                  refine H_take (k := 0) (v := ?_) (by rfl) (by kernel_rfl) (by kernel_rfl) (by kernel_rfl) (by exact fun _ _ _ h => h) (by rfl) ?_ (by assumption) ?_
                  rotate_left 1
                  · intro w hSw
                    (try dsimp only at hSw)
                    go_simp
                    (try with_reducible rfl)
                  (try simp only [Act.put, List.setIfInBounds_toArray, List.set_cons_zero, List.set_cons_succ])
                  refine H_take (k := 1) (v := ?_) (by rfl) (by kernel_rfl) (by kernel_rfl) (by kernel_rfl) (by exact fun _ _ _ h => h) (by rfl) ?_ (by assumption) ?_
                  rotate_left 1
                  · intro w hSw
                    (try dsimp only at hSw)
                    go_simp
                    (try with_reducible rfl)
                  (try simp only [Act.put, List.setIfInBounds_toArray, List.set_cons_zero, List.set_cons_succ])
                  refine H_take (k := 2) (v := ?_) (by rfl) (by kernel_rfl) (by kernel_rfl) (by kernel_rfl) (by exact fun _ _ _ h => h) (by rfl) ?_ (by assumption) ?_
                  rotate_left 1
                  · intro w hSw
                    (try dsimp only at hSw)
                    go_simp
                    (try with_reducible rfl)
                  (try simp only [Act.put, List.setIfInBounds_toArray, List.set_cons_zero, List.set_cons_succ])
                  refine H_take (k := 3) (v := ?_) (by rfl) (by kernel_rfl) (by kernel_rfl) (by kernel_rfl) (by exact fun _ _ _ h => h) (by rfl) ?_ (by assumption) ?_
                  rotate_left 1
                  · intro w hSw
                    (try dsimp only at hSw)
                    go_simp
                    (try with_reducible rfl)
                  (try simp only [Act.put, List.setIfInBounds_toArray, List.set_cons_zero, List.set_cons_succ])
                  refine H_take (k := 4) (v := ?_) (by rfl) (by kernel_rfl) (by kernel_rfl) (by kernel_rfl) (by exact fun _ _ _ h => h) (by rfl) ?_ (by assumption) ?_
                  rotate_left 1
                  · intro w hSw
                    (try dsimp only at hSw)
                    go_simp
                    (try with_reducible rfl)
                  (try simp only [Act.put, List.setIfInBounds_toArray, List.set_cons_zero, List.set_cons_succ])
                  refine H_take (k := 5) (v := ?_) (by rfl) (by kernel_rfl) (by kernel_rfl) (by kernel_rfl) (by exact fun _ _ _ h => h) (by rfl) ?_ (by assumption) ?_
                  rotate_left 1
                  · intro w hSw
                    (try dsimp only at hSw)
                    go_simp
                    (try with_reducible rfl)
                  (try simp only [Act.put, List.setIfInBounds_toArray, List.set_cons_zero, List.set_cons_succ])
                  refine H_take (k := 6) (v := ?_) (by rfl) (by kernel_rfl) (by kernel_rfl) (by kernel_rfl) (by exact fun _ _ _ h => h) (by rfl) ?_ (by assumption) ?_
                  rotate_left 1
                  · intro w hSw
                    (try dsimp only at hSw)
                    go_simp
                    (try with_reducible rfl)
                  (try simp only [Act.put, List.setIfInBounds_toArray, List.set_cons_zero, List.set_cons_succ])
                  refine H_take (k := 7) (v := ?_) (by rfl) (by kernel_rfl) (by kernel_rfl) (by kernel_rfl) (by exact fun _ _ _ h => h) (by rfl) ?_ (by assumption) ?_
                  rotate_left 1
                  · intro w' hSw
                    have kc := (HO.out.kept hSw (fun g e => by cases e)).recs.at_ BcV.row_len HYY.out 4 _ rfl; simp only [Nat.zero_add] at kc
                    go_simp
                    (try with_reducible rfl)
                  (try simp only [Act.put, List.setIfInBounds_toArray, List.set_cons_zero, List.set_cons_succ])
                  refine H_take (k := 8) (v := ?_) (by rfl) (by kernel_rfl) (by kernel_rfl) (by kernel_rfl) (by exact fun _ _ _ h => h) (by rfl) ?_ (by assumption) ?_
                  rotate_left 1
                  · intro w hSw
                    (try dsimp only at hSw)
                    go_simp
                    (try with_reducible rfl)
                  (try simp only [Act.put, List.setIfInBounds_toArray, List.set_cons_zero, List.set_cons_succ])
                  refine H_take (k := 9) (v := ?_) (by rfl) (by kernel_rfl) (by kernel_rfl) (by kernel_rfl) (by exact fun _ _ _ h => h) (by rfl) ?_ (by assumption) ?_
                  rotate_left 1
                  · intro w hSw
                    (try dsimp only at hSw)
                    go_simp
                    (try with_reducible rfl)
                  (try simp only [Act.put, List.setIfInBounds_toArray, List.set_cons_zero, List.set_cons_succ])
                  refine H_take (k := 10) (v := ?_) (by rfl) (by kernel_rfl) (by kernel_rfl) (by kernel_rfl) (by exact fun _ _ _ h => h) (by rfl) ?_ (by assumption) ?_
                  rotate_left 1
                  · intro w hSw
                    (try dsimp only at hSw)
                    go_simp
                    (try with_reducible rfl)
                  (try simp only [Act.put, List.setIfInBounds_toArray, List.set_cons_zero, List.set_cons_succ])
                  refine H_take (k := 11) (v := ?_) (by rfl) (by kernel_rfl) (by kernel_rfl) (by kernel_rfl) (by exact fun _ _ _ h => h) (by rfl) ?_ (by assumption) ?_
                  rotate_left 1
                  · intro w hSw
                    (try dsimp only at hSw)
                    go_simp
                    (try with_reducible rfl)
                  (try simp only [Act.put, List.setIfInBounds_toArray, List.set_cons_zero, List.set_cons_succ])
                  refine H_take (k := 12) (v := ?_) (by rfl) (by kernel_rfl) (by kernel_rfl) (by kernel_rfl) (by exact fun _ _ _ h => h) (by rfl) ?_ (by assumption) ?_
                  rotate_left 1
                  · intro w' hSw
                    have kc := (HE.out.kept hSw (fun g e => by cases e)).recs.at_ nrow_len HA.out 0 _ rfl; simp only [Nat.mul_one, Nat.add_zero, Nat.zero_add] at kc
                    go_simp
                    (try with_reducible rfl)
                  (try simp only [Act.put, List.setIfInBounds_toArray, List.set_cons_zero, List.set_cons_succ])
                  refine H_take (k := 13) (v := ?_) (by rfl) (by kernel_rfl) (by kernel_rfl) (by kernel_rfl) (by exact fun _ _ _ h => h) (by rfl) ?_ (by assumption) ?_
                  rotate_left 1
                  · intro w hSw
                    (try dsimp only at hSw)
                    go_simp
                    (try with_reducible rfl)
                  (try simp only [Act.put, List.setIfInBounds_toArray, List.set_cons_zero, List.set_cons_succ])
                  refine H_take (k := 14) (v := ?_) (by rfl) (by kernel_rfl) (by kernel_rfl) (by kernel_rfl) (by exact fun _ _ _ h => h) (by rfl) ?_ (by assumption) ?_
                  rotate_left 1
                  · intro w hSw
                    (try dsimp only at hSw)
                    go_simp
                    (try with_reducible rfl)
                  (try simp only [Act.put, List.setIfInBounds_toArray, List.set_cons_zero, List.set_cons_succ])
                  refine H_take (k := 15) (v := ?_) (by rfl) (by kernel_rfl) (by kernel_rfl) (by kernel_rfl) (by exact fun _ _ _ h => h) (by rfl) ?_ (by assumption) ?_
                  rotate_left 1
                  · intro w hSw
                    (try dsimp only at hSw)
                    go_simp
                    (try with_reducible rfl)
                  (try simp only [Act.put, List.setIfInBounds_toArray, List.set_cons_zero, List.set_cons_succ])
                  refine H_skip (k := 16) (by rfl) (by kernel_rfl) (by kernel_rfl) (by kernel_rfl) (by exact fun _ _ _ h => h) (by rfl) (by assumption) ?_
                  (try simp only [Act.put, List.setIfInBounds_toArray, List.set_cons_zero, List.set_cons_succ])
                  refine H_skip (k := 17) (by rfl) (by kernel_rfl) (by kernel_rfl) (by kernel_rfl) (by exact fun _ _ _ h => h) (by rfl) (by assumption) ?_
                  (try simp only [Act.put, List.setIfInBounds_toArray, List.set_cons_zero, List.set_cons_succ])
                  refine H_skip (k := 18) (by rfl) (by kernel_rfl) (by kernel_rfl) (by kernel_rfl) (by exact fun _ _ _ h => h) (by rfl) (by assumption) ?_
                  (try simp only [Act.put, List.setIfInBounds_toArray, List.set_cons_zero, List.set_cons_succ])
                  refine H_skip (k := 19) (by rfl) (by kernel_rfl) (by kernel_rfl) (by kernel_rfl) (by exact fun _ _ _ h => h) (by rfl) (by assumption) ?_
                  (try simp only [Act.put, List.setIfInBounds_toArray, List.set_cons_zero, List.set_cons_succ])
                  refine H_skip (k := 20) (by rfl) (by kernel_rfl) (by kernel_rfl) (by kernel_rfl) (by exact fun _ _ _ h => h) (by rfl) (by assumption) ?_
                  (try simp only [Act.put, List.setIfInBounds_toArray, List.set_cons_zero, List.set_cons_succ])
                  refine H_skip (k := 21) (by rfl) (by kernel_rfl) (by kernel_rfl) (by kernel_rfl) (by exact fun _ _ _ h => h) (by rfl) (by assumption) ?_
                  (try simp only [Act.put, List.setIfInBounds_toArray, List.set_cons_zero, List.set_cons_succ])
                  refine H_take (k := 22) (v := ?_) (by rfl) (by kernel_rfl) (by kernel_rfl) (by kernel_rfl) (by exact fun _ _ _ h => h) (by rfl) ?_ (by assumption) ?_
                  rotate_left 1
                  · intro w hSw
                    (try dsimp only at hSw)
                    go_simp
                    (try with_reducible rfl)
                  (try simp only [Act.put, List.setIfInBounds_toArray, List.set_cons_zero, List.set_cons_succ])
                  refine H_done (by kernel_rfl) ?_
                  replace HG := Lib.hid (gr_none HG.out hHeld); replace HE := Lib.hid (HE.out.kept hHeld (fun g e => by cases e)); replace HO := Lib.hid (HO.out.kept hHeld (fun g e => by cases e)); replace HP := Lib.hid (HP.out.kept hHeld (fun g e => by cases e)); replace HB := Lib.hid (HB.out.grown hHeld (by simp)); have hzq := hHeld.size
                  clear hHeld
                  generalize wq.drew = w9 at HG HE HO HP HB hzq ⊢
                  go_wp2_with (first
                    | (refine wpl_load_all Tryz.bcT rfl _ rfl _ rfl _ _ HB.out rfl ?_)
                    | (at_builtin
                       refine wpl_app _ rfl _ _ Tryz.bcsT rfl lb (some ⟨pg, 0, none⟩) m2 c3 _ rfl (by exact HP.out.1.alloc _) _ _ 1 1 [.string z.psn, .string z.dev, .int .i64 z.st, .int .i64 z.at_, .int .i64 z.un, .string z.note] rfl (by exact Reads.one _ _ _ _ rfl) (by simp [Value.oneCell']) (by unfold maxLen; omega) (by omega) (by simp; omega) ?_
                       intro A5 c5 wz h5
                       have H5 := Lib.hid h5; clear h5)
                    | fail)
                  have HP9 := Lib.hid ((HP.out.alloc _).app rfl H5.out)
                  have HG9 := Lib.hid (show w5.grownBy wz none from gr_own (lo := lb) (gr_alloc HG.out _) (HP.out.1.alloc _) (by omega) H5.out.2.1)
                  have HE9 := Lib.hid ((HE.out.alloc _).kept H5.out.2.1 (fun g e e2 => by have := (HP.out.1.lt e).1; have := hEg g e2; omega))
                  have HO9 := Lib.hid ((HO.out.alloc _).kept H5.out.2.1 (fun g e e2 => HNE.out g e2 e))
                  have HN9 := Lib.hid (show ∀ g, blkOf (some ⟨og, 0, none⟩) = some g → blkOf A5 ≠ some g from fun g e e2 => (H5.out.2.2 g e2).elim (fun h => HNE.out g e h) (fun h => by have := HOz.out g e; simp at h; omega))
                  have HB9 := Lib.hid ((HB.out.alloc _).grown H5.out.2.1 (fun e => by have := HPz.out _ e.symm; omega))
                  have HZ9 := Lib.hid (show blkOf A5 ≠ some zb from fun e => (H5.out.2.2 zb e).elim (fun h => by have := HPz.out _ h; omega) (fun h => by simp at h; omega))
                  have hz9 := H5.out.2.1.size
                  simp at hz9
                  clear HG HE HO HP HB H5
                  refine H_begin (fun w' => wz.grownBy w' (some zb)) (by kernel_rfl) ?_
                  have hHeld : wz.grownBy wz.drew (some zb) := gr_drew (gr_refl _ _)
                  have HBd := Lib.hid (show Blk wz.drew zb 62 #[.string z.psn, .string z.dev, .int .i64 z.st, .int .i64 z.at_, .int .i64 z.un, .string z.note] from HB9.out)
                  generalize wz.drew = wd at hHeld HBd ⊢
                  refine H_take (k := 0) (v := ?_) (by rfl) (by kernel_rfl) (by kernel_rfl) (by kernel_rfl) (by exact fun _ _ _ h => h) (by rfl) ?_ (by assumption) ?_
                  rotate_left 1
                  · intro w hSw
                    (try dsimp only at hSw)
                    go_simp
                    (try with_reducible rfl)
                  (try simp only [Act.put, List.setIfInBounds_toArray, List.set_cons_zero, List.set_cons_succ])
                  refine H_take (k := 1) (v := ?_) (by rfl) (by kernel_rfl) (by kernel_rfl) (by kernel_rfl) (by exact fun _ _ _ h => h) (by rfl) ?_ (by assumption) ?_
                  rotate_left 1
                  · intro w hSw
                    (try dsimp only at hSw)
                    go_simp
                    (try with_reducible rfl)
                  (try simp only [Act.put, List.setIfInBounds_toArray, List.set_cons_zero, List.set_cons_succ])
                  refine H_take (k := 2) (v := ?_) (by rfl) (by kernel_rfl) (by kernel_rfl) (by kernel_rfl) (by exact fun _ _ _ h => h) (by rfl) ?_ (by assumption) ?_
                  rotate_left 1
                  · intro w hSw
                    (try dsimp only at hSw)
                    go_simp
                    (try with_reducible rfl)
                  (try simp only [Act.put, List.setIfInBounds_toArray, List.set_cons_zero, List.set_cons_succ])
                  refine H_take (k := 3) (v := ?_) (by rfl) (by kernel_rfl) (by kernel_rfl) (by kernel_rfl) (by exact fun _ _ _ h => h) (by rfl) ?_ (by assumption) ?_
                  rotate_left 1
                  · intro w hSw
                    (try dsimp only at hSw)
                    go_simp
                    (try with_reducible rfl)
                  (try simp only [Act.put, List.setIfInBounds_toArray, List.set_cons_zero, List.set_cons_succ])
                  refine H_take (k := 4) (v := ?_) (by rfl) (by kernel_rfl) (by kernel_rfl) (by kernel_rfl) (by exact fun _ _ _ h => h) (by rfl) ?_ (by assumption) ?_
                  rotate_left 1
                  · intro w' hSw
                    have kc := (HE9.out.kept hSw (fun g e e2 => by injection e with e; have := hEg g e2; omega)).recs.at_ nrow_len HA.out 0 _ rfl; simp only [Nat.mul_one, Nat.add_zero, Nat.zero_add] at kc
                    go_simp
                    (try with_reducible rfl)
                  (try simp only [Act.put, List.setIfInBounds_toArray, List.set_cons_zero, List.set_cons_succ])
                  refine H_take (k := 5) (v := ?_) (by rfl) (by kernel_rfl) (by kernel_rfl) (by kernel_rfl) (by exact fun _ _ _ h => h) (by rfl) ?_ (by assumption) ?_
                  rotate_left 1
                  · intro w hSw
                    (try dsimp only at hSw)
                    go_simp
                    (try with_reducible rfl)
                  (try simp only [Act.put, List.setIfInBounds_toArray, List.set_cons_zero, List.set_cons_succ])
                  refine H_take (k := 6) (v := ?_) (by rfl) (by kernel_rfl) (by kernel_rfl) (by kernel_rfl) (by exact fun _ _ _ h => h) (by rfl) ?_ (by assumption) ?_
                  rotate_left 1
                  · intro w hSw
                    (try dsimp only at hSw)
                    go_simp
                    (try with_reducible rfl)
                  (try simp only [Act.put, List.setIfInBounds_toArray, List.set_cons_zero, List.set_cons_succ])
                  refine H_take (k := 7) (v := ?_) (by rfl) (by kernel_rfl) (by kernel_rfl) (by kernel_rfl) (by exact fun _ _ _ h => h) (by rfl) ?_ (by assumption) ?_
                  rotate_left 1
                  · intro w hSw
                    (try dsimp only at hSw)
                    go_simp
                    (try with_reducible rfl)
                  (try simp only [Act.put, List.setIfInBounds_toArray, List.set_cons_zero, List.set_cons_succ])
                  refine H_take (k := 8) (v := ?_) (by rfl) (by kernel_rfl) (by kernel_rfl) (by kernel_rfl) (by exact fun _ _ _ h => h) (by rfl) ?_ (by assumption) ?_
                  rotate_left 1
                  · intro w' hSw
                    have kc := (HE9.out.kept hSw (fun g e e2 => by injection e with e; have := hEg g e2; omega)).recs.at_ nrow_len HBv.out 0 _ rfl; simp only [Nat.mul_one, Nat.add_zero, Nat.zero_add] at kc
                    go_simp
                    (try with_reducible rfl)
                  (try simp only [Act.put, List.setIfInBounds_toArray, List.set_cons_zero, List.set_cons_succ])
                  refine H_take (k := 9) (v := ?_) (by rfl) (by kernel_rfl) (by kernel_rfl) (by kernel_rfl) (by exact fun _ _ _ h => h) (by rfl) ?_ (by assumption) ?_
                  rotate_left 1
                  · intro w hSw
                    (try dsimp only at hSw)
                    go_simp
                    (try with_reducible rfl)
                  (try simp only [Act.put, List.setIfInBounds_toArray, List.set_cons_zero, List.set_cons_succ])
                  refine H_run (k := 10) (by rfl) (by kernel_rfl) (by rfl) (fun K hK => ?_)
                  refine wp_store_cell (by kernel_rfl) _ _ rfl zb 3 rfl (.int .i64 a) rfl rfl rfl _ (HBd.out.cell 3) (HBd.out.frozen 3) ?_
                  have HBe := Lib.hid (HBd.out.set_ 3 (.int .i64 a))
                  have hgy := gr_setCell (p := ⟨zb, 3, none⟩) hHeld (.inl rfl) (.int .i64 a)
                  refine hK _ _ hgy ?_
                  clear hK K hHeld
                  have hHeld := hgy
                  (try simp only [Act.put, List.setIfInBounds_toArray, List.set_cons_zero, List.set_cons_succ])
                  refine H_take (k := 11) (v := ?_) (by rfl) (by kernel_rfl) (by kernel_rfl) (by kernel_rfl) (by exact fun _ _ _ h => h) (by rfl) ?_ (by assumption) ?_
                  rotate_left 1
                  · intro w hSw
                    (try dsimp only at hSw)
                    go_simp
                    (try with_reducible rfl)
                  (try simp only [Act.put, List.setIfInBounds_toArray, List.set_cons_zero, List.set_cons_succ])
                  refine H_run (k := 12) (by rfl) (by kernel_rfl) (by rfl) (fun K hK => ?_)
                  refine wp_store_cell (by kernel_rfl) _ _ rfl zb 4 rfl (.int .i64 b) rfl rfl rfl _ (HBe.out.cell 4) (HBe.out.frozen 4) ?_
                  have hgx := gr_setCell (p := ⟨zb, 4, none⟩) hHeld (.inl rfl) (.int .i64 b)
                  refine hK _ _ hgx ?_
                  clear hK K hHeld
                  (try simp only [Act.put, List.setIfInBounds_toArray, List.set_cons_zero, List.set_cons_succ])
                  refine H_done (by kernel_rfl) ?_
                  obtain ⟨w10, hw10⟩ : ∃ v, (wd.setCell ⟨zb, 3, none⟩ (.int .i64 a)).setCell ⟨zb, 4, none⟩ (.int .i64 b) = v := ⟨_, rfl⟩
                  have hgz : wz.grownBy w10 (some zb) := by rw [← hw10]; exact hgx
                  clear hgx hgy
                  have HBf := Lib.hid (show Blk w10 zb 62 #[.string (bcAtUn z a b).psn, .string (bcAtUn z a b).dev, .int .i64 (bcAtUn z a b).st, .int .i64 (bcAtUn z a b).at_, .int .i64 (bcAtUn z a b).un, .string (bcAtUn z a b).note] by rw [← hw10]; exact HBe.out.set_ 4 (.int .i64 b))
                  rw [hw10]
                  replace HG9 := Lib.hid (gr_trans HG9.out hgz (fun g e => .inr (by injection e with e; omega)))
                  replace HE9 := Lib.hid (HE9.out.kept hgz (fun g e e2 => by injection e with e; have := hEg g e2; omega))
                  replace HO9 := Lib.hid (HO9.out.kept hgz (fun g e e2 => by injection e with e; have := HOz.out g e2; omega))
                  replace HP9 := Lib.hid (HP9.out.kept hgz (fun g e e2 => by injection e with e; rw [← e] at e2; exact HZ9.out e2))
                  have hz10 := hgz.size
                  clear hw10 hgz HBd HBe HB9
                  go_simp
                  go_wp2_with (first
                    | (refine wpl_load_all Tryz.bcT rfl _ rfl _ rfl _ _ HBf.out rfl ?_)
                    | (at_builtin
                       refine wpl_app _ rfl _ _ Tryz.bcsT rfl lb (some ⟨og, 0, none⟩) m2 c2 _ rfl (by exact HO9.out.1.alloc _) _ _ 1 1 [.string (bcAtUn z a b).psn, .string (bcAtUn z a b).dev, .int .i64 (bcAtUn z a b).st, .int .i64 (bcAtUn z a b).at_, .int .i64 (bcAtUn z a b).un, .string (bcAtUn z a b).note] rfl (by exact Reads.one _ _ _ _ rfl) (by simp [Value.oneCell']) (by unfold maxLen; omega) (by omega) (by simp; omega) ?_
                       intro A6 c6 w11 h5
                       have H5 := Lib.hid h5; clear h5)
                    | fail)
                  have HGa := Lib.hid (show w5.grownBy w11 none from gr_own (lo := lb) (gr_alloc HG9.out _) (HO9.out.1.alloc _) (by omega) H5.out.2.1)
                  have HEa := Lib.hid ((HE9.out.alloc _).kept H5.out.2.1 (fun g e e2 => by have := (HO9.out.1.lt e).1; have := hEg g e2; omega))
                  have HPa := Lib.hid ((HP9.out.alloc _).kept H5.out.2.1 (fun g e e2 => HN9.out g e e2))
                  have HNa := Lib.hid (show ∀ g, blkOf A6 = some g → blkOf A5 ≠ some g from fun g e e2 => (H5.out.2.2 g e).elim (fun h => HN9.out g h e2) (fun h => by have := (HP9.out.1.lt e2).2; simp at h; omega))
                  go_roundw
                  case rel => exact ⟨k2 + 1, A6, m2 + 1, _, A5, _, ol ++ [bcAtUn z a b], ws ++ [z], by omega, by go_num, rfl, rfl, HGa.out, HEa.out, (HO9.out.alloc _).app rfl H5.out, HPa.out, HNa.out, by omega, by rw [HT.out, HTS.out, hst]⟩
                  case measure => simp [intOf]; omega
        · have s2 : decide ((k2 : Int) + 1 < (EL.length : Int)) = false := decide_eq_false (by omega)
          have HFIN := Lib.hid (show thD l p fr til = ol by rw [HT.out, thr_short _ _ (by rw [List.length_drop]; omega)])
          go_wp2_with fail
          go_ret
          exact ⟨A2, m2, c2, rfl, by rw [HFIN.out]; exact HO.out.recs.lower (by omega), by omega, gr_none HG6.out HG.out⟩
end Go.Proofs.YtgogiljplnninaaGreatDoor

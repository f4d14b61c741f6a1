/- Contract of voice.Through. Conditions: beacons whose notes are of small bytes; the tables of unicode/utf8 and bytealg.MaxLen as laid. -/
import Derived.Test.YtgogiljplnninaaGreatDoorBc2
import Derived.Test.YtgogiljplnninaaGreatDoorPr1
import Derived.Test.YtgogiljplnninaaGreatDoorBun4
import Derived.Test.YtgogiljplnninaaGreatDoorThG
namespace Go.Proofs.YtgogiljplnninaaGreatDoor
open Go.RowKit

def thE (l : List BcV) (p : ByteArray) (fr til : Int) : Int := if bcsE l = 0 then (if keyOk (nb p) then (if decide (fr < 0) || (decide (til < fr) || decide (345686400000 < til)) then 1 else 0) else 5) else bcsE l
noncomputable def thL (l : List BcV) (p : ByteArray) (fr til : Int) : List BcV := if thE l p fr til = 0 then (thr (stP (prs l p)) ([], bc0) (Lib.compact (sortI (evP l p fr til)))).1 else []
def ThR (l : List BcV) (p : ByteArray) (fr til : Int) (w : World) (e : Ending) (w' : World) : Prop := ∃ A' n' c', e = .returned (.tuple #[.slice A' n' c', .int .i64 (thE l p fr til)]) ∧ Recs BcV.row 6 w' w.heap.size A' n' c' (thL l p fr til) ∧ n' ≤ 4000000 ∧ w.grownBy w' none
set_option maxHeartbeats 16000000 in
set_option maxRecDepth 100000 in
theorem through_any (lo : Nat) (A : Option Addr) (n c : Nat) (l : List BcV) (p : ByteArray) (fr til : Int) (w : World) (h : Bcs w lo A n c l) (hn : n ≤ 1000000) (hp : p.size ≤ 1000) (hu : U8T w) (hm : MxT w) :
    Calls Tryz.prog 46 #[.slice A n c, .string p, .agg #[.int .i64 fr, .int .i64 til]] w (ThR l p fr til w) := by
  have H := Lib.hid h; have HU := Lib.hid hu; have HM := Lib.hid hm; clear h hu hm
  obtain ⟨w0, hw0⟩ : ∃ v, w.alloc (.cells #[.int .i64 fr, .int .i64 til] 79) = v := ⟨_, rfl⟩
  have HWB := Lib.hid (show Blk w0 w.heap.size 79 #[.int .i64 fr, .int .i64 til] by rw [← hw0]; exact Blk.new _ _ _)
  have HG0 := Lib.hid (show w.grownBy w0 none by rw [← hw0]; exact gr_alloc (gr_refl _ _) _)
  have HW0 := Lib.hid hw0
  clear hw0
  go_enter Tryz.func46, Tryz.ntmps46
  go_upto_region 1 with (fail)
  rw [HW0.out]
  clear HW0
  go_wp2_with fail
  refine (checkBeacons_any lo A n c l _ (H.out.grown HG0.out (fun g e => by cases e)) (by omega) (HU.out.grown HG0.out) (HM.out.grown HG0.out)).mono ?_
  rintro e w1 ⟨rfl, hg1⟩
  have HG := Lib.hid (gr_none HG0.out hg1)
  have HWx := Lib.hid (HWB.out.grown hg1 (by simp))
  clear hg1 HG0 HWB
  obtain ⟨E, hE⟩ : ∃ E, bcsE l = E := ⟨_, rfl⟩
  rw [hE]
  by_cases h0 : E = 0
  · subst h0
    have HE0 := Lib.hid hE
    clear hE
    go_wp2_with fail
    refine (isKey_any p _ (by omega)).mono ?_
    rintro e w2 ⟨rfl, hg2⟩
    replace HG := Lib.hid (gr_none HG.out hg2)
    replace HWx := Lib.hid (HWx.out.grown hg2 (by simp))
    clear hg2
    obtain ⟨KY, hKY⟩ : ∃ V, keyOk (nb p) = V := ⟨_, rfl⟩
    have HKY := Lib.hid hKY
    rw [hKY]
    clear hKY
    cases KY
    · have HF := Lib.hid (show thE l p fr til = 5 by unfold thE; rw [HE0.out, HKY.out]; rfl)
      have HF2 := Lib.hid (show thL l p fr til = [] by unfold thL; rw [HF.out]; exact if_neg (by first | decide | exact h0))
      go_wp2_with fail
      go_ret2
      exact ⟨none, 0, 0, by rw [HF.out]; try rfl, by rw [HF2.out]; exact (OwnR.nil _ _ 62).recs, by omega, HG.out⟩
    · have j0 := HWx.out.cell 0; have j1 := HWx.out.cell 1
      obtain ⟨V1, hV1⟩ : ∃ V, decide (fr < 0) = V := ⟨_, rfl⟩
      obtain ⟨V2, hV2⟩ : ∃ V, decide (til < fr) = V := ⟨_, rfl⟩
      obtain ⟨V3, hV3⟩ : ∃ V, decide (345686400000 < til) = V := ⟨_, rfl⟩
      have HTE := Lib.hid (show thE l p fr til = if V1 || (V2 || V3) then 1 else 0 by unfold thE; rw [HE0.out, HKY.out, hV1, hV2, hV3]; rfl)
      cases V1
      · cases V2
        · cases V3
          · have HOK := Lib.hid (show thE l p fr til = 0 by rw [HTE.out]; rfl)
            have HLA := Lib.hid (bAsc_of (bcs_all HE0.out).2.2)
            have HGc := Lib.hid HG.out; have HWc := Lib.hid HWx.out
            clear HG HWx HTE
            go_wp2_with fail
            clear j0 j1 hV1 hV2 hV3
            go_loopw [9, 11, 13, 50] (fun v _ _ t wr => ∃ (k : Nat) (B : Option Addr) (m cB : Nat), k ≤ n ∧ t = .int .i64 k ∧ v = .slice B m cB ∧ w.grownBy wr none ∧ OwnR nrow 1 wr (w.heap.size + 1) 3 B m cB (evP (l.take k) p fr til) ∧ m ≤ 2 + 2 * k ∧ Blk wr w.heap.size 79 #[.int .i64 fr, .int .i64 til]) (fun _ _ _ t _ => n - (intOf t).toNat)
            case atStart => exact ⟨0, _, 2, _, Nat.zero_le _, rfl, rfl, gr_alloc HGc.out _, (show OwnR nrow 1 _ (w.heap.size + 1) _ _ _ _ _ from ⟨(Own.lit _ _ 1 [.int .i64 fr, .int .i64 til] 2 (by unfold maxLen; omega) rfl).lower (by have := HWc.out.lt; omega), rfl⟩), by omega, HWc.out.alloc _⟩
            case round =>
              clear HGc HWc
              obtain ⟨k, B, m, cB, hk, rfl, rfl, hg, hown, hm, hwb⟩ := hrel
              have HO := Lib.hid hown; have HG := Lib.hid hg; have HW := Lib.hid hwb
              clear hown hg hwb
              by_cases hlt : k < n
              · obtain ⟨g, o, z, rfl, _, hgl, hz, hc⟩ := (H.out.1.grown HG.out (fun g e => by cases e)).get BcV.row_len hlt
                have HZ := Lib.hid hz; have HC := Lib.hid hc; clear hz hc
                obtain ⟨w1, hw1⟩ : ∃ v, wr.alloc (.cells #[.string z.psn, .string z.dev, .int .i64 z.st, .int .i64 z.at_, .int .i64 z.un, .string z.note] 62) = v := ⟨_, rfl⟩
                obtain ⟨zb, hzb⟩ : ∃ b, wr.heap.size = b := ⟨_, rfl⟩
                have HB := Lib.hid (show Blk w1 zb 62 #[.string z.psn, .string z.dev, .int .i64 z.st, .int .i64 z.at_, .int .i64 z.un, .string z.note] by rw [← hw1, ← hzb]; exact Blk.new _ _ _)
                replace HG := Lib.hid (show w.grownBy w1 none by rw [← hw1]; exact gr_alloc HG.out _)
                replace HW := Lib.hid (show Blk w1 w.heap.size 79 #[.int .i64 fr, .int .i64 til] by rw [← hw1]; exact HW.out.alloc _)
                replace HO := Lib.hid (show OwnR nrow 1 w1 (w.heap.size + 1) 3 B m cB (evP (l.take k) p fr til) by rw [← hw1]; exact HO.out.alloc _)
                have HW1 := Lib.hid hw1; have HZB := Lib.hid hzb
                clear hw1 hzb
                go_upto_region 12 with (first
                  | (refine wpl_load_at Tryz.bcT rfl _ rfl _ rfl [.string z.psn, .string z.dev, .int .i64 z.st, .int .i64 z.at_, .int .i64 z.un, .string z.note] rfl (fun j u hu => by rw [add_mk]; exact HC.out j u hu) ?_)
                  | fail)
                rw [HW1.out]
                (try rw [HZB.out])
                clear HW1 HZB HC
                have k3 := HB.out.cell 3; have k4 := HB.out.cell 4
                obtain ⟨w2, hw2⟩ : ∃ v, w1.alloc (.cells #[.int .i64 z.at_, .int .i64 z.un] 3) = v := ⟨_, rfl⟩
                obtain ⟨lb, hlb⟩ : ∃ b, w1.heap.size = b := ⟨_, rfl⟩
                have HLB := Lib.hid (show Blk w2 lb 3 #[.int .i64 z.at_, .int .i64 z.un] by rw [← hw2, ← hlb]; exact Blk.new _ _ _)
                go_wp2_with fail
                (try rw [hw2])
                (try rw [hlb])
                replace HG := Lib.hid (show w.grownBy w2 none by rw [← hw2]; exact gr_alloc HG.out _)
                have HNE0 := Lib.hid (show blkOf B ≠ some lb from fun e => by have := (HO.out.1.lt e).2; omega)
                replace HW := Lib.hid (show Blk w2 w.heap.size 79 #[.int .i64 fr, .int .i64 til] by rw [← hw2]; exact HW.out.alloc _)
                replace HB := Lib.hid (show Blk w2 zb 62 #[.string z.psn, .string z.dev, .int .i64 z.st, .int .i64 z.at_, .int .i64 z.un, .string z.note] by rw [← hw2]; exact HB.out.alloc _)
                replace HO := Lib.hid (show OwnR nrow 1 w2 (w.heap.size + 1) 3 B m cB (evP (l.take k) p fr til) by rw [← hw2]; exact HO.out.alloc _)
                clear hw2 hlb k3 k4
                go_loopw [9, 13, 60] (fun v _ t wr => ∃ (j : Nat) (B : Option Addr) (m' cB : Nat), j ≤ 2 ∧ t = .int .i64 j ∧ v = .slice B m' cB ∧ w.grownBy wr none ∧ OwnR nrow 1 wr (w.heap.size + 1) 3 B m' cB (evP (l.take k) p fr til ++ ([z.at_, z.un].take j).filter fun n => decide (nb z.psn = nb p) && (decide (fr < n) && decide (n < til))) ∧ m' ≤ 2 + 2 * k + j ∧ Blk wr w.heap.size 79 #[.int .i64 fr, .int .i64 til] ∧ Blk wr zb 62 #[.string z.psn, .string z.dev, .int .i64 z.st, .int .i64 z.at_, .int .i64 z.un, .string z.note] ∧ Blk wr lb 3 #[.int .i64 z.at_, .int .i64 z.un] ∧ blkOf B ≠ some lb) (fun _ _ t _ => 2 - (intOf t).toNat)
                case atStart => exact ⟨0, B, m, cB, by omega, rfl, rfl, HG.out, by simpa using HO.out, by omega, HW.out, HB.out, HLB.out, HNE0.out⟩
                case round =>
                  clear HG HO HW HB HLB HNE0
                  obtain ⟨j, B, m, cB, hj, rfl, rfl, hg, hown, hm2, hwb, hb, hlb, hne⟩ := hrel
                  have HO := Lib.hid hown; have HG := Lib.hid hg; have HW := Lib.hid hwb; have HB := Lib.hid hb; have HLB := Lib.hid hlb; have HNE := Lib.hid hne
                  have zr := hg.size
                  clear hown hg hwb hb hlb hne
                  by_cases hj2 : j < 2
                  · obtain ⟨v, hv⟩ : ∃ v, [z.at_, z.un][j]? = some v := ⟨_, List.getElem?_eq_getElem (by simpa using hj2)⟩
                    have HV := Lib.hid hv
                    have kv := (HLB.out.cell j).trans (two_at hv)
                    have i1 : (0 : Int) ≤ (j : Int) := by omega
                    have i2 : (j : Int) < 2 := by omega
                    have i3 : decide ((j : Int) < 2) = true := decide_eq_true i2
                    clear hv
                    have k0 := HB.out.cell 0
                    have j0 := HW.out.cell 0; have j1 := HW.out.cell 1
                    by_cases hp1 : nb z.psn = nb p
                    · have HP1 := Lib.hid hp1
                      obtain ⟨e1, e2, e3⟩ := eqS_yes hp1
                      clear hp1
                      by_cases hc1 : fr < v
                      · have d1 : decide (fr < v) = true := decide_eq_true hc1
                        by_cases hc2 : v < til
                        · have d2 : decide (v < til) = true := decide_eq_true hc2
                          have hf := filt_succ (c := fun n => decide (nb z.psn = nb p) && (decide (fr < n) && decide (n < til))) HV.out
                          rw [show (decide (nb z.psn = nb p) && (decide (fr < v) && decide (v < til))) = true by rw [decide_eq_true HP1.out, d1, d2]; rfl] at hf
                          replace hf := hf.trans (show _ = _ ++ [v] from rfl)
                          go_wp2_with (first
                            | (at_builtin
                               refine wpl_app _ rfl _ _ Tryz.inT rfl (w.heap.size + 1) B m cB _ rfl (by exact HO.out.1.alloc _) _ _ 1 1 [.int .i64 v] rfl (by exact Reads.one _ _ _ _ rfl) (by simp [Value.oneCell']) (by unfold maxLen; omega) (by omega) (by have := HG.out.size; simp; omega) ?_
                               intro A8 c8 w8 h8
                               have H8 := Lib.hid h8; clear h8)
                            | fail)
                          have HO8 := Lib.hid (show OwnR nrow 1 w8 (w.heap.size + 1) 3 A8 (m + 1) c8 ((evP (l.take k) p fr til ++ ([z.at_, z.un].take j).filter fun n => decide (nb z.psn = nb p) && (decide (fr < n) && decide (n < til))) ++ [v]) from (HO.out.alloc _).app rfl H8.out)
                          have HG8 := Lib.hid (show w.grownBy w8 none from gr_own (lo := w.heap.size + 1) (gr_alloc HG.out _) (HO.out.1.alloc _) (by omega) H8.out.2.1)
                          have hne8 : ∀ b, b ≤ w.heap.size ∨ some b ≠ blkOf B → some b ≠ blkOf B := fun b h => h.elim (fun h e => by have := (HO.out.1.lt e.symm).1; omega) id
                          have HW8 := Lib.hid (show Blk w8 w.heap.size 79 #[.int .i64 fr, .int .i64 til] from (HW.out.alloc _).grown H8.out.2.1 (hne8 _ (.inl (Nat.le_refl _))))
                          have HB8 := Lib.hid (show Blk w8 zb 62 #[.string z.psn, .string z.dev, .int .i64 z.st, .int .i64 z.at_, .int .i64 z.un, .string z.note] from (HB.out.alloc _).grown H8.out.2.1 (Ne.symm (HO.out.1.blk_ne HB.out (by decide))))
                          have HLB8 := Lib.hid (show Blk w8 lb 3 #[.int .i64 z.at_, .int .i64 z.un] from (HLB.out.alloc _).grown H8.out.2.1 (fun e => HNE.out e.symm))
                          have HN8 := Lib.hid (show blkOf A8 ≠ some lb from fun e => (H8.out.2.2 lb e).elim (fun h => HNE.out h) (fun h => by have := HLB.out.lt; simp at h; omega))
                          clear hne8
                          go_roundw
                          case rel => exact ⟨j + 1, A8, m + 1, c8, by omega, by go_num, rfl, HG8.out, by rw [hf, ← List.append_assoc]; exact HO8.out, by omega, HW8.out, HB8.out, HLB8.out, HN8.out⟩
                          case measure => simp [intOf]; omega
                        · have d2 : decide (v < til) = false := decide_eq_false hc2
                          have hf := filt_succ (c := fun n => decide (nb z.psn = nb p) && (decide (fr < n) && decide (n < til))) HV.out
                          rw [show (decide (nb z.psn = nb p) && (decide (fr < v) && decide (v < til))) = false by rw [d2, Bool.and_false, Bool.and_false]] at hf
                          replace hf := hf.trans (List.append_nil _)
                          go_wp2_with fail
                          go_roundw
                          case rel => exact ⟨j + 1, B, m, cB, by omega, by go_num, rfl, HG.out, by rw [hf]; exact HO.out, by omega, HW.out, HB.out, HLB.out, HNE.out⟩
                          case measure => simp [intOf]; omega
                      · have d1 : decide (fr < v) = false := decide_eq_false hc1
                        have hf := filt_succ (c := fun n => decide (nb z.psn = nb p) && (decide (fr < n) && decide (n < til))) HV.out
                        rw [show (decide (nb z.psn = nb p) && (decide (fr < v) && decide (v < til))) = false by rw [d1, Bool.false_and, Bool.and_false]] at hf
                        replace hf := hf.trans (List.append_nil _)
                        go_wp2_with fail
                        go_roundw
                        case rel => exact ⟨j + 1, B, m, cB, by omega, by go_num, rfl, HG.out, by rw [hf]; exact HO.out, by omega, HW.out, HB.out, HLB.out, HNE.out⟩
                        case measure => simp [intOf]; omega
                    · have HP1 := Lib.hid hp1
                      obtain ⟨e1, e2, e3⟩ := eqS_no hp1
                      clear hp1
                      have hf := filt_succ (c := fun n => decide (nb z.psn = nb p) && (decide (fr < n) && decide (n < til))) HV.out
                      rw [show (decide (nb z.psn = nb p) && (decide (fr < v) && decide (v < til))) = false by rw [decide_eq_false HP1.out]; rfl] at hf
                      replace hf := hf.trans (List.append_nil _)
                      go_wp2_with fail
                      go_roundw
                      case rel => exact ⟨j + 1, B, m, cB, by omega, by go_num, rfl, HG.out, by rw [hf]; exact HO.out, by omega, HW.out, HB.out, HLB.out, HNE.out⟩
                      case measure => simp [intOf]; omega
                  · obtain rfl : j = 2 := by omega
                    go_wp2_with fail
                    go_roundw
                    case rel => exact ⟨k + 1, B, m, cB, by omega, by go_num, rfl, HG.out, by
                      have e : evP (l.take (k + 1)) p fr til = evP (l.take k) p fr til ++ edP p fr til z := by
                        unfold evP
                        rw [List.take_succ_eq_append_getElem (by rw [H.out.1.len]; exact hlt), List.flatMap_append, List.append_assoc]
                        have e : l[k]'(by rw [H.out.1.len]; exact hlt) = z := Option.some.inj ((List.getElem?_eq_getElem _).symm.trans HZ.out)
                        rw [e]; simp
                      rw [e]; exact HO.out, by omega, HW.out⟩
                    case measure => simp [intOf]; omega
              · obtain rfl : k = n := by omega
                have e : l.take k = l := List.take_of_length_le (by rw [H.out.1.len]; exact Nat.le_refl _)
                rw [e] at HO
                clear e hlt
                go_wp2_with fail
                refine (sortI_any (w.heap.size + 1) B m cB _ _ HO.out (by omega)).mono ?_
                rintro e w5 ⟨rfl, ho5, hg5⟩
                have HO5 := Lib.hid ho5
                have HG5 := Lib.hid (gr_trans HG.out hg5 (fun g e => .inr (by have := (HO.out.1.lt e).1; omega)))
                clear ho5 hg5 HO HG HW
                go_wp2_with fail
                refine (compactI_any (w.heap.size + 1) B m cB _ _ HO5.out (by omega)).mono ?_
                rintro e w6 ⟨rfl, ho6, hg6⟩
                have hEm : (Lib.compact (sortI (evP l p fr til))).length ≤ m := by
                  have h1 := compact_len (sortI (evP l p fr til))
                  have h2 := HO5.out.2
                  omega
                have HG6 := Lib.hid (gr_trans HG5.out hg6 (fun g e => .inr (by have := (HO5.out.1.lt e).1; omega)))
                obtain ⟨EL, hEL⟩ : ∃ v, Lib.compact (sortI (evP l p fr til)) = v := ⟨_, rfl⟩
                rw [hEL] at ho6 hEm ⊢
                have HE := Lib.hid ho6
                have HRES := Lib.hid (show thL l p fr til = (thr (stP (prs l p)) ([], bc0) (EL.drop 0)).1 by unfold thL; rw [HOK.out, if_pos rfl, hEL, List.drop_zero])
                have hz6 := HG6.out.size
                have hEg : ∀ g, blkOf B = some g → g < w6.heap.size := fun g e => (ho6.1.lt e).2
                clear ho6 hg6 HO5 HG5 hEL
                obtain ⟨lb, hlb⟩ : ∃ v, w6.heap.size = v := ⟨_, rfl⟩
                rw [hlb] at hEg hz6
                go_wp2_with fail
                (try rw [hlb])
                go_loopw [14, 16, 17, 18, 19] (fun out i _ _ _ wr => ∃ (k : Nat) (A2 : Option Addr) (m2 c2 : Nat) (ol : List BcV) (lst : BcV), k ≤ EL.length ∧ i = .int .i64 k ∧ out = .slice A2 m2 c2 ∧ w.grownBy wr none ∧ OwnR nrow 1 wr (w.heap.size + 1) 3 B EL.length cB EL ∧ Blk wr lb 62 #[.string lst.psn, .string lst.dev, .int .i64 lst.st, .int .i64 lst.at_, .int .i64 lst.un, .string lst.note] ∧ OwnR BcV.row 6 wr (lb + 1) 62 A2 m2 c2 ol ∧ m2 ≤ k ∧ thL l p fr til = (thr (stP (prs l p)) (ol, lst) (EL.drop k)).1) (fun _ i _ _ _ _ => EL.length - (intOf i).toNat)
                case atStart => exact ⟨0, none, 0, 0, [], bc0, Nat.zero_le _, rfl, rfl, gr_alloc HG6.out _, HE.out.alloc _, by rw [← hlb]; exact Blk.new _ _ _, OwnR.nil _ _ _, Nat.le_refl _, HRES.out⟩
                case round =>
                  clear HG6 HE HRES hlb
                  obtain ⟨k2, A2, m2, c2, ol, lst, hk2, rfl, rfl, hg, hel, hlb, hol, hm2, ht⟩ := hrel
                  have HG := Lib.hid hg; have HE := Lib.hid hel; have HL := Lib.hid hlb; have HO := Lib.hid hol; have HT := Lib.hid ht
                  have zr := hlb.lt
                  clear hg hel hlb hol ht
                  have sw : IntKind.i64.wrap ((k2 : Int) + 1) = (k2 : Int) + 1 := IntWalk.i64_in _ (by omega)
                  by_cases h2 : k2 + 1 < EL.length
                  · obtain ⟨eg, rfl, _, _⟩ := HE.out.1.pos (by omega)
                    obtain ⟨a, ha⟩ : ∃ v, EL[k2]? = some v := ⟨_, List.getElem?_eq_getElem (by omega)⟩
                    obtain ⟨b, hb⟩ : ∃ v, EL[k2 + 1]? = some v := ⟨_, List.getElem?_eq_getElem h2⟩
                    have HTS := Lib.hid (thr_step (stP (prs l p)) (ol, lst) ha hb)
                    have HA := Lib.hid ha; have HBv := Lib.hid hb
                    clear ha hb
                    have s2 : decide ((k2 : Int) + 1 < (EL.length : Int)) = true := decide_eq_true (by omega)
                    have s3 : (0 : Int) ≤ (k2 : Int) + 1 := by omega
                    have s4 : (k2 : Int) + 1 < (EL.length : Int) := by omega
                    have s5 : ((k2 : Int) + 1).toNat = k2 + 1 := by omega
                    have s6 : (0 : Int) ≤ (k2 : Int) := by omega
                    have s7 : (k2 : Int) < (EL.length : Int) := by omega
                    have ca := HE.out.recs.at_ nrow_len HA.out 0 _ rfl
                    simp only [Nat.mul_one, Nat.add_zero, Nat.zero_add] at ca
                    go_wp2_with fail
                    refine (says_any lo A _ c l p a _ (H.out.1.grown HG.out (fun g e => by cases e)) (by omega) HLA.out).mono ?_
                    rintro e w7 ⟨rfl, hg7⟩
                    obtain ⟨⟨G, z⟩, hpr⟩ : ∃ q, prs l p a = q := ⟨_, rfl⟩
                    have HPR := Lib.hid hpr
                    rw [hpr]
                    clear hpr ca
                    replace HG := Lib.hid (gr_none HG.out hg7); replace HE := Lib.hid (HE.out.kept hg7 (fun g e => by cases e)); replace HO := Lib.hid (HO.out.kept hg7 (fun g e => by cases e)); replace HL := Lib.hid (HL.out.grown hg7 (by simp))
                    have hz7 := hg7.size
                    clear hg7
                    obtain ⟨w8, hw8⟩ : ∃ v, w7.alloc (.cells #[.string z.psn, .string z.dev, .int .i64 z.st, .int .i64 z.at_, .int .i64 z.un, .string z.note] 62) = v := ⟨_, rfl⟩
                    obtain ⟨zb, hzb⟩ : ∃ b, w7.heap.size = b := ⟨_, rfl⟩
                    have hLz : lb < zb := by rw [← hzb]; exact HL.out.lt
                    have HOz := Lib.hid (show ∀ g, blkOf A2 = some g → g < zb from fun g e => by rw [← hzb]; exact (HO.out.1.lt e).2)
                    have hwz : w.heap.size ≤ zb := by rw [← hzb]; exact HG.out.size
                    have HB := Lib.hid (show Blk w8 zb 62 #[.string z.psn, .string z.dev, .int .i64 z.st, .int .i64 z.at_, .int .i64 z.un, .string z.note] by rw [← hw8, ← hzb]; exact Blk.new _ _ _)
                    replace HG := Lib.hid (show w.grownBy w8 none by rw [← hw8]; exact gr_alloc HG.out _)
                    replace HE := Lib.hid (show OwnR nrow 1 w8 (w.heap.size + 1) 3 (some ⟨eg, 0, none⟩) EL.length cB EL by rw [← hw8]; exact HE.out.alloc _)
                    replace HO := Lib.hid (show OwnR BcV.row 6 w8 (lb + 1) 62 A2 m2 c2 ol by rw [← hw8]; exact HO.out.alloc _)
                    replace HL := Lib.hid (show Blk w8 lb 62 #[.string lst.psn, .string lst.dev, .int .i64 lst.st, .int .i64 lst.at_, .int .i64 lst.un, .string lst.note] by rw [← hw8]; exact HL.out.alloc _)
                    have hz8 : w8.heap.size = zb + 1 := by rw [← hw8, ← hzb]; simp
                    have HW8 := Lib.hid hw8; have HZB := Lib.hid hzb
                    clear hw8 hzb
                    go_upto_region 27 with (fail)
                    rw [HW8.out]
                    (try rw [HZB.out])
                    clear HW8 HZB hz7 zr
                    cases G
                    · have hst : stP (prs l p) (ol, lst) a b = (ol, bc0) := by unfold stP; rw [HPR.out]; rfl
                      go_wp2_with (first
                        | (refine wpl_store_all Tryz.bcT rfl _ _ rfl _ rfl _ _ _ rfl HL.out rfl rfl (by simp [Value.oneCell']) ?_; intro wz hst; have HST := Lib.hid hst; clear hst)
                        | fail)
                      have HG9 := Lib.hid (gr_trans HG.out HST.out.2.1 (fun g e => .inr (by injection e with e; omega)))
                      have HE9 := Lib.hid (HE.out.kept HST.out.2.1 (fun g e e2 => by injection e with e; have := hEg g e2; omega))
                      have HO9 := Lib.hid (HO.out.kept HST.out.2.1 (fun g e e2 => by injection e with e; have := (HO.out.1.lt e2).1; omega))
                      go_roundw
                      case rel => exact ⟨k2 + 1, A2, m2, _, ol, bc0, by omega, by go_num, rfl, HG9.out, HE9.out, HST.out.1, HO9.out, by omega, by rw [HT.out, HTS.out, hst]⟩
                      case measure => simp [intOf]; omega
                    · have HLN := Lib.hid (show ol.length = m2 from HO.out.2)
                      have sm : IntKind.i64.wrap ((m2 : Int) - 1) = (m2 : Int) - 1 := IntWalk.i64_in _ (by omega)
                      by_cases hm0 : m2 = 0
                      · have d1 : decide ((0 : Int) ≤ (m2 : Int) - 1) = false := decide_eq_false (by omega)
                        have hol : ol = [] := List.eq_nil_of_length_eq_zero (HLN.out.trans hm0)
                        have hst : stP (prs l p) (ol, lst) a b = (ol ++ [bcAtUn z a b], z) := by unfold stP mgP; rw [HPR.out, hol]; rfl
                        have HEQ := Lib.hid (fun w' => bcEq_eql z lst w')
                        have n8 : ¬ (0 : Int) ≤ (m2 : Int) - 1 := by omega
                        have n9 : ¬ (1 : Int) ≤ (m2 : Int) := by omega
                        clear hm0 hol
                        go_upto_region 30 with (fail)
                        go_upto_region 32 with (first
                          | (refine wplg_load_all Tryz.bcT (by rfl) _ rfl _ rfl _ _ HB.out rfl ?_)
                          | (refine wplg_load_all Tryz.bcT (by rfl) _ rfl _ rfl _ _ HL.out rfl ?_)
                          | (refine wplg_eqs (by rfl) _ _ rfl _ _ rfl rfl bcEq_guard (HEQ.out _) ?_)
                          | fail)
                        go_upto_region 33 with (first
                          | (refine wpl_load_all Tryz.bcT rfl _ rfl _ rfl _ _ HB.out rfl ?_)
                          | (refine wpl_store_all Tryz.bcT rfl _ _ rfl _ rfl _ _ _ rfl HL.out rfl rfl (by simp [Value.oneCell']) ?_; intro wz hst; have HST := Lib.hid hst; clear hst)
                          | fail)
                        have HG9 := Lib.hid (gr_trans HG.out HST.out.2.1 (fun g e => .inr (by injection e with e; omega)))
                        have HE9 := Lib.hid (HE.out.kept HST.out.2.1 (fun g e e2 => by injection e with e; have := hEg g e2; omega))
                        have HO9 := Lib.hid (HO.out.kept HST.out.2.1 (fun g e e2 => by injection e with e; have := (HO.out.1.lt e2).1; omega))
                        have HB9 := Lib.hid (HB.out.grown HST.out.2.1 (fun e => by injection e with e; omega))
                        have HL9 := Lib.hid HST.out.1
                        have hz9 := HST.out.2.1.size
                        clear HG HE HO HB HL HST
                        refine H_begin (fun w' => wz.grownBy w' (some zb)) (by kernel_rfl) ?_
                        have hHeld : wz.grownBy wz.drew (some zb) := gr_drew (gr_refl _ _)
                        have HBd := Lib.hid (show Blk wz.drew zb 62 #[.string z.psn, .string z.dev, .int .i64 z.st, .int .i64 z.at_, .int .i64 z.un, .string z.note] from HB9.out)
                        generalize wz.drew = wd at hHeld HBd ⊢
                        refine H_take (k := 0) (v := ?_) (by rfl) (by kernel_rfl) (by kernel_rfl) (by kernel_rfl) (by exact fun _ _ _ h => h) (by rfl) ?_ (by assumption) ?_
                        rotate_left 1
                        · intro w hSw
                          (try dsimp only at hSw)
                          go_simp
                          (try with_reducible rfl)
                        (try simp only [Act.put, List.setIfInBounds_toArray, List.set_cons_zero, List.set_cons_succ])
                        refine H_take (k := 1) (v := ?_) (by rfl) (by kernel_rfl) (by kernel_rfl) (by kernel_rfl) (by exact fun _ _ _ h => h) (by rfl) ?_ (by assumption) ?_
                        rotate_left 1
                        · intro w hSw
                          (try dsimp only at hSw)
                          go_simp
                          (try with_reducible rfl)
                        (try simp only [Act.put, List.setIfInBounds_toArray, List.set_cons_zero, List.set_cons_succ])
                        refine H_take (k := 2) (v := ?_) (by rfl) (by kernel_rfl) (by kernel_rfl) (by kernel_rfl) (by exact fun _ _ _ h => h) (by rfl) ?_ (by assumption) ?_
                        rotate_left 1
                        · intro w hSw
                          (try dsimp only at hSw)
                          go_simp
                          (try with_reducible rfl)
                        (try simp only [Act.put, List.setIfInBounds_toArray, List.set_cons_zero, List.set_cons_succ])
                        refine H_take (k := 3) (v := ?_) (by rfl) (by kernel_rfl) (by kernel_rfl) (by kernel_rfl) (by exact fun _ _ _ h => h) (by rfl) ?_ (by assumption) ?_
                        rotate_left 1
                        · intro w' hSw
                          have kc := (HE9.out.kept hSw (fun g e e2 => by injection e with e; have := hEg g e2; omega)).recs.at_ nrow_len HA.out 0 _ rfl; simp only [Nat.mul_one, Nat.add_zero, Nat.zero_add] at kc
                          go_simp
                          (try with_reducible rfl)
                        (try simp only [Act.put, List.setIfInBounds_toArray, List.set_cons_zero, List.set_cons_succ])
                        refine H_take (k := 4) (v := ?_) (by rfl) (by kernel_rfl) (by kernel_rfl) (by kernel_rfl) (by exact fun _ _ _ h => h) (by rfl) ?_ (by assumption) ?_
                        rotate_left 1
                        · intro w hSw
                          (try dsimp only at hSw)
                          go_simp
                          (try with_reducible rfl)
                        (try simp only [Act.put, List.setIfInBounds_toArray, List.set_cons_zero, List.set_cons_succ])
                        refine H_take (k := 5) (v := ?_) (by rfl) (by kernel_rfl) (by kernel_rfl) (by kernel_rfl) (by exact fun _ _ _ h => h) (by rfl) ?_ (by assumption) ?_
                        rotate_left 1
                        · intro w hSw
                          (try dsimp only at hSw)
                          go_simp
                          (try with_reducible rfl)
                        (try simp only [Act.put, List.setIfInBounds_toArray, List.set_cons_zero, List.set_cons_succ])
                        refine H_take (k := 6) (v := ?_) (by rfl) (by kernel_rfl) (by kernel_rfl) (by kernel_rfl) (by exact fun _ _ _ h => h) (by rfl) ?_ (by assumption) ?_
                        rotate_left 1
                        · intro w hSw
                          (try dsimp only at hSw)
                          go_simp
                          (try with_reducible rfl)
                        (try simp only [Act.put, List.setIfInBounds_toArray, List.set_cons_zero, List.set_cons_succ])
                        refine H_take (k := 7) (v := ?_) (by rfl) (by kernel_rfl) (by kernel_rfl) (by kernel_rfl) (by exact fun _ _ _ h => h) (by rfl) ?_ (by assumption) ?_
                        rotate_left 1
                        · intro w hSw
                          (try dsimp only at hSw)
                          go_simp
                          (try with_reducible rfl)
                        (try simp only [Act.put, List.setIfInBounds_toArray, List.set_cons_zero, List.set_cons_succ])
                        refine H_take (k := 8) (v := ?_) (by rfl) (by kernel_rfl) (by kernel_rfl) (by kernel_rfl) (by exact fun _ _ _ h => h) (by rfl) ?_ (by assumption) ?_
                        rotate_left 1
                        · intro w' hSw
                          have kc := (HE9.out.kept hSw (fun g e e2 => by injection e with e; have := hEg g e2; omega)).recs.at_ nrow_len HBv.out 0 _ rfl; simp only [Nat.mul_one, Nat.add_zero, Nat.zero_add] at kc
                          go_simp
                          (try with_reducible rfl)
                        (try simp only [Act.put, List.setIfInBounds_toArray, List.set_cons_zero, List.set_cons_succ])
                        refine H_take (k := 9) (v := ?_) (by rfl) (by kernel_rfl) (by kernel_rfl) (by kernel_rfl) (by exact fun _ _ _ h => h) (by rfl) ?_ (by assumption) ?_
                        rotate_left 1
                        · intro w hSw
                          (try dsimp only at hSw)
                          go_simp
                          (try with_reducible rfl)
                        (try simp only [Act.put, List.setIfInBounds_toArray, List.set_cons_zero, List.set_cons_succ])
                        refine H_run (k := 10) (by rfl) (by kernel_rfl) (by rfl) (fun K hK => ?_)
                        refine wp_store_cell (by kernel_rfl) _ _ rfl zb 3 rfl (.int .i64 a) rfl rfl rfl _ (HBd.out.cell 3) (HBd.out.frozen 3) ?_
                        have HBe := Lib.hid (HBd.out.set_ 3 (.int .i64 a))
                        have hgy := gr_setCell (p := ⟨zb, 3, none⟩) hHeld (.inl rfl) (.int .i64 a)
                        refine hK _ _ hgy ?_
                        clear hK K hHeld
                        have hHeld := hgy
                        (try simp only [Act.put, List.setIfInBounds_toArray, List.set_cons_zero, List.set_cons_succ])
                        refine H_take (k := 11) (v := ?_) (by rfl) (by kernel_rfl) (by kernel_rfl) (by kernel_rfl) (by exact fun _ _ _ h => h) (by rfl) ?_ (by assumption) ?_
                        rotate_left 1
                        · intro w hSw
                          (try dsimp only at hSw)
                          go_simp
                          (try with_reducible rfl)
                        (try simp only [Act.put, List.setIfInBounds_toArray, List.set_cons_zero, List.set_cons_succ])
                        refine H_run (k := 12) (by rfl) (by kernel_rfl) (by rfl) (fun K hK => ?_)
                        refine wp_store_cell (by kernel_rfl) _ _ rfl zb 4 rfl (.int .i64 b) rfl rfl rfl _ (HBe.out.cell 4) (HBe.out.frozen 4) ?_
                        have hgx := gr_setCell (p := ⟨zb, 4, none⟩) hHeld (.inl rfl) (.int .i64 b)
                        refine hK _ _ hgx ?_
                        clear hK K hHeld
                        (try simp only [Act.put, List.setIfInBounds_toArray, List.set_cons_zero, List.set_cons_succ])
                        refine H_done (by kernel_rfl) ?_
                        obtain ⟨w10, hw10⟩ : ∃ v, (wd.setCell ⟨zb, 3, none⟩ (.int .i64 a)).setCell ⟨zb, 4, none⟩ (.int .i64 b) = v := ⟨_, rfl⟩
                        have hgz : wz.grownBy w10 (some zb) := by rw [← hw10]; exact hgx
                        clear hgx hgy
                        have HBf := Lib.hid (show Blk w10 zb 62 #[.string (bcAtUn z a b).psn, .string (bcAtUn z a b).dev, .int .i64 (bcAtUn z a b).st, .int .i64 (bcAtUn z a b).at_, .int .i64 (bcAtUn z a b).un, .string (bcAtUn z a b).note] by rw [← hw10]; exact HBe.out.set_ 4 (.int .i64 b))
                        rw [hw10]
                        replace HG9 := Lib.hid (gr_trans HG9.out hgz (fun g e => .inr (by injection e with e; omega)))
                        replace HE9 := Lib.hid (HE9.out.kept hgz (fun g e e2 => by injection e with e; have := hEg g e2; omega))
                        replace HO9 := Lib.hid (HO9.out.kept hgz (fun g e e2 => by injection e with e; have := HOz.out g e2; omega))
                        replace HL9 := Lib.hid (HL9.out.grown hgz (fun e => by injection e with e; omega))
                        have hz10 := hgz.size
                        clear hw10 hgz HBd HBe HB9
                        go_simp
                        go_wp2_with (first
                          | (refine wpl_load_all Tryz.bcT rfl _ rfl _ rfl _ _ HBf.out rfl ?_)
                          | (at_builtin
                             refine wpl_app _ rfl _ _ Tryz.bcsT rfl (lb + 1) A2 m2 c2 _ rfl (by exact HO9.out.1.alloc _) _ _ 1 1 [.string (bcAtUn z a b).psn, .string (bcAtUn z a b).dev, .int .i64 (bcAtUn z a b).st, .int .i64 (bcAtUn z a b).at_, .int .i64 (bcAtUn z a b).un, .string (bcAtUn z a b).note] rfl (by exact Reads.one _ _ _ _ rfl) (by simp [Value.oneCell']) (by unfold maxLen; omega) (by omega) (by simp; omega) ?_
                             intro A5 c5 w11 h5
                             have H5 := Lib.hid h5; clear h5)
                          | fail)
                        have HGa := Lib.hid (show w.grownBy w11 none from gr_own (lo := lb + 1) (gr_alloc HG9.out _) (HO9.out.1.alloc _) (by omega) H5.out.2.1)
                        have HEa := Lib.hid ((HE9.out.alloc _).kept H5.out.2.1 (fun g e e2 => by have := (HO9.out.1.lt e).1; have := hEg g e2; omega))
                        have HLa := Lib.hid ((HL9.out.alloc _).grown H5.out.2.1 (fun e => by have := (HO9.out.1.lt e.symm).1; omega))
                        go_roundw
                        case rel => exact ⟨k2 + 1, A5, m2 + 1, _, ol ++ [bcAtUn z a b], z, by omega, by go_num, rfl, HGa.out, HEa.out, HLa.out, (HO9.out.alloc _).app rfl H5.out, by omega, by rw [HT.out, HTS.out, hst]⟩
                        case measure => simp [intOf]; omega
                      · have d1 : decide ((0 : Int) ≤ (m2 : Int) - 1) = true := decide_eq_true (by omega)
                        have s8 : (0 : Int) ≤ (m2 : Int) - 1 := by omega
                        have s8b : (1 : Int) ≤ (m2 : Int) := by omega
                        have hol : ol ≠ [] := fun e => by rw [e] at HLN; exact hm0 HLN.out.symm
                        by_cases hzl : z = lst
                        · have hst : stP (prs l p) (ol, lst) a b = (lastU ol b, lst) := by unfold stP mgP; rw [HPR.out, decide_eq_true hol, decide_eq_true hzl]; rfl
                          have HEQ := Lib.hid (fun w' => (bcEq_eql z lst w').trans (by rw [decide_eq_true hzl]))
                          obtain ⟨og, rfl, hog, _⟩ := HO.out.1.pos (by omega)
                          obtain ⟨y, hy⟩ : ∃ y, ol[m2 - 1]? = some y := ⟨_, List.getElem?_eq_getElem (by rw [HLN.out]; omega)⟩
                          have HYY := Lib.hid hy
                          have co := HO.out.recs.at_ BcV.row_len hy 4 _ rfl
                          simp only [Nat.zero_add] at co
                          have cf := HO.out.1.frozen ((m2 - 1) * 6 + 4)
                          have HSET := Lib.hid (HO.out.set1 (j := 4) (u := .int .i64 b) (a' := { y with un := b }) BcV.row_len hy (by decide) rfl rfl)
                          have cb := HE.out.recs.at_ nrow_len HBv.out 0 _ rfl
                          simp only [Nat.mul_one, Nat.add_zero, Nat.zero_add] at cb
                          have hlu : lastU ol b = ol.set (m2 - 1) { y with un := b } := by unfold lastU; rw [HLN.out, hy]; rfl
                          have s9 : (m2 : Int) - 1 < (m2 : Int) := by omega
                          have s10 : ((m2 : Int) - 1).toNat = m2 - 1 := by omega
                          clear hy
                          go_wp2_with (first
                            | (refine wplg_load_all Tryz.bcT (by rfl) _ rfl _ rfl _ _ HB.out rfl ?_)
                            | (refine wplg_load_all Tryz.bcT (by rfl) _ rfl _ rfl _ _ HL.out rfl ?_)
                            | (refine wplg_eqs (by rfl) _ _ rfl _ _ rfl rfl bcEq_guard (HEQ.out _) ?_)
                            | (refine wpList_plain rfl (fun K hK => ?_); refine wp_store_cell (by kernel_rfl) _ _ rfl og ((m2 - 1) * 6 + 4) rfl (.int .i64 b) rfl rfl rfl _ co cf ?_; refine hK _ _ ?_; clear hK K)
                            | fail)
                          have hgs : w8.grownBy (w8.setCell ⟨og, (m2 - 1) * 6 + 4, none⟩ (.int .i64 b)) (some og) := gr_setCell (gr_refl _ _) (.inl rfl) _
                          go_roundw
                          case rel => exact ⟨k2 + 1, some ⟨og, 0, none⟩, m2, _, lastU ol b, lst, by omega, by go_num, rfl, gr_setCell HG.out (.inr (by simp; omega)) _, HE.out.kept hgs (fun g e e2 => by injection e with e; have := hEg g e2; omega), HL.out.grown hgs (fun e => by injection e with e; omega), by rw [hlu]; exact HSET.out, by omega, by rw [HT.out, HTS.out, hst]⟩
                          case measure => simp [intOf]; omega
                        · have hst : stP (prs l p) (ol, lst) a b = (ol ++ [bcAtUn z a b], z) := by unfold stP mgP; rw [HPR.out, decide_eq_false hzl, Bool.and_false]; rfl
                          have HEQ := Lib.hid (fun w' => (bcEq_eql z lst w').trans (by rw [decide_eq_false hzl]))
                          go_upto_region 30 with (fail)
                          go_upto_region 32 with (first
                            | (refine wplg_load_all Tryz.bcT (by rfl) _ rfl _ rfl _ _ HB.out rfl ?_)
                            | (refine wplg_load_all Tryz.bcT (by rfl) _ rfl _ rfl _ _ HL.out rfl ?_)
                            | (refine wplg_eqs (by rfl) _ _ rfl _ _ rfl rfl bcEq_guard (HEQ.out _) ?_)
                            | fail)
                          go_upto_region 33 with (first
                            | (refine wpl_load_all Tryz.bcT rfl _ rfl _ rfl _ _ HB.out rfl ?_)
                            | (refine wpl_store_all Tryz.bcT rfl _ _ rfl _ rfl _ _ _ rfl HL.out rfl rfl (by simp [Value.oneCell']) ?_; intro wz hst; have HST := Lib.hid hst; clear hst)
                            | fail)
                          have HG9 := Lib.hid (gr_trans HG.out HST.out.2.1 (fun g e => .inr (by injection e with e; omega)))
                          have HE9 := Lib.hid (HE.out.kept HST.out.2.1 (fun g e e2 => by injection e with e; have := hEg g e2; omega))
                          have HO9 := Lib.hid (HO.out.kept HST.out.2.1 (fun g e e2 => by injection e with e; have := (HO.out.1.lt e2).1; omega))
                          have HB9 := Lib.hid (HB.out.grown HST.out.2.1 (fun e => by injection e with e; omega))
                          have HL9 := Lib.hid HST.out.1
                          have hz9 := HST.out.2.1.size
                          clear HG HE HO HB HL HST
                          refine H_begin (fun w' => wz.grownBy w' (some zb)) (by kernel_rfl) ?_
                          have hHeld : wz.grownBy wz.drew (some zb) := gr_drew (gr_refl _ _)
                          have HBd := Lib.hid (show Blk wz.drew zb 62 #[.string z.psn, .string z.dev, .int .i64 z.st, .int .i64 z.at_, .int .i64 z.un, .string z.note] from HB9.out)
                          generalize wz.drew = wd at hHeld HBd ⊢
                          refine H_take (k := 0) (v := ?_) (by rfl) (by kernel_rfl) (by kernel_rfl) (by kernel_rfl) (by exact fun _ _ _ h => h) (by rfl) ?_ (by assumption) ?_
                          rotate_left 1
                          · intro w hSw
                            (try dsimp only at hSw)
                            go_simp
                            (try with_reducible rfl)
                          (try simp only [Act.put, List.setIfInBounds_toArray, List.set_cons_zero, List.set_cons_succ])
                          refine H_take (k := 1) (v := ?_) (by rfl) (by kernel_rfl) (by kernel_rfl) (by kernel_rfl) (by exact fun _ _ _ h => h) (by rfl) ?_ (by assumption) ?_
                          rotate_left 1
                          · intro w hSw
                            (try dsimp only at hSw)
                            go_simp
                            (try with_reducible rfl)
                          (try simp only [Act.put, List.setIfInBounds_toArray, List.set_cons_zero, List.set_cons_succ])
                          refine H_take (k := 2) (v := ?_) (by rfl) (by kernel_rfl) (by kernel_rfl) (by kernel_rfl) (by exact fun _ _ _ h => h) (by rfl) ?_ (by assumption) ?_
                          rotate_left 1
                          · intro w hSw
                            (try dsimp only at hSw)
                            go_simp
                            (try with_reducible rfl)
                          (try simp only [Act.put, List.setIfInBounds_toArray, List.set_cons_zero, List.set_cons_succ])
                          refine H_take (k := 3) (v := ?_) (by rfl) (by kernel_rfl) (by kernel_rfl) (by kernel_rfl) (by exact fun _ _ _ h => h) (by rfl) ?_ (by assumption) ?_
                          rotate_left 1
                          · intro w' hSw
                            have kc := (HE9.out.kept hSw (fun g e e2 => by injection e with e; have := hEg g e2; omega)).recs.at_ nrow_len HA.out 0 _ rfl; simp only [Nat.mul_one, Nat.add_zero, Nat.zero_add] at kc
                            go_simp
                            (try with_reducible rfl)
                          (try simp only [Act.put, List.setIfInBounds_toArray, List.set_cons_zero, List.set_cons_succ])
                          refine H_take (k := 4) (v := ?_) (by rfl) (by kernel_rfl) (by kernel_rfl) (by kernel_rfl) (by exact fun _ _ _ h => h) (by rfl) ?_ (by assumption) ?_
                          rotate_left 1
                          · intro w hSw
                            (try dsimp only at hSw)
                            go_simp
                            (try with_reducible rfl)
                          (try simp only [Act.put, List.setIfInBounds_toArray, List.set_cons_zero, List.set_cons_succ])
                          refine H_take (k := 5) (v := ?_) (by rfl) (by kernel_rfl) (by kernel_rfl) (by kernel_rfl) (by exact fun _ _ _ h => h) (by rfl) ?_ (by assumption) ?_
                          rotate_left 1
                          · intro w hSw
                            (try dsimp only at hSw)
                            go_simp
                            (try with_reducible rfl)
                          (try simp only [Act.put, List.setIfInBounds_toArray, List.set_cons_zero, List.set_cons_succ])
                          refine H_take (k := 6) (v := ?_) (by rfl) (by kernel_rfl) (by kernel_rfl) (by kernel_rfl) (by exact fun _ _ _ h => h) (by rfl) ?_ (by assumption) ?_
                          rotate_left 1
                          · intro w hSw
                            (try dsimp only at hSw)
                            go_simp
                            (try with_reducible rfl)
                          (try simp only [Act.put, List.setIfInBounds_toArray, List.set_cons_zero, List.set_cons_succ])
                          refine H_take (k := 7) (v := ?_) (by rfl) (by kernel_rfl) (by kernel_rfl) (by kernel_rfl) (by exact fun _ _ _ h => h) (by rfl) ?_ (by assumption) ?_
                          rotate_left 1
                          · intro w hSw
                            (try dsimp only at hSw)
                            go_simp
                            (try with_reducible rfl)
                          (try simp only [Act.put, List.setIfInBounds_toArray, List.set_cons_zero, List.set_cons_succ])
                          refine H_take (k := 8) (v := ?_) (by rfl) (by kernel_rfl) (by kernel_rfl) (by kernel_rfl) (by exact fun _ _ _ h => h) (by rfl) ?_ (by assumption) ?_
                          rotate_left 1
                          · intro w' hSw
                            have kc := (HE9.out.kept hSw (fun g e e2 => by injection e with e; have := hEg g e2; omega)).recs.at_ nrow_len HBv.out 0 _ rfl; simp only [Nat.mul_one, Nat.add_zero, Nat.zero_add] at kc
                            go_simp
                            (try with_reducible rfl)
                          (try simp only [Act.put, List.setIfInBounds_toArray, List.set_cons_zero, List.set_cons_succ])
                          refine H_take (k := 9) (v := ?_) (by rfl) (by kernel_rfl) (by kernel_rfl) (by kernel_rfl) (by exact fun _ _ _ h => h) (by rfl) ?_ (by assumption) ?_
                          rotate_left 1
                          · intro w hSw
                            (try dsimp only at hSw)
                            go_simp
                            (try with_reducible rfl)
                          (try simp only [Act.put, List.setIfInBounds_toArray, List.set_cons_zero, List.set_cons_succ])
                          refine H_run (k := 10) (by rfl) (by kernel_rfl) (by rfl) (fun K hK => ?_)
                          refine wp_store_cell (by kernel_rfl) _ _ rfl zb 3 rfl (.int .i64 a) rfl rfl rfl _ (HBd.out.cell 3) (HBd.out.frozen 3) ?_
                          have HBe := Lib.hid (HBd.out.set_ 3 (.int .i64 a))
                          have hgy := gr_setCell (p := ⟨zb, 3, none⟩) hHeld (.inl rfl) (.int .i64 a)
                          refine hK _ _ hgy ?_
                          clear hK K hHeld
                          have hHeld := hgy
                          (try simp only [Act.put, List.setIfInBounds_toArray, List.set_cons_zero, List.set_cons_succ])
                          refine H_take (k := 11) (v := ?_) (by rfl) (by kernel_rfl) (by kernel_rfl) (by kernel_rfl) (by exact fun _ _ _ h => h) (by rfl) ?_ (by assumption) ?_
                          rotate_left 1
                          · intro w hSw
                            (try dsimp only at hSw)
                            go_simp
                            (try with_reducible rfl)
                          (try simp only [Act.put, List.setIfInBounds_toArray, List.set_cons_zero, List.set_cons_succ])
                          refine H_run (k := 12) (by rfl) (by kernel_rfl) (by rfl) (fun K hK => ?_)
                          refine wp_store_cell (by kernel_rfl) _ _ rfl zb 4 rfl (.int .i64 b) rfl rfl rfl _ (HBe.out.cell 4) (HBe.out.frozen 4) ?_
                          have hgx := gr_setCell (p := ⟨zb, 4, none⟩) hHeld (.inl rfl) (.int .i64 b)
                          refine hK _ _ hgx ?_
                          clear hK K hHeld
                          (try simp only [Act.put, List.setIfInBounds_toArray, List.set_cons_zero, List.set_cons_succ])
                          refine H_done (by kernel_rfl) ?_
                          obtain ⟨w10, hw10⟩ : ∃ v, (wd.setCell ⟨zb, 3, none⟩ (.int .i64 a)).setCell ⟨zb, 4, none⟩ (.int .i64 b) = v := ⟨_, rfl⟩
                          have hgz : wz.grownBy w10 (some zb) := by rw [← hw10]; exact hgx
                          clear hgx hgy
                          have HBf := Lib.hid (show Blk w10 zb 62 #[.string (bcAtUn z a b).psn, .string (bcAtUn z a b).dev, .int .i64 (bcAtUn z a b).st, .int .i64 (bcAtUn z a b).at_, .int .i64 (bcAtUn z a b).un, .string (bcAtUn z a b).note] by rw [← hw10]; exact HBe.out.set_ 4 (.int .i64 b))
                          rw [hw10]
                          replace HG9 := Lib.hid (gr_trans HG9.out hgz (fun g e => .inr (by injection e with e; omega)))
                          replace HE9 := Lib.hid (HE9.out.kept hgz (fun g e e2 => by injection e with e; have := hEg g e2; omega))
                          replace HO9 := Lib.hid (HO9.out.kept hgz (fun g e e2 => by injection e with e; have := HOz.out g e2; omega))
                          replace HL9 := Lib.hid (HL9.out.grown hgz (fun e => by injection e with e; omega))
                          have hz10 := hgz.size
                          clear hw10 hgz HBd HBe HB9
                          go_simp
                          go_wp2_with (first
                            | (refine wpl_load_all Tryz.bcT rfl _ rfl _ rfl _ _ HBf.out rfl ?_)
                            | (at_builtin
                               refine wpl_app _ rfl _ _ Tryz.bcsT rfl (lb + 1) A2 m2 c2 _ rfl (by exact HO9.out.1.alloc _) _ _ 1 1 [.string (bcAtUn z a b).psn, .string (bcAtUn z a b).dev, .int .i64 (bcAtUn z a b).st, .int .i64 (bcAtUn z a b).at_, .int .i64 (bcAtUn z a b).un, .string (bcAtUn z a b).note] rfl (by exact Reads.one _ _ _ _ rfl) (by simp [Value.oneCell']) (by unfold maxLen; omega) (by omega) (by simp; omega) ?_
                               intro A5 c5 w11 h5
                               have H5 := Lib.hid h5; clear h5)
                            | fail)
                          have HGa := Lib.hid (show w.grownBy w11 none from gr_own (lo := lb + 1) (gr_alloc HG9.out _) (HO9.out.1.alloc _) (by omega) H5.out.2.1)
                          have HEa := Lib.hid ((HE9.out.alloc _).kept H5.out.2.1 (fun g e e2 => by have := (HO9.out.1.lt e).1; have := hEg g e2; omega))
                          have HLa := Lib.hid ((HL9.out.alloc _).grown H5.out.2.1 (fun e => by have := (HO9.out.1.lt e.symm).1; omega))
                          go_roundw
                          case rel => exact ⟨k2 + 1, A5, m2 + 1, _, ol ++ [bcAtUn z a b], z, by omega, by go_num, rfl, HGa.out, HEa.out, HLa.out, (HO9.out.alloc _).app rfl H5.out, by omega, by rw [HT.out, HTS.out, hst]⟩
                          case measure => simp [intOf]; omega
                  · have s2 : decide ((k2 : Int) + 1 < (EL.length : Int)) = false := decide_eq_false (by omega)
                    have HFIN := Lib.hid (show thL l p fr til = ol by rw [HT.out, thr_short _ _ (by rw [List.length_drop]; omega)])
                    go_wp2_with fail
                    go_ret2
                    exact ⟨A2, m2, c2, by rw [HOK.out]; try rfl, by rw [HFIN.out]; exact HO.out.recs.lower (by omega), by omega, HG.out⟩
          · have HF := Lib.hid (show thE l p fr til = 1 by rw [HTE.out]; rfl)
            have HF2 := Lib.hid (show thL l p fr til = [] by unfold thL; rw [HF.out]; exact if_neg (by first | decide | exact h0))
            go_wp2_with fail
            go_ret2
            exact ⟨none, 0, 0, by rw [HF.out]; try rfl, by rw [HF2.out]; exact (OwnR.nil _ _ 62).recs, by omega, HG.out⟩
        · have HF := Lib.hid (show thE l p fr til = 1 by rw [HTE.out]; rfl)
          have HF2 := Lib.hid (show thL l p fr til = [] by unfold thL; rw [HF.out]; exact if_neg (by first | decide | exact h0))
          go_wp2_with fail
          go_ret2
          exact ⟨none, 0, 0, by rw [HF.out]; try rfl, by rw [HF2.out]; exact (OwnR.nil _ _ 62).recs, by omega, HG.out⟩
      · have HF := Lib.hid (show thE l p fr til = 1 by rw [HTE.out]; rfl)
        have HF2 := Lib.hid (show thL l p fr til = [] by unfold thL; rw [HF.out]; exact if_neg (by first | decide | exact h0))
        go_wp2_with fail
        go_ret2
        exact ⟨none, 0, 0, by rw [HF.out]; try rfl, by rw [HF2.out]; exact (OwnR.nil _ _ 62).recs, by omega, HG.out⟩
  · have hd : (E != 0) = true := by simpa using h0
    have HF := Lib.hid (show thE l p fr til = E by unfold thE; rw [hE, if_neg h0])
    have HF2 := Lib.hid (show thL l p fr til = [] by unfold thL; rw [HF.out]; exact if_neg (by first | decide | exact h0))
    go_wp2_with fail
    go_ret2
    exact ⟨none, 0, 0, by rw [HF.out]; try rfl, by rw [HF2.out]; exact (OwnR.nil _ _ 62).recs, by omega, HG.out⟩
end Go.Proofs.YtgogiljplnninaaGreatDoor

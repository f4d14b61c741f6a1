/- Contracts of voice.Reach and of the document's ReachOf. Conditions: beacons whose notes are of small bytes; at most 100 short names; the tables of unicode/utf8 and bytealg.MaxLen as laid. -/
import Derived.Test.YtgogiljplnninaaGreatDoorKn1
import Derived.Test.YtgogiljplnninaaGreatDoorPr2
import Derived.Test.YtgogiljplnninaaGreatDoorBun1
namespace Go.Proofs.YtgogiljplnninaaGreatDoor
open Go.RowKit

def rcE (l : List BcV) (ps : List ByteArray) (t : Int) : Int := if bcsE l = 0 then (if ps.all (fun s => keyOk (nb s)) then (if momB t then 0 else 1) else 5) else bcsE l
noncomputable def rcV (l : List BcV) (ps : List ByteArray) (t : Int) : ByteArray × Bool := if rcE l ps t = 0 then ((ps.find? (isRch l t)).elim (⟨#[]⟩, false) fun s => (s, true)) else (⟨#[]⟩, false)
section
variable {l : List BcV} {ps : List ByteArray} {t : Int} {s : ByteArray} {k : Nat}
theorem rcV_no (h : rcE l ps t ≠ 0) : rcV l ps t = (⟨#[]⟩, false) := if_neg h
theorem rcV_hit (h : rcE l ps t = 0) (h2 : ps.find? (isRch l t) = some s) : rcV l ps t = (s, true) := by unfold rcV; rw [if_pos h, h2]; rfl
theorem rcV_none (h : rcE l ps t = 0) (h2 : ps.find? (isRch l t) = none) : rcV l ps t = (⟨#[]⟩, false) := by unfold rcV; rw [if_pos h, h2]; rfl
theorem rcE_key (h : bcsE l = 0) (hs : s ∈ ps) (hk : keyOk (nb s) = false) : rcE l ps t = 5 := by
  unfold rcE
  rw [if_pos h, if_neg]
  intro h2
  have := List.all_eq_true.1 h2 s hs
  rw [hk] at this
  cases this
theorem find_some' {p : ByteArray → Bool} (h : ps[k]? = some s) (h1 : (ps.take k).find? p = none) (h2 : p s = true) : ps.find? p = some s := by
  obtain ⟨hl, e⟩ := List.getElem?_eq_some_iff.1 h
  have e2 : ps = ps.take k ++ s :: ps.drop (k + 1) := by
    rw [← e, ← List.drop_eq_getElem_cons hl, List.take_append_drop]
  rw [e2, List.find?_append, h1, List.find?_cons_of_pos h2]
  rfl
end
set_option maxHeartbeats 16000000 in
set_option maxRecDepth 100000 in
theorem reach_any (lo lo' : Nat) (A A' : Option Addr) (n c m c' : Nat) (l : List BcV) (ps : List ByteArray) (t : Int) (w : World) (h : Bcs w lo A n c l) (hp : Recs srow 1 w lo' A' m c' ps) (hn : n ≤ 1000000) (hm1 : m ≤ 100) (hps : ∀ s ∈ ps, s.size ≤ 1000) (hu : U8T w) (hm : MxT w) :
    Calls Tryz.prog 43 #[.slice A n c, .slice A' m c', .int .i64 t] w (RetV (.tuple #[.string (rcV l ps t).1, .bool (rcV l ps t).2, .int .i64 (rcE l ps t)]) w) := by
  have H := Lib.hid h; have HP := Lib.hid hp; have HU := Lib.hid hu; have HMX := Lib.hid hm; have HPS := Lib.hid hps; clear h hu hm hp hps
  go_enter Tryz.func43, Tryz.ntmps43
  go_wp2_with fail
  refine (checkBeacons_any lo A n c l _ H.out (by omega) HU.out HMX.out).mono ?_
  rintro e w1 ⟨rfl, hg1⟩
  have HG := Lib.hid hg1
  clear hg1
  obtain ⟨E, hE⟩ : ∃ E, bcsE l = E := ⟨_, rfl⟩
  rw [hE]
  have HE0 := Lib.hid hE
  clear hE
  by_cases h0 : E = 0
  rotate_left 1
  · have HF := Lib.hid (show rcE l ps t = E from (by unfold rcE; rw [HE0.out]; exact if_neg h0))
    go_wp2_with fail
    go_ret3
    exact ⟨by rw [HF.out, rcV_no (by rw [HF.out]; first | decide | exact h0)]; rfl, HG.out⟩
  subst h0
  have d9 : decide ((500 : Int) < (m : Int)) = false := decide_eq_false (by omega)
  have d9' : decide (500 < m) = false := decide_eq_false (by omega)
  go_wp2_with fail
  clear d9 d9'
  go_loopw [11, 26] (fun _ x wr => ∃ k : Nat, k ≤ m ∧ x = .int .i64 k ∧ w.grownBy wr none ∧ (ps.take k).all (fun s => keyOk (nb s)) = true) (fun _ x _ => m - (intOf x).toNat)
  case atStart => exact ⟨0, Nat.zero_le _, rfl, HG.out, by simp⟩
  case round =>
    clear HG
    obtain ⟨k, hk, rfl, hg, hall⟩ := hrel
    have HG := Lib.hid hg; have HALL := Lib.hid hall; clear hg hall
    by_cases hlt : k < m
    · obtain ⟨g, o, s, rfl, _, _, hx, hc⟩ := (HP.out.grown HG.out (fun g e => by cases e)).get srow_len hlt
      have hc0 := hc 0 _ rfl
      simp only [Nat.mul_one, Nat.add_zero] at hc0
      have HX := Lib.hid hx
      clear hx hc
      go_wp2_with fail
      refine (isKey_any s _ (by have := HPS.out s (mem_of_get HX.out); omega)).mono ?_
      rintro e w2 ⟨rfl, hg2⟩
      replace HG := Lib.hid (gr_none HG.out hg2)
      clear hg2 hc0
      obtain ⟨KY, hKY⟩ : ∃ V, keyOk (nb s) = V := ⟨_, rfl⟩
      have HKY := Lib.hid hKY
      rw [hKY]
      clear hKY
      cases KY
      · have HF := Lib.hid (show rcE l ps t = 5 from rcE_key HE0.out (mem_of_get HX.out) HKY.out)
        go_wp2_with fail
        go_ret3
        exact ⟨by rw [HF.out, rcV_no (by rw [HF.out]; first | decide | exact h0)]; rfl, HG.out⟩
      · go_wp2_with fail
        go_roundw
        case rel => exact ⟨k + 1, by omega, by go_num, HG.out, by rw [take_snoc' HX.out, List.all_append, HALL.out]; simp [HKY.out]⟩
        case measure => simp [intOf]; omega
    · obtain rfl : k = m := by omega
      obtain ⟨m, rfl⟩ : ∃ m : Nat, m = k := ⟨_, rfl⟩
      have hall := HALL.out
      rw [List.take_of_length_le (by rw [HP.out.len]; exact Nat.le_refl _)] at hall
      replace HALL := Lib.hid hall
      clear hall
      obtain ⟨VM, hVM⟩ : ∃ V, momB t = V := ⟨_, rfl⟩
      have HVM := Lib.hid hVM
      clear hVM
      go_wp2_with fail
      refine (isMomB_any t _).mono ?_
      rintro e wv ⟨rfl, rfl⟩
      rw [HVM.out]
      cases VM
      · have HF := Lib.hid (show rcE l ps t = 1 from (by unfold rcE; rw [if_pos HE0.out, if_pos HALL.out, HVM.out]; rfl))
        go_wp2_with fail
        go_ret3
        exact ⟨by rw [HF.out, rcV_no (by rw [HF.out]; first | decide | exact h0)]; rfl, HG.out⟩
      · have HF := Lib.hid (show rcE l ps t = 0 by unfold rcE; rw [if_pos HE0.out, if_pos HALL.out, HVM.out]; rfl)
        go_wp2_with fail
        go_loopw [13, 14, 15, 39] (fun _ _ _ x wr => ∃ k : Nat, k ≤ m ∧ x = .int .i64 k ∧ w.grownBy wr none ∧ (ps.take k).find? (isRch l t) = none) (fun _ _ _ x _ => m - (intOf x).toNat)
        case atStart => exact ⟨0, Nat.zero_le _, rfl, HG.out, by simp⟩
        case round =>
          clear HG
          obtain ⟨k, hk, rfl, hg, hfn⟩ := hrel
          have HG := Lib.hid hg; have HFN := Lib.hid hfn; clear hg hfn
          by_cases hlt : k < m
          · obtain ⟨g, o, s, rfl, _, _, hx, hc⟩ := (HP.out.grown HG.out (fun g e => by cases e)).get srow_len hlt
            have hc0 := hc 0 _ rfl
            simp only [Nat.mul_one, Nat.add_zero] at hc0
            have HX := Lib.hid hx
            clear hx hc
            go_wp2_with fail
            refine (says_any lo A n c l s t _ (H.out.1.grown HG.out (fun g e => by cases e)) (by omega) (bAsc_of (bcs_all HE0.out).2.2)).mono ?_
            rintro e w4 ⟨rfl, hg4⟩
            replace HG := Lib.hid (gr_none HG.out hg4)
            clear hg4 hc0
            obtain ⟨F, B, hB⟩ : ∃ F B, prs l s t = (F, B) := ⟨_, _, rfl⟩
            rw [hB]
            have HRC := Lib.hid (show isRch l t s = (F && decide (B.st = 1)) by unfold isRch; rw [hB])
            dsimp only
            clear hB
            obtain ⟨w5, hw5⟩ : ∃ v, w4.alloc (.cells #[.string B.psn, .string B.dev, .int .i64 B.st, .int .i64 B.at_, .int .i64 B.un, .string B.note] 62) = v := ⟨_, rfl⟩
            have HB := Lib.hid (show Blk w5 w4.heap.size 62 #[.string B.psn, .string B.dev, .int .i64 B.st, .int .i64 B.at_, .int .i64 B.un, .string B.note] by rw [← hw5]; exact Blk.new _ _ _)
            replace HG := Lib.hid (show w.grownBy w5 none by rw [← hw5]; exact gr_alloc HG.out _)
            have k2 := HB.out.cell 2
            go_upto_region 18 with (fail)
            (try rw [hw5])
            clear hw5
            cases F
            · go_wp2_with fail
              go_roundw
              case rel => exact ⟨k + 1, by omega, by go_num, HG.out, by rw [take_snoc' HX.out, List.find?_append, HFN.out, List.find?_singleton, HRC.out]; rfl⟩
              case measure => simp [intOf]; omega
            · by_cases hst : B.st = 1
              · have d1 : (B.st == 1) = true := by rw [hst]; rfl
                have HV := Lib.hid (show ps.find? (isRch l t) = some s from find_some' HX.out HFN.out (by rw [HRC.out, decide_eq_true hst]; rfl))
                clear hst
                go_wp2_with fail
                go_ret3
                exact ⟨by rw [HF.out, rcV_hit HF.out HV.out]; rfl, HG.out⟩
              · have d1 : (B.st == 1) = false := beq_eq_false_iff_ne.2 hst
                have HRC2 := Lib.hid (show isRch l t s = false by rw [HRC.out, decide_eq_false hst]; rfl)
                clear hst
                go_wp2_with fail
                go_roundw
                case rel => exact ⟨k + 1, by omega, by go_num, HG.out, by rw [take_snoc' HX.out, List.find?_append, HFN.out, List.find?_singleton, HRC2.out]; rfl⟩
                case measure => simp [intOf]; omega
          · obtain rfl : k = m := by omega
            have HV := Lib.hid (show ps.find? (isRch l t) = none by
              have h := HFN.out
              rwa [List.take_of_length_le (by rw [HP.out.len]; exact Nat.le_refl _)] at h)
            go_wp2_with fail
            go_ret3
            exact ⟨by rw [HF.out, rcV_none HF.out HV.out]; rfl, HG.out⟩
set_option maxHeartbeats 16000000 in
set_option maxRecDepth 100000 in
theorem reachOf_any (lo lo' : Nat) (A A' : Option Addr) (n c m c' : Nat) (l : List BcV) (ps : List ByteArray) (t : Int) (w : World) (h : Bcs w lo A n c l) (hp : Recs srow 1 w lo' A' m c' ps) (hn : n ≤ 1000000) (hm1 : m ≤ 100) (hf : rcE l ps t = 0) (hl : BAsc l) :
    Calls Tryz.prog 44 #[.slice A n c, .slice A' m c', .int .i64 t] w (RetV (.tuple #[.string (rcV l ps t).1, .bool (rcV l ps t).2]) w) := by
  have H := Lib.hid h; have HP := Lib.hid hp; have HF := Lib.hid hf; have HL := Lib.hid hl; clear h hp hf hl
  go_enter Tryz.func44, Tryz.ntmps44
  go_wp2_with fail
  go_loopw [9, 10, 11, 14] (fun _ _ _ x wr => ∃ k : Nat, k ≤ m ∧ x = .int .i64 k ∧ w.grownBy wr none ∧ (ps.take k).find? (isRch l t) = none) (fun _ _ _ x _ => m - (intOf x).toNat)
  case atStart => exact ⟨0, Nat.zero_le _, rfl, gr_refl _ _, by simp⟩
  case round =>
    obtain ⟨k, hk, rfl, hg, hfn⟩ := hrel
    have HG := Lib.hid hg; have HFN := Lib.hid hfn; clear hg hfn
    by_cases hlt : k < m
    · obtain ⟨g, o, s, rfl, _, _, hx, hc⟩ := (HP.out.grown HG.out (fun g e => by cases e)).get srow_len hlt
      have hc0 := hc 0 _ rfl
      simp only [Nat.mul_one, Nat.add_zero] at hc0
      have HX := Lib.hid hx
      clear hx hc
      go_wp2_with fail
      refine (presenceOf_any lo A n c l s t _ ⟨H.out.1.grown HG.out (fun g e => by cases e), H.out.2⟩ (by omega) HL.out).mono ?_
      rintro e w4 ⟨rfl, hg4⟩
      replace HG := Lib.hid (gr_none HG.out hg4)
      clear hg4 hc0
      obtain ⟨F, B, hB⟩ : ∃ F B, prs l s t = (F, B) := ⟨_, _, rfl⟩
      rw [hB]
      have HRC := Lib.hid (show isRch l t s = (F && decide (B.st = 1)) by unfold isRch; rw [hB])
      dsimp only
      clear hB
      obtain ⟨w5, hw5⟩ : ∃ v, w4.alloc (.cells #[.string B.psn, .string B.dev, .int .i64 B.st, .int .i64 B.at_, .int .i64 B.un, .string B.note] 62) = v := ⟨_, rfl⟩
      have HB := Lib.hid (show Blk w5 w4.heap.size 62 #[.string B.psn, .string B.dev, .int .i64 B.st, .int .i64 B.at_, .int .i64 B.un, .string B.note] by rw [← hw5]; exact Blk.new _ _ _)
      replace HG := Lib.hid (show w.grownBy w5 none by rw [← hw5]; exact gr_alloc HG.out _)
      have k2 := HB.out.cell 2
      go_upto_region 5 with (fail)
      (try rw [hw5])
      clear hw5
      cases F
      · go_wp2_with fail
        go_roundw
        case rel => exact ⟨k + 1, by omega, by go_num, HG.out, by rw [take_snoc' HX.out, List.find?_append, HFN.out, List.find?_singleton, HRC.out]; rfl⟩
        case measure => simp [intOf]; omega
      · by_cases hst : B.st = 1
        · have d1 : (B.st == 1) = true := by rw [hst]; rfl
          have HV := Lib.hid (show ps.find? (isRch l t) = some s from find_some' HX.out HFN.out (by rw [HRC.out, decide_eq_true hst]; rfl))
          clear hst
          go_wp2_with fail
          go_ret2
          exact ⟨by rw [rcV_hit HF.out HV.out]; rfl, HG.out⟩
        · have d1 : (B.st == 1) = false := beq_eq_false_iff_ne.2 hst
          have HRC2 := Lib.hid (show isRch l t s = false by rw [HRC.out, decide_eq_false hst]; rfl)
          clear hst
          go_wp2_with fail
          go_roundw
          case rel => exact ⟨k + 1, by omega, by go_num, HG.out, by rw [take_snoc' HX.out, List.find?_append, HFN.out, List.find?_singleton, HRC2.out]; rfl⟩
          case measure => simp [intOf]; omega
    · obtain rfl : k = m := by omega
      have HV := Lib.hid (show ps.find? (isRch l t) = none by
        have h := HFN.out
        rwa [List.take_of_length_le (by rw [HP.out.len]; exact Nat.le_refl _)] at h)
      go_wp2_with fail
      go_ret2
      exact ⟨by rw [rcV_none HF.out HV.out]; rfl, HG.out⟩
end Go.Proofs.YtgogiljplnninaaGreatDoor

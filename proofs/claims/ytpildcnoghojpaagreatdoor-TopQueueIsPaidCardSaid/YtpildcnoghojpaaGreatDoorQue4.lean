/- Contracts of level, Able, present, Present and of the document's AbleOf, PresentOf; when, momentFault. Conditions: none. -/
import Derived.Test.YtpildcnoghojpaaGreatDoorQue2
import Derived.Test.YtpildcnoghojpaaGreatDoorQue3
namespace Go.Proofs.YtpildcnoghojpaaGreatDoor
open Go.RowKit

theorem blk_new (w : World) (t : TypeId) (cs : Array Value) {g : Nat} (hg : w.heap.size = g) : Blk (w.alloc (.cells cs t)) g t cs := by subst hg; exact Blk.new _ _ _

set_option maxHeartbeats 2000000 in
theorem level_any (lo : Nat) (a : AgV) (s : ByteArray) (w : World) (h : AgOk w lo a) :
    Calls Tryz.prog 108 #[.agg #[.string a.key, .slice a.sA a.sn a.sc, .int .i64 a.fr, .int .i64 a.til, .slice a.pA a.pn a.pc, .int .i64 a.wrap], .string s] w (RetV (.int .i64 (lvl a.sk s)) w) := by
  obtain ⟨key, sA, sn, sc, fr, til, pA, pn, pc, wrap, sk, ps⟩ := a
  obtain ⟨⟨b1, b2, b3, b4⟩, hs, hp⟩ := h
  dsimp only at b1 b2 b3 b4 hs hp ⊢
  have HSK := Lib.hid hs
  clear hs hp b1 b2
  go_enter Tryz.func108, Tryz.ntmps108
  go_wp2_with fail
  go_loopw [6, 10] (fun _ t wr => ∃ i : Nat, i ≤ sn ∧ t = .int .i64 i ∧ w.grownBy wr none ∧ lvl sk s = lvl (sk.drop i) s) (fun _ t _ => sn - (intOf t).toNat)
  case atStart => exact ⟨0, Nat.zero_le _, rfl, gr_alloc (gr_refl _ _) _, rfl⟩
  case round =>
    obtain ⟨i, hi, rfl, hg, ha⟩ := hrel
    have HA := Lib.hid ha; have HG := Lib.hid hg; clear ha hg
    by_cases hlt : i < sn
    · obtain ⟨g, o, ⟨nm, lv⟩, rfl, _, hgl, hz, hc⟩ := (HSK.out.grown HG.out (fun g e => by cases e)).get skRow_len hlt
      have HC := Lib.hid hc; clear hc
      have HL := Lib.hid (show lvl sk s = if nb nm == nb s then lv else lvl (sk.drop (i + 1)) s by rw [HA.out, lvl_drop hz])
      clear hz
      rw [← eqS_nb] at HL
      cases h7 : nm.toList == s.toList
      · rw [h7] at HL
        have HN := Lib.hid (show lvl sk s = lvl (sk.drop (i + 1)) s from HL.out)
        go_wp2_with (first
          | (refine wpl_load_at Tryz.skT rfl _ rfl _ rfl [.string nm, .int .i64 lv] rfl (fun j u hu => by rw [add_mk]; exact HC.out j u hu) ?_)
          | fail)
        go_roundw
        case rel => exact ⟨i + 1, by omega, by go_num, gr_alloc HG.out _, HN.out⟩
        case measure => simp [intOf]; omega
      · rw [h7] at HL
        have HN := Lib.hid (show lvl sk s = lv from HL.out)
        go_wp2_with (first
          | (refine wpl_load_at Tryz.skT rfl _ rfl _ rfl [.string nm, .int .i64 lv] rfl (fun j u hu => by rw [add_mk]; exact HC.out j u hu) ?_)
          | fail)
        go_ret
        exact ⟨by rw [HN.out]; rfl, gr_alloc HG.out _⟩
    · obtain rfl : i = sn := by omega
      have HN := Lib.hid (show lvl sk s = 0 by rw [HA.out, List.drop_eq_nil_of_le (by rw [HSK.out.len]; exact Nat.le_refl _)]; rfl)
      go_wp2_with fail
      go_ret
      exact ⟨by rw [HN.out]; rfl, HG.out⟩
set_option maxHeartbeats 1000000 in
theorem presFn_any (t : Int) (p : Int × Int) (tb : Nat) (w : World) (hb : Blk w tb 3 #[.int .i64 t]) : Calls Tryz.prog 81 #[.agg #[.int .i64 p.1, .int .i64 p.2], .pointer (some ⟨tb, 0, none⟩)] w (RetV (.bool (inWin t p)) w) := by
  obtain ⟨pf, pt⟩ := p
  have hlt := hb.lt
  have kc := (hb.alloc (.cells #[.int .i64 pf, .int .i64 pt] 77)).cell 0
  have HB := Lib.hid hb; clear hb
  have HV := Lib.hid (show inWin t (pf, pt) = (decide (pf ≤ t) && decide (t < pt)) from rfl)
  dsimp only
  cases c1 : decide (pf ≤ t) <;> cases c2 : decide (t < pt)
  all_goals
    go_enter Tryz.func81, Tryz.ntmps81
    go_wp2_with fail
    go_ret
    exact ⟨by rw [HV.out, c1, c2]; rfl, gr_alloc (gr_refl _ _) _⟩
set_option maxHeartbeats 2000000 in
theorem presIdx_any (lo : Nat) (A : Option Addr) (n c : Nat) (l : List (Int × Int)) (t : Int) (tb : Nat) (w : World) (h : Recs pwRow 2 w lo A n c l) (hn : n ≤ 1000000000000) (hb : Blk w tb 3 #[.int .i64 t]) :
    Calls Tryz.prog 96 #[.slice A n c, .func (.func 81) #[] #[.pointer (some ⟨tb, 0, none⟩)]] w (RetV (.int .i64 (idxP (inWin t) l)) w) := by
  have H := Lib.hid h; have HB := Lib.hid hb; clear h hb
  go_enter Tryz.func96, Tryz.ntmps96
  go_wp2_with fail
  go_loopw [5, 8] (fun _ t' wr => ∃ i : Nat, i ≤ n ∧ t' = .int .i64 i ∧ w.grownBy wr none ∧ (l.take i).all (fun x => !(inWin t x)) = true) (fun _ t' _ => n - (intOf t').toNat)
  case atStart => exact ⟨0, Nat.zero_le _, rfl, gr_refl _ _, by simp⟩
  case round =>
    obtain ⟨i, hi, rfl, hg, ha⟩ := hrel
    have HA := Lib.hid ha; have HG := Lib.hid hg; clear ha hg
    by_cases hlt : i < n
    · obtain ⟨g, o, ⟨pf, pt⟩, rfl, _, hgl, hz, hc⟩ := (H.out.grown HG.out (fun g e => by cases e)).get pwRow_len hlt
      have HZ := Lib.hid hz; have HC := Lib.hid hc; clear hz hc
      obtain ⟨B, hB⟩ : ∃ B, inWin t (pf, pt) = B := ⟨_, rfl⟩
      have HE := Lib.hid hB; clear hB
      cases B
      all_goals
        go_wp2_with (first
          | (refine wpl_load_at Tryz.winT rfl _ rfl _ rfl [.int .i64 pf, .int .i64 pt] rfl (fun j u hu => by rw [add_mk]; exact HC.out j u hu) ?_)
          | (go_at_call 81; refine (presFn_any t (pf, pt) tb _ (HB.out.grown HG.out (by simp))).mono ?_; rintro e w2 ⟨rfl, hg2⟩; rw [HE.out]; have HG2 := Lib.hid (gr_none HG.out hg2); clear hg2)
          | fail)
      · go_roundw
        case rel => exact ⟨i + 1, by omega, by go_num, HG2.out, allP_succ HA.out HZ.out HE.out⟩
        case measure => simp [intOf]; omega
      · go_ret
        exact ⟨by rw [idxP_some (p := inWin t) HA.out HZ.out HE.out]; rfl, HG2.out⟩
    · obtain rfl : i = n := by omega
      go_wp2_with fail
      go_ret
      have h := HA.out
      rw [List.take_of_length_le (by rw [H.out.len]; exact Nat.le_refl _)] at h
      exact ⟨by rw [idxP_none (p := inWin t) h]; rfl, HG.out⟩
set_option maxHeartbeats 1000000 in
theorem presHas_any (lo : Nat) (A : Option Addr) (n c : Nat) (l : List (Int × Int)) (t : Int) (tb : Nat) (w : World) (h : Recs pwRow 2 w lo A n c l) (hn : n ≤ 1000000000000) (hb : Blk w tb 3 #[.int .i64 t]) :
    Calls Tryz.prog 82 #[.slice A n c, .func (.func 81) #[] #[.pointer (some ⟨tb, 0, none⟩)]] w (RetV (.bool (l.any (inWin t))) w) := by
  have H := Lib.hid h; have HB := Lib.hid hb; clear h hb
  have HI := Lib.hid (idxP_any (p := inWin t) (l := l))
  obtain ⟨I, hI⟩ : ∃ I, idxP (inWin t) l = I := ⟨_, rfl⟩
  rw [hI] at HI
  have HI2 := Lib.hid hI; clear hI
  go_enter Tryz.func82, Tryz.ntmps82
  go_wp2_with (first
    | (go_at_call 96; refine (presIdx_any lo _ _ _ l t tb _ H.out hn HB.out).mono ?_; rintro e w2 ⟨rfl, hg2⟩; rw [HI2.out]; have HG2 := Lib.hid hg2; clear hg2)
    | fail)
  go_ret
  exact ⟨by rw [← HI.out]; rfl, HG2.out⟩
set_option maxHeartbeats 2000000 in
theorem present_any (lo : Nat) (a : AgV) (t : Int) (w : World) (h : AgOk w lo a) : Calls Tryz.prog 54 #[.agg #[.string a.key, .slice a.sA a.sn a.sc, .int .i64 a.fr, .int .i64 a.til, .slice a.pA a.pn a.pc, .int .i64 a.wrap], .int .i64 t] w (RetV (.bool (presB a t)) w) := by
  obtain ⟨key, sA, sn, sc, fr, til, pA, pn, pc, wrap, sk, ps⟩ := a
  obtain ⟨⟨b1, b2, b3, b4⟩, hs, hp⟩ := h
  have HV := Lib.hid (show presB ⟨key, sA, sn, sc, fr, til, pA, pn, pc, wrap, sk, ps⟩ t = (inWin t (fr, til) && !(ps.any (inWin t))) from rfl)
  dsimp only at b1 b2 b3 b4 hs hp ⊢
  have HP := Lib.hid hp
  clear hs hp b1 b2 b3
  have HB0 := Lib.hid ((Blk.new w 81 #[.string key, .slice sA sn sc, .int .i64 fr, .int .i64 til, .slice pA pn pc, .int .i64 wrap]).alloc (.cells #[.int .i64 t] 3))
  have HB1 := Lib.hid (blk_new (w.alloc (.cells #[.string key, .slice sA sn sc, .int .i64 fr, .int .i64 til, .slice pA pn pc, .int .i64 wrap] 81)) 3 #[.int .i64 t] (g := w.heap.size + 1) (by simp))
  have HG := Lib.hid (gr_alloc (gr_alloc (gr_refl w none) (.cells #[.string key, .slice sA sn sc, .int .i64 fr, .int .i64 til, .slice pA pn pc, .int .i64 wrap] 81)) (.cells #[.int .i64 t] 3))
  have q2 := HB0.out.cell 2
  have q3 := HB0.out.cell 3
  obtain ⟨B, hB⟩ : ∃ B, inWin t (fr, til) = B := ⟨_, rfl⟩
  obtain ⟨D, hD⟩ : ∃ D, ps.any (inWin t) = D := ⟨_, rfl⟩
  rw [hB, hD] at HV
  have HE := Lib.hid hB; have HD := Lib.hid hD; clear hB hD
  cases B
  all_goals
    go_enter Tryz.func54, Tryz.ntmps54
    go_wp2_with (first
      | (go_at_call 81; refine (presFn_any t (fr, til) (w.heap.size + 1) _ HB1.out).mono ?_; rintro e w2 ⟨rfl, hg2⟩; rw [HE.out]; have kw4 := (HB0.out.grown hg2 (by simp)).cell 4; have HBT := Lib.hid (HB1.out.grown hg2 (by simp)); have HG2 := Lib.hid (gr_none HG.out hg2); clear hg2)
      | (go_at_call 82; refine (presHas_any lo _ _ _ ps t (w.heap.size + 1) _ (HP.out.grown HG2.out (fun g e => by cases e)) (by omega) HBT.out).mono ?_; rintro e w3 ⟨rfl, hg3⟩; rw [HD.out]; have HG3 := Lib.hid (gr_none HG2.out hg3); clear hg3)
      | fail)
    go_ret
    exact ⟨by rw [HV.out]; rfl, by first | exact HG3.out | exact HG2.out | fail⟩
/-! One agent, one caller, laid out for a check. -/
theorem AgOk.lower {w : World} {lo lo' : Nat} {a : AgV} (h : AgOk w lo a) (hl : lo' ≤ lo) : AgOk w lo' a := ⟨h.1, h.2.1.lower hl, h.2.2.lower hl⟩
theorem ags_one {w : World} {lo g : Nat} (a : AgV) (h : AgOk w lo a) (hg : w.heap.size = g) : Ags (w.alloc (.cells #[.string a.key, .slice a.sA a.sn a.sc, .int .i64 a.fr, .int .i64 a.til, .slice a.pA a.pn a.pc, .int .i64 a.wrap] 81)) 0 (some ⟨g, 0, none⟩) 1 1 [a] := by
  subst hg
  refine ⟨⟨?_, rfl⟩, fun b hb => ?_⟩
  · have := Reads.one w 81 a.row 6 rfl
    simpa [AgV.row] using this.lower (Nat.zero_le _)
  · rw [List.mem_singleton.1 hb]; exact (h.lower (Nat.zero_le _)).grown (gr_alloc (gr_refl _ none) _) (fun g e => by cases e)
def presR (a : AgV) (t : Int) : Value := if agsE [a] = 0 then (if momB t then .tuple #[.bool (presB a t), .int .i64 0] else .tuple #[.bool false, .int .i64 1]) else .tuple #[.bool false, .int .i64 (agsE [a])]
set_option maxHeartbeats 2000000 in
theorem Present_any (lo : Nat) (a : AgV) (t : Int) (w : World) (h : AgOk w lo a) : Calls Tryz.prog 26 #[.agg #[.string a.key, .slice a.sA a.sn a.sc, .int .i64 a.fr, .int .i64 a.til, .slice a.pA a.pn a.pc, .int .i64 a.wrap], .int .i64 t] w (RetV (presR a t) w) := by
  have H := Lib.hid h; clear h
  have HB0 := Lib.hid (Blk.new w 81 #[.string a.key, .slice a.sA a.sn a.sc, .int .i64 a.fr, .int .i64 a.til, .slice a.pA a.pn a.pc, .int .i64 a.wrap])
  have HG0 := Lib.hid (gr_alloc (gr_refl w none) (.cells #[.string a.key, .slice a.sA a.sn a.sc, .int .i64 a.fr, .int .i64 a.til, .slice a.pA a.pn a.pc, .int .i64 a.wrap] 81))
  obtain ⟨E, hE⟩ : ∃ E, agsE [a] = E := ⟨_, rfl⟩
  have HV := Lib.hid (show presR a t = if E = 0 then (if momB t then .tuple #[.bool (presB a t), .int .i64 0] else .tuple #[.bool false, .int .i64 1]) else .tuple #[.bool false, .int .i64 E] by unfold presR; rw [hE])
  have HE := Lib.hid hE; clear hE
  go_enter Tryz.func26, Tryz.ntmps26
  go_wp2_with (first
    | (refine wpl_load_all Tryz.agT rfl _ rfl _ rfl _ _ HB0.out rfl ?_)
    | fail)
  refine (checkAgents_any 0 _ 1 1 [a] _ (ags_one a (H.out.grown HG0.out (fun g e => by cases e)) (by simp)) (by omega)).mono ?_
  rintro e w2 ⟨rfl, hg2⟩
  rw [HE.out]
  have HB2 := Lib.hid ((HB0.out.alloc _).grown hg2 (by simp))
  have HG2 := Lib.hid (gr_none (gr_alloc HG0.out _) hg2)
  clear hg2
  by_cases h9 : E = 0
  · have h9' : (E != 0) = false := by simpa using h9
    rw [if_pos h9] at HV
    clear h9
    cases hm : momB t
    · rw [hm] at HV
      go_wp2_with (first
        | (go_at_call 53; refine (isMomB_any _ _).mono ?_; rintro e w' ⟨rfl, rfl⟩; rw [hm])
        | fail)
      go_ret2
      exact ⟨by rw [HV.out]; rfl, HG2.out⟩
    · rw [hm] at HV
      go_wp2_with (first
        | (go_at_call 53; refine (isMomB_any _ _).mono ?_; rintro e w' ⟨rfl, rfl⟩; rw [hm])
        | (refine wpl_load_all Tryz.agT rfl _ rfl _ rfl _ _ HB2.out rfl ?_)
        | (go_at_call 54; refine (present_any lo a t _ (H.out.grown HG2.out (fun g e => by cases e))).mono ?_; rintro e w3 ⟨rfl, hg3⟩; have HG3 := Lib.hid (gr_none HG2.out hg3); clear hg3)
        | fail)
      go_ret2
      exact ⟨by rw [HV.out]; rfl, HG3.out⟩
  · have h9' : (E != 0) = true := by simpa using h9
    rw [if_neg h9] at HV
    clear h9
    go_wp2_with fail
    go_ret2
    exact ⟨by rw [HV.out]; rfl, HG2.out⟩
end Go.Proofs.YtpildcnoghojpaaGreatDoor

/- Contracts of Able, AbleOf; queued is true. Conditions: none. -/
import Derived.Test.YtddabpcdjgmooaaDoorQue4
namespace Go.Proofs.YtddabpcdjgmooaaDoor
open Go.RowKit

set_option maxHeartbeats 4000000 in
theorem ableOf_any (lo : Nat) (a : AgV) (x : CaV) (w : World) (h : AgOk w lo a) : Calls Tryd.prog 21 #[.agg #[.string a.key, .slice a.sA a.sn a.sc, .int .i64 a.fr, .int .i64 a.til, .slice a.pA a.pn a.pc, .int .i64 a.wrap], .agg #[.string x.id, .string x.skill, .int .i64 x.at_, .int .i64 x.least, .int .i64 x.prio, .int .i64 x.pat, .int .i64 x.talk, .bool x.back]] w (RetV (.bool (ableB a x)) w) := by
  obtain ⟨L, hL⟩ : ∃ L, lvl a.sk x.skill = L := ⟨_, rfl⟩
  have HV := Lib.hid (show ableB a x = decide (x.least ≤ L) by unfold ableB; rw [hL])
  have HLV := Lib.hid hL; clear hL
  have HG0 := Lib.hid (gr_alloc (gr_alloc (gr_refl w none) (.cells #[.string a.key, .slice a.sA a.sn a.sc, .int .i64 a.fr, .int .i64 a.til, .slice a.pA a.pn a.pc, .int .i64 a.wrap] 43)) (.cells #[.string x.id, .string x.skill, .int .i64 x.at_, .int .i64 x.least, .int .i64 x.prio, .int .i64 x.pat, .int .i64 x.talk, .bool x.back] 50))
  have HBA := Lib.hid ((Blk.new w 43 #[.string a.key, .slice a.sA a.sn a.sc, .int .i64 a.fr, .int .i64 a.til, .slice a.pA a.pn a.pc, .int .i64 a.wrap]).alloc (.cells #[.string x.id, .string x.skill, .int .i64 x.at_, .int .i64 x.least, .int .i64 x.prio, .int .i64 x.pat, .int .i64 x.talk, .bool x.back] 50))
  have HBC := Lib.hid (blk_new (w.alloc (.cells #[.string a.key, .slice a.sA a.sn a.sc, .int .i64 a.fr, .int .i64 a.til, .slice a.pA a.pn a.pc, .int .i64 a.wrap] 43)) 50 #[.string x.id, .string x.skill, .int .i64 x.at_, .int .i64 x.least, .int .i64 x.prio, .int .i64 x.pat, .int .i64 x.talk, .bool x.back] (g := w.heap.size + 1) (by simp))
  have HOK := Lib.hid (h.grown HG0.out (fun g e => by cases e)); clear h
  go_enter Tryd.func21, Tryd.ntmps21
  go_wp2_with fail
  generalize (w.alloc (.cells #[.string a.key, .slice a.sA a.sn a.sc, .int .i64 a.fr, .int .i64 a.til, .slice a.pA a.pn a.pc, .int .i64 a.wrap] 43)).alloc (.cells #[.string x.id, .string x.skill, .int .i64 x.at_, .int .i64 x.least, .int .i64 x.prio, .int .i64 x.pat, .int .i64 x.talk, .bool x.back] 50) = w1 at *
  go_region_held3 (fun w' => (w'.cell? ⟨w.heap.size, 0, none⟩ = some (.string a.key) ∧ w'.cell? ⟨w.heap.size, 1, none⟩ = some (.slice a.sA a.sn a.sc) ∧ w'.cell? ⟨w.heap.size, 2, none⟩ = some (.int .i64 a.fr) ∧ w'.cell? ⟨w.heap.size, 3, none⟩ = some (.int .i64 a.til) ∧ w'.cell? ⟨w.heap.size, 4, none⟩ = some (.slice a.pA a.pn a.pc) ∧ w'.cell? ⟨w.heap.size, 5, none⟩ = some (.int .i64 a.wrap) ∧ w'.cell? ⟨w.heap.size + 1, 1, none⟩ = some (.string x.skill) ∧ w'.cell? ⟨w.heap.size + 1, 3, none⟩ = some (.int .i64 x.least)) ∧ w1.grownBy w' none)
      ((suffices hg : w1.grownBy _ none from ⟨⟨(HBA.out.grown hg (by simp)).cell 0, (HBA.out.grown hg (by simp)).cell 1, (HBA.out.grown hg (by simp)).cell 2, (HBA.out.grown hg (by simp)).cell 3, (HBA.out.grown hg (by simp)).cell 4, (HBA.out.grown hg (by simp)).cell 5, (HBC.out.grown hg (by simp)).cell 1, (HBC.out.grown hg (by simp)).cell 3⟩, hg⟩
        repeat (first | (with_reducible exact HG9.out) | (with_reducible refine gr_drew ?_) | (with_reducible exact gr_refl _ _))))
      (first
        | (go_at_call 73
           have hS' : w1.grownBy _ none := (by rename_i hS _ _; exact hS.2)
           refine (levelOf_any lo a x.skill _ (HOK.out.grown hS' (fun g e => by cases e))).mono ?_
           rintro e w9 ⟨rfl, hg9⟩
           have HG9 := Lib.hid (gr_none hS' hg9)
           rw [HLV.out]
           clear hS' hg9)
        | fail)
  go_wp2_with fail
  go_ret
  exact ⟨by rw [HV.out]; rfl, gr_none HG0.out HG9.out⟩
def ableR (a : AgV) (x : CaV) : Value := if agsE [a] = 0 then (if casE [x] = 0 then .tuple #[.bool (ableB a x), .int .i64 0] else .tuple #[.bool false, .int .i64 (casE [x])]) else .tuple #[.bool false, .int .i64 (agsE [a])]
set_option maxHeartbeats 4000000 in
theorem able_any (lo : Nat) (a : AgV) (x : CaV) (w : World) (h : AgOk w lo a) (hx : CaOk x) : Calls Tryd.prog 20 #[.agg #[.string a.key, .slice a.sA a.sn a.sc, .int .i64 a.fr, .int .i64 a.til, .slice a.pA a.pn a.pc, .int .i64 a.wrap], .agg #[.string x.id, .string x.skill, .int .i64 x.at_, .int .i64 x.least, .int .i64 x.prio, .int .i64 x.pat, .int .i64 x.talk, .bool x.back]] w (RetV (ableR a x) w) := by
  obtain ⟨L, hL⟩ : ∃ L, lvl a.sk x.skill = L := ⟨_, rfl⟩
  obtain ⟨E, hE⟩ : ∃ E, agsE [a] = E := ⟨_, rfl⟩
  obtain ⟨F, hF⟩ : ∃ F, casE [x] = F := ⟨_, rfl⟩
  have HV := Lib.hid (show ableR a x = if E = 0 then (if F = 0 then .tuple #[.bool (decide (x.least ≤ L)), .int .i64 0] else .tuple #[.bool false, .int .i64 F]) else .tuple #[.bool false, .int .i64 E] by unfold ableR ableB; rw [hE, hF, hL])
  have HLV := Lib.hid hL; have HE := Lib.hid hE; have HF := Lib.hid hF; clear hL hE hF
  have HG0 := Lib.hid (gr_alloc (gr_alloc (gr_refl w none) (.cells #[.string a.key, .slice a.sA a.sn a.sc, .int .i64 a.fr, .int .i64 a.til, .slice a.pA a.pn a.pc, .int .i64 a.wrap] 43)) (.cells #[.string x.id, .string x.skill, .int .i64 x.at_, .int .i64 x.least, .int .i64 x.prio, .int .i64 x.pat, .int .i64 x.talk, .bool x.back] 50))
  have HBA := Lib.hid ((Blk.new w 43 #[.string a.key, .slice a.sA a.sn a.sc, .int .i64 a.fr, .int .i64 a.til, .slice a.pA a.pn a.pc, .int .i64 a.wrap]).alloc (.cells #[.string x.id, .string x.skill, .int .i64 x.at_, .int .i64 x.least, .int .i64 x.prio, .int .i64 x.pat, .int .i64 x.talk, .bool x.back] 50))
  have HBC := Lib.hid (blk_new (w.alloc (.cells #[.string a.key, .slice a.sA a.sn a.sc, .int .i64 a.fr, .int .i64 a.til, .slice a.pA a.pn a.pc, .int .i64 a.wrap] 43)) 50 #[.string x.id, .string x.skill, .int .i64 x.at_, .int .i64 x.least, .int .i64 x.prio, .int .i64 x.pat, .int .i64 x.talk, .bool x.back] (g := w.heap.size + 1) (by simp))
  have HOK := Lib.hid (h.grown HG0.out (fun g e => by cases e)); clear h
  go_enter Tryd.func20, Tryd.ntmps20
  go_wp2_with (first
    | (refine wpl_load_all Tryd.agT rfl _ rfl _ rfl _ _ HBA.out rfl ?_)
    | fail)
  refine (checkAgents_any 0 _ 1 1 [a] _ (ags_one a HOK.out (by simp)) (by omega)).mono ?_
  rintro e w2 ⟨rfl, hg2⟩
  rw [HE.out]
  replace HBA := Lib.hid ((HBA.out.alloc _).grown hg2 (by simp))
  replace HBC := Lib.hid ((HBC.out.alloc _).grown hg2 (by simp))
  replace HOK := Lib.hid ((HOK.out.grown (gr_alloc (gr_refl _ none) _) (fun g e => by cases e)).grown hg2 (fun g e => by cases e))
  replace HG0 := Lib.hid (gr_none (gr_alloc HG0.out _) hg2)
  clear hg2
  by_cases h9 : E = 0
  · have h9' : (E != 0) = false := by simpa using h9
    rw [if_pos h9] at HV
    clear h9
    go_wp2_with (first
      | (refine wpl_load_all Tryd.caT rfl _ rfl _ rfl _ _ HBC.out rfl ?_)
      | fail)
    refine (checkCallers_any 0 _ 1 1 [x] _ (cas_one x hx (by simp)) (by omega)).mono ?_
    rintro e w3 ⟨rfl, hg3⟩
    rw [HF.out]
    replace HBA := Lib.hid ((HBA.out.alloc _).grown hg3 (by simp))
    replace HBC := Lib.hid ((HBC.out.alloc _).grown hg3 (by simp))
    replace HOK := Lib.hid ((HOK.out.grown (gr_alloc (gr_refl _ none) _) (fun g e => by cases e)).grown hg3 (fun g e => by cases e))
    replace HG0 := Lib.hid (gr_none (gr_alloc HG0.out _) hg3)
    clear hg3
    by_cases h8 : F = 0
    · have h8' : (F != 0) = false := by simpa using h8
      rw [if_pos h8] at HV
      clear h8
      go_wp2_with fail
      go_region_held3 (fun w' => (w'.cell? ⟨w.heap.size, 0, none⟩ = some (.string a.key) ∧ w'.cell? ⟨w.heap.size, 1, none⟩ = some (.slice a.sA a.sn a.sc) ∧ w'.cell? ⟨w.heap.size, 2, none⟩ = some (.int .i64 a.fr) ∧ w'.cell? ⟨w.heap.size, 3, none⟩ = some (.int .i64 a.til) ∧ w'.cell? ⟨w.heap.size, 4, none⟩ = some (.slice a.pA a.pn a.pc) ∧ w'.cell? ⟨w.heap.size, 5, none⟩ = some (.int .i64 a.wrap) ∧ w'.cell? ⟨w.heap.size + 1, 1, none⟩ = some (.string x.skill) ∧ w'.cell? ⟨w.heap.size + 1, 3, none⟩ = some (.int .i64 x.least)) ∧ w3.grownBy w' none)
      ((suffices hg : w3.grownBy _ none from ⟨⟨(HBA.out.grown hg (by simp)).cell 0, (HBA.out.grown hg (by simp)).cell 1, (HBA.out.grown hg (by simp)).cell 2, (HBA.out.grown hg (by simp)).cell 3, (HBA.out.grown hg (by simp)).cell 4, (HBA.out.grown hg (by simp)).cell 5, (HBC.out.grown hg (by simp)).cell 1, (HBC.out.grown hg (by simp)).cell 3⟩, hg⟩
        repeat (first | (with_reducible exact HG9.out) | (with_reducible refine gr_drew ?_) | (with_reducible exact gr_refl _ _))))
      (first
        | (go_at_call 72
           have hS' : w3.grownBy _ none := (by rename_i hS _ _; exact hS.2)
           refine (level_any lo a x.skill _ (HOK.out.grown hS' (fun g e => by cases e))).mono ?_
           rintro e w9 ⟨rfl, hg9⟩
           have HG9 := Lib.hid (gr_none hS' hg9)
           rw [HLV.out]
           clear hS' hg9)
        | fail)
      go_wp2_with fail
      go_ret2
      exact ⟨by rw [HV.out]; rfl, gr_none HG0.out HG9.out⟩
    · have h8' : (F != 0) = true := by simpa using h8
      rw [if_neg h8] at HV
      clear h8
      go_wp2_with fail
      go_ret2
      exact ⟨by rw [HV.out]; rfl, HG0.out⟩
  · have h9' : (E != 0) = true := by simpa using h9
    rw [if_neg h9] at HV
    clear h9
    go_wp2_with fail
    go_ret2
    exact ⟨by rw [HV.out]; rfl, HG0.out⟩
def agQ : AgV := ⟨⟨#[97]⟩, none, 0, 0, 0, 5, none, 0, 0, 0, [], []⟩
theorem presR_Q : presR agQ 4 = .tuple #[.bool true, .int .i64 0] := by
  have h1 : agsE [agQ] = 0 := by decide +kernel
  have h2 : momB 4 = true := by decide
  have h3 : presB agQ 4 = true := by decide
  unfold presR
  rw [h1, h2, h3]; rfl
set_option maxHeartbeats 2000000 in
theorem queued_true (w : World) : Calls Tryd.prog 22 #[] w (RetV (.bool true) w) := by
  have HOK := Lib.hid (show AgOk w 0 agQ from ⟨⟨by decide, (fun s hs => by cases hs), by decide, by decide⟩, Recs.nil, Recs.nil⟩)
  go_enter Tryd.func22, Tryd.ntmps22
  go_wp2_with fail
  refine (Present_any 0 agQ 4 _ HOK.out).mono ?_
  rintro e w2 ⟨rfl, hg2⟩
  rw [presR_Q]
  have HG2 := Lib.hid hg2; clear hg2
  go_wp2_with fail
  go_ret
  exact ⟨rfl, HG2.out⟩
end Go.Proofs.YtddabpcdjgmooaaDoor

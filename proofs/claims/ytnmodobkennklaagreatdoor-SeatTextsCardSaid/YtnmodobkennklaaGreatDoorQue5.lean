/- Contracts of Able, AbleOf; queued is true. Conditions: none. -/
import Derived.Test.YtnmodobkennklaaGreatDoorQue4
namespace Go.Proofs.YtnmodobkennklaaGreatDoor
open Go.RowKit

set_option maxHeartbeats 4000000 in
theorem ableOf_any (lo : Nat) (a : AgV) (x : CaV) (w : World) (h : AgOk w lo a) : Calls Tryz.prog 193 #[.agg #[.string a.key, .slice a.sA a.sn a.sc, .int .i64 a.fr, .int .i64 a.til, .slice a.pA a.pn a.pc, .int .i64 a.wrap], .agg #[.string x.id, .string x.skill, .int .i64 x.at_, .int .i64 x.least, .int .i64 x.prio, .int .i64 x.pat, .int .i64 x.talk, .bool x.back]] w (RetV (.bool (ableB a x)) w) := by
  obtain ⟨L, hL⟩ : ∃ L, lvl a.sk x.skill = L := ⟨_, rfl⟩
  have HV := Lib.hid (show ableB a x = decide (x.least ≤ L) by unfold ableB; rw [hL])
  have HLV := Lib.hid hL; clear hL
  have HG0 := Lib.hid (gr_alloc (gr_alloc (gr_refl w none) (.cells #[.string a.key, .slice a.sA a.sn a.sc, .int .i64 a.fr, .int .i64 a.til, .slice a.pA a.pn a.pc, .int .i64 a.wrap] 43)) (.cells #[.string x.id, .string x.skill, .int .i64 x.at_, .int .i64 x.least, .int .i64 x.prio, .int .i64 x.pat, .int .i64 x.talk, .bool x.back] 49))
  have HBA := Lib.hid ((Blk.new w 43 #[.string a.key, .slice a.sA a.sn a.sc, .int .i64 a.fr, .int .i64 a.til, .slice a.pA a.pn a.pc, .int .i64 a.wrap]).alloc (.cells #[.string x.id, .string x.skill, .int .i64 x.at_, .int .i64 x.least, .int .i64 x.prio, .int .i64 x.pat, .int .i64 x.talk, .bool x.back] 49))
  have HBC := Lib.hid (blk_new (w.alloc (.cells #[.string a.key, .slice a.sA a.sn a.sc, .int .i64 a.fr, .int .i64 a.til, .slice a.pA a.pn a.pc, .int .i64 a.wrap] 43)) 49 #[.string x.id, .string x.skill, .int .i64 x.at_, .int .i64 x.least, .int .i64 x.prio, .int .i64 x.pat, .int .i64 x.talk, .bool x.back] (g := w.heap.size + 1) (by simp))
  have HOK := Lib.hid (h.grown HG0.out (fun g e => by cases e)); clear h
  go_enter Tryz.func193, Tryz.ntmps193
  go_wp2_with fail
  generalize (w.alloc (.cells #[.string a.key, .slice a.sA a.sn a.sc, .int .i64 a.fr, .int .i64 a.til, .slice a.pA a.pn a.pc, .int .i64 a.wrap] 43)).alloc (.cells #[.string x.id, .string x.skill, .int .i64 x.at_, .int .i64 x.least, .int .i64 x.prio, .int .i64 x.pat, .int .i64 x.talk, .bool x.back] 49) = w1 at *
  go_region_held3 (fun w' => (w'.cell? ⟨w.heap.size, 0, none⟩ = some (.string a.key) ∧ w'.cell? ⟨w.heap.size, 1, none⟩ = some (.slice a.sA a.sn a.sc) ∧ w'.cell? ⟨w.heap.size, 2, none⟩ = some (.int .i64 a.fr) ∧ w'.cell? ⟨w.heap.size, 3, none⟩ = some (.int .i64 a.til) ∧ w'.cell? ⟨w.heap.size, 4, none⟩ = some (.slice a.pA a.pn a.pc) ∧ w'.cell? ⟨w.heap.size, 5, none⟩ = some (.int .i64 a.wrap) ∧ w'.cell? ⟨w.heap.size + 1, 1, none⟩ = some (.string x.skill) ∧ w'.cell? ⟨w.heap.size + 1, 3, none⟩ = some (.int .i64 x.least)) ∧ w1.grownBy w' none)
      ((suffices hg : w1.grownBy _ none from ⟨⟨(HBA.out.grown hg (by simp)).cell 0, (HBA.out.grown hg (by simp)).cell 1, (HBA.out.grown hg (by simp)).cell 2, (HBA.out.grown hg (by simp)).cell 3, (HBA.out.grown hg (by simp)).cell 4, (HBA.out.grown hg (by simp)).cell 5, (HBC.out.grown hg (by simp)).cell 1, (HBC.out.grown hg (by simp)).cell 3⟩, hg⟩
        repeat (first | (with_reducible exact HG9.out) | (with_reducible refine gr_drew ?_) | (with_reducible exact gr_refl _ _))))
      (first
        | (go_at_call 195
           have hS' : w1.grownBy _ none := (by rename_i hS _ _; exact hS.2)
           refine (levelOf_any lo a x.skill _ (HOK.out.grown hS' (fun g e => by cases e))).mono ?_
           rintro e w9 ⟨rfl, hg9⟩
           have HG9 := Lib.hid (gr_none hS' hg9)
           rw [HLV.out]
           clear hS' hg9)
        | fail)
  go_wp2_with fail
  go_ret
  exact ⟨by rw [HV.out]; rfl, gr_none HG0.out HG9.out⟩
def agQ : AgV := ⟨⟨#[97]⟩, none, 0, 0, 0, 5, none, 0, 0, 0, [], []⟩
theorem presR_Q : presR agQ 4 = .tuple #[.bool true, .int .i64 0] := by
  have h1 : agsE [agQ] = 0 := by decide +kernel
  have h2 : momB 4 = true := by decide
  have h3 : presB agQ 4 = true := by decide
  unfold presR
  rw [h1, h2, h3]; rfl
set_option maxHeartbeats 2000000 in
theorem queued_true (w : World) : Calls Tryz.prog 31 #[] w (RetV (.bool true) w) := by
  have HOK := Lib.hid (show AgOk w 0 agQ from ⟨⟨by decide, (fun s hs => by cases hs), by decide, by decide⟩, Recs.nil, Recs.nil⟩)
  go_enter Tryz.func31, Tryz.ntmps31
  go_wp2_with fail
  refine (Present_any 0 agQ 4 _ HOK.out).mono ?_
  rintro e w2 ⟨rfl, hg2⟩
  rw [presR_Q]
  have HG2 := Lib.hid hg2; clear hg2
  go_wp2_with fail
  go_ret
  exact ⟨rfl, HG2.out⟩
end Go.Proofs.YtnmodobkennklaaGreatDoor

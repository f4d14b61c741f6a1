/- Contract of the program's closure that reads a line of acts. Conditions: a line of bounded length; bytealg.MaxLen holds some number. -/
import Derived.Test.YtgogiljplnninaaGreatDoorAtA
namespace Go.Proofs.YtgogiljplnninaaGreatDoor
open Go.RowKit

def aOk (t : List UInt8) (k : Nat) : Bool := acB (lnB t k)
def aOut (t : List UInt8) : Nat → List ActV
  | 0 => []
  | k + 1 => aOut t k ++ [acV (lnB t k)]
/-- Behind k lines that were taken: what was read lies in a slice of its own behind the captured variable. -/
structure StA (t : List UInt8) (base : World) (ob k : Nat) (w : World) : Prop where
  g : base.grownBy w none
  mx : MxT w
  pw : PwT w
  hob : base.heap.size ≤ ob
  hm : 2 < base.heap.size
  hp : 3 < base.heap.size
  out : ∃ B c, Blk w ob 45 #[.slice B k c] ∧ OwnR ActV.row 6 w (ob + 1) 56 B k c (aOut t k)
theorem StA.kept {t : List UInt8} {base w w' : World} {ob k : Nat} (h : StA t base ob k w) (hg : w.grownBy w' none) : StA t base ob k w' := by
  obtain ⟨B, c, h1, h2⟩ := h.out
  exact ⟨gr_none h.g hg, h.mx.grown hg, h.pw.grown hg, h.hob, h.hm, h.hp, B, c, h1.grown hg (by simp), h2.kept hg (fun g e => by cases e)⟩
theorem Tryz.acsT2 : ElemT Tryz.prog 45 56 6 72 (.agg #[.int .i64 0, .string ⟨#[]⟩, .string ⟨#[]⟩, .int .i64 0, .int .i64 0, .string ⟨#[]⟩]) := elemT_of Tryz.underlying45 (by kernel_rfl) rfl (by decide)
set_option maxHeartbeats 4000000 in
theorem pAcLine_any (t : List UInt8) (base : World) (ob k : Nat) (line : ByteArray) (w : World) (h : StA t base ob k w) (hl : line.data.toList = lineN t k) (hs : line.size ≤ 1000000) (hk : k < 1000000) :
    Calls Tryz.prog 89 #[.string line, .pointer (some ⟨ob, 0, none⟩)] w (fun e w' => e = .returned (.bool (aOk t k)) ∧ base.grownBy w' none ∧ (aOk t k = true → StA t base ob (k + 1) w')) := by
  have hln := lnB_eq hl
  obtain ⟨B, c, hob, hown⟩ := h.out
  have H := Lib.hid h; have HOB := Lib.hid hob; have HO := Lib.hid hown
  have HOKB := Lib.hid (show aOk t k = acB line by unfold aOk; rw [← hln])
  have HRV := Lib.hid (show aOut t (k + 1) = aOut t k ++ [acV line] by
    show aOut t k ++ [acV (lnB t k)] = _
    rw [← hln])
  clear hl hln h hob hown
  go_enter Tryz.func89, Tryz.ntmps89
  go_wp2_with fail
  refine (readAct_any line _ hs H.out.mx).mono ?_
  rintro e w1 ⟨RC, rfl, heq, hg1⟩
  have HEQ := Lib.hid heq
  obtain ⟨RB, hRB⟩ : ∃ b, acB line = b := ⟨_, rfl⟩
  have HRB := Lib.hid hRB
  rw [hRB]
  obtain ⟨w2, hw2⟩ : ∃ v, w1.alloc (.cells #[.int .i64 RC.at_, .string RC.bx, .string RC.id, .int .i64 RC.kd, .int .i64 RC.lg, .string RC.frm] 56) = v := ⟨_, rfl⟩
  obtain ⟨sb, hsb⟩ : ∃ b, w1.heap.size = b := ⟨_, rfl⟩
  have HSB := Lib.hid (show Blk w2 sb 56 #[.int .i64 RC.at_, .string RC.bx, .string RC.id, .int .i64 RC.kd, .int .i64 RC.lg, .string RC.frm] by rw [← hw2, ← hsb]; exact Blk.new _ _ _)
  have hg2 : w.grownBy w2 none := by rw [← hw2]; exact gr_alloc hg1 _
  have HW2 := Lib.hid hw2; have HZ2 := Lib.hid hsb
  replace H := Lib.hid (H.out.kept hg2)
  replace HOB := Lib.hid (HOB.out.grown hg2 (by simp))
  replace HO := Lib.hid (HO.out.kept hg2 (fun g e => by cases e))
  have zob := HOB.out.lt
  have zb := H.out.hob
  have hb1 : base.heap.size ≤ ob + 1 := by omega
  have hob2 : ob + 1 ≤ w2.heap.size := by omega
  clear hw2 hsb hg1 hg2 hRB heq
  go_upto_region 2 with (fail)
  rw [HW2.out]
  (try rw [HZ2.out])
  clear HW2 HZ2
  have o0 := HOB.out.cell 0
  go_wp2_with (first
    | (refine wpl_load_all Tryz.acT rfl _ rfl _ rfl _ _ HSB.out rfl ?_)
    | (at_builtin; refine wpl_app _ rfl _ _ Tryz.acsT2 rfl (ob + 1) B k c _ rfl (by exact HO.out.1.alloc _) _ _ 1 1 [.int .i64 RC.at_, .string RC.bx, .string RC.id, .int .i64 RC.kd, .int .i64 RC.lg, .string RC.frm] rfl (by exact Reads.one _ _ _ _ rfl) (by simp [Value.oneCell']) (by unfold maxLen; omega) (by omega) (by simp; omega) ?_; intro A9 c9 w9 h9; have HB9 := Lib.hid ((HOB.out.alloc _).grown h9.2.1 (by intro e; have := (HO.out.1.lt e.symm).1; omega)); have f9 := HB9.out.frozen 0; have o9 := HB9.out.cell 0; have H9 := Lib.hid h9; clear h9 o0)
    | fail)
  go_ret
  have hgA := gr_alloc (gr_refl w2 none) (.cells #[.int .i64 RC.at_, .string RC.bx, .string RC.id, .int .i64 RC.kd, .int .i64 RC.lg, .string RC.frm] 56)
  have hg9 := H9.out.2.1
  have hgb : base.grownBy w9 none := gr_trans (gr_none H.out.g hgA) hg9 (fun g e => .inr (by have := (HO.out.1.lt e).1; omega))
  have hgs : w9.grownBy (w9.setCell ⟨ob, 0, none⟩ (.slice A9 (k + 1) c9)) (some ob) := gr_setCell (gr_refl _ _) (.inl rfl) _
  have hgf : base.grownBy (w9.setCell ⟨ob, 0, none⟩ (.slice A9 (k + 1) c9)) none := gr_trans hgb hgs (fun g e => .inr (by injection e with e; omega))
  refine ⟨by rw [HOKB.out, HRB.out]; try rfl, hgf, fun e => ?_⟩
  have e2 : acB line = true := by rw [← HOKB.out]; exact e
  refine ⟨hgf, ?_, ?_, H.out.hob, H.out.hm, H.out.hp, A9, c9, HB9.out.set_ 0 _, ?_⟩
  · exact ((H.out.mx.grown hgA).low hg9 (fun g e => by have := (HO.out.1.lt e).1; have := H.out.hm; omega)).low hgs (fun g e => by injection e with e; have := H.out.hm; omega)
  · exact ((H.out.pw.grown hgA).low hg9 (fun g e => by have := (HO.out.1.lt e).1; have := H.out.hp; omega)).low hgs (fun g e => by injection e with e; have := H.out.hp; omega)
  · rw [HRV.out, ← HEQ.out e2]
    exact ((HO.out.alloc _).app rfl H9.out).kept hgs (fun g e2 e3 => by injection e2 with e2; have := (H9.out.1.lt e3).1; omega)
end Go.Proofs.YtgogiljplnninaaGreatDoor

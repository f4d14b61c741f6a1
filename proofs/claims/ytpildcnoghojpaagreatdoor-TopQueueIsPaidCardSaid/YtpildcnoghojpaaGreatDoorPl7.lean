/- Contracts of play and seats of the program's player. Conditions: a player that is played, alike the document's room. -/
import Derived.Test.YtpildcnoghojpaaGreatDoorPl5
import Derived.Test.YtpildcnoghojpaaGreatDoorPl6
namespace Go.Proofs.YtpildcnoghojpaaGreatDoor
open Go.RowKit

section
variable {s : StyV} {A : List AgV} {C : List CaV} {p : PlS} {r : RoS} {u t : Int}
theorem plyP_none {f : Nat} (h : nextP A C p t = none) : plyP s A C u f p t = p := by
  cases f with
  | zero => rfl
  | succ f => show (nextP A C p t).elim _ _ = _; rw [h]; rfl
theorem plyP_far {f : Nat} {x : Int} (h : nextP A C p t = some x) (hu : ¬ x ≤ u) : plyP s A C u f p t = p := by
  cases f with
  | zero => rfl
  | succ f => show (nextP A C p t).elim _ _ = _; rw [h]; show (if x ≤ u then _ else _) = _; rw [if_neg hu]
theorem plyP_some {f : Nat} {x : Int} (h : nextP A C p t = some x) (hu : x ≤ u) : plyP s A C u (f + 1) p t = plyP s A C u f (momP s A C p x) x := by
  show (nextP A C p t).elim _ _ = _; rw [h]; show (if x ≤ u then _ else _) = _; rw [if_pos hu]
theorem nextP_min {x : Int} (h : nextP A C p t = some x) : minL t (progT A C p) = some x := by
  unfold nextP at h
  split at h
  · exact h
  · cases h
/-- The next moment: what is known ahead of it. -/
theorem Sim.upto {x : Int} (h : Sim A C p r t) (hok : RoOk A C r) (hb : DsB r.ds) (hC : ∀ c ∈ C, CaN c ∧ CaOk c) (hA : ∀ a ∈ A, AgN a ∧ a.key.size ≤ 1000) (hx : nextP A C p t = some x) : t < x ∧ x ≤ 345859200000 ∧ Sim A C p r (x - 1) := by
  obtain ⟨g1, g2, g3⟩ := minL_some (nextP_min hx)
  refine ⟨g1, (timesR_bd hok hb hC hA x (h.progIn g2)).2, h.adv (show t ≤ x - 1 by omega) fun y hy hl hy2 => by
    have := g3 y hy hl
    omega⟩
end
set_option maxHeartbeats 8000000 in
set_option maxRecDepth 100000 in
theorem pplay_any (wb : World) (R : PlC) (s : StyV) (A : List AgV) (C : List CaV) (p : PlS) (r : RoS) (u : Int) (w : World) (h : Pm wb w R s A C p) (hs : Sim A C p r (-1)) (hok : RoOk A C r) (hb : DsB r.ds) :
    Calls Tryz.prog 19 #[.pointer (some ⟨R.pb, 0, none⟩), .int .i64 u] w (fun e w' => e = .returned (.tuple #[]) ∧ Pm wb w' R s A C (plyP s A C u 345859200002 p (-1))) := by
  have H := Lib.hid h
  have HCN := Lib.hid h.cn; have HAN := Lib.hid h.an
  obtain ⟨FIN, hF⟩ : ∃ F, plyP s A C u 345859200002 p (-1) = F := ⟨_, rfl⟩
  rw [hF]
  have HF := Lib.hid hF; have HS := Lib.hid hs; have HOK := Lib.hid hok; have HB := Lib.hid hb
  clear h hs hok hb hF
  go_enter Tryz.func19, Tryz.ntmps19
  go_wp2_with fail
  refine (pnext_any wb R s A C p (-1) _ H.out).mono ?_
  rintro e w3 ⟨rfl, hg3⟩
  unfold nextV
  replace H := Lib.hid (H.out.kept hg3)
  clear hg3
  go_wp2_with fail
  go_loopg [4, 5] 345859200002 (fun gk t4 t5 wr => ∃ (p2 : PlS) (r2 : RoS) (tp : Int), t4 = .int .i64 ((nextP A C p2 tp).getD 0) ∧ t5 = .bool (nextP A C p2 tp).isSome ∧ plyP s A C u gk p2 tp = FIN ∧ -1 ≤ tp ∧ (345859200000 - tp).toNat < gk ∧ Pm wb wr R s A C p2 ∧ Sim A C p2 r2 tp ∧ RoOk A C r2 ∧ DsB r2.ds)
  case atStart => exact ⟨p, r, -1, rfl, rfl, HF.out, by omega, by omega, H.out, HS.out, HOK.out, HB.out⟩
  case round =>
    clear H HF HS HOK HB
    obtain ⟨p2, r2, tp, rfl, rfl, hfin, htp, hgk, hpm, hsim, hok, hb⟩ := hrel
    have HFN := Lib.hid hfin; have HPM := Lib.hid hpm; have HSM := Lib.hid hsim; have HOK := Lib.hid hok; have HB := Lib.hid hb
    clear hfin hpm hsim hok hb
    cases hnx : nextP A C p2 tp with
    | none =>
      have HE := Lib.hid (show p2 = FIN by rw [← HFN.out]; exact (plyP_none hnx).symm)
      clear hnx
      go_wp2_with fail
      go_end0
      exact ⟨rfl, by rw [← HE.out]; exact HPM.out⟩
    | some x =>
      have HNX := Lib.hid hnx
      obtain ⟨g1, g2, g3⟩ := HSM.out.upto HOK.out HB.out HCN.out HAN.out hnx
      have HS1 := Lib.hid g3
      clear hnx g3
      by_cases hxu : x ≤ u
      · have du : decide (x ≤ u) = true := decide_eq_true hxu
        obtain ⟨f, rfl⟩ : ∃ f, gk = f + 1 := ⟨gk - 1, by omega⟩
        have HN := Lib.hid (show plyP s A C u f (momP s A C p2 x) x = FIN by rw [← HFN.out]; exact (plyP_some HNX.out hxu).symm)
        have HS2 := Lib.hid (HS1.out.step (s := s) HOK.out HCN.out HAN.out (show 0 ≤ x by omega) (show x ≤ 2000000000000 by omega)).1
        have HO2 := Lib.hid (stepR_ok (s := s) HOK.out HB.out HCN.out HAN.out (show -1 ≤ x by omega) (show x ≤ 2000000000000 by omega))
        clear hxu
        go_wp2_with fail
        refine (pmoment_any wb R s A C p2 r2 x _ HPM.out HS1.out HOK.out HB.out (by omega) (by omega)).mono ?_
        rintro e w4 ⟨rfl, hpm4⟩
        have HP4 := Lib.hid hpm4
        clear hpm4
        go_wp2_with fail
        refine (pnext_any wb R s A C (momP s A C p2 x) x _ HP4.out).mono ?_
        rintro e w5 ⟨rfl, hg5⟩
        unfold nextV
        replace HP4 := Lib.hid (HP4.out.kept hg5)
        clear hg5
        go_wp2_with fail
        go_roundg f
        case measure => omega
        case rel => exact ⟨momP s A C p2 x, stepR s A C r2 x, x, rfl, rfl, HN.out, by omega, by omega, HP4.out, HS2.out, HO2.out.1, HO2.out.2⟩
      · have du : decide (x ≤ u) = false := decide_eq_false hxu
        have HE := Lib.hid (show p2 = FIN by rw [← HFN.out]; exact (plyP_far HNX.out hxu).symm)
        clear hxu
        go_wp2_with fail
        go_end0
        exact ⟨rfl, by rw [← HE.out]; exact HPM.out⟩
theorem wait_seat {w : World} {b : Nat} {c : CaV} {x : WtV} (h : Blk w b 119 #[.string c.id, .string c.skill, .int .i64 c.at_, .int .i64 c.least, .int .i64 c.prio, .int .i64 c.pat, .int .i64 c.talk, .bool c.back, .int .i64 x.how, .string x.seat.ca, .string x.seat.ag, .int .i64 x.seat.how, .int .i64 x.seat.beg, .int .i64 x.seat.fin]) : ∀ j u, ([.string x.seat.ca, .string x.seat.ag, .int .i64 x.seat.how, .int .i64 x.seat.beg, .int .i64 x.seat.fin] : List Value)[j]? = some u → w.cell? ⟨b, 9 + j, none⟩ = some u :=
  blk_part h _ 9 fun j u hu => by
    rcases j with _ | _ | _ | _ | _ | j
    all_goals first | exact hu | (simp at hu)
set_option maxHeartbeats 8000000 in
set_option maxRecDepth 100000 in
theorem pseats_any (wb : World) (R : PlC) (s : StyV) (A : List AgV) (C : List CaV) (p : PlS) (w : World) (h : Pm wb w R s A C p) :
    Calls Tryz.prog 20 #[.pointer (some ⟨R.pb, 0, none⟩)] w (fun e w' => ∃ B m c, e = .returned (.slice B m c) ∧ OwnR SeV.row 5 w' w.heap.size 39 B m c (p.wt.map (·.seat)) ∧ w.grownBy w' none) := by
  have H := Lib.hid h
  have hn := h.n
  have hwl := h.at_.wl2
  have k4 := h.pp.cell 4
  clear h
  go_enter Tryz.func20, Tryz.ntmps20
  go_wp2_with fail
  clear k4
  go_loopw [3, 5, 11] (fun v _ tc wr => ∃ (k m cB : Nat) (B : Option Addr), v = .slice B m cB ∧ tc = .int .i64 k ∧ k ≤ C.length ∧ m ≤ k ∧ OwnR SeV.row 5 wr w.heap.size 39 B m cB ((p.wt.take k).map (·.seat)) ∧ w.grownBy wr none) (fun _ _ tc _ => C.length - (intOf tc).toNat)
  case atStart => exact ⟨0, 0, 0, none, rfl, rfl, Nat.zero_le _, Nat.le_refl _, OwnR.nil _ _ _, gr_refl _ _⟩
  case round =>
    obtain ⟨k, m, cB, B, rfl, rfl, hk, hmk, hown, hg⟩ := hrel
    have HO := Lib.hid hown; have HG := Lib.hid hg
    have zr := hg.size
    clear hown hg
    by_cases hlt : k < C.length
    · obtain ⟨c, hc⟩ : ∃ c, C[k]? = some c := ⟨_, List.getElem?_eq_getElem hlt⟩
      obtain ⟨wg, wof, b, hW, hbi, kc, hx, hwb⟩ := (H.out.kept HG.out).at_.waiter hc
      have hlt2 : (k : Int) < (C.length : Int) := by omega
      revert hx hwb
      generalize wtAt p.wt k = x
      intro hx hwb
      have HST := Lib.hid (wait_seat (show Blk wr b 119 #[.string c.id, .string c.skill, .int .i64 c.at_, .int .i64 c.least, .int .i64 c.prio, .int .i64 c.pat, .int .i64 c.talk, .bool c.back, .int .i64 x.how, .string x.seat.ca, .string x.seat.ag, .int .i64 x.seat.how, .int .i64 x.seat.beg, .int .i64 x.seat.fin] from hwb))
      have HN := Lib.hid (show (p.wt.take (k + 1)).map (·.seat) = (p.wt.take k).map (·.seat) ++ [x.seat] by rw [take_snoc hx, List.map_append]; rfl)
      unfold ptrV at kc
      rw [hW]
      clear hc hbi hx hW hwb
      go_wp2_with (first
        | (refine wpl_load_at Tryz.seT rfl _ rfl _ rfl [.string x.seat.ca, .string x.seat.ag, .int .i64 x.seat.how, .int .i64 x.seat.beg, .int .i64 x.seat.fin] rfl (fun j u hu => by rw [add_mk]; exact HST.out j u hu) ?_)
        | (at_builtin; refine wpl_app _ rfl _ _ Tryz.sesT rfl w.heap.size B m cB _ rfl (by exact HO.out.1.alloc _) _ _ 1 1 [.string x.seat.ca, .string x.seat.ag, .int .i64 x.seat.how, .int .i64 x.seat.beg, .int .i64 x.seat.fin] rfl (by exact Reads.one _ _ _ _ rfl) (by simp [Value.oneCell']) (by unfold maxLen; omega) (by omega) (by simp; omega) ?_; intro A8 c8 w8 h8; have H8 := Lib.hid h8; clear h8)
        | fail)
      have HO8 := Lib.hid (show OwnR SeV.row 5 w8 w.heap.size 39 A8 (m + 1) c8 ((p.wt.take (k + 1)).map (·.seat)) by rw [HN.out]; exact (HO.out.alloc _).app rfl H8.out)
      have HG8 := Lib.hid (show w.grownBy w8 none from gr_own (lo := w.heap.size) (gr_alloc HG.out _) (HO.out.1.alloc _) (Nat.le_refl _) H8.out.2.1)
      clear H8
      go_roundw
      case rel => exact ⟨k + 1, m + 1, c8, A8, rfl, by go_num, by omega, by omega, HO8.out, HG8.out⟩
      case measure => simp [intOf]; omega
    · obtain rfl : k = C.length := by omega
      have HE := Lib.hid (show (p.wt.take C.length).map (·.seat) = p.wt.map (·.seat) by rw [← hwl, List.take_length])
      go_wp2_with fail
      go_ret
      exact ⟨B, m, cB, rfl, by rw [← HE.out]; exact HO.out, HG.out⟩
end Go.Proofs.YtpildcnoghojpaaGreatDoor

/- Contract of moment of the program's player. Conditions: a player that is played, alike the document's room. -/
import Derived.Test.YtpildcnoghojpaaGreatDoorPl4
import Derived.Test.YtpildcnoghojpaaGreatDoorBun5
namespace Go.Proofs.YtpildcnoghojpaaGreatDoor
open Go.RowKit

theorem set_same {α : Type} {l : List α} {i : Nat} {x : α} (h : l[i]? = some x) : l.set i x = l := by
  obtain ⟨h1, rfl⟩ := List.getElem?_eq_some_iff.1 h
  exact List.set_getElem_self h1
section
variable {wb w w' : World} {R : PlC} {s : StyV} {A : List AgV} {C : List CaV} {p p' : PlS} {r : RoS} {t : Int}
theorem Pm.put (h : Pm wb w R s A C p) (hg : wb.grownBy w' none) (ha : PlAt w' wb.heap.size R s A C p') (hb : ∀ x ∈ p'.dk, 0 ≤ x.tk ∧ x.tk ≤ 2000000000000 ∧ 0 ≤ x.en ∧ x.en ≤ 2000000000000 ∧ 0 ≤ x.n ∧ x.n ≤ 1000000) : Pm wb w' R s A C p' := ⟨hg, ha, h.ags, h.m, h.n, h.an, h.cn, h.age, hb⟩
theorem like_bd {W : CaV → WtV → Bool → Bool → SeV → Prop} (h : Like W A C p r t) (hok : RoOk A C r) (t1 : t ≤ 2000000000000) (hn : C.length ≤ 19) : ∀ x ∈ p.dk, 0 ≤ x.tk ∧ x.tk ≤ 2000000000000 ∧ 0 ≤ x.en ∧ x.en ≤ 2000000000000 ∧ 0 ≤ x.n ∧ x.n ≤ 1000000 := by
  intro x hx
  obtain ⟨i, hi⟩ := List.mem_iff_getElem?.1 hx
  have q := h.d i x hi
  have hil : i < r.ds.length := by rw [h.rl, ← h.dl]; exact (List.getElem?_eq_some_iff.1 hi).1
  obtain ⟨b1, b2, b3, b4⟩ := hok.dv _ (dAt_mem hil)
  have hcl : r.dn.count true ≤ r.dn.length := List.count_le_length
  have hnl := h.nl
  have e1 := q.e1
  refine ⟨q.k0, ?_, q.e0, by omega, q.n0, by have := q.n; omega⟩
  by_cases hk : x.tk = 0
  · omega
  · have := (q.tk hk).2.1; omega
theorem mid_give (h : Mid A C p r t) (hok : RoOk A C r) (hC : ∀ c ∈ C, CaN c ∧ CaOk c) (hA : ∀ a ∈ A, AgN a ∧ a.key.size ≤ 1000) (t0 : 0 ≤ t) :
    (giveP s A C p t = none ∧ giveR s A C r t = none) ∨ ∃ p' r', giveP s A C p t = some p' ∧ giveR s A C r t = some r' ∧ Mid A C p' r' t ∧ RoOk A C r' ∧ r'.dn.count true = r.dn.count true + 1 := by
  have hline : lineP s C p.wt t = lineR s C r.dn t := line_of h fun _ _ _ _ _ q => mid_inL q
  rcases h.giveL (s := s) hC hA t0 (lineR s C r.dn t) (fun i hi => by obtain ⟨_, b2, c, hc, hat⟩ := lineR_mem hi; exact ⟨b2, c, hc, hat⟩) with ⟨e1, e2⟩ | ⟨p', r', e1, e2, e3⟩
  · exact .inl ⟨by unfold giveP; rw [hline]; exact e1, e2⟩
  · obtain ⟨h1, h2, _⟩ := giveR_ok hok hC hA (show -1 ≤ t by omega) (show giveR s A C r t = some r' from e2)
    exact .inr ⟨p', r', by unfold giveP; rw [hline]; exact e1, e2, e3, h1, h2⟩
end
set_option maxHeartbeats 16000000 in
set_option maxRecDepth 100000 in
theorem pmoment_any (wb : World) (R : PlC) (s : StyV) (A : List AgV) (C : List CaV) (p : PlS) (r : RoS) (t : Int) (w : World) (h : Pm wb w R s A C p) (hs : Sim A C p r (t - 1)) (hok : RoOk A C r) (hb : DsB r.ds) (t0 : 0 ≤ t) (t1 : t ≤ 400000000000) :
    Calls Tryz.prog 34 #[.pointer (some ⟨R.pb, 0, none⟩), .int .i64 t] w (fun e w' => e = .returned (.tuple #[]) ∧ Pm wb w' R s A C (momP s A C p t)) := by
  have H := Lib.hid h
  have HSM := Lib.hid hs; have HOK := Lib.hid hok
  have HCN := Lib.hid h.cn; have HAN := Lib.hid h.an
  have HBD := Lib.hid (like_bd (hs.step (s := s) hok h.cn h.an t0 (show t ≤ 2000000000000 by omega)).1 (stepR_ok (s := s) hok hb h.cn h.an (show -1 ≤ t by omega) (show t ≤ 2000000000000 by omega)).1 (show t ≤ 2000000000000 by omega) h.n)
  have HG0 := Lib.hid h.g
  have k3 := h.pp.cell 3
  have hm := h.m
  have hn := h.n
  clear h hs hok hb
  go_enter Tryz.func34, Tryz.ntmps34
  go_wp2_with fail
  clear k3
  go_loopw [5, 17] (fun _ tc wr => ∃ k : Nat, tc = .int .i64 k ∧ k ≤ A.length ∧ PlAt wr wb.heap.size R s A C (⟨updN (endP t) A k p.dk, p.wt, p.last⟩ : PlS) ∧ wb.grownBy wr none) (fun _ tc _ => A.length - (intOf tc).toNat)
  case atStart => exact ⟨0, rfl, Nat.zero_le _, H.out.at_, HG0.out⟩
  case round =>
    clear HG0
    obtain ⟨k, rfl, hk, hpa, hg⟩ := hrel
    have HPA := Lib.hid hpa; have HG := Lib.hid hg
    clear hpa hg
    by_cases hlt : k < A.length
    · obtain ⟨a, ha⟩ : ∃ a, A[k]? = some a := ⟨_, List.getElem?_eq_getElem hlt⟩
      have hlt2 : (k : Int) < (A.length : Int) := by omega
      obtain ⟨dg, dof, b, hD, hbi, kc, hx, hdb⟩ := HPA.out.desk ha
      have HA := Lib.hid ha; have HBI := Lib.hid hbi; have HX := Lib.hid hx
      have HLB := Lib.hid (HPA.out.lo b (mem_d hbi))
      have HU := Lib.hid (updN_succ (f := endP t) ha hx)
      dsimp only at hdb HU HX
      revert hdb HU HX
      generalize dkAt (updN (endP t) A k p.dk) k = x
      intro hdb HX HU
      have HDB := Lib.hid (show Blk wr b 116 #[.string a.key, .slice a.sA a.sn a.sc, .int .i64 a.fr, .int .i64 a.til, .slice a.pA a.pn a.pc, .int .i64 a.wrap, .int .i64 x.tk, .int .i64 x.en, .int .i64 x.n] from hdb)
      unfold ptrV at kc
      rw [hD]
      have k6 := HDB.out.cell 6
      clear ha hbi hx hD hdb
      by_cases h1 : x.tk = t ∧ 0 < t
      · have d1 : (x.tk == t) = true := by simpa using h1.1
        have d2 : decide (0 < t) = true := decide_eq_true h1.2
        have HN := Lib.hid (show endP t a x = ⟨0, t, x.n⟩ by unfold endP; rw [decide_eq_true h1.1, d2]; rfl)
        obtain ⟨w2, hw2⟩ : ∃ w2, wr.setCell ⟨b, 6, none⟩ (.int .i64 0) = w2 := ⟨_, rfl⟩
        obtain ⟨w3, hw3⟩ : ∃ w3, w2.setCell ⟨b, 7, none⟩ (.int .i64 t) = w3 := ⟨_, rfl⟩
        have HD2 := Lib.hid (show Blk w2 b 116 #[.string a.key, .slice a.sA a.sn a.sc, .int .i64 a.fr, .int .i64 a.til, .slice a.pA a.pn a.pc, .int .i64 a.wrap, .int .i64 (⟨0, x.en, x.n⟩ : DkV).tk, .int .i64 (⟨0, x.en, x.n⟩ : DkV).en, .int .i64 (⟨0, x.en, x.n⟩ : DkV).n] by rw [← hw2]; exact HDB.out.set_ 6 _)
        have hg3 : wr.grownBy w3 (some b) := by rw [← hw3, ← hw2]; exact gr_setCell (gr_setCell (gr_refl _ (some b)) (.inl rfl) _) (.inl rfl) _
        have HPA3 := Lib.hid (HPA.out.setD HBI.out HA.out hg3 (show DkBlk w3 b a (endP t a x) by rw [HN.out, ← hw3]; exact HD2.out.set_ 7 _))
        have HG3 := Lib.hid (gr_trans HG.out hg3 (fun g e => .inr (by have := HLB.out; injection e with e; omega)))
        have HW2 := Lib.hid hw2; have HW3 := Lib.hid hw3
        have f6 := HDB.out.frozen 6
        have f7 := HD2.out.frozen 7
        have c7 := HD2.out.cell 7
        rw [← hw2] at f7 c7
        clear h1 hw2 hw3 hg3
        go_upto_region 5 with (fail)
        rw [HW2.out, HW3.out]
        clear HW2 HW3 f6 f7 c7
        go_wp2_with fail
        go_roundw
        case rel => exact ⟨k + 1, by go_num, by omega, by rw [HU.out]; exact HPA3.out, HG3.out⟩
        case measure => simp [intOf]; omega
      · have HN := Lib.hid (show endP t a x = x by
          unfold endP
          rw [if_neg]
          rw [Bool.and_eq_true, decide_eq_true_eq, decide_eq_true_eq]; exact h1)
        have HS := Lib.hid (set_same HX.out)
        by_cases h2 : x.tk = t
        · have d1 : (x.tk == t) = true := by simpa using h2
          have d2 : decide (0 < t) = false := decide_eq_false fun h3 => h1 ⟨h2, h3⟩
          clear h1 h2
          go_wp2_with fail
          go_roundw
          case rel => exact ⟨k + 1, by go_num, by omega, by rw [HU.out, HN.out, HS.out]; exact HPA.out, HG.out⟩
          case measure => simp [intOf]; omega
        · have d1 : (x.tk == t) = false := by simpa using h2
          clear h1 h2
          go_wp2_with fail
          go_roundw
          case rel => exact ⟨k + 1, by go_num, by omega, by rw [HU.out, HN.out, HS.out]; exact HPA.out, HG.out⟩
          case measure => simp [intOf]; omega
    · obtain rfl : k = A.length := by omega
      clear hk hlt
      replace HPA := Lib.hid (show PlAt wr wb.heap.size R s A C (⟨updA (endP t) A p.dk, p.wt, p.last⟩ : PlS) from HPA.out)
      have k4 := (show Blk _ R.pb 113 _ from HPA.out.pl).cell 4
      go_wp2_with fail
      clear k4
      go_loopw [7, 44] (fun _ tc wr => ∃ k : Nat, tc = .int .i64 k ∧ k ≤ C.length ∧ PlAt wr wb.heap.size R s A C (⟨updA (endP t) A p.dk, updN (leaveP t) C k p.wt, p.last⟩ : PlS) ∧ wb.grownBy wr none) (fun _ tc _ => C.length - (intOf tc).toNat)
      case atStart => exact ⟨0, rfl, Nat.zero_le _, HPA.out, HG.out⟩
      case round =>
        clear HPA HG
        obtain ⟨k, rfl, hk, hpa, hg⟩ := hrel
        have HPA := Lib.hid hpa; have HG := Lib.hid hg
        clear hpa hg
        by_cases hlt : k < C.length
        · obtain ⟨c, hc⟩ : ∃ c, C[k]? = some c := ⟨_, List.getElem?_eq_getElem hlt⟩
          have hlt2 : (k : Int) < (C.length : Int) := by omega
          obtain ⟨wg, wof, b, hW, hbi, kc, hx, hwb⟩ := HPA.out.waiter hc
          have HC := Lib.hid hc; have HBI := Lib.hid hbi; have HX := Lib.hid hx
          have HLB := Lib.hid (HPA.out.lo b (mem_w hbi))
          unfold ptrV at kc
          rw [hW]
          clear hc hbi hx hW
          go_wp2_with fail
          refine (leave_any2 b c _ t _ hwb (HCN.out c (mem_of_get HC.out)).1).mono ?_
          rintro e w3 ⟨rfl, hwb3, hg3⟩
          have HPA3 := Lib.hid (HPA.out.setW HBI.out HC.out hg3 hwb3)
          have HU := Lib.hid (updN_succ (f := leaveP t) HC.out HX.out)
          have HG3 := Lib.hid (gr_trans HG.out hg3 (fun g e => .inr (by have := HLB.out; injection e with e; omega)))
          clear hwb3 hg3 hwb kc
          go_wp2_with fail
          go_roundw
          case rel => exact ⟨k + 1, by go_num, by omega, by rw [HU.out]; exact HPA3.out, HG3.out⟩
          case measure => simp [intOf]; omega
        · obtain rfl : k = C.length := by omega
          clear hk hlt
          replace HPA := Lib.hid (show PlAt wr wb.heap.size R s A C (⟨updA (endP t) A p.dk, updA (leaveP t) C p.wt, p.last⟩ : PlS) from HPA.out)
          have k4 := (show Blk _ R.pb 113 _ from HPA.out.pl).cell 4
          go_wp2_with fail
          clear k4
          go_loopw [9, 57] (fun _ tc wr => ∃ k : Nat, tc = .int .i64 k ∧ k ≤ C.length ∧ PlAt wr wb.heap.size R s A C (⟨updA (endP t) A p.dk, updN (comeP t) C k (updA (leaveP t) C p.wt), p.last⟩ : PlS) ∧ wb.grownBy wr none) (fun _ tc _ => C.length - (intOf tc).toNat)
          case atStart => exact ⟨0, rfl, Nat.zero_le _, HPA.out, HG.out⟩
          case round =>
            clear HPA HG
            obtain ⟨k, rfl, hk, hpa, hg⟩ := hrel
            have HPA := Lib.hid hpa; have HG := Lib.hid hg
            clear hpa hg
            by_cases hlt : k < C.length
            · obtain ⟨c, hc⟩ : ∃ c, C[k]? = some c := ⟨_, List.getElem?_eq_getElem hlt⟩
              have hlt2 : (k : Int) < (C.length : Int) := by omega
              obtain ⟨wg, wof, b, hW, hbi, kc, hx, hwb⟩ := HPA.out.waiter hc
              have HC := Lib.hid hc; have HBI := Lib.hid hbi; have HX := Lib.hid hx
              have HLB := Lib.hid (HPA.out.lo b (mem_w hbi))
              have HU := Lib.hid (updN_succ (f := comeP t) hc hx)
              dsimp only at hwb HU HX
              revert hwb HU HX
              generalize wtAt (updN (comeP t) C k (updA (leaveP t) C p.wt)) k = x
              intro hwb HX HU
              have HWB := Lib.hid (show Blk wr b 119 #[.string c.id, .string c.skill, .int .i64 c.at_, .int .i64 c.least, .int .i64 c.prio, .int .i64 c.pat, .int .i64 c.talk, .bool c.back, .int .i64 x.how, .string x.seat.ca, .string x.seat.ag, .int .i64 x.seat.how, .int .i64 x.seat.beg, .int .i64 x.seat.fin] from hwb)
              unfold ptrV at kc
              rw [hW]
              have k8 := HWB.out.cell 8
              have k2 := HWB.out.cell 2
              have f8 := HWB.out.frozen 8
              clear hc hbi hx hW hwb
              by_cases h1 : x.how = 0 ∧ c.at_ = t
              · have d1 : (x.how == 0) = true := by simpa using h1.1
                have d2 : (c.at_ == t) = true := by simpa using h1.2
                have HN := Lib.hid (show comeP t c x = ⟨1, x.seat⟩ by unfold comeP; rw [decide_eq_true h1.1, decide_eq_true h1.2]; rfl)
                obtain ⟨w3, hw3⟩ : ∃ w3, wr.setCell ⟨b, 8, none⟩ (.int .i64 1) = w3 := ⟨_, rfl⟩
                have hg3 : wr.grownBy w3 (some b) := by rw [← hw3]; exact gr_setCell (gr_refl _ _) (.inl rfl) _
                have HPA3 := Lib.hid (HPA.out.setW HBI.out HC.out hg3 (show WtBlk w3 b c (comeP t c x) by rw [HN.out, ← hw3]; exact HWB.out.set_ 8 _))
                have HG3 := Lib.hid (gr_trans HG.out hg3 (fun g e => .inr (by have := HLB.out; injection e with e; omega)))
                have HW3 := Lib.hid hw3
                clear h1 hw3 hg3
                go_upto_region 16 with (fail)
                rw [HW3.out]
                clear HW3
                go_wp2_with fail
                go_roundw
                case rel => exact ⟨k + 1, by go_num, by omega, by rw [HU.out]; exact HPA3.out, HG3.out⟩
                case measure => simp [intOf]; omega
              · have HN := Lib.hid (show comeP t c x = x by
                  unfold comeP
                  rw [if_neg]
                  rw [Bool.and_eq_true, decide_eq_true_eq, decide_eq_true_eq]; exact h1)
                have HS := Lib.hid (set_same HX.out)
                by_cases h2 : x.how = 0
                · have d1 : (x.how == 0) = true := by simpa using h2
                  have d2 : (c.at_ == t) = false := by simpa using fun h3 => h1 ⟨h2, h3⟩
                  clear h1 h2
                  go_wp2_with fail
                  go_roundw
                  case rel => exact ⟨k + 1, by go_num, by omega, by rw [HU.out, HN.out, HS.out]; exact HPA.out, HG.out⟩
                  case measure => simp [intOf]; omega
                · have d1 : (x.how == 0) = false := by simpa using h2
                  clear h1 h2
                  go_wp2_with fail
                  go_roundw
                  case rel => exact ⟨k + 1, by go_num, by omega, by rw [HU.out, HN.out, HS.out]; exact HPA.out, HG.out⟩
                  case measure => simp [intOf]; omega
            · obtain rfl : k = C.length := by omega
              clear hk hlt
              replace HPA := Lib.hid (show PlAt wr wb.heap.size R s A C (⟨updA (endP t) A p.dk, updA (comeP t) C (updA (leaveP t) C p.wt), p.last⟩ : PlS) from HPA.out)
              go_wp2_with fail
              have hmd : ∃ (p' : PlS) (r' : RoS), ((⟨updA (endP t) A p.dk, updA (comeP t) C (updA (leaveP t) C p.wt), p.last⟩ : PlS)) = p' ∧ leaveR C t false C.length r = r' := ⟨_, _, rfl, rfl⟩
              obtain ⟨p1, r1, hp1, hr1⟩ := hmd
              obtain ⟨FIN, hF⟩ : ∃ F, givesP s A C t C.length p1 = F := ⟨_, rfl⟩
              have HM1 := Lib.hid (show Mid A C p1 r1 t by rw [← hp1, ← hr1]; exact HSM.out.mid HCN.out)
              have HO1 := Lib.hid (show RoOk A C r1 by rw [← hr1]; exact HOK.out.leaveR (t := t) false (show -1 ≤ t by omega) (show t ≤ 2000000000000 by omega) C.length (Nat.le_refl _))
              have HMOM := Lib.hid (show momP s A C p t = ⟨FIN.dk, updA (leaveP t) C FIN.wt, FIN.last⟩ by unfold momP; dsimp only; rw [hp1, hF])
              have HF := Lib.hid hF
              replace HPA := Lib.hid (show PlAt _ wb.heap.size R s A C p1 by rw [← hp1]; exact HPA.out)
              clear hp1 hr1 hF
              go_loopg [81] (C.length + 1) (fun gk _ wr => ∃ (p' : PlS) (r' : RoS) (f : Nat), gk = f + 1 ∧ C.length ≤ f + r'.dn.count true ∧ givesP s A C t f p' = FIN ∧ Mid A C p' r' t ∧ RoOk A C r' ∧ PlAt wr wb.heap.size R s A C p' ∧ wb.grownBy wr none)
              case atStart => exact ⟨p1, r1, C.length, rfl, by omega, HF.out, HM1.out, HO1.out, HPA.out, HG.out⟩
              case round =>
                clear HPA HG HF HM1 HO1
                obtain ⟨p2, r2, f, hgk, hcnt, hfin, hmid, hok2, hpa, hg⟩ := hrel
                have HPM := Lib.hid (H.out.put hg hpa (like_bd hmid hok2 (show t ≤ 2000000000000 by omega) H.out.n))
                have HGK := Lib.hid hgk; have HCT := Lib.hid hcnt; have HFN := Lib.hid hfin; have HMD := Lib.hid hmid; have HOK2 := Lib.hid hok2
                clear hgk hcnt hfin hmid hok2 hpa hg
                go_wp2_with fail
                refine (pgive_any wb R s A C p2 t _ HPM.out t0 t1).mono ?_
                rintro e w4 hgi
                have hmg := mid_give (s := s) HMD.out HOK2.out HCN.out HAN.out t0
                rcases hgi with ⟨hno, rfl, hg4⟩ | ⟨p3, hyes, rfl, hpa3, hg4⟩
                · have HEND := Lib.hid (show FIN = p2 by rw [← HFN.out]; exact givesP_none hno)
                  have HPA := Lib.hid (show PlAt w4 wb.heap.size R s A C FIN by rw [HEND.out]; exact HPM.out.at_.kept0 hg4)
                  have HG := Lib.hid (gr_none HPM.out.g hg4)
                  clear hmg hno hg4 HPM HGK HCT HFN HMD HOK2 HEND
                  have k4 := (show Blk _ R.pb 113 _ from HPA.out.pl).cell 4
                  go_wp2_with fail
                  clear k4
                  go_loopw [11, 87] (fun _ tc wr => ∃ k : Nat, tc = .int .i64 k ∧ k ≤ C.length ∧ PlAt wr wb.heap.size R s A C (⟨FIN.dk, updN (leaveP t) C k FIN.wt, FIN.last⟩ : PlS) ∧ wb.grownBy wr none) (fun _ tc _ => C.length - (intOf tc).toNat)
                  case atStart => exact ⟨0, rfl, Nat.zero_le _, HPA.out, HG.out⟩
                  case round =>
                    clear HPA HG
                    obtain ⟨k, rfl, hk, hpa, hg⟩ := hrel
                    have HPA := Lib.hid hpa; have HG := Lib.hid hg
                    clear hpa hg
                    by_cases hlt : k < C.length
                    · obtain ⟨c, hc⟩ : ∃ c, C[k]? = some c := ⟨_, List.getElem?_eq_getElem hlt⟩
                      have hlt2 : (k : Int) < (C.length : Int) := by omega
                      obtain ⟨wg, wof, b, hW, hbi, kc, hx, hwb⟩ := HPA.out.waiter hc
                      have HC := Lib.hid hc; have HBI := Lib.hid hbi; have HX := Lib.hid hx
                      have HLB := Lib.hid (HPA.out.lo b (mem_w hbi))
                      unfold ptrV at kc
                      rw [hW]
                      clear hc hbi hx hW
                      go_wp2_with fail
                      refine (leave_any2 b c _ t _ hwb (HCN.out c (mem_of_get HC.out)).1).mono ?_
                      rintro e w3 ⟨rfl, hwb3, hg3⟩
                      have HPA3 := Lib.hid (HPA.out.setW HBI.out HC.out hg3 hwb3)
                      have HU := Lib.hid (updN_succ (f := leaveP t) HC.out HX.out)
                      have HG3 := Lib.hid (gr_trans HG.out hg3 (fun g e => .inr (by have := HLB.out; injection e with e; omega)))
                      clear hwb3 hg3 hwb kc
                      go_wp2_with fail
                      go_roundw
                      case rel => exact ⟨k + 1, by go_num, by omega, by rw [HU.out]; exact HPA3.out, HG3.out⟩
                      case measure => simp [intOf]; omega
                    · obtain rfl : k = C.length := by omega
                      clear hk hlt
                      have HPAF := Lib.hid HPA.out
                      go_wp2_with fail
                      go_end0
                      refine ⟨rfl, gr_none HG.out (gr_refl _ _), ?_, H.out.ags, H.out.m, H.out.n, H.out.an, H.out.cn, H.out.age, HBD.out⟩
                      rw [HMOM.out]
                      exact HPAF.out
                · obtain ⟨r3, hr3, hmid3, hok3, hct3⟩ : ∃ r3, giveR s A C r2 t = some r3 ∧ Mid A C p3 r3 t ∧ RoOk A C r3 ∧ r3.dn.count true = r2.dn.count true + 1 := by
                    rcases hmg with ⟨e1, _⟩ | ⟨p', r', e1, e2, e3, e4, e5⟩
                    · rw [hyes] at e1; cases e1
                    · rw [hyes] at e1; injection e1 with e1; subst e1; exact ⟨r', e2, e3, e4, e5⟩
                  obtain ⟨f, rfl⟩ : ∃ f', f = f' + 1 := by
                    cases f with
                    | succ f' => exact ⟨f', rfl⟩
                    | zero =>
                      have hc := HCT.out
                      rw [Nat.zero_add] at hc
                      rw [done_none HOK2.out hc] at hr3
                      cases hr3
                  have HN := Lib.hid (show givesP s A C t f p3 = FIN by rw [← HFN.out]; exact (givesP_some hyes).symm)
                  have HPA3 := Lib.hid hpa3; have HG4 := Lib.hid hg4; have HM3 := Lib.hid hmid3; have HO3 := Lib.hid hok3
                  have hct := HCT.out
                  have hgk := HGK.out
                  clear hmg hyes hpa3 hg4 hr3 hmid3 hok3
                  go_wp2_with fail
                  go_roundg (f + 1)
                  case measure => omega
                  case rel => exact ⟨p3, r3, f, rfl, by omega, HN.out, HM3.out, HO3.out, HPA3.out, HG4.out⟩
end Go.Proofs.YtpildcnoghojpaaGreatDoor

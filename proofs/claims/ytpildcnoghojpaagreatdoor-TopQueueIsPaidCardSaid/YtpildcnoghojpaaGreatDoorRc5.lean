/- Contracts of account.charges, checkUse, checkMonth. Conditions: none. -/
import Derived.Test.YtpildcnoghojpaaGreatDoorRc3
import Derived.Test.YtpildcnoghojpaaGreatDoorBun4
import Derived.Test.YtpildcnoghojpaaGreatDoorBun1
import Derived.Test.YtpildcnoghojpaaGreatDoorBun7
import Derived.Deep.CutBlock
namespace Go.Proofs.YtpildcnoghojpaaGreatDoor
open Go.RowKit

/-- A charge with its record, as it lies in memory. -/
def cgRow (x : ChV × RcV) : List Value := x.1.row ++ x.2.row
theorem cgRow_len (x : ChV × RcV) : (cgRow x).length = 13 := rfl
theorem Tryz.cgT : ElemT Tryz.prog 88 91 13 160 (.agg #[.string ⟨#[]⟩, .string ⟨#[]⟩, .string ⟨#[]⟩, .int .i64 0, .int .i64 0, .string ⟨#[]⟩, .string ⟨#[]⟩, .string ⟨#[]⟩, .int .i64 0, .int .i64 0, .int .i64 0, .int .i64 0, .string ⟨#[]⟩]) := elemT_of Tryz.underlying88 (by kernel_rfl) rfl (by decide)
theorem Tryz.chT : StructT Tryz.prog 62 5 := ⟨_, Tryz.underlying62, rfl, by kernel_rfl⟩
theorem clsRow_is (o : Option ClV) : ∃ (p q : ByteArray) (i1 i2 i3 i4 : Int), clsRow o = #[.string p, .string q, .int .i64 i1, .int .i64 i2, .int .i64 i3, .int .i64 i4] := by
  cases o with
  | none => exact ⟨_, _, _, _, _, _, rfl⟩
  | some c => exact ⟨_, _, _, _, _, _, rfl⟩
theorem paysFor_skip {t : TfV} {p : List PyV} {month : Int} {r : RcV} (h : r.talk = 0 ∨ r.at_ / 2592000000 ≠ month ∨ payerOf p (nb r.frm) = none ∨ clsOf t.cl (nb r.too) = none) : paysFor t p month r = none := by
  unfold paysFor
  split
  · rfl
  · rename_i hn
    rcases h with h | h | h | h
    · exact absurd (.inl h) hn
    · exact absurd (.inr h) hn
    · rw [h]; rfl
    · rw [h]; cases payerOf p (nb r.frm) <;> rfl
theorem paysFor_full {t : TfV} {p : List PyV} {month : Int} {r : RcV} {y : PyV} {c : ClV} (h1 : r.talk ≠ 0) (h2 : r.at_ / 2592000000 = month) (h3 : payerOf p (nb r.frm) = some y) (h4 : clsOf t.cl (nb r.too) = some c) : paysFor t p month r = some (y.key, c) := by
  unfold paysFor
  rw [if_neg (fun h => h.elim (fun h => h1 h) (fun h => h h2)), h3, h4]; rfl
theorem opt_none {α : Type} {o : Option α} (h : o.isSome = false) : o = none := by cases o with
  | none => rfl
  | some x => cases h
theorem pay_none {o : Option PyV} {Y : Option ByteArray} (h : Y = o.map (·.key)) (hb : Y.isSome = false) : o = none := by
  subst h; cases o with
  | none => rfl
  | some x => cases hb
theorem addU_zero (used : ByteArray → Int) (who : ByteArray) : addU used who 0 = used := by
  funext k
  unfold addU
  by_cases e : nb who = nb k
  · rw [if_pos e, nb_inj e, Int.add_zero]
  · rw [if_neg e]
/-- What the charges' walk is told of its arguments: all is right. -/
structure UseOk (w : World) (lo : Nat) (t : TfV) (P : Option Addr) (pn pc : Nat) (p : List PyV) (L : Option Addr) (ln lc : Nat) (l : List RcV) : Prop where
  tf : TfOk w lo t
  py : Pys w lo P pn pc p
  rc : Rcs w lo L ln lc l
  et : tarE t = 0
  ep : pysE p = 0
  er : rcsE l = 0
theorem UseOk.grown {w w' : World} {lo : Nat} {t : TfV} {P : Option Addr} {pn pc : Nat} {p : List PyV} {L : Option Addr} {ln lc : Nat} {l : List RcV} (h : UseOk w lo t P pn pc p L ln lc l) (hg : w.grownBy w' none) : UseOk w' lo t P pn pc p L ln lc l :=
  ⟨h.tf.grown hg (fun g e => by cases e), h.py.grown hg (fun g e => by cases e), h.rc.grown hg (fun g e => by cases e), h.et, h.ep, h.er⟩
def ChargesV (t : TfV) (p : List PyV) (month : Int) (l : List RcV) (w : World) (e : Ending) (w' : World) : Prop := ∃ A n c, e = .returned (.slice A n c) ∧ OwnR cgRow 13 w' w.heap.size 91 A n c (chgAll t p month l) ∧ w.grownBy w' none
set_option maxHeartbeats 8000000 in
set_option maxRecDepth 100000 in
theorem charges_any (lo : Nat) (cA iA : Option Addr) (cn cc en ic : Nat) (free : Int) (cl : List ClV) (ins : List ByteArray) (P : Option Addr) (pn pc : Nat) (p : List PyV) (L : Option Addr) (ln lc : Nat) (l : List RcV) (month : Int) (w : World)
    (h : UseOk w lo ⟨cA, cn, cc, free, iA, en, ic, cl, ins⟩ P pn pc p L ln lc l) (hpn : pn ≤ 1000) (hfr : 0 ≤ free ∧ free ≤ 2592000000) :
    Calls Tryz.prog 24 #[.agg #[.slice cA cn cc, .int .i64 free, .slice iA en ic], .slice P pn pc, .slice L ln lc, .int .i64 month] w (ChargesV ⟨cA, cn, cc, free, iA, en, ic, cl, ins⟩ p month l w) := by
  obtain ⟨htf, hpy, hrc, het, hep, her⟩ := h
  obtain ⟨hr1, hr2, hr3⟩ := rcs_right her
  obtain ⟨hsr, hnum⟩ := tar_right htf.2.1.len het
  have hln : ln ≤ 3000 := by rw [← hrc.1.len]; exact hr1
  have hcn : cn ≤ 1000 := htf.1.2.2.1
  have hen : en ≤ 1000 := htf.1.2.2.2
  have HTF := Lib.hid htf; have HPY := Lib.hid hpy; have HRC := Lib.hid hrc; have HRR := Lib.hid hr2; have HSR := Lib.hid hsr; have HNU := Lib.hid hnum
  have HEP := Lib.hid hep
  have HPL := Lib.hid (fun q hq => (hpy.2 q hq).2.len : ∀ q ∈ p, q.nums.length = q.nn)
  have HOC := Lib.hid (fun k x hx => chg_ok (t := ⟨cA, cn, cc, free, iA, en, ic, cl, ins⟩) (p := p) (month := month) hfr.1 hnum hr2 (fun s c h => clsOf_mem h) k x hx : ∀ k x, x ∈ (chgTo ⟨cA, cn, cc, free, iA, en, ic, cl, ins⟩ p month l k).1 → ChOk x)
  have HUB := Lib.hid (fun k s => used_bd (t := ⟨cA, cn, cc, free, iA, en, ic, cl, ins⟩) (p := p) (month := month) hfr.1 (fun r h => (hr2 r h).talk.1) k s)
  obtain ⟨f0, f1⟩ := hfr
  clear htf hpy hrc het hep her hr1 hr2 hr3 hsr hnum
  go_enter Tryz.func24, Tryz.ntmps24
  go_wp2_with fail
  refine (owners_any lo P pn pc p _ (by exact HPY.out.grown (gr_alloc (gr_refl w none) _) (fun g e => by cases e)) hpn).mono ?_
  rintro e w2 ⟨ob, mo, rfl, hms, hg2⟩
  have HG2 := Lib.hid (gr_none (gr_alloc (gr_refl w none) (.cells #[.slice cA cn cc, .int .i64 free, .slice iA en ic] 51)) hg2)
  have HT := Lib.hid ((Blk.new w 51 #[.slice cA cn cc, .int .i64 free, .slice iA en ic]).grown hg2 (by simp))
  obtain ⟨F, hF⟩ : ∃ F, lastOf (pairsOf p) = F := ⟨_, rfl⟩
  rw [hF] at hms
  have HF := Lib.hid (fun s => by rw [← hF]; exact payer_last HPL.out HEP.out s : ∀ s, F s = (payerOf p (nb s)).map (·.key))
  have HMS := Lib.hid hms
  have z2 := hg2.size; simp at z2
  have zo := hms.lt
  clear hF hms hg2
  have hmm := @run_makeMap Tryz.prog
  go_wp2_with fail
  clear hmm
  go_loopw [11, 13, 14, 15, 16, 17, 18, 24] (fun out _ _ _ _ _ _ t wr => ∃ (k m n c : Nat) (A : Option Addr), k ≤ ln ∧ t = .int .i64 k ∧ out = .slice A n c ∧ w.grownBy wr none ∧ (w2.alloc (.map #[] 0)).grownBy wr (some w2.heap.size) ∧
    MapSI wr w2.heap.size m (chgTo ⟨cA, cn, cc, free, iA, en, ic, cl, ins⟩ p month l k).2 ∧ m ≤ k ∧ OwnR cgRow 13 wr (w2.heap.size + 1) 91 A n c (chgTo ⟨cA, cn, cc, free, iA, en, ic, cl, ins⟩ p month l k).1) (fun _ _ _ _ _ _ _ t _ => ln - (intOf t).toNat)
  case atStart => exact ⟨0, 0, 0, 0, none, Nat.zero_le _, rfl, rfl, gr_alloc HG2.out _, gr_refl _ _, MapSI.new _, Nat.le_refl _, OwnR.nil _ _ _⟩
  case round =>
    obtain ⟨k, m, n, c, A, hk, rfl, rfl, hg, hgb, hsi, hm, hown⟩ := hrel
    have zr := hgb.size; simp at zr
    have zg := hg.size
    have hnk : n ≤ k := by rw [← hown.2]; exact chgTo_len _ _ _ _ _
    have HG := Lib.hid hg; have HSI := Lib.hid hsi; have HO := Lib.hid hown
    have HTr := Lib.hid ((HT.out.alloc (.map #[] 0)).grown hgb (by simp; omega))
    have HMr := Lib.hid ((HMS.out.kept (gr_alloc (gr_refl _ none) (.map #[] 0)) (by simp)).kept hgb (by simp; omega))
    have HGB := Lib.hid hgb
    clear hg hgb hsi hown
    by_cases hlt : k < ln
    · obtain ⟨g, o, ⟨id, frm, too, at_, ring, talk, how, car⟩, rfl, _, hgl, hz, hcc⟩ := (HRC.out.1.grown HG.out (fun g e => by cases e)).get RcV.row_len hlt
      obtain ⟨p1, p2, p3, p4, p5, p6⟩ := HRC.out.2 _ (mem_of_get hz)
      obtain ⟨t1, t2, -, t3, t4, -, -⟩ := (HRR.out _ (mem_of_get hz)).talk
      dsimp only at p1 p2 p3 p4 p5 p6 t1 t2 t3 t4
      have HZ := Lib.hid hz; have HC := Lib.hid hcc; clear hz hcc
      obtain ⟨wa, hwa⟩ : ∃ wa, wr.alloc (.cells #[.string id, .string frm, .string too, .int .i64 at_, .int .i64 ring, .int .i64 talk, .int .i64 how, .string car] 43) = wa := ⟨_, rfl⟩
      have HR := Lib.hid (show Blk wa wr.heap.size 43 #[.string id, .string frm, .string too, .int .i64 at_, .int .i64 ring, .int .i64 talk, .int .i64 how, .string car] by rw [← hwa]; exact Blk.new _ _ _)
      have HGa := Lib.hid (show wr.grownBy wa none by rw [← hwa]; exact gr_alloc (gr_refl _ _) _)
      have HWA := Lib.hid hwa; clear hwa
      have k1 := HR.out.cell 1
      have k2 := HR.out.cell 2
      obtain ⟨Y, hY⟩ : ∃ Y, F frm = Y := ⟨_, rfl⟩
      obtain ⟨YS, hYS⟩ : ∃ YS, Y.getD ⟨#[]⟩ = YS := ⟨_, rfl⟩
      obtain ⟨YB, hYB⟩ : ∃ YB, Y.isSome = YB := ⟨_, rfl⟩
      have HMa := Lib.hid (HMr.out.kept HGa.out (by simp))
      have HTa := Lib.hid (HTr.out.grown HGa.out (by simp))
      have HY := Lib.hid hY
      go_wp2_with (first
        | (refine wpl_load_at Tryz.rcT rfl _ rfl _ rfl [.string id, .string frm, .string too, .int .i64 at_, .int .i64 ring, .int .i64 talk, .int .i64 how, .string car] rfl (fun j u hu => by rw [add_mk]; exact HC.out j u hu) ?_)
        | (rw [HWA.out]; refine wpl_sslook2 rfl _ _ rfl rfl frm rfl (by unfold maxLen; omega) (by exact HMa.out) ?_)
        | (refine wpl_load_all Tryz.tfT rfl _ rfl _ rfl _ _ HTa.out rfl ?_)
        | fail)
      refine (classOf_any lo ⟨cA, cn, cc, free, iA, en, ic, cl, ins⟩ too _ (HTF.out.grown (gr_none HG.out HGa.out) (fun g e => by cases e)) (by omega) HSR.out).mono ?_
      rintro e w3 ⟨rfl, hg3⟩
      have HYS := Lib.hid hYS; have HYB := Lib.hid hYB
      clear hY hYS hYB k1 k2
      obtain ⟨C, hC⟩ : ∃ C, clsOf cl (nb too) = C := ⟨_, rfl⟩
      rw [show clsOf (TfV.cl ⟨cA, cn, cc, free, iA, en, ic, cl, ins⟩) (nb too) = C from hC]
      obtain ⟨q0, q1, i1, i2, i3, i4, hrow⟩ := clsRow_is C
      rw [hrow]
      obtain ⟨CB, hCB⟩ : ∃ CB, C.isSome = CB := ⟨_, rfl⟩
      rw [hCB]
      have HCC := Lib.hid hC; have HROW := Lib.hid hrow; have HCB := Lib.hid hCB
      clear hC hrow hCB
      have HG3 := Lib.hid (gr_none HGa.out hg3)
      obtain ⟨wb, hwb⟩ : ∃ wb, w3.alloc (.cells #[.string q0, .string q1, .int .i64 i1, .int .i64 i2, .int .i64 i3, .int .i64 i4] 47) = wb := ⟨_, rfl⟩
      have HK := Lib.hid (show Blk wb w3.heap.size 47 #[.string q0, .string q1, .int .i64 i1, .int .i64 i2, .int .i64 i3, .int .i64 i4] by rw [← hwb]; exact Blk.new _ _ _)
      have HGb := Lib.hid (show wr.grownBy wb none by rw [← hwb]; exact gr_alloc HG3.out _)
      have HRb := Lib.hid (show Blk wb wr.heap.size 43 #[.string id, .string frm, .string too, .int .i64 at_, .int .i64 ring, .int .i64 talk, .int .i64 how, .string car] by rw [← hwb]; exact (HR.out.grown hg3 (by simp)).alloc _)
      have zb := HGb.out.size
      have zk := HK.out.lt
      have z3 := HG3.out.size
      clear hg3
      have k3 := HRb.out.cell 3
      have k5 := HRb.out.cell 5
      by_cases d1 : talk = 0
      · have e1 : (talk == 0) = true := by simpa using d1
        have HP := Lib.hid (paysFor_skip (t := ⟨cA, cn, cc, free, iA, en, ic, cl, ins⟩) (p := p) (month := month) (r := ⟨id, frm, too, at_, ring, talk, how, car⟩) (.inl d1))
        go_wp2_with fail
        go_roundw
        case rel => exact ⟨k + 1, m, n, c, A, by omega, by go_num, rfl, gr_none HG.out HGb.out, gr_none HGB.out HGb.out, by rw [chgTo_skip HZ.out HP.out]; exact HSI.out.kept HGb.out (by simp), by omega, by rw [chgTo_skip HZ.out HP.out]; exact HO.out.kept HGb.out (fun g e => by cases e)⟩
        case measure => simp [intOf]; omega
      · have e1 : (talk == 0) = false := by simpa using d1
        have D1 := Lib.hid d1; clear d1
        by_cases d2 : at_ / 2592000000 = month
        · have e2 : (at_ / 2592000000 != month) = false := by simpa using d2
          have D2 := Lib.hid d2; clear d2
          cases YB
          · have HP := Lib.hid (paysFor_skip (t := ⟨cA, cn, cc, free, iA, en, ic, cl, ins⟩) (p := p) (month := month) (r := ⟨id, frm, too, at_, ring, talk, how, car⟩) (.inr (.inr (.inl (pay_none (HY.out.symm.trans (HF.out frm)) HYB.out)))))
            go_wp2_with fail
            go_roundw
            case rel => exact ⟨k + 1, m, n, c, A, by omega, by go_num, rfl, gr_none HG.out HGb.out, gr_none HGB.out HGb.out, by rw [chgTo_skip HZ.out HP.out]; exact HSI.out.kept HGb.out (by simp), by omega, by rw [chgTo_skip HZ.out HP.out]; exact HO.out.kept HGb.out (fun g e => by cases e)⟩
            case measure => simp [intOf]; omega
          · cases CB
            · have HP := Lib.hid (paysFor_skip (t := ⟨cA, cn, cc, free, iA, en, ic, cl, ins⟩) (p := p) (month := month) (r := ⟨id, frm, too, at_, ring, talk, how, car⟩) (.inr (.inr (.inr (HCC.out.trans (opt_none HCB.out))))))
              go_wp2_with fail
              go_roundw
              case rel => exact ⟨k + 1, m, n, c, A, by omega, by go_num, rfl, gr_none HG.out HGb.out, gr_none HGB.out HGb.out, by rw [chgTo_skip HZ.out HP.out]; exact HSI.out.kept HGb.out (by simp), by omega, by rw [chgTo_skip HZ.out HP.out]; exact HO.out.kept HGb.out (fun g e => by cases e)⟩
              case measure => simp [intOf]; omega
            · rcases C with _ | ⟨pre, name, setup, first, step, rate⟩
              · exact absurd HCB.out (by decide)
              have hrow := HROW.out
              simp only [clsRow, Option.elim] at hrow
              simp only [Array.mk.injEq, List.cons.injEq, Value.string.injEq, Value.int.injEq, true_and, and_true] at hrow
              obtain ⟨rfl, rfl, rfl, rfl, rfl, rfl⟩ := hrow
              obtain ⟨⟨key, nA, nn, nc, nums⟩, hpo, rfl⟩ : ∃ y, payerOf p (nb frm) = some y ∧ y.key = YS := by
                have h := HF.out frm
                rw [HY.out] at h
                rcases Y with _ | who
                · exact absurd HYB.out (by decide)
                · obtain ⟨y, h1, h2⟩ := Option.map_eq_some_iff.1 h.symm
                  exact ⟨y, h1, h2.trans HYS.out⟩
              have hks : key.size ≤ 1000 := (HPY.out.2 _ (List.mem_of_find?_eq_some hpo)).1.1
              have HP := Lib.hid (paysFor_full (t := ⟨cA, cn, cc, free, iA, en, ic, cl, ins⟩) (p := p) (month := month) (r := ⟨id, frm, too, at_, ring, talk, how, car⟩) D1.out D2.out hpo HCC.out)
              clear hpo HCB HROW
              dsimp only
              have k0 := HRb.out.cell 0
              have c1 := HK.out.cell 1
              go_upto_region 11 with (fail)
              obtain ⟨wc, hwc⟩ : ∃ wc, wb.alloc (.cells #[.string id, .string key, .string name, .int .i64 0, .int .i64 0] 62) = wc := ⟨_, rfl⟩
              have HX := Lib.hid (show Blk wc wb.heap.size 62 #[.string id, .string key, .string name, .int .i64 0, .int .i64 0] by rw [← hwc]; exact Blk.new _ _ _)
              have HGc := Lib.hid (show wr.grownBy wc none by rw [← hwc]; exact gr_alloc HGb.out _)
              have HRc := Lib.hid (show Blk wc wr.heap.size 43 #[.string id, .string frm, .string too, .int .i64 at_, .int .i64 ring, .int .i64 talk, .int .i64 how, .string car] by rw [← hwc]; exact HRb.out.alloc _)
              have HKc := Lib.hid (show Blk wc w3.heap.size 47 #[.string pre, .string name, .int .i64 setup, .int .i64 first, .int .i64 step, .int .i64 rate] by rw [← hwc]; exact HK.out.alloc _)
              have HTc := Lib.hid (HTr.out.grown HGc.out (by simp))
              have HSc := Lib.hid (HSI.out.kept HGc.out (by simp))
              rw [hwc]
              clear hwc k0 c1 k3 k5
              have kc1 := HKc.out.cell 1
              have tc1 := HTc.out.cell 1
              have tc2 := HTc.out.cell 2
              have rc5 := HRc.out.cell 5
              have xf3 := HX.out.frozen 3
              have xc3 := HX.out.cell 3
              obtain ⟨B, hB⟩ : ∃ B, ins.any (fun x => nb x == nb name) = B := ⟨_, rfl⟩
              have HB := Lib.hid hB
              obtain ⟨U, hU⟩ : ∃ U, (chgTo ⟨cA, cn, cc, free, iA, en, ic, cl, ins⟩ p month l k).2 key = U := ⟨_, rfl⟩
              obtain ⟨u0, u1⟩ := HUB.out k key
              rw [hU] at u0 u1
              have HU := Lib.hid hU
              have zc := HGc.out.size
              have zx := HX.out.lt
              have u2 : U ≤ free := u1
              clear u1
              clear hB hU
              cases B
              · have HFO := Lib.hid (show freeOf ⟨cA, cn, cc, free, iA, en, ic, cl, ins⟩ (chgTo ⟨cA, cn, cc, free, iA, en, ic, cl, ins⟩ p month l k).2 key ⟨pre, name, setup, first, step, rate⟩ ⟨id, frm, too, at_, ring, talk, how, car⟩ = 0 by unfold freeOf; dsimp only; rw [HB.out]; rfl)
                go_upto_region 14 with (first
                  | (go_at_call 49; refine (containsS_any lo _ _ _ ins name _ (by exact (HTF.out.grown (gr_none HG.out HGc.out) (fun g e => by cases e)).2.2) (by omega)).mono ?_; rintro e w' ⟨rfl, rfl⟩; rw [HB.out])
                  | fail)
                obtain ⟨FR, hFR⟩ : ∃ FR : Int, FR = 0 := ⟨_, rfl⟩
                have HX2 := Lib.hid (show Blk wc wb.heap.size 62 #[.string id, .string key, .string name, .int .i64 FR, .int .i64 0] by rw [hFR]; exact HX.out)
                rw [← hFR] at HFO
                have hf0 : 0 ≤ FR := by omega
                have hf1 : FR ≤ talk := by omega
                have HGe := Lib.hid (show wr.grownBy wc (some w2.heap.size) from gr_trans (gr_refl wr _) HGc.out (fun g e => by cases e))
                have HGe2 := Lib.hid (gr_none HG.out HGc.out)
                have HSe := Lib.hid (show MapSI wc w2.heap.size m (addU (chgTo ⟨cA, cn, cc, free, iA, en, ic, cl, ins⟩ p month l k).2 key (freeOf ⟨cA, cn, cc, free, iA, en, ic, cl, ins⟩ (chgTo ⟨cA, cn, cc, free, iA, en, ic, cl, ins⟩ p month l k).2 key ⟨pre, name, setup, first, step, rate⟩ ⟨id, frm, too, at_, ring, talk, how, car⟩)) by
                  rw [HFO.out, hFR, addU_zero]; exact HSc.out)
                clear kc1 tc1 tc2 rc5 xf3 xc3 hFR HSc HX
                have kc5 := HRc.out.cell 5
                have xc3 := HX2.out.cell 3
                have ze := HGe.out.size
                go_wp2_with (first
                  | (refine wpl_load_all Tryz.clT rfl _ rfl _ rfl _ _ HKc.out rfl ?_)
                  | fail)
                refine (price_any ⟨pre, name, setup, first, step, rate⟩ (talk - FR) _ (HNU.out _ (clsOf_mem HCC.out)) (by omega) (by omega)).mono ?_
                rintro e w6 ⟨rfl, hg6⟩
                obtain ⟨PV, hPV⟩ : ∃ PV, priceOf ⟨pre, name, setup, first, step, rate⟩ (talk - FR) = PV := ⟨_, rfl⟩
                rw [hPV]
                have HPV := Lib.hid hPV
                have HX6 := Lib.hid (HX2.out.grown hg6 (by simp))
                have HR6 := Lib.hid (HRc.out.grown hg6 (by simp))
                have HG6 := Lib.hid (gr_none HGe.out hg6)
                have HG62 := Lib.hid (gr_none HGe2.out hg6)
                have HS6 := Lib.hid (HSe.out.kept hg6 (by simp))
                have z6 := hg6.size
                clear hg6 hPV kc5 xc3 HX2 HRc HKc HSe HGe HGe2
                have xf4 := HX6.out.frozen 4
                have xc4 := HX6.out.cell 4
                go_upto_region 15 with (fail)
                obtain ⟨w7, hw7⟩ : ∃ w7, w6.setCell ⟨wb.heap.size, 4, none⟩ (.int .i64 PV) = w7 := ⟨_, rfl⟩
                rw [hw7]
                have HX7 := Lib.hid (show Blk w7 wb.heap.size 62 #[.string id, .string key, .string name, .int .i64 FR, .int .i64 PV] by rw [← hw7]; exact HX6.out.set_ 4 _)
                have HR7 := Lib.hid (show Blk w7 wr.heap.size 43 #[.string id, .string frm, .string too, .int .i64 at_, .int .i64 ring, .int .i64 talk, .int .i64 how, .string car] by rw [← hw7]; exact HR6.out.far (by show wr.heap.size ≠ wb.heap.size; omega) _)
                have HG7 := Lib.hid (show wr.grownBy w7 (some w2.heap.size) by rw [← hw7]; exact gr_setCell HG6.out (.inr (by show wr.heap.size ≤ wb.heap.size; omega)) _)
                have HG72 := Lib.hid (show w.grownBy w7 none by rw [← hw7]; exact gr_setCell HG62.out (.inr (by show w.heap.size ≤ wb.heap.size; omega)) _)
                have HS7 := Lib.hid (show MapSI w7 w2.heap.size (m) _ by rw [← hw7]; exact HS6.out.kept (row := some wb.heap.size) (gr_setCell (gr_refl _ _) (.inl rfl) _) (by simp; omega))
                have HO7 := Lib.hid (HO.out.kept HG7.out (fun g e e2 => by have := (HO.out.1.lt e2).1; injection e with e; omega))
                have z7 := HG7.out.size
                clear xf4 xc4 hw7 HX6 HR6 HG6 HG62 HS6
                go_wp2_with (first
                  | (refine wpl_load_all Tryz.chT rfl _ rfl _ rfl _ _ HX7.out rfl ?_)
                  | (refine wpl_load_all Tryz.rcT rfl _ rfl _ rfl _ _ HR7.out rfl ?_)
                  | (at_builtin
                     refine wpl_app _ rfl _ _ Tryz.cgT rfl (w2.heap.size + 1) A n c _ rfl (by exact HO7.out.1.alloc _) _ _ 1 1 [.string id, .string key, .string name, .int .i64 FR, .int .i64 PV, .string id, .string frm, .string too, .int .i64 at_, .int .i64 ring, .int .i64 talk, .int .i64 how, .string car] rfl (by exact Reads.one _ _ _ _ rfl) (by simp [Value.oneCell']) (by unfold maxLen; omega) (by omega) (by simp; omega) ?_
                     intro A5 c5 w5 h5
                     have H5 := Lib.hid h5; clear h5)
                  | fail)
                go_roundw
                case rel =>
                  have hrow : cgRow (chgOf ⟨cA, cn, cc, free, iA, en, ic, cl, ins⟩ (chgTo ⟨cA, cn, cc, free, iA, en, ic, cl, ins⟩ p month l k).2 key ⟨pre, name, setup, first, step, rate⟩ ⟨id, frm, too, at_, ring, talk, how, car⟩, ⟨id, frm, too, at_, ring, talk, how, car⟩) = [.string id, .string key, .string name, .int .i64 FR, .int .i64 PV, .string id, .string frm, .string too, .int .i64 at_, .int .i64 ring, .int .i64 talk, .int .i64 how, .string car] := by
                    unfold cgRow chgOf ChV.row RcV.row
                    dsimp only
                    rw [HFO.out, HPV.out]
                    rfl
                  exact ⟨k + 1, m, n + 1, c5, A5, by omega, by go_num, rfl, H5.out.gr (gr_alloc HG72.out _) (HO7.out.1.alloc _) (by omega), H5.out.gr (gr_alloc (gr_same HGB.out HG7.out) _) (HO7.out.1.alloc _) (by simp), by rw [chgTo_add HZ.out HP.out]; exact (HS7.out.kept (gr_alloc (gr_refl _ none) _) (by simp)).kept H5.out.2.1 (fun e => by have := (HO7.out.1.lt e.symm).1; omega), by omega, by rw [chgTo_add HZ.out HP.out]; exact (HO7.out.alloc _).app rfl (by rw [hrow]; exact H5.out)⟩
                case measure => simp [intOf]; omega
              · go_upto_region 13 with (first
                  | (go_at_call 49; refine (containsS_any lo _ _ _ ins name _ (by exact (HTF.out.grown (gr_none HG.out HGc.out) (fun g e => by cases e)).2.2) (by omega)).mono ?_; rintro e w' ⟨rfl, rfl⟩; rw [HB.out])
                  | (refine wpl_silook rfl _ _ rfl rfl key rfl (by unfold maxLen; omega) (by exact HSc.out) ?_; rw [HU.out])
                  | fail)
                obtain ⟨FR, hFR⟩ : ∃ FR, min (free - U) talk = FR := ⟨_, rfl⟩
                rw [hFR]
                have hf0 : 0 ≤ FR := by omega
                have hf1 : FR ≤ talk := by omega
                have hf2 : U + FR ≤ 2592000000 := by omega
                have HFO := Lib.hid (show freeOf ⟨cA, cn, cc, free, iA, en, ic, cl, ins⟩ (chgTo ⟨cA, cn, cc, free, iA, en, ic, cl, ins⟩ p month l k).2 key ⟨pre, name, setup, first, step, rate⟩ ⟨id, frm, too, at_, ring, talk, how, car⟩ = FR by unfold freeOf; dsimp only; rw [HB.out, HU.out, if_pos rfl]; exact hFR)
                obtain ⟨wd, hwd⟩ : ∃ wd, wc.setCell ⟨wb.heap.size, 3, none⟩ (.int .i64 FR) = wd := ⟨_, rfl⟩
                rw [hwd]
                have HXd := Lib.hid (show Blk wd wb.heap.size 62 #[.string id, .string key, .string name, .int .i64 FR, .int .i64 0] by rw [← hwd]; exact HX.out.set_ 3 _)
                have HGd := Lib.hid (show wr.grownBy wd none by rw [← hwd]; exact gr_setCell HGc.out (.inr (by show wr.heap.size ≤ wb.heap.size; omega)) _)
                have HRd := Lib.hid (show Blk wd wr.heap.size 43 #[.string id, .string frm, .string too, .int .i64 at_, .int .i64 ring, .int .i64 talk, .int .i64 how, .string car] by rw [← hwd]; exact HRc.out.far (by show wr.heap.size ≠ wb.heap.size; omega) _)
                have HKd := Lib.hid (show Blk wd w3.heap.size 47 #[.string pre, .string name, .int .i64 setup, .int .i64 first, .int .i64 step, .int .i64 rate] by rw [← hwd]; exact HKc.out.far (by show w3.heap.size ≠ wb.heap.size; omega) _)
                have HSd := Lib.hid (HSI.out.kept HGd.out (by simp))
                clear kc1 tc1 tc2 rc5 xf3 xc3 hFR hwd HSc HX HRc HKc HTc
                have x3 := HXd.out.cell 3
                go_upto_region 14 with (first
                  | (refine wpl_silook rfl _ _ rfl rfl key rfl (by unfold maxLen; omega) (by exact HSd.out) ?_; rw [HU.out])
                  | (at_mapUpdate
                     refine wpl_siput rfl _ _ _ rfl rfl key (U + FR) rfl rfl (by unfold maxLen; omega) (int_wf (by omega) (by omega)) (by exact HSd.out) (by unfold maxLen; omega) ?_
                     intro we hse hge
                     have HSe0 := Lib.hid hse; have HGe0 := Lib.hid hge
                     clear hse hge)
                  | fail)
                clear x3
                have HX2 := Lib.hid (HXd.out.grown HGe0.out (by simp; omega))
                have HRc := Lib.hid (HRd.out.grown HGe0.out (by simp; omega))
                have HKc := Lib.hid (HKd.out.grown HGe0.out (by simp; omega))
                have HGe := Lib.hid (show wr.grownBy we (some w2.heap.size) from gr_same (gr_trans (gr_refl wr (some w2.heap.size)) HGd.out (fun g e => by cases e)) HGe0.out)
                have HGe2 := Lib.hid (gr_trans (gr_none HG.out HGd.out) HGe0.out (fun g e => .inr (by injection e with e; omega)))
                have HSe := Lib.hid (show MapSI we w2.heap.size (m + 1) (addU (chgTo ⟨cA, cn, cc, free, iA, en, ic, cl, ins⟩ p month l k).2 key (freeOf ⟨cA, cn, cc, free, iA, en, ic, cl, ins⟩ (chgTo ⟨cA, cn, cc, free, iA, en, ic, cl, ins⟩ p month l k).2 key ⟨pre, name, setup, first, step, rate⟩ ⟨id, frm, too, at_, ring, talk, how, car⟩)) by
                  rw [HFO.out]; have h := HSe0.out; rw [← HU.out] at h; exact h)
                clear HXd HRd HKd HSd HSe0 HGe0 HGd
                have kc5 := HRc.out.cell 5
                have xc3 := HX2.out.cell 3
                have ze := HGe.out.size
                go_wp2_with (first
                  | (refine wpl_load_all Tryz.clT rfl _ rfl _ rfl _ _ HKc.out rfl ?_)
                  | fail)
                refine (price_any ⟨pre, name, setup, first, step, rate⟩ (talk - FR) _ (HNU.out _ (clsOf_mem HCC.out)) (by omega) (by omega)).mono ?_
                rintro e w6 ⟨rfl, hg6⟩
                obtain ⟨PV, hPV⟩ : ∃ PV, priceOf ⟨pre, name, setup, first, step, rate⟩ (talk - FR) = PV := ⟨_, rfl⟩
                rw [hPV]
                have HPV := Lib.hid hPV
                have HX6 := Lib.hid (HX2.out.grown hg6 (by simp))
                have HR6 := Lib.hid (HRc.out.grown hg6 (by simp))
                have HG6 := Lib.hid (gr_none HGe.out hg6)
                have HG62 := Lib.hid (gr_none HGe2.out hg6)
                have HS6 := Lib.hid (HSe.out.kept hg6 (by simp))
                have z6 := hg6.size
                clear hg6 hPV kc5 xc3 HX2 HRc HKc HSe HGe HGe2
                have xf4 := HX6.out.frozen 4
                have xc4 := HX6.out.cell 4
                go_upto_region 15 with (fail)
                obtain ⟨w7, hw7⟩ : ∃ w7, w6.setCell ⟨wb.heap.size, 4, none⟩ (.int .i64 PV) = w7 := ⟨_, rfl⟩
                rw [hw7]
                have HX7 := Lib.hid (show Blk w7 wb.heap.size 62 #[.string id, .string key, .string name, .int .i64 FR, .int .i64 PV] by rw [← hw7]; exact HX6.out.set_ 4 _)
                have HR7 := Lib.hid (show Blk w7 wr.heap.size 43 #[.string id, .string frm, .string too, .int .i64 at_, .int .i64 ring, .int .i64 talk, .int .i64 how, .string car] by rw [← hw7]; exact HR6.out.far (by show wr.heap.size ≠ wb.heap.size; omega) _)
                have HG7 := Lib.hid (show wr.grownBy w7 (some w2.heap.size) by rw [← hw7]; exact gr_setCell HG6.out (.inr (by show wr.heap.size ≤ wb.heap.size; omega)) _)
                have HG72 := Lib.hid (show w.grownBy w7 none by rw [← hw7]; exact gr_setCell HG62.out (.inr (by show w.heap.size ≤ wb.heap.size; omega)) _)
                have HS7 := Lib.hid (show MapSI w7 w2.heap.size (m + 1) _ by rw [← hw7]; exact HS6.out.kept (row := some wb.heap.size) (gr_setCell (gr_refl _ _) (.inl rfl) _) (by simp; omega))
                have HO7 := Lib.hid (HO.out.kept HG7.out (fun g e e2 => by have := (HO.out.1.lt e2).1; injection e with e; omega))
                have z7 := HG7.out.size
                clear xf4 xc4 hw7 HX6 HR6 HG6 HG62 HS6
                go_wp2_with (first
                  | (refine wpl_load_all Tryz.chT rfl _ rfl _ rfl _ _ HX7.out rfl ?_)
                  | (refine wpl_load_all Tryz.rcT rfl _ rfl _ rfl _ _ HR7.out rfl ?_)
                  | (at_builtin
                     refine wpl_app _ rfl _ _ Tryz.cgT rfl (w2.heap.size + 1) A n c _ rfl (by exact HO7.out.1.alloc _) _ _ 1 1 [.string id, .string key, .string name, .int .i64 FR, .int .i64 PV, .string id, .string frm, .string too, .int .i64 at_, .int .i64 ring, .int .i64 talk, .int .i64 how, .string car] rfl (by exact Reads.one _ _ _ _ rfl) (by simp [Value.oneCell']) (by unfold maxLen; omega) (by omega) (by simp; omega) ?_
                     intro A5 c5 w5 h5
                     have H5 := Lib.hid h5; clear h5)
                  | fail)
                go_roundw
                case rel =>
                  have hrow : cgRow (chgOf ⟨cA, cn, cc, free, iA, en, ic, cl, ins⟩ (chgTo ⟨cA, cn, cc, free, iA, en, ic, cl, ins⟩ p month l k).2 key ⟨pre, name, setup, first, step, rate⟩ ⟨id, frm, too, at_, ring, talk, how, car⟩, ⟨id, frm, too, at_, ring, talk, how, car⟩) = [.string id, .string key, .string name, .int .i64 FR, .int .i64 PV, .string id, .string frm, .string too, .int .i64 at_, .int .i64 ring, .int .i64 talk, .int .i64 how, .string car] := by
                    unfold cgRow chgOf ChV.row RcV.row
                    dsimp only
                    rw [HFO.out, HPV.out]
                    rfl
                  exact ⟨k + 1, m + 1, n + 1, c5, A5, by omega, by go_num, rfl, H5.out.gr (gr_alloc HG72.out _) (HO7.out.1.alloc _) (by omega), H5.out.gr (gr_alloc (gr_same HGB.out HG7.out) _) (HO7.out.1.alloc _) (by simp), by rw [chgTo_add HZ.out HP.out]; exact (HS7.out.kept (gr_alloc (gr_refl _ none) _) (by simp)).kept H5.out.2.1 (fun e => by have := (HO7.out.1.lt e.symm).1; omega), by omega, by rw [chgTo_add HZ.out HP.out]; exact (HO7.out.alloc _).app rfl (by rw [hrow]; exact H5.out)⟩
                case measure => simp [intOf]; omega
        · have e2 : (at_ / 2592000000 != month) = true := by simpa using d2
          have HP := Lib.hid (paysFor_skip (t := ⟨cA, cn, cc, free, iA, en, ic, cl, ins⟩) (p := p) (month := month) (r := ⟨id, frm, too, at_, ring, talk, how, car⟩) (.inr (.inl d2)))
          go_wp2_with fail
          go_roundw
          case rel => exact ⟨k + 1, m, n, c, A, by omega, by go_num, rfl, gr_none HG.out HGb.out, gr_none HGB.out HGb.out, by rw [chgTo_skip HZ.out HP.out]; exact HSI.out.kept HGb.out (by simp), by omega, by rw [chgTo_skip HZ.out HP.out]; exact HO.out.kept HGb.out (fun g e => by cases e)⟩
          case measure => simp [intOf]; omega
    · obtain rfl : k = ln := by omega
      have HT := Lib.hid HO.out
      go_wp2_with fail
      go_ret
      exact ⟨A, n, c, rfl, by unfold chgAll; rw [HRC.out.1.len]; exact HO.out.lower (by omega), HG.out⟩
end Go.Proofs.YtpildcnoghojpaaGreatDoor

/- Contract of account.Top. Conditions: the table of powers of ten as laid. -/
import Derived.Test.YtlkibeckfpjccaaGreatDoorTc5
namespace Go.Proofs.YtlkibeckfpjccaaGreatDoor
open Go.RowKit Go.Maps Go.WideMaps

theorem Tryz.stTop : ElemT Tryz.prog 27 9 1 16 (.string ⟨#[]⟩) := elemT_of Tryz.underlying27 (by kernel_rfl) rfl (by decide)
theorem nodup_len {α : Type} [DecidableEq α] : ∀ {a b : List α}, a.Nodup → (∀ x ∈ a, x ∈ b) → a.length ≤ b.length
  | [], b, _, _ => Nat.zero_le _
  | x :: a, b, h, hs => by
    obtain ⟨h1, h2⟩ := List.nodup_cons.1 h
    have hx := hs x (List.mem_cons_self ..)
    have ih := nodup_len (b := b.erase x) h2 (fun y hy => (List.mem_erase_of_ne (fun e => h1 (by rw [← e]; exact hy))).2 (hs y (List.mem_cons_of_mem _ hy)))
    rw [List.length_erase_of_mem hx] at ih
    have := List.length_pos_of_mem hx
    rw [List.length_cons]
    omega
section
variable {L : List (ChV × RcV)} {a s : List ByteArray} {x : ByteArray} {Lf : ByteArray → Bool}
theorem top_src {k : ByteArray} (h : 0 < costK (·.2.too) L k) : ∃ y ∈ L, y.2.too = k := by
  cases hc : L.any (fun x => nb x.2.too == nb k)
  · rw [costK_out (f := (·.2.too)) hc] at h; exact absurd h (by decide)
  · obtain ⟨y, hy, he⟩ := List.any_eq_true.1 hc
    exact ⟨y, hy, nb_inj (by simpa using he)⟩
theorem top_size {k : ByteArray} (hs : ∀ x ∈ L, x.1.pay.size ≤ 1000 ∧ x.2.too.size ≤ 1000) (h : 0 < costK (·.2.too) L k) : k.size ≤ 1000 := by
  obtain ⟨y, hy, e⟩ := top_src h
  rw [← e]
  exact (hs y hy).2
theorem top_len (hn : a.Nodup) (h : ∀ k ∈ a, 0 < costK (·.2.too) L k) (hl : L.length ≤ 3000) : a.length ≤ 3000 := by
  have h1 := nodup_len (b := L.map (·.2.too)) hn (fun k hk => by
    obtain ⟨y, hy, e⟩ := top_src (h k hk)
    exact List.mem_map.2 ⟨y, hy, e⟩)
  rw [List.length_map] at h1
  omega
theorem top_nodup (hn : a.Nodup) (hm : ∀ k, k ∈ a ↔ Lf k = false ∧ 0 < costK (·.2.too) L k) (hx : Lf x = true) : (a ++ [x]).Nodup := by
  refine List.nodup_append.2 ⟨hn, List.nodup_cons.2 ⟨by simp, List.nodup_nil⟩, fun y hy z hz e => ?_⟩
  rw [List.mem_singleton.1 hz] at e
  rw [e] at hy
  have := ((hm x).1 hy).1
  rw [hx] at this
  cases this
theorem top_add (hm : ∀ k, k ∈ a ↔ Lf k = false ∧ 0 < costK (·.2.too) L k) (hx : Lf x = true) (hc : 0 < costK (·.2.too) L x) (k : ByteArray) : k ∈ a ++ [x] ↔ (Lf k && !decide (nb k = nb x)) = false ∧ 0 < costK (·.2.too) L k := by
  rw [List.mem_append, List.mem_singleton, hm]
  constructor
  · rintro (⟨h1, h2⟩ | rfl)
    · exact ⟨by rw [h1]; rfl, h2⟩
    · exact ⟨by simp, hc⟩
  · rintro ⟨h1, h2⟩
    by_cases e : nb k = nb x
    · exact .inr (nb_inj e)
    · rw [decide_eq_false e, Bool.not_false, Bool.and_true] at h1
      exact .inl ⟨h1, h2⟩
theorem top_skip (hm : ∀ k, k ∈ a ↔ Lf k = false ∧ 0 < costK (·.2.too) L k) (hx : Lf x = true) (hc : ¬ 0 < costK (·.2.too) L x) (k : ByteArray) : k ∈ a ↔ (Lf k && !decide (nb k = nb x)) = false ∧ 0 < costK (·.2.too) L k := by
  rw [hm]
  constructor
  · rintro ⟨h1, h2⟩
    exact ⟨by rw [h1]; rfl, h2⟩
  · rintro ⟨h1, h2⟩
    by_cases e : nb k = nb x
    · rw [nb_inj e] at h2; exact absurd h2 hc
    · rw [decide_eq_false e, Bool.not_false, Bool.and_true] at h1
      exact ⟨h1, h2⟩
theorem top_min {many : Int} {on : Nat} (h : 0 ≤ many ∧ many ≤ 100) (hs : s.length = on) : ∃ mm : Nat, min many (on : Int) = mm ∧ mm ≤ on ∧ s.take mm = s.take many.toNat := by
  by_cases h1 : many ≤ (on : Int)
  · exact ⟨many.toNat, by omega, by omega, rfl⟩
  · exact ⟨on, by omega, Nat.le_refl _, by rw [List.take_of_length_le (by omega), List.take_of_length_le (by omega)]⟩
end
def tpE (t : TfV) (p : List PyV) (l : List RcV) (month many : Int) : Int := if monE t p l month = 0 then (if inB many 0 100 then 0 else 1) else monE t p l month
def TpR (t : TfV) (p : List PyV) (l : List RcV) (month many : Int) (w : World) (e : Ending) (w' : World) : Prop := ∃ A n c r, e = .returned (.tuple #[.slice A n c, .int .i64 (tpE t p l month many)]) ∧ Recs PaV.row 2 w' w.heap.size A n c r ∧ w.grownBy w' none ∧
  (tpE t p l month many = 0 → ∃ s a, TopN (chgAll t p month l) a ∧ s.Perm a ∧ Asc (topCf (chgAll t p month l)) s ∧ r = topPs (chgAll t p month l) s many) ∧ (tpE t p l month many ≠ 0 → r = []) ∧ n ≤ 100000
set_option maxHeartbeats 16000000 in
set_option maxRecDepth 100000 in
theorem top_any (lo : Nat) (cA iA : Option Addr) (cn cc en ic : Nat) (free : Int) (cl : List ClV) (ins : List ByteArray) (P : Option Addr) (pn pc : Nat) (p : List PyV) (L : Option Addr) (ln lc : Nat) (l : List RcV) (month many : Int) (w : World) (htf : TfOk w lo ⟨cA, cn, cc, free, iA, en, ic, cl, ins⟩) (hpy : Pys w lo P pn pc p) (hrc : Rcs w lo L ln lc l) (hpn : pn ≤ 1000) (hln : ln ≤ 1000000000) (hpw : PwT w) :
    Calls Tryz.prog 9 #[.agg #[.slice cA cn cc, .int .i64 free, .slice iA en ic], .slice P pn pc, .slice L ln lc, .int .i64 month, .int .i64 many] w (TpR ⟨cA, cn, cc, free, iA, en, ic, cl, ins⟩ p l month many w) := by
  have HTF := Lib.hid htf; have HPY := Lib.hid hpy; have HRC := Lib.hid hrc; have HPW0 := Lib.hid hpw
  clear htf hpy hrc hpw
  obtain ⟨W1, hW⟩ : ∃ W1, w.alloc (.cells #[.slice cA cn cc, .int .i64 free, .slice iA en ic] 29) = W1 := ⟨_, rfl⟩
  have HT := Lib.hid (show Blk W1 w.heap.size 29 #[.slice cA cn cc, .int .i64 free, .slice iA en ic] by rw [← hW]; exact Blk.new _ _ _)
  have HG := Lib.hid (show w.grownBy W1 none by rw [← hW]; exact gr_alloc (gr_refl _ _) _)
  have HWE := Lib.hid hW; clear hW
  have hmm := @run_makeMap Tryz.prog
  go_enter Tryz.func9, Tryz.ntmps9
  go_upto_region 1 with (fail)
  rw [HWE.out]
  clear HWE
  go_wp2_with (first
    | (refine wpl_load_all Tryz.tfT rfl _ rfl _ rfl _ _ HT.out rfl ?_)
    | fail)
  refine (checkMonth_any lo cA iA cn cc en ic free cl ins P pn pc p L ln lc l month _ (HTF.out.grown HG.out (fun g e => by cases e)) (HPY.out.grown HG.out (fun g e => by cases e)) (HRC.out.grown HG.out (fun g e => by cases e)) hpn hln).mono ?_
  rintro e w2 ⟨rfl, hg1⟩
  replace HG := Lib.hid (gr_none HG.out hg1)
  replace HT := Lib.hid (HT.out.grown hg1 (by simp))
  clear hg1
  obtain ⟨E, hE⟩ : ∃ E, monE ⟨cA, cn, cc, free, iA, en, ic, cl, ins⟩ p l month = E := ⟨_, rfl⟩
  rw [hE]
  have HE2 := Lib.hid hE
  clear hE
  by_cases h0 : E = 0
  rotate_left 1
  · have HF := Lib.hid (show tpE ⟨cA, cn, cc, free, iA, en, ic, cl, ins⟩ p l month many = E from (if_neg (by rw [HE2.out]; exact h0)).trans HE2.out)
    go_wp2_with fail
    go_ret2
    exact ⟨none, 0, 0, [], by rw [HF.out]; rfl, (OwnR.nil _ _ 51).recs, HG.out, fun h => absurd (HF.out.symm.trans h) (by first | decide | exact h0), fun _ => rfl, by omega⟩
  subst h0
  obtain ⟨MB, hMB⟩ : ∃ b, inB many 0 100 = b := ⟨_, rfl⟩
  have HMB := Lib.hid hMB
  clear hMB
  go_wp2_with fail
  refine same_calls (withinA_any _ _ _ _) ?_
  rw [HMB.out]
  cases MB
  · have HF := Lib.hid (show tpE ⟨cA, cn, cc, free, iA, en, ic, cl, ins⟩ p l month many = 1 from (by unfold tpE; rw [if_pos HE2.out, HMB.out]; rfl))
    go_wp2_with fail
    go_ret2
    exact ⟨none, 0, 0, [], by rw [HF.out]; rfl, (OwnR.nil _ _ 51).recs, HG.out, fun h => absurd (HF.out.symm.trans h) (by first | decide), fun _ => rfl, by omega⟩
  have HFE := Lib.hid (show tpE ⟨cA, cn, cc, free, iA, en, ic, cl, ins⟩ p l month many = 0 by unfold tpE; rw [if_pos HE2.out, HMB.out]; rfl)
  have hmany : 0 ≤ many ∧ many ≤ 100 := by have h := HMB.out; unfold inB at h; simpa using h
  obtain ⟨hu, -⟩ := mon_right HE2.out
  obtain ⟨r1, r2, r3⟩ := use_right hu
  have HU1 := Lib.hid (show UseOk w lo ⟨cA, cn, cc, free, iA, en, ic, cl, ins⟩ P pn pc p L ln lc l from ⟨HTF.out, HPY.out, HRC.out, r1, r2, r3⟩)
  have HFR1 := Lib.hid (tar_free r1)
  have hok1 : ∀ x ∈ chgAll ⟨cA, cn, cc, free, iA, en, ic, cl, ins⟩ p month l, ChOk x := fun x hx => chg_all_ok HU1.out hx
  have hsz1 : ∀ x ∈ chgAll ⟨cA, cn, cc, free, iA, en, ic, cl, ins⟩ p month l, x.1.pay.size ≤ 1000 ∧ x.2.too.size ≤ 1000 := fun x hx => chg_size (fun y hy => (HU1.out.py.2 y hy).1.1) (fun r hr => (HU1.out.rc.2 r hr).2.2.1) _ x hx
  have hln1 : (chgAll ⟨cA, cn, cc, free, iA, en, ic, cl, ins⟩ p month l).length ≤ 3000 := Nat.le_trans (chgTo_len _ _ _ _ _) (rcs_right HU1.out.er).1
  obtain ⟨L1, hL1⟩ : ∃ X, chgAll ⟨cA, cn, cc, free, iA, en, ic, cl, ins⟩ p month l = X := ⟨_, rfl⟩
  rw [hL1] at hok1 hsz1 hln1
  have HL1 := Lib.hid hL1; have HOK1 := Lib.hid hok1; have HSZ1 := Lib.hid hsz1
  clear hL1 hok1 hsz1
  have HBD := Lib.hid (fun k => costK_all (f := (·.2.too)) (k := k) HOK1.out hln1)
  clear hu r1 r2 r3 HTF HPY HRC HE2 HMB
  obtain ⟨mb, hmb⟩ : ∃ mb, w2.heap.size = mb := ⟨_, rfl⟩
  obtain ⟨sb, hsb⟩ : ∃ v, mb + 1 = v := ⟨_, rfl⟩
  obtain ⟨wm, hwm⟩ : ∃ wm, (w2.alloc (.map #[] 0)).alloc (.cells #[.map (some mb)] 63) = wm := ⟨_, rfl⟩
  have HM := Lib.hid (show MapG (Value.int .i64) wm mb 0 (fun k => sumF (·.2.too) (L1.take 0) k) by
    rw [← hwm, List.take_zero, sumF_nil]
    have h := MapG.new (Value.int .i64) w2
    rw [hmb] at h
    exact h.kept (gr_alloc (gr_refl _ none) _) (by simp))
  have HSB := Lib.hid (show Blk wm sb 63 #[.map (some mb)] by
    rw [← hwm]
    have h := Blk.new (w2.alloc (.map #[] 0)) 63 #[.map (some mb)]
    have e : (w2.alloc (.map #[] 0)).heap.size = sb := by rw [← hsb, ← hmb]; simp
    rw [e] at h
    exact h)
  have hgm : w2.grownBy wm none := by rw [← hwm]; exact gr_alloc (gr_alloc (gr_refl _ _) _) _
  have hzm : wm.heap.size = mb + 2 := by rw [← hwm, ← hmb]; simp
  have hmw : w.heap.size ≤ mb := by rw [← hmb]; exact HG.out.size
  have HW := Lib.hid (gr_none HG.out hgm)
  replace HT := Lib.hid (HT.out.grown hgm (by simp))
  have HWM := Lib.hid hwm; have HSBE := Lib.hid hsb; have HMBE := Lib.hid hmb
  clear hwm hmb hgm HG
  go_upto_region 7 with (fail)
  clear hmm
  (try rw [HMBE.out])
  (try rw [HWM.out])
  (try rw [HSBE.out])
  clear HWM HMBE
  go_wp2_with (first
    | (refine wpl_load_all Tryz.tfT rfl _ rfl _ rfl _ _ HT.out rfl ?_)
    | fail)
  refine (charges_any lo cA iA cn cc en ic free cl ins P pn pc p L ln lc l month _ (HU1.out.grown HW.out) hpn HFR1.out).mono ?_
  rintro e w3 ⟨A1, bn1, bc1, rfl, hown, hg3⟩
  rw [HL1.out] at hown
  have HLN1 := Lib.hid hown.2
  have hbn1 : bn1 ≤ 3000 := by have := hown.2; omega
  have H1 := Lib.hid hown.recs
  obtain ⟨lo1, hlo1⟩ : ∃ v, wm.heap.size = v := ⟨_, rfl⟩
  rw [hlo1] at H1 hzm
  replace HM := Lib.hid (HM.out.kept hg3 (by simp))
  replace HSB := Lib.hid (HSB.out.grown hg3 (by simp))
  replace HW := Lib.hid (gr_none HW.out hg3)
  clear hown hg3 hlo1 HT
  go_wp2_with fail
  go_loopw [15, 40] (fun _ t wr => ∃ i : Nat, i ≤ bn1 ∧ t = .int .i64 i ∧ w3.grownBy wr (some mb) ∧ MapG (Value.int .i64) wr mb i (fun k => sumF (·.2.too) (L1.take i) k)) (fun _ t _ => bn1 - (intOf t).toNat)
  case atStart => exact ⟨0, Nat.zero_le _, rfl, gr_refl _ _, HM.out⟩
  case round =>
    clear HM
    obtain ⟨i, hi, rfl, hg, hm⟩ := hrel
    have HG := Lib.hid hg; have HM := Lib.hid hm
    have HGw := Lib.hid (show w.grownBy wr none from gr_trans HW.out HG.out (fun g e => .inr (by injection e with e; omega)))
    have zr := hg.size
    clear hg hm
    by_cases hlt : i < bn1
    · obtain ⟨g, o, x, rfl, _, hgl, hz, hcc⟩ := (H1.out.grown HG.out (fun g e => by injection e with e; omega)).get cgRow_len hlt
      have HC := Lib.hid hcc
      obtain ⟨s1, s2⟩ := HSZ1.out x (mem_of_get hz)
      have hbd := costK_take (f := (·.2.too)) (i := i) (k := x.2.too) HOK1.out hln1
      obtain ⟨_, _, b3, b4⟩ := HOK1.out x (mem_of_get hz)
      have hsu : (fun k => if nb x.2.too = nb k then some (costK (·.2.too) (L1.take i) x.2.too + x.1.cost) else sumF (·.2.too) (L1.take i) k) = fun k => sumF (·.2.too) (L1.take (i + 1)) k := sumF_succ (f := (·.2.too)) hz
      obtain ⟨V, hV⟩ : ∃ v, costK (·.2.too) (L1.take i) x.2.too = v := ⟨_, rfl⟩
      rw [hV] at hbd hsu
      have HSU := Lib.hid hsu; have HV := Lib.hid hV
      have sw : IntKind.i64.wrap (V + x.1.cost) = V + x.1.cost := IntWalk.i64_in _ (by omega)
      clear hz hcc hsu hV b3 b4 hbd
      obtain ⟨wa, hwa⟩ : ∃ wa, wr.alloc (.cells #[.string x.1.rec_, .string x.1.pay, .string x.1.cls, .int .i64 x.1.free, .int .i64 x.1.cost, .string x.2.id, .string x.2.frm, .string x.2.too, .int .i64 x.2.at_, .int .i64 x.2.ring, .int .i64 x.2.talk, .int .i64 x.2.how, .string x.2.car] 71) = wa := ⟨_, rfl⟩
      obtain ⟨zb, hzb⟩ : ∃ b, wr.heap.size = b := ⟨_, rfl⟩
      have HR := Lib.hid (show Blk wa zb 71 #[.string x.1.rec_, .string x.1.pay, .string x.1.cls, .int .i64 x.1.free, .int .i64 x.1.cost, .string x.2.id, .string x.2.frm, .string x.2.too, .int .i64 x.2.at_, .int .i64 x.2.ring, .int .i64 x.2.talk, .int .i64 x.2.how, .string x.2.car] by rw [← hwa, ← hzb]; exact Blk.new _ _ _)
      have hga : wr.grownBy wa none := by rw [← hwa]; exact gr_alloc (gr_refl _ _) _
      replace HM := Lib.hid (HM.out.kept hga (by simp))
      replace HG := Lib.hid (gr_none HG.out hga)
      have HWA := Lib.hid hwa; have HZB := Lib.hid hzb; clear hwa hzb hga
      go_upto_region 10 with (first
        | (refine wpl_load_at Tryz.cgS rfl _ rfl _ rfl [.string x.1.rec_, .string x.1.pay, .string x.1.cls, .int .i64 x.1.free, .int .i64 x.1.cost, .string x.2.id, .string x.2.frm, .string x.2.too, .int .i64 x.2.at_, .int .i64 x.2.ring, .int .i64 x.2.talk, .int .i64 x.2.how, .string x.2.car] rfl (fun j u hu => by rw [add_mk]; exact HC.out j u hu) ?_)
        | fail)
      rw [HWA.out]
      (try rw [HZB.out])
      clear HWA HZB HC
      have k7 := HR.out.cell 7; have k4 := HR.out.cell 4
      have ks := (HSB.out.grown HG.out (by simp; omega)).cell 0
      go_wp2_with (first
        | (refine wpl_glook rfl 63 _ _ rfl Tryz.underlying63 (Tryz.zeroSI _) rfl x.2.too rfl (by unfold maxLen; omega) (by exact HM.out) ?_; rw [sumF_val, HV.out])
        | (at_mapUpdate
           refine wpl_gput (enc := Value.int .i64) (fun a b h => by injection h) rfl 63 _ _ _ rfl Tryz.underlying63 rfl x.2.too (V + x.1.cost) rfl rfl (by unfold maxLen; omega) (by exact HM.out) (by unfold maxLen; omega) ?_
           intro we hse hge
           have HSe := Lib.hid hse; have HGe := Lib.hid hge
           clear hse hge)
        | fail)
      go_roundw
      case rel => exact ⟨i + 1, by omega, by go_num, gr_same HG.out HGe.out, by rw [← HSU.out]; exact HSe.out⟩
      case measure => simp [intOf]; omega
    · obtain rfl : bn1 = i := by omega
      have hm2 := HM.out
      rw [show L1.take bn1 = L1 from List.take_of_length_le (by rw [HLN1.out]; exact Nat.le_refl _)] at hm2
      have HSX := Lib.hid (show SumX wr L1 sb mb bn1 from ⟨HSB.out.grown HG.out (by simp; omega), hm2⟩)
      replace HW := HGw
      clear HG HGw HM hm2 zr hlt hi HSB H1
      obtain ⟨wl, rfl⟩ : ∃ wl : World, wl = wr := ⟨_, rfl⟩
      have ks := HSX.out.blk.cell 0
      have hsl := HSX.out.blk.lt; have hml := HSX.out.map.lt
      go_wp2_with (first
        | (at_range; refine wpl_grange rfl _ _ rfl Tryz.underlying63 rfl HSX.out.map ?_; intro w5 cnt hr5 hg5 hs5)
        | fail)
      go_frame
      clear ks
      have HRG5 := Lib.hid hr5
      obtain ⟨rr, hrr⟩ : ∃ v, wl.heap.size = v := ⟨_, rfl⟩
      rw [hrr] at HRG5
      (try rw [hrr])
      have hsr : sb < rr := by omega
      have hmr : mb < rr := by omega
      have hwr : w.heap.size ≤ rr := by have := HW.out.size; omega
      have z5 : w5.heap.size = rr + 1 := by omega
      have HW5 := Lib.hid (gr_none HW.out hg5)
      replace HSX := Lib.hid (HSX.out.grown hg5 (by simp) (by simp))
      clear hr5 hg5 hs5 hrr hsl hml
      obtain ⟨lo5, hlo5⟩ : ∃ v, w5.heap.size = v := ⟨_, rfl⟩
      rw [hlo5] at z5
      go_loopw [16, 17, 18] (fun ov _ _ wr => ∃ (a : List ByteArray) (on oc : Nat) (O : Option Addr) (Lf : ByteArray → Bool) (cnt6 : Nat), ov = .slice O on oc ∧ w5.grownBy wr (some rr) ∧ RngG (Value.int .i64) wr mb rr bn1 (fun k => sumF (·.2.too) L1 k) Lf cnt6 ∧ OwnR srow 1 wr lo5 9 O on oc a ∧ a.Nodup ∧ (∀ k, k ∈ a ↔ Lf k = false ∧ 0 < costK (·.2.too) L1 k)) (fun _ _ _ wr => wr.rangeLeft mb rr)
      case atStart => exact ⟨[], 0, 0, none, _, cnt, rfl, gr_refl _ _, HRG5.out, OwnR.nil _ _ _, List.nodup_nil, fun k => ⟨fun h => (by cases h), fun ⟨h1, h2⟩ => by rw [sumF_pos h2] at h1; cases h1⟩⟩
      case round =>
        clear HRG5
        obtain ⟨a, on, oc, O, Lf, cnt6, rfl, hg, hrg, hown, hnd, hmem⟩ := hrel
        have HRGc := Lib.hid hrg
        have HG := Lib.hid hg; have HRG := Lib.hid hrg; have HO := Lib.hid hown; have HND := Lib.hid hnd; have HMEM := Lib.hid hmem
        have zr := hg.size
        have hon : on ≤ 3000 := by
          rw [← hown.2]
          exact top_len hnd (fun k hk => ((hmem k).1 hk).2) hln1
        clear hg hrg hown hnd hmem
        go_wp2_with (first
          | (at_next; refine wpl_gnext (enc := Value.int .i64) (fun a b h => by injection h) rfl _ rfl rfl HRG.out ?_ ?_)
          | fail)
        · intro hL0
          have HTN := Lib.hid (show TopN L1 a from ⟨HND.out, fun k => ⟨fun h => ((HMEM.out k).1 h).2, fun h => (HMEM.out k).2 ⟨hL0 k, h⟩⟩⟩)
          have HSXr := Lib.hid (HSX.out.grown HG.out (by simp; omega) (by simp; omega))
          have HWr := Lib.hid (gr_trans HW5.out HG.out (fun g e => .inr (by injection e with e; omega)))
          have hbO : ∀ b, b < lo5 → some b ≠ blkOf O := fun b hb e => by have := (HO.out.1.lt e.symm).1; omega
          clear HND HMEM HRG hL0
          go_wp2_with fail
          refine (sortTP_any L1 lo5 O on oc a sb mb bn1 _ HO.out HSXr.out (hbO sb (by omega)) (hbO mb (by omega)) (fun k hk => top_size HSZ1.out ((HTN.out.2 k).1 hk)) (by omega)).mono ?_
          rintro e w7 ⟨rfl, s, hp, ha, hown7, hg7⟩
          have HP := Lib.hid hp; have HAS := Lib.hid ha; have HO7 := Lib.hid hown7
          have HSX7 := Lib.hid (HSXr.out.grown hg7 (hbO sb (by omega)) (hbO mb (by omega)))
          have HW7 := Lib.hid (gr_own HWr.out HO.out.1 (by omega) hg7)
          have hsz : ∀ k ∈ s, k.size ≤ 1000 := fun k hk => top_size HSZ1.out ((HTN.out.2 k).1 (HP.out.subset hk))
          have HSS := Lib.hid hsz
          clear hp ha hown7 hg7 HSXr HWr hbO hsz HG HO HW5 HSX
          obtain ⟨mm, hmm, hmo, htk⟩ := top_min (s := s) hmany HO7.out.2
          have HTK := Lib.hid htk
          clear htk
          have HR7 := Lib.hid (HO7.out.recs.take srow_len (i := mm) (by omega))
          have ks := HSX7.out.blk.cell 0
          have hcp : mm ≤ oc := Nat.le_trans hmo HO7.out.1.cap
          go_wp2_with fail
          clear ks
          go_loopw [19, 21, 77] (fun ov _ t wr => ∃ (j oc2 : Nat) (O2 : Option Addr), j ≤ mm ∧ t = .int .i64 j ∧ ov = .slice O2 j oc2 ∧ w7.grownBy wr none ∧ OwnR PaV.row 2 wr w7.heap.size 51 O2 j oc2 (((s.take mm).take j).map fun k => ⟨k, itS (costK (·.2.too) L1 k)⟩)) (fun _ _ t _ => mm - (intOf t).toNat)
          case atStart => exact ⟨0, 0, none, Nat.zero_le _, rfl, rfl, gr_refl _ _, OwnR.nil _ _ _⟩
          case round =>
            obtain ⟨j, oc2, O2, hj, rfl, rfl, hg, hown⟩ := hrel
            have HG := Lib.hid hg; have HO := Lib.hid hown
            have zr := hg.size
            clear hg hown
            by_cases hlt : j < mm
            · obtain ⟨g, o, x, hO, _, _, hx, hc⟩ := (HR7.out.grown HG.out (fun g e => by cases e)).get srow_len hlt
              subst hO
              have hc0 := hc 0 _ rfl
              simp only [Nat.mul_one, Nat.add_zero] at hc0
              have hxs : x.size ≤ 1000 := HSS.out x (List.mem_of_mem_take (mem_of_get hx))
              have HX := Lib.hid (show ((s.take mm).take (j + 1)).map (fun k => (⟨k, itS (costK (·.2.too) L1 k)⟩ : PaV)) = ((s.take mm).take j).map (fun k => ⟨k, itS (costK (·.2.too) L1 k)⟩) ++ [⟨x, itS (costK (·.2.too) L1 x)⟩] by rw [take_snoc' hx, List.map_append]; rfl)
              obtain ⟨v1, v2⟩ := HBD.out x
              obtain ⟨V, hV⟩ : ∃ v, costK (·.2.too) L1 x = v := ⟨_, rfl⟩
              rw [hV] at HX v1 v2
              obtain ⟨I, hI⟩ : ∃ I, itS V = I := ⟨_, rfl⟩
              have HI := Lib.hid hI; have HV := Lib.hid hV
              rw [hI] at HX
              clear hx hc hI hV
              have ks := (HSX7.out.blk.grown HG.out (by simp)).cell 0
              go_wp2_with (first
                | (refine wpl_glook rfl 63 _ _ rfl Tryz.underlying63 (Tryz.zeroSI _) rfl x rfl (by unfold maxLen; omega) (by exact HSX7.out.map.kept HG.out (by simp)) ?_; rw [sumF_val, HV.out])
                | fail)
              refine (itoaS_any V _ (by omega) (by omega) (HPW0.out.grown (gr_none HW7.out HG.out))).mono ?_
              rintro e w2 ⟨rfl, hg2⟩
              rw [HI.out]
              replace HG := Lib.hid (gr_none HG.out hg2)
              replace HO := Lib.hid (HO.out.kept hg2 (fun g e => by cases e))
              have z2 := hg2.size
              clear hg2 hc0 ks
              go_wp2_with (first
                | (at_builtin
                   refine wpl_app _ rfl _ _ Tryz.paT rfl w7.heap.size O2 j oc2 _ rfl (by exact HO.out.1.alloc _) _ _ 1 1 [.string x, .string I] rfl (by exact Reads.one _ _ _ _ rfl) (by simp [Value.oneCell']) (by unfold maxLen; omega) (by omega) (by simp; omega) ?_
                   intro A5 c5 w5 h5
                   have H5 := Lib.hid h5; clear h5)
                | fail)
              go_roundw
              case rel => exact ⟨j + 1, c5, A5, by omega, by go_num, rfl, H5.out.gr (gr_alloc HG.out _) (HO.out.1.alloc _) (Nat.le_refl _), by rw [HX.out]; exact (HO.out.alloc _).app (a := ⟨x, I⟩) rfl H5.out⟩
              case measure => simp [intOf]; omega
            · obtain rfl : mm = j := by omega
              have ho := HO.out
              rw [List.take_of_length_le (by rw [List.length_take]; exact Nat.min_le_left _ _), HTK.out] at ho
              have HOF := Lib.hid (show OwnR PaV.row 2 wr w7.heap.size 51 O2 mm oc2 (topPs L1 s many) from ho)
              clear ho
              go_wp2_with fail
              go_ret2
              exact ⟨O2, mm, oc2, topPs L1 s many, by rw [HFE.out]; rfl, HOF.out.recs.lower HW7.out.size, gr_none HW7.out HG.out, fun _ => ⟨s, a, by rw [HL1.out]; exact HTN.out, HP.out, by rw [HL1.out]; exact HAS.out, by rw [HL1.out]⟩, fun h => absurd HFE.out h, by omega⟩
        · intro x c w6 cnt7 hfx hlx hrg6 hlt6 hg6 hs6 hen6
          have hrl := HRG.out.lt
          have HC := Lib.hid (sumF_some hfx)
          have HG6 := Lib.hid (gr_same HG.out hg6)
          have HO6 := Lib.hid (HO.out.low hg6 (fun g e => by injection e with e; omega))
          have HRG6 := Lib.hid hrg6; have HLX := Lib.hid hlx; have HFX := Lib.hid hfx
          clear HO HRG hg6 hs6 hrg6 hfx hlx
          have HLT := Lib.hid hlt6
          clear hlt6
          by_cases h0 : 0 < c
          · have d0 : decide (0 < c) = true := decide_eq_true h0
            have hcx : 0 < costK (·.2.too) L1 x := by rw [← HC.out]; exact h0
            have HCX := Lib.hid hcx
            clear h0 hcx
            go_wp2_with (first
              | (at_builtin
                 refine wpl_app _ rfl _ _ Tryz.stTop rfl lo5 O on oc _ rfl (by exact HO6.out.1.alloc _) _ _ 1 1 [.string x] rfl (by exact Reads.one _ _ _ _ rfl) (by simp [Value.oneCell']) (by unfold maxLen; omega) (by omega) (by have := HG6.out.size; simp; omega) ?_
                 intro A5 c5 w8 h5
                 have H5 := Lib.hid h5; clear h5)
              | fail)
            have HOw := Lib.hid (HO6.out.alloc (.cells #[.string x] 9))
            have HG8 := Lib.hid (gr_trans (gr_alloc HG6.out (.cells #[.string x] 9)) H5.out.2.1 (fun g e => .inr (by have := (HOw.out.1.lt e).1; omega)))
            have HRG8 := Lib.hid ((HRG6.out.kept (gr_alloc (gr_refl w6 none) (.cells #[.string x] 9)) (by simp) (by simp)).kept H5.out.2.1 (fun e => by have := (HOw.out.1.lt e.symm).1; omega) (fun e => by have := (HOw.out.1.lt e.symm).1; omega))
            go_roundw
            case rel => exact ⟨a ++ [x], on + 1, c5, A5, _, cnt7, rfl, HG8.out, HRG8.out, HOw.out.app rfl H5.out, top_nodup HND.out HMEM.out HLX.out, top_add HMEM.out HLX.out HCX.out⟩
            case measure => rw [HRG8.out.left_eq, HRGc.out.left_eq]; exact HLT.out
          · have d0 : decide (0 < c) = false := decide_eq_false h0
            have hcx : ¬ 0 < costK (·.2.too) L1 x := by rw [← HC.out]; exact h0
            have HCX := Lib.hid hcx
            clear h0 hcx
            go_wp2_with fail
            go_roundw
            case rel => exact ⟨a, on, oc, O, _, cnt7, rfl, HG6.out, HRG6.out, HO6.out, HND.out, top_skip HMEM.out HLX.out HCX.out⟩
            case measure => rw [HRG6.out.left_eq, HRGc.out.left_eq]; exact HLT.out
end Go.Proofs.YtlkibeckfpjccaaGreatDoor

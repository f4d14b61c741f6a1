/- Contracts of ask and Decide of dialplan. Conditions: none. -/
import Derived.Test.YtdhaelpacffnlaaGreatDoorBun8
import Derived.Test.YtdhaelpacffnlaaGreatDoorBun9
import Derived.Test.YtdhaelpacffnlaaGreatDoorBun6
namespace Go.Proofs.YtdhaelpacffnlaaGreatDoor
open Go.RowKit

def akE (p : PlV) (LB : Bool) (key dial : ByteArray) (t : Int) : Int := if opE p LB key = 0 then (if dialOk (nb dial) = true then (if momB t = true then 0 else 1) else 3) else opE p LB key
theorem opE_right {p : PlV} {LB : Bool} {key : ByteArray} (h : opE p LB key = 0) : plE p LB = 0 := by
  unfold opE at h
  by_cases c : plE p LB = 0
  · exact c
  · rw [if_neg c] at h; exact absurd h c
def AskV (p : PlV) (LB : Bool) (key dial : ByteArray) (t : Int) (w : World) (e : Ending) (w' : World) : Prop :=
  ∃ (A : Option Addr) (n c : Nat) (r : List Nat), e = .returned (.tuple #[.slice A n c, .int .i64 (akE p LB key dial t)]) ∧ OwnR CxV.row 3 w' w.heap.size 63 A n c (pickC p.ctxs r) ∧ w.grownBy w' none ∧ (akE p LB key dial t = 0 → OrdOk p key r) ∧ n ≤ 50
set_option maxHeartbeats 8000000 in
theorem ask_any (lo : Nat) (p : PlV) (LB : Bool) (key dial : ByteArray) (t : Int) (w : World) (h : PlOk w lo p) (hLB : LB = true ↔ Loops p.ctxs) (hd : dial.size ≤ 1000000) :
    Calls Tryz.prog 55 #[.agg #[.slice p.cA p.cn p.cc, .slice p.hA p.hn p.hc], .string key, .string dial, .int .i64 t] w (AskV p LB key dial t w) := by
  obtain ⟨cA, cn, cc, hA, hn, hc, ctxs, hours⟩ := p
  have hcn : cn ≤ 1000000 := h.cn
  have hlen := h.ctxs.len
  dsimp only at hlen hLB ⊢
  obtain ⟨W1, hW⟩ : ∃ W1, w.alloc (.cells #[.slice cA cn cc, .slice hA hn hc] 29) = W1 := ⟨_, rfl⟩
  have HP := Lib.hid (show Blk W1 w.heap.size 29 #[.slice cA cn cc, .slice hA hn hc] by rw [← hW]; exact Blk.new _ _ _)
  have HG := Lib.hid (show w.grownBy W1 none by rw [← hW]; exact gr_alloc (gr_refl _ _) _)
  have HPL := Lib.hid (h.grown HG.out (fun g e => by cases e))
  have HW := Lib.hid hW
  have HLB := Lib.hid hLB
  have HLEN := Lib.hid hlen
  have H0 := Lib.hid h
  clear h hW hLB hlen
  obtain ⟨E0, hE0⟩ : ∃ E, opE ⟨cA, cn, cc, hA, hn, hc, ctxs, hours⟩ LB key = E := ⟨_, rfl⟩
  have HE0 := Lib.hid hE0; clear hE0
  go_enter Tryz.func55, Tryz.ntmps55
  go_upto_region 1 with (fail)
  rw [HW.out]
  go_wp2_with (first
    | (refine wpl_load_all Tryz.plT rfl _ rfl _ rfl _ _ HP.out rfl ?_)
    | fail)
  refine (open_any lo ⟨cA, cn, cc, hA, hn, hc, ctxs, hours⟩ LB key _ HPL.out HLB.out).mono ?_
  rintro e w2 ⟨B, m, d, r, rfl, hob, hg2, hok, hno, hm50⟩
  rw [HE0.out]
  rw [HE0.out] at hok hno
  have HOB := Lib.hid (hob.lower (show w.heap.size ≤ W1.heap.size from HG.out.size))
  have HOK := Lib.hid hok
  clear hob hok hno
  replace HP := Lib.hid (HP.out.grown hg2 (by simp))
  replace HPL := Lib.hid (HPL.out.grown hg2 (fun g e => by cases e))
  replace HG := Lib.hid (gr_none HG.out hg2)
  clear hg2
  by_cases e0 : E0 = 0
  · have dE : (E0 != 0) = false := by simpa using e0
    obtain ⟨D, hD⟩ : ∃ D, dialOk (nb dial) = D := ⟨_, rfl⟩
    have HD := Lib.hid hD
    have HV := Lib.hid (show akE ⟨cA, cn, cc, hA, hn, hc, ctxs, hours⟩ LB key dial t = if D = true then (if momB t = true then 0 else 1) else 3 by unfold akE; rw [if_pos (HE0.out.trans e0), hD])
    clear hD
    go_wp2_with fail
    refine (isDialled_any dial _ hd).mono ?_
    rintro e w3 ⟨rfl, hg3⟩
    rw [HD.out]
    replace HOB := Lib.hid (HOB.out.low hg3 (fun g e => by cases e))
    replace HP := Lib.hid (HP.out.grown hg3 (by simp))
    replace HPL := Lib.hid (HPL.out.grown hg3 (fun g e => by cases e))
    replace HG := Lib.hid (gr_none HG.out hg3)
    clear hg3
    cases D
    · rw [if_neg (by decide)] at HV
      go_wp2_with fail
      go_ret2
      exact ⟨none, 0, 0, [], by rw [HV.out]; try rfl, OwnR.nil _ _ _, HG.out, (fun e => by rw [HV.out] at e; exact absurd e (by decide)), by omega⟩
    · rw [if_pos rfl] at HV
      obtain ⟨M, hM⟩ : ∃ M, momB t = M := ⟨_, rfl⟩
      rw [hM] at HV
      have HMM := Lib.hid hM
      clear hM
      go_wp2_with fail
      refine (isMomB_any t _).mono ?_
      rintro e w' ⟨rfl, rfl⟩
      rw [HMM.out]
      cases M
      · rw [if_neg (by decide)] at HV
        go_wp2_with fail
        go_ret2
        exact ⟨none, 0, 0, [], by rw [HV.out]; try rfl, OwnR.nil _ _ _, HG.out, (fun e => by rw [HV.out] at e; exact absurd e (by decide)), by omega⟩
      · rw [if_pos rfl] at HV
        go_wp2_with fail
        go_ret2
        exact ⟨B, m, d, r, by rw [HV.out]; try rfl, HOB.out, HG.out, fun _ => HOK.out e0, hm50⟩
  · have dE : (E0 != 0) = true := by simpa using e0
    have HV := Lib.hid (show akE ⟨cA, cn, cc, hA, hn, hc, ctxs, hours⟩ LB key dial t = E0 by unfold akE; rw [if_neg (by rw [HE0.out]; exact e0), HE0.out])
    go_wp2_with fail
    go_ret2
    exact ⟨none, 0, 0, [], by rw [HV.out]; try rfl, OwnR.nil _ _ _, HG.out, (fun e => by rw [HV.out] at e; exact absurd e e0), by omega⟩
def DecV (p : PlV) (LB : Bool) (key dial : ByteArray) (t : Int) (w : World) (e : Ending) (w' : World) : Prop :=
  ∃ (H : List Value × Int) (r : List Nat), e = .returned (.tuple #[.agg H.1.toArray, .int .i64 H.2]) ∧ w.grownBy w' none ∧ (akE p LB key dial t = 0 → OrdOk p key r ∧ H = hitR p.hours dial t (pickC p.ctxs r)) ∧ (akE p LB key dial t ≠ 0 → H = (zeroH, akE p LB key dial t))
theorem Tryz.hiT : StructT Tryz.prog 44 5 := ⟨_, Tryz.underlying44, rfl, by kernel_rfl⟩
theorem stored_blk {w w' : World} {g : Nat} {t : TypeId} {cs : Array Value} (h : Stored w g t cs w') : Blk w' g t cs := h.1
set_option maxHeartbeats 16000000 in
set_option maxRecDepth 100000 in
theorem decide_any (lo : Nat) (p : PlV) (LB : Bool) (key dial : ByteArray) (t : Int) (w : World) (h : PlOk w lo p) (hLB : LB = true ↔ Loops p.ctxs) (hd : dial.size ≤ 1000000) :
    Calls Tryz.prog 17 #[.agg #[.slice p.cA p.cn p.cc, .slice p.hA p.hn p.hc], .string key, .string dial, .int .i64 t] w (DecV p LB key dial t w) := by
  obtain ⟨cA, cn, cc, hA, hn, hc, ctxs, hours⟩ := p
  have hcn : cn ≤ 1000000 := h.cn
  have hlen := h.ctxs.len
  dsimp only at hlen hLB ⊢
  obtain ⟨W1, hW⟩ : ∃ W1, w.alloc (.cells #[.slice cA cn cc, .slice hA hn hc] 29) = W1 := ⟨_, rfl⟩
  have HP := Lib.hid (show Blk W1 w.heap.size 29 #[.slice cA cn cc, .slice hA hn hc] by rw [← hW]; exact Blk.new _ _ _)
  have HG := Lib.hid (show w.grownBy W1 none by rw [← hW]; exact gr_alloc (gr_refl _ _) _)
  have HPL := Lib.hid (h.grown HG.out (fun g e => by cases e))
  have HW := Lib.hid hW
  have HLB := Lib.hid hLB
  have HLEN := Lib.hid hlen
  have H0 := Lib.hid h
  clear h hW hLB hlen
  obtain ⟨E0, hE0⟩ : ∃ E, akE ⟨cA, cn, cc, hA, hn, hc, ctxs, hours⟩ LB key dial t = E := ⟨_, rfl⟩
  have HE0 := Lib.hid hE0; clear hE0
  obtain ⟨W2, hW2⟩ : ∃ W2, W1.alloc (.cells #[.string ⟨#[]⟩, .int .i64 0, .int .i64 0, .string ⟨#[]⟩, .string ⟨#[]⟩] 44) = W2 := ⟨_, rfl⟩
  have hz1 : W1.heap.size = w.heap.size + 1 := by rw [← HW.out]; simp
  have HR := Lib.hid (show Blk W2 (w.heap.size + 1) 44 #[.string ⟨#[]⟩, .int .i64 0, .int .i64 0, .string ⟨#[]⟩, .string ⟨#[]⟩] by rw [← hW2, ← hz1]; exact Blk.new _ _ _)
  have hg1 : W1.grownBy W2 none := by rw [← hW2]; exact gr_alloc (gr_refl _ _) _
  replace HP := Lib.hid (HP.out.grown hg1 (by simp))
  replace HPL := Lib.hid (HPL.out.grown hg1 (fun g e => by cases e))
  replace HG := Lib.hid (gr_none HG.out hg1)
  clear hg1
  have HW2 := Lib.hid hW2; have HZ1 := Lib.hid hz1
  clear hW2 hz1
  go_enter Tryz.func17, Tryz.ntmps17
  go_upto_region 1 with (fail)
  rw [HW.out, HW2.out]
  (try rw [HZ1.out])
  go_wp2_with (first
    | (refine wpl_load_all Tryz.plT rfl _ rfl _ rfl _ _ HP.out rfl ?_)
    | fail)
  refine (ask_any lo ⟨cA, cn, cc, hA, hn, hc, ctxs, hours⟩ LB key dial t _ HPL.out HLB.out hd).mono ?_
  rintro e w3 ⟨B, m, d, r, rfl, hob, hg3, hok, hm50⟩
  rw [HE0.out]
  rw [HE0.out] at hok
  have HOB := Lib.hid (hob.lower (show w.heap.size ≤ W2.heap.size from HG.out.size))
  have HOK := Lib.hid hok
  clear hob hok
  replace HR := Lib.hid (HR.out.grown hg3 (by simp))
  replace HP := Lib.hid (HP.out.grown hg3 (by simp))
  replace HPL := Lib.hid (HPL.out.grown hg3 (fun g e => by cases e))
  replace HG := Lib.hid (gr_none HG.out hg3)
  clear hg3
  by_cases e0 : E0 = 0
  · have dE : (E0 != 0) = false := by simpa using e0
    have hak := HE0.out
    rw [e0] at hak
    have hop : opE ⟨cA, cn, cc, hA, hn, hc, ctxs, hours⟩ LB key = 0 := by
      unfold akE at hak
      by_cases c : opE ⟨cA, cn, cc, hA, hn, hc, ctxs, hours⟩ LB key = 0
      · exact c
      · rw [if_neg c] at hak; exact absurd hak c
    have hdial : dialOk (nb dial) = true ∧ momB t = true := by
      unfold akE at hak
      rw [if_pos hop] at hak
      by_cases c : dialOk (nb dial) = true
      · rw [if_pos c] at hak
        by_cases c2 : momB t = true
        · exact ⟨c, c2⟩
        · rw [if_neg c2] at hak; omega
      · rw [if_neg c] at hak; omega
    have hmo : 0 ≤ t ∧ t ≤ 345686399999 := by have := hdial.2; unfold momB inB at this; simpa using this
    obtain ⟨m0, m1⟩ := hmo
    have hpr := pl_right (p := ⟨cA, cn, cc, hA, hn, hc, ctxs, hours⟩) HLEN.out (opE_right hop)
    have HPR := Lib.hid hpr
    have HDI := Lib.hid hdial.1
    have HOK2 := Lib.hid (HOK.out e0)
    have HHR := Lib.hid (show ∀ a ∈ hours, HrRight a from fun a ha => right_of (H0.out.hours.2 a ha).2.1.len (H0.out.hours.2 a ha).2.2.len (hpr.hours a ha))
    obtain ⟨L, hL⟩ : ∃ L, pickC ctxs r = L := ⟨_, rfl⟩
    have HLM := Lib.hid (show ∀ c ∈ L, c ∈ ctxs from fun c hc => pickC_mem (by rw [hL]; exact hc))
    have HLL := Lib.hid hL
    rw [hL] at HOB
    clear hak hop hdial hpr hL
    go_wp2_with fail
    go_loopw [13, 14, 15, 16, 31] (fun _ _ _ _ t31 wr => ∃ k : Nat, k ≤ m ∧ t31 = .int .i64 k ∧ w.grownBy wr none ∧ Blk wr w.heap.size 29 #[.slice cA cn cc, .slice hA hn hc] ∧ PlOk wr lo ⟨cA, cn, cc, hA, hn, hc, ctxs, hours⟩ ∧ Blk wr (w.heap.size + 1) 44 #[.string ⟨#[]⟩, .int .i64 0, .int .i64 0, .string ⟨#[]⟩, .string ⟨#[]⟩] ∧ OwnR CxV.row 3 wr w.heap.size 63 B m d L ∧ hitR hours dial t L = hitR hours dial t (L.drop k)) (fun _ _ _ _ t31 _ => m - (intOf t31).toNat)
    case atStart => exact ⟨0, Nat.zero_le _, rfl, HG.out, HP.out, HPL.out, HR.out, HOB.out, rfl⟩
    case round =>
      clear HG HP HPL HR HOB
      obtain ⟨k, hk, rfl, hg, hp, hpl, hr, hob, hhit⟩ := hrel
      have HG := Lib.hid hg; have HP := Lib.hid hp; have HPL := Lib.hid hpl; have HR := Lib.hid hr; have HOB := Lib.hid hob; have HHIT := Lib.hid hhit
      have zr := hr.lt
      clear hg hp hpl hr hob hhit
      by_cases hlt : k < m
      · obtain ⟨g, o, c, hBA, _, hgl, hc, hcc⟩ := HOB.out.recs.get CxV.row_len hlt
        subst hBA
        have hcm := HLM.out c (mem_of_get hc)
        have HCO := Lib.hid (HPL.out.cok c hcm)
        have HCR := Lib.hid (show CxRight hours c from by
          obtain ⟨i, hi⟩ := List.mem_iff_getElem?.1 hcm
          exact HPR.out.cx i c hi)
        have HCC := Lib.hid hcc; have HCK := Lib.hid hc
        have hrn : c.rn ≤ 1000000 := HCO.out.rn
        clear hcm hc hcc hgl
        obtain ⟨wc, hwc⟩ : ∃ wc, wr.alloc (.cells #[.string c.key, .slice c.rA c.rn c.rc, .slice c.iA c.en c.ic] 63) = wc := ⟨_, rfl⟩
        have HCB := Lib.hid (show Blk wc wr.heap.size 63 #[.string c.key, .slice c.rA c.rn c.rc, .slice c.iA c.en c.ic] by rw [← hwc]; exact Blk.new _ _ _)
        have hg4 : wr.grownBy wc none := by rw [← hwc]; exact gr_alloc (gr_refl _ _) _
        have HWC := Lib.hid hwc; clear hwc
        obtain ⟨cb, hcb⟩ : ∃ cb, wr.heap.size = cb := ⟨_, rfl⟩
        rw [hcb] at HCB
        go_upto_region 7 with (first
          | (refine wpl_load_at Tryz.cxT rfl _ rfl _ rfl [.string c.key, .slice c.rA c.rn c.rc, .slice c.iA c.en c.ic] rfl (fun j u hu => by rw [add_mk]; exact HCC.out j u hu) ?_)
          | fail)
        rw [HWC.out]
        (try rw [hcb])
        clear HWC HCC hcb
        replace HR := Lib.hid (HR.out.grown hg4 (by simp))
        replace HOB := Lib.hid (HOB.out.low hg4 (fun g e => by cases e))
        replace HCO := Lib.hid (HCO.out.grown hg4 (fun g e => by cases e))
        replace HP := Lib.hid (HP.out.grown hg4 (by simp))
        replace HPL := Lib.hid (HPL.out.grown hg4 (fun g e => by cases e))
        replace HG := Lib.hid (gr_none HG.out hg4)
        clear hg4
        go_wp2_with (first
          | (refine wpl_load_all Tryz.plT rfl _ rfl _ rfl _ _ HP.out rfl ?_)
          | (refine wpl_load_all Tryz.cxT rfl _ rfl _ rfl _ _ HCB.out rfl ?_)
          | fail)
        refine (decidesP_any lo ⟨cA, cn, cc, hA, hn, hc, ctxs, hours⟩ c dial t _ HPL.out HHR.out HCO.out (cx_rules HCO.out.rules.len HCR.out) HDI.out (by omega) (by omega)).mono ?_
        rintro e w5 ⟨rfl, hg5⟩
        dsimp only
        replace HR := Lib.hid (HR.out.grown hg5 (by simp))
        replace HOB := Lib.hid (HOB.out.low hg5 (fun g e => by cases e))
        replace HCO := Lib.hid (HCO.out.grown hg5 (fun g e => by cases e))
        replace HCB := Lib.hid (HCB.out.grown hg5 (by simp))
        replace HP := Lib.hid (HP.out.grown hg5 (by simp))
        replace HPL := Lib.hid (HPL.out.grown hg5 (fun g e => by cases e))
        replace HG := Lib.hid (gr_none HG.out hg5)
        clear hg5
        have hH1 : hitR hours dial t (L.drop k) = (decT hours (nb dial) t c.rules c.rn).elim (hitR hours dial t (L.drop (k + 1))) fun b => (c.rules[b]?).elim (zeroH, 8) (hit1 dial c.key b) := by
          rw [drop_get HCK.out, ← HCO.out.rules.len]; rfl
        cases hdk : decT hours (nb dial) t c.rules c.rn with
        | none =>
          rw [hdk] at hH1
          have HN := Lib.hid (show hitR hours dial t L = hitR hours dial t (L.drop (k + 1)) from HHIT.out.trans hH1)
          clear hH1 hdk
          rw [show bestI none = -1 from rfl]
          go_wp2_with fail
          go_roundw
          case rel => exact ⟨k + 1, by omega, by go_num, HG.out, HP.out, HPL.out, HR.out, HOB.out, HN.out⟩
          case measure => simp [intOf]; omega
        | some b =>
          have hb := decT_lt hdk
          obtain ⟨g2, o2, r2, hrA, _, hgl2, hr2, hcc2⟩ := HCO.out.rules.get RuV.row_len hb
          rw [hdk] at hH1
          have HHH := Lib.hid (show hitR hours dial t L = hit1 dial c.key b r2 from HHIT.out.trans (hH1.trans (by show (c.rules[b]?).elim (zeroH, 8) (hit1 dial c.key b) = _; rw [hr2]; rfl)))
          have HRR := Lib.hid (cx_rules HCO.out.rules.len HCR.out r2 (mem_of_get hr2))
          have HRA := Lib.hid hrA; have HRC := Lib.hid hcc2
          have hb2 : (b : Int) < (c.rn : Int) := by omega
          have db : decide ((b : Int) < 0) = false := decide_eq_false (by omega)
          clear hH1 hdk hr2 hrA hcc2 hgl2
          rw [show bestI (some b) = (b : Int) from rfl]
          obtain ⟨wo, hwo⟩ : ∃ wo, w5.alloc (.cells #[.string r2.pat, .int .i64 r2.strip, .string r2.pre, .int .i64 r2.to_, .string r2.nam, .string r2.hrs] 67) = wo := ⟨_, rfl⟩
          have HRB := Lib.hid (show Blk wo w5.heap.size 67 #[.string r2.pat, .int .i64 r2.strip, .string r2.pre, .int .i64 r2.to_, .string r2.nam, .string r2.hrs] by rw [← hwo]; exact Blk.new _ _ _)
          have hg6 : w5.grownBy wo none := by rw [← hwo]; exact gr_alloc (gr_refl _ _) _
          have HWO := Lib.hid hwo; clear hwo
          obtain ⟨rb, hrb⟩ : ∃ rb, w5.heap.size = rb := ⟨_, rfl⟩
          rw [hrb] at HRB
          have hA := HRA.out
          have kc1 := HCB.out.cell 1
          go_upto_region 10 with (first
            | (refine wpl_load_at Tryz.ruT rfl _ rfl _ rfl [.string r2.pat, .int .i64 r2.strip, .string r2.pre, .int .i64 r2.to_, .string r2.nam, .string r2.hrs] rfl (fun j u hu => by rw [add_mk]; exact HRC.out j u hu) ?_)
            | fail)
          rw [HWO.out]
          (try rw [hrb])
          clear HWO hrb hA kc1 HRC HCO HOB
          replace HR := Lib.hid (HR.out.grown hg6 (by simp))
          replace HCB := Lib.hid (HCB.out.grown hg6 (by simp))
          replace HP := Lib.hid (HP.out.grown hg6 (by simp))
          replace HPL := Lib.hid (HPL.out.grown hg6 (fun g e => by cases e))
          replace HG := Lib.hid (gr_none HG.out hg6)
          clear hg6
          obtain ⟨mi, hmi⟩ : ∃ mi : Nat, min r2.strip.toNat dial.size = mi := ⟨_, rfl⟩
          obtain ⟨s0, s1⟩ := HRR.out.strip
          have hmi2 : min r2.strip (dial.size : Int) = (mi : Int) := by omega
          have hmi3 : mi ≤ dial.size := by omega
          have hmi4 : (mi : Int) ≤ (dial.size : Int) := by omega
          obtain ⟨DD, hDD⟩ : ∃ DD, r2.pre ++ dial.extract mi dial.size = DD := ⟨_, rfl⟩
          have HDD := Lib.hid (show ddOf r2 dial = DD by unfold ddOf; rw [hmi]; exact hDD)
          have hsz : ¬ 9223372036854775807 < r2.pre.size + (dial.size - mi) := by have := HRR.out.pre; omega
          have hDs : DD.size ≤ 2000000 := by rw [← HDD.out]; exact dd_size (by have := HRR.out.pre; omega) hd
          clear hmi
          refine H_begin (fun w' => wo.grownBy w' none) (by kernel_rfl) ?_
          have hHeld : wo.grownBy wo.drew none := gr_drew (gr_refl _ _)
          refine H_take (k := 0) (v := ?_) (by rfl) (by kernel_rfl) (by kernel_rfl) (by kernel_rfl) (by exact fun _ _ _ h => h) (by rfl) ?_ (by assumption) ?_
          rotate_left 1
          · intro w hSw
            (try dsimp only at hSw)
            go_simp
            (try with_reducible rfl)
          (try simp only [Act.put, List.setIfInBounds_toArray, List.set_cons_zero, List.set_cons_succ])
          refine H_take (k := 1) (v := ?_) (by rfl) (by kernel_rfl) (by kernel_rfl) (by kernel_rfl) (by exact fun _ _ _ h => h) (by rfl) ?_ hHeld ?_
          rotate_left 1
          · intro w' hSw
            have kc := (HCB.out.grown hSw (by simp)).cell 0
            go_simp
            (try with_reducible rfl)
          (try simp only [Act.put, List.setIfInBounds_toArray, List.set_cons_zero, List.set_cons_succ])
          refine H_take (k := 2) (v := ?_) (by rfl) (by kernel_rfl) (by kernel_rfl) (by kernel_rfl) (by exact fun _ _ _ h => h) (by rfl) ?_ (by assumption) ?_
          rotate_left 1
          · intro w hSw
            (try dsimp only at hSw)
            go_simp
            (try with_reducible rfl)
          (try simp only [Act.put, List.setIfInBounds_toArray, List.set_cons_zero, List.set_cons_succ])
          refine H_take (k := 3) (v := ?_) (by rfl) (by kernel_rfl) (by kernel_rfl) (by kernel_rfl) (by exact fun _ _ _ h => h) (by rfl) ?_ (by assumption) ?_
          rotate_left 1
          · intro w hSw
            (try dsimp only at hSw)
            go_simp
            (try with_reducible rfl)
          (try simp only [Act.put, List.setIfInBounds_toArray, List.set_cons_zero, List.set_cons_succ])
          refine H_take (k := 4) (v := ?_) (by rfl) (by kernel_rfl) (by kernel_rfl) (by kernel_rfl) (by exact fun _ _ _ h => h) (by rfl) ?_ hHeld ?_
          rotate_left 1
          · intro w' hSw
            have kc := (HRB.out.grown hSw (by simp)).cell 3
            go_simp
            (try with_reducible rfl)
          (try simp only [Act.put, List.setIfInBounds_toArray, List.set_cons_zero, List.set_cons_succ])
          refine H_take (k := 5) (v := ?_) (by rfl) (by kernel_rfl) (by kernel_rfl) (by kernel_rfl) (by exact fun _ _ _ h => h) (by rfl) ?_ (by assumption) ?_
          rotate_left 1
          · intro w hSw
            (try dsimp only at hSw)
            go_simp
            (try with_reducible rfl)
          (try simp only [Act.put, List.setIfInBounds_toArray, List.set_cons_zero, List.set_cons_succ])
          refine H_take (k := 6) (v := ?_) (by rfl) (by kernel_rfl) (by kernel_rfl) (by kernel_rfl) (by exact fun _ _ _ h => h) (by rfl) ?_ hHeld ?_
          rotate_left 1
          · intro w' hSw
            have kc := (HRB.out.grown hSw (by simp)).cell 4
            go_simp
            (try with_reducible rfl)
          (try simp only [Act.put, List.setIfInBounds_toArray, List.set_cons_zero, List.set_cons_succ])
          refine H_take (k := 7) (v := ?_) (by rfl) (by kernel_rfl) (by kernel_rfl) (by kernel_rfl) (by exact fun _ _ _ h => h) (by rfl) ?_ (by assumption) ?_
          rotate_left 1
          · intro w hSw
            (try dsimp only at hSw)
            go_simp
            (try with_reducible rfl)
          (try simp only [Act.put, List.setIfInBounds_toArray, List.set_cons_zero, List.set_cons_succ])
          refine H_take (k := 8) (v := ?_) (by rfl) (by kernel_rfl) (by kernel_rfl) (by kernel_rfl) (by exact fun _ _ _ h => h) (by rfl) ?_ hHeld ?_
          rotate_left 1
          · intro w' hSw
            have kc := (HRB.out.grown hSw (by simp)).cell 2
            go_simp
            (try with_reducible rfl)
          (try simp only [Act.put, List.setIfInBounds_toArray, List.set_cons_zero, List.set_cons_succ])
          refine H_take (k := 9) (v := ?_) (by rfl) (by kernel_rfl) (by kernel_rfl) (by kernel_rfl) (by exact fun _ _ _ h => h) (by rfl) ?_ (by assumption) ?_
          rotate_left 1
          · intro w hSw
            (try dsimp only at hSw)
            go_simp
            (try with_reducible rfl)
          (try simp only [Act.put, List.setIfInBounds_toArray, List.set_cons_zero, List.set_cons_succ])
          refine H_take (k := 10) (v := ?_) (by rfl) (by kernel_rfl) (by kernel_rfl) (by kernel_rfl) (by exact fun _ _ _ h => h) (by rfl) ?_ (by assumption) ?_
          rotate_left 1
          · intro w hSw
            (try dsimp only at hSw)
            go_simp
            (try with_reducible rfl)
          (try simp only [Act.put, List.setIfInBounds_toArray, List.set_cons_zero, List.set_cons_succ])
          refine H_take (k := 11) (v := ?_) (by rfl) (by kernel_rfl) (by kernel_rfl) (by kernel_rfl) (by exact fun _ _ _ h => h) (by rfl) ?_ hHeld ?_
          rotate_left 1
          · intro w' hSw
            have kc := (HRB.out.grown hSw (by simp)).cell 1
            go_simp
            (try with_reducible rfl)
          (try simp only [Act.put, List.setIfInBounds_toArray, List.set_cons_zero, List.set_cons_succ])
          refine H_take (k := 12) (v := ?_) (by rfl) (by kernel_rfl) (by kernel_rfl) (by kernel_rfl) (by exact fun _ _ _ h => h) (by rfl) ?_ (by assumption) ?_
          rotate_left 1
          · intro w hSw
            (try dsimp only at hSw)
            go_simp
            (try with_reducible rfl)
          (try simp only [Act.put, List.setIfInBounds_toArray, List.set_cons_zero, List.set_cons_succ])
          refine H_take (k := 13) (v := ?_) (by rfl) (by kernel_rfl) (by kernel_rfl) (by kernel_rfl) (by exact fun _ _ _ h => h) (by rfl) ?_ (by assumption) ?_
          rotate_left 1
          · intro w hSw
            (try dsimp only at hSw)
            go_simp
            (try with_reducible rfl)
          (try simp only [Act.put, List.setIfInBounds_toArray, List.set_cons_zero, List.set_cons_succ])
          refine H_take (k := 14) (v := ?_) (by rfl) (by kernel_rfl) (by kernel_rfl) (by kernel_rfl) (by exact fun _ _ _ h => h) (by rfl) ?_ (by assumption) ?_
          rotate_left 1
          · intro w hSw
            (try dsimp only at hSw)
            go_simp
            (try with_reducible rfl)
          (try simp only [Act.put, List.setIfInBounds_toArray, List.set_cons_zero, List.set_cons_succ])
          refine H_take (k := 15) (v := ?_) (by rfl) (by kernel_rfl) (by kernel_rfl) (by kernel_rfl) (by exact fun _ _ _ h => h) (by rfl) ?_ (by assumption) ?_
          rotate_left 1
          · intro w hSw
            (try dsimp only at hSw)
            go_simp
            (try with_reducible rfl)
          (try simp only [Act.put, List.setIfInBounds_toArray, List.set_cons_zero, List.set_cons_succ])
          refine H_take (k := 16) (v := ?_) (by rfl) (by kernel_rfl) (by kernel_rfl) (by kernel_rfl) (by exact fun _ _ _ h => h) (by rfl) ?_ (by assumption) ?_
          rotate_left 1
          · intro w hSw
            (try dsimp only at hSw)
            go_simp
            (try with_reducible rfl)
          (try simp only [Act.put, List.setIfInBounds_toArray, List.set_cons_zero, List.set_cons_succ])
          refine H_take (k := 17) (v := ?_) (by rfl) (by kernel_rfl) (by kernel_rfl) (by kernel_rfl) (by exact fun _ _ _ h => h) (by rfl) ?_ (by assumption) ?_
          rotate_left 1
          · intro w hSw
            (try dsimp only at hSw)
            go_simp
            (try with_reducible rfl)
          (try simp only [Act.put, List.setIfInBounds_toArray, List.set_cons_zero, List.set_cons_succ])
          refine H_run (k := 18) (by rfl) (by kernel_rfl) (by rfl) (fun K hK => ?_)
          go_simp
          refine hK _ _ (gr_alloc hHeld _) ?_
          clear hK K
          refine H_run (k := 19) (by rfl) (by kernel_rfl) (by rfl) (fun K hK => ?_)
          refine wp_store_all Tryz.hiT _ _ (by rfl) wo.heap.size (by rfl) 44 _ #[.string c.key, .int .i64 b, .int .i64 r2.to_, .string r2.nam, .string DD] (by rfl) (Blk.new _ _ _) rfl rfl (by simp [Value.oneCell']) ?_
          intro w9 h9
          have hg9 : wo.grownBy w9 none := gr_trans (gr_alloc hHeld _) h9.2.1 (fun g e => .inr (by injection e with e; omega))
          have HHB := Lib.hid h9.1
          obtain ⟨hb9, hhb⟩ : ∃ hb9, wo.heap.size = hb9 := ⟨_, rfl⟩
          rw [hhb] at HHB
          refine hK _ _ hg9 ?_
          clear hK K hHeld h9
          refine H_done (by kernel_rfl) ?_
          (try rw [hhb])
          clear hhb hmi2 hmi3 hmi4 hsz hDD
          replace HR := Lib.hid (HR.out.grown hg9 (by simp))
          replace HRB := Lib.hid (HRB.out.grown hg9 (by simp))
          replace HP := Lib.hid (HP.out.grown hg9 (by simp))
          replace HPL := Lib.hid (HPL.out.grown hg9 (fun g e => by cases e))
          replace HG := Lib.hid (gr_none HG.out hg9)
          clear hg9
          have kd := HHB.out.cell 4
          have kt := HRB.out.cell 3
          have HH1 := Lib.hid (show hitR hours dial t L = if 30 < DD.size then (zeroH, 2) else (if nb DD = [] ∧ (r2.to_ = 1 ∨ r2.to_ = 2) then (zeroH, 3) else (hitC c.key b r2 DD, 0)) by rw [HHH.out]; unfold hit1; rw [HDD.out])
          clear HHH
          by_cases c30 : 30 < DD.size
          · have d30 : decide ((30 : Int) < (DD.size : Int)) = true := decide_eq_true (by omega)
            rw [if_pos c30] at HH1
            go_wp2_with (first
              | (refine wpl_store_all Tryz.hiT rfl _ _ rfl _ rfl _ _ _ rfl HR.out rfl rfl (by simp [Value.oneCell']) ?_
                 intro wz hst
                 have HST := Lib.hid hst; clear hst)
              | fail)
            refine ret_cell_tmp Tryz.hiT rfl (w.heap.size + 1) 44 #[.string ⟨#[]⟩, .int .i64 0, .int .i64 0, .string ⟨#[]⟩, .string ⟨#[]⟩] _ rfl rfl HST.out.1 rfl rfl ?_
            exact ⟨(zeroH, 2), r, rfl, gr_trans HG.out HST.out.2.1 (fun g e => .inr (by injection e with e; omega)), fun _ => ⟨HOK2.out, by dsimp only; rw [HLL.out]; exact HH1.out.symm⟩, fun e => absurd (HE0.out.trans e0) e⟩
          · have d30 : decide ((30 : Int) < (DD.size : Int)) = false := decide_eq_false (by omega)
            rw [if_neg c30] at HH1
            by_cases cnil : nb DD = []
            · have qn := str_nil cnil
              by_cases t1 : r2.to_ = 1
              · have dt : (r2.to_ == 1) = true := by simpa using t1
                rw [if_pos ⟨cnil, .inl t1⟩] at HH1
                clear cnil t1
                go_wp2_with (first
                  | (refine wpl_store_all Tryz.hiT rfl _ _ rfl _ rfl _ _ _ rfl HR.out rfl rfl (by simp [Value.oneCell']) ?_
                     intro wz hst
                     have HST := Lib.hid hst; clear hst)
                  | fail)
                refine ret_cell_tmp Tryz.hiT rfl (w.heap.size + 1) 44 #[.string ⟨#[]⟩, .int .i64 0, .int .i64 0, .string ⟨#[]⟩, .string ⟨#[]⟩] _ rfl rfl HST.out.1 rfl rfl ?_
                exact ⟨(zeroH, 3), r, rfl, gr_trans HG.out HST.out.2.1 (fun g e => .inr (by injection e with e; omega)), fun _ => ⟨HOK2.out, by dsimp only; rw [HLL.out]; exact HH1.out.symm⟩, fun e => absurd (HE0.out.trans e0) e⟩
              · have dt : (r2.to_ == 1) = false := by simpa using t1
                by_cases t2 : r2.to_ = 2
                · have dt2 : (r2.to_ == 2) = true := by simpa using t2
                  rw [if_pos ⟨cnil, .inr t2⟩] at HH1
                  clear cnil t1 t2
                  go_wp2_with (first
                    | (refine wpl_store_all Tryz.hiT rfl _ _ rfl _ rfl _ _ _ rfl HR.out rfl rfl (by simp [Value.oneCell']) ?_
                       intro wz hst
                       have HST := Lib.hid hst; clear hst)
                    | fail)
                  refine ret_cell_tmp Tryz.hiT rfl (w.heap.size + 1) 44 #[.string ⟨#[]⟩, .int .i64 0, .int .i64 0, .string ⟨#[]⟩, .string ⟨#[]⟩] _ rfl rfl HST.out.1 rfl rfl ?_
                  exact ⟨(zeroH, 3), r, rfl, gr_trans HG.out HST.out.2.1 (fun g e => .inr (by injection e with e; omega)), fun _ => ⟨HOK2.out, by dsimp only; rw [HLL.out]; exact HH1.out.symm⟩, fun e => absurd (HE0.out.trans e0) e⟩
                · have dt2 : (r2.to_ == 2) = false := by simpa using t2
                  rw [if_neg (fun h => h.2.elim t1 t2)] at HH1
                  clear cnil t1 t2
                  go_upto_region 15 with (fail)
                  clear kd kt
                  (try clear qn)
                  (try clear qf1 qf2 qf3)
                  (try clear dt dt2)
                  go_wp2_with (first
                    | (refine wpl_load_all Tryz.hiT rfl _ rfl _ rfl _ _ HHB.out rfl ?_)
                    | (refine wpl_store_all Tryz.hiT rfl _ _ rfl _ rfl _ _ _ rfl HR.out rfl rfl (by simp [Value.oneCell']) ?_
                       intro wz hst
                       have HST := Lib.hid hst; clear hst)
                    | fail)
                  refine ret_cell_tmp Tryz.hiT rfl (w.heap.size + 1) 44 #[.string c.key, .int .i64 b, .int .i64 r2.to_, .string r2.nam, .string DD] _ rfl rfl HST.out.1 rfl rfl ?_
                  exact ⟨(hitC c.key b r2 DD, 0), r, rfl, gr_trans HG.out HST.out.2.1 (fun g e => .inr (by injection e with e; omega)), fun _ => ⟨HOK2.out, by dsimp only; rw [HLL.out]; exact HH1.out.symm⟩, fun e => absurd (HE0.out.trans e0) e⟩
            · obtain ⟨qf1, qf2, qf3⟩ := str_full cnil
              rw [if_neg (fun h => cnil h.1)] at HH1
              clear cnil
              go_upto_region 15 with (fail)
              clear kd kt
              (try clear qn)
              (try clear qf1 qf2 qf3)
              (try clear dt dt2)
              go_wp2_with (first
                | (refine wpl_load_all Tryz.hiT rfl _ rfl _ rfl _ _ HHB.out rfl ?_)
                | (refine wpl_store_all Tryz.hiT rfl _ _ rfl _ rfl _ _ _ rfl HR.out rfl rfl (by simp [Value.oneCell']) ?_
                   intro wz hst
                   have HST := Lib.hid hst; clear hst)
                | fail)
              refine ret_cell_tmp Tryz.hiT rfl (w.heap.size + 1) 44 #[.string c.key, .int .i64 b, .int .i64 r2.to_, .string r2.nam, .string DD] _ rfl rfl HST.out.1 rfl rfl ?_
              exact ⟨(hitC c.key b r2 DD, 0), r, rfl, gr_trans HG.out HST.out.2.1 (fun g e => .inr (by injection e with e; omega)), fun _ => ⟨HOK2.out, by dsimp only; rw [HLL.out]; exact HH1.out.symm⟩, fun e => absurd (HE0.out.trans e0) e⟩
      · obtain rfl : m = k := by omega
        have HHN := Lib.hid (show hitR hours dial t L = (zeroH, 8) by rw [HHIT.out, List.drop_of_length_le (by rw [HOB.out.2]; exact Nat.le_refl _)]; rfl)
        go_wp2_with (first
          | (refine wpl_store_all Tryz.hiT rfl _ _ rfl _ rfl _ _ _ rfl HR.out rfl rfl (by simp [Value.oneCell']) ?_
             intro wz hst
             have HST := Lib.hid hst; clear hst)
          | fail)
        refine ret_cell_tmp Tryz.hiT rfl (w.heap.size + 1) 44 #[.string ⟨#[]⟩, .int .i64 0, .int .i64 0, .string ⟨#[]⟩, .string ⟨#[]⟩] _ rfl rfl HST.out.1 rfl rfl ?_
        exact ⟨(zeroH, 8), r, rfl, gr_trans HG.out HST.out.2.1 (fun g e => .inr (by injection e with e; omega)), fun _ => ⟨HOK2.out, by dsimp only; rw [HLL.out]; exact HHN.out.symm⟩, fun e => absurd (HE0.out.trans e0) e⟩
  · have dE : (E0 != 0) = true := by simpa using e0
    have zr := HR.out.lt
    go_wp2_with (first
      | (refine wpl_store_all Tryz.hiT rfl _ _ rfl _ rfl _ _ _ rfl HR.out rfl rfl (by simp [Value.oneCell']) ?_
         intro wz hst
         have HST := Lib.hid hst; clear hst)
      | fail)
    refine ret_cell_tmp Tryz.hiT rfl (w.heap.size + 1) 44 #[.string ⟨#[]⟩, .int .i64 0, .int .i64 0, .string ⟨#[]⟩, .string ⟨#[]⟩] _ rfl rfl HST.out.1 rfl rfl ?_
    exact ⟨(zeroH, E0), r, rfl, gr_trans HG.out HST.out.2.1 (fun g e => .inr (by injection e with e; omega)), fun e => absurd (HE0.out.symm.trans e) e0, fun _ => by rw [HE0.out]⟩
end Go.Proofs.YtdhaelpacffnlaaGreatDoor

/- Contract of the document's PlanFault. Conditions: none. -/
import Derived.Test.YtpjheibkacbbcaaGreatDoorBun9
namespace Go.Proofs.YtpjheibkacbbcaaGreatDoor
open Go.RowKit

theorem keyed_of {hs : List HrV} {l : List CxV} (h : fstE (cxAt hs l) l.length = 0) : Keyed1 l := by
  have hr : ∀ (i : Nat) (a : CxV), l[i]? = some a → CxRight hs a ∧ (∀ b, 0 < i → l[i - 1]? = some b → leS a.key b.key = false) := fun i a ha =>
    cx_right ha (fstE_alh h (List.getElem?_eq_some_iff.1 ha).1)
  have st : ∀ (j i : Nat) (a b : CxV), i < j → l[i]? = some a → l[j]? = some b → cmpS a.key b.key < 0 := by
    intro j
    induction j with
    | zero => intro i a b h; omega
    | succ j ih =>
      intro i a b hij ha hb
      have hl := (List.getElem?_eq_some_iff.1 hb).1
      obtain ⟨c, hc⟩ : ∃ c, l[j]? = some c := ⟨_, List.getElem?_eq_getElem (by omega)⟩
      have h1 := (hr (j + 1) b hb).2 c (by omega) hc
      unfold leS at h1
      rw [leS_cmp] at h1
      have h2 : cmpS c.key b.key < 0 := by
        have := of_decide_eq_false h1
        have h3 := cmpS_neg b.key c.key
        omega
      by_cases e : i = j
      · subst e; rw [ha] at hc; injection hc with hc; rw [hc]; exact h2
      · exact cmpS_trans (ih i a c (by omega) ha hc) h2
  intro i j a b ha hb hk
  have hz := cmpS_zero.2 hk
  rcases Nat.lt_trichotomy i j with h1 | h1 | h1
  · have := st j i a b h1 ha hb; omega
  · exact h1
  · have := st i j b a h1 hb ha
    have h3 := cmpS_neg a.key b.key
    omega
set_option maxHeartbeats 2000000 in
theorem inMis_any (s : ByteArray) (p : PlV) (lo kb : Nat) (w : World) (hk : Blk w kb 48 #[.slice p.cA p.cn p.cc, .slice p.hA p.hn p.hc]) (h : Recs CxV.row 3 w lo p.cA p.cn p.cc p.ctxs) (hn : p.cn ≤ 1000000) :
    Calls Tryz.prog 87 #[.string s, .pointer (some ⟨kb, 0, none⟩)] w (RetV (.bool (decide (cxIx p.ctxs s < 0))) w) := by
  have HK := Lib.hid hk; have H := Lib.hid h
  clear hk h
  obtain ⟨I, hI⟩ : ∃ I, cxIx p.ctxs s = I := ⟨_, rfl⟩
  rw [hI]
  have HI := Lib.hid hI; clear hI
  obtain ⟨B, hB⟩ : ∃ B, decide (I < 0) = B := ⟨_, rfl⟩
  rw [hB]
  go_enter Tryz.func87, Tryz.ntmps87
  go_wp2_with (first
    | (refine wpl_load_all Tryz.plT rfl _ rfl _ rfl _ _ HK.out rfl ?_)
    | fail)
  refine (contextAtR_any lo p s _ H.out hn).mono ?_
  rintro e w2 ⟨rfl, hg2⟩
  rw [HI.out]
  have HG2 := Lib.hid hg2; clear hg2
  go_wp2_with fail
  go_ret
  exact ⟨by first | rfl | (rw [hB]), HG2.out⟩
set_option maxHeartbeats 4000000 in
theorem inMisIdx_any (lo : Nat) (A : Option Addr) (n c : Nat) (l : List ByteArray) (p : PlV) (lo2 kb : Nat) (hpn : p.cn ≤ 1000000) (w : World) (h : Recs srow 1 w lo A n c l) (hn : n ≤ 1000000000000) (h_k : Blk w kb 48 #[.slice p.cA p.cn p.cc, .slice p.hA p.hn p.hc]) (h_c : Recs CxV.row 3 w lo2 p.cA p.cn p.cc p.ctxs) :
    Calls Tryz.prog 163 #[.slice A n c, .func (.func 87) #[] #[.pointer (some ⟨kb, 0, none⟩)]] w (RetV (.int .i64 (idxP (fun s => decide (cxIx p.ctxs s < 0)) l)) w) := by
  have H := Lib.hid h; have Hk := Lib.hid h_k; have Hc := Lib.hid h_c; clear h h_k h_c
  go_enter Tryz.func163, Tryz.ntmps163
  go_wp2_with fail
  go_loopw [5, 8] (fun _ t' wr => ∃ i : Nat, i ≤ n ∧ t' = .int .i64 i ∧ w.grownBy wr none ∧ (l.take i).all (fun x => !((fun s => decide (cxIx p.ctxs s < 0)) x)) = true) (fun _ t' _ => n - (intOf t').toNat)
  case atStart => exact ⟨0, Nat.zero_le _, rfl, gr_refl _ _, by simp⟩
  case round =>
    obtain ⟨i, hi, rfl, hg, ha⟩ := hrel
    have HA := Lib.hid ha; have HG := Lib.hid hg; clear ha hg
    by_cases hlt : i < n
    · obtain ⟨g, o, b, rfl, _, hgl, hz, hc⟩ := (H.out.grown HG.out (fun g e => by cases e)).get srow_len hlt
      have HZ := Lib.hid hz; have HC := Lib.hid hc; clear hz hc
      have ks := HC.out 0 _ rfl
      simp only [Nat.mul_one, Nat.add_zero] at ks
      obtain ⟨B, hB⟩ : ∃ B, (fun s => decide (cxIx p.ctxs s < 0)) b = B := ⟨_, rfl⟩
      have HE := Lib.hid hB; clear hB
      cases B
      all_goals
        go_wp2_with (first
          | (go_at_call 87; refine (inMis_any b p lo2 kb _ (Hk.out.grown HG.out (by simp)) (Hc.out.grown HG.out (fun g e => by cases e)) hpn).mono ?_; rintro e w2 ⟨rfl, hg2⟩; have he := HE.out; (try dsimp only at he); rw [he]; clear he; have HG2 := Lib.hid (gr_none HG.out hg2); clear hg2)
          | fail)
      · go_roundw
        case rel => exact ⟨i + 1, by omega, by go_num, HG2.out, allP_succ (p := (fun s => decide (cxIx p.ctxs s < 0))) HA.out HZ.out HE.out⟩
        case measure => simp [intOf]; omega
      · go_ret
        exact ⟨by rw [idxP_some (p := (fun s => decide (cxIx p.ctxs s < 0))) HA.out HZ.out HE.out]; rfl, HG2.out⟩
    · obtain rfl : i = n := by omega
      go_wp2_with fail
      go_ret
      have h := HA.out
      rw [List.take_of_length_le (by rw [H.out.len]; exact Nat.le_refl _)] at h
      exact ⟨by rw [idxP_none (p := (fun s => decide (cxIx p.ctxs s < 0))) h]; rfl, HG.out⟩
set_option maxHeartbeats 4000000 in
theorem inMisHas_any (lo : Nat) (A : Option Addr) (n c : Nat) (l : List ByteArray) (p : PlV) (lo2 kb : Nat) (hpn : p.cn ≤ 1000000) (w : World) (h : Recs srow 1 w lo A n c l) (hn : n ≤ 1000000000000) (h_k : Blk w kb 48 #[.slice p.cA p.cn p.cc, .slice p.hA p.hn p.hc]) (h_c : Recs CxV.row 3 w lo2 p.cA p.cn p.cc p.ctxs) :
    Calls Tryz.prog 86 #[.slice A n c, .func (.func 87) #[] #[.pointer (some ⟨kb, 0, none⟩)]] w (RetV (.bool (l.any (fun s => decide (cxIx p.ctxs s < 0)))) w) := by
  have H := Lib.hid h; have Hk := Lib.hid h_k; have Hc := Lib.hid h_c; clear h h_k h_c
  have HI := Lib.hid (idxP_any (p := (fun s => decide (cxIx p.ctxs s < 0))) (l := l))
  obtain ⟨I, hI⟩ : ∃ I, idxP (fun s => decide (cxIx p.ctxs s < 0)) l = I := ⟨_, rfl⟩
  rw [hI] at HI
  have HI2 := Lib.hid hI; clear hI
  go_enter Tryz.func86, Tryz.ntmps86
  go_wp2_with (first
    | (go_at_call 163; refine (inMisIdx_any lo _ _ _ l p lo2 kb hpn _ H.out hn Hk.out Hc.out).mono ?_; rintro e w2 ⟨rfl, hg2⟩; rw [HI2.out]; have HG2 := Lib.hid hg2; clear hg2)
    | fail)
  go_ret
  exact ⟨by rw [← HI.out]; rfl, HG2.out⟩
set_option maxHeartbeats 16000000 in
set_option maxRecDepth 100000 in
theorem planFault_any (lo : Nat) (p : PlV) (LB : Bool) (w : World) (h : PlOk w lo p) (hLB : LB = true ↔ Loops p.ctxs) :
    Calls Tryz.prog 22 #[.agg #[.slice p.cA p.cn p.cc, .slice p.hA p.hn p.hc]] w (RetV (.int .i64 (plE p LB)) w) := by
  obtain ⟨cA, cn, cc, hA, hn, hc, ctxs, hours⟩ := p
  have hcn : cn ≤ 1000000 := h.cn
  have hhn : hn ≤ 1000000 := h.hn
  have hlen := h.ctxs.len
  dsimp only at hlen hLB ⊢
  obtain ⟨W1, hW⟩ : ∃ W1, w.alloc (.cells #[.slice cA cn cc, .slice hA hn hc] 48) = W1 := ⟨_, rfl⟩
  have HP := Lib.hid (show Blk W1 w.heap.size 48 #[.slice cA cn cc, .slice hA hn hc] by rw [← hW]; exact Blk.new _ _ _)
  have HG := Lib.hid (show w.grownBy W1 none by rw [← hW]; exact gr_alloc (gr_refl _ _) _)
  have HPL := Lib.hid (h.grown HG.out (fun g e => by cases e))
  have HW := Lib.hid hW
  have HLB := Lib.hid hLB
  have HLEN := Lib.hid hlen
  clear h hW hLB hlen
  obtain ⟨E0, hE0⟩ : ∃ E, hrsE hours = E := ⟨_, rfl⟩
  have HE0 := Lib.hid hE0; clear hE0
  go_enter Tryz.func22, Tryz.ntmps22
  go_upto_region 1 with (fail)
  rw [HW.out]
  have k1 := HP.out.cell 1
  go_wp2_with fail
  refine (hoursFault_any lo hA hn hc hours _ HPL.out.hours (by omega)).mono ?_
  rintro e w2 ⟨rfl, hg2⟩
  rw [HE0.out]
  clear k1
  replace HP := Lib.hid (HP.out.grown hg2 (by simp))
  replace HPL := Lib.hid (HPL.out.grown hg2 (fun g e => by cases e))
  replace HG := Lib.hid (gr_none HG.out hg2)
  clear hg2
  by_cases e0 : E0 = 0
  · have dE : (E0 != 0) = false := by simpa using e0
    have HV := Lib.hid (show plE ⟨cA, cn, cc, hA, hn, hc, ctxs, hours⟩ LB = if 50 < cn then 2 else (if fstE (cxAt hours ctxs) cn = 0 then (if misB ctxs = true then 8 else (if LB = true then 14 else 0)) else fstE (cxAt hours ctxs) cn) by unfold plE; dsimp only; rw [if_pos (HE0.out.trans e0)])
    have k0 := HP.out.cell 0
    by_cases c50 : 50 < cn
    · have d50 : decide ((50 : Int) < (cn : Int)) = true := decide_eq_true (by omega)
      rw [if_pos c50] at HV
      go_wp2_with fail
      go_ret
      exact ⟨by rw [HV.out]; try rfl, HG.out⟩
    · have d50 : decide ((50 : Int) < (cn : Int)) = false := decide_eq_false (by omega)
      rw [if_neg c50] at HV
      go_wp2_with fail
      clear k0
      go_loopw [4, 6, 7, 8, 9, 10, 11, 29] (fun v _ _ _ _ _ _ t wr => ∃ k : Nat, k ≤ cn ∧ t = .int .i64 k ∧ v = .string (lastC ctxs k) ∧ w.grownBy wr none ∧ PlOk wr lo ⟨cA, cn, cc, hA, hn, hc, ctxs, hours⟩ ∧ Blk wr w.heap.size 48 #[.slice cA cn cc, .slice hA hn hc] ∧ fstE (cxAt hours ctxs) k = 0) (fun _ _ _ _ _ _ _ t _ => cn - (intOf t).toNat)
      case atStart => exact ⟨0, Nat.zero_le _, rfl, rfl, HG.out, HPL.out, HP.out, rfl⟩
      case round =>
        clear HG HPL HP
        obtain ⟨k, hk, rfl, rfl, hg, hpl, hp, ha⟩ := hrel
        have HG := Lib.hid hg; have HPL := Lib.hid hpl; have HP := Lib.hid hp
        clear hg hpl hp
        have HA := Lib.hid ha; clear ha
        by_cases hlt : k < cn
        · obtain ⟨la, hla⟩ : ∃ la, lastC ctxs k = la := ⟨_, rfl⟩
          rw [hla]
          have HLA := Lib.hid hla; clear hla
          have hqk : (k : Int) < (cn : Int) := by omega
          obtain ⟨⟨key, rA, rn, rc, iA, en, ic, rules, incs⟩, hzc⟩ : ∃ z, ctxs[k]? = some z := ⟨_, List.getElem?_eq_getElem (by have := HPL.out.ctxs.len; dsimp only at this; omega)⟩
          have HZC := Lib.hid hzc; clear hzc
          obtain ⟨g, o, z', hcA, _, hgl, hz', hcc⟩ := HPL.out.ctxs.get CxV.row_len hlt
          dsimp only at hcA hz'
          obtain rfl : ⟨key, rA, rn, rc, iA, en, ic, rules, incs⟩ = z' := by rw [HZC.out] at hz'; injection hz'
          subst hcA
          have HCC := Lib.hid hcc
          clear hz' hcc
          have HC := Lib.hid (HPL.out.cok _ (mem_of_get HZC.out))
          have hen : en ≤ 1000000 := HC.out.en
          have hrn : rn ≤ 1000000 := HC.out.rn
          have hkey : key.size ≤ 1000000 := HC.out.key
          obtain ⟨W3, hW3⟩ : ∃ W3, wr.alloc (.cells #[.string key, .slice rA rn rc, .slice iA en ic] 106) = W3 := ⟨_, rfl⟩
          have HB := Lib.hid (show Blk W3 wr.heap.size 106 #[.string key, .slice rA rn rc, .slice iA en ic] by rw [← hW3]; exact Blk.new _ _ _)
          have hg3 : wr.grownBy W3 none := by rw [← hW3]; exact gr_alloc (gr_refl _ _) _
          have HW3 := Lib.hid hW3; clear hW3
          go_upto_region 10 with (first
            | (refine wpl_load_at Tryz.cxT rfl _ rfl _ rfl [.string key, .slice rA rn rc, .slice iA en ic] rfl (fun j u hu => by rw [add_mk]; exact HCC.out j u hu) ?_)
            | fail)
          rw [HW3.out]
          obtain ⟨cb, hcb⟩ : ∃ cb, wr.heap.size = cb := ⟨_, rfl⟩
          rw [hcb] at HB ⊢
          clear hcb HW3 HCC hgl
          replace HC := Lib.hid (HC.out.grown hg3 (fun g e => by cases e))
          replace HP := Lib.hid (HP.out.grown hg3 (by simp))
          replace HPL := Lib.hid (HPL.out.grown hg3 (fun g e => by cases e))
          replace HG := Lib.hid (gr_none HG.out hg3)
          clear hg3
          have k0 := HB.out.cell 0
          go_wp2_with fail
          refine (keyRef_any key _ (by omega)).mono ?_
          rintro e w' ⟨rfl, rfl⟩
          cases hB1 : keyOk (nb key)
          · have HF2 := Lib.hid (fst_ret (X := (if misB ctxs = true then 8 else (if LB = true then 14 else 0))) HA.out (cxAt_5 (hs := hours) HZC.out hB1) (by decide) hlt)
            go_wp2_with fail
            go_ret
            exact ⟨by rw [HV.out, HF2.out]; try rfl, HG.out⟩
          · have HAL := Lib.hid (show cxAt hours ctxs k = if leS key la then 7 else cxE hours ⟨key, rA, rn, rc, iA, en, ic, rules, incs⟩ by rw [← HLA.out]; exact cxAt_last HZC.out hB1)
            clear hB1
            cases h7 : (Op.bytesLess key.toList la.toList || key.toList == la.toList)
            · have HAE0 := Lib.hid (show cxAt hours ctxs k = cxE hours ⟨key, rA, rn, rc, iA, en, ic, rules, incs⟩ by rw [HAL.out]; show (if leS key la = true then (7 : Int) else _) = _; rw [show leS key la = false from h7]; rfl)
              clear HAL
              have k1 := HB.out.cell 1
              by_cases c200 : 200 < rn
              · have d200 : decide ((200 : Int) < (rn : Int)) = true := decide_eq_true (by omega)
                have HF2 := Lib.hid (fst_ret (X := (if misB ctxs = true then 8 else (if LB = true then 14 else 0))) HA.out (show cxAt hours ctxs k = 2 by rw [HAE0.out]; unfold cxE; dsimp only; rw [if_pos c200]) (by decide) hlt)
                go_wp2_with fail
                go_ret
                exact ⟨by rw [HV.out, HF2.out]; try rfl, HG.out⟩
              · have d200 : decide ((200 : Int) < (rn : Int)) = false := decide_eq_false (by omega)
                have HAE := Lib.hid (show cxAt hours ctxs k = if fstE (ruAt hours rules) rn = 0 then (if 10 < en then 2 else fstE (incAt incs) en) else fstE (ruAt hours rules) rn by rw [HAE0.out]; unfold cxE; dsimp only; rw [if_neg c200])
                clear HAE0
                go_wp2_with fail
                clear k0 k1 h7
                go_loopw [7, 8, 9, 53] (fun _ _ _ t wr => ∃ j : Nat, j ≤ rn ∧ t = .int .i64 j ∧ w.grownBy wr none ∧ PlOk wr lo ⟨some ⟨g, o, none⟩, cn, cc, hA, hn, hc, ctxs, hours⟩ ∧ Blk wr w.heap.size 48 #[.slice (some ⟨g, o, none⟩) cn cc, .slice hA hn hc] ∧ CxOk wr lo ⟨key, rA, rn, rc, iA, en, ic, rules, incs⟩ ∧ Blk wr cb 106 #[.string key, .slice rA rn rc, .slice iA en ic] ∧ fstE (ruAt hours rules) j = 0) (fun _ _ _ t _ => rn - (intOf t).toNat)
                case atStart => exact ⟨0, Nat.zero_le _, rfl, HG.out, HPL.out, HP.out, HC.out, HB.out, rfl⟩
                case round =>
                  clear HG HPL HP HC HB
                  obtain ⟨j, hj, rfl, hg, hpl, hp, hcx, hb, ha⟩ := hrel
                  have HG := Lib.hid hg; have HPL := Lib.hid hpl; have HP := Lib.hid hp
                  clear hg hpl hp
                  have HC := Lib.hid hcx; have HB := Lib.hid hb; have HA2 := Lib.hid ha
                  clear hcx hb ha
                  by_cases hlt2 : j < rn
                  · obtain ⟨g', o', r, hrA, _, hgl', hz', hcc'⟩ := HC.out.rules.get RuV.row_len hlt2
                    dsimp only at hrA hz'
                    subst hrA
                    have HRC := Lib.hid hcc'
                    have HZ2 := Lib.hid hz'
                    have HRO := Lib.hid (HC.out.rok r (mem_of_get hz'))
                    have hjj : (j : Int) < (rn : Int) := by omega
                    have hcap : rn ≤ rc := HC.out.rules.cap
                    have hjc : j ≤ rc := by omega
                    obtain ⟨E, hE⟩ : ∃ E, ruE hours (rules.take j) r = E := ⟨_, rfl⟩
                    have HEA := Lib.hid (show ruAt hours rules j = E by unfold ruAt; rw [hz']; exact hE)
                    have HE := Lib.hid hE
                    clear hcc' hz' hE
                    obtain ⟨wo, hwo⟩ : ∃ wo, wr.alloc (.cells #[.string r.pat, .int .i64 r.strip, .string r.pre, .int .i64 r.to_, .string r.nam, .string r.hrs] 109) = wo := ⟨_, rfl⟩
                    have HR := Lib.hid (show Blk wo wr.heap.size 109 #[.string r.pat, .int .i64 r.strip, .string r.pre, .int .i64 r.to_, .string r.nam, .string r.hrs] by rw [← hwo]; exact Blk.new _ _ _)
                    have hg5 : wr.grownBy wo none := by rw [← hwo]; exact gr_alloc (gr_refl _ _) _
                    have HWO := Lib.hid hwo; clear hwo
                    go_upto_region 20 with (first
                      | (refine wpl_load_at Tryz.ruT rfl _ rfl _ rfl [.string r.pat, .int .i64 r.strip, .string r.pre, .int .i64 r.to_, .string r.nam, .string r.hrs] rfl (fun j u hu => by rw [add_mk]; exact HRC.out j u hu) ?_)
                      | fail)
                    rw [HWO.out]
                    replace HC := Lib.hid (HC.out.grown hg5 (fun g e => by cases e))
                    replace HB := Lib.hid (HB.out.grown hg5 (by simp))
                    replace HP := Lib.hid (HP.out.grown hg5 (by simp))
                    replace HPL := Lib.hid (HPL.out.grown hg5 (fun g e => by cases e))
                    replace HG := Lib.hid (gr_none HG.out hg5)
                    clear hg5
                    clear HRC
                    refine H_begin (fun w' => wo.grownBy w' none) (by kernel_rfl) ?_
                    have hHeld : wo.grownBy wo.drew none := gr_drew (gr_refl _ _)
                    refine H_take (k := 0) (v := .agg #[.slice (some ⟨g, o, none⟩) cn cc, .slice hA hn hc]) (by rfl) (by kernel_rfl) (by kernel_rfl) (by kernel_rfl) (by exact fun _ _ _ h => h) (by rfl) (fun w' hSw => exec_load_blk' Tryz.plT _ rfl _ rfl 48 [.slice (some ⟨g, o, none⟩) cn cc, .slice hA hn hc] (HP.out.grown hSw (by simp)) rfl) hHeld ?_
                    (try simp only [Act.put, List.setIfInBounds_toArray, List.set_cons_zero, List.set_cons_succ])
                    refine H_take (k := 1) (v := .agg #[.string r.pat, .int .i64 r.strip, .string r.pre, .int .i64 r.to_, .string r.nam, .string r.hrs]) (by rfl) (by kernel_rfl) (by kernel_rfl) (by kernel_rfl) (by exact fun _ _ _ h => h) (by rfl) (fun w' hSw => exec_load_blk' Tryz.ruT _ rfl _ rfl 109 [.string r.pat, .int .i64 r.strip, .string r.pre, .int .i64 r.to_, .string r.nam, .string r.hrs] (HR.out.grown hSw (by simp)) rfl) hHeld ?_
                    (try simp only [Act.put, List.setIfInBounds_toArray, List.set_cons_zero, List.set_cons_succ])
                    refine H_take (k := 2) (v := ?_) (by rfl) (by kernel_rfl) (by kernel_rfl) (by kernel_rfl) (by exact fun _ _ _ h => h) (by rfl) ?_ (by assumption) ?_
                    rotate_left 1
                    · intro w hSw
                      (try dsimp only at hSw)
                      go_simp
                      (try with_reducible rfl)
                    (try simp only [Act.put, List.setIfInBounds_toArray, List.set_cons_zero, List.set_cons_succ])
                    refine H_take (k := 3) (v := ?_) (by rfl) (by kernel_rfl) (by kernel_rfl) (by kernel_rfl) (by exact fun _ _ _ h => h) (by rfl) ?_ hHeld ?_
                    rotate_left 1
                    · intro w' hSw
                      have kc := (HB.out.grown hSw (by simp)).cell 1
                      go_simp
                      (try with_reducible rfl)
                    (try simp only [Act.put, List.setIfInBounds_toArray, List.set_cons_zero, List.set_cons_succ])
                    refine H_take (k := 4) (v := ?_) (by rfl) (by kernel_rfl) (by kernel_rfl) (by kernel_rfl) (by exact fun _ _ _ h => h) (by rfl) ?_ (by assumption) ?_
                    rotate_left 1
                    · intro w hSw
                      (try dsimp only at hSw)
                      go_simp
                      (try with_reducible rfl)
                    (try simp only [Act.put, List.setIfInBounds_toArray, List.set_cons_zero, List.set_cons_succ])
                    refine H_take (k := 5) (v := ?_) (by rfl) (by kernel_rfl) (by kernel_rfl) (by kernel_rfl) (by exact fun _ _ _ h => h) (by rfl) ?_ (by assumption) ?_
                    rotate_left 1
                    · intro w hSw
                      (try dsimp only at hSw)
                      go_simp
                      (try with_reducible rfl)
                    (try simp only [Act.put, List.setIfInBounds_toArray, List.set_cons_zero, List.set_cons_succ])
                    refine H_run (k := 6) (by rfl) (by kernel_rfl) (by rfl) (fun K hK => ?_)
                    go_simp
                    refine (ruleFault_any lo ⟨some ⟨g, o, none⟩, cn, cc, hA, hn, hc, ctxs, hours⟩ (some ⟨g', o', none⟩) j rc (rules.take j) r _ (HPL.out.hours.1.grown (gr_drew (gr_refl _ none)) (fun g e => by cases e)) HPL.out.hn ((HC.out.rules.take RuV.row_len (show j ≤ rn by omega)).grown (gr_drew (gr_refl _ none)) (fun g e => by cases e)) (by omega) HRO.out).mono ?_
                    rintro e w6 ⟨rfl, hg6'⟩
                    dsimp only
                    rw [HE.out]
                    have hg6 := gr_none (gr_drew (gr_refl wo none)) hg6'
                    refine hK _ _ hg6 ?_
                    clear hK K hHeld hg6'
                    have hHeld := hg6
                    refine H_take (k := 7) (v := ?_) (by rfl) (by kernel_rfl) (by kernel_rfl) (by kernel_rfl) (by exact fun _ _ _ h => h) (by rfl) ?_ (by assumption) ?_
                    rotate_left 1
                    · intro w hSw
                      (try dsimp only at hSw)
                      go_simp
                      (try with_reducible rfl)
                    (try simp only [Act.put, List.setIfInBounds_toArray, List.set_cons_zero, List.set_cons_succ])
                    refine H_done (by kernel_rfl) ?_
                    clear hHeld
                    replace HC := Lib.hid (HC.out.grown hg6 (fun g e => by cases e))
                    replace HB := Lib.hid (HB.out.grown hg6 (by simp))
                    replace HP := Lib.hid (HP.out.grown hg6 (by simp))
                    replace HPL := Lib.hid (HPL.out.grown hg6 (fun g e => by cases e))
                    replace HG := Lib.hid (gr_none HG.out hg6)
                    clear hg6
                    by_cases e1 : E = 0
                    · have dE : (E != 0) = false := by simpa using e1
                      have HN := Lib.hid (HEA.out.trans e1)
                      go_wp2_with fail
                      go_roundw
                      case rel => exact ⟨j + 1, by omega, by go_num, HG.out, HPL.out, HP.out, HC.out, HB.out, fstE_zero HA2.out HN.out⟩
                      case measure => simp [intOf]; omega
                    · have dE : (E != 0) = true := by simpa using e1
                      have HF := Lib.hid (fst_ret (X := (if 10 < en then 2 else fstE (incAt incs) en)) HA2.out HEA.out e1 hlt2)
                      have HF2 := Lib.hid (fst_ret (X := (if misB ctxs = true then 8 else (if LB = true then 14 else 0))) HA.out (HAE.out.trans HF.out) e1 hlt)
                      go_wp2_with fail
                      go_ret
                      exact ⟨by rw [HV.out, HF2.out]; try rfl, HG.out⟩
                  · obtain rfl : rn = j := by omega
                    rw [if_pos HA2.out] at HAE
                    clear HA2
                    have k2 := HB.out.cell 2
                    by_cases c10 : 10 < en
                    · have d10 : decide ((10 : Int) < (en : Int)) = true := decide_eq_true (by omega)
                      rw [if_pos c10] at HAE
                      have HF2 := Lib.hid (fst_ret (X := (if misB ctxs = true then 8 else (if LB = true then 14 else 0))) HA.out HAE.out (by decide) hlt)
                      go_wp2_with fail
                      go_ret
                      exact ⟨by rw [HV.out, HF2.out]; try rfl, HG.out⟩
                    · have d10 : decide ((10 : Int) < (en : Int)) = false := decide_eq_false (by omega)
                      rw [if_neg c10] at HAE
                      go_wp2_with fail
                      clear k2
                      obtain ⟨wo, rfl⟩ : ∃ wo : World, wo = wr := ⟨_, rfl⟩
                      go_loopw [10, 11, 76] (fun _ _ t wr => ∃ j : Nat, j ≤ en ∧ t = .int .i64 j ∧ wr = wo ∧ fstE (incAt incs) j = 0) (fun _ _ t _ => en - (intOf t).toNat)
                      case atStart => exact ⟨0, Nat.zero_le _, rfl, rfl, rfl⟩
                      case round =>
                        obtain ⟨j, hj, rfl, rfl, ha⟩ := hrel
                        have HA2 := Lib.hid ha; clear ha
                        by_cases hlt2 : j < en
                        · obtain ⟨g', o', s, hiA, _, hgl', hz', hcc'⟩ := HC.out.incs.get srow_len hlt2
                          dsimp only at hiA hz'
                          subst hiA
                          have ks := hcc' 0 _ rfl
                          simp only [Nat.mul_one, Nat.add_zero] at ks
                          have HZ2 := Lib.hid hz'
                          obtain ⟨B, hB⟩ : ∃ B, memS (incs.take j) s = B := ⟨_, rfl⟩
                          have HBB := Lib.hid hB
                          have hcap : en ≤ ic := HC.out.incs.cap
                          have hjj : (j : Int) < (en : Int) := by omega
                          clear hz' hcc' hB
                          have k2 := HB.out.cell 2
                          go_wp2_with fail
                          refine (containsS_any lo (some ⟨g', o', none⟩) j ic (incs.take j) s _ (HC.out.incs.take srow_len (by dsimp only; omega)) (by omega)).mono ?_
                          rintro e w' ⟨rfl, rfl⟩
                          rw [show List.any (incs.take j) (fun x => nb x == nb s) = B from HBB.out]
                          cases B
                          · have HN := Lib.hid (show incAt incs j = 0 by unfold incAt; rw [HZ2.out]; show (if memS (incs.take j) s = true then (6 : Int) else 0) = 0; rw [HBB.out]; rfl)
                            go_wp2_with fail
                            go_roundw
                            case rel => exact ⟨j + 1, by omega, by go_num, by trivial, fstE_zero HA2.out HN.out⟩
                            case measure => simp [intOf]; omega
                          · have HN := Lib.hid (show incAt incs j = 6 by unfold incAt; rw [HZ2.out]; show (if memS (incs.take j) s = true then (6 : Int) else 0) = 6; rw [HBB.out]; rfl)
                            have HF := Lib.hid (show fstE (incAt incs) en = 6 by rw [fstE_stop HA2.out (by rw [HN.out]; decide) hlt2, HN.out])
                            have HF2 := Lib.hid (fst_ret (X := (if misB ctxs = true then 8 else (if LB = true then 14 else 0))) HA.out (HAE.out.trans HF.out) (by decide) hlt)
                            go_wp2_with fail
                            go_ret
                            exact ⟨by rw [HV.out, HF2.out]; try rfl, HG.out⟩
                        · obtain rfl : en = j := by omega
                          have HN := Lib.hid (HAE.out.trans HA2.out)
                          go_wp2_with fail
                          go_roundw
                          case rel => exact ⟨k + 1, by omega, by go_num, by rw [lastC_succ HZC.out], HG.out, HPL.out, HP.out, fstE_zero HA.out HN.out⟩
                          case measure => simp [intOf]; omega
            · have HAE := Lib.hid (show cxAt hours ctxs k = 7 by rw [HAL.out]; show (if leS key la = true then (7 : Int) else _) = _; rw [show leS key la = true from h7]; rfl)
              have HF2 := Lib.hid (fst_ret (X := (if misB ctxs = true then 8 else (if LB = true then 14 else 0))) HA.out HAE.out (by decide) hlt)
              go_wp2_with fail
              go_ret
              exact ⟨by rw [HV.out, HF2.out]; try rfl, HG.out⟩
        · obtain rfl : cn = k := by omega
          rw [if_pos HA.out] at HV
          have HKEYED := Lib.hid (show Keyed1 ctxs from keyed_of (by rw [HLEN.out]; exact HA.out))
          have HEN := Lib.hid (show ∀ c ∈ ctxs, c.en ≤ 10 from fun c hc => by
            obtain ⟨i, hi⟩ := List.mem_iff_getElem?.1 hc
            exact (cx_right hi (fstE_alh HA.out (by rw [← HLEN.out]; exact (List.getElem?_eq_some_iff.1 hi).1))).1.en)
          clear HA
          have k0 := HP.out.cell 0
          go_wp2_with fail
          clear k0
          go_loopw [13, 92] (fun _ t wr => ∃ q : Nat, q ≤ cn ∧ t = .int .i64 q ∧ w.grownBy wr none ∧ PlOk wr lo ⟨cA, cn, cc, hA, hn, hc, ctxs, hours⟩ ∧ Blk wr w.heap.size 48 #[.slice cA cn cc, .slice hA hn hc] ∧ (ctxs.take q).all (fun z => !(misC ctxs z)) = true) (fun _ t _ => cn - (intOf t).toNat)
          case atStart => exact ⟨0, Nat.zero_le _, rfl, HG.out, HPL.out, HP.out, by simp⟩
          case round =>
            clear HG HPL HP
            obtain ⟨q, hq, rfl, hg, hpl, hp, ha⟩ := hrel
            have HG := Lib.hid hg; have HPL := Lib.hid hpl; have HP := Lib.hid hp
            clear hg hpl hp
            have HA := Lib.hid ha; clear ha
            by_cases hlt : q < cn
            · have hqk : (q : Int) < (cn : Int) := by omega
              obtain ⟨⟨key, rA, rn, rc, iA, en, ic, rules, incs⟩, hzc⟩ : ∃ z, ctxs[q]? = some z := ⟨_, List.getElem?_eq_getElem (by have := HPL.out.ctxs.len; dsimp only at this; omega)⟩
              have HZC := Lib.hid hzc; clear hzc
              obtain ⟨g, o, z', hcA, _, hgl, hz', hcc⟩ := HPL.out.ctxs.get CxV.row_len hlt
              dsimp only at hcA hz'
              obtain rfl : ⟨key, rA, rn, rc, iA, en, ic, rules, incs⟩ = z' := by rw [HZC.out] at hz'; injection hz'
              subst hcA
              have HCC := Lib.hid hcc
              clear hz' hcc
              have HC := Lib.hid (HPL.out.cok _ (mem_of_get HZC.out))
              have hen : en ≤ 1000000 := HC.out.en
              have hrn : rn ≤ 1000000 := HC.out.rn
              have hkey : key.size ≤ 1000000 := HC.out.key
              obtain ⟨W3, hW3⟩ : ∃ W3, wr.alloc (.cells #[.string key, .slice rA rn rc, .slice iA en ic] 106) = W3 := ⟨_, rfl⟩
              have HB := Lib.hid (show Blk W3 wr.heap.size 106 #[.string key, .slice rA rn rc, .slice iA en ic] by rw [← hW3]; exact Blk.new _ _ _)
              have hg3 : wr.grownBy W3 none := by rw [← hW3]; exact gr_alloc (gr_refl _ _) _
              have HW3 := Lib.hid hW3; clear hW3
              go_upto_region 36 with (first
                | (refine wpl_load_at Tryz.cxT rfl _ rfl _ rfl [.string key, .slice rA rn rc, .slice iA en ic] rfl (fun j u hu => by rw [add_mk]; exact HCC.out j u hu) ?_)
                | fail)
              rw [HW3.out]
              clear HW3 HCC hgl
              replace HC := Lib.hid (HC.out.grown hg3 (fun g e => by cases e))
              replace HP := Lib.hid (HP.out.grown hg3 (by simp))
              replace HPL := Lib.hid (HPL.out.grown hg3 (fun g e => by cases e))
              replace HG := Lib.hid (gr_none HG.out hg3)
              clear hg3
              obtain ⟨B, hB⟩ : ∃ B, misC ctxs ⟨key, rA, rn, rc, iA, en, ic, rules, incs⟩ = B := ⟨_, rfl⟩
              have HBB := Lib.hid hB; clear hB
              have k2 := HB.out.cell 2
              go_wp2_with fail
              refine (inMisHas_any lo iA en ic incs ⟨some ⟨g, o, none⟩, cn, cc, hA, hn, hc, ctxs, hours⟩ lo w.heap.size (by dsimp only; omega) _ HC.out.incs (by omega) HP.out HPL.out.ctxs).mono ?_
              rintro e w4 ⟨rfl, hg4⟩
              dsimp only
              rw [show List.any incs (fun s => decide (cxIx ctxs s < 0)) = B from HBB.out]
              clear k2
              replace HP := Lib.hid (HP.out.grown hg4 (by simp))
              replace HPL := Lib.hid (HPL.out.grown hg4 (fun g e => by cases e))
              replace HG := Lib.hid (gr_none HG.out hg4)
              clear hg4
              cases B
              · go_wp2_with fail
                go_roundw
                case rel => exact ⟨q + 1, by omega, by go_num, HG.out, HPL.out, HP.out, allP_succ (p := misC ctxs) HA.out HZC.out HBB.out⟩
                case measure => simp [intOf]; omega
              · have HM := Lib.hid (show misB ctxs = true from any_at HZC.out HBB.out)
                rw [if_pos HM.out] at HV
                go_wp2_with fail
                go_ret
                exact ⟨by rw [HV.out]; try rfl, HG.out⟩
            · obtain rfl : cn = q := by omega
              have HM := Lib.hid (show misB ctxs = false by
                unfold misB
                have h := HA.out
                rw [List.take_of_length_le (by rw [HLEN.out]; exact Nat.le_refl _)] at h
                exact any_no h)
              rw [if_neg (by rw [HM.out]; decide)] at HV
              clear HA
              have k0 := HP.out.cell 0
              go_wp2_with fail
              clear k0
              go_loopw [15, 104] (fun _ t wr => ∃ q : Nat, q ≤ cn ∧ t = .int .i64 q ∧ w.grownBy wr none ∧ PlOk wr lo ⟨cA, cn, cc, hA, hn, hc, ctxs, hours⟩ ∧ Blk wr w.heap.size 48 #[.slice cA cn cc, .slice hA hn hc] ∧ ∀ i, i < q → ¬ Path (incIx ctxs) i i) (fun _ t _ => cn - (intOf t).toNat)
              case atStart => exact ⟨0, Nat.zero_le _, rfl, HG.out, HPL.out, HP.out, fun i hi => by omega⟩
              case round =>
                clear HG HPL HP
                obtain ⟨q, hq, rfl, hg, hpl, hp, ha⟩ := hrel
                have HG := Lib.hid hg; have HPL := Lib.hid hpl; have HP := Lib.hid hp
                clear hg hpl hp
                have HA := Lib.hid ha; clear ha
                by_cases hlt : q < cn
                · have hqk : (q : Int) < (cn : Int) := by omega
                  obtain ⟨⟨key, rA, rn, rc, iA, en, ic, rules, incs⟩, hzc⟩ : ∃ z, ctxs[q]? = some z := ⟨_, List.getElem?_eq_getElem (by have := HPL.out.ctxs.len; dsimp only at this; omega)⟩
                  have HZC := Lib.hid hzc; clear hzc
                  obtain ⟨g, o, z', hcA, _, hgl, hz', hcc⟩ := HPL.out.ctxs.get CxV.row_len hlt
                  dsimp only at hcA hz'
                  obtain rfl : ⟨key, rA, rn, rc, iA, en, ic, rules, incs⟩ = z' := by rw [HZC.out] at hz'; injection hz'
                  subst hcA
                  have HCC := Lib.hid hcc
                  clear hz' hcc
                  have HC := Lib.hid (HPL.out.cok _ (mem_of_get HZC.out))
                  have hen : en ≤ 1000000 := HC.out.en
                  have hrn : rn ≤ 1000000 := HC.out.rn
                  have hkey : key.size ≤ 1000000 := HC.out.key
                  obtain ⟨W3, hW3⟩ : ∃ W3, wr.alloc (.cells #[.string key, .slice rA rn rc, .slice iA en ic] 106) = W3 := ⟨_, rfl⟩
                  have HB := Lib.hid (show Blk W3 wr.heap.size 106 #[.string key, .slice rA rn rc, .slice iA en ic] by rw [← hW3]; exact Blk.new _ _ _)
                  have hg3 : wr.grownBy W3 none := by rw [← hW3]; exact gr_alloc (gr_refl _ _) _
                  have HW3 := Lib.hid hW3; clear hW3
                  go_upto_region 42 with (first
                    | (refine wpl_load_at Tryz.cxT rfl _ rfl _ rfl [.string key, .slice rA rn rc, .slice iA en ic] rfl (fun j u hu => by rw [add_mk]; exact HCC.out j u hu) ?_)
                    | fail)
                  rw [HW3.out]
                  clear HW3 HCC hgl HC
                  obtain ⟨wo, rfl⟩ : ∃ wo : World, wo = W3 := ⟨_, rfl⟩
                  replace HP := Lib.hid (HP.out.grown hg3 (by simp))
                  replace HPL := Lib.hid (HPL.out.grown hg3 (fun g e => by cases e))
                  replace HG := Lib.hid (gr_none HG.out hg3)
                  clear hg3
                  refine H_begin (fun w' => wo.grownBy w' none) (by kernel_rfl) ?_
                  have hHeld : wo.grownBy wo.drew none := gr_drew (gr_refl _ _)
                  refine H_take (k := 0) (v := .agg #[.slice (some ⟨g, o, none⟩) cn cc, .slice hA hn hc]) (by rfl) (by kernel_rfl) (by kernel_rfl) (by kernel_rfl) (by exact fun _ _ _ h => h) (by rfl) (fun w' hSw => exec_load_blk' Tryz.plT _ rfl _ rfl 48 [.slice (some ⟨g, o, none⟩) cn cc, .slice hA hn hc] (HP.out.grown hSw (by simp)) rfl) hHeld ?_
                  (try simp only [Act.put, List.setIfInBounds_toArray, List.set_cons_zero, List.set_cons_succ])
                  refine H_take (k := 1) (v := ?_) (by rfl) (by kernel_rfl) (by kernel_rfl) (by kernel_rfl) (by exact fun _ _ _ h => h) (by rfl) ?_ (by assumption) ?_
                  rotate_left 1
                  · intro w hSw
                    (try dsimp only at hSw)
                    go_simp
                    (try with_reducible rfl)
                  (try simp only [Act.put, List.setIfInBounds_toArray, List.set_cons_zero, List.set_cons_succ])
                  refine H_take (k := 2) (v := ?_) (by rfl) (by kernel_rfl) (by kernel_rfl) (by kernel_rfl) (by exact fun _ _ _ h => h) (by rfl) ?_ hHeld ?_
                  rotate_left 1
                  · intro w' hSw
                    have kc := (HB.out.grown hSw (by simp)).cell 0
                    go_simp
                    (try with_reducible rfl)
                  (try simp only [Act.put, List.setIfInBounds_toArray, List.set_cons_zero, List.set_cons_succ])
                  refine H_take (k := 4) (v := ?_) (by rfl) (by kernel_rfl) (by kernel_rfl) (by kernel_rfl) (by exact fun _ _ _ h => h) (by rfl) ?_ (by assumption) ?_
                  rotate_left 1
                  · intro w hSw
                    (try dsimp only at hSw)
                    go_simp
                    (try with_reducible rfl)
                  (try simp only [Act.put, List.setIfInBounds_toArray, List.set_cons_zero, List.set_cons_succ])
                  refine H_take (k := 5) (v := ?_) (by rfl) (by kernel_rfl) (by kernel_rfl) (by kernel_rfl) (by exact fun _ _ _ h => h) (by rfl) ?_ hHeld ?_
                  rotate_left 1
                  · intro w' hSw
                    have kc := (HB.out.grown hSw (by simp)).cell 0
                    go_simp
                    (try with_reducible rfl)
                  (try simp only [Act.put, List.setIfInBounds_toArray, List.set_cons_zero, List.set_cons_succ])
                  refine H_run (k := 3) (by rfl) (by kernel_rfl) (by rfl) (fun K hK => ?_)
                  go_simp
                  refine (after_any lo ⟨some ⟨g, o, none⟩, cn, cc, hA, hn, hc, ctxs, hours⟩ q ⟨key, rA, rn, rc, iA, en, ic, rules, incs⟩ _ (HPL.out.grown (gr_drew (gr_refl _ none)) (fun g e => by cases e)) HM.out HKEYED.out HZC.out (by dsimp only; omega) HEN.out).mono ?_
                  rintro e w6 ⟨A6, n6, c6, out, rfl, hown, hpath, hn6, hg6'⟩
                  have hg6 := gr_none (gr_drew (gr_refl wo none)) hg6'
                  have HMEM := Lib.hid (keys_mem (is := out) HKEYED.out (fun x hx => by rw [HLEN.out]; exact ((hpath x).1 hx).bd (fun a b hb => by rw [← HLEN.out]; exact incIx_bd HM.out a b hb)) HZC.out)
                  have HPA := Lib.hid (hpath q)
                  refine hK _ _ hg6 ?_
                  clear hK K hHeld hg6' hpath
                  have hHeld := hg6
                  refine H_run (k := 6) (by rfl) (by kernel_rfl) (by rfl) (fun K hK => ?_)
                  go_simp
                  refine (containsS_any _ A6 n6 c6 (keysOf ctxs out) key _ hown.recs (by omega)).mono ?_
                  rintro e w' ⟨rfl, rfl⟩
                  rw [show List.any (keysOf ctxs out) (fun x => nb x == nb key) = decide (q ∈ out) from HMEM.out]
                  refine hK _ _ hHeld ?_
                  clear hK K hHeld hown
                  refine H_done (by kernel_rfl) ?_
                  replace HP := Lib.hid (HP.out.grown hg6 (by simp))
                  replace HPL := Lib.hid (HPL.out.grown hg6 (fun g e => by cases e))
                  replace HG := Lib.hid (gr_none HG.out hg6)
                  clear hg6
                  by_cases hqo : q ∈ out
                  · rw [decide_eq_true hqo]
                    have HL := Lib.hid (show LB = true from HLB.out.2 ⟨q, by rw [HLEN.out]; exact hlt, HPA.out.1 hqo⟩)
                    rw [if_pos HL.out] at HV
                    clear hqo
                    go_wp2_with fail
                    go_ret
                    exact ⟨by rw [HV.out]; try rfl, HG.out⟩
                  · rw [decide_eq_false hqo]
                    have HN := Lib.hid (show ¬ Path (incIx ctxs) q q from fun e => hqo (HPA.out.2 e))
                    clear hqo
                    go_wp2_with fail
                    go_roundw
                    case rel => exact ⟨q + 1, by omega, by go_num, HG.out, HPL.out, HP.out, fun i hi => by
                      rcases Nat.lt_or_ge i q with h1 | h1
                      · exact HA.out i h1
                      · obtain rfl : i = q := by omega
                        exact HN.out⟩
                    case measure => simp [intOf]; omega
                · obtain rfl : cn = q := by omega
                  have HL := Lib.hid (show ¬ LB = true from fun e => by
                    obtain ⟨i, hi, hp⟩ := HLB.out.1 e
                    exact HA.out i (by rw [← HLEN.out]; exact hi) hp)
                  rw [if_neg HL.out] at HV
                  go_wp2_with fail
                  go_ret
                  exact ⟨by rw [HV.out]; try rfl, HG.out⟩
  · have dE : (E0 != 0) = true := by simpa using e0
    have HV := Lib.hid (show plE ⟨cA, cn, cc, hA, hn, hc, ctxs, hours⟩ LB = E0 by unfold plE; dsimp only; rw [if_neg (by rw [HE0.out]; exact e0), HE0.out])
    go_wp2_with fail
    go_ret
    exact ⟨by rw [HV.out]; try rfl, HG.out⟩
end Go.Proofs.YtpjheibkacbbcaaGreatDoor

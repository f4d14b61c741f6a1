/- Contract of the document's DecideOf. Conditions: a plan, a context, a string and a moment that are right. -/
import Derived.Test.YtdhaelpacffnlaaGreatDoorPlan12
namespace Go.Proofs.YtdhaelpacffnlaaGreatDoor
open Go.RowKit

theorem decD_some {hs : List HrV} {d : List Nat} {t : Int} {c : CxV} {b : Nat} : ∀ {L : List CxV}, decD hs d t L = some (c, b) → c ∈ L ∧ decT hs d t c.rules c.rules.length = some b
  | [], h => by cases h
  | a :: L, h => by
    unfold decD at h
    cases hd : decT hs d t a.rules a.rules.length with
    | none => rw [hd] at h; obtain ⟨h1, h2⟩ := decD_some (L := L) h; exact ⟨List.mem_cons_of_mem _ h1, h2⟩
    | some x =>
      rw [hd] at h
      have h' : some (a, x) = some (c, b) := h
      injection h' with h'
      injection h' with h1 h2
      subst h1; subst h2
      exact ⟨by simp, hd⟩
def DecOfV (p : PlV) (i : Nat) (dial : ByteArray) (t : Int) (w : World) (e : Ending) (w' : World) : Prop :=
  ∃ r : List Nat, Ord (incIx p.ctxs) [i] [] r ∧ r.Nodup ∧ (∀ x ∈ r, x < p.ctxs.length) ∧ e = .returned (.tuple #[.agg (hitR p.hours dial t (pickC p.ctxs r)).1.toArray, .int .i64 (hitR p.hours dial t (pickC p.ctxs r)).2]) ∧ w.grownBy w' none
set_option maxHeartbeats 16000000 in
set_option maxRecDepth 100000 in
theorem decideOf_any (lo : Nat) (p : PlV) (i : Nat) (z0 : CxV) (dial : ByteArray) (t : Int) (w : World) (h : PlOk w lo p) (hpr : PlRight p) (hz : p.ctxs[i]? = some z0) (hd : dialOk (nb dial) = true) (t0 : -1 ≤ t) (t1 : t ≤ 345686400000) :
    Calls Tryz.prog 20 #[.agg #[.slice p.cA p.cn p.cc, .slice p.hA p.hn p.hc], .string z0.key, .string dial, .int .i64 t] w (DecOfV p i dial t w) := by
  obtain ⟨cA, cn, cc, hA, hn, hc, ctxs, hours⟩ := p
  have hcn : cn ≤ 50 := hpr.cn
  have hlen := h.ctxs.len
  have hd30 : dial.size ≤ 30 := by
    have hb := hd
    unfold dialOk at hb
    simp only [Bool.and_eq_true, decide_eq_true_eq] at hb
    rw [← nb_len]; exact hb.1.2
  dsimp only at hlen hz ⊢
  obtain ⟨W1, hW⟩ : ∃ W1, w.alloc (.cells #[.slice cA cn cc, .slice hA hn hc] 29) = W1 := ⟨_, rfl⟩
  obtain ⟨W2, hW2⟩ : ∃ W2, W1.alloc (.cells #[.string ⟨#[]⟩, .int .i64 0, .int .i64 0, .string ⟨#[]⟩, .string ⟨#[]⟩] 44) = W2 := ⟨_, rfl⟩
  have hz1 : W1.heap.size = w.heap.size + 1 := by rw [← hW]; simp
  have HP := Lib.hid (show Blk W2 w.heap.size 29 #[.slice cA cn cc, .slice hA hn hc] by rw [← hW2, ← hW]; exact (Blk.new _ _ _).alloc _)
  have HR := Lib.hid (show Blk W2 (w.heap.size + 1) 44 #[.string ⟨#[]⟩, .int .i64 0, .int .i64 0, .string ⟨#[]⟩, .string ⟨#[]⟩] by rw [← hW2, ← hz1]; exact Blk.new _ _ _)
  have HG := Lib.hid (show w.grownBy W2 none by rw [← hW2, ← hW]; exact gr_alloc (gr_alloc (gr_refl _ _) _) _)
  have HW := Lib.hid hW; have HW2 := Lib.hid hW2
  have HLEN := Lib.hid hlen
  have H0 := Lib.hid h
  have HPR := Lib.hid hpr
  have HKY1 := Lib.hid (show Keyed1 ctxs from keyed_of (by rw [hlen]; exact hpr.cxs))
  have HZ0 := Lib.hid hz
  have HD := Lib.hid hd
  clear h hpr hz hW hlen hd hW2 hz1
  go_enter Tryz.func20, Tryz.ntmps20
  go_upto_region 1 with (fail)
  rw [HW.out, HW2.out]
  go_wp2_with (first
    | (refine wpl_load_all Tryz.plT rfl _ rfl _ rfl _ _ HP.out rfl ?_)
    | fail)
  refine (decidesD_any lo ⟨cA, cn, cc, hA, hn, hc, ctxs, hours⟩ i z0 dial t _ (H0.out.grown HG.out (fun g e => by cases e)) HPR.out HZ0.out HD.out t0 t1).mono ?_
  rintro e w2 ⟨r, hord, hnd, hbd, rfl, hg2⟩
  have HORD := Lib.hid hord; have HND := Lib.hid hnd; have HBD := Lib.hid hbd
  have HHD := Lib.hid (hitR_dec hours dial t (pickC ctxs r))
  clear hord hnd hbd
  dsimp only
  replace HP := Lib.hid (HP.out.grown hg2 (by simp))
  replace HR := Lib.hid (HR.out.grown hg2 (by simp))
  replace HG := Lib.hid (gr_none HG.out hg2)
  clear hg2
  have zr := HR.out.lt
  cases hdd : decD hours (nb dial) t (pickC ctxs r) with
  | none =>
    rw [hdd] at HHD
    have HH1 := Lib.hid (show hitR hours dial t (pickC ctxs r) = (zeroH, 8) from HHD.out)
    rw [show decOut none = .tuple #[.string ⟨#[]⟩, .int .i64 0, .bool false] from rfl]
    clear hdd HHD
    go_wp2_with (first
      | (refine wpl_store_all Tryz.hiT rfl _ _ rfl _ rfl _ _ _ rfl HR.out rfl rfl (by simp [Value.oneCell']) ?_
         intro wz hst
         have HST := Lib.hid hst; clear hst)
      | fail)
    refine ret_cell_tmp Tryz.hiT rfl (w.heap.size + 1) 44 #[.string ⟨#[]⟩, .int .i64 0, .int .i64 0, .string ⟨#[]⟩, .string ⟨#[]⟩] _ rfl rfl HST.out.1 rfl rfl ?_
    exact ⟨r, HORD.out, HND.out, HBD.out, by rw [HH1.out]; rfl, gr_trans HG.out HST.out.2.1 (fun g e => .inr (by injection e with e; omega))⟩
  | some cb =>
    obtain ⟨y, b⟩ := cb
    obtain ⟨hym, hdt⟩ := decD_some hdd
    rw [hdd] at HHD
    rw [show decOut (some (y, b)) = .tuple #[.string y.key, .int .i64 b, .bool true] from rfl]
    have hyc := pickC_mem hym
    obtain ⟨q, hq2⟩ := List.mem_iff_getElem?.1 hyc
    have hqn : q < cn := by rw [← HLEN.out]; exact (List.getElem?_eq_some_iff.1 hq2).1
    have hqn2 : (q : Int) < (cn : Int) := by omega
    have HQ2 := Lib.hid hq2
    have HKI := Lib.hid (cxIx_at HKY1.out hq2 rfl)
    have HCO := Lib.hid (H0.out.cok y hyc)
    have HCR := Lib.hid (show CxRight hours y from HPR.out.cx q y hq2)
    have hrl := HCO.out.rules.len
    have hbn : b < y.rn := by rw [← hrl]; exact decT_lt hdt
    have hbn2 : (b : Int) < (y.rn : Int) := by omega
    obtain ⟨g2, o2, ro, hrA, _, _, hb1, _⟩ := HCO.out.rules.get RuV.row_len hbn
    have HRA := Lib.hid hrA; have HB1 := Lib.hid hb1
    have HRR := Lib.hid (cx_rules hrl HCR.out ro (mem_of_get hb1))
    have HHH := Lib.hid (show hitR hours dial t (pickC ctxs r) = hit1 dial y.key b ro from HHD.out.trans (by show (y.rules[b]?).elim (zeroH, 8) (hit1 dial y.key b) = _; rw [hb1]; rfl))
    clear hdd hym hdt HHD hyc hrl hrA hb1
    obtain ⟨g, o, y', hcA, _, hgl, hy', hcc⟩ := H0.out.ctxs.get CxV.row_len hqn
    dsimp only at hcA hy'
    obtain rfl : y = y' := by rw [hq2] at hy'; injection hy'
    subst hcA
    clear hy' hcc hq2 hgl
    go_upto_region 4 with (fail)
    obtain ⟨wv, rfl⟩ : ∃ wv : World, wv = w2 := ⟨_, rfl⟩
    go_cut [13] (fun v13 wx => ∃ rb : Nat, v13 = .pointer (some ⟨rb, 0, none⟩) ∧ wv.grownBy wx none ∧ Blk wx rb 67 #[.string ro.pat, .int .i64 ro.strip, .string ro.pre, .int .i64 ro.to_, .string ro.nam, .string ro.hrs])
    case first =>
      refine H_begin (fun w' => wv.grownBy w' none) (by kernel_rfl) ?_
      have hHeld : wv.grownBy wv.drew none := gr_drew (gr_refl _ _)
      refine H_take (k := 0) (v := ?_) (by rfl) (by kernel_rfl) (by kernel_rfl) (by kernel_rfl) (by exact fun _ _ _ h => h) (by rfl) ?_ (by assumption) ?_
      rotate_left 1
      · intro w hSw
        (try dsimp only at hSw)
        go_simp
        (try with_reducible rfl)
      (try simp only [Act.put, List.setIfInBounds_toArray, List.set_cons_zero, List.set_cons_succ])
      refine H_take (k := 1) (v := ?_) (by rfl) (by kernel_rfl) (by kernel_rfl) (by kernel_rfl) (by exact fun _ _ _ h => h) (by rfl) ?_ hHeld ?_
      rotate_left 1
      · intro w' hSw
        have kc := (HP.out.grown hSw (by simp)).cell 0
        go_simp
        (try with_reducible rfl)
      (try simp only [Act.put, List.setIfInBounds_toArray, List.set_cons_zero, List.set_cons_succ])
      refine H_take (k := 2) (v := .agg #[.slice (some ⟨g, o, none⟩) cn cc, .slice hA hn hc]) (by rfl) (by kernel_rfl) (by kernel_rfl) (by kernel_rfl) (by exact fun _ _ _ h => h) (by rfl) (fun w' hSw => exec_load_blk' Tryz.plT _ rfl _ rfl 29 [.slice (some ⟨g, o, none⟩) cn cc, .slice hA hn hc] (HP.out.grown hSw (by simp)) rfl) hHeld ?_
      (try simp only [Act.put, List.setIfInBounds_toArray, List.set_cons_zero, List.set_cons_succ])
      refine H_take (k := 3) (v := ?_) (by rfl) (by kernel_rfl) (by kernel_rfl) (by kernel_rfl) (by exact fun _ _ _ h => h) (by rfl) ?_ (by assumption) ?_
      rotate_left 1
      · intro w hSw
        (try dsimp only at hSw)
        go_simp
        (try with_reducible rfl)
      (try simp only [Act.put, List.setIfInBounds_toArray, List.set_cons_zero, List.set_cons_succ])
      refine H_take (k := 8) (v := ?_) (by rfl) (by kernel_rfl) (by kernel_rfl) (by kernel_rfl) (by exact fun _ _ _ h => h) (by rfl) ?_ (by assumption) ?_
      rotate_left 1
      · intro w hSw
        (try dsimp only at hSw)
        go_simp
        (try with_reducible rfl)
      (try simp only [Act.put, List.setIfInBounds_toArray, List.set_cons_zero, List.set_cons_succ])
      refine H_run2 (k1 := 4) (k2 := 11) (by rfl) (by rfl) (by kernel_rfl) (by rfl) (by rfl) (fun K hK => ?_) (fun K hK => ?_)
      · go_simp
        refine (contextAtR_any lo ⟨some ⟨g, o, none⟩, cn, cc, hA, hn, hc, ctxs, hours⟩ y.key _ (H0.out.ctxs.grown (gr_drew HG.out) (fun g e => by cases e)) (by dsimp only; omega)).mono ?_
        rintro e w3 ⟨rfl, hg3'⟩
        dsimp only
        rw [HKI.out]
        have hg3 := gr_none (gr_drew (gr_refl wv none)) hg3'
        refine hK _ _ hg3 ?_
        clear hK K hHeld hg3'
        have hHeld := hg3
        refine H_take (k := 5) (v := ?_) (by rfl) (by kernel_rfl) (by kernel_rfl) (by kernel_rfl) (by exact fun _ _ _ h => h) (by rfl) ?_ (by assumption) ?_
        rotate_left 1
        · intro w hSw
          (try dsimp only at hSw)
          go_simp
          (try with_reducible rfl)
        (try simp only [Act.put, List.setIfInBounds_toArray, List.set_cons_zero, List.set_cons_succ])
        refine H_take (k := 6) (v := ?_) (by rfl) (by kernel_rfl) (by kernel_rfl) (by kernel_rfl) (by exact fun _ _ _ h => h) (by rfl) ?_ (by assumption) ?_
        rotate_left 1
        · intro w hSw
          (try dsimp only at hSw)
          go_simp
          (try with_reducible rfl)
        (try simp only [Act.put, List.setIfInBounds_toArray, List.set_cons_zero, List.set_cons_succ])
        refine H_take (k := 7) (v := ?_) (by rfl) (by kernel_rfl) (by kernel_rfl) (by kernel_rfl) (by exact fun _ _ _ h => h) (by rfl) ?_ hHeld ?_
        rotate_left 1
        · intro w' hSw
          have kc := (H0.out.ctxs.grown (gr_none HG.out hSw) (fun g e => by cases e)).at_ CxV.row_len HQ2.out 1 _ rfl
          go_simp
          (try with_reducible rfl)
        (try simp only [Act.put, List.setIfInBounds_toArray, List.set_cons_zero, List.set_cons_succ])
        have hA := HRA.out
        refine H_take (k := 9) (v := ?_) (by rfl) (by kernel_rfl) (by kernel_rfl) (by kernel_rfl) (by exact fun _ _ _ h => h) (by rfl) ?_ (by assumption) ?_
        rotate_left 1
        · intro w hSw
          (try dsimp only at hSw)
          go_simp
          (try with_reducible rfl)
        (try simp only [Act.put, List.setIfInBounds_toArray, List.set_cons_zero, List.set_cons_succ])
        refine H_take (k := 10) (v := .agg #[.string ro.pat, .int .i64 ro.strip, .string ro.pre, .int .i64 ro.to_, .string ro.nam, .string ro.hrs]) (by rfl) (by kernel_rfl) (by kernel_rfl) (by kernel_rfl) (by exact fun _ _ _ h => h) (by rfl) (fun w' hSw => exec_load_rec Tryz.ruT _ rfl _ rfl [.string ro.pat, .int .i64 ro.strip, .string ro.pre, .int .i64 ro.to_, .string ro.nam, .string ro.hrs] (fun j u hu => by
               rw [add_mk]
               have kc0 := (HCO.out.rules.grown (gr_none HG.out hSw) (fun g e => by cases e))
               rw [HRA.out] at kc0
               exact kc0.at_ RuV.row_len HB1.out j u hu) rfl) hHeld ?_
        (try simp only [Act.put, List.setIfInBounds_toArray, List.set_cons_zero, List.set_cons_succ])
        clear hA
        refine H_run (k := 11) (by rfl) (by kernel_rfl) (by rfl) (fun K hK => ?_)
        go_simp
        refine hK _ _ (gr_alloc hHeld _) ?_
        clear hK K
        refine H_run (k := 12) (by rfl) (by kernel_rfl) (by rfl) (fun K hK => ?_)
        refine wp_store_all Tryz.ruT _ _ (by rfl) w3.heap.size (by rfl) 67 _ #[.string ro.pat, .int .i64 ro.strip, .string ro.pre, .int .i64 ro.to_, .string ro.nam, .string ro.hrs] (by rfl) (Blk.new _ _ _) rfl rfl (by simp [Value.oneCell']) ?_
        intro w9 h9
        have hg9 : wv.grownBy w9 none := gr_trans (gr_alloc hHeld _) h9.2.1 (fun g e => .inr (by injection e with e; have := hg3.size; omega))
        have HCB := Lib.hid h9.1
        refine hK _ _ hg9 ?_
        clear hK K hHeld h9 hg3
        refine H_done (by kernel_rfl) ?_
        go_wp2_with fail
        go_meet
        exact ⟨_, rfl, hg9, HCB.out⟩
      · go_simp
        refine hK _ _ (gr_alloc hHeld _) ?_
        clear hK K
        have HN0 := Lib.hid (Blk.new wv.drew 67 #[.string ⟨#[]⟩, .int .i64 0, .string ⟨#[]⟩, .int .i64 0, .string ⟨#[]⟩, .string ⟨#[]⟩])
        refine H_run (k := 4) (by rfl) (by kernel_rfl) (by rfl) (fun K hK => ?_)
        go_simp
        refine (contextAtR_any lo ⟨some ⟨g, o, none⟩, cn, cc, hA, hn, hc, ctxs, hours⟩ y.key _ (H0.out.ctxs.grown (gr_alloc (gr_drew HG.out) _) (fun g e => by cases e)) (by dsimp only; omega)).mono ?_
        rintro e w3 ⟨rfl, hg3'⟩
        dsimp only
        rw [HKI.out]
        have hg3 := gr_none (gr_alloc (gr_drew (gr_refl wv none)) (.cells #[.string ⟨#[]⟩, .int .i64 0, .string ⟨#[]⟩, .int .i64 0, .string ⟨#[]⟩, .string ⟨#[]⟩] 67)) hg3'
        have HN3 := Lib.hid (HN0.out.grown hg3' (by simp))
        refine hK _ _ hg3 ?_
        clear hK K hHeld hg3' HN0
        have hHeld := hg3
        refine H_take (k := 5) (v := ?_) (by rfl) (by kernel_rfl) (by kernel_rfl) (by kernel_rfl) (by exact fun _ _ _ h => h) (by rfl) ?_ (by assumption) ?_
        rotate_left 1
        · intro w hSw
          (try dsimp only at hSw)
          go_simp
          (try with_reducible rfl)
        (try simp only [Act.put, List.setIfInBounds_toArray, List.set_cons_zero, List.set_cons_succ])
        refine H_take (k := 6) (v := ?_) (by rfl) (by kernel_rfl) (by kernel_rfl) (by kernel_rfl) (by exact fun _ _ _ h => h) (by rfl) ?_ (by assumption) ?_
        rotate_left 1
        · intro w hSw
          (try dsimp only at hSw)
          go_simp
          (try with_reducible rfl)
        (try simp only [Act.put, List.setIfInBounds_toArray, List.set_cons_zero, List.set_cons_succ])
        refine H_take (k := 7) (v := ?_) (by rfl) (by kernel_rfl) (by kernel_rfl) (by kernel_rfl) (by exact fun _ _ _ h => h) (by rfl) ?_ hHeld ?_
        rotate_left 1
        · intro w' hSw
          have kc := (H0.out.ctxs.grown (gr_none HG.out hSw) (fun g e => by cases e)).at_ CxV.row_len HQ2.out 1 _ rfl
          go_simp
          (try with_reducible rfl)
        (try simp only [Act.put, List.setIfInBounds_toArray, List.set_cons_zero, List.set_cons_succ])
        have hA := HRA.out
        refine H_take (k := 9) (v := ?_) (by rfl) (by kernel_rfl) (by kernel_rfl) (by kernel_rfl) (by exact fun _ _ _ h => h) (by rfl) ?_ (by assumption) ?_
        rotate_left 1
        · intro w hSw
          (try dsimp only at hSw)
          go_simp
          (try with_reducible rfl)
        (try simp only [Act.put, List.setIfInBounds_toArray, List.set_cons_zero, List.set_cons_succ])
        refine H_take (k := 10) (v := .agg #[.string ro.pat, .int .i64 ro.strip, .string ro.pre, .int .i64 ro.to_, .string ro.nam, .string ro.hrs]) (by rfl) (by kernel_rfl) (by kernel_rfl) (by kernel_rfl) (by exact fun _ _ _ h => h) (by rfl) (fun w' hSw => exec_load_rec Tryz.ruT _ rfl _ rfl [.string ro.pat, .int .i64 ro.strip, .string ro.pre, .int .i64 ro.to_, .string ro.nam, .string ro.hrs] (fun j u hu => by
               rw [add_mk]
               have kc0 := (HCO.out.rules.grown (gr_none HG.out hSw) (fun g e => by cases e))
               rw [HRA.out] at kc0
               exact kc0.at_ RuV.row_len HB1.out j u hu) rfl) hHeld ?_
        (try simp only [Act.put, List.setIfInBounds_toArray, List.set_cons_zero, List.set_cons_succ])
        clear hA
        refine H_run (k := 12) (by rfl) (by kernel_rfl) (by rfl) (fun K hK => ?_)
        refine wp_store_all Tryz.ruT _ _ (by rfl) wv.heap.size (by rfl) 67 _ #[.string ro.pat, .int .i64 ro.strip, .string ro.pre, .int .i64 ro.to_, .string ro.nam, .string ro.hrs] (by rfl) HN3.out rfl rfl (by simp [Value.oneCell']) ?_
        intro w9 h9
        have hg9 : wv.grownBy w9 none := gr_trans hHeld h9.2.1 (fun g e => .inr (by injection e with e; omega))
        have HCB := Lib.hid h9.1
        refine hK _ _ hg9 ?_
        clear hK K hHeld h9 hg3
        refine H_done (by kernel_rfl) ?_
        go_wp2_with fail
        go_meet
        exact ⟨_, rfl, hg9, HCB.out⟩
    case rest =>
      obtain ⟨rb, rfl, hg9, hrb9⟩ := hcut
      have HRB := Lib.hid hrb9
      replace HG := Lib.hid (gr_none HG.out hg9)
      replace HR := Lib.hid (HR.out.grown hg9 (by simp))
      clear hrb9 hg9 HP HCO
      obtain ⟨wo, rfl⟩ : ∃ wo : World, wo = wc := ⟨_, rfl⟩
      obtain ⟨mi, hmi⟩ : ∃ mi : Nat, min ro.strip.toNat dial.size = mi := ⟨_, rfl⟩
      obtain ⟨s0, s1⟩ := HRR.out.strip
      have hmi2 : min ro.strip (dial.size : Int) = (mi : Int) := by omega
      have hmi3 : mi ≤ dial.size := by omega
      have hmi4 : (mi : Int) ≤ (dial.size : Int) := by omega
      obtain ⟨DD, hDD⟩ : ∃ DD, ro.pre ++ dial.extract mi dial.size = DD := ⟨_, rfl⟩
      have HDD := Lib.hid (show ddOf ro dial = DD by unfold ddOf; rw [hmi]; exact hDD)
      have hsz : ¬ 9223372036854775807 < ro.pre.size + (dial.size - mi) := by have := HRR.out.pre; omega
      have hDs : DD.size ≤ 2000000 := by rw [← HDD.out]; exact dd_size (by have := HRR.out.pre; omega) (by omega)
      clear hmi
      go_upto_region 5 with (fail)
      refine H_begin (fun w' => wo.grownBy w' none) (by kernel_rfl) ?_
      have hHeld : wo.grownBy wo.drew none := gr_drew (gr_refl _ _)
      refine H_take (k := 0) (v := ?_) (by rfl) (by kernel_rfl) (by kernel_rfl) (by kernel_rfl) (by exact fun _ _ _ h => h) (by rfl) ?_ (by assumption) ?_
      rotate_left 1
      · intro w hSw
        (try dsimp only at hSw)
        go_simp
        (try with_reducible rfl)
      (try simp only [Act.put, List.setIfInBounds_toArray, List.set_cons_zero, List.set_cons_succ])
      refine H_take (k := 1) (v := ?_) (by rfl) (by kernel_rfl) (by kernel_rfl) (by kernel_rfl) (by exact fun _ _ _ h => h) (by rfl) ?_ hHeld ?_
      rotate_left 1
      · intro w' hSw
        have kc := (HRB.out.grown hSw (by simp)).cell 2
        go_simp
        (try with_reducible rfl)
      (try simp only [Act.put, List.setIfInBounds_toArray, List.set_cons_zero, List.set_cons_succ])
      refine H_take (k := 2) (v := ?_) (by rfl) (by kernel_rfl) (by kernel_rfl) (by kernel_rfl) (by exact fun _ _ _ h => h) (by rfl) ?_ (by assumption) ?_
      rotate_left 1
      · intro w hSw
        (try dsimp only at hSw)
        go_simp
        (try with_reducible rfl)
      (try simp only [Act.put, List.setIfInBounds_toArray, List.set_cons_zero, List.set_cons_succ])
      refine H_take (k := 3) (v := ?_) (by rfl) (by kernel_rfl) (by kernel_rfl) (by kernel_rfl) (by exact fun _ _ _ h => h) (by rfl) ?_ (by assumption) ?_
      rotate_left 1
      · intro w hSw
        (try dsimp only at hSw)
        go_simp
        (try with_reducible rfl)
      (try simp only [Act.put, List.setIfInBounds_toArray, List.set_cons_zero, List.set_cons_succ])
      refine H_take (k := 4) (v := ?_) (by rfl) (by kernel_rfl) (by kernel_rfl) (by kernel_rfl) (by exact fun _ _ _ h => h) (by rfl) ?_ hHeld ?_
      rotate_left 1
      · intro w' hSw
        have kc := (HRB.out.grown hSw (by simp)).cell 1
        go_simp
        (try with_reducible rfl)
      (try simp only [Act.put, List.setIfInBounds_toArray, List.set_cons_zero, List.set_cons_succ])
      refine H_take (k := 5) (v := ?_) (by rfl) (by kernel_rfl) (by kernel_rfl) (by kernel_rfl) (by exact fun _ _ _ h => h) (by rfl) ?_ (by assumption) ?_
      rotate_left 1
      · intro w hSw
        (try dsimp only at hSw)
        go_simp
        (try with_reducible rfl)
      (try simp only [Act.put, List.setIfInBounds_toArray, List.set_cons_zero, List.set_cons_succ])
      refine H_take (k := 6) (v := ?_) (by rfl) (by kernel_rfl) (by kernel_rfl) (by kernel_rfl) (by exact fun _ _ _ h => h) (by rfl) ?_ (by assumption) ?_
      rotate_left 1
      · intro w hSw
        (try dsimp only at hSw)
        go_simp
        (try with_reducible rfl)
      (try simp only [Act.put, List.setIfInBounds_toArray, List.set_cons_zero, List.set_cons_succ])
      refine H_take (k := 7) (v := ?_) (by rfl) (by kernel_rfl) (by kernel_rfl) (by kernel_rfl) (by exact fun _ _ _ h => h) (by rfl) ?_ (by assumption) ?_
      rotate_left 1
      · intro w hSw
        (try dsimp only at hSw)
        go_simp
        (try with_reducible rfl)
      (try simp only [Act.put, List.setIfInBounds_toArray, List.set_cons_zero, List.set_cons_succ])
      refine H_take (k := 8) (v := ?_) (by rfl) (by kernel_rfl) (by kernel_rfl) (by kernel_rfl) (by exact fun _ _ _ h => h) (by rfl) ?_ (by assumption) ?_
      rotate_left 1
      · intro w hSw
        (try dsimp only at hSw)
        go_simp
        (try with_reducible rfl)
      (try simp only [Act.put, List.setIfInBounds_toArray, List.set_cons_zero, List.set_cons_succ])
      refine H_take (k := 9) (v := ?_) (by rfl) (by kernel_rfl) (by kernel_rfl) (by kernel_rfl) (by exact fun _ _ _ h => h) (by rfl) ?_ (by assumption) ?_
      rotate_left 1
      · intro w hSw
        (try dsimp only at hSw)
        go_simp
        (try with_reducible rfl)
      (try simp only [Act.put, List.setIfInBounds_toArray, List.set_cons_zero, List.set_cons_succ])
      refine H_take (k := 10) (v := ?_) (by rfl) (by kernel_rfl) (by kernel_rfl) (by kernel_rfl) (by exact fun _ _ _ h => h) (by rfl) ?_ (by assumption) ?_
      rotate_left 1
      · intro w hSw
        (try dsimp only at hSw)
        go_simp
        (try with_reducible rfl)
      (try simp only [Act.put, List.setIfInBounds_toArray, List.set_cons_zero, List.set_cons_succ])
      refine H_done (by kernel_rfl) ?_
      replace HG := Lib.hid (gr_none HG.out hHeld)
      replace HR := Lib.hid (HR.out.grown hHeld (by simp))
      replace HRB := Lib.hid (HRB.out.grown hHeld (by simp))
      clear hHeld hmi2 hmi3 hmi4 hsz hDD
      have kt := HRB.out.cell 3
      have ku := HRB.out.cell 4
      have HH1 := Lib.hid (show hitR hours dial t (pickC ctxs r) = if 30 < DD.size then (zeroH, 2) else (if nb DD = [] ∧ (ro.to_ = 1 ∨ ro.to_ = 2) then (zeroH, 3) else (hitC y.key b ro DD, 0)) by rw [HHH.out]; unfold hit1; rw [HDD.out])
      clear HHH
      by_cases c30 : 30 < DD.size
      · have d30 : decide ((30 : Int) < (DD.size : Int)) = true := decide_eq_true (by omega)
        rw [if_pos c30] at HH1
        go_wp2_with (first
          | (refine wpl_store_all Tryz.hiT rfl _ _ rfl _ rfl _ _ _ rfl HR.out rfl rfl (by simp [Value.oneCell']) ?_
             intro wz hst
             have HST := Lib.hid hst; clear hst)
          | fail)
        refine ret_cell_tmp Tryz.hiT rfl (w.heap.size + 1) 44 #[.string ⟨#[]⟩, .int .i64 0, .int .i64 0, .string ⟨#[]⟩, .string ⟨#[]⟩] _ rfl rfl HST.out.1 rfl rfl ?_
        exact ⟨r, HORD.out, HND.out, HBD.out, by rw [HH1.out]; rfl, gr_trans HG.out HST.out.2.1 (fun g e => .inr (by injection e with e; omega))⟩
      · have d30 : decide ((30 : Int) < (DD.size : Int)) = false := decide_eq_false (by omega)
        rw [if_neg c30] at HH1
        by_cases cnil : nb DD = []
        · have qn := str_nil cnil
          by_cases t1 : ro.to_ = 1
          · have dt : (ro.to_ == 1) = true := by simpa using t1
            rw [if_pos ⟨cnil, .inl t1⟩] at HH1
            clear cnil t1
            go_wp2_with (first
              | (refine wpl_store_all Tryz.hiT rfl _ _ rfl _ rfl _ _ _ rfl HR.out rfl rfl (by simp [Value.oneCell']) ?_
                 intro wz hst
                 have HST := Lib.hid hst; clear hst)
              | fail)
            refine ret_cell_tmp Tryz.hiT rfl (w.heap.size + 1) 44 #[.string ⟨#[]⟩, .int .i64 0, .int .i64 0, .string ⟨#[]⟩, .string ⟨#[]⟩] _ rfl rfl HST.out.1 rfl rfl ?_
            exact ⟨r, HORD.out, HND.out, HBD.out, by rw [HH1.out]; rfl, gr_trans HG.out HST.out.2.1 (fun g e => .inr (by injection e with e; omega))⟩
          · have dt : (ro.to_ == 1) = false := by simpa using t1
            by_cases t2 : ro.to_ = 2
            · have dt2 : (ro.to_ == 2) = true := by simpa using t2
              rw [if_pos ⟨cnil, .inr t2⟩] at HH1
              clear cnil t1 t2
              go_wp2_with (first
                | (refine wpl_store_all Tryz.hiT rfl _ _ rfl _ rfl _ _ _ rfl HR.out rfl rfl (by simp [Value.oneCell']) ?_
                   intro wz hst
                   have HST := Lib.hid hst; clear hst)
                | fail)
              refine ret_cell_tmp Tryz.hiT rfl (w.heap.size + 1) 44 #[.string ⟨#[]⟩, .int .i64 0, .int .i64 0, .string ⟨#[]⟩, .string ⟨#[]⟩] _ rfl rfl HST.out.1 rfl rfl ?_
              exact ⟨r, HORD.out, HND.out, HBD.out, by rw [HH1.out]; rfl, gr_trans HG.out HST.out.2.1 (fun g e => .inr (by injection e with e; omega))⟩
            · have dt2 : (ro.to_ == 2) = false := by simpa using t2
              rw [if_neg (fun h => h.2.elim t1 t2)] at HH1
              clear cnil t1 t2
              go_upto_region 10 with (fail)
              clear qn dt dt2
              go_wp2_with (first
                | (refine wpl_store_all Tryz.hiT rfl _ _ rfl _ rfl _ _ _ rfl HR.out rfl rfl (by simp [Value.oneCell']) ?_
                   intro wz hst
                   have HST := Lib.hid hst; clear hst)
                | fail)
              refine ret_cell_tmp Tryz.hiT rfl (w.heap.size + 1) 44 #[.string y.key, .int .i64 b, .int .i64 ro.to_, .string ro.nam, .string DD] _ rfl rfl HST.out.1 rfl rfl ?_
              exact ⟨r, HORD.out, HND.out, HBD.out, by rw [HH1.out]; rfl, gr_trans HG.out HST.out.2.1 (fun g e => .inr (by injection e with e; omega))⟩
        · obtain ⟨qf1, qf2, qf3⟩ := str_full cnil
          rw [if_neg (fun h => cnil h.1)] at HH1
          clear cnil
          go_upto_region 10 with (fail)
          clear qf1 qf2 qf3
          go_wp2_with (first
            | (refine wpl_store_all Tryz.hiT rfl _ _ rfl _ rfl _ _ _ rfl HR.out rfl rfl (by simp [Value.oneCell']) ?_
               intro wz hst
               have HST := Lib.hid hst; clear hst)
            | fail)
          refine ret_cell_tmp Tryz.hiT rfl (w.heap.size + 1) 44 #[.string y.key, .int .i64 b, .int .i64 ro.to_, .string ro.nam, .string DD] _ rfl rfl HST.out.1 rfl rfl ?_
          exact ⟨r, HORD.out, HND.out, HBD.out, by rw [HH1.out]; rfl, gr_trans HG.out HST.out.2.1 (fun g e => .inr (by injection e with e; omega))⟩
end Go.Proofs.YtdhaelpacffnlaaGreatDoor

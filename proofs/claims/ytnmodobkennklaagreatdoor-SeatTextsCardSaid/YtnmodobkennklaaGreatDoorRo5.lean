/- Contract of the room's leave. Conditions: none. -/
import Derived.Test.YtnmodobkennklaaGreatDoorRo4
namespace Go.Proofs.YtnmodobkennklaaGreatDoor
open Go.RowKit

theorem boolsT : True := trivial
section
variable {wb w : World} {R : RoC} {s : StyV} {A : List AgV} {C : List CaV} {st : RoS}
/-- A room after its words were put anew. -/
theorem Rm.put (h : Rm wb w R s A C st) {w' : World} {st' : RoS} (hg : wb.grownBy w' none) (ha : RoAt w' wb.heap.size R s A.length C.length st') (hok : RoOk A C st') : Rm wb w' R s A C st' := ⟨hg, ha, h.ags, h.cas, h.m, h.n, hok, h.an, h.cn, h.age⟩
end
set_option maxHeartbeats 16000000 in
set_option maxRecDepth 100000 in
theorem leave_any (wb : World) (R : RoC) (s : StyV) (A : List AgV) (C : List CaV) (st : RoS) (t : Int) (now : Bool) (w : World) (h : Rm wb w R s A C st) (t0 : -1 ≤ t) (t1 : t ≤ 400000000000) :
    Calls Tryz.prog 155 #[.pointer (some ⟨R.g, 0, none⟩), .int .i64 t, .bool now] w (fun e w' => e = .returned (.tuple #[]) ∧ Rm wb w' R s A C (leaveR C t now C.length st)) := by
  obtain ⟨rg, aA, ac, cA, cc, dA, dc, sA, sc, bA, bc, nA, nc⟩ := R
  have hn := h.n
  have H := Lib.hid h
  have HOK0 := Lib.hid h.ok
  have k4 := h.at_.blk.cell 4
  dsimp only at k4
  clear h
  go_enter Tryz.func155, Tryz.ntmps155
  go_upto_region 1 with (fail)
  clear k4
  go_loopw [6, 7, 13] (fun _ _ t13 wr => ∃ (k : Nat) (st' : RoS), t13 = .int .i64 k ∧ k ≤ C.length ∧ leaveR C t now k st = st' ∧ Rm wb wr ⟨rg, aA, ac, cA, cc, dA, dc, sA, sc, bA, bc, nA, nc⟩ s A C st') (fun _ _ t13 _ => C.length - (intOf t13).toNat)
  case atStart => exact ⟨0, st, rfl, Nat.zero_le _, rfl, H.out⟩
  case round =>
    clear H
    obtain ⟨k, st', rfl, hk, hls, hrm⟩ := hrel
    have HLS := Lib.hid hls; have HRM := Lib.hid hrm
    clear hls hrm
    by_cases hlt : k < C.length
    · obtain ⟨c, hc⟩ : ∃ c, C[k]? = some c := ⟨_, List.getElem?_eq_getElem hlt⟩
      obtain ⟨cg, co, hcA, hrec⟩ := HRM.out.caller hc
      dsimp only at hcA
      subst hcA
      obtain ⟨n1, n2, n3, n4, n5, n6, _⟩ := (HRM.out.cn c (mem_of_get hc)).1
      have HCC := Lib.hid (hrec.at_ CaV.row_len hc)
      have HC := Lib.hid hc
      have hlt2 : (k : Int) < (C.length : Int) := by omega
      obtain ⟨wa, hwa⟩ : ∃ wa, wr.alloc (.cells #[.string c.id, .string c.skill, .int .i64 c.at_, .int .i64 c.least, .int .i64 c.prio, .int .i64 c.pat, .int .i64 c.talk, .bool c.back] 49) = wa := ⟨_, rfl⟩
      have HB := Lib.hid (show Blk wa wr.heap.size 49 #[.string c.id, .string c.skill, .int .i64 c.at_, .int .i64 c.least, .int .i64 c.prio, .int .i64 c.pat, .int .i64 c.talk, .bool c.back] by rw [← hwa]; exact Blk.new _ _ _)
      have HGa := Lib.hid (show wr.grownBy wa none by rw [← hwa]; exact gr_alloc (gr_refl _ _) _)
      have HWA := Lib.hid hwa
      clear hwa hc hrec
      go_upto_region 3 with (first
        | (refine wpl_load_at Tryz.caT rfl _ rfl _ rfl [.string c.id, .string c.skill, .int .i64 c.at_, .int .i64 c.least, .int .i64 c.prio, .int .i64 c.pat, .int .i64 c.talk, .bool c.back] rfl (fun j u hu => by rw [add_mk]; exact HCC.out j u hu) ?_)
        | fail)
      rw [HWA.out]
      replace HRM := Lib.hid (HRM.out.kept HGa.out)
      clear HWA HCC HGa
      obtain ⟨ng, b1, hnA, hdn, kn⟩ := HRM.out.at_.done hlt
      obtain ⟨bg, b2, hbA, hbk, kb⟩ := HRM.out.at_.back hlt
      dsimp only at hnA hbA
      have k8 := HRM.out.at_.blk.cell 8
      have k7 := HRM.out.at_.blk.cell 7
      dsimp only at k8 k7
      rw [hnA] at k8
      rw [hbA] at k7
      have HD1 := Lib.hid (show bAt st'.dn k = b1 from bAt_some hdn)
      have HD2 := Lib.hid (show bAt st'.bk k = b2 from bAt_some hbk)
      have HNA := Lib.hid hnA; have HBA := Lib.hid hbA
      have c2 := HB.out.cell 2
      have c5 := HB.out.cell 5
      clear hdn hbk hnA hbA
      cases b1
      · cases b2
        · by_cases ht : t < c.at_
          · have dt : decide (t < c.at_) = true := decide_eq_true ht
            have dt2 : decide (c.at_ ≤ t) = false := decide_eq_false (by omega)
            clear ht
            have HN := Lib.hid (show leaveR C t now (k + 1) st = st' by
              rw [leaveR_succ HC.out, HLS.out]
              unfold leave1
              rw [if_neg]
              unfold leaveB
              rw [dt2]
              simp)
            clear HLS 
            go_wp2_with fail
            go_roundw
            case rel => exact ⟨k + 1, st', by go_num, by omega, HN.out, HRM.out⟩
            case measure => simp [intOf]; omega
          · have dt : decide (t < c.at_) = false := decide_eq_false ht
            have dt2 : decide (c.at_ ≤ t) = true := decide_eq_true (by omega)
            have qs : IntKind.i64.wrap (c.at_ + c.pat) = c.at_ + c.pat := IntWalk.i64_in _ (by omega)
            clear ht
            by_cases hp : c.at_ + c.pat = t
            · have dp : (c.at_ + c.pat != t) = false := by simp [hp]
              obtain ⟨Q, hQ⟩ : ∃ Q, (c.at_ == t) = Q := ⟨_, rfl⟩
              have HQ := Lib.hid (show decide (c.at_ = t) = Q by rw [← hQ]; rfl)
              have HPP := Lib.hid hp
              clear hp
              cases Q
              · cases now
                · have hLB := Lib.hid (show leaveB c t false (bAt st'.bk k) (bAt st'.dn k) = true by unfold leaveB; rw [HD1.out, HD2.out, dt2, decide_eq_true HPP.out, HQ.out]; rfl)
                  have c7 := HB.out.cell 7
                  obtain ⟨bk7, hbk7⟩ : ∃ b, c.back = b := ⟨_, rfl⟩
                  rw [hbk7] at c7
                  have HB7 := Lib.hid hbk7
                  clear hbk7
                  cases bk7
                  · have hfn : wa.frozen? ⟨ng, k, none⟩ = false := by
                      have h1 := HRM.out.at_.2.2.2.2.1.1
                      rw [HNA.out] at h1
                      exact h1.frozen k
                    obtain ⟨sg, hsA, _, _⟩ := HRM.out.at_.2.2.1.1.pos (by omega)
                    dsimp only at hsA
                    obtain ⟨z, hz⟩ : ∃ z, st'.se[k]? = some z := ⟨_, List.getElem?_eq_getElem (by rw [HRM.out.ok.s]; exact hlt)⟩
                    have HSA := Lib.hid hsA; have HZ := Lib.hid hz
                    have HRN := Lib.hid (show RoAt (wa.setCell ⟨ng, k, none⟩ (.bool true)) wb.heap.size _ s A.length C.length _ from HRM.out.at_.setN HNA.out hlt true)
                    have HGN := Lib.hid (show wb.grownBy (wa.setCell ⟨ng, k, none⟩ (.bool true)) none from by
                      have h1 := HRM.out.at_.2.2.2.2.1.1
                      rw [HNA.out] at h1
                      exact gr_setCell HRM.out.g (.inr (by have := (h1.lt rfl).1; omega)) _)
                    obtain ⟨wn, hwn⟩ : ∃ wn, wa.setCell ⟨ng, k, none⟩ (.bool true) = wn := ⟨_, rfl⟩
                    have HWN := Lib.hid hwn
                    rw [hwn] at HRN HGN
                    clear hsA hz hwn
                    go_upto_region 7 with (fail)
                    rw [HWN.out]
                    clear HWN hfn k7 k8 kn kb c2 c5 c7
                    refine wp_region_B (fun w' => wn.grownBy w' none) 19 (by kernel_rfl) ?_
                    have hHeld : wn.grownBy wn.drew none := gr_drew (gr_refl _ _)
                    refine B_take (k := 0) false (v := ?_) (by rfl) (by kernel_rfl) (by exact fun _ _ _ h => h) (by rfl) ?_ (by first | exact .inr hHeld | exact .inl (by rfl)) ?_
                    rotate_left 1
                    · intro w hSw
                      clear hSw
                      go_simp
                      (try with_reducible rfl)
                    (try simp only [Act.put, List.setIfInBounds_toArray, List.set_cons_zero, List.set_cons_succ])
                    refine B_take (k := 1) false (v := ?_) (by rfl) (by kernel_rfl) (by exact fun _ _ _ h => h) (by rfl) ?_ (by first | exact .inr hHeld | exact .inl (by rfl)) ?_
                    rotate_left 1
                    · intro w hSw
                      clear hSw
                      go_simp
                      (try with_reducible rfl)
                    (try simp only [Act.put, List.setIfInBounds_toArray, List.set_cons_zero, List.set_cons_succ])
                    refine B_take (k := 2) false (v := ?_) (by rfl) (by kernel_rfl) (by exact fun _ _ _ h => h) (by rfl) ?_ (by first | exact .inr hHeld | exact .inl (by rfl)) ?_
                    rotate_left 1
                    · intro w hSw
                      clear hSw
                      go_simp
                      (try with_reducible rfl)
                    (try simp only [Act.put, List.setIfInBounds_toArray, List.set_cons_zero, List.set_cons_succ])
                    refine B_take (k := 3) true (v := ?_) (by rfl) (by kernel_rfl) (by exact fun _ _ _ h => h) (by rfl) ?_ (.inr hHeld) ?_
                    rotate_left 1
                    · intro w' hSw
                      have kc := (HRN.out.kept hSw).blk.cell 6; dsimp only at kc; rw [HSA.out] at kc
                      go_simp
                      (try with_reducible rfl)
                    (try simp only [Act.put, List.setIfInBounds_toArray, List.set_cons_zero, List.set_cons_succ])
                    refine B_take (k := 4) false (v := ?_) (by rfl) (by kernel_rfl) (by exact fun _ _ _ h => h) (by rfl) ?_ (by first | exact .inr hHeld | exact .inl (by rfl)) ?_
                    rotate_left 1
                    · intro w hSw
                      clear hSw
                      go_simp
                      (try with_reducible rfl)
                    (try simp only [Act.put, List.setIfInBounds_toArray, List.set_cons_zero, List.set_cons_succ])
                    refine B_take (k := 5) false (v := ?_) (by rfl) (by kernel_rfl) (by exact fun _ _ _ h => h) (by rfl) ?_ (by first | exact .inr hHeld | exact .inl (by rfl)) ?_
                    rotate_left 1
                    · intro w hSw
                      clear hSw
                      go_simp
                      (try with_reducible rfl)
                    (try simp only [Act.put, List.setIfInBounds_toArray, List.set_cons_zero, List.set_cons_succ])
                    refine B_take (k := 6) false (v := ?_) (by rfl) (by kernel_rfl) (by exact fun _ _ _ h => h) (by rfl) ?_ (by first | exact .inr hHeld | exact .inl (by rfl)) ?_
                    rotate_left 1
                    · intro w hSw
                      clear hSw
                      go_simp
                      (try with_reducible rfl)
                    (try simp only [Act.put, List.setIfInBounds_toArray, List.set_cons_zero, List.set_cons_succ])
                    refine B_take (k := 7) false (v := ?_) (by rfl) (by kernel_rfl) (by exact fun _ _ _ h => h) (by rfl) ?_ (by first | exact .inr hHeld | exact .inl (by rfl)) ?_
                    rotate_left 1
                    · intro w hSw
                      clear hSw
                      go_simp
                      (try with_reducible rfl)
                    (try simp only [Act.put, List.setIfInBounds_toArray, List.set_cons_zero, List.set_cons_succ])
                    refine B_take (k := 8) true (v := ?_) (by rfl) (by kernel_rfl) (by exact fun _ _ _ h => h) (by rfl) ?_ (.inr hHeld) ?_
                    rotate_left 1
                    · intro w' hSw
                      have kc := (HRN.out.kept hSw).blk.cell 6; dsimp only at kc; rw [HSA.out] at kc
                      go_simp
                      (try with_reducible rfl)
                    (try simp only [Act.put, List.setIfInBounds_toArray, List.set_cons_zero, List.set_cons_succ])
                    refine B_take (k := 9) false (v := ?_) (by rfl) (by kernel_rfl) (by exact fun _ _ _ h => h) (by rfl) ?_ (by first | exact .inr hHeld | exact .inl (by rfl)) ?_
                    rotate_left 1
                    · intro w hSw
                      clear hSw
                      go_simp
                      (try with_reducible rfl)
                    (try simp only [Act.put, List.setIfInBounds_toArray, List.set_cons_zero, List.set_cons_succ])
                    refine B_take (k := 10) false (v := ?_) (by rfl) (by kernel_rfl) (by exact fun _ _ _ h => h) (by rfl) ?_ (by first | exact .inr hHeld | exact .inl (by rfl)) ?_
                    rotate_left 1
                    · intro w hSw
                      clear hSw
                      go_simp
                      (try with_reducible rfl)
                    (try simp only [Act.put, List.setIfInBounds_toArray, List.set_cons_zero, List.set_cons_succ])
                    refine B_take (k := 11) false (v := ?_) (by rfl) (by kernel_rfl) (by exact fun _ _ _ h => h) (by rfl) ?_ (by first | exact .inr hHeld | exact .inl (by rfl)) ?_
                    rotate_left 1
                    · intro w hSw
                      clear hSw
                      go_simp
                      (try with_reducible rfl)
                    (try simp only [Act.put, List.setIfInBounds_toArray, List.set_cons_zero, List.set_cons_succ])
                    refine B_take (k := 12) false (v := ?_) (by rfl) (by kernel_rfl) (by exact fun _ _ _ h => h) (by rfl) ?_ (by first | exact .inr hHeld | exact .inl (by rfl)) ?_
                    rotate_left 1
                    · intro w hSw
                      clear hSw
                      go_simp
                      (try with_reducible rfl)
                    (try simp only [Act.put, List.setIfInBounds_toArray, List.set_cons_zero, List.set_cons_succ])
                    refine B_take (k := 13) true (v := ?_) (by rfl) (by kernel_rfl) (by exact fun _ _ _ h => h) (by rfl) ?_ (.inr hHeld) ?_
                    rotate_left 1
                    · intro w' hSw
                      have kc := (HRN.out.kept hSw).blk.cell 6; dsimp only at kc; rw [HSA.out] at kc
                      go_simp
                      (try with_reducible rfl)
                    (try simp only [Act.put, List.setIfInBounds_toArray, List.set_cons_zero, List.set_cons_succ])
                    refine B_take (k := 14) false (v := ?_) (by rfl) (by kernel_rfl) (by exact fun _ _ _ h => h) (by rfl) ?_ (by first | exact .inr hHeld | exact .inl (by rfl)) ?_
                    rotate_left 1
                    · intro w hSw
                      clear hSw
                      go_simp
                      (try with_reducible rfl)
                    (try simp only [Act.put, List.setIfInBounds_toArray, List.set_cons_zero, List.set_cons_succ])
                    refine B_take (k := 15) false (v := ?_) (by rfl) (by kernel_rfl) (by exact fun _ _ _ h => h) (by rfl) ?_ (by first | exact .inr hHeld | exact .inl (by rfl)) ?_
                    rotate_left 1
                    · intro w hSw
                      clear hSw
                      go_simp
                      (try with_reducible rfl)
                    (try simp only [Act.put, List.setIfInBounds_toArray, List.set_cons_zero, List.set_cons_succ])
                    refine B_take (k := 16) false (v := ?_) (by rfl) (by kernel_rfl) (by exact fun _ _ _ h => h) (by rfl) ?_ (by first | exact .inr hHeld | exact .inl (by rfl)) ?_
                    rotate_left 1
                    · intro w hSw
                      clear hSw
                      go_simp
                      (try with_reducible rfl)
                    (try simp only [Act.put, List.setIfInBounds_toArray, List.set_cons_zero, List.set_cons_succ])
                    refine B_take (k := 17) false (v := ?_) (by rfl) (by kernel_rfl) (by exact fun _ _ _ h => h) (by rfl) ?_ (by first | exact .inr hHeld | exact .inl (by rfl)) ?_
                    rotate_left 1
                    · intro w hSw
                      clear hSw
                      go_simp
                      (try with_reducible rfl)
                    (try simp only [Act.put, List.setIfInBounds_toArray, List.set_cons_zero, List.set_cons_succ])
                    refine B_take (k := 18) false (v := ?_) (by rfl) (by kernel_rfl) (by exact fun _ _ _ h => h) (by rfl) ?_ (by first | exact .inr hHeld | exact .inl (by rfl)) ?_
                    rotate_left 1
                    · intro w hSw
                      clear hSw
                      go_simp
                      (try with_reducible rfl)
                    (try simp only [Act.put, List.setIfInBounds_toArray, List.set_cons_zero, List.set_cons_succ])
                    obtain ⟨⟨o19, hc19⟩, hf19, hr19, hl19⟩ := RoAt.store1 (u := .int .i64 2) (a' := ⟨z.ca, z.ag, 2, z.beg, z.fin⟩) (HRN.out.kept (gr_drew (gr_refl _ none))) HSA.out HZ.out (show 2 < 5 by decide) rfl rfl
                    refine B_run (k := 19) (by rfl) (by kernel_rfl) (by rfl) (fun K hK => ?_)
                    refine wp_store_cell (by kernel_rfl) _ _ rfl sg (k * 5 + 2) rfl (.int .i64 2) rfl rfl rfl _ hc19 hf19 ?_
                    refine hK _ _ (.inl (by rfl)) ?_
                    clear hK K hc19 hf19
                    (try simp only [Act.put, List.setIfInBounds_toArray, List.set_cons_zero, List.set_cons_succ])
                    clear hHeld
                    refine B_take (k := 20) false (v := ?_) (by rfl) (by kernel_rfl) (by exact fun _ _ _ h => h) (by rfl) ?_ (by first | exact .inr hHeld | exact .inl (by rfl)) ?_
                    rotate_left 1
                    · intro w hSw
                      clear hSw
                      go_simp
                      (try with_reducible rfl)
                    (try simp only [Act.put, List.setIfInBounds_toArray, List.set_cons_zero, List.set_cons_succ])
                    refine B_take (k := 21) false (v := ?_) (by rfl) (by kernel_rfl) (by exact fun _ _ _ h => h) (by rfl) ?_ (by first | exact .inr hHeld | exact .inl (by rfl)) ?_
                    rotate_left 1
                    · intro w hSw
                      clear hSw
                      go_simp
                      (try with_reducible rfl)
                    (try simp only [Act.put, List.setIfInBounds_toArray, List.set_cons_zero, List.set_cons_succ])
                    obtain ⟨⟨o22, hc22⟩, hf22, hr22, hl22⟩ := RoAt.store1 (u := .int .i64 t) (a' := ⟨z.ca, z.ag, 2, t, z.fin⟩) hr19 HSA.out (List.getElem?_set_self (by rw [HRM.out.ok.s]; exact hlt)) (show 3 < 5 by decide) rfl rfl
                    refine B_run (k := 22) (by rfl) (by kernel_rfl) (by rfl) (fun K hK => ?_)
                    refine wp_store_cell (by kernel_rfl) _ _ rfl sg (k * 5 + 3) rfl (.int .i64 t) rfl rfl rfl _ hc22 hf22 ?_
                    refine hK _ _ (.inl (by rfl)) ?_
                    clear hK K hc22 hf22
                    (try simp only [Act.put, List.setIfInBounds_toArray, List.set_cons_zero, List.set_cons_succ])
                    refine B_take (k := 23) false (v := ?_) (by rfl) (by kernel_rfl) (by exact fun _ _ _ h => h) (by rfl) ?_ (by first | exact .inr hHeld | exact .inl (by rfl)) ?_
                    rotate_left 1
                    · intro w hSw
                      clear hSw
                      go_simp
                      (try with_reducible rfl)
                    (try simp only [Act.put, List.setIfInBounds_toArray, List.set_cons_zero, List.set_cons_succ])
                    refine B_take (k := 24) false (v := ?_) (by rfl) (by kernel_rfl) (by exact fun _ _ _ h => h) (by rfl) ?_ (by first | exact .inr hHeld | exact .inl (by rfl)) ?_
                    rotate_left 1
                    · intro w hSw
                      clear hSw
                      go_simp
                      (try with_reducible rfl)
                    (try simp only [Act.put, List.setIfInBounds_toArray, List.set_cons_zero, List.set_cons_succ])
                    obtain ⟨⟨o25, hc25⟩, hf25, hr25, hl25⟩ := RoAt.store1 (u := .int .i64 t) (a' := ⟨z.ca, z.ag, 2, t, t⟩) hr22 HSA.out (List.getElem?_set_self (by simpa [HRM.out.ok.s] using hlt)) (show 4 < 5 by decide) rfl rfl
                    refine B_run (k := 25) (by rfl) (by kernel_rfl) (by rfl) (fun K hK => ?_)
                    refine wp_store_cell (by kernel_rfl) _ _ rfl sg (k * 5 + 4) rfl (.int .i64 t) rfl rfl rfl _ hc25 hf25 ?_
                    refine hK _ _ (.inl (by rfl)) ?_
                    clear hK K hc25 hf25
                    (try simp only [Act.put, List.setIfInBounds_toArray, List.set_cons_zero, List.set_cons_succ])
                    refine B_done (by kernel_rfl) ?_
                    have HST := Lib.hid (show leave1 c k t false st' = { st' with dn := st'.dn.set k true, se := ((st'.se.set k ⟨z.ca, z.ag, 2, z.beg, z.fin⟩).set k ⟨z.ca, z.ag, 2, t, z.fin⟩).set k ⟨z.ca, z.ag, 2, t, t⟩ } by
                      unfold leave1
                      rw [if_pos hLB.out, if_neg (by rw [HB7.out]; decide), HZ.out, List.set_set, List.set_set]
                      rfl)
                    have hokk := HRM.out.ok.leave1 (c := c) (t := t) hlt false t0 (by omega)
                    rw [HST.out] at hokk
                    have HRM2 := Lib.hid (HRM.out.put (gr_setCell (gr_setCell (gr_setCell (gr_drew HGN.out) (.inr hl19) _) (.inr hl19) _) (.inr hl19) _) hr25 hokk)
                    have HN := Lib.hid ((show leaveR C t false (k + 1) st = leave1 c k t false st' by rw [leaveR_succ HC.out, HLS.out]).trans HST.out)
                    clear hr19 hr22 hr25 hokk HLS hl22 hl25
                    go_simp
                    go_wp2_with fail
                    go_roundw
                    case rel => exact ⟨k + 1, _, by go_num, by omega, HN.out, HRM2.out⟩
                    case measure => simp [intOf]; omega
                  · have hfb : wa.frozen? ⟨bg, k, none⟩ = false := by
                      have h1 := HRM.out.at_.2.2.2.1.1
                      rw [HBA.out] at h1
                      exact h1.frozen k
                    have HRM2 := Lib.hid (HRM.out.put (w' := wa.setCell ⟨bg, k, none⟩ (.bool true)) (by
                      have h1 := HRM.out.at_.2.2.2.1.1
                      rw [HBA.out] at h1
                      exact gr_setCell HRM.out.g (.inr (by have := (h1.lt rfl).1; omega)) _) (HRM.out.at_.setB HBA.out hlt true) ⟨HRM.out.ok.d, HRM.out.ok.s, by simpa using HRM.out.ok.b, HRM.out.ok.n, HRM.out.ok.l, HRM.out.ok.dv, HRM.out.ok.sv⟩)
                    have HN := Lib.hid (show leaveR C t false (k + 1) st = { st' with bk := st'.bk.set k true } by
                      rw [leaveR_succ HC.out, HLS.out]
                      unfold leave1
                      rw [if_pos hLB.out, if_pos HB7.out])
                    clear HLS
                    go_wp2_with fail
                    go_roundw
                    case rel => exact ⟨k + 1, _, by go_num, by omega, HN.out, HRM2.out⟩
                    case measure => simp [intOf]; omega
                · have HN := Lib.hid (show leaveR C t true (k + 1) st = st' by
                    rw [leaveR_succ HC.out, HLS.out]
                    unfold leave1
                    rw [if_neg]
                    unfold leaveB
                    rw [HQ.out]
                    simp)
                  clear HLS 
                  go_wp2_with fail
                  go_roundw
                  case rel => exact ⟨k + 1, st', by go_num, by omega, HN.out, HRM.out⟩
                  case measure => simp [intOf]; omega
              · cases now
                · have HN := Lib.hid (show leaveR C t false (k + 1) st = st' by
                    rw [leaveR_succ HC.out, HLS.out]
                    unfold leave1
                    rw [if_neg]
                    unfold leaveB
                    rw [HQ.out]
                    simp)
                  clear HLS 
                  go_wp2_with fail
                  go_roundw
                  case rel => exact ⟨k + 1, st', by go_num, by omega, HN.out, HRM.out⟩
                  case measure => simp [intOf]; omega
                · have hLB := Lib.hid (show leaveB c t true (bAt st'.bk k) (bAt st'.dn k) = true by unfold leaveB; rw [HD1.out, HD2.out, dt2, decide_eq_true HPP.out, HQ.out]; rfl)
                  have c7 := HB.out.cell 7
                  obtain ⟨bk7, hbk7⟩ : ∃ b, c.back = b := ⟨_, rfl⟩
                  rw [hbk7] at c7
                  have HB7 := Lib.hid hbk7
                  clear hbk7
                  cases bk7
                  · have hfn : wa.frozen? ⟨ng, k, none⟩ = false := by
                      have h1 := HRM.out.at_.2.2.2.2.1.1
                      rw [HNA.out] at h1
                      exact h1.frozen k
                    obtain ⟨sg, hsA, _, _⟩ := HRM.out.at_.2.2.1.1.pos (by omega)
                    dsimp only at hsA
                    obtain ⟨z, hz⟩ : ∃ z, st'.se[k]? = some z := ⟨_, List.getElem?_eq_getElem (by rw [HRM.out.ok.s]; exact hlt)⟩
                    have HSA := Lib.hid hsA; have HZ := Lib.hid hz
                    have HRN := Lib.hid (show RoAt (wa.setCell ⟨ng, k, none⟩ (.bool true)) wb.heap.size _ s A.length C.length _ from HRM.out.at_.setN HNA.out hlt true)
                    have HGN := Lib.hid (show wb.grownBy (wa.setCell ⟨ng, k, none⟩ (.bool true)) none from by
                      have h1 := HRM.out.at_.2.2.2.2.1.1
                      rw [HNA.out] at h1
                      exact gr_setCell HRM.out.g (.inr (by have := (h1.lt rfl).1; omega)) _)
                    obtain ⟨wn, hwn⟩ : ∃ wn, wa.setCell ⟨ng, k, none⟩ (.bool true) = wn := ⟨_, rfl⟩
                    have HWN := Lib.hid hwn
                    rw [hwn] at HRN HGN
                    clear hsA hz hwn
                    go_upto_region 7 with (fail)
                    rw [HWN.out]
                    clear HWN hfn k7 k8 kn kb c2 c5 c7
                    refine wp_region_B (fun w' => wn.grownBy w' none) 19 (by kernel_rfl) ?_
                    have hHeld : wn.grownBy wn.drew none := gr_drew (gr_refl _ _)
                    refine B_take (k := 0) false (v := ?_) (by rfl) (by kernel_rfl) (by exact fun _ _ _ h => h) (by rfl) ?_ (by first | exact .inr hHeld | exact .inl (by rfl)) ?_
                    rotate_left 1
                    · intro w hSw
                      clear hSw
                      go_simp
                      (try with_reducible rfl)
                    (try simp only [Act.put, List.setIfInBounds_toArray, List.set_cons_zero, List.set_cons_succ])
                    refine B_take (k := 1) false (v := ?_) (by rfl) (by kernel_rfl) (by exact fun _ _ _ h => h) (by rfl) ?_ (by first | exact .inr hHeld | exact .inl (by rfl)) ?_
                    rotate_left 1
                    · intro w hSw
                      clear hSw
                      go_simp
                      (try with_reducible rfl)
                    (try simp only [Act.put, List.setIfInBounds_toArray, List.set_cons_zero, List.set_cons_succ])
                    refine B_take (k := 2) false (v := ?_) (by rfl) (by kernel_rfl) (by exact fun _ _ _ h => h) (by rfl) ?_ (by first | exact .inr hHeld | exact .inl (by rfl)) ?_
                    rotate_left 1
                    · intro w hSw
                      clear hSw
                      go_simp
                      (try with_reducible rfl)
                    (try simp only [Act.put, List.setIfInBounds_toArray, List.set_cons_zero, List.set_cons_succ])
                    refine B_take (k := 3) true (v := ?_) (by rfl) (by kernel_rfl) (by exact fun _ _ _ h => h) (by rfl) ?_ (.inr hHeld) ?_
                    rotate_left 1
                    · intro w' hSw
                      have kc := (HRN.out.kept hSw).blk.cell 6; dsimp only at kc; rw [HSA.out] at kc
                      go_simp
                      (try with_reducible rfl)
                    (try simp only [Act.put, List.setIfInBounds_toArray, List.set_cons_zero, List.set_cons_succ])
                    refine B_take (k := 4) false (v := ?_) (by rfl) (by kernel_rfl) (by exact fun _ _ _ h => h) (by rfl) ?_ (by first | exact .inr hHeld | exact .inl (by rfl)) ?_
                    rotate_left 1
                    · intro w hSw
                      clear hSw
                      go_simp
                      (try with_reducible rfl)
                    (try simp only [Act.put, List.setIfInBounds_toArray, List.set_cons_zero, List.set_cons_succ])
                    refine B_take (k := 5) false (v := ?_) (by rfl) (by kernel_rfl) (by exact fun _ _ _ h => h) (by rfl) ?_ (by first | exact .inr hHeld | exact .inl (by rfl)) ?_
                    rotate_left 1
                    · intro w hSw
                      clear hSw
                      go_simp
                      (try with_reducible rfl)
                    (try simp only [Act.put, List.setIfInBounds_toArray, List.set_cons_zero, List.set_cons_succ])
                    refine B_take (k := 6) false (v := ?_) (by rfl) (by kernel_rfl) (by exact fun _ _ _ h => h) (by rfl) ?_ (by first | exact .inr hHeld | exact .inl (by rfl)) ?_
                    rotate_left 1
                    · intro w hSw
                      clear hSw
                      go_simp
                      (try with_reducible rfl)
                    (try simp only [Act.put, List.setIfInBounds_toArray, List.set_cons_zero, List.set_cons_succ])
                    refine B_take (k := 7) false (v := ?_) (by rfl) (by kernel_rfl) (by exact fun _ _ _ h => h) (by rfl) ?_ (by first | exact .inr hHeld | exact .inl (by rfl)) ?_
                    rotate_left 1
                    · intro w hSw
                      clear hSw
                      go_simp
                      (try with_reducible rfl)
                    (try simp only [Act.put, List.setIfInBounds_toArray, List.set_cons_zero, List.set_cons_succ])
                    refine B_take (k := 8) true (v := ?_) (by rfl) (by kernel_rfl) (by exact fun _ _ _ h => h) (by rfl) ?_ (.inr hHeld) ?_
                    rotate_left 1
                    · intro w' hSw
                      have kc := (HRN.out.kept hSw).blk.cell 6; dsimp only at kc; rw [HSA.out] at kc
                      go_simp
                      (try with_reducible rfl)
                    (try simp only [Act.put, List.setIfInBounds_toArray, List.set_cons_zero, List.set_cons_succ])
                    refine B_take (k := 9) false (v := ?_) (by rfl) (by kernel_rfl) (by exact fun _ _ _ h => h) (by rfl) ?_ (by first | exact .inr hHeld | exact .inl (by rfl)) ?_
                    rotate_left 1
                    · intro w hSw
                      clear hSw
                      go_simp
                      (try with_reducible rfl)
                    (try simp only [Act.put, List.setIfInBounds_toArray, List.set_cons_zero, List.set_cons_succ])
                    refine B_take (k := 10) false (v := ?_) (by rfl) (by kernel_rfl) (by exact fun _ _ _ h => h) (by rfl) ?_ (by first | exact .inr hHeld | exact .inl (by rfl)) ?_
                    rotate_left 1
                    · intro w hSw
                      clear hSw
                      go_simp
                      (try with_reducible rfl)
                    (try simp only [Act.put, List.setIfInBounds_toArray, List.set_cons_zero, List.set_cons_succ])
                    refine B_take (k := 11) false (v := ?_) (by rfl) (by kernel_rfl) (by exact fun _ _ _ h => h) (by rfl) ?_ (by first | exact .inr hHeld | exact .inl (by rfl)) ?_
                    rotate_left 1
                    · intro w hSw
                      clear hSw
                      go_simp
                      (try with_reducible rfl)
                    (try simp only [Act.put, List.setIfInBounds_toArray, List.set_cons_zero, List.set_cons_succ])
                    refine B_take (k := 12) false (v := ?_) (by rfl) (by kernel_rfl) (by exact fun _ _ _ h => h) (by rfl) ?_ (by first | exact .inr hHeld | exact .inl (by rfl)) ?_
                    rotate_left 1
                    · intro w hSw
                      clear hSw
                      go_simp
                      (try with_reducible rfl)
                    (try simp only [Act.put, List.setIfInBounds_toArray, List.set_cons_zero, List.set_cons_succ])
                    refine B_take (k := 13) true (v := ?_) (by rfl) (by kernel_rfl) (by exact fun _ _ _ h => h) (by rfl) ?_ (.inr hHeld) ?_
                    rotate_left 1
                    · intro w' hSw
                      have kc := (HRN.out.kept hSw).blk.cell 6; dsimp only at kc; rw [HSA.out] at kc
                      go_simp
                      (try with_reducible rfl)
                    (try simp only [Act.put, List.setIfInBounds_toArray, List.set_cons_zero, List.set_cons_succ])
                    refine B_take (k := 14) false (v := ?_) (by rfl) (by kernel_rfl) (by exact fun _ _ _ h => h) (by rfl) ?_ (by first | exact .inr hHeld | exact .inl (by rfl)) ?_
                    rotate_left 1
                    · intro w hSw
                      clear hSw
                      go_simp
                      (try with_reducible rfl)
                    (try simp only [Act.put, List.setIfInBounds_toArray, List.set_cons_zero, List.set_cons_succ])
                    refine B_take (k := 15) false (v := ?_) (by rfl) (by kernel_rfl) (by exact fun _ _ _ h => h) (by rfl) ?_ (by first | exact .inr hHeld | exact .inl (by rfl)) ?_
                    rotate_left 1
                    · intro w hSw
                      clear hSw
                      go_simp
                      (try with_reducible rfl)
                    (try simp only [Act.put, List.setIfInBounds_toArray, List.set_cons_zero, List.set_cons_succ])
                    refine B_take (k := 16) false (v := ?_) (by rfl) (by kernel_rfl) (by exact fun _ _ _ h => h) (by rfl) ?_ (by first | exact .inr hHeld | exact .inl (by rfl)) ?_
                    rotate_left 1
                    · intro w hSw
                      clear hSw
                      go_simp
                      (try with_reducible rfl)
                    (try simp only [Act.put, List.setIfInBounds_toArray, List.set_cons_zero, List.set_cons_succ])
                    refine B_take (k := 17) false (v := ?_) (by rfl) (by kernel_rfl) (by exact fun _ _ _ h => h) (by rfl) ?_ (by first | exact .inr hHeld | exact .inl (by rfl)) ?_
                    rotate_left 1
                    · intro w hSw
                      clear hSw
                      go_simp
                      (try with_reducible rfl)
                    (try simp only [Act.put, List.setIfInBounds_toArray, List.set_cons_zero, List.set_cons_succ])
                    refine B_take (k := 18) false (v := ?_) (by rfl) (by kernel_rfl) (by exact fun _ _ _ h => h) (by rfl) ?_ (by first | exact .inr hHeld | exact .inl (by rfl)) ?_
                    rotate_left 1
                    · intro w hSw
                      clear hSw
                      go_simp
                      (try with_reducible rfl)
                    (try simp only [Act.put, List.setIfInBounds_toArray, List.set_cons_zero, List.set_cons_succ])
                    obtain ⟨⟨o19, hc19⟩, hf19, hr19, hl19⟩ := RoAt.store1 (u := .int .i64 2) (a' := ⟨z.ca, z.ag, 2, z.beg, z.fin⟩) (HRN.out.kept (gr_drew (gr_refl _ none))) HSA.out HZ.out (show 2 < 5 by decide) rfl rfl
                    refine B_run (k := 19) (by rfl) (by kernel_rfl) (by rfl) (fun K hK => ?_)
                    refine wp_store_cell (by kernel_rfl) _ _ rfl sg (k * 5 + 2) rfl (.int .i64 2) rfl rfl rfl _ hc19 hf19 ?_
                    refine hK _ _ (.inl (by rfl)) ?_
                    clear hK K hc19 hf19
                    (try simp only [Act.put, List.setIfInBounds_toArray, List.set_cons_zero, List.set_cons_succ])
                    clear hHeld
                    refine B_take (k := 20) false (v := ?_) (by rfl) (by kernel_rfl) (by exact fun _ _ _ h => h) (by rfl) ?_ (by first | exact .inr hHeld | exact .inl (by rfl)) ?_
                    rotate_left 1
                    · intro w hSw
                      clear hSw
                      go_simp
                      (try with_reducible rfl)
                    (try simp only [Act.put, List.setIfInBounds_toArray, List.set_cons_zero, List.set_cons_succ])
                    refine B_take (k := 21) false (v := ?_) (by rfl) (by kernel_rfl) (by exact fun _ _ _ h => h) (by rfl) ?_ (by first | exact .inr hHeld | exact .inl (by rfl)) ?_
                    rotate_left 1
                    · intro w hSw
                      clear hSw
                      go_simp
                      (try with_reducible rfl)
                    (try simp only [Act.put, List.setIfInBounds_toArray, List.set_cons_zero, List.set_cons_succ])
                    obtain ⟨⟨o22, hc22⟩, hf22, hr22, hl22⟩ := RoAt.store1 (u := .int .i64 t) (a' := ⟨z.ca, z.ag, 2, t, z.fin⟩) hr19 HSA.out (List.getElem?_set_self (by rw [HRM.out.ok.s]; exact hlt)) (show 3 < 5 by decide) rfl rfl
                    refine B_run (k := 22) (by rfl) (by kernel_rfl) (by rfl) (fun K hK => ?_)
                    refine wp_store_cell (by kernel_rfl) _ _ rfl sg (k * 5 + 3) rfl (.int .i64 t) rfl rfl rfl _ hc22 hf22 ?_
                    refine hK _ _ (.inl (by rfl)) ?_
                    clear hK K hc22 hf22
                    (try simp only [Act.put, List.setIfInBounds_toArray, List.set_cons_zero, List.set_cons_succ])
                    refine B_take (k := 23) false (v := ?_) (by rfl) (by kernel_rfl) (by exact fun _ _ _ h => h) (by rfl) ?_ (by first | exact .inr hHeld | exact .inl (by rfl)) ?_
                    rotate_left 1
                    · intro w hSw
                      clear hSw
                      go_simp
                      (try with_reducible rfl)
                    (try simp only [Act.put, List.setIfInBounds_toArray, List.set_cons_zero, List.set_cons_succ])
                    refine B_take (k := 24) false (v := ?_) (by rfl) (by kernel_rfl) (by exact fun _ _ _ h => h) (by rfl) ?_ (by first | exact .inr hHeld | exact .inl (by rfl)) ?_
                    rotate_left 1
                    · intro w hSw
                      clear hSw
                      go_simp
                      (try with_reducible rfl)
                    (try simp only [Act.put, List.setIfInBounds_toArray, List.set_cons_zero, List.set_cons_succ])
                    obtain ⟨⟨o25, hc25⟩, hf25, hr25, hl25⟩ := RoAt.store1 (u := .int .i64 t) (a' := ⟨z.ca, z.ag, 2, t, t⟩) hr22 HSA.out (List.getElem?_set_self (by simpa [HRM.out.ok.s] using hlt)) (show 4 < 5 by decide) rfl rfl
                    refine B_run (k := 25) (by rfl) (by kernel_rfl) (by rfl) (fun K hK => ?_)
                    refine wp_store_cell (by kernel_rfl) _ _ rfl sg (k * 5 + 4) rfl (.int .i64 t) rfl rfl rfl _ hc25 hf25 ?_
                    refine hK _ _ (.inl (by rfl)) ?_
                    clear hK K hc25 hf25
                    (try simp only [Act.put, List.setIfInBounds_toArray, List.set_cons_zero, List.set_cons_succ])
                    refine B_done (by kernel_rfl) ?_
                    have HST := Lib.hid (show leave1 c k t true st' = { st' with dn := st'.dn.set k true, se := ((st'.se.set k ⟨z.ca, z.ag, 2, z.beg, z.fin⟩).set k ⟨z.ca, z.ag, 2, t, z.fin⟩).set k ⟨z.ca, z.ag, 2, t, t⟩ } by
                      unfold leave1
                      rw [if_pos hLB.out, if_neg (by rw [HB7.out]; decide), HZ.out, List.set_set, List.set_set]
                      rfl)
                    have hokk := HRM.out.ok.leave1 (c := c) (t := t) hlt true t0 (by omega)
                    rw [HST.out] at hokk
                    have HRM2 := Lib.hid (HRM.out.put (gr_setCell (gr_setCell (gr_setCell (gr_drew HGN.out) (.inr hl19) _) (.inr hl19) _) (.inr hl19) _) hr25 hokk)
                    have HN := Lib.hid ((show leaveR C t true (k + 1) st = leave1 c k t true st' by rw [leaveR_succ HC.out, HLS.out]).trans HST.out)
                    clear hr19 hr22 hr25 hokk HLS hl22 hl25
                    go_simp
                    go_wp2_with fail
                    go_roundw
                    case rel => exact ⟨k + 1, _, by go_num, by omega, HN.out, HRM2.out⟩
                    case measure => simp [intOf]; omega
                  · have hfb : wa.frozen? ⟨bg, k, none⟩ = false := by
                      have h1 := HRM.out.at_.2.2.2.1.1
                      rw [HBA.out] at h1
                      exact h1.frozen k
                    have HRM2 := Lib.hid (HRM.out.put (w' := wa.setCell ⟨bg, k, none⟩ (.bool true)) (by
                      have h1 := HRM.out.at_.2.2.2.1.1
                      rw [HBA.out] at h1
                      exact gr_setCell HRM.out.g (.inr (by have := (h1.lt rfl).1; omega)) _) (HRM.out.at_.setB HBA.out hlt true) ⟨HRM.out.ok.d, HRM.out.ok.s, by simpa using HRM.out.ok.b, HRM.out.ok.n, HRM.out.ok.l, HRM.out.ok.dv, HRM.out.ok.sv⟩)
                    have HN := Lib.hid (show leaveR C t true (k + 1) st = { st' with bk := st'.bk.set k true } by
                      rw [leaveR_succ HC.out, HLS.out]
                      unfold leave1
                      rw [if_pos hLB.out, if_pos HB7.out])
                    clear HLS
                    go_wp2_with fail
                    go_roundw
                    case rel => exact ⟨k + 1, _, by go_num, by omega, HN.out, HRM2.out⟩
                    case measure => simp [intOf]; omega
            · have dp : (c.at_ + c.pat != t) = true := by simpa using hp
              have HN := Lib.hid (show leaveR C t now (k + 1) st = st' by
                rw [leaveR_succ HC.out, HLS.out]
                unfold leave1
                rw [if_neg]
                unfold leaveB
                rw [decide_eq_false hp]
                simp)
              clear HLS hp
              go_wp2_with fail
              go_roundw
              case rel => exact ⟨k + 1, st', by go_num, by omega, HN.out, HRM.out⟩
              case measure => simp [intOf]; omega
        · have HN := Lib.hid (show leaveR C t now (k + 1) st = st' by
            rw [leaveR_succ HC.out, HLS.out]
            unfold leave1
            rw [if_neg]
            unfold leaveB
            rw [HD2.out]
            simp)
          clear HLS 
          go_wp2_with fail
          go_roundw
          case rel => exact ⟨k + 1, st', by go_num, by omega, HN.out, HRM.out⟩
          case measure => simp [intOf]; omega
      · have HN := Lib.hid (show leaveR C t now (k + 1) st = st' by
          rw [leaveR_succ HC.out, HLS.out]
          unfold leave1
          rw [if_neg]
          unfold leaveB
          rw [HD1.out]
          simp)
        clear HLS 
        go_wp2_with fail
        go_roundw
        case rel => exact ⟨k + 1, st', by go_num, by omega, HN.out, HRM.out⟩
        case measure => simp [intOf]; omega
    · obtain rfl : k = C.length := by omega
      go_wp2_with fail
      go_end0
      exact ⟨rfl, by rw [HLS.out]; exact HRM.out⟩
end Go.Proofs.YtnmodobkennklaaGreatDoor

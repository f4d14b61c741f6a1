/- Contract of the room's step. Conditions: none. -/
import Derived.Test.YtnmodobkennklaaGreatDoorRo5
import Derived.Deep.LoopGhost
namespace Go.Proofs.YtnmodobkennklaaGreatDoor
open Go.RowKit

section
variable {s : StyV} {A : List AgV} {C : List CaV} {st : RoS} {t : Int} {L : List Nat} {k i : Nat} {c : CaV}
theorem giveL_no (hi : L[k]? = some i) (hc : C[i]? = some c) (hn : chosenR s A st c t < 0) : giveL s A C st t (L.drop k) = giveL s A C st t (L.drop (k + 1)) := by
  obtain ⟨hl, rfl⟩ := List.getElem?_eq_some_iff.1 hi
  rw [List.drop_eq_getElem_cons hl]
  show (C[L[k]]?).elim _ _ = _
  rw [hc]
  exact if_pos hn
theorem giveL_yes (hi : L[k]? = some i) (hc : C[i]? = some c) (hn : ¬ chosenR s A st c t < 0) : giveL s A C st t (L.drop k) = some (givenR A C st t i (chosenR s A st c t).toNat) := by
  obtain ⟨hl, rfl⟩ := List.getElem?_eq_some_iff.1 hi
  rw [List.drop_eq_getElem_cons hl]
  show (C[L[k]]?).elim _ _ = _
  rw [hc]
  exact if_neg hn
theorem givenR_eq {kk : Nat} {a : AgV} {d : Int × Int} {b : Bool} {H : Int} (hc : C[i]? = some c) (ha : A[kk]? = some a) (hd : dAt st.ds kk = d) (hb : bAt st.bk i = b) (hH : (if b then 3 else 1) = H) :
    givenR A C st t i kk = ⟨st.ds.set kk (d.1 + 1, t + c.talk), st.se.set i ⟨c.id, a.key, H, t, t + c.talk⟩, st.bk, st.dn.set i true, a.key⟩ := by
  unfold givenR
  rw [hc, ha]
  simp only [Option.elim]
  rw [hd, hb, hH]
end
theorem SeV.one (r : SeV) : ∀ u ∈ r.row, u.oneCell' = true := by
  intro u hu
  simp only [SeV.row, List.mem_cons, List.not_mem_nil, or_false] at hu
  rcases hu with rfl | rfl | rfl | rfl | rfl <;> rfl
theorem dkRow_one (r : Int × Int) : ∀ u ∈ dkRow r, u.oneCell' = true := by
  intro u hu
  simp only [dkRow, List.mem_cons, List.not_mem_nil, or_false] at hu
  rcases hu with rfl | rfl <;> rfl
set_option maxHeartbeats 16000000 in
set_option maxRecDepth 100000 in
theorem step_any (wb : World) (R : RoC) (s : StyV) (A : List AgV) (C : List CaV) (st : RoS) (t : Int) (w : World) (h : Rm wb w R s A C st) (k1 : 1 ≤ s.kind) (k4 : s.kind ≤ 4) (t0 : -1 ≤ t) (t1 : t ≤ 400000000000) :
    Calls Tryz.prog 114 #[.pointer (some ⟨R.g, 0, none⟩), .int .i64 t] w (fun e w' => e = .returned (.tuple #[]) ∧ Rm wb w' R s A C (stepR s A C st t)) := by
  obtain ⟨rg, aA, ac, cA, cc, dA, dc, sA, sc, bA, bc, nA, nc⟩ := R
  have H := Lib.hid h
  have HK1 := Lib.hid k1; have HK4 := Lib.hid k4
  have hn := h.n
  clear h k1 k4
  go_enter Tryz.func114, Tryz.ntmps114
  go_wp2_with fail
  refine (leave_any wb ⟨rg, aA, ac, cA, cc, dA, dc, sA, sc, bA, bc, nA, nc⟩ s A C st t false _ H.out t0 t1).mono ?_
  rintro e w2 ⟨rfl, hrm⟩
  have HRM := Lib.hid hrm
  obtain ⟨T, hT⟩ : ∃ T, givesR s A C t C.length (leaveR C t false C.length st) = T := ⟨_, rfl⟩
  have HT := Lib.hid hT
  have HT0 := Lib.hid hT
  clear hrm hT
  go_wp2_with fail
  go_loopg [4, 6, 7, 8, 9] (C.length + 1) (fun gk t4 _ _ _ _ wr => ∃ st' : RoS, Rm wb wr ⟨rg, aA, ac, cA, cc, dA, dc, sA, sc, bA, bc, nA, nc⟩ s A C st' ∧ ((t4 = .bool true ∧ ∃ f, gk = f + 1 ∧ C.length ≤ f + st'.dn.count true ∧ givesR s A C t f st' = T) ∨ (t4 = .bool false ∧ st' = T)))
  case atStart => exact ⟨_, HRM.out, .inl ⟨rfl, C.length, rfl, by omega, HT.out⟩⟩
  case round =>
    clear HRM HT
    obtain ⟨st', hrm, hcase⟩ := hrel
    have HRM := Lib.hid hrm
    clear hrm
    rcases hcase with ⟨rfl, f, hgk, hcnt, hgv⟩ | ⟨rfl, hst⟩
    · have HGK := Lib.hid hgk; have HCN := Lib.hid hcnt; have HGV := Lib.hid hgv
      clear hgk hcnt hgv
      go_wp2_with fail
      refine (line_any wb ⟨rg, aA, ac, cA, cc, dA, dc, sA, sc, bA, bc, nA, nc⟩ s A C st' t _ HRM.out t0 t1).mono ?_
      rintro e w3 ⟨B, m, cB, rfl, ho3, hg3⟩
      obtain ⟨L, hL⟩ : ∃ L, lineR s C st'.dn t = L := ⟨_, rfl⟩
      rw [hL] at ho3
      have HL := Lib.hid hL
      have HO := Lib.hid (ho3.recs.lower (Nat.zero_le _))
      have HRM3 := Lib.hid (HRM.out.kept hg3)
      have hm19 : m ≤ C.length := by rw [← HO.out.len, ← HL.out]; exact lineR_len
      clear ho3 hg3 hL HRM
      go_wp2_with fail
      go_loopw [4, 6, 7, 8, 9, 18] (fun t4 _ _ _ _ t18 wi => ∃ k : Nat, t4 = .bool false ∧ t18 = .int .i64 k ∧ k ≤ m ∧ w3.grownBy wi none ∧ giveR s A C st' t = giveL s A C st' t (L.drop k)) (fun _ _ _ _ _ t18 _ => m - (intOf t18).toNat)
      case atStart => exact ⟨0, rfl, rfl, Nat.zero_le _, gr_refl _ _, by unfold giveR; rw [HL.out]; rfl⟩
      case round =>
        obtain ⟨k, rfl, rfl, hk, hg, hgl⟩ := hrel
        obtain ⟨wi, rfl⟩ : ∃ wi : World, wi = wr := ⟨_, rfl⟩
        have HGL := Lib.hid hgl
        have HRM := Lib.hid (HRM3.out.kept hg)
        have HG3 := Lib.hid hg
        have HOi := Lib.hid (HO.out.grown hg (fun g e => by cases e))
        clear hg hgl
        by_cases hlt : k < m
        · obtain ⟨lg, lo, i, hBA, _, hlg, hi, hic⟩ := HOi.out.get irow_len hlt
          subst hBA
          obtain ⟨hiC, hdnf, c, hc, hcat⟩ := lineR_mem (s := s) (C := C) (dn := st'.dn) (t := t) (i := i) (by rw [HL.out]; exact mem_of_get hi)
          have HI := Lib.hid hi; have HC := Lib.hid hc
          have hlt2 : (k : Int) < (m : Int) := by omega
          have kx := hic 0 _ rfl
          simp only [Nat.mul_one, Nat.add_zero] at kx
          obtain ⟨n1, n2, n3, n4, n5, n6, _⟩ := (HRM.out.cn c (mem_of_get hc)).1
          clear hi hc hic hlg hdnf hcat
          go_upto_region 7 with (fail)
          clear kx
          go_wp2_with fail
          refine (choose_any wb ⟨rg, aA, ac, cA, cc, dA, dc, sA, sc, bA, bc, nA, nc⟩ s A C st' i c t _ HRM.out HC.out HK1.out HK4.out).mono ?_
          rintro e w5 ⟨rfl, hg5⟩
          replace HRM := Lib.hid (HRM.out.kept hg5)
          replace HG3 := Lib.hid (gr_none HG3.out hg5)
          obtain ⟨Z, hZ⟩ : ∃ Z, chosenR s A st' c t = Z := ⟨_, rfl⟩
          have HZ := Lib.hid hZ
          rw [hZ]
          clear hg5 hZ HOi
          by_cases hz : Z < 0
          · have dz : decide (Z < 0) = true := decide_eq_true hz
            have HN := Lib.hid (show giveR s A C st' t = giveL s A C st' t (L.drop (k + 1)) from HGL.out.trans (giveL_no HI.out HC.out (by rw [HZ.out]; exact hz)))
            clear hz
            go_wp2_with fail
            go_roundw
            case rel => exact ⟨k + 1, rfl, by go_num, by omega, HG3.out, HN.out⟩
            case measure => simp [intOf]; omega
          · have dz : decide (Z < 0) = false := decide_eq_false hz
            obtain ⟨kk, a, hkk, hZk, ha⟩ : ∃ (kk : Nat) (a : AgV), kk < A.length ∧ Z = kk ∧ A[kk]? = some a := by
              rcases chooseR_ok (s := s) (A := A) (ds := st'.ds) (last := st'.last) (c := c) (t := t) A.length with hx | ⟨q, a, h1, h2, h3, _⟩
              · exfalso; apply hz; rw [← HZ.out]; unfold chosenR; rw [hx]; decide
              · exact ⟨q, a, h1, by rw [← HZ.out]; exact h2, h3⟩
            have HY := Lib.hid (show giveR s A C st' t = some (givenR A C st' t i kk) from HGL.out.trans (by
              rw [giveL_yes HI.out HC.out (by rw [HZ.out]; exact hz), HZ.out, hZk]
              rfl))
            subst hZk
            have HA := Lib.hid ha
            clear hz ha
            obtain ⟨cg, co, hcA, hrecC⟩ := HRM.out.caller HC.out
            dsimp only at hcA
            have hic2 : (i : Int) < (C.length : Int) := by omega
            have k4 := HRM.out.at_.blk.cell 4
            dsimp only at k4
            rw [hcA] at k4
            have HCC := Lib.hid (hrecC.at_ CaV.row_len HC.out)
            obtain ⟨wv, hwv⟩ : ∃ wv, w5.alloc (.cells #[.string c.id, .string c.skill, .int .i64 c.at_, .int .i64 c.least, .int .i64 c.prio, .int .i64 c.pat, .int .i64 c.talk, .bool c.back] 49) = wv := ⟨_, rfl⟩
            obtain ⟨xb, hxb⟩ : ∃ xb, w5.heap.size = xb := ⟨_, rfl⟩
            have HXB := Lib.hid (show Blk wv xb 49 #[.string c.id, .string c.skill, .int .i64 c.at_, .int .i64 c.least, .int .i64 c.prio, .int .i64 c.pat, .int .i64 c.talk, .bool c.back] by rw [← hwv, ← hxb]; exact Blk.new _ _ _)
            have HGv := Lib.hid (show w5.grownBy wv none by rw [← hwv]; exact gr_alloc (gr_refl _ _) _)
            have HWV := Lib.hid hwv; have HXE := Lib.hid hxb
            clear hwv hxb hrecC hcA
            go_upto_region 10 with (first
              | (refine wpl_load_at Tryz.caT rfl _ rfl _ rfl [.string c.id, .string c.skill, .int .i64 c.at_, .int .i64 c.least, .int .i64 c.prio, .int .i64 c.pat, .int .i64 c.talk, .bool c.back] rfl (fun j u hu => by rw [add_mk]; exact HCC.out j u hu) ?_)
              | fail)
            rw [HWV.out]
            (try rw [HXE.out])
            replace HRM := Lib.hid (HRM.out.kept HGv.out)
            clear k4 HWV HXE HCC HGv dz HG3 HGL
            obtain ⟨bg, b2, hbA, hbk, kb⟩ := HRM.out.at_.back hiC
            dsimp only at hbA
            have k7 := HRM.out.at_.blk.cell 7
            dsimp only at k7
            rw [hbA] at k7
            have HBK := Lib.hid (show bAt st'.bk i = b2 from bAt_some hbk)
            obtain ⟨HOW, hHOW⟩ : ∃ HOW : Int, (if b2 then 3 else 1) = HOW := ⟨_, rfl⟩
            have HHW := Lib.hid hHOW
            clear hbA hbk hHOW
            go_upto_if 41 with (fail)
            clear kb k7
            go_cut [9] (fun v9 wx => v9 = .int .i64 HOW ∧ wx = wv)
            case first =>
              cases b2
              · go_wp2_with fail
                go_meet
                exact ⟨by rw [← HHW.out]; rfl, rfl⟩
              · go_wp2_with fail
                go_meet
                exact ⟨by rw [← HHW.out]; rfl, rfl⟩
            case rest =>
              obtain ⟨rfl, rfl⟩ := hcut
              obtain ⟨wv, rfl⟩ : ∃ wv : World, wv = wc := ⟨_, rfl⟩
              obtain ⟨ag, ao, haA, hrecA, _⟩ := HRM.out.agent HA.out
              dsimp only at haA
              have hkk2 : (kk : Int) < (A.length : Int) := by omega
              obtain ⟨dg, d, hdA, hd, hd0, hd1⟩ := HRM.out.at_.desk hkk
              dsimp only at hdA
              obtain ⟨b1, b2', b3, b4⟩ := HRM.out.ok.dv d (mem_of_get hd)
              have hcl := List.count_le_length (a := true) (l := st'.dn)
              rw [HRM.out.ok.n] at hcl
              obtain ⟨sg, hsA, _, _⟩ := HRM.out.at_.2.2.1.1.pos (by omega)
              dsimp only at hsA
              obtain ⟨ng, bn, hnA, hdn, _⟩ := HRM.out.at_.done hiC
              dsimp only at hnA
              have HAA := Lib.hid haA; have HDA := Lib.hid hdA; have HSA := Lib.hid hsA; have HNA := Lib.hid hnA
              have HRA := Lib.hid hrecA
              have HD := Lib.hid hd
              have HRN := Lib.hid HRM.out.at_
              have HGN := Lib.hid HRM.out.g
              have HST := Lib.hid (givenR_eq (st := st') (t := t) HC.out HA.out (dAt_some hd) HBK.out HHW.out)
              have qt : IntKind.i64.wrap (t + c.talk) = t + c.talk := IntWalk.i64_in _ (by omega)
              have qd : IntKind.i64.wrap (d.1 + 1) = d.1 + 1 := IntWalk.i64_in _ (by omega)
              clear haA hdA hsA hnA hrecA hd hd0 hd1 hdn
              go_wp2_with fail
              refine wp_region_B (fun w' => wv.grownBy w' none) 23 (by kernel_rfl) ?_
              have hHeld : wv.grownBy wv.drew none := gr_drew (gr_refl _ _)
              refine B_take (k := 0) false (v := ?_) (by rfl) (by kernel_rfl) (by exact fun _ _ _ h => h) (by rfl) ?_ (by first | exact .inr hHeld | exact .inl (by rfl)) ?_
              rotate_left 1
              · intro w hSw
                clear hSw
                go_simp
                (try with_reducible rfl)
              (try simp only [Act.put, List.setIfInBounds_toArray, List.set_cons_zero, List.set_cons_succ])
              refine B_take (k := 1) false (v := ?_) (by rfl) (by kernel_rfl) (by exact fun _ _ _ h => h) (by rfl) ?_ (by first | exact .inr hHeld | exact .inl (by rfl)) ?_
              rotate_left 1
              · intro w hSw
                clear hSw
                go_simp
                (try with_reducible rfl)
              (try simp only [Act.put, List.setIfInBounds_toArray, List.set_cons_zero, List.set_cons_succ])
              refine B_take (k := 2) false (v := ?_) (by rfl) (by kernel_rfl) (by exact fun _ _ _ h => h) (by rfl) ?_ (by first | exact .inr hHeld | exact .inl (by rfl)) ?_
              rotate_left 1
              · intro w hSw
                clear hSw
                go_simp
                (try with_reducible rfl)
              (try simp only [Act.put, List.setIfInBounds_toArray, List.set_cons_zero, List.set_cons_succ])
              refine B_take (k := 3) true (v := ?_) (by rfl) (by kernel_rfl) (by exact fun _ _ _ h => h) (by rfl) ?_ (.inr hHeld) ?_
              rotate_left 1
              · intro w' hSw
                have kc := (HRN.out.kept hSw).blk.cell 6; dsimp only at kc; rw [HSA.out] at kc
                go_simp
                (try with_reducible rfl)
              (try simp only [Act.put, List.setIfInBounds_toArray, List.set_cons_zero, List.set_cons_succ])
              refine B_take (k := 4) false (v := ?_) (by rfl) (by kernel_rfl) (by exact fun _ _ _ h => h) (by rfl) ?_ (by first | exact .inr hHeld | exact .inl (by rfl)) ?_
              rotate_left 1
              · intro w hSw
                clear hSw
                go_simp
                (try with_reducible rfl)
              (try simp only [Act.put, List.setIfInBounds_toArray, List.set_cons_zero, List.set_cons_succ])
              refine B_take (k := 5) false (v := ?_) (by rfl) (by kernel_rfl) (by exact fun _ _ _ h => h) (by rfl) ?_ (by first | exact .inr hHeld | exact .inl (by rfl)) ?_
              rotate_left 1
              · intro w hSw
                clear hSw
                go_simp
                (try with_reducible rfl)
              (try simp only [Act.put, List.setIfInBounds_toArray, List.set_cons_zero, List.set_cons_succ])
              refine B_take (k := 6) true (v := ?_) (by rfl) (by kernel_rfl) (by exact fun _ _ _ h => h) (by rfl) ?_ (.inr hHeld) ?_
              rotate_left 1
              · intro w' hSw
                have kc := (HXB.out.grown hSw (by simp)).cell 0
                go_simp
                (try with_reducible rfl)
              (try simp only [Act.put, List.setIfInBounds_toArray, List.set_cons_zero, List.set_cons_succ])
              refine B_take (k := 7) false (v := ?_) (by rfl) (by kernel_rfl) (by exact fun _ _ _ h => h) (by rfl) ?_ (by first | exact .inr hHeld | exact .inl (by rfl)) ?_
              rotate_left 1
              · intro w hSw
                clear hSw
                go_simp
                (try with_reducible rfl)
              (try simp only [Act.put, List.setIfInBounds_toArray, List.set_cons_zero, List.set_cons_succ])
              refine B_take (k := 8) false (v := ?_) (by rfl) (by kernel_rfl) (by exact fun _ _ _ h => h) (by rfl) ?_ (by first | exact .inr hHeld | exact .inl (by rfl)) ?_
              rotate_left 1
              · intro w hSw
                clear hSw
                go_simp
                (try with_reducible rfl)
              (try simp only [Act.put, List.setIfInBounds_toArray, List.set_cons_zero, List.set_cons_succ])
              refine B_take (k := 9) false (v := ?_) (by rfl) (by kernel_rfl) (by exact fun _ _ _ h => h) (by rfl) ?_ (by first | exact .inr hHeld | exact .inl (by rfl)) ?_
              rotate_left 1
              · intro w hSw
                clear hSw
                go_simp
                (try with_reducible rfl)
              (try simp only [Act.put, List.setIfInBounds_toArray, List.set_cons_zero, List.set_cons_succ])
              refine B_take (k := 10) true (v := ?_) (by rfl) (by kernel_rfl) (by exact fun _ _ _ h => h) (by rfl) ?_ (.inr hHeld) ?_
              rotate_left 1
              · intro w' hSw
                have kc := (HRN.out.kept hSw).blk.cell 3; dsimp only at kc; rw [HAA.out] at kc
                go_simp
                (try with_reducible rfl)
              (try simp only [Act.put, List.setIfInBounds_toArray, List.set_cons_zero, List.set_cons_succ])
              refine B_take (k := 11) false (v := ?_) (by rfl) (by kernel_rfl) (by exact fun _ _ _ h => h) (by rfl) ?_ (by first | exact .inr hHeld | exact .inl (by rfl)) ?_
              rotate_left 1
              · intro w hSw
                clear hSw
                go_simp
                (try with_reducible rfl)
              (try simp only [Act.put, List.setIfInBounds_toArray, List.set_cons_zero, List.set_cons_succ])
              refine B_take (k := 12) false (v := ?_) (by rfl) (by kernel_rfl) (by exact fun _ _ _ h => h) (by rfl) ?_ (by first | exact .inr hHeld | exact .inl (by rfl)) ?_
              rotate_left 1
              · intro w hSw
                clear hSw
                go_simp
                (try with_reducible rfl)
              (try simp only [Act.put, List.setIfInBounds_toArray, List.set_cons_zero, List.set_cons_succ])
              refine B_take (k := 13) false (v := ?_) (by rfl) (by kernel_rfl) (by exact fun _ _ _ h => h) (by rfl) ?_ (by first | exact .inr hHeld | exact .inl (by rfl)) ?_
              rotate_left 1
              · intro w hSw
                clear hSw
                go_simp
                (try with_reducible rfl)
              (try simp only [Act.put, List.setIfInBounds_toArray, List.set_cons_zero, List.set_cons_succ])
              refine B_take (k := 14) true (v := ?_) (by rfl) (by kernel_rfl) (by exact fun _ _ _ h => h) (by rfl) ?_ (.inr hHeld) ?_
              rotate_left 1
              · intro w' hSw
                have kc := (HRA.out.grown hSw (fun g e => by cases e)).at_ AgV.row_len HA.out 0 _ rfl
                simp only [Nat.add_zero] at kc
                go_simp
                (try with_reducible rfl)
              (try simp only [Act.put, List.setIfInBounds_toArray, List.set_cons_zero, List.set_cons_succ])
              refine B_take (k := 15) false (v := ?_) (by rfl) (by kernel_rfl) (by exact fun _ _ _ h => h) (by rfl) ?_ (by first | exact .inr hHeld | exact .inl (by rfl)) ?_
              rotate_left 1
              · intro w hSw
                clear hSw
                go_simp
                (try with_reducible rfl)
              (try simp only [Act.put, List.setIfInBounds_toArray, List.set_cons_zero, List.set_cons_succ])
              refine B_take (k := 16) false (v := ?_) (by rfl) (by kernel_rfl) (by exact fun _ _ _ h => h) (by rfl) ?_ (by first | exact .inr hHeld | exact .inl (by rfl)) ?_
              rotate_left 1
              · intro w hSw
                clear hSw
                go_simp
                (try with_reducible rfl)
              (try simp only [Act.put, List.setIfInBounds_toArray, List.set_cons_zero, List.set_cons_succ])
              refine B_take (k := 17) false (v := ?_) (by rfl) (by kernel_rfl) (by exact fun _ _ _ h => h) (by rfl) ?_ (by first | exact .inr hHeld | exact .inl (by rfl)) ?_
              rotate_left 1
              · intro w hSw
                clear hSw
                go_simp
                (try with_reducible rfl)
              (try simp only [Act.put, List.setIfInBounds_toArray, List.set_cons_zero, List.set_cons_succ])
              refine B_take (k := 18) false (v := ?_) (by rfl) (by kernel_rfl) (by exact fun _ _ _ h => h) (by rfl) ?_ (by first | exact .inr hHeld | exact .inl (by rfl)) ?_
              rotate_left 1
              · intro w hSw
                clear hSw
                go_simp
                (try with_reducible rfl)
              (try simp only [Act.put, List.setIfInBounds_toArray, List.set_cons_zero, List.set_cons_succ])
              refine B_take (k := 19) true (v := ?_) (by rfl) (by kernel_rfl) (by exact fun _ _ _ h => h) (by rfl) ?_ (.inr hHeld) ?_
              rotate_left 1
              · intro w' hSw
                have kc := (HXB.out.grown hSw (by simp)).cell 6
                go_simp
                (try with_reducible rfl)
              (try simp only [Act.put, List.setIfInBounds_toArray, List.set_cons_zero, List.set_cons_succ])
              refine B_take (k := 20) false (v := ?_) (by rfl) (by kernel_rfl) (by exact fun _ _ _ h => h) (by rfl) ?_ (by first | exact .inr hHeld | exact .inl (by rfl)) ?_
              rotate_left 1
              · intro w hSw
                clear hSw
                go_simp
                (try with_reducible rfl)
              (try simp only [Act.put, List.setIfInBounds_toArray, List.set_cons_zero, List.set_cons_succ])
              refine B_take (k := 21) false (v := ?_) (by rfl) (by kernel_rfl) (by exact fun _ _ _ h => h) (by rfl) ?_ (by first | exact .inr hHeld | exact .inl (by rfl)) ?_
              rotate_left 1
              · intro w hSw
                clear hSw
                go_simp
                (try with_reducible rfl)
              (try simp only [Act.put, List.setIfInBounds_toArray, List.set_cons_zero, List.set_cons_succ])
              refine B_take (k := 22) false (v := ?_) (by rfl) (by kernel_rfl) (by exact fun _ _ _ h => h) (by rfl) ?_ (by first | exact .inr hHeld | exact .inl (by rfl)) ?_
              rotate_left 1
              · intro w hSw
                clear hSw
                go_simp
                (try with_reducible rfl)
              (try simp only [Act.put, List.setIfInBounds_toArray, List.set_cons_zero, List.set_cons_succ])
              have hre := (HRN.out.kept (gr_drew (gr_refl _ none))).2.2.1
              dsimp only at hre
              rw [HSA.out] at hre
              refine B_run (k := 23) (by rfl) (by kernel_rfl) (by rfl) (fun K hK => ?_)
              refine wp_store_rec (row := SeV.row) Tryz.seT SeV.row_len (by decide) _ _ rfl i _ rfl rfl (⟨c.id, a.key, HOW, t, t + c.talk⟩ : SeV) rfl hre hiC (SeV.one _) ?_
              intro w7 hown7 hg7
              refine hK _ _ (.inl (by rfl)) ?_
              clear hK K
              (try simp only [Act.put, List.setIfInBounds_toArray, List.set_cons_zero, List.set_cons_succ])
              refine B_done (by kernel_rfl) ?_
              have hlow : wb.heap.size ≤ sg := (hre.1.lt rfl).1
              replace HGN := Lib.hid (gr_trans HGN.out (gr_same (gr_drew (gr_refl wv (some sg))) hg7) (fun g e => .inr (by injection e with e; omega)))
              replace HRA := Lib.hid (HRM.out.put HGN.out (st' := { st' with se := st'.se.set i ⟨c.id, a.key, HOW, t, t + c.talk⟩ }) ((HRN.out.kept (gr_drew (gr_refl _ none))).putS (by dsimp only; rw [HSA.out]; exact hg7) (by dsimp only; rw [HSA.out]; exact hown7)) ⟨HRM.out.ok.d, by simpa using HRM.out.ok.s, HRM.out.ok.b, HRM.out.ok.n, HRM.out.ok.l, HRM.out.ok.dv, fun z hz => by
                rcases List.mem_or_eq_of_mem_set hz with h | rfl
                · exact HRM.out.ok.sv z h
                · exact ⟨(HRM.out.cn c (mem_of_get HC.out)).2.1, (HRM.out.an a (mem_of_get HA.out)).2, t0, (by show t ≤ 2000000000000; omega), (by show -1 ≤ t + c.talk; omega), (by show t + c.talk ≤ 2000000000000; omega)⟩⟩)
              obtain ⟨SE1, hSE1⟩ : ∃ SE, st'.se.set i ⟨c.id, a.key, HOW, t, t + c.talk⟩ = SE := ⟨_, rfl⟩
              have HSE1 := Lib.hid hSE1
              rw [hSE1] at HRA
              have HX7 := Lib.hid (HXB.out.grown (gr_same (gr_drew (gr_refl wv (some sg))) hg7) (fun e => by injection e with e; exact (hre.1.blk_ne HXB.out (by decide)) (by rw [e]; rfl)))
              clear hre hown7 hg7 hlow hHeld HRN HXB HGN hSE1
              go_simp
              go_wp2_with fail
              refine wp_region_B (fun w' => w7.grownBy w' none) 20 (by kernel_rfl) ?_
              have hHeld : w7.grownBy w7.drew none := gr_drew (gr_refl _ _)
              have HD7 := Lib.hid HD.out
              refine B_take (k := 0) false (v := ?_) (by rfl) (by kernel_rfl) (by exact fun _ _ _ h => h) (by rfl) ?_ (by first | exact .inr hHeld | exact .inl (by rfl)) ?_
              rotate_left 1
              · intro w hSw
                clear hSw
                go_simp
                (try with_reducible rfl)
              (try simp only [Act.put, List.setIfInBounds_toArray, List.set_cons_zero, List.set_cons_succ])
              refine B_take (k := 1) false (v := ?_) (by rfl) (by kernel_rfl) (by exact fun _ _ _ h => h) (by rfl) ?_ (by first | exact .inr hHeld | exact .inl (by rfl)) ?_
              rotate_left 1
              · intro w hSw
                clear hSw
                go_simp
                (try with_reducible rfl)
              (try simp only [Act.put, List.setIfInBounds_toArray, List.set_cons_zero, List.set_cons_succ])
              refine B_take (k := 2) false (v := ?_) (by rfl) (by kernel_rfl) (by exact fun _ _ _ h => h) (by rfl) ?_ (by first | exact .inr hHeld | exact .inl (by rfl)) ?_
              rotate_left 1
              · intro w hSw
                clear hSw
                go_simp
                (try with_reducible rfl)
              (try simp only [Act.put, List.setIfInBounds_toArray, List.set_cons_zero, List.set_cons_succ])
              refine B_take (k := 3) true (v := ?_) (by rfl) (by kernel_rfl) (by exact fun _ _ _ h => h) (by rfl) ?_ (.inr hHeld) ?_
              rotate_left 1
              · intro w' hSw
                have kc := (HRA.out.kept hSw).at_.blk.cell 5; dsimp only at kc; rw [HDA.out] at kc
                go_simp
                (try with_reducible rfl)
              (try simp only [Act.put, List.setIfInBounds_toArray, List.set_cons_zero, List.set_cons_succ])
              refine B_take (k := 4) false (v := ?_) (by rfl) (by kernel_rfl) (by exact fun _ _ _ h => h) (by rfl) ?_ (by first | exact .inr hHeld | exact .inl (by rfl)) ?_
              rotate_left 1
              · intro w hSw
                clear hSw
                go_simp
                (try with_reducible rfl)
              (try simp only [Act.put, List.setIfInBounds_toArray, List.set_cons_zero, List.set_cons_succ])
              refine B_take (k := 5) false (v := ?_) (by rfl) (by kernel_rfl) (by exact fun _ _ _ h => h) (by rfl) ?_ (by first | exact .inr hHeld | exact .inl (by rfl)) ?_
              rotate_left 1
              · intro w hSw
                clear hSw
                go_simp
                (try with_reducible rfl)
              (try simp only [Act.put, List.setIfInBounds_toArray, List.set_cons_zero, List.set_cons_succ])
              refine B_take (k := 6) false (v := ?_) (by rfl) (by kernel_rfl) (by exact fun _ _ _ h => h) (by rfl) ?_ (by first | exact .inr hHeld | exact .inl (by rfl)) ?_
              rotate_left 1
              · intro w hSw
                clear hSw
                go_simp
                (try with_reducible rfl)
              (try simp only [Act.put, List.setIfInBounds_toArray, List.set_cons_zero, List.set_cons_succ])
              refine B_take (k := 7) false (v := ?_) (by rfl) (by kernel_rfl) (by exact fun _ _ _ h => h) (by rfl) ?_ (by first | exact .inr hHeld | exact .inl (by rfl)) ?_
              rotate_left 1
              · intro w hSw
                clear hSw
                go_simp
                (try with_reducible rfl)
              (try simp only [Act.put, List.setIfInBounds_toArray, List.set_cons_zero, List.set_cons_succ])
              refine B_take (k := 8) true (v := ?_) (by rfl) (by kernel_rfl) (by exact fun _ _ _ h => h) (by rfl) ?_ (.inr hHeld) ?_
              rotate_left 1
              · intro w' hSw
                have kc := (HRA.out.kept hSw).at_.blk.cell 5; dsimp only at kc; rw [HDA.out] at kc
                go_simp
                (try with_reducible rfl)
              (try simp only [Act.put, List.setIfInBounds_toArray, List.set_cons_zero, List.set_cons_succ])
              refine B_take (k := 9) false (v := ?_) (by rfl) (by kernel_rfl) (by exact fun _ _ _ h => h) (by rfl) ?_ (by first | exact .inr hHeld | exact .inl (by rfl)) ?_
              rotate_left 1
              · intro w hSw
                clear hSw
                go_simp
                (try with_reducible rfl)
              (try simp only [Act.put, List.setIfInBounds_toArray, List.set_cons_zero, List.set_cons_succ])
              refine B_take (k := 10) false (v := ?_) (by rfl) (by kernel_rfl) (by exact fun _ _ _ h => h) (by rfl) ?_ (by first | exact .inr hHeld | exact .inl (by rfl)) ?_
              rotate_left 1
              · intro w hSw
                clear hSw
                go_simp
                (try with_reducible rfl)
              (try simp only [Act.put, List.setIfInBounds_toArray, List.set_cons_zero, List.set_cons_succ])
              refine B_take (k := 11) false (v := ?_) (by rfl) (by kernel_rfl) (by exact fun _ _ _ h => h) (by rfl) ?_ (by first | exact .inr hHeld | exact .inl (by rfl)) ?_
              rotate_left 1
              · intro w hSw
                clear hSw
                go_simp
                (try with_reducible rfl)
              (try simp only [Act.put, List.setIfInBounds_toArray, List.set_cons_zero, List.set_cons_succ])
              refine B_take (k := 12) true (v := ?_) (by rfl) (by kernel_rfl) (by exact fun _ _ _ h => h) (by rfl) ?_ (.inr hHeld) ?_
              rotate_left 1
              · intro w' hSw
                have kc0 := (HRA.out.kept hSw).at_.2.1.recs
                dsimp only at kc0
                rw [HDA.out] at kc0
                have kc := kc0.at_ dkRow_len HD7.out 0 _ rfl
                simp only [Nat.add_zero, Nat.zero_add] at kc
                go_simp
                (try with_reducible rfl)
              (try simp only [Act.put, List.setIfInBounds_toArray, List.set_cons_zero, List.set_cons_succ])
              refine B_take (k := 13) false (v := ?_) (by rfl) (by kernel_rfl) (by exact fun _ _ _ h => h) (by rfl) ?_ (by first | exact .inr hHeld | exact .inl (by rfl)) ?_
              rotate_left 1
              · intro w hSw
                clear hSw
                go_simp
                (try with_reducible rfl)
              (try simp only [Act.put, List.setIfInBounds_toArray, List.set_cons_zero, List.set_cons_succ])
              refine B_take (k := 14) false (v := ?_) (by rfl) (by kernel_rfl) (by exact fun _ _ _ h => h) (by rfl) ?_ (by first | exact .inr hHeld | exact .inl (by rfl)) ?_
              rotate_left 1
              · intro w hSw
                clear hSw
                go_simp
                (try with_reducible rfl)
              (try simp only [Act.put, List.setIfInBounds_toArray, List.set_cons_zero, List.set_cons_succ])
              refine B_take (k := 15) false (v := ?_) (by rfl) (by kernel_rfl) (by exact fun _ _ _ h => h) (by rfl) ?_ (by first | exact .inr hHeld | exact .inl (by rfl)) ?_
              rotate_left 1
              · intro w hSw
                clear hSw
                go_simp
                (try with_reducible rfl)
              (try simp only [Act.put, List.setIfInBounds_toArray, List.set_cons_zero, List.set_cons_succ])
              refine B_take (k := 16) true (v := ?_) (by rfl) (by kernel_rfl) (by exact fun _ _ _ h => h) (by rfl) ?_ (.inr hHeld) ?_
              rotate_left 1
              · intro w' hSw
                have kc := (HX7.out.grown hSw (by simp)).cell 6
                go_simp
                (try with_reducible rfl)
              (try simp only [Act.put, List.setIfInBounds_toArray, List.set_cons_zero, List.set_cons_succ])
              refine B_take (k := 17) false (v := ?_) (by rfl) (by kernel_rfl) (by exact fun _ _ _ h => h) (by rfl) ?_ (by first | exact .inr hHeld | exact .inl (by rfl)) ?_
              rotate_left 1
              · intro w hSw
                clear hSw
                go_simp
                (try with_reducible rfl)
              (try simp only [Act.put, List.setIfInBounds_toArray, List.set_cons_zero, List.set_cons_succ])
              refine B_take (k := 18) false (v := ?_) (by rfl) (by kernel_rfl) (by exact fun _ _ _ h => h) (by rfl) ?_ (by first | exact .inr hHeld | exact .inl (by rfl)) ?_
              rotate_left 1
              · intro w hSw
                clear hSw
                go_simp
                (try with_reducible rfl)
              (try simp only [Act.put, List.setIfInBounds_toArray, List.set_cons_zero, List.set_cons_succ])
              refine B_take (k := 19) false (v := ?_) (by rfl) (by kernel_rfl) (by exact fun _ _ _ h => h) (by rfl) ?_ (by first | exact .inr hHeld | exact .inl (by rfl)) ?_
              rotate_left 1
              · intro w hSw
                clear hSw
                go_simp
                (try with_reducible rfl)
              (try simp only [Act.put, List.setIfInBounds_toArray, List.set_cons_zero, List.set_cons_succ])
              have hre := ((HRA.out.kept (gr_drew (gr_refl _ none))).at_).2.1
              dsimp only at hre
              rw [HDA.out] at hre
              refine B_run (k := 20) (by rfl) (by kernel_rfl) (by rfl) (fun K hK => ?_)
              refine wp_store_rec (row := dkRow) Tryz.dkT dkRow_len (by decide) _ _ rfl kk _ rfl rfl (d.1 + 1, t + c.talk) rfl hre hkk (dkRow_one _) ?_
              intro w8 hown8 hg8
              refine hK _ _ (.inl (by rfl)) ?_
              clear hK K
              (try simp only [Act.put, List.setIfInBounds_toArray, List.set_cons_zero, List.set_cons_succ])
              refine B_done (by kernel_rfl) ?_
              have hlow : wb.heap.size ≤ dg := (hre.1.lt rfl).1
              have HGN := Lib.hid (gr_trans HRA.out.g (gr_same (gr_drew (gr_refl w7 (some dg))) hg8) (fun g e => .inr (by injection e with e; omega)))
              have HRN := Lib.hid (((HRA.out.kept (gr_drew (gr_refl _ none))).at_).putD (by dsimp only; rw [HDA.out]; exact hg8) (by dsimp only; rw [HDA.out]; exact hown8))
              have hagk := ((HRA.out.kept (gr_drew (gr_refl _ none))).agent HA.out)
              clear hre hown8 hg8 hlow hHeld HX7 HD7
              go_simp
              go_wp2_with fail
              have HRA8 := Lib.hid (show Recs AgV.row 6 w8 0 (some ⟨ag, ao, none⟩) A.length ac A from by
                have h1 := (HRM.out.ags.grown HGN.out (fun g e => by cases e)).1
                dsimp only at h1
                rw [HAA.out] at h1
                exact h1)
              refine wp_region_B (fun w' => w8.grownBy w' none) 15 (by kernel_rfl) ?_
              have hHeld : w8.grownBy w8.drew none := gr_drew (gr_refl _ _)
              refine B_take (k := 0) false (v := ?_) (by rfl) (by kernel_rfl) (by exact fun _ _ _ h => h) (by rfl) ?_ (by first | exact .inr hHeld | exact .inl (by rfl)) ?_
              rotate_left 1
              · intro w hSw
                clear hSw
                go_simp
                (try with_reducible rfl)
              (try simp only [Act.put, List.setIfInBounds_toArray, List.set_cons_zero, List.set_cons_succ])
              refine B_take (k := 1) false (v := ?_) (by rfl) (by kernel_rfl) (by exact fun _ _ _ h => h) (by rfl) ?_ (by first | exact .inr hHeld | exact .inl (by rfl)) ?_
              rotate_left 1
              · intro w hSw
                clear hSw
                go_simp
                (try with_reducible rfl)
              (try simp only [Act.put, List.setIfInBounds_toArray, List.set_cons_zero, List.set_cons_succ])
              refine B_take (k := 2) false (v := ?_) (by rfl) (by kernel_rfl) (by exact fun _ _ _ h => h) (by rfl) ?_ (by first | exact .inr hHeld | exact .inl (by rfl)) ?_
              rotate_left 1
              · intro w hSw
                clear hSw
                go_simp
                (try with_reducible rfl)
              (try simp only [Act.put, List.setIfInBounds_toArray, List.set_cons_zero, List.set_cons_succ])
              refine B_take (k := 3) true (v := ?_) (by rfl) (by kernel_rfl) (by exact fun _ _ _ h => h) (by rfl) ?_ (.inr hHeld) ?_
              rotate_left 1
              · intro w' hSw
                have kc := (HRN.out.kept hSw).blk.cell 8; dsimp only at kc; rw [HNA.out] at kc
                go_simp
                (try with_reducible rfl)
              (try simp only [Act.put, List.setIfInBounds_toArray, List.set_cons_zero, List.set_cons_succ])
              refine B_take (k := 4) false (v := ?_) (by rfl) (by kernel_rfl) (by exact fun _ _ _ h => h) (by rfl) ?_ (by first | exact .inr hHeld | exact .inl (by rfl)) ?_
              rotate_left 1
              · intro w hSw
                clear hSw
                go_simp
                (try with_reducible rfl)
              (try simp only [Act.put, List.setIfInBounds_toArray, List.set_cons_zero, List.set_cons_succ])
              refine B_take (k := 5) false (v := ?_) (by rfl) (by kernel_rfl) (by exact fun _ _ _ h => h) (by rfl) ?_ (by first | exact .inr hHeld | exact .inl (by rfl)) ?_
              rotate_left 1
              · intro w hSw
                clear hSw
                go_simp
                (try with_reducible rfl)
              (try simp only [Act.put, List.setIfInBounds_toArray, List.set_cons_zero, List.set_cons_succ])
              refine B_take (k := 6) false (v := ?_) (by rfl) (by kernel_rfl) (by exact fun _ _ _ h => h) (by rfl) ?_ (by first | exact .inr hHeld | exact .inl (by rfl)) ?_
              rotate_left 1
              · intro w hSw
                clear hSw
                go_simp
                (try with_reducible rfl)
              (try simp only [Act.put, List.setIfInBounds_toArray, List.set_cons_zero, List.set_cons_succ])
              refine B_take (k := 7) false (v := ?_) (by rfl) (by kernel_rfl) (by exact fun _ _ _ h => h) (by rfl) ?_ (by first | exact .inr hHeld | exact .inl (by rfl)) ?_
              rotate_left 1
              · intro w hSw
                clear hSw
                go_simp
                (try with_reducible rfl)
              (try simp only [Act.put, List.setIfInBounds_toArray, List.set_cons_zero, List.set_cons_succ])
              refine B_take (k := 8) false (v := ?_) (by rfl) (by kernel_rfl) (by exact fun _ _ _ h => h) (by rfl) ?_ (by first | exact .inr hHeld | exact .inl (by rfl)) ?_
              rotate_left 1
              · intro w hSw
                clear hSw
                go_simp
                (try with_reducible rfl)
              (try simp only [Act.put, List.setIfInBounds_toArray, List.set_cons_zero, List.set_cons_succ])
              refine B_take (k := 9) true (v := ?_) (by rfl) (by kernel_rfl) (by exact fun _ _ _ h => h) (by rfl) ?_ (.inr hHeld) ?_
              rotate_left 1
              · intro w' hSw
                have kc := (HRN.out.kept hSw).blk.cell 3; dsimp only at kc; rw [HAA.out] at kc
                go_simp
                (try with_reducible rfl)
              (try simp only [Act.put, List.setIfInBounds_toArray, List.set_cons_zero, List.set_cons_succ])
              refine B_take (k := 10) false (v := ?_) (by rfl) (by kernel_rfl) (by exact fun _ _ _ h => h) (by rfl) ?_ (by first | exact .inr hHeld | exact .inl (by rfl)) ?_
              rotate_left 1
              · intro w hSw
                clear hSw
                go_simp
                (try with_reducible rfl)
              (try simp only [Act.put, List.setIfInBounds_toArray, List.set_cons_zero, List.set_cons_succ])
              refine B_take (k := 11) false (v := ?_) (by rfl) (by kernel_rfl) (by exact fun _ _ _ h => h) (by rfl) ?_ (by first | exact .inr hHeld | exact .inl (by rfl)) ?_
              rotate_left 1
              · intro w hSw
                clear hSw
                go_simp
                (try with_reducible rfl)
              (try simp only [Act.put, List.setIfInBounds_toArray, List.set_cons_zero, List.set_cons_succ])
              refine B_take (k := 12) false (v := ?_) (by rfl) (by kernel_rfl) (by exact fun _ _ _ h => h) (by rfl) ?_ (by first | exact .inr hHeld | exact .inl (by rfl)) ?_
              rotate_left 1
              · intro w hSw
                clear hSw
                go_simp
                (try with_reducible rfl)
              (try simp only [Act.put, List.setIfInBounds_toArray, List.set_cons_zero, List.set_cons_succ])
              refine B_take (k := 13) true (v := ?_) (by rfl) (by kernel_rfl) (by exact fun _ _ _ h => h) (by rfl) ?_ (.inr hHeld) ?_
              rotate_left 1
              · intro w' hSw
                have kc := (HRA8.out.grown hSw (fun g e => by cases e)).at_ AgV.row_len HA.out 0 _ rfl
                simp only [Nat.add_zero] at kc
                go_simp
                (try with_reducible rfl)
              (try simp only [Act.put, List.setIfInBounds_toArray, List.set_cons_zero, List.set_cons_succ])
              refine B_take (k := 14) false (v := ?_) (by rfl) (by kernel_rfl) (by exact fun _ _ _ h => h) (by rfl) ?_ (by first | exact .inr hHeld | exact .inl (by rfl)) ?_
              rotate_left 1
              · intro w hSw
                clear hSw
                go_simp
                (try with_reducible rfl)
              (try simp only [Act.put, List.setIfInBounds_toArray, List.set_cons_zero, List.set_cons_succ])
              obtain ⟨⟨o1, hc1⟩, hf1, hr1, hl1⟩ := (HRN.out.kept (gr_drew (gr_refl _ none))).storeN HNA.out hiC true
              refine B_run (k := 15) (by rfl) (by kernel_rfl) (by rfl) (fun K hK => ?_)
              refine wp_store_cell (by kernel_rfl) _ _ rfl ng i rfl (.bool true) rfl rfl rfl _ hc1 hf1 ?_
              refine hK _ _ (.inl (by rfl)) ?_
              clear hK K hc1 hf1 hHeld
              (try simp only [Act.put, List.setIfInBounds_toArray, List.set_cons_zero, List.set_cons_succ])
              refine B_take (k := 16) false (v := ?_) (by rfl) (by kernel_rfl) (by exact fun _ _ _ h => h) (by rfl) ?_ (by first | exact .inr hHeld | exact .inl (by rfl)) ?_
              rotate_left 1
              · intro w hSw
                clear hSw
                go_simp
                (try with_reducible rfl)
              (try simp only [Act.put, List.setIfInBounds_toArray, List.set_cons_zero, List.set_cons_succ])
              refine B_take (k := 17) false (v := ?_) (by rfl) (by kernel_rfl) (by exact fun _ _ _ h => h) (by rfl) ?_ (by first | exact .inr hHeld | exact .inl (by rfl)) ?_
              rotate_left 1
              · intro w hSw
                clear hSw
                go_simp
                (try with_reducible rfl)
              (try simp only [Act.put, List.setIfInBounds_toArray, List.set_cons_zero, List.set_cons_succ])
              obtain ⟨⟨o2, hc2⟩, hf2, hr2, hl2⟩ := hr1.storeL a.key
              dsimp only at hc2 hf2 hr2 hl2
              refine B_run (k := 18) (by rfl) (by kernel_rfl) (by rfl) (fun K hK => ?_)
              refine wp_store_cell (by kernel_rfl) _ _ rfl rg 9 rfl (.string a.key) rfl rfl rfl _ hc2 hf2 ?_
              refine hK _ _ (.inl (by rfl)) ?_
              clear hK K hc2 hf2
              (try simp only [Act.put, List.setIfInBounds_toArray, List.set_cons_zero, List.set_cons_succ])
              refine B_take (k := 19) false (v := ?_) (by rfl) (by kernel_rfl) (by exact fun _ _ _ h => h) (by rfl) ?_ (by first | exact .inr hHeld | exact .inl (by rfl)) ?_
              rotate_left 1
              · intro w hSw
                clear hSw
                go_simp
                (try with_reducible rfl)
              (try simp only [Act.put, List.setIfInBounds_toArray, List.set_cons_zero, List.set_cons_succ])
              refine B_done (by kernel_rfl) ?_
              obtain ⟨hok9, hcnt9, _⟩ := giveR_ok HRM.out.ok HRM.out.cn HRM.out.an t0 HY.out
              have HRM9 := Lib.hid (HRM.out.put (gr_setCell (gr_setCell (gr_drew HGN.out) (.inr hl1) _) (.inr hl2) _) (st' := givenR A C st' t i kk) (by rw [HST.out]; rw [← HSE1.out] at hr2; exact hr2) hok9)
              obtain ⟨f', rfl⟩ : ∃ f', f = f' + 1 := by
                refine ⟨f - 1, ?_⟩
                have h1 : ¬ C.length ≤ st'.dn.count true := fun hle => by
                  have := done_none (s := s) (t := t) HRM.out.ok hle
                  rw [HY.out] at this
                  cases this
                have := HCN.out
                omega
              have HN := Lib.hid (show givesR s A C t f' (givenR A C st' t i kk) = T by rw [← HGV.out, givesR_some HY.out])
              clear hr1 hr2 hok9 HRN HGN
              go_simp
              go_wp2_with fail
              go_roundg (f' + 1)
              case measure => have := HGK.out; omega
              case rel => exact ⟨_, HRM9.out, .inl ⟨rfl, f', rfl, by have := HCN.out; omega, HN.out⟩⟩
        · obtain rfl : k = m := by omega
          have hnone : giveR s A C st' t = none := by
            rw [HGL.out, List.drop_of_length_le (by rw [HOi.out.len]; exact Nat.le_refl _)]; rfl
          have HN := Lib.hid (show st' = T by rw [← HGV.out, givesR_none hnone])
          clear hnone
          go_wp2_with fail
          go_roundg 0
          case measure => have := HGK.out; omega
          case rel => exact ⟨st', HRM.out, .inr ⟨rfl, HN.out⟩⟩
    · subst hst
      have HTT := Lib.hid HT0.out
      go_wp2_with fail
      refine (leave_any wb ⟨rg, aA, ac, cA, cc, dA, dc, sA, sc, bA, bc, nA, nc⟩ s A C st' t true _ HRM.out t0 t1).mono ?_
      rintro e w9 ⟨rfl, hrm9⟩
      have HRM9 := Lib.hid hrm9
      clear hrm9
      go_wp2_with fail
      go_end0
      exact ⟨rfl, by unfold stepR; rw [HTT.out]; exact HRM9.out⟩
end Go.Proofs.YtnmodobkennklaaGreatDoor

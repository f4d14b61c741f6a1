/- Contract of give of the program's player. Conditions: a player that is played. -/
import Derived.Test.YtpildcnoghojpaaGreatDoorPl3
namespace Go.Proofs.YtpildcnoghojpaaGreatDoor
open Go.RowKit

theorem givePL_cons {s : StyV} {A : List AgV} {C : List CaV} {p : PlS} {t : Int} {i : Nat} {l : List Nat} {c : CaV} (hc : C[i]? = some c) : givePL s A C p t (i :: l) = if chosenP s A p c t < 0 then givePL s A C p t l else some (givenP A C p t i (chosenP s A p c t).toNat) := by
  show (C[i]?).elim _ _ = _; rw [hc]; rfl
def Given (wb w : World) (R : PlC) (s : StyV) (A : List AgV) (C : List CaV) (p : PlS) (t : Int) (e : Ending) (w' : World) : Prop :=
  (giveP s A C p t = none ∧ e = .returned (.bool false) ∧ w.grownBy w' none) ∨ ∃ p', giveP s A C p t = some p' ∧ e = .returned (.bool true) ∧ PlAt w' wb.heap.size R s A C p' ∧ wb.grownBy w' none
set_option maxHeartbeats 16000000 in
set_option maxRecDepth 100000 in
theorem pgive_any (wb : World) (R : PlC) (s : StyV) (A : List AgV) (C : List CaV) (p : PlS) (t : Int) (w : World) (h : Pm wb w R s A C p) (t0 : 0 ≤ t) (t1 : t ≤ 400000000000) :
    Calls Tryz.prog 65 #[.pointer (some ⟨R.pb, 0, none⟩), .int .i64 t] w (Given wb w R s A C p t) := by
  have H := Lib.hid h
  have hn := h.n
  have hwl2 := h.at_.wl2
  clear h
  go_enter Tryz.func65, Tryz.ntmps65
  go_wp2_with fail
  refine (pline_any wb R s A C p t _ H.out (by omega) t1).mono ?_
  rintro e w3 ⟨B, m, cB, rfl, ho3, hg3⟩
  obtain ⟨L, hL⟩ : ∃ L, lineP s C p.wt t = L := ⟨_, rfl⟩
  rw [hL] at ho3
  have HL := Lib.hid hL
  have HO := Lib.hid ho3.recs
  have HG := Lib.hid hg3
  have hml := ho3.recs.len
  have hmc : m ≤ 19 := by
    rw [← hml, ← hL]
    unfold lineP
    rw [srt_len]
    have := rawP_len p.wt p.wt.length
    omega
  have HLM := Lib.hid (show ∀ i ∈ L, i < C.length ∧ inL (wtAt p.wt i) = true by
    intro i hi
    rw [← hL] at hi
    obtain ⟨h1, x, hx, h2⟩ := rawP_mem (srt_mem hi)
    rw [wtAt_some hx]
    exact ⟨by omega, h2⟩)
  have HGL := Lib.hid (show giveP s A C p t = givePL s A C p t L by unfold giveP; rw [hL])
  clear ho3 hg3 hL
  go_wp2_with fail
  go_loopw [6, 7, 8, 13] (fun _ _ _ t13 wr => ∃ k : Nat, t13 = .int .i64 k ∧ k ≤ m ∧ givePL s A C p t (L.drop k) = givePL s A C p t L ∧ w3.grownBy wr none) (fun _ _ _ t13 _ => m - (intOf t13).toNat)
  case atStart => exact ⟨0, rfl, Nat.zero_le _, rfl, gr_refl _ _⟩
  case round =>
    obtain ⟨k, rfl, hk, hgv, hg⟩ := hrel
    have HGR := Lib.hid hg; have HGV := Lib.hid hgv
    clear hg hgv
    by_cases hlt : k < m
    · obtain ⟨lg, lof, i, hLB, _, _, hi, hic⟩ := (HO.out.grown HGR.out (fun g e => by cases e)).get (wRow_len R) hlt
      have hlt2 : (k : Int) < (m : Int) := by omega
      obtain ⟨hiC, hil⟩ := HLM.out i (mem_of_get hi)
      obtain ⟨c, hc⟩ : ∃ c, C[i]? = some c := ⟨_, List.getElem?_eq_getElem hiC⟩
      have HH := Lib.hid (H.out.kept (gr_none HG.out HGR.out))
      obtain ⟨_, _, b, _, hbi, _, hx, hwb⟩ := HH.out.at_.waiter hc
      have kc := hic 0 _ rfl
      rw [getD_some hbi] at kc
      simp only [Nat.mul_one, Nat.add_zero] at kc
      have HC := Lib.hid hc; have HBI := Lib.hid hbi; have HX := Lib.hid hx
      have HDP := Lib.hid (show givePL s A C p t (L.drop k) = if chosenP s A p c t < 0 then givePL s A C p t (L.drop (k + 1)) else some (givenP A C p t i (chosenP s A p c t).toNat) by
        obtain ⟨hlk, rfl⟩ := List.getElem?_eq_some_iff.1 hi
        rw [List.drop_eq_getElem_cons hlk]
        exact givePL_cons hc)
      have HIL := Lib.hid hil
      obtain ⟨n1, n2, n3, n4, n5, n6, n7, n8⟩ := (H.out.cn c (mem_of_get hc)).1
      rw [hLB]
      clear hi hic hc hbi hx hwb hil
      go_wp2_with fail
      refine (pagent_any wb R s A C p i c b t _ HH.out HC.out HBI.out).mono ?_
      rintro e w4 ⟨rfl, hg4⟩
      replace HH := Lib.hid (HH.out.kept hg4)
      replace HGR := Lib.hid (gr_none HGR.out hg4)
      clear hg4 kc
      have hch : chosenP s A p c t = -1 ∨ ∃ (j : Nat) (a : AgV), j < A.length ∧ chosenP s A p c t = (j : Int) ∧ A[j]? = some a := deskP_ok A.length (Nat.le_refl _)
      rcases hch with hch | ⟨j, a, hj, hch, ha⟩
      · have HN := Lib.hid (show givePL s A C p t (L.drop (k + 1)) = givePL s A C p t L by
          rw [← HGV.out, HDP.out, hch]; rfl)
        rw [hch, bestV_neg R (show (-1 : Int) < 0 by omega)]
        clear hch
        go_wp2_with fail
        go_roundw
        case rel => exact ⟨k + 1, by go_num, by omega, HN.out, HGR.out⟩
        case measure => simp [intOf]; omega
      · obtain ⟨_, _, d, _, hdi, _, hdx, hdb⟩ := HH.out.at_.desk ha
        obtain ⟨_, _, b', _, hb', _, hx, hwb⟩ := HH.out.at_.waiter HC.out
        obtain rfl : b = b' := by have := HBI.out; rw [hb'] at this; injection this with this; exact this.symm
        obtain ⟨q1, q2, q3, q4, q5, q6⟩ := H.out.bd _ (mem_of_get hdx)
        have HA := Lib.hid ha; have HDI := Lib.hid hdi; have HDX := Lib.hid hdx
        obtain ⟨HOW, hHW⟩ : ∃ z : Int, (if (wtAt p.wt i).how = 2 then (3 : Int) else 1) = z := ⟨_, rfl⟩
        have HHW := Lib.hid hHW
        have HFIN := Lib.hid (show giveP s A C p t = some ⟨p.dk.set j (⟨t + c.talk, (dkAt p.dk j).en, (dkAt p.dk j).n + 1⟩ : DkV), p.wt.set i (⟨3, ⟨c.id, a.key, HOW, t, t + c.talk⟩⟩ : WtV), a.key⟩ by
          rw [HGL.out, ← HGV.out, HDP.out, hch, if_neg (show ¬ ((j : Int) < 0) by omega), Int.toNat_natCast, ← hHW]
          unfold givenP
          rw [HC.out, ha]; rfl)
        rw [hch, bestV_at R hdi]
        have W0 := Lib.hid (show Blk w4 b 119 #[.string c.id, .string c.skill, .int .i64 c.at_, .int .i64 c.least, .int .i64 c.prio, .int .i64 c.pat, .int .i64 c.talk, .bool c.back, .int .i64 (wtAt p.wt i).how, .string (wtAt p.wt i).seat.ca, .string (wtAt p.wt i).seat.ag, .int .i64 (wtAt p.wt i).seat.how, .int .i64 (wtAt p.wt i).seat.beg, .int .i64 (wtAt p.wt i).seat.fin] from hwb)
        have E0 := Lib.hid (show Blk w4 d 116 #[.string a.key, .slice a.sA a.sn a.sc, .int .i64 a.fr, .int .i64 a.til, .slice a.pA a.pn a.pc, .int .i64 a.wrap, .int .i64 (dkAt p.dk j).tk, .int .i64 (dkAt p.dk j).en, .int .i64 (dkAt p.dk j).n] from hdb)
        have P0 := Lib.hid HH.out.pp
        have nbd : d ≠ b := nd_dw HH.out.at_.nd hdi hb'
        have npb : R.pb ≠ b := nd_pw HH.out.at_.nd hb'
        have npd : R.pb ≠ d := nd_pd HH.out.at_.nd hdi
        have k8 := W0.out.cell 8
        clear hch ha hdi hdx hdb hb' hx hwb HDP
        go_upto_if 27 with (fail)
        obtain ⟨wv, rfl⟩ : ∃ wv : World, wv = w4 := ⟨_, rfl⟩
        go_cut [8] (fun v wx => v = .int .i64 HOW ∧ wx = wv)
        case first =>
          by_cases hw2 : (wtAt p.wt i).how = 2
          · have dw : ((wtAt p.wt i).how == 2) = true := by simpa using hw2
            rw [if_pos hw2] at hHW
            clear hw2
            go_wp2_with fail
            go_meet
            exact ⟨by rw [hHW], rfl⟩
          · have dw : ((wtAt p.wt i).how == 2) = false := by simpa using hw2
            rw [if_neg hw2] at hHW
            clear hw2
            go_wp2_with fail
            go_meet
            exact ⟨by rw [hHW], rfl⟩
        case rest =>
          obtain ⟨rfl, rfl⟩ := hcut
          obtain ⟨w5, rfl⟩ : ∃ w5 : World, w5 = wc := ⟨_, rfl⟩
          clear hHW
          obtain ⟨w6, hw6⟩ : ∃ w6, w5.setCell ⟨b, 8, none⟩ (.int .i64 3) = w6 := ⟨_, rfl⟩
          have W6 := Lib.hid (show Blk w6 b 119 #[.string c.id, .string c.skill, .int .i64 c.at_, .int .i64 c.least, .int .i64 c.prio, .int .i64 c.pat, .int .i64 c.talk, .bool c.back, .int .i64 (⟨3, (wtAt p.wt i).seat⟩ : WtV).how, .string (⟨3, (wtAt p.wt i).seat⟩ : WtV).seat.ca, .string (⟨3, (wtAt p.wt i).seat⟩ : WtV).seat.ag, .int .i64 (⟨3, (wtAt p.wt i).seat⟩ : WtV).seat.how, .int .i64 (⟨3, (wtAt p.wt i).seat⟩ : WtV).seat.beg, .int .i64 (⟨3, (wtAt p.wt i).seat⟩ : WtV).seat.fin] by rw [← hw6]; exact W0.out.set_ 8 _)
          have G6 := Lib.hid (show w5.grownBy w6 (some b) by rw [← hw6]; exact gr_setCell (gr_refl _ _) (.inl rfl) _)
          have E6 := Lib.hid (E0.out.grown G6.out (fun e => nbd (by injection e)))
          have P6 := Lib.hid (P0.out.grown G6.out (fun e => npb (by injection e)))
          have kf := W0.out.frozen 8
          have HW6 := Lib.hid hw6
          clear hw6 W0 E0 P0
          go_upto_region 10 with (fail)
          rw [HW6.out]
          clear HW6 k8 kf
          refine wp_region_B (fun w' => w6.grownBy w' none) 23 (by kernel_rfl) ?_
          have hHeld : w6.grownBy w6.drew none := gr_drew (gr_refl _ _)
          refine B_take (k := 0) false (v := ?_) (by rfl) (by kernel_rfl) (by exact fun _ _ _ h => h) (by rfl) ?_ (by first | exact .inr hHeld | exact .inl (by rfl)) ?_
          rotate_left 1
          · intro w hSw
            clear hSw
            go_simp
            (try with_reducible rfl)
          (try simp only [Act.put, List.setIfInBounds_toArray, List.set_cons_zero, List.set_cons_succ])
          refine B_take (k := 1) false (v := ?_) (by rfl) (by kernel_rfl) (by exact fun _ _ _ h => h) (by rfl) ?_ (by first | exact .inr hHeld | exact .inl (by rfl)) ?_
          rotate_left 1
          · intro w hSw
            clear hSw
            go_simp
            (try with_reducible rfl)
          (try simp only [Act.put, List.setIfInBounds_toArray, List.set_cons_zero, List.set_cons_succ])
          refine B_take (k := 2) false (v := ?_) (by rfl) (by kernel_rfl) (by exact fun _ _ _ h => h) (by rfl) ?_ (by first | exact .inr hHeld | exact .inl (by rfl)) ?_
          rotate_left 1
          · intro w hSw
            clear hSw
            go_simp
            (try with_reducible rfl)
          (try simp only [Act.put, List.setIfInBounds_toArray, List.set_cons_zero, List.set_cons_succ])
          refine B_take (k := 3) false (v := ?_) (by rfl) (by kernel_rfl) (by exact fun _ _ _ h => h) (by rfl) ?_ (by first | exact .inr hHeld | exact .inl (by rfl)) ?_
          rotate_left 1
          · intro w hSw
            clear hSw
            go_simp
            (try with_reducible rfl)
          (try simp only [Act.put, List.setIfInBounds_toArray, List.set_cons_zero, List.set_cons_succ])
          refine B_take (k := 4) false (v := ?_) (by rfl) (by kernel_rfl) (by exact fun _ _ _ h => h) (by rfl) ?_ (by first | exact .inr hHeld | exact .inl (by rfl)) ?_
          rotate_left 1
          · intro w hSw
            clear hSw
            go_simp
            (try with_reducible rfl)
          (try simp only [Act.put, List.setIfInBounds_toArray, List.set_cons_zero, List.set_cons_succ])
          refine B_take (k := 5) true (v := ?_) (by rfl) (by kernel_rfl) (by exact fun _ _ _ h => h) (by rfl) ?_ (.inr hHeld) ?_
          rotate_left 1
          · intro w' hSw
            have kc := (W6.out.grown hSw (by simp)).cell 0
            go_simp
            (try with_reducible rfl)
          (try simp only [Act.put, List.setIfInBounds_toArray, List.set_cons_zero, List.set_cons_succ])
          refine B_take (k := 6) false (v := ?_) (by rfl) (by kernel_rfl) (by exact fun _ _ _ h => h) (by rfl) ?_ (by first | exact .inr hHeld | exact .inl (by rfl)) ?_
          rotate_left 1
          · intro w hSw
            clear hSw
            go_simp
            (try with_reducible rfl)
          (try simp only [Act.put, List.setIfInBounds_toArray, List.set_cons_zero, List.set_cons_succ])
          refine B_take (k := 7) false (v := ?_) (by rfl) (by kernel_rfl) (by exact fun _ _ _ h => h) (by rfl) ?_ (by first | exact .inr hHeld | exact .inl (by rfl)) ?_
          rotate_left 1
          · intro w hSw
            clear hSw
            go_simp
            (try with_reducible rfl)
          (try simp only [Act.put, List.setIfInBounds_toArray, List.set_cons_zero, List.set_cons_succ])
          refine B_take (k := 8) false (v := ?_) (by rfl) (by kernel_rfl) (by exact fun _ _ _ h => h) (by rfl) ?_ (by first | exact .inr hHeld | exact .inl (by rfl)) ?_
          rotate_left 1
          · intro w hSw
            clear hSw
            go_simp
            (try with_reducible rfl)
          (try simp only [Act.put, List.setIfInBounds_toArray, List.set_cons_zero, List.set_cons_succ])
          refine B_take (k := 9) false (v := ?_) (by rfl) (by kernel_rfl) (by exact fun _ _ _ h => h) (by rfl) ?_ (by first | exact .inr hHeld | exact .inl (by rfl)) ?_
          rotate_left 1
          · intro w hSw
            clear hSw
            go_simp
            (try with_reducible rfl)
          (try simp only [Act.put, List.setIfInBounds_toArray, List.set_cons_zero, List.set_cons_succ])
          refine B_take (k := 10) true (v := ?_) (by rfl) (by kernel_rfl) (by exact fun _ _ _ h => h) (by rfl) ?_ (.inr hHeld) ?_
          rotate_left 1
          · intro w' hSw
            have kc := (E6.out.grown hSw (by simp)).cell 0
            go_simp
            (try with_reducible rfl)
          (try simp only [Act.put, List.setIfInBounds_toArray, List.set_cons_zero, List.set_cons_succ])
          refine B_take (k := 11) false (v := ?_) (by rfl) (by kernel_rfl) (by exact fun _ _ _ h => h) (by rfl) ?_ (by first | exact .inr hHeld | exact .inl (by rfl)) ?_
          rotate_left 1
          · intro w hSw
            clear hSw
            go_simp
            (try with_reducible rfl)
          (try simp only [Act.put, List.setIfInBounds_toArray, List.set_cons_zero, List.set_cons_succ])
          refine B_take (k := 12) false (v := ?_) (by rfl) (by kernel_rfl) (by exact fun _ _ _ h => h) (by rfl) ?_ (by first | exact .inr hHeld | exact .inl (by rfl)) ?_
          rotate_left 1
          · intro w hSw
            clear hSw
            go_simp
            (try with_reducible rfl)
          (try simp only [Act.put, List.setIfInBounds_toArray, List.set_cons_zero, List.set_cons_succ])
          refine B_take (k := 13) false (v := ?_) (by rfl) (by kernel_rfl) (by exact fun _ _ _ h => h) (by rfl) ?_ (by first | exact .inr hHeld | exact .inl (by rfl)) ?_
          rotate_left 1
          · intro w hSw
            clear hSw
            go_simp
            (try with_reducible rfl)
          (try simp only [Act.put, List.setIfInBounds_toArray, List.set_cons_zero, List.set_cons_succ])
          refine B_take (k := 14) false (v := ?_) (by rfl) (by kernel_rfl) (by exact fun _ _ _ h => h) (by rfl) ?_ (by first | exact .inr hHeld | exact .inl (by rfl)) ?_
          rotate_left 1
          · intro w hSw
            clear hSw
            go_simp
            (try with_reducible rfl)
          (try simp only [Act.put, List.setIfInBounds_toArray, List.set_cons_zero, List.set_cons_succ])
          refine B_take (k := 15) false (v := ?_) (by rfl) (by kernel_rfl) (by exact fun _ _ _ h => h) (by rfl) ?_ (by first | exact .inr hHeld | exact .inl (by rfl)) ?_
          rotate_left 1
          · intro w hSw
            clear hSw
            go_simp
            (try with_reducible rfl)
          (try simp only [Act.put, List.setIfInBounds_toArray, List.set_cons_zero, List.set_cons_succ])
          refine B_take (k := 16) false (v := ?_) (by rfl) (by kernel_rfl) (by exact fun _ _ _ h => h) (by rfl) ?_ (by first | exact .inr hHeld | exact .inl (by rfl)) ?_
          rotate_left 1
          · intro w hSw
            clear hSw
            go_simp
            (try with_reducible rfl)
          (try simp only [Act.put, List.setIfInBounds_toArray, List.set_cons_zero, List.set_cons_succ])
          refine B_take (k := 17) false (v := ?_) (by rfl) (by kernel_rfl) (by exact fun _ _ _ h => h) (by rfl) ?_ (by first | exact .inr hHeld | exact .inl (by rfl)) ?_
          rotate_left 1
          · intro w hSw
            clear hSw
            go_simp
            (try with_reducible rfl)
          (try simp only [Act.put, List.setIfInBounds_toArray, List.set_cons_zero, List.set_cons_succ])
          refine B_take (k := 18) true (v := ?_) (by rfl) (by kernel_rfl) (by exact fun _ _ _ h => h) (by rfl) ?_ (.inr hHeld) ?_
          rotate_left 1
          · intro w' hSw
            have kc := (W6.out.grown hSw (by simp)).cell 6
            go_simp
            (try with_reducible rfl)
          (try simp only [Act.put, List.setIfInBounds_toArray, List.set_cons_zero, List.set_cons_succ])
          have qt : IntKind.i64.wrap (t + c.talk) = t + c.talk := IntWalk.i64_in _ (by omega)
          refine B_take (k := 19) false (v := ?_) (by rfl) (by kernel_rfl) (by exact fun _ _ _ h => h) (by rfl) ?_ (by first | exact .inr hHeld | exact .inl (by rfl)) ?_
          rotate_left 1
          · intro w hSw
            clear hSw
            go_simp
            (try with_reducible rfl)
          (try simp only [Act.put, List.setIfInBounds_toArray, List.set_cons_zero, List.set_cons_succ])
          refine B_take (k := 20) false (v := ?_) (by rfl) (by kernel_rfl) (by exact fun _ _ _ h => h) (by rfl) ?_ (by first | exact .inr hHeld | exact .inl (by rfl)) ?_
          rotate_left 1
          · intro w hSw
            clear hSw
            go_simp
            (try with_reducible rfl)
          (try simp only [Act.put, List.setIfInBounds_toArray, List.set_cons_zero, List.set_cons_succ])
          refine B_take (k := 21) false (v := ?_) (by rfl) (by kernel_rfl) (by exact fun _ _ _ h => h) (by rfl) ?_ (by first | exact .inr hHeld | exact .inl (by rfl)) ?_
          rotate_left 1
          · intro w hSw
            clear hSw
            go_simp
            (try with_reducible rfl)
          (try simp only [Act.put, List.setIfInBounds_toArray, List.set_cons_zero, List.set_cons_succ])
          refine B_take (k := 22) false (v := ?_) (by rfl) (by kernel_rfl) (by exact fun _ _ _ h => h) (by rfl) ?_ (by first | exact .inr hHeld | exact .inl (by rfl)) ?_
          rotate_left 1
          · intro w hSw
            clear hSw
            go_simp
            (try with_reducible rfl)
          (try simp only [Act.put, List.setIfInBounds_toArray, List.set_cons_zero, List.set_cons_succ])
          refine B_run (k := 23) (by rfl) (by kernel_rfl) (by rfl) (fun K hK => ?_)
          refine wp_store_tail Tryz.seT _ _ (by rfl) b 9 (by rfl) 119 _ #[.string c.id, .string a.key, .int .i64 HOW, .int .i64 t, .int .i64 (t + c.talk)] #[.string c.id, .string c.skill, .int .i64 c.at_, .int .i64 c.least, .int .i64 c.prio, .int .i64 c.pat, .int .i64 c.talk, .bool c.back, .int .i64 (⟨3, ⟨c.id, a.key, HOW, t, t + c.talk⟩⟩ : WtV).how, .string (⟨3, ⟨c.id, a.key, HOW, t, t + c.talk⟩⟩ : WtV).seat.ca, .string (⟨3, ⟨c.id, a.key, HOW, t, t + c.talk⟩⟩ : WtV).seat.ag, .int .i64 (⟨3, ⟨c.id, a.key, HOW, t, t + c.talk⟩⟩ : WtV).seat.how, .int .i64 (⟨3, ⟨c.id, a.key, HOW, t, t + c.talk⟩⟩ : WtV).seat.beg, .int .i64 (⟨3, ⟨c.id, a.key, HOW, t, t + c.talk⟩⟩ : WtV).seat.fin] (by rfl) W6.out.drew (by rfl) (by rfl) (by simp [Value.oneCell']) (by rfl) ?_
          intro w7 hst
          have W7 := Lib.hid hst.1
          have G7 := Lib.hid (show w6.grownBy w7 (some b) from gr_same (gr_drew (gr_refl w6 _)) hst.2.1)
          refine hK _ _ (.inl (by rfl)) ?_
          clear hK K hHeld hst
          (try simp only [Act.put, List.setIfInBounds_toArray, List.set_cons_zero, List.set_cons_succ])
          refine B_done (by kernel_rfl) ?_
          have E7 := Lib.hid (E6.out.grown G7.out (fun e => nbd (by injection e)))
          have P7 := Lib.hid (P6.out.grown G7.out (fun e => npb (by injection e)))
          have PA7 := Lib.hid (HH.out.at_.setW HBI.out HC.out (gr_same G6.out G7.out) (show WtBlk w7 b c (⟨3, ⟨c.id, a.key, HOW, t, t + c.talk⟩⟩ : WtV) from W7.out))
          have GW7 := Lib.hid (show w3.grownBy w7 none ∨ True from .inr trivial)
          obtain ⟨w8, hw8⟩ : ∃ w8, w7.setCell ⟨d, 6, none⟩ (.int .i64 (t + c.talk)) = w8 := ⟨_, rfl⟩
          obtain ⟨w9, hw9⟩ : ∃ w9, w8.setCell ⟨d, 8, none⟩ (.int .i64 ((dkAt p.dk j).n + 1)) = w9 := ⟨_, rfl⟩
          obtain ⟨wz, hwz⟩ : ∃ wz, w9.setCell ⟨R.pb, 5, none⟩ (.string a.key) = wz := ⟨_, rfl⟩
          have E8 := Lib.hid (show Blk w8 d 116 #[.string a.key, .slice a.sA a.sn a.sc, .int .i64 a.fr, .int .i64 a.til, .slice a.pA a.pn a.pc, .int .i64 a.wrap, .int .i64 (⟨t + c.talk, (dkAt p.dk j).en, (dkAt p.dk j).n⟩ : DkV).tk, .int .i64 (⟨t + c.talk, (dkAt p.dk j).en, (dkAt p.dk j).n⟩ : DkV).en, .int .i64 (⟨t + c.talk, (dkAt p.dk j).en, (dkAt p.dk j).n⟩ : DkV).n] by rw [← hw8]; exact E7.out.set_ 6 _)
          have E9 := Lib.hid (show Blk w9 d 116 #[.string a.key, .slice a.sA a.sn a.sc, .int .i64 a.fr, .int .i64 a.til, .slice a.pA a.pn a.pc, .int .i64 a.wrap, .int .i64 (⟨t + c.talk, (dkAt p.dk j).en, (dkAt p.dk j).n + 1⟩ : DkV).tk, .int .i64 (⟨t + c.talk, (dkAt p.dk j).en, (dkAt p.dk j).n + 1⟩ : DkV).en, .int .i64 (⟨t + c.talk, (dkAt p.dk j).en, (dkAt p.dk j).n + 1⟩ : DkV).n] by rw [← hw9]; exact E8.out.set_ 8 _)
          have G8 := Lib.hid (show w7.grownBy w8 (some d) by rw [← hw8]; exact gr_setCell (gr_refl _ _) (.inl rfl) _)
          have G9 := Lib.hid (show w8.grownBy w9 (some d) by rw [← hw9]; exact gr_setCell (gr_refl _ _) (.inl rfl) _)
          have W8 := Lib.hid (W7.out.grown G8.out (fun e => nbd (by injection e with e; exact e.symm)))
          have P9 := Lib.hid ((P7.out.grown G8.out (fun e => npd (by injection e))).grown G9.out (fun e => npd (by injection e)))
          have PA9 := Lib.hid (PA7.out.setD HDI.out HA.out (gr_same G8.out G9.out) (show DkBlk w9 d a (⟨t + c.talk, (dkAt p.dk j).en, (dkAt p.dk j).n + 1⟩ : DkV) from E9.out))
          have GZ := Lib.hid (show w9.grownBy wz (some R.pb) by rw [← hwz]; exact gr_setCell (gr_refl _ _) (.inl rfl) _)
          have PAZ := Lib.hid (PA9.out.setL GZ.out (show PpBlk wz R s A.length C.length a.key by rw [← hwz]; exact P9.out.set_ 5 _))
          have qn : IntKind.i64.wrap ((dkAt p.dk j).n + 1) = (dkAt p.dk j).n + 1 := IntWalk.i64_in _ (by omega)
          have f6 := E7.out.frozen 6
          have c6 := E7.out.cell 6
          have w6c := W7.out.cell 6
          have HW8 := Lib.hid hw8; have HW9 := Lib.hid hw9; have HWZ := Lib.hid hwz
          clear hw8 hw9 hwz W6 E6 P6 P7
          go_upto_region 12 with (fail)
          rw [HW8.out]
          clear f6 c6 w6c HW8
          have f8 := E8.out.frozen 8
          have c8 := E8.out.cell 8
          go_upto_region 13 with (fail)
          rw [HW9.out]
          clear f8 c8 HW9
          have c0 := E9.out.cell 0
          have p5 := P9.out.cell 5
          have pf := P9.out.frozen 5
          go_upto_region 14 with (fail)
          rw [HWZ.out]
          clear c0 p5 pf HWZ
          go_wp2_with fail
          go_ret
          refine .inr ⟨_, HFIN.out, rfl, PAZ.out, ?_⟩
          have lw := HH.out.at_.lo
          have hlb := lw b (mem_w HBI.out)
          have hld := lw d (mem_d HDI.out)
          have hlp := lw R.pb (List.mem_cons_self ..)
          exact gr_trans (gr_trans (gr_trans HH.out.g (gr_same G6.out G7.out) (fun g e => .inr (by injection e with e; omega))) (gr_same G8.out G9.out) (fun g e => .inr (by injection e with e; omega))) GZ.out (fun g e => .inr (by injection e with e; omega))
    · obtain rfl : k = m := by omega
      have HE := Lib.hid (show giveP s A C p t = none by
        rw [HGL.out, ← HGV.out, List.drop_of_length_le (by omega)]; rfl)
      go_wp2_with fail
      go_ret
      exact .inl ⟨HE.out, rfl, gr_none HG.out HGR.out⟩
end Go.Proofs.YtpildcnoghojpaaGreatDoor

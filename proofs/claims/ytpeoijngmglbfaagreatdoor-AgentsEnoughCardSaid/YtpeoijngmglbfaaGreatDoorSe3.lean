/- Contracts of part, served, Served, Lost and Waited. Conditions: callers and seats as they lie in memory. -/
import Derived.Test.YtpeoijngmglbfaaGreatDoorBun4
namespace Go.Proofs.YtpeoijngmglbfaaGreatDoor
open Go.RowKit

theorem ses_bd {c : CaV} {z : SeV} (h1 : CaN c) (h2 : SeOk z) : IntKind.i64.wrap (z.beg - c.at_) = z.beg - c.at_ := by
  obtain ⟨_, _, o3, o4, _⟩ := h2
  obtain ⟨m1, m2, _⟩ := h1
  exact IntWalk.i64_in _ (by omega)
set_option maxHeartbeats 2000000 in
theorem svd_any (c : CaV) (z : SeV) (most : Int) (kb : Nat) (w : World) (h1 : CaN c) (h2 : SeOk z) (hk : Blk w kb 3 #[.int .i64 most]) :
    Calls Tryz.prog 81 #[.agg #[.string c.id, .string c.skill, .int .i64 c.at_, .int .i64 c.least, .int .i64 c.prio, .int .i64 c.pat, .int .i64 c.talk, .bool c.back], .agg #[.string z.ca, .string z.ag, .int .i64 z.how, .int .i64 z.beg, .int .i64 z.fin], .pointer (some ⟨kb, 0, none⟩)] w (RetV (.bool (inTime most c z)) w) := by
  have qs := ses_bd h1 h2
  obtain ⟨B1, hB1⟩ : ∃ B, (z.how == 1) = B := ⟨_, rfl⟩
  obtain ⟨D, hD⟩ : ∃ D, decide (z.beg - c.at_ ≤ most) = D := ⟨_, rfl⟩
  have HV := Lib.hid (show inTime most c z = (B1 && D) by unfold inTime; rw [hB1, hD])
  have kk : ∀ o1 o2, ((w.alloc o1).alloc o2).cell? ⟨kb, 0, none⟩ = some (.int .i64 most) := fun o1 o2 => ((hk.alloc o1).alloc o2).cell 0
  clear hk h1 h2
  cases B1
  all_goals
    go_enter Tryz.func81, Tryz.ntmps81
    go_wp2_with fail
    go_ret
    exact ⟨by rw [HV.out]; try rfl, gr_alloc (gr_alloc (gr_refl _ _) _) _⟩
set_option maxHeartbeats 16000000 in
set_option maxRecDepth 100000 in
theorem svdPart_any (so : CaV → SeV → Bool) (short : Int) (lo1 lo2 : Nat) (cA : Option Addr) (n cc : Nat) (C : List CaV) (A : Option Addr) (c0 : Nat) (l : List SeV) (K1 : Value) (w : World) (hC : Cas w lo1 cA n cc C) (hS : Ses w lo2 A n c0 l) (hn : n ≤ 1000000000) (hnum : ∀ c ∈ C, CaN c)
    (hso : ∀ (w1 : World) (c : CaV) (z : SeV), w.grownBy w1 none → c ∈ C → z ∈ l → Calls Tryz.prog 81 #[.agg #[.string c.id, .string c.skill, .int .i64 c.at_, .int .i64 c.least, .int .i64 c.prio, .int .i64 c.pat, .int .i64 c.talk, .bool c.back], .agg #[.string z.ca, .string z.ag, .int .i64 z.how, .int .i64 z.beg, .int .i64 z.fin], K1] w1 (RetV (.bool (so c z)) w1)) :
    Calls Tryz.prog 80 #[.slice cA n cc, .slice A n c0, .int .i64 short, .func (.func 81) #[] #[K1]] w (RetV (partV (soN so C l (partL so short C l)) (partL so short C l).length) w) := by
  have HC := Lib.hid hC; have HS := Lib.hid hS; have HNUM := Lib.hid hnum; have HSO := Lib.hid hso
  have hls := hS.1.len
  clear hC hS hnum hso
  obtain ⟨w1, hw1⟩ : ∃ w1, w.alloc (.cells #[.int .i64 0, .int .i64 0] 100) = w1 := ⟨_, rfl⟩
  have HR1 := Lib.hid (show Blk w1 w.heap.size 100 #[.int .i64 0, .int .i64 0] by rw [← hw1]; exact Blk.new _ _ _)
  have HG1 := Lib.hid (show w.grownBy w1 none by rw [← hw1]; exact gr_alloc (gr_refl _ _) _)
  have HW1 := Lib.hid hw1
  clear hw1
  go_enter Tryz.func80, Tryz.ntmps80
  go_upto_region 1 with (fail)
  rw [HW1.out]
  clear HW1
  go_wp2_with fail
  go_loopw [10, 11, 12, 13, 16] (fun v10 v11 _ _ t wr => ∃ (k a b : Nat), k ≤ n ∧ t = .int .i64 k ∧ v10 = .int .i64 a ∧ v11 = .int .i64 b ∧ (ctL short C l k).length = a ∧ soN so C l (ctL short C l k) = b ∧ a ≤ k ∧ b ≤ k ∧ w.grownBy wr none ∧ Blk wr w.heap.size 100 #[.int .i64 0, .int .i64 0]) (fun _ _ _ _ t _ => n - (intOf t).toNat)
  case atStart => exact ⟨0, 0, 0, Nat.zero_le _, rfl, rfl, rfl, rfl, rfl, Nat.le_refl _, Nat.le_refl _, HG1.out, HR1.out⟩
  case round =>
    clear HG1 HR1
    obtain ⟨k, a, b, hk, rfl, rfl, rfl, ha, hb, hak, hbk, hg, hr⟩ := hrel
    have HG := Lib.hid hg; have HR := Lib.hid hr; have HAA := Lib.hid ha; have HBB := Lib.hid hb
    have zr := hr.lt
    clear hg hr ha hb
    by_cases hlt : k < n
    · obtain ⟨sg, sof, z, rfl, _, _, hz2, hzc⟩ := (HS.out.1.grown HG.out (fun g e => by cases e)).get SeV.row_len hlt
      obtain ⟨cg, co, c, rfl, _, _, hc2, hcc⟩ := (HC.out.1.grown HG.out (fun g e => by cases e)).get CaV.row_len hlt
      have hcn := HNUM.out c (mem_of_get hc2)
      have qs := ses_bd hcn (HS.out.2 z (mem_of_get hz2))
      have hlt2 : (k : Int) < (n : Int) := by omega
      have HZC := Lib.hid hzc
      have HC2 := Lib.hid hc2; have HZ2 := Lib.hid hz2
      have HCT := Lib.hid (ctL_succ (short := short) hz2 hc2)
      obtain ⟨wa, hwa⟩ : ∃ wa, wr.alloc (.cells #[.string z.ca, .string z.ag, .int .i64 z.how, .int .i64 z.beg, .int .i64 z.fin] 44) = wa := ⟨_, rfl⟩
      obtain ⟨zb, hzb⟩ : ∃ zb, wr.heap.size = zb := ⟨_, rfl⟩
      have HB := Lib.hid (show Blk wa zb 44 #[.string z.ca, .string z.ag, .int .i64 z.how, .int .i64 z.beg, .int .i64 z.fin] by rw [← hwa, ← hzb]; exact Blk.new _ _ _)
      have HGa := Lib.hid (show wr.grownBy wa none by rw [← hwa]; exact gr_alloc (gr_refl _ _) _)
      have HWA := Lib.hid hwa; have HZB := Lib.hid hzb
      clear hwa hzb hz2 hc2 hzc hcc hcn
      go_upto_region 5 with (first
        | (refine wpl_load_at Tryz.seT rfl _ rfl _ rfl [.string z.ca, .string z.ag, .int .i64 z.how, .int .i64 z.beg, .int .i64 z.fin] rfl (fun j u hu => by rw [add_mk]; exact HZC.out j u hu) ?_)
        | fail)
      rw [HWA.out]
      (try rw [HZB.out])
      replace HG := Lib.hid (gr_none HG.out HGa.out)
      replace HR := Lib.hid (HR.out.grown HGa.out (by simp))
      have k2 := HB.out.cell 2
      have k3 := HB.out.cell 3
      have kc := (HC.out.1.grown HG.out (fun g e => by cases e)).at_ CaV.row_len HC2.out 2 _ rfl
      clear HWA HZB HZC HGa
      obtain ⟨U, hU⟩ : ∃ U, (z.how == 2) = U := ⟨_, rfl⟩
      obtain ⟨D, hD⟩ : ∃ D, decide (z.beg - c.at_ < short) = D := ⟨_, rfl⟩
      have HCB := Lib.hid (show ctB short c z = !(U && D) by unfold ctB; rw [hU, hD])
      obtain ⟨X, hX⟩ : ∃ X, so c z = X := ⟨_, rfl⟩
      have HX := Lib.hid hX
      have HXK := Lib.hid (show soAt so C l k = X from (soAt_eq HZ2.out HC2.out).trans hX)
      clear hX
      have qa : IntKind.i64.wrap ((a : Int) + 1) = (a : Int) + 1 := IntWalk.i64_in _ (by omega)
      have qb : IntKind.i64.wrap ((b : Int) + 1) = (b : Int) + 1 := IntWalk.i64_in _ (by omega)
      by_cases hout : U = true ∧ D = true
      · obtain ⟨rfl, rfl⟩ := hout
        have HN := Lib.hid (show ctL short C l (k + 1) = ctL short C l k by rw [HCT.out, HCB.out]; simp)
        go_quiet (fail)
        go_wp2_with fail
        go_roundw
        case rel => exact ⟨k + 1, a, b, by omega, by go_num, rfl, rfl, by rw [HN.out]; exact HAA.out, by rw [HN.out]; exact HBB.out, by omega, by omega, gr_drewN HG.out _, HR.out.drewN _⟩
        case measure => simp [intOf]; omega
      · have HN := Lib.hid (show ctL short C l (k + 1) = ctL short C l k ++ [k] by
          rw [HCT.out, HCB.out]
          cases U <;> cases D <;> simp at hout ⊢)
        have HL1 := Lib.hid (show (ctL short C l (k + 1)).length = a + 1 by rw [HN.out, List.length_append, HAA.out]; rfl)
        have HB1 := Lib.hid (show soN so C l (ctL short C l (k + 1)) = b + (if X then 1 else 0) by rw [HN.out, soN_snoc, HBB.out, HXK.out])
        have hUD : U = false ∨ (U = true ∧ D = false) := by cases U <;> cases D <;> simp at hout ⊢
        go_cut [35] (fun v wx => v = .bool false ∧ ∃ m : Nat, wx = wa.drewN m)
        case first =>
          rcases hUD with rfl | ⟨rfl, rfl⟩
          all_goals
            go_quiet (fail)
            go_wp2_with fail
            go_meet
            exact ⟨rfl, _, rfl⟩
        case rest =>
          obtain ⟨rfl, m, rfl⟩ := hcut
          have HG5 := Lib.hid (gr_drewN HG.out m)
          have HR5 := Lib.hid (HR.out.drewN m)
          have HB5 := Lib.hid (HB.out.drewN m)
          obtain ⟨wv, hwv⟩ : ∃ wv, wa.drewN m = wv := ⟨_, rfl⟩
          rw [hwv] at HG5 HR5 HB5 ⊢
          clear hwv k2 k3 kc hU hD hUD hout
          go_upto_region 7 with (fail)
          refine H_begin (fun w' => wv.grownBy w' none) (by kernel_rfl) ?_
          have hHeld : wv.grownBy wv.drew none := gr_drew (gr_refl _ _)
          refine H_take (k := 0) (v := ?_) (by rfl) (by kernel_rfl) (by kernel_rfl) (by kernel_rfl) (by exact fun _ _ _ h => h) (by rfl) ?_ (by assumption) ?_
          rotate_left 1
          · intro w hSw
            (try dsimp only at hSw)
            go_simp
            (try with_reducible rfl)
          (try simp only [Act.put, List.setIfInBounds_toArray, List.set_cons_zero, List.set_cons_succ])
          refine H_take (k := 1) (v := ?_) (by rfl) (by kernel_rfl) (by kernel_rfl) (by kernel_rfl) (by exact fun _ _ _ h => h) (by rfl) ?_ (by assumption) ?_
          rotate_left 1
          · intro w hSw
            (try dsimp only at hSw)
            go_simp
            (try with_reducible rfl)
          (try simp only [Act.put, List.setIfInBounds_toArray, List.set_cons_zero, List.set_cons_succ])
          refine H_take (k := 2) (v := ?_) (by rfl) (by kernel_rfl) (by kernel_rfl) (by kernel_rfl) (by exact fun _ _ _ h => h) (by rfl) ?_ (by assumption) ?_
          rotate_left 1
          · intro w hSw
            (try dsimp only at hSw)
            go_simp
            (try with_reducible rfl)
          (try simp only [Act.put, List.setIfInBounds_toArray, List.set_cons_zero, List.set_cons_succ])
          refine H_take (k := 3) (v := ?_) (by rfl) (by kernel_rfl) (by kernel_rfl) (by kernel_rfl) (by exact fun _ _ _ h => h) (by rfl) ?_ (by assumption) ?_
          rotate_left 1
          · intro w hSw
            (try dsimp only at hSw)
            go_simp
            (try with_reducible rfl)
          (try simp only [Act.put, List.setIfInBounds_toArray, List.set_cons_zero, List.set_cons_succ])
          refine H_take (k := 4) (v := .agg #[.string c.id, .string c.skill, .int .i64 c.at_, .int .i64 c.least, .int .i64 c.prio, .int .i64 c.pat, .int .i64 c.talk, .bool c.back]) (by rfl) (by kernel_rfl) (by kernel_rfl) (by kernel_rfl) (by exact fun _ _ _ h => h) (by rfl) (fun w' hSw => exec_ldr Tryz.caT _ rfl _ rfl [.string c.id, .string c.skill, .int .i64 c.at_, .int .i64 c.least, .int .i64 c.prio, .int .i64 c.pat, .int .i64 c.talk, .bool c.back] (fun j u hu => by rw [add_mk]; exact ((HC.out.1.grown (gr_none HG5.out hSw) (fun g e => by cases e)).at_ CaV.row_len HC2.out) j u hu) rfl) (by assumption) ?_
          (try simp only [Act.put, List.setIfInBounds_toArray, List.set_cons_zero, List.set_cons_succ])
          refine H_take (k := 5) (v := .agg #[.string z.ca, .string z.ag, .int .i64 z.how, .int .i64 z.beg, .int .i64 z.fin]) (by rfl) (by kernel_rfl) (by kernel_rfl) (by kernel_rfl) (by exact fun _ _ _ h => h) (by rfl) (fun w' hSw => exec_ldb Tryz.seT _ rfl _ rfl 44 [.string z.ca, .string z.ag, .int .i64 z.how, .int .i64 z.beg, .int .i64 z.fin] (HB5.out.grown hSw (by simp)) rfl) (by assumption) ?_
          (try simp only [Act.put, List.setIfInBounds_toArray, List.set_cons_zero, List.set_cons_succ])
          refine H_run (k := 6) (by rfl) (by kernel_rfl) (by rfl) (fun K hK => ?_)
          go_simp
          refine (HSO.out _ c z (gr_none HG5.out hHeld) (mem_of_get HC2.out) (mem_of_get HZ2.out)).mono ?_
          rintro e w7 ⟨rfl, hg7⟩
          rw [HX.out]
          have hg := gr_none hHeld hg7
          refine hK _ _ hg ?_
          clear hK K hHeld hg7
          (try simp only [Act.put, List.setIfInBounds_toArray, List.set_cons_zero, List.set_cons_succ])
          refine H_done (by kernel_rfl) ?_
          replace HG := Lib.hid (gr_none HG5.out hg)
          replace HR := Lib.hid (HR5.out.grown hg (by simp))
          clear hg HG5 HR5 HB5
          cases X
          · go_wp2_with fail
            go_roundw
            case rel => exact ⟨k + 1, a + 1, b, by omega, by go_num, by go_num, by go_num, HL1.out, by rw [HB1.out]; rfl, by omega, by omega, HG.out, HR.out⟩
            case measure => simp [intOf]; omega
          · go_wp2_with fail
            go_roundw
            case rel => exact ⟨k + 1, a + 1, b + 1, by omega, by go_num, by go_num, by go_num, HL1.out, by rw [HB1.out]; rfl, by omega, by omega, HG.out, HR.out⟩
            case measure => simp [intOf]; omega
    · obtain rfl : k = n := by omega
      have HPL := Lib.hid (show (partL so short C l).length = a by unfold partL; rw [hls]; exact HAA.out)
      have HPS := Lib.hid (show soN so C l (partL so short C l) = b by unfold partL; rw [hls]; exact HBB.out)
      by_cases ha0 : a = 0
      · subst ha0
        have HV := Lib.hid (show partV (soN so C l (partL so short C l)) (partL so short C l).length = frV 0 0 8 by unfold partV; rw [if_pos HPL.out])
        have d0 : (((0 : Nat) : Int) == 0) = true := by decide
        go_wp2_with (first
          | (refine wpl_store_all Tryz.frT rfl _ _ rfl _ rfl _ _ _ rfl HR.out rfl rfl (by simp [Value.oneCell']) ?_
             intro wz hst
             have HST := Lib.hid hst; clear hst)
          | fail)
        refine ret_cell_tmp Tryz.frT rfl w.heap.size 100 #[.int .i64 0, .int .i64 0] _ rfl rfl HST.out.1 rfl rfl ?_
        exact ⟨by rw [HV.out]; try rfl, gr_trans HG.out HST.out.2.1 (fun g e => .inr (by injection e with e; omega))⟩
      · have d0 : ((a : Int) == 0) = false := by rw [beq_eq_false_iff_ne]; omega
        have HV := Lib.hid (show partV (soN so C l (partL so short C l)) (partL so short C l).length = frV (lowV b a).1 (lowV b a).2 0 by unfold partV; rw [if_neg (by rw [HPL.out]; exact ha0), HPL.out, HPS.out])
        go_wp2_with fail
        refine (frac_any b a (by omega) (by omega) (by omega) _).mono ?_
        rintro e w8 ⟨rfl, hg8⟩
        obtain ⟨P, hP⟩ : ∃ P, (lowV b a).1 = P := ⟨_, rfl⟩
        obtain ⟨Q, hQ⟩ : ∃ Q, (lowV b a).2 = Q := ⟨_, rfl⟩
        rw [hP, hQ] at HV ⊢
        clear hP hQ
        replace HR := Lib.hid (HR.out.grown hg8 (by simp))
        replace HG := Lib.hid (gr_none HG.out hg8)
        clear hg8
        go_wp2_with (first
          | (refine wpl_store_all Tryz.frT rfl _ _ rfl _ rfl _ _ _ rfl HR.out rfl rfl (by simp [Value.oneCell']) ?_
             intro wz hst
             have HST := Lib.hid hst; clear hst)
          | fail)
        refine ret_cell_tmp Tryz.frT rfl w.heap.size 100 #[.int .i64 P, .int .i64 Q] _ rfl rfl HST.out.1 rfl rfl ?_
        exact ⟨by rw [HV.out]; try rfl, gr_trans HG.out HST.out.2.1 (fun g e => .inr (by injection e with e; omega))⟩
end Go.Proofs.YtpeoijngmglbfaaGreatDoor

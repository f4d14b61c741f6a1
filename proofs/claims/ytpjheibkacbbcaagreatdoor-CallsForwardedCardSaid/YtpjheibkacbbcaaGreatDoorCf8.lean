/- Contract of the document's CirclesOf. Conditions: at most 1000 forwards. -/
import Derived.Test.YtpjheibkacbbcaaGreatDoorCf7
import Derived.Test.YtpjheibkacbbcaaGreatDoorBun6
namespace Go.Proofs.YtpjheibkacbbcaaGreatDoor
open Go.RowKit Classical

theorem outs_succ {l : List FwV} {j : Nat} {f : FwV} (h : l[j]? = some f) (k : ByteArray) : outs (l.take (j + 1)) k = if nb f.line = nb k then outs (l.take j) k ++ [f.to_] else outs (l.take j) k := by
  rw [take_get1 h, outs_snoc]
theorem blk_cut {g o : Nat} {c : Nat} {A2 : Option Addr} (h : (if c = 1 then some ⟨g, o, none⟩ else some ⟨g, o + 1, none⟩ : Option Addr) = A2) : blkOf A2 = some g := by
  rw [← h]; split <;> rfl
theorem cir_succ {l m : List FwV} {i : Nat} {f : FwV} (h : m[i]? = some f) : ((m.take (i + 1)).filter (cirF l)).map (·.line) = if cirF l f = true then ((m.take i).filter (cirF l)).map (·.line) ++ [f.line] else ((m.take i).filter (cirF l)).map (·.line) := by
  rw [take_get1 h, List.filter_append, List.map_append]
  cases hc : cirF l f
  · rw [if_neg (by simp)]; simp [hc]
  · rw [if_pos rfl]; simp [hc]
set_option maxHeartbeats 32000000 in
set_option maxRecDepth 100000 in
theorem circlesOf_any (lo : Nat) (A : Option Addr) (n c : Nat) (l : List FwV) (w : World) (h : Fws w lo A n c l) (hn : n ≤ 1000) :
    Calls Tryz.prog 35 #[.slice A n c] w (fun e w' => ∃ Ao no co, e = .returned (.slice Ao no co) ∧ OwnR srow 1 w' w.heap.size 9 Ao no co (dedS (srtS ((l.filter (cirF l)).map (·.line)))) ∧ w.grownBy w' none) := by
  have H := Lib.hid h
  clear h
  go_enter Tryz.func35, Tryz.ntmps35
  go_wp2_with fail
  go_loopw [3, 5, 6, 7, 8, 10, 13] (fun v3 _ _ _ _ _ t13 wr => ∃ (i : Nat) (Ao : Option Addr) (no co : Nat), i ≤ n ∧ t13 = .int .i64 i ∧ v3 = .slice Ao no co ∧ w.grownBy wr none ∧ OwnR srow 1 wr w.heap.size 9 Ao no co (((l.take i).filter (cirF l)).map (·.line))) (fun _ _ _ _ _ _ t13 _ => n - (intOf t13).toNat)
  case atStart => exact ⟨0, none, 0, 0, Nat.zero_le _, rfl, rfl, gr_refl _ _, OwnR.nil _ _ _⟩
  case round =>
    obtain ⟨i, Ao, no, co, hi, rfl, rfl, hg, hown⟩ := hrel
    have HG := Lib.hid hg; have HO := Lib.hid hown
    have hno : no ≤ 1000 := by
      have h1 := hown.2
      rw [List.length_map] at h1
      have h2 := List.length_filter_le (cirF l) (l.take i)
      rw [List.length_take] at h2
      omega
    clear hg hown
    by_cases hlt : i < n
    · obtain ⟨g, o, ⟨ln, wh, too, hr⟩, rfl, _, hgl, hz, hc⟩ := (H.out.1.grown HG.out (fun g e => by cases e)).get FwV.row_len hlt
      obtain ⟨p1, p2, p3⟩ := H.out.2 _ (mem_of_get hz)
      dsimp only at p1 p2 p3
      have HZ := Lib.hid hz; have HC := Lib.hid hc; clear hz hc
      obtain ⟨wa, hwa⟩ : ∃ v, wr.alloc (.cells #[.string ln, .int .i64 wh, .string too, .string hr] 114) = v := ⟨_, rfl⟩
      obtain ⟨zb, hzb⟩ : ∃ b, wr.heap.size = b := ⟨_, rfl⟩
      have HB := Lib.hid (show Blk wa zb 114 #[.string ln, .int .i64 wh, .string too, .string hr] by rw [← hwa, ← hzb]; exact Blk.new _ _ _)
      have hga : wr.grownBy wa none := by rw [← hwa]; exact gr_alloc (gr_refl _ _) _
      replace HG := Lib.hid (gr_none HG.out hga)
      replace HO := Lib.hid (HO.out.kept hga (fun g e => by cases e))
      have HW1 := Lib.hid hwa; have HZB := Lib.hid hzb
      clear hwa hzb hga
      go_upto_region 5 with (first
        | (refine wpl_load_at Tryz.fwT rfl _ rfl _ rfl [.string ln, .int .i64 wh, .string too, .string hr] rfl (fun j u hu => by rw [add_mk]; exact HC.out j u hu) ?_)
        | fail)
      rw [HW1.out]
      (try rw [HZB.out])
      clear HW1 HZB HC
      have k0 := HB.out.cell 0; have k2 := HB.out.cell 2
      obtain ⟨ws, hws⟩ : ∃ v, wa.alloc (.cells #[] 9) = v := ⟨_, rfl⟩
      obtain ⟨sb, hsb⟩ : ∃ b, wa.heap.size = b := ⟨_, rfl⟩
      have HS := Lib.hid (show OwnR srow 1 ws sb 9 (some ⟨sb, 0, none⟩) 0 0 [] from ⟨by rw [← hws, ← hsb]; exact Own.lit wa 9 1 [] 0 (by unfold maxLen; omega) rfl, rfl⟩)
      have hgs : wa.grownBy ws none := by rw [← hws]; exact gr_alloc (gr_refl _ _) _
      have zss : ws.heap.size = sb + 1 := by rw [← hws, ← hsb]; simp
      have zwb : w.heap.size ≤ sb := by rw [← hsb]; exact HG.out.size
      have HWS := Lib.hid hws; have HSB := Lib.hid hsb
      clear hws
      go_upto_region 6 with (fail)
      rw [HWS.out]
      (try rw [HSB.out])
      clear HWS k0 k2
      have k0 := (HB.out.grown hgs (by simp)).cell 0; have k2 := (HB.out.grown hgs (by simp)).cell 2
      obtain ⟨wq, hwq⟩ : ∃ v, ws.alloc (.cells #[.string too] 9) = v := ⟨_, rfl⟩
      have HQ := Lib.hid (show OwnQ srow 1 wq sb (some ⟨sb + 1, 0, none⟩) 1 1 [too] from by
        have h1 := Own.lit ws 9 1 [.string too] 1 (by unfold maxLen; omega) rfl
        rw [zss, show ([.string too] : List Value).toArray = #[.string too] from rfl, hwq] at h1
        exact ⟨OwnO.of (h1.lower (Nat.le_succ sb)), rfl, by unfold maxLen; omega⟩)
      have hgq : ws.grownBy wq none := by rw [← hwq]; exact gr_alloc (gr_refl _ _) _
      replace HS := Lib.hid (HS.out.kept hgq (fun g e => by cases e))
      have HWQ := Lib.hid hwq
      clear hwq
      go_upto_region 7 with (fail)
      rw [HWQ.out]
      (try rw [zss])
      clear HWQ zss k0 k2
      have HGA := Lib.hid (gr_none hgs hgq)
      clear hgs hgq hsb
      obtain ⟨M0, hM0⟩ : ∃ M, 1 + left l [] = M := ⟨_, rfl⟩
      have hM0b : M0 ≤ 1001 := by rw [← hM0, left_nil, H.out.1.len]; omega
      go_loopg [6, 7, 8, 10] M0 (fun gk v6 v7 _ _ wr => ∃ (S Q : List ByteArray) (As Aq : Option Addr) (ns cs nq cq : Nat), v6 = .slice As ns cs ∧ v7 = .slice Aq nq cq ∧ wa.grownBy wr none ∧ OwnR srow 1 wr sb 9 As ns cs S ∧ OwnQ srow 1 wr sb Aq nq cq Q ∧ (∀ g, blkOf As = some g → blkOf Aq ≠ some g) ∧ Bf l [too] S Q ∧ gk = Q.length + left l S ∧ S.length + gk ≤ M0 ∧ ∀ y ∈ Q, y.size ≤ 1000000)
      case atStart => exact ⟨[], [too], _, _, _, _, _, _, rfl, rfl, HGA.out, HS.out, HQ.out, (fun g e e' => by injection e with e; injection e' with e'; dsimp only at e e'; omega), Bf.new _ _, hM0.symm, by rw [← hM0]; simp, (fun y hy => by rw [List.mem_singleton] at hy; subst hy; exact p2)⟩
      case round =>
        clear HGA HS HQ
        obtain ⟨S, Q, As, Aq, ns, cs, nq, cq, rfl, rfl, hga, hs, hq, hdj, hbf, hgk, hsm, hqz⟩ := hrel
        have HGA := Lib.hid hga; have HS := Lib.hid hs; have HDJ := Lib.hid hdj; have HBF := Lib.hid hbf; have HGK := Lib.hid hgk; have HQZ := Lib.hid hqz
        have hql := hq.2.1
        have hns : ns ≤ 1001 := by rw [← hs.2]; omega
        clear hga hs hdj hbf hgk hqz
        cases Q with
        | nil =>
          obtain rfl : nq = 0 := by simpa using hql.symm
          clear hql hq
          obtain ⟨VB, hVB⟩ : ∃ b, memS S ln = b := ⟨_, rfl⟩
          have HVB := Lib.hid hVB
          have hcb : cirF l ⟨ln, wh, too, hr⟩ = VB := by
            unfold cirF
            rw [← hVB]
            have hsn := HBF.out.seen ln
            cases hx : memS S ln
            · refine decide_eq_false fun q => ?_
              have := memS_iff.2 (hsn.2 ⟨too, by simp, q⟩)
              rw [hx] at this; cases this
            · refine decide_eq_true ?_
              obtain ⟨d, hd, hl⟩ := hsn.1 (memS_iff.1 hx)
              rw [List.mem_singleton] at hd
              subst hd; exact hl
          have HCB := Lib.hid (cir_succ (l := l) HZ.out)
          rw [hcb] at HCB
          clear hVB hcb
          have k0 := (HB.out.grown HGA.out (by simp)).cell 0
          have HGy := Lib.hid (gr_none HG.out HGA.out)
          have HOy := Lib.hid (HO.out.kept HGA.out (fun g e => by cases e))
          cases VB
          · go_wp2_with (first
              | (go_at_call 54; refine (containsS_any _ _ _ _ S ln _ (by exact HS.out.recs) (by omega)).mono ?_; rintro e w' ⟨rfl, rfl⟩; rw [show S.any (fun x => nb x == nb ln) = _ from HVB.out])
              | fail)
            go_roundw
            case rel => exact ⟨i + 1, Ao, no, co, by omega, by go_num, rfl, HGy.out, by rw [HCB.out]; exact HOy.out⟩
            case measure => simp [intOf]; omega
          · have zgy := HGy.out.size
            go_wp2_with (first
              | (go_at_call 54; refine (containsS_any _ _ _ _ S ln _ (by exact HS.out.recs) (by omega)).mono ?_; rintro e w' ⟨rfl, rfl⟩; rw [show S.any (fun x => nb x == nb ln) = _ from HVB.out])
              | (at_builtin
                 refine wpl_app _ rfl _ _ Tryz.stT rfl w.heap.size Ao no co _ rfl (by exact HOy.out.1.alloc _) _ _ 1 1 [.string ln] rfl (by exact Reads.one _ _ _ _ rfl) (by simp [Value.oneCell']) (by unfold maxLen; omega) (by omega) (by simp; omega) ?_
                 intro A10 c10 w10 h10
                 have H10 := Lib.hid h10; clear h10)
              | fail)
            go_roundw
            case rel => exact ⟨i + 1, A10, no + 1, c10, by omega, by go_num, rfl, gr_own (gr_alloc HGy.out _) (HOy.out.1.alloc _) (Nat.le_refl _) H10.out.2.1, by rw [HCB.out]; exact (HOy.out.alloc _).app rfl H10.out⟩
            case measure => simp [intOf]; omega
        | cons t Q =>
          obtain ⟨q, rfl⟩ : ∃ q, nq = q + 1 := ⟨Q.length, by rw [← hql]; rfl⟩
          have HQL := Lib.hid (show Q.length = q by simpa using hql)
          obtain ⟨g3, o3, rfl, hgl3, hgs3⟩ := hq.1.pos (by omega)
          obtain ⟨g2, o2, t2, e2, _, _, ht2, hc2⟩ := hq.recs.get srow_len (show 0 < q + 1 by omega)
          obtain ⟨rfl, rfl⟩ : g2 = g3 ∧ o2 = o3 := by injection e2 with e2; injection e2 with e2 e3; exact ⟨e2.symm, e3.symm⟩
          obtain rfl : t = t2 := by injection ht2
          have HQ := Lib.hid hq
          have kc := hc2 0 _ rfl
          simp only [Nat.zero_mul, Nat.add_zero] at kc
          have hcap : q + 1 ≤ cq := hq.1.cap
          have htz : t.size ≤ 1000000 := HQZ.out t (by simp)
          have hgk2 : gk = (q + 1) + left l S := by rw [HGK.out, List.length_cons, HQL.out]
          have hq0 : (0 : Int) < (q : Int) + 1 := by omega
          obtain ⟨A2, hA2⟩ : ∃ A2 : Option Addr, (if cq = 1 then some ⟨g2, o2, none⟩ else some ⟨g2, o2 + 1, none⟩) = A2 := ⟨_, rfl⟩
          have hq2 : OwnQ srow 1 wr sb A2 q (cq - 1) Q := by have := hq.cut1 srow_len; rw [hA2] at this; exact this
          have HQ2 := Lib.hid hq2
          have HBL := Lib.hid (blk_cut hA2)
          have HDJ2 := Lib.hid (show ∀ g, blkOf As = some g → blkOf A2 ≠ some g from fun g e => by rw [HBL.out]; exact HDJ.out g e)
          obtain ⟨VT, hVT⟩ : ∃ b, memS S t = b := ⟨_, rfl⟩
          have HVT := Lib.hid hVT
          clear hq hc2 ht2 e2 hql hq2 hVT
          go_upto_region 10 with (fail)
          (try rw [hA2])
          clear kc hq0 hA2 HDJ
          cases VT
          rotate_left 1
          · have HB2 := Lib.hid (HBF.out.skip HVT.out)
            clear HBF
            go_wp2_with (first
              | (go_at_call 54; refine (containsS_any _ _ _ _ S t _ (by exact HS.out.recs) (by omega)).mono ?_; rintro e w' ⟨rfl, rfl⟩; rw [show S.any (fun x => nb x == nb t) = _ from HVT.out])
              | fail)
            go_roundg (q + left l S)
            case measure => omega
            case rel => exact ⟨S, Q, As, A2, ns, cs, q, cq - 1, rfl, rfl, HGA.out, HS.out, HQ2.out, HDJ2.out, HB2.out, by rw [HQL.out], by omega, (fun y hy => HQZ.out y (by simp [hy]))⟩
          · have hlv := left_visit l HVT.out
            have HB2 := Lib.hid HBF.out.visit
            have zga := HGA.out.size
            have zsw : sb ≤ wr.heap.size := by have := HSB.out; omega
            clear HBF
            go_upto_region 12 with (first
              | (go_at_call 54; refine (containsS_any _ _ _ _ S t _ (by exact HS.out.recs) (by omega)).mono ?_; rintro e w' ⟨rfl, rfl⟩; rw [show S.any (fun x => nb x == nb t) = _ from HVT.out])
              | (at_builtin
                 refine wpl_app _ rfl _ _ Tryz.stT rfl sb As ns cs _ rfl (by exact HS.out.1.alloc _) _ _ 1 1 [.string t] rfl (by exact Reads.one _ _ _ _ rfl) (by simp [Value.oneCell']) (by unfold maxLen; omega) (by omega) (by simp; omega) ?_
                 intro A10 c10 w10 h10
                 have H10 := Lib.hid h10; clear h10)
              | fail)
            have HS10 := Lib.hid (show OwnR srow 1 w10 sb 9 A10 (ns + 1) c10 (S ++ [t]) from (HS.out.alloc _).app rfl H10.out)
            have HQ10 := Lib.hid ((HQ2.out.kept (gr_alloc (gr_refl _ none) (.cells #[.string t] 9)) (fun g e => by cases e)).kept H10.out.2.1 (fun g e e' => HDJ2.out g e e'))
            have HGA10 := Lib.hid (show wa.grownBy w10 none from gr_trans (gr_alloc HGA.out _) H10.out.2.1 (fun g e => .inr (by have := (HS.out.1.lt e).1; have := HSB.out; omega)))
            have HDJ10 := Lib.hid (show ∀ g, blkOf A10 = some g → blkOf A2 ≠ some g from fun g e e' => by
              rcases H10.out.2.2 g e with q1 | q1
              · exact HDJ2.out g q1 e'
              · have := (HQ2.out.lt e').2; simp at q1; omega)
            clear H10 HQ2 HS HGA HDJ2
            go_wp2_with fail
            go_loopw [7, 10, 38] (fun v7 _ t38 wr => ∃ (j : Nat) (Aq : Option Addr) (nq cq : Nat), j ≤ n ∧ t38 = .int .i64 j ∧ v7 = .slice Aq nq cq ∧ wa.grownBy wr none ∧ OwnR srow 1 wr sb 9 A10 (ns + 1) c10 (S ++ [t]) ∧ OwnQ srow 1 wr sb Aq nq cq (Q ++ outs (l.take j) t) ∧ ∀ g, blkOf A10 = some g → blkOf Aq ≠ some g) (fun _ _ t38 _ => n - (intOf t38).toNat)
            case atStart => exact ⟨0, A2, q, cq - 1, Nat.zero_le _, rfl, rfl, HGA10.out, HS10.out, by rw [List.take_zero, outs_nil, List.append_nil]; exact HQ10.out, HDJ10.out⟩
            case round =>
              clear HGA10 HS10 HQ10 HDJ10
              obtain ⟨j, Aq, nq, cq2, hj, rfl, rfl, hga, hs, hq, hdj⟩ := hrel
              have HGA := Lib.hid hga; have HS := Lib.hid hs; have HQ := Lib.hid hq; have HDJ := Lib.hid hdj
              have hnq : nq ≤ 3000 := by
                rw [← hq.2.1, List.length_append, HQL.out]
                have := outs_len (l.take j) t
                rw [List.length_take] at this
                omega
              have hcm := hq.2.2
              clear hga hs hq hdj
              by_cases hlt2 : j < n
              · obtain ⟨g5, o5, ⟨ln2, wh2, too2, hr2⟩, hA5, _, hgl5, hz, hc⟩ := (H.out.1.grown (gr_none HG.out HGA.out) (fun g e => by cases e)).get FwV.row_len hlt2
                obtain ⟨rfl, rfl⟩ : g5 = g ∧ o5 = o := by injection hA5 with e2; injection e2 with e2 e3; exact ⟨e2.symm, e3.symm⟩
                have HZ2 := Lib.hid hz; have HC := Lib.hid hc
                clear hz hc hA5 hgl5
                obtain ⟨w1, hw1⟩ : ∃ v, wr.alloc (.cells #[.string ln2, .int .i64 wh2, .string too2, .string hr2] 114) = v := ⟨_, rfl⟩
                obtain ⟨gb, hgb⟩ : ∃ b, wr.heap.size = b := ⟨_, rfl⟩
                have HGB := Lib.hid (show Blk w1 gb 114 #[.string ln2, .int .i64 wh2, .string too2, .string hr2] by rw [← hw1, ← hgb]; exact Blk.new _ _ _)
                have hg1 : wr.grownBy w1 none := by rw [← hw1]; exact gr_alloc (gr_refl _ _) _
                replace HGA := Lib.hid (gr_none HGA.out hg1)
                replace HS := Lib.hid (HS.out.kept hg1 (fun g e => by cases e))
                replace HQ := Lib.hid (HQ.out.kept hg1 (fun g e => by cases e))
                have HW1 := Lib.hid hw1; have HZB := Lib.hid hgb
                clear hw1 hgb hg1
                go_upto_region 15 with (first
                  | (refine wpl_load_at Tryz.fwT rfl _ rfl _ rfl [.string ln2, .int .i64 wh2, .string too2, .string hr2] rfl (fun j u hu => by rw [add_mk]; exact HC.out j u hu) ?_)
                  | fail)
                rw [HW1.out]
                (try rw [HZB.out])
                clear HW1 HZB HC
                have k0 := HGB.out.cell 0; have k2 := HGB.out.cell 2
                obtain ⟨EQ, hEQ⟩ : ∃ V, (nb ln2 == nb t) = V := ⟨_, rfl⟩
                have HEQ := Lib.hid hEQ
                have hEQ2 : (ln2.toList == t.toList) = EQ := by rw [eqS_nb]; exact hEQ
                clear hEQ
                cases EQ
                · have HN := Lib.hid (show outs (l.take (j + 1)) t = outs (l.take j) t by rw [outs_succ HZ2.out]; exact if_neg (by have := HEQ.out; simpa using this))
                  go_wp2_with fail
                  go_roundw
                  case rel => exact ⟨j + 1, Aq, nq, cq2, by omega, by go_num, rfl, HGA.out, HS.out, by rw [HN.out]; exact HQ.out, HDJ.out⟩
                  case measure => simp [intOf]; omega
                · have HN := Lib.hid (show outs (l.take (j + 1)) t = outs (l.take j) t ++ [too2] by rw [outs_succ HZ2.out]; exact if_pos (by have := HEQ.out; simpa using this))
                  have z1 := HGA.out.size
                  go_wp2_with (first
                    | (at_builtin
                       refine wpl_appO _ rfl _ _ Tryz.stT rfl sb Aq nq cq2 _ rfl (by exact (HQ.out.kept (gr_alloc (gr_refl _ none) _) (fun g e => by cases e)).1) _ 1 1 [.string too2] rfl (by exact (Reads.one _ _ _ _ rfl).lower (Nat.zero_le _)) (by simp [Value.oneCell']) (by unfold maxLen; omega) (by omega) (by have := HSB.out; simp; omega) hcm ?_
                       intro A21 c21 w21 h21 hc21
                       have H21 := Lib.hid h21; have HC21 := Lib.hid hc21
                       clear h21 hc21)
                    | fail)
                  have hgz : w1.grownBy (w1.alloc (.cells #[.string too2] 9)) none := gr_alloc (gr_refl _ _) _
                  have HQN := Lib.hid (show OwnQ srow 1 w21 sb A21 (nq + 1) c21 (Q ++ outs (l.take (j + 1)) t) from by
                    rw [HN.out, ← List.append_assoc]
                    exact (HQ.out.kept hgz (fun g e => by cases e)).app rfl H21.out HC21.out)
                  have HSN := Lib.hid ((HS.out.kept hgz (fun g e => by cases e)).kept H21.out.2.1 (fun g e e' => HDJ.out g e' e))
                  have HGN := Lib.hid (show wa.grownBy w21 none from gr_trans (gr_none HGA.out hgz) H21.out.2.1 (fun g e => .inr (by have := (HQ.out.lt e).1; have := HSB.out; omega)))
                  have HDN := Lib.hid (show ∀ g, blkOf A10 = some g → blkOf A21 ≠ some g from fun g e e' => by
                    rcases H21.out.2.2 g e' with q1 | q1
                    · exact HDJ.out g e q1
                    · have := (HS.out.1.lt e).2; simp at q1; omega)
                  go_roundw
                  case rel => exact ⟨j + 1, A21, nq + 1, c21, by omega, by go_num, rfl, HGN.out, HSN.out, HQN.out, HDN.out⟩
                  case measure => simp [intOf]; omega
              · obtain rfl : j = n := by omega
                have hall : l.take j = l := List.take_of_length_le (by rw [H.out.1.len]; exact Nat.le_refl _)
                rw [hall] at HQ
                go_wp2_with fail
                go_roundg (q + (outs l t).length + left l (S ++ [t]))
                case measure => omega
                case rel => exact ⟨S ++ [t], Q ++ outs l t, A10, Aq, ns + 1, c10, nq, cq2, by go_num, rfl, HGA.out, HS.out, HQ.out, HDJ.out, HB2.out, by rw [List.length_append, HQL.out], by rw [List.length_append]; simp only [List.length_singleton]; omega, (fun y hy => by
                  rcases List.mem_append.1 hy with h1 | h1
                  · exact HQZ.out y (by simp [h1])
                  · obtain ⟨f, hf, _, e⟩ := outs_mem.1 h1
                    rw [← e]; exact (H.out.2 f hf).2.1)⟩
    · obtain rfl : i = n := by omega
      have hall : l.take i = l := List.take_of_length_le (by rw [H.out.1.len]; exact Nat.le_refl _)
      rw [hall] at HO
      go_wp2_with fail
      refine (sortS_any w.heap.size Ao no co _ _ HO.out (by omega)).mono ?_
      rintro e w8 ⟨rfl, hown8, hg8⟩
      have HO8 := Lib.hid hown8
      have HG8 := Lib.hid (show w.grownBy w8 none from gr_own HG.out HO.out.1 (Nat.le_refl _) hg8)
      clear hown8 hg8
      go_wp2_with fail
      refine (compactS_any w.heap.size Ao no co _ _ HO8.out (by omega)).mono ?_
      rintro e w9 ⟨rfl, hown9, hg9⟩
      have HO9 := Lib.hid hown9
      have HG9 := Lib.hid (show w.grownBy w9 none from gr_own HG8.out HO8.out.1 (Nat.le_refl _) hg9)
      clear hown9 hg9
      go_wp2_with fail
      go_ret
      exact ⟨Ao, _, co, rfl, HO9.out, HG9.out⟩
end Go.Proofs.YtpjheibkacbbcaaGreatDoor

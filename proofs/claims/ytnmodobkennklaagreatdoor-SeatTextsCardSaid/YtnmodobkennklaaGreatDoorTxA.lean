/- Contract of Text. Conditions: seats as they lie in memory; the table of powers of ten. -/
import Derived.Test.YtnmodobkennklaaGreatDoorTx9
namespace Go.Proofs.YtnmodobkennklaaGreatDoor
open Go.RowKit

section
variable {P : Program} {ls : List Oper} {md : Region.Mode} {Q : Exit → Act → World → Prop} {S : World → Prop} {b : Nat}
/-- Two that can come up, either first. -/
theorem B_runTwo {fuel k1 k2 : Nat} {listed : Array Bool} {o1 o2 : Oper} {a : Act} {w : World} (ho1 : opAt ls k1 = some o1) (ho2 : opAt ls k2 = some o2) (hr : Region.ready md ls.toArray listed = [k1, k2]) (hw1 : Region.wanted o1 (yielded ls.toArray a.tmps) = true) (hw2 : Region.wanted o2 (yielded ls.toArray a.tmps) = true)
    (h1 : ∀ K : Act → World → Prop, (∀ a' w', ((listed.setIfInBounds k1 true).getD b false = true ∨ S w') → wpAnyB P md ls.toArray Q S b fuel (listed.setIfInBounds k1 true) a' w' → K a' w') → o1.wp P a w K Q)
    (h2 : ∀ K : Act → World → Prop, (∀ a' w', ((listed.setIfInBounds k2 true).getD b false = true ∨ S w') → wpAnyB P md ls.toArray Q S b fuel (listed.setIfInBounds k2 true) a' w' → K a' w') → o2.wp P a w K Q) : wpAnyB P md ls.toArray Q S b (fuel + 1) listed a w := by
  refine ⟨fun h => (by rw [hr] at h; cases h), fun i hi => ?_⟩
  rw [hr] at hi
  have hik : i = k1 ∨ i = k2 := by simpa using hi
  rcases hik with rfl | rfl
  · rw [opAt_eq] at ho1
    unfold wpOp
    simp only [ho1, hw1, if_true]
    exact .inl (h1 _ fun a' w' hs h => ⟨hs, h⟩)
  · rw [opAt_eq] at ho2
    unfold wpOp
    simp only [ho2, hw2, if_true]
    exact .inl (h2 _ fun a' w' hs h => ⟨hs, h⟩)
end
def textV (l : List SeV) (n : Nat) : ByteArray := if wellE l = 0 then ⟨(seTo l n).toArray⟩ else ⟨#[]⟩
set_option maxHeartbeats 16000000 in
set_option maxRecDepth 100000 in
theorem queueText_any (lo : Nat) (A : Option Addr) (n c0 : Nat) (l : List SeV) (w : World) (hS : Sws w lo A n c0 l) (hn : n ≤ 1000000) (hp : PwT w) :
    Calls Tryz.prog 25 #[.slice A n c0] w (RetV (.tuple #[.string (textV l n), .int .i64 (wellE l)]) w) := by
  have HSE := Lib.hid hS; have HPW := Lib.hid hp
  have hls := hS.1.len
  obtain ⟨E, hE⟩ : ∃ E, wellE l = E := ⟨_, rfl⟩
  have HE := Lib.hid hE
  obtain ⟨nl, hnl⟩ : ∃ x, (⟨#[10]⟩ : ByteArray) = x := ⟨_, rfl⟩
  have HNL1 := Lib.hid (show nl.size = 1 by rw [← hnl]; rfl)
  have HNL := Lib.hid (show nl.data.toList = [10] by rw [← hnl])
  clear hS hp
  go_enter Tryz.func25, Tryz.ntmps25
  go_wp2_with fail
  refine (checkWell_any lo A n c0 l _ HSE.out (by omega)).mono ?_
  rintro e w0 ⟨rfl, hg0⟩
  rw [hE]
  by_cases h0 : E = 0
  · have d0 : (E != 0) = false := by simpa using h0
    obtain ⟨hl5, hwe⟩ := well_all (hE.trans h0)
    have hn5 : n ≤ 500 := by omega
    have HWE := Lib.hid (fun z hz => we_parts (hwe z hz))
    have HLEN := Lib.hid (fun k => seTo_len (l := l) (fun z hz => ⟨we_parts (hwe z hz), HSE.out.2 z hz⟩) k)
    have HV := Lib.hid (show (Value.tuple #[.string (textV l n), .int .i64 E]) = .tuple #[.string ⟨(seTo l n).toArray⟩, .int .i64 0] by unfold textV; rw [hE, if_pos h0, h0])
    obtain ⟨wb, hwb⟩ : ∃ v, w0.alloc (.cells #[.pointer none, .slice none 0 0] 142) = v := ⟨_, rfl⟩
    obtain ⟨bb, hbb⟩ : ∃ b, w0.heap.size = b := ⟨_, rfl⟩
    have HG := Lib.hid (show w.grownBy wb none by rw [← hwb]; exact gr_alloc hg0 _)
    have hsz0 := hg0.size
    have HBU0 := Lib.hid (show Lib.IsBuilder 142 5 w.heap.size bb (Lib.byteCells (seTo l 0)) wb from .inl ⟨by rw [← hbb]; exact hsz0, .slice none 0 0, by rw [← hwb, ← hbb]; exact Blk.new _ _ _, Own.nil _ _ _ _, by simp [Value.ownBlock]⟩)
    have HWB := Lib.hid hwb; have HBB := Lib.hid hbb
    clear hE hl5 hwe h0 hwb hbb hg0 hsz0 hls
    go_upto_region 5 with (fail)
    rw [HWB.out]
    (try rw [HBB.out])
    clear HWB HBB d0
    go_wp2_with fail
    go_loopw [7, 8, 16] (fun _ _ t wr => ∃ k : Nat, k ≤ n ∧ t = .int .i64 k ∧ w.grownBy wr none ∧ Lib.IsBuilder 142 5 w.heap.size bb (Lib.byteCells (seTo l k)) wr) (fun _ _ t _ => n - (intOf t).toNat)
    case atStart => exact ⟨0, Nat.zero_le _, rfl, HG.out, HBU0.out⟩
    case round =>
      obtain ⟨k, hk, rfl, hg, hbu⟩ := hrel
      clear HG HBU0
      have HG := Lib.hid hg; have HBU := Lib.hid hbu
      have hsl := HLEN.out k
      clear hg hbu
      by_cases hlt : k < n
      · obtain ⟨sg, so, z, rfl, _, _, hz2, hzc⟩ := (HSE.out.1.grown HG.out (fun g e => by cases e)).get SeV.row_len hlt
        have hz := HSE.out.2 z (mem_of_get hz2)
        have hwz := HWE.out z (mem_of_get hz2)
        obtain ⟨a1, a2, a3, a4, a5, a6⟩ := hwz
        obtain ⟨j, hj, hj4, hw4, hw5, hw8⟩ := wd_at a1 a2
        have hll := (seLine_len (show WfS z from ⟨a1, a2, a3, a4, a5, a6⟩) hz).2
        have HZC := Lib.hid hzc
        have HTO := Lib.hid (seTo_succ hz2)
        have HWJ := Lib.hid hw4
        have HHJ := Lib.hid (show z.how = ((j : Nat) : Int) + 1 from hj)
        obtain ⟨J, hJ⟩ : ∃ J, jnS (seWords z) = J := ⟨_, rfl⟩
        have hln : seLine z = J.data.toList ++ [10] := by unfold seLine; rw [hJ]
        have HLN := Lib.hid hln
        have hjw : jnS [z.ca, wdS z.how, dashS z.ag, itS z.beg, itS z.fin] = J := hJ
        rw [hJ] at hll
        obtain ⟨IB, hIB⟩ : ∃ I, itS z.beg = I := ⟨_, rfl⟩
        obtain ⟨IF, hIF⟩ : ∃ I, itS z.fin = I := ⟨_, rfl⟩
        obtain ⟨DA, hDA⟩ : ∃ I, dashS z.ag = I := ⟨_, rfl⟩
        obtain ⟨WD, hWD⟩ : ∃ I, wdS z.how = I := ⟨_, rfl⟩
        rw [hIB, hIF, hDA, hWD] at hjw
        rw [hWD] at HWJ
        have HIB := Lib.hid hIB; have HIF := Lib.hid hIF; have HDA := Lib.hid hDA; have HJW := Lib.hid hjw
        have hlt2 : (k : Int) < (n : Int) := by omega
        clear hz2 hzc hz hw4 hw5 hw8 hj hJ hln hjw hIB hIF hDA hWD a1 a2
        obtain ⟨w1, hw1⟩ : ∃ w1, wr.alloc (.cells #[.string z.ca, .string z.ag, .int .i64 z.how, .int .i64 z.beg, .int .i64 z.fin] 58) = w1 := ⟨_, rfl⟩
        obtain ⟨zb, hzb⟩ : ∃ zb, wr.heap.size = zb := ⟨_, rfl⟩
        have HB := Lib.hid (show Blk w1 zb 58 #[.string z.ca, .string z.ag, .int .i64 z.how, .int .i64 z.beg, .int .i64 z.fin] by rw [← hw1, ← hzb]; exact Blk.new _ _ _)
        have hga : wr.grownBy w1 none := by rw [← hw1]; exact gr_alloc (gr_refl _ _) _
        have HW1 := Lib.hid hw1; have HZB := Lib.hid hzb
        clear hw1 hzb
        replace HG := Lib.hid (gr_none HG.out hga)
        replace HBU := Lib.hid (IsBuilder.kept HBU.out hga)
        clear hga
        go_upto_region 8 with (first
          | (refine wpl_load_at Tryz.seT rfl _ rfl _ rfl [.string z.ca, .string z.ag, .int .i64 z.how, .int .i64 z.beg, .int .i64 z.fin] rfl (fun j u hu => by rw [add_mk]; exact HZC.out j u hu) ?_)
          | fail)
        rw [HW1.out]
        (try rw [HZB.out])
        clear HZC HW1 HZB
        have k1 := HB.out.cell 1
        obtain ⟨AE, hAE⟩ : ∃ b, z.ag.toList.isEmpty = b := ⟨_, rfl⟩
        go_upto_if 23 with (fail)
        have HAE := Lib.hid hAE
        clear hAE
        obtain ⟨wv, rfl⟩ : ∃ wv : World, wv = w1 := ⟨_, rfl⟩
        go_cut [8] (fun v wx => v = .string DA ∧ wx = wv)
        case first =>
          cases AE
          · have hd := Lib.hid (show DA = z.ag by rw [← HDA.out]; exact if_neg (List.isEmpty_eq_false_iff.1 HAE.out))
            go_wp2_with fail
            go_meet
            exact ⟨by rw [hd.out], rfl⟩
          · have hd := Lib.hid (show DA = ⟨#[45]⟩ by rw [← HDA.out]; exact if_pos (List.isEmpty_iff.1 HAE.out))
            go_wp2_with fail
            go_meet
            exact ⟨by rw [hd.out], rfl⟩
        case rest =>
          obtain ⟨rfl, rfl⟩ := hcut
          obtain ⟨w1, rfl⟩ : ∃ w1 : World, w1 = wc := ⟨_, rfl⟩
          clear k1
          go_upto_region 11 with (fail)
          refine wp_region_B (fun w' => w1.grownBy w' none) 15 (by kernel_rfl) ?_
          have hHeld : w1.grownBy w1.drew none := gr_drew (gr_refl _ _)
          generalize w1.drew = wd at hHeld ⊢
          have hHJ : z.how = (j : Int) + 1 := HHJ.out
          have q1 : IntKind.i64.wrap ((j : Int) + 1 - 1) = (j : Int) := by rw [IntWalk.i64_in _ (by omega)]; omega
          have q1b : IntKind.i64.wrap (j : Int) = (j : Int) := IntWalk.i64_in _ (by omega)
          refine B_take (k := 0) false (v := ?_) (by rfl) (by kernel_rfl) (by exact fun _ _ _ h => h) (by rfl) ?_ (by first | exact .inr hHeld | exact .inl (by rfl)) ?_
          rotate_left 1
          · intro w hSw
            clear hSw
            go_simp
            (try with_reducible rfl)
          (try simp only [Act.put, List.setIfInBounds_toArray, List.set_cons_zero, List.set_cons_succ])
          refine B_take (k := 3) false (v := ?_) (by rfl) (by kernel_rfl) (by exact fun _ _ _ h => h) (by rfl) ?_ (by first | exact .inr hHeld | exact .inl (by rfl)) ?_
          rotate_left 1
          · intro w hSw
            clear hSw
            go_simp
            (try with_reducible rfl)
          (try simp only [Act.put, List.setIfInBounds_toArray, List.set_cons_zero, List.set_cons_succ])
          refine B_take (k := 8) false (v := ?_) (by rfl) (by kernel_rfl) (by exact fun _ _ _ h => h) (by rfl) ?_ (by first | exact .inr hHeld | exact .inl (by rfl)) ?_
          rotate_left 1
          · intro w hSw
            clear hSw
            go_simp
            (try with_reducible rfl)
          (try simp only [Act.put, List.setIfInBounds_toArray, List.set_cons_zero, List.set_cons_succ])
          refine B_take (k := 9) false (v := ?_) (by rfl) (by kernel_rfl) (by exact fun _ _ _ h => h) (by rfl) ?_ (by first | exact .inr hHeld | exact .inl (by rfl)) ?_
          rotate_left 1
          · intro w hSw
            clear hSw
            go_simp
            (try with_reducible rfl)
          (try simp only [Act.put, List.setIfInBounds_toArray, List.set_cons_zero, List.set_cons_succ])
          refine B_take (k := 12) false (v := ?_) (by rfl) (by kernel_rfl) (by exact fun _ _ _ h => h) (by rfl) ?_ (by first | exact .inr hHeld | exact .inl (by rfl)) ?_
          rotate_left 1
          · intro w hSw
            clear hSw
            go_simp
            (try with_reducible rfl)
          (try simp only [Act.put, List.setIfInBounds_toArray, List.set_cons_zero, List.set_cons_succ])
          refine B_take (k := 1) true (v := ?_) (by rfl) (by kernel_rfl) (by exact fun _ _ _ h => h) (by rfl) ?_ (.inr hHeld) ?_
          rotate_left 1
          · intro w' hSw
            have kc := (HB.out.grown hSw (by simp)).cell 0
            go_simp
            (try with_reducible rfl)
          (try simp only [Act.put, List.setIfInBounds_toArray, List.set_cons_zero, List.set_cons_succ])
          refine B_take (k := 4) true (v := ?_) (by rfl) (by kernel_rfl) (by exact fun _ _ _ h => h) (by rfl) ?_ (.inr hHeld) ?_
          rotate_left 1
          · intro w' hSw
            have kc := (HB.out.grown hSw (by simp)).cell 2
            rw [hHJ] at kc
            go_simp
            (try with_reducible rfl)
          (try simp only [Act.put, List.setIfInBounds_toArray, List.set_cons_zero, List.set_cons_succ])
          refine B_take (k := 10) true (v := ?_) (by rfl) (by kernel_rfl) (by exact fun _ _ _ h => h) (by rfl) ?_ (.inr hHeld) ?_
          rotate_left 1
          · intro w' hSw
            have kc := (HB.out.grown hSw (by simp)).cell 3
            go_simp
            (try with_reducible rfl)
          (try simp only [Act.put, List.setIfInBounds_toArray, List.set_cons_zero, List.set_cons_succ])
          refine B_take (k := 13) true (v := ?_) (by rfl) (by kernel_rfl) (by exact fun _ _ _ h => h) (by rfl) ?_ (.inr hHeld) ?_
          rotate_left 1
          · intro w' hSw
            have kc := (HB.out.grown hSw (by simp)).cell 4
            go_simp
            (try with_reducible rfl)
          (try simp only [Act.put, List.setIfInBounds_toArray, List.set_cons_zero, List.set_cons_succ])
          refine B_take (k := 5) false (v := ?_) (by rfl) (by kernel_rfl) (by exact fun _ _ _ h => h) (by rfl) ?_ (by first | exact .inr hHeld | exact .inl (by rfl)) ?_
          rotate_left 1
          · intro w hSw
            clear hSw
            go_simp
            (try with_reducible rfl)
          (try simp only [Act.put, List.setIfInBounds_toArray, List.set_cons_zero, List.set_cons_succ])
          refine B_run (k := 2) (by rfl) (by kernel_rfl) (by rfl) (fun K hK => ?_)
          go_simp
          refine (pWordsOf_any _).mono ?_
          rintro e w3 ⟨rfl, hr3, hg3⟩
          have hgz := gr_none hHeld hg3
          refine hK _ _ (.inr hgz) ?_
          clear hK K hHeld hg3
          have hHeld := hgz
          have HW3 := Lib.hid hr3
          clear hr3 hgz
          (try simp only [Act.put, List.setIfInBounds_toArray, List.set_cons_zero, List.set_cons_succ])
          have p1 : (0 : Int) ≤ (j : Int) := by omega
          have p2 : (j : Int) < 4 := by omega
          refine B_take (k := 6) false (v := ?_) (by rfl) (by kernel_rfl) (by exact fun _ _ _ h => h) (by rfl) ?_ (by first | exact .inr hHeld | exact .inl (by rfl)) ?_
          rotate_left 1
          · intro w hSw
            clear hSw
            go_simp
            (try with_reducible rfl)
          (try simp only [Act.put, List.setIfInBounds_toArray, List.set_cons_zero, List.set_cons_succ])
          have kw := HW3.out.at_ srow_len HWJ.out 0 _ rfl
          simp only [Nat.mul_one, Nat.add_zero, Nat.zero_add] at kw
          refine B_runTwo (k1 := 7) (k2 := 11) (by rfl) (by rfl) (by kernel_rfl) (by rfl) (by rfl) (fun K hK => ?_) (fun K hK => ?_)
          · go_simp
            refine hK _ _ (.inr hHeld) ?_
            clear hK K
            clear kw
            (try simp only [Act.put, List.setIfInBounds_toArray, List.set_cons_zero, List.set_cons_succ])
            refine B_run (k := 11) (by rfl) (by kernel_rfl) (by rfl) (fun K hK => ?_)
            go_simp
            refine (itoaS_any z.beg _ (by omega) (by omega) (HPW.out.grown (gr_none HG.out hHeld))).mono ?_
            rintro e wx ⟨rfl, hgx⟩
            rw [HIB.out]
            have hgz := gr_none hHeld hgx
            refine hK _ _ (.inr hgz) ?_
            clear hK K
            replace HW3 := Lib.hid (HW3.out.grown hgx (fun g e => by cases e))
            clear hHeld hgx
            have hHeld := hgz
            clear hgz
            (try simp only [Act.put, List.setIfInBounds_toArray, List.set_cons_zero, List.set_cons_succ])
            refine B_run (k := 14) (by rfl) (by kernel_rfl) (by rfl) (fun K hK => ?_)
            go_simp
            refine (itoaS_any z.fin _ (by omega) (by omega) (HPW.out.grown (gr_none HG.out hHeld))).mono ?_
            rintro e wx ⟨rfl, hgx⟩
            rw [HIF.out]
            have hgz := gr_none hHeld hgx
            refine hK _ _ (.inr hgz) ?_
            clear hK K
            replace HW3 := Lib.hid (HW3.out.grown hgx (fun g e => by cases e))
            clear hHeld hgx
            have hHeld := hgz
            clear hgz
            (try simp only [Act.put, List.setIfInBounds_toArray, List.set_cons_zero, List.set_cons_succ])
            obtain ⟨w8, rfl⟩ : ∃ w8 : World, w8 = wx := ⟨_, rfl⟩
            obtain ⟨b8, hb8⟩ : ∃ b, w8.heap.size = b := ⟨_, rfl⟩
            obtain ⟨wa, hwa⟩ : ∃ v, w8.alloc (.cells #[.string z.ca, .string WD, .string DA, .string IB, .string IF] 9) = v := ⟨_, rfl⟩
            have hga : w8.grownBy wa none := by rw [← hwa]; exact gr_alloc (gr_refl _ _) _
            have HRC := Lib.hid (show Recs srow 1 wa b8 (some ⟨b8, 0, none⟩) 5 5 [z.ca, WD, DA, IB, IF] from ⟨by rw [flat_srow, ← hwa, ← hb8]; exact Reads.blk (Blk.new _ _ _) 1 5 rfl, rfl⟩)
            have hgz := gr_none hHeld hga
            refine B_run (k := 15) (by rfl) (by kernel_rfl) (by rfl) (fun K hK => ?_)
            go_simp
            (try rw [hwa])
            (try rw [hb8])
            refine hK _ _ (.inr hgz) ?_
            clear hK K
            clear hHeld hwa hb8 hga
            have hHeld := hgz
            clear hgz
            (try simp only [Act.put, List.setIfInBounds_toArray, List.set_cons_zero, List.set_cons_succ])
            refine B_run (k := 16) (by rfl) (by kernel_rfl) (by rfl) (fun K hK => ?_)
            go_simp
            refine (join_any b8 [z.ca, WD, DA, IB, IF] 5 b8 _ HRC.out (by omega) (by omega) (by rw [HJW.out]; omega)).mono ?_
            rintro e w9 ⟨rfl, hg9⟩
            rw [HJW.out]
            have hgz := gr_none hHeld hg9
            refine hK _ _ (.inr hgz) ?_
            clear hK K
            clear hHeld hg9 HRC
            have hHeld := hgz
            (try simp only [Act.put, List.setIfInBounds_toArray, List.set_cons_zero, List.set_cons_succ])
            have a1 : ¬ 9223372036854775807 < J.size + nl.size := by have := HNL1.out; omega
            obtain ⟨JN, hJN⟩ : ∃ x, J ++ nl = x := ⟨_, rfl⟩
            have HJN1 := Lib.hid (show JN.size = J.size + 1 by rw [← hJN, appS2, HNL1.out])
            have HJN := Lib.hid (show JN.data.toList = seLine z by rw [← hJN, data_app, HNL.out, HLN.out])
            refine B_take (k := 17) false (v := ?_) (by rfl) (by kernel_rfl) (by exact fun _ _ _ h => h) (by rfl) ?_ (by first | exact .inr hHeld | exact .inl (by rfl)) ?_
            rotate_left 1
            · intro w hSw
              clear hSw
              go_simp
              (try with_reducible rfl)
            (try simp only [Act.put, List.setIfInBounds_toArray, List.set_cons_zero, List.set_cons_succ])
            have hg1 := gr_none HG.out hgz
            have hgs := hg1.size
            refine B_run (k := 18) (by rfl) (by kernel_rfl) (by rfl) (fun K hK => ?_)
            go_simp
            refine (Tryz.Builder_WriteString w.heap.size bb (Lib.byteCells (seTo l k)) JN _ (IsBuilder.kept HBU.out hgz) (by rw [Lib.byteCells_length]; have := HJN1.out; omega) hgs).mono ?_
            rintro e wz ⟨rfl, hba, hbl⟩
            refine hK _ _ (.inl (by rfl)) ?_
            clear hK K
            (try simp only [Act.put, List.setIfInBounds_toArray, List.set_cons_zero, List.set_cons_succ])
            refine B_done (by kernel_rfl) ?_
            have HGZ := Lib.hid (show w.grownBy wz none from gr_below ((below_gr hg1).trans hbl) none)
            have HBZ := Lib.hid (show Lib.IsBuilder 142 5 w.heap.size bb (Lib.byteCells (seTo l (k + 1))) wz by
              rw [HTO.out, Lib.byteCells_append, ← HJN.out]
              exact .inr hba)
            clear hHeld hgz hJN a1 hg1 hgs hba hbl
            go_wp2_with fail
            go_roundw
            case rel => exact ⟨k + 1, by omega, by go_num, HGZ.out, HBZ.out⟩
            case measure => simp [intOf]; omega
          · clear kw
            go_simp
            refine (itoaS_any z.beg _ (by omega) (by omega) (HPW.out.grown (gr_none HG.out hHeld))).mono ?_
            rintro e wx ⟨rfl, hgx⟩
            rw [HIB.out]
            have hgz := gr_none hHeld hgx
            refine hK _ _ (.inr hgz) ?_
            clear hK K
            replace HW3 := Lib.hid (HW3.out.grown hgx (fun g e => by cases e))
            clear hHeld hgx
            have hHeld := hgz
            clear hgz
            (try simp only [Act.put, List.setIfInBounds_toArray, List.set_cons_zero, List.set_cons_succ])
            have kw := HW3.out.at_ srow_len HWJ.out 0 _ rfl
            simp only [Nat.mul_one, Nat.add_zero, Nat.zero_add] at kw
            refine B_runTwo (k1 := 7) (k2 := 14) (by rfl) (by rfl) (by kernel_rfl) (by rfl) (by rfl) (fun K hK => ?_) (fun K hK => ?_)
            · go_simp
              refine hK _ _ (.inr hHeld) ?_
              clear hK K
              clear kw
              (try simp only [Act.put, List.setIfInBounds_toArray, List.set_cons_zero, List.set_cons_succ])
              refine B_run (k := 14) (by rfl) (by kernel_rfl) (by rfl) (fun K hK => ?_)
              go_simp
              refine (itoaS_any z.fin _ (by omega) (by omega) (HPW.out.grown (gr_none HG.out hHeld))).mono ?_
              rintro e wx ⟨rfl, hgx⟩
              rw [HIF.out]
              have hgz := gr_none hHeld hgx
              refine hK _ _ (.inr hgz) ?_
              clear hK K
              replace HW3 := Lib.hid (HW3.out.grown hgx (fun g e => by cases e))
              clear hHeld hgx
              have hHeld := hgz
              clear hgz
              (try simp only [Act.put, List.setIfInBounds_toArray, List.set_cons_zero, List.set_cons_succ])
              obtain ⟨w8, rfl⟩ : ∃ w8 : World, w8 = wx := ⟨_, rfl⟩
              obtain ⟨b8, hb8⟩ : ∃ b, w8.heap.size = b := ⟨_, rfl⟩
              obtain ⟨wa, hwa⟩ : ∃ v, w8.alloc (.cells #[.string z.ca, .string WD, .string DA, .string IB, .string IF] 9) = v := ⟨_, rfl⟩
              have hga : w8.grownBy wa none := by rw [← hwa]; exact gr_alloc (gr_refl _ _) _
              have HRC := Lib.hid (show Recs srow 1 wa b8 (some ⟨b8, 0, none⟩) 5 5 [z.ca, WD, DA, IB, IF] from ⟨by rw [flat_srow, ← hwa, ← hb8]; exact Reads.blk (Blk.new _ _ _) 1 5 rfl, rfl⟩)
              have hgz := gr_none hHeld hga
              refine B_run (k := 15) (by rfl) (by kernel_rfl) (by rfl) (fun K hK => ?_)
              go_simp
              (try rw [hwa])
              (try rw [hb8])
              refine hK _ _ (.inr hgz) ?_
              clear hK K
              clear hHeld hwa hb8 hga
              have hHeld := hgz
              clear hgz
              (try simp only [Act.put, List.setIfInBounds_toArray, List.set_cons_zero, List.set_cons_succ])
              refine B_run (k := 16) (by rfl) (by kernel_rfl) (by rfl) (fun K hK => ?_)
              go_simp
              refine (join_any b8 [z.ca, WD, DA, IB, IF] 5 b8 _ HRC.out (by omega) (by omega) (by rw [HJW.out]; omega)).mono ?_
              rintro e w9 ⟨rfl, hg9⟩
              rw [HJW.out]
              have hgz := gr_none hHeld hg9
              refine hK _ _ (.inr hgz) ?_
              clear hK K
              clear hHeld hg9 HRC
              have hHeld := hgz
              (try simp only [Act.put, List.setIfInBounds_toArray, List.set_cons_zero, List.set_cons_succ])
              have a1 : ¬ 9223372036854775807 < J.size + nl.size := by have := HNL1.out; omega
              obtain ⟨JN, hJN⟩ : ∃ x, J ++ nl = x := ⟨_, rfl⟩
              have HJN1 := Lib.hid (show JN.size = J.size + 1 by rw [← hJN, appS2, HNL1.out])
              have HJN := Lib.hid (show JN.data.toList = seLine z by rw [← hJN, data_app, HNL.out, HLN.out])
              refine B_take (k := 17) false (v := ?_) (by rfl) (by kernel_rfl) (by exact fun _ _ _ h => h) (by rfl) ?_ (by first | exact .inr hHeld | exact .inl (by rfl)) ?_
              rotate_left 1
              · intro w hSw
                clear hSw
                go_simp
                (try with_reducible rfl)
              (try simp only [Act.put, List.setIfInBounds_toArray, List.set_cons_zero, List.set_cons_succ])
              have hg1 := gr_none HG.out hgz
              have hgs := hg1.size
              refine B_run (k := 18) (by rfl) (by kernel_rfl) (by rfl) (fun K hK => ?_)
              go_simp
              refine (Tryz.Builder_WriteString w.heap.size bb (Lib.byteCells (seTo l k)) JN _ (IsBuilder.kept HBU.out hgz) (by rw [Lib.byteCells_length]; have := HJN1.out; omega) hgs).mono ?_
              rintro e wz ⟨rfl, hba, hbl⟩
              refine hK _ _ (.inl (by rfl)) ?_
              clear hK K
              (try simp only [Act.put, List.setIfInBounds_toArray, List.set_cons_zero, List.set_cons_succ])
              refine B_done (by kernel_rfl) ?_
              have HGZ := Lib.hid (show w.grownBy wz none from gr_below ((below_gr hg1).trans hbl) none)
              have HBZ := Lib.hid (show Lib.IsBuilder 142 5 w.heap.size bb (Lib.byteCells (seTo l (k + 1))) wz by
                rw [HTO.out, Lib.byteCells_append, ← HJN.out]
                exact .inr hba)
              clear hHeld hgz hJN a1 hg1 hgs hba hbl
              go_wp2_with fail
              go_roundw
              case rel => exact ⟨k + 1, by omega, by go_num, HGZ.out, HBZ.out⟩
              case measure => simp [intOf]; omega
            · clear kw
              go_simp
              refine (itoaS_any z.fin _ (by omega) (by omega) (HPW.out.grown (gr_none HG.out hHeld))).mono ?_
              rintro e wx ⟨rfl, hgx⟩
              rw [HIF.out]
              have hgz := gr_none hHeld hgx
              refine hK _ _ (.inr hgz) ?_
              clear hK K
              replace HW3 := Lib.hid (HW3.out.grown hgx (fun g e => by cases e))
              clear hHeld hgx
              have hHeld := hgz
              clear hgz
              (try simp only [Act.put, List.setIfInBounds_toArray, List.set_cons_zero, List.set_cons_succ])
              have kw := HW3.out.at_ srow_len HWJ.out 0 _ rfl
              simp only [Nat.mul_one, Nat.add_zero, Nat.zero_add] at kw
              refine B_run (k := 7) (by rfl) (by kernel_rfl) (by rfl) (fun K hK => ?_)
              go_simp
              refine hK _ _ (.inr hHeld) ?_
              clear hK K
              clear kw
              (try simp only [Act.put, List.setIfInBounds_toArray, List.set_cons_zero, List.set_cons_succ])
              obtain ⟨w8, rfl⟩ : ∃ w8 : World, w8 = wx := ⟨_, rfl⟩
              obtain ⟨b8, hb8⟩ : ∃ b, w8.heap.size = b := ⟨_, rfl⟩
              obtain ⟨wa, hwa⟩ : ∃ v, w8.alloc (.cells #[.string z.ca, .string WD, .string DA, .string IB, .string IF] 9) = v := ⟨_, rfl⟩
              have hga : w8.grownBy wa none := by rw [← hwa]; exact gr_alloc (gr_refl _ _) _
              have HRC := Lib.hid (show Recs srow 1 wa b8 (some ⟨b8, 0, none⟩) 5 5 [z.ca, WD, DA, IB, IF] from ⟨by rw [flat_srow, ← hwa, ← hb8]; exact Reads.blk (Blk.new _ _ _) 1 5 rfl, rfl⟩)
              have hgz := gr_none hHeld hga
              refine B_run (k := 15) (by rfl) (by kernel_rfl) (by rfl) (fun K hK => ?_)
              go_simp
              (try rw [hwa])
              (try rw [hb8])
              refine hK _ _ (.inr hgz) ?_
              clear hK K
              clear hHeld hwa hb8 hga
              have hHeld := hgz
              clear hgz
              (try simp only [Act.put, List.setIfInBounds_toArray, List.set_cons_zero, List.set_cons_succ])
              refine B_run (k := 16) (by rfl) (by kernel_rfl) (by rfl) (fun K hK => ?_)
              go_simp
              refine (join_any b8 [z.ca, WD, DA, IB, IF] 5 b8 _ HRC.out (by omega) (by omega) (by rw [HJW.out]; omega)).mono ?_
              rintro e w9 ⟨rfl, hg9⟩
              rw [HJW.out]
              have hgz := gr_none hHeld hg9
              refine hK _ _ (.inr hgz) ?_
              clear hK K
              clear hHeld hg9 HRC
              have hHeld := hgz
              (try simp only [Act.put, List.setIfInBounds_toArray, List.set_cons_zero, List.set_cons_succ])
              have a1 : ¬ 9223372036854775807 < J.size + nl.size := by have := HNL1.out; omega
              obtain ⟨JN, hJN⟩ : ∃ x, J ++ nl = x := ⟨_, rfl⟩
              have HJN1 := Lib.hid (show JN.size = J.size + 1 by rw [← hJN, appS2, HNL1.out])
              have HJN := Lib.hid (show JN.data.toList = seLine z by rw [← hJN, data_app, HNL.out, HLN.out])
              refine B_take (k := 17) false (v := ?_) (by rfl) (by kernel_rfl) (by exact fun _ _ _ h => h) (by rfl) ?_ (by first | exact .inr hHeld | exact .inl (by rfl)) ?_
              rotate_left 1
              · intro w hSw
                clear hSw
                go_simp
                (try with_reducible rfl)
              (try simp only [Act.put, List.setIfInBounds_toArray, List.set_cons_zero, List.set_cons_succ])
              have hg1 := gr_none HG.out hgz
              have hgs := hg1.size
              refine B_run (k := 18) (by rfl) (by kernel_rfl) (by rfl) (fun K hK => ?_)
              go_simp
              refine (Tryz.Builder_WriteString w.heap.size bb (Lib.byteCells (seTo l k)) JN _ (IsBuilder.kept HBU.out hgz) (by rw [Lib.byteCells_length]; have := HJN1.out; omega) hgs).mono ?_
              rintro e wz ⟨rfl, hba, hbl⟩
              refine hK _ _ (.inl (by rfl)) ?_
              clear hK K
              (try simp only [Act.put, List.setIfInBounds_toArray, List.set_cons_zero, List.set_cons_succ])
              refine B_done (by kernel_rfl) ?_
              have HGZ := Lib.hid (show w.grownBy wz none from gr_below ((below_gr hg1).trans hbl) none)
              have HBZ := Lib.hid (show Lib.IsBuilder 142 5 w.heap.size bb (Lib.byteCells (seTo l (k + 1))) wz by
                rw [HTO.out, Lib.byteCells_append, ← HJN.out]
                exact .inr hba)
              clear hHeld hgz hJN a1 hg1 hgs hba hbl
              go_wp2_with fail
              go_roundw
              case rel => exact ⟨k + 1, by omega, by go_num, HGZ.out, HBZ.out⟩
              case measure => simp [intOf]; omega


      · obtain rfl : k = n := by omega
        have hgs := HG.out.size
        go_wp2_with fail
        refine (Tryz.Builder_String_any w.heap.size bb (seTo l k) _ HBU.out hgs).mono ?_
        rintro e wz ⟨rfl, hbl⟩
        have HGZ := Lib.hid (show w.grownBy wz none from gr_below ((below_gr HG.out).trans hbl) none)
        clear hbl hgs
        go_wp2_with fail
        go_ret2
        exact ⟨by rw [HE.out, HV.out]; try rfl, HGZ.out⟩
  · have d0 : (E != 0) = true := by simpa using h0
    have HG := Lib.hid hg0
    have HV := Lib.hid (show (Value.tuple #[.string (textV l n), .int .i64 E]) = .tuple #[.string ⟨#[]⟩, .int .i64 E] by unfold textV; rw [hE, if_neg h0])
    clear h0 hE hg0
    go_wp2_with fail
    go_ret2
    exact ⟨by rw [HE.out, HV.out]; try rfl, HG.out⟩
end Go.Proofs.YtnmodobkennklaaGreatDoor

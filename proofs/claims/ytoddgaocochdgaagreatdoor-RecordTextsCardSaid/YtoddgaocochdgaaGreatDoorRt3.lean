/- Contract of account.Text. Conditions: records as they lie in memory; a text that is not too long; the table of powers of ten. -/
import Derived.Test.YtoddgaocochdgaaGreatDoorRt2
import Derived.Test.YtoddgaocochdgaaGreatDoorRc3
import Derived.Test.YtoddgaocochdgaaGreatDoorTxW
import Derived.Deep.CutBlock
namespace Go.Proofs.YtoddgaocochdgaaGreatDoor
open Go.RowKit

theorem IsBuilder.kept {w w' : World} {B b : Nat} {bs : List Value} (h : Lib.IsBuilder 141 5 B b bs w) (hg : w.grownBy w' none) : Lib.IsBuilder 141 5 B b bs w' := by
  have key : ∀ p, Lib.BuilderAt 141 5 B b p bs w → Lib.BuilderAt 141 5 B b p bs w' := by
    rintro p ⟨h1, v, h2, h3, h4⟩
    have hlt : b < w.heap.size := (Array.getElem?_eq_some_iff.1 h2).1
    exact ⟨h1, v, by rw [hg.block b hlt (by simp)]; exact h2, World.ownsRow.kept h3 hg (by simp; exact Classical.em _), h4⟩
  exact h.elim (fun q => .inl (key _ q)) (fun q => .inr (key _ q))
def rcText (l : List RcV) (n : Nat) : ByteArray := if rcsE l = 0 then ⟨(rcTo l n).toArray⟩ else ⟨#[]⟩
set_option maxHeartbeats 16000000 in
set_option maxRecDepth 100000 in
theorem recordText_any (lo : Nat) (A : Option Addr) (n c0 : Nat) (l : List RcV) (w : World) (hS : Rcs w lo A n c0 l) (hn : n ≤ 40) (hp : PwT w) :
    Calls Tryz.prog 36 #[.slice A n c0] w (RetV (.tuple #[.string (rcText l n), .int .i64 (rcsE l)]) w) := by
  have HRC := Lib.hid hS; have HPW := Lib.hid hp
  obtain ⟨E, hE⟩ : ∃ E, rcsE l = E := ⟨_, rfl⟩
  have HE := Lib.hid hE
  obtain ⟨nl, hnl⟩ : ∃ x, (⟨#[10]⟩ : ByteArray) = x := ⟨_, rfl⟩
  have HNL1 := Lib.hid (show nl.size = 1 by rw [← hnl]; rfl)
  have HNL := Lib.hid (show nl.data.toList = [10] by rw [← hnl])
  clear hS hp
  go_enter Tryz.func36, Tryz.ntmps36
  go_wp2_with fail
  refine (checkRecords_any lo A n c0 l _ HRC.out (by omega)).mono ?_
  rintro e w0 ⟨rfl, hg0⟩
  rw [hE]
  by_cases h0 : E = 0
  · have d0 : (E != 0) = false := by simpa using h0
    have HRG := Lib.hid (rcs_all (hE.trans h0)).2
    have HLEN := Lib.hid (fun k => rcTo_len (l := l) (M := 1000) (fun z hz => ⟨HRG.out z hz, (HRC.out.2 z hz).1, (HRC.out.2 z hz).2.1, (HRC.out.2 z hz).2.2.1, (HRC.out.2 z hz).2.2.2.1⟩) k)
    have HV := Lib.hid (show (Value.tuple #[.string (rcText l n), .int .i64 E]) = .tuple #[.string ⟨(rcTo l n).toArray⟩, .int .i64 0] by unfold rcText; rw [hE, if_pos h0, h0])
    obtain ⟨wb, hwb⟩ : ∃ v, w0.alloc (.cells #[.pointer none, .slice none 0 0] 141) = v := ⟨_, rfl⟩
    obtain ⟨bb, hbb⟩ : ∃ b, w0.heap.size = b := ⟨_, rfl⟩
    have HG := Lib.hid (show w.grownBy wb none by rw [← hwb]; exact gr_alloc hg0 _)
    have hsz0 := hg0.size
    have HBU0 := Lib.hid (show Lib.IsBuilder 141 5 w.heap.size bb (Lib.byteCells (rcTo l 0)) wb from .inl ⟨by rw [← hbb]; exact hsz0, .slice none 0 0, by rw [← hwb, ← hbb]; exact Blk.new _ _ _, Own.nil _ _ _ _, by simp [Value.ownBlock]⟩)
    have HWB := Lib.hid hwb; have HBB := Lib.hid hbb
    clear hE h0 hwb hbb hg0 hsz0
    go_upto_region 5 with (fail)
    rw [HWB.out]
    (try rw [HBB.out])
    clear HWB HBB d0
    go_wp2_with fail
    go_loopw [7, 8, 16] (fun _ _ t wr => ∃ k : Nat, k ≤ n ∧ t = .int .i64 k ∧ w.grownBy wr none ∧ Lib.IsBuilder 141 5 w.heap.size bb (Lib.byteCells (rcTo l k)) wr) (fun _ _ t _ => n - (intOf t).toNat)
    case atStart => exact ⟨0, Nat.zero_le _, rfl, HG.out, HBU0.out⟩
    case round =>
      obtain ⟨k, hk, rfl, hg, hbu⟩ := hrel
      clear HG HBU0
      have HG := Lib.hid hg; have HBU := Lib.hid hbu
      have hsl := HLEN.out k
      clear hg hbu
      by_cases hlt : k < n
      · obtain ⟨sg, so, z, rfl, _, _, hz2, hzc⟩ := (HRC.out.1.grown HG.out (fun g e => by cases e)).get RcV.row_len hlt
        have hz := HRC.out.2 z (mem_of_get hz2)
        have hwz := HRG.out z (mem_of_get hz2)
        obtain ⟨⟨a1, a2⟩, ⟨a3, a4⟩, ⟨a5, a6⟩, a7, a8⟩ := hwz
        obtain ⟨j, hj, hj4, hw4, hw5, hw8⟩ := hw_at a1 a2
        have hll := (rcLine_len (M := 1000) (show RcRg z from ⟨⟨a1, a2⟩, ⟨a3, a4⟩, ⟨a5, a6⟩, a7, a8⟩) hz.1 hz.2.1 hz.2.2.1 hz.2.2.2.1).2
        have HZC := Lib.hid hzc
        have HTO := Lib.hid (rcTo_succ hz2)
        have HWJ := Lib.hid hw4
        have HHJ := Lib.hid (show z.how = ((j : Nat) : Int) + 1 from hj)
        obtain ⟨J, hJ⟩ : ∃ J, jnS (rcWords z) = J := ⟨_, rfl⟩
        have hln : rcLine z = J.data.toList ++ [10] := by unfold rcLine; rw [hJ]
        have HLN := Lib.hid hln
        have hjw : jnS [z.id, z.frm, z.too, itS z.at_, itS z.ring, itS z.talk, hwS z.how, dashS z.car] = J := hJ
        have q1 := itS_size (n := z.at_) (by omega) (by omega)
        have q2 := itS_size (n := z.ring) (by omega) (by omega)
        have q3 := itS_size (n := z.talk) (by omega) (by omega)
        rw [hJ] at hll
        obtain ⟨IA, hIA⟩ : ∃ I, itS z.at_ = I := ⟨_, rfl⟩
        obtain ⟨IR, hIR⟩ : ∃ I, itS z.ring = I := ⟨_, rfl⟩
        obtain ⟨IT, hIT⟩ : ∃ I, itS z.talk = I := ⟨_, rfl⟩
        obtain ⟨DC, hDC⟩ : ∃ I, dashS z.car = I := ⟨_, rfl⟩
        obtain ⟨WD, hWD⟩ : ∃ I, hwS z.how = I := ⟨_, rfl⟩
        rw [hIA, hIR, hIT, hDC, hWD] at hjw
        rw [hIA] at q1
        rw [hIR] at q2
        rw [hIT] at q3
        rw [hWD] at HWJ
        have HIA := Lib.hid hIA; have HIR := Lib.hid hIR; have HIT := Lib.hid hIT; have HDC := Lib.hid hDC; have HJW := Lib.hid hjw
        have hlt2 : (k : Int) < (n : Int) := by omega
        clear hz2 hzc hw4 hw5 hw8 hj hJ hln hjw hIA hIR hIT hDC hWD a1 a2 hz
        obtain ⟨w1, hw1⟩ : ∃ w1, wr.alloc (.cells #[.string z.id, .string z.frm, .string z.too, .int .i64 z.at_, .int .i64 z.ring, .int .i64 z.talk, .int .i64 z.how, .string z.car] 76) = w1 := ⟨_, rfl⟩
        obtain ⟨zb, hzb⟩ : ∃ zb, wr.heap.size = zb := ⟨_, rfl⟩
        have HB := Lib.hid (show Blk w1 zb 76 #[.string z.id, .string z.frm, .string z.too, .int .i64 z.at_, .int .i64 z.ring, .int .i64 z.talk, .int .i64 z.how, .string z.car] by rw [← hw1, ← hzb]; exact Blk.new _ _ _)
        have hga : wr.grownBy w1 none := by rw [← hw1]; exact gr_alloc (gr_refl _ _) _
        have HW1 := Lib.hid hw1; have HZB := Lib.hid hzb
        clear hw1 hzb
        replace HG := Lib.hid (gr_none HG.out hga)
        replace HBU := Lib.hid (IsBuilder.kept HBU.out hga)
        clear hga
        go_upto_region 8 with (first
          | (refine wpl_load_at Tryz.rcT rfl _ rfl _ rfl [.string z.id, .string z.frm, .string z.too, .int .i64 z.at_, .int .i64 z.ring, .int .i64 z.talk, .int .i64 z.how, .string z.car] rfl (fun j u hu => by rw [add_mk]; exact HZC.out j u hu) ?_)
          | fail)
        rw [HW1.out]
        (try rw [HZB.out])
        clear HZC HW1 HZB
        have k1 := HB.out.cell 7
        obtain ⟨AE, hAE⟩ : ∃ b, z.car.toList.isEmpty = b := ⟨_, rfl⟩
        go_upto_if 23 with (fail)
        have HAE := Lib.hid hAE
        clear hAE
        obtain ⟨wv, rfl⟩ : ∃ wv : World, wv = w1 := ⟨_, rfl⟩
        go_cut [8] (fun v wx => v = .string DC ∧ wx = wv)
        case first =>
          cases AE
          · have hd := Lib.hid (show DC = z.car by rw [← HDC.out]; exact if_neg (List.isEmpty_eq_false_iff.1 HAE.out))
            go_wp2_with fail
            go_meet
            exact ⟨by rw [hd.out], rfl⟩
          · have hd := Lib.hid (show DC = ⟨#[45]⟩ by rw [← HDC.out]; exact if_pos (List.isEmpty_iff.1 HAE.out))
            go_wp2_with fail
            go_meet
            exact ⟨by rw [hd.out], rfl⟩
        case rest =>
          obtain ⟨rfl, rfl⟩ := hcut
          obtain ⟨w1, rfl⟩ : ∃ w1 : World, w1 = wc := ⟨_, rfl⟩
          clear k1
          go_upto_region 11 with (fail)
          refine wp_region_B (fun w' => w1.grownBy w' none) 22 (by kernel_rfl) ?_
          have hHeld : w1.grownBy w1.drew none := gr_drew (gr_refl _ _)
          generalize w1.drew = wd at hHeld ⊢
          have hHJ : z.how = (j : Int) + 1 := HHJ.out
          have u1 : IntKind.i64.wrap ((j : Int) + 1 - 1) = (j : Int) := by rw [IntWalk.i64_in _ (by omega)]; omega
          have u2 : IntKind.i64.wrap (j : Int) = (j : Int) := IntWalk.i64_in _ (by omega)
          refine B_take (k := 0) false (v := ?_) (by rfl) (by kernel_rfl) (by exact fun _ _ _ h => h) (by rfl) ?_ (by first | exact .inr hHeld | exact .inl (by rfl)) ?_
          rotate_left 1
          · intro w hSw
            clear hSw
            go_simp
            (try with_reducible rfl)
          (try simp only [Act.put, List.setIfInBounds_toArray, List.set_cons_zero, List.set_cons_succ])
          refine B_take (k := 2) false (v := ?_) (by rfl) (by kernel_rfl) (by exact fun _ _ _ h => h) (by rfl) ?_ (by first | exact .inr hHeld | exact .inl (by rfl)) ?_
          rotate_left 1
          · intro w hSw
            clear hSw
            go_simp
            (try with_reducible rfl)
          (try simp only [Act.put, List.setIfInBounds_toArray, List.set_cons_zero, List.set_cons_succ])
          refine B_take (k := 4) false (v := ?_) (by rfl) (by kernel_rfl) (by exact fun _ _ _ h => h) (by rfl) ?_ (by first | exact .inr hHeld | exact .inl (by rfl)) ?_
          rotate_left 1
          · intro w hSw
            clear hSw
            go_simp
            (try with_reducible rfl)
          (try simp only [Act.put, List.setIfInBounds_toArray, List.set_cons_zero, List.set_cons_succ])
          refine B_take (k := 6) false (v := ?_) (by rfl) (by kernel_rfl) (by exact fun _ _ _ h => h) (by rfl) ?_ (by first | exact .inr hHeld | exact .inl (by rfl)) ?_
          rotate_left 1
          · intro w hSw
            clear hSw
            go_simp
            (try with_reducible rfl)
          (try simp only [Act.put, List.setIfInBounds_toArray, List.set_cons_zero, List.set_cons_succ])
          refine B_take (k := 9) false (v := ?_) (by rfl) (by kernel_rfl) (by exact fun _ _ _ h => h) (by rfl) ?_ (by first | exact .inr hHeld | exact .inl (by rfl)) ?_
          rotate_left 1
          · intro w hSw
            clear hSw
            go_simp
            (try with_reducible rfl)
          (try simp only [Act.put, List.setIfInBounds_toArray, List.set_cons_zero, List.set_cons_succ])
          refine B_take (k := 12) false (v := ?_) (by rfl) (by kernel_rfl) (by exact fun _ _ _ h => h) (by rfl) ?_ (by first | exact .inr hHeld | exact .inl (by rfl)) ?_
          rotate_left 1
          · intro w hSw
            clear hSw
            go_simp
            (try with_reducible rfl)
          (try simp only [Act.put, List.setIfInBounds_toArray, List.set_cons_zero, List.set_cons_succ])
          refine B_take (k := 16) false (v := ?_) (by rfl) (by kernel_rfl) (by exact fun _ _ _ h => h) (by rfl) ?_ (by first | exact .inr hHeld | exact .inl (by rfl)) ?_
          rotate_left 1
          · intro w hSw
            clear hSw
            go_simp
            (try with_reducible rfl)
          (try simp only [Act.put, List.setIfInBounds_toArray, List.set_cons_zero, List.set_cons_succ])
          refine B_take (k := 21) false (v := ?_) (by rfl) (by kernel_rfl) (by exact fun _ _ _ h => h) (by rfl) ?_ (by first | exact .inr hHeld | exact .inl (by rfl)) ?_
          rotate_left 1
          · intro w hSw
            clear hSw
            go_simp
            (try with_reducible rfl)
          (try simp only [Act.put, List.setIfInBounds_toArray, List.set_cons_zero, List.set_cons_succ])
          refine B_take (k := 1) true (v := ?_) (by rfl) (by kernel_rfl) (by exact fun _ _ _ h => h) (by rfl) ?_ (.inr hHeld) ?_
          rotate_left 1
          · intro w' hSw
            have kc := (HB.out.grown hSw (by simp)).cell 0
            go_simp
            (try with_reducible rfl)
          (try simp only [Act.put, List.setIfInBounds_toArray, List.set_cons_zero, List.set_cons_succ])
          refine B_take (k := 3) true (v := ?_) (by rfl) (by kernel_rfl) (by exact fun _ _ _ h => h) (by rfl) ?_ (.inr hHeld) ?_
          rotate_left 1
          · intro w' hSw
            have kc := (HB.out.grown hSw (by simp)).cell 1
            go_simp
            (try with_reducible rfl)
          (try simp only [Act.put, List.setIfInBounds_toArray, List.set_cons_zero, List.set_cons_succ])
          refine B_take (k := 5) true (v := ?_) (by rfl) (by kernel_rfl) (by exact fun _ _ _ h => h) (by rfl) ?_ (.inr hHeld) ?_
          rotate_left 1
          · intro w' hSw
            have kc := (HB.out.grown hSw (by simp)).cell 2
            go_simp
            (try with_reducible rfl)
          (try simp only [Act.put, List.setIfInBounds_toArray, List.set_cons_zero, List.set_cons_succ])
          refine B_take (k := 7) true (v := ?_) (by rfl) (by kernel_rfl) (by exact fun _ _ _ h => h) (by rfl) ?_ (.inr hHeld) ?_
          rotate_left 1
          · intro w' hSw
            have kc := (HB.out.grown hSw (by simp)).cell 3
            go_simp
            (try with_reducible rfl)
          (try simp only [Act.put, List.setIfInBounds_toArray, List.set_cons_zero, List.set_cons_succ])
          refine B_take (k := 10) true (v := ?_) (by rfl) (by kernel_rfl) (by exact fun _ _ _ h => h) (by rfl) ?_ (.inr hHeld) ?_
          rotate_left 1
          · intro w' hSw
            have kc := (HB.out.grown hSw (by simp)).cell 4
            go_simp
            (try with_reducible rfl)
          (try simp only [Act.put, List.setIfInBounds_toArray, List.set_cons_zero, List.set_cons_succ])
          refine B_take (k := 13) true (v := ?_) (by rfl) (by kernel_rfl) (by exact fun _ _ _ h => h) (by rfl) ?_ (.inr hHeld) ?_
          rotate_left 1
          · intro w' hSw
            have kc := (HB.out.grown hSw (by simp)).cell 5
            go_simp
            (try with_reducible rfl)
          (try simp only [Act.put, List.setIfInBounds_toArray, List.set_cons_zero, List.set_cons_succ])
          refine B_take (k := 17) true (v := ?_) (by rfl) (by kernel_rfl) (by exact fun _ _ _ h => h) (by rfl) ?_ (.inr hHeld) ?_
          rotate_left 1
          · intro w' hSw
            have kc := (HB.out.grown hSw (by simp)).cell 6
            rw [hHJ] at kc
            go_simp
            (try with_reducible rfl)
          (try simp only [Act.put, List.setIfInBounds_toArray, List.set_cons_zero, List.set_cons_succ])
          refine B_take (k := 18) false (v := ?_) (by rfl) (by kernel_rfl) (by exact fun _ _ _ h => h) (by rfl) ?_ (by first | exact .inr hHeld | exact .inl (by rfl)) ?_
          rotate_left 1
          · intro w hSw
            clear hSw
            go_simp
            (try with_reducible rfl)
          (try simp only [Act.put, List.setIfInBounds_toArray, List.set_cons_zero, List.set_cons_succ])
          refine B_run (k := 8) (by rfl) (by kernel_rfl) (by rfl) (fun K hK => ?_)
          go_simp
          refine (itoaS_any z.at_ _ (by omega) (by omega) (HPW.out.grown (gr_none HG.out hHeld))).mono ?_
          rintro e wx ⟨rfl, hgx⟩
          rw [HIA.out]
          have hgz := gr_none hHeld hgx
          refine hK _ _ (.inr hgz) ?_
          clear hK K

          clear hHeld hgx
          have hHeld := hgz
          clear hgz
          (try simp only [Act.put, List.setIfInBounds_toArray, List.set_cons_zero, List.set_cons_succ])

          refine B_run (k := 11) (by rfl) (by kernel_rfl) (by rfl) (fun K hK => ?_)
          go_simp
          refine (itoaS_any z.ring _ (by omega) (by omega) (HPW.out.grown (gr_none HG.out hHeld))).mono ?_
          rintro e wx ⟨rfl, hgx⟩
          rw [HIR.out]
          have hgz := gr_none hHeld hgx
          refine hK _ _ (.inr hgz) ?_
          clear hK K

          clear hHeld hgx
          have hHeld := hgz
          clear hgz
          (try simp only [Act.put, List.setIfInBounds_toArray, List.set_cons_zero, List.set_cons_succ])

          refine B_run (k := 14) (by rfl) (by kernel_rfl) (by rfl) (fun K hK => ?_)
          go_simp
          refine (itoaS_any z.talk _ (by omega) (by omega) (HPW.out.grown (gr_none HG.out hHeld))).mono ?_
          rintro e wx ⟨rfl, hgx⟩
          rw [HIT.out]
          have hgz := gr_none hHeld hgx
          refine hK _ _ (.inr hgz) ?_
          clear hK K

          clear hHeld hgx
          have hHeld := hgz
          clear hgz
          (try simp only [Act.put, List.setIfInBounds_toArray, List.set_cons_zero, List.set_cons_succ])

          refine B_run (k := 15) (by rfl) (by kernel_rfl) (by rfl) (fun K hK => ?_)
          go_simp
          refine (pWordsR_any _).mono ?_
          rintro e w3 ⟨rfl, hr3, hg3⟩
          have hgz := gr_none hHeld hg3
          refine hK _ _ (.inr hgz) ?_
          clear hK K
          clear hHeld hg3
          have hHeld := hgz
          have HW3 := Lib.hid hr3
          clear hr3 hgz
          (try simp only [Act.put, List.setIfInBounds_toArray, List.set_cons_zero, List.set_cons_succ])

          have p1 : (0 : Int) ≤ (j : Int) := by omega
          have p2 : (j : Int) < 4 := by omega
          refine B_take (k := 19) false (v := ?_) (by rfl) (by kernel_rfl) (by exact fun _ _ _ h => h) (by rfl) ?_ (by first | exact .inr hHeld | exact .inl (by rfl)) ?_
          rotate_left 1
          · intro w hSw
            clear hSw
            go_simp
            (try with_reducible rfl)
          (try simp only [Act.put, List.setIfInBounds_toArray, List.set_cons_zero, List.set_cons_succ])
          have kw := HW3.out.at_ srow_len HWJ.out 0 _ rfl
          simp only [Nat.mul_one, Nat.add_zero, Nat.zero_add] at kw
          refine B_run (k := 20) (by rfl) (by kernel_rfl) (by rfl) (fun K hK => ?_)
          go_simp
          refine hK _ _ (.inr hHeld) ?_
          clear hK K
          clear kw
          (try simp only [Act.put, List.setIfInBounds_toArray, List.set_cons_zero, List.set_cons_succ])
          obtain ⟨w8, rfl⟩ : ∃ w8 : World, w8 = w3 := ⟨_, rfl⟩
          obtain ⟨b8, hb8⟩ : ∃ b, w8.heap.size = b := ⟨_, rfl⟩
          obtain ⟨wa, hwa⟩ : ∃ v, w8.alloc (.cells #[.string z.id, .string z.frm, .string z.too, .string IA, .string IR, .string IT, .string WD, .string DC] 9) = v := ⟨_, rfl⟩
          have hga : w8.grownBy wa none := by rw [← hwa]; exact gr_alloc (gr_refl _ _) _
          have HRX := Lib.hid (show Recs srow 1 wa b8 (some ⟨b8, 0, none⟩) 8 8 [z.id, z.frm, z.too, IA, IR, IT, WD, DC] from ⟨by rw [flat_srow, ← hwa, ← hb8]; exact Reads.blk (Blk.new _ _ _) 1 8 rfl, rfl⟩)
          have hgz := gr_none hHeld hga
          refine B_run (k := 22) (by rfl) (by kernel_rfl) (by rfl) (fun K hK => ?_)
          go_simp
          (try rw [hwa])
          (try rw [hb8])
          refine hK _ _ (.inr hgz) ?_
          clear hK K
          clear hHeld hwa hb8 hga
          have hHeld := hgz
          clear hgz
          (try simp only [Act.put, List.setIfInBounds_toArray, List.set_cons_zero, List.set_cons_succ])
          refine B_run (k := 23) (by rfl) (by kernel_rfl) (by rfl) (fun K hK => ?_)
          go_simp
          refine (joinC_any b8 [z.id, z.frm, z.too, IA, IR, IT, WD, DC] 8 8 b8 _ HRX.out (by omega) (by omega) (by rw [HJW.out]; omega)).mono ?_
          rintro e w9 ⟨rfl, hg9⟩
          rw [HJW.out]
          have hgz := gr_none hHeld hg9
          refine hK _ _ (.inr hgz) ?_
          clear hK K
          clear hHeld hg9 HRX
          have hHeld := hgz
          (try simp only [Act.put, List.setIfInBounds_toArray, List.set_cons_zero, List.set_cons_succ])
          have a1 : ¬ 9223372036854775807 < J.size + nl.size := by have := HNL1.out; omega
          obtain ⟨JN, hJN⟩ : ∃ x, J ++ nl = x := ⟨_, rfl⟩
          have HJN1 := Lib.hid (show JN.size = J.size + 1 by rw [← hJN, appS2, HNL1.out])
          have HJN := Lib.hid (show JN.data.toList = rcLine z by rw [← hJN, data_app, HNL.out, HLN.out])
          refine B_take (k := 24) false (v := ?_) (by rfl) (by kernel_rfl) (by exact fun _ _ _ h => h) (by rfl) ?_ (by first | exact .inr hHeld | exact .inl (by rfl)) ?_
          rotate_left 1
          · intro w hSw
            clear hSw
            go_simp
            (try with_reducible rfl)
          (try simp only [Act.put, List.setIfInBounds_toArray, List.set_cons_zero, List.set_cons_succ])
          have hg1 := gr_none HG.out hgz
          have hgs := hg1.size
          refine B_run (k := 25) (by rfl) (by kernel_rfl) (by rfl) (fun K hK => ?_)
          go_simp
          refine (Tryz.Builder_WriteString w.heap.size bb (Lib.byteCells (rcTo l k)) JN _ (IsBuilder.kept HBU.out hgz) (by rw [Lib.byteCells_length]; have := HJN1.out; omega) hgs).mono ?_
          rintro e wz ⟨rfl, hba, hbl⟩
          refine hK _ _ (.inl (by rfl)) ?_
          clear hK K
          (try simp only [Act.put, List.setIfInBounds_toArray, List.set_cons_zero, List.set_cons_succ])
          refine B_done (by kernel_rfl) ?_
          have HGZ := Lib.hid (show w.grownBy wz none from gr_below ((below_gr hg1).trans hbl) none)
          have HBZ := Lib.hid (show Lib.IsBuilder 141 5 w.heap.size bb (Lib.byteCells (rcTo l (k + 1))) wz by
            rw [HTO.out, Lib.byteCells_append, ← HJN.out]
            exact .inr hba)
          clear hHeld hgz hJN a1 hg1 hgs hba hbl
          go_wp2_with fail
          go_roundw
          case rel => exact ⟨k + 1, by omega, by go_num, HGZ.out, HBZ.out⟩
          case measure => simp [intOf]; omega
      · obtain rfl : k = n := by omega
        have hgs := HG.out.size
        have hlen : (Lib.byteCells (rcTo l k)).length = (rcTo l k).length := Lib.byteCells_length _
        obtain ⟨LN, hLN⟩ : ∃ L, (Lib.byteCells (rcTo l k)).length = L := ⟨_, rfl⟩
        have hle : LN ≤ 200000 := by rw [← hLN, hlen]; omega
        have HLN := Lib.hid hLN
        have dl : decide ((200000 : Int) < (LN : Int)) = false := decide_eq_false (by omega)
        clear hlen hLN
        go_wp2_with fail
        refine (Tryz.Builder_Len w.heap.size bb (Lib.byteCells (rcTo l k)) _ HBU.out).mono ?_
        rintro e wy ⟨rfl, rfl⟩
        rw [HLN.out]
        go_wp2_with fail
        refine (Tryz.Builder_String_any w.heap.size bb (rcTo l k) _ HBU.out hgs).mono ?_
        rintro e wz ⟨rfl, hbl⟩
        have HGZ := Lib.hid (show w.grownBy wz none from gr_below ((below_gr HG.out).trans hbl) none)
        clear hbl hgs
        go_wp2_with fail
        go_ret2
        exact ⟨by rw [HE.out, HV.out]; try rfl, HGZ.out⟩
  · have d0 : (E != 0) = true := by simpa using h0
    have HG := Lib.hid hg0
    have HV := Lib.hid (show (Value.tuple #[.string (rcText l n), .int .i64 E]) = .tuple #[.string ⟨#[]⟩, .int .i64 E] by unfold rcText; rw [hE, if_neg h0])
    clear h0 hE hg0
    go_wp2_with fail
    go_ret2
    exact ⟨by rw [HE.out, HV.out]; try rfl, HG.out⟩
end Go.Proofs.YtoddgaocochdgaaGreatDoor

/- Contract of voice.Text. Conditions: acts as they lie in memory; a text that is not too long; the table of powers of ten. -/
import Derived.Test.YtgogiljplnninaaGreatDoorAt8
import Derived.Test.YtgogiljplnninaaGreatDoorAt2
import Derived.Test.YtgogiljplnninaaGreatDoorTxW
import Derived.Deep.CutBlock
namespace Go.Proofs.YtgogiljplnninaaGreatDoor
open Go.RowKit

theorem IsBuilder.kept {w w' : World} {B b : Nat} {bs : List Value} (h : Lib.IsBuilder 112 5 B b bs w) (hg : w.grownBy w' none) : Lib.IsBuilder 112 5 B b bs w' := by
  have key : ∀ p, Lib.BuilderAt 112 5 B b p bs w → Lib.BuilderAt 112 5 B b p bs w' := by
    rintro p ⟨h1, v, h2, h3, h4⟩
    have hlt : b < w.heap.size := (Array.getElem?_eq_some_iff.1 h2).1
    exact ⟨h1, v, by rw [hg.block b hlt (by simp)]; exact h2, World.ownsRow.kept h3 hg (by simp; exact Classical.em _), h4⟩
  exact h.elim (fun q => .inl (key _ q)) (fun q => .inr (key _ q))
/-- A builder stays where a row of strings is written. -/
theorem IsBuilder.keptR {w w' : World} {B b g : Nat} {bs : List Value} {cs : Array Value} (h : Lib.IsBuilder 112 5 B b bs w) (hg : w.grownBy w' (some g)) (hc : Blk w g 9 cs) : Lib.IsBuilder 112 5 B b bs w' := by
  have key : ∀ p, Lib.BuilderAt 112 5 B b p bs w → Lib.BuilderAt 112 5 B b p bs w' := by
    rintro p ⟨h1, v, h2, h3, h4⟩
    have hlt : b < w.heap.size := (Array.getElem?_eq_some_iff.1 h2).1
    have hbg : b ≠ g := fun e => by
      subst e
      unfold Blk at hc
      rw [hc] at h2
      injection h2 with h2
      injection h2 with _ ht
      exact absurd ht (by decide)
    have hne : v.ownBlock ≠ some g := by
      rcases h3.2 with ⟨hv, _⟩ | ⟨g', cap, cur, hv, _, hh, _⟩
      · rw [hv]; simp [Value.ownBlock]
      · rw [hv]
        intro e
        have e2 : g' = g := by simpa [Value.ownBlock] using e
        subst e2
        unfold Blk at hc
        rw [hc] at hh
        injection hh with hh
        injection hh with _ ht
        exact absurd ht (by decide)
    exact ⟨h1, v, by rw [hg.block b hlt (by simpa using hbg)]; exact h2, World.ownsRow.kept h3 hg (by first | exact .inr hne | (simp; exact .inr hne) | exact hne), h4⟩
  exact h.elim (fun q => .inl (key _ q)) (fun q => .inr (key _ q))
def acText (l : List ActV) (n : Nat) : ByteArray := if acsE l = 0 then ⟨(acTo l n).toArray⟩ else ⟨#[]⟩
set_option maxHeartbeats 16000000 in
set_option maxRecDepth 100000 in
theorem actText_any (lo : Nat) (A : Option Addr) (n c0 : Nat) (l : List ActV) (w : World) (hS : Acs w lo A n c0 l) (hn : n ≤ 40) (hp : PwT w) :
    Calls Tryz.prog 23 #[.slice A n c0] w (RetV (.tuple #[.string (acText l n), .int .i64 (acsE l)]) w) := by
  have HRC := Lib.hid hS; have HPW := Lib.hid hp
  obtain ⟨E, hE⟩ : ∃ E, acsE l = E := ⟨_, rfl⟩
  have HE := Lib.hid hE
  obtain ⟨nl, hnl⟩ : ∃ x, (⟨#[10]⟩ : ByteArray) = x := ⟨_, rfl⟩
  have HNL1 := Lib.hid (show nl.size = 1 by rw [← hnl]; rfl)
  have HNL := Lib.hid (show nl.data.toList = [10] by rw [← hnl])
  clear hS hp
  go_enter Tryz.func23, Tryz.ntmps23
  go_wp2_with fail
  refine (checkActs_any lo A n c0 l _ HRC.out (by omega)).mono ?_
  rintro e w0 ⟨rfl, hg0⟩
  rw [hE]
  by_cases h0 : E = 0
  · have d0 : (E != 0) = false := by simpa using h0
    have HRG := Lib.hid (acs_all (hE.trans h0)).2
    have HLEN := Lib.hid (fun k => acTo_len (l := l) (M := 1000) (fun z hz => ⟨HRG.out z hz, (HRC.out.2 z hz).1⟩) k)
    have HV := Lib.hid (show (Value.tuple #[.string (acText l n), .int .i64 E]) = .tuple #[.string ⟨(acTo l n).toArray⟩, .int .i64 0] by unfold acText; rw [hE, if_pos h0, h0])
    obtain ⟨wb, hwb⟩ : ∃ v, w0.alloc (.cells #[.pointer none, .slice none 0 0] 112) = v := ⟨_, rfl⟩
    obtain ⟨bb, hbb⟩ : ∃ b, w0.heap.size = b := ⟨_, rfl⟩
    have HG := Lib.hid (show w.grownBy wb none by rw [← hwb]; exact gr_alloc hg0 _)
    have hsz0 := hg0.size
    have HBU0 := Lib.hid (show Lib.IsBuilder 112 5 w.heap.size bb (Lib.byteCells (acTo l 0)) wb from .inl ⟨by rw [← hbb]; exact hsz0, .slice none 0 0, by rw [← hwb, ← hbb]; exact Blk.new _ _ _, Own.nil _ _ _ _, by simp [Value.ownBlock]⟩)
    have HWB := Lib.hid hwb; have HBB := Lib.hid hbb
    clear hE h0 hwb hbb hg0 hsz0
    go_upto_region 5 with (fail)
    rw [HWB.out]
    (try rw [HBB.out])
    clear HWB HBB d0
    go_wp2_with fail
    go_loopw [7, 8, 9, 17] (fun _ _ _ t wr => ∃ k : Nat, k ≤ n ∧ t = .int .i64 k ∧ w.grownBy wr none ∧ Lib.IsBuilder 112 5 w.heap.size bb (Lib.byteCells (acTo l k)) wr) (fun _ _ _ t _ => n - (intOf t).toNat)
    case atStart => exact ⟨0, Nat.zero_le _, rfl, HG.out, HBU0.out⟩
    case round =>
      obtain ⟨k, hk, rfl, hg, hbu⟩ := hrel
      clear HG HBU0
      have HG := Lib.hid hg; have HBU := Lib.hid hbu
      have hsl := HLEN.out k
      clear hg hbu
      by_cases hlt : k < n
      · obtain ⟨sg, so, z, rfl, _, _, hz2, hzc⟩ := (HRC.out.1.grown HG.out (fun g e => by cases e)).get ActV.row_len hlt
        have hz := HRC.out.2 z (mem_of_get hz2)
        have hwz := HRG.out z (mem_of_get hz2)
        have hsz := acW_size (M := 1000) hwz hz.1.1 hz.1.2.1 hz.1.2.2
        obtain ⟨⟨a1, a2⟩, ⟨a3, a4⟩, ⟨a5, a6⟩, _⟩ := hwz
        obtain ⟨j, hj, hj5, hw5, hw6, hw8⟩ := kd_at a3 a4
        obtain ⟨n1, n2, n3⟩ := hz.1
        have HZC := Lib.hid hzc
        have HTO := Lib.hid (acTo_succ hz2)
        have HWJ := Lib.hid hw5
        have HHJ := Lib.hid (show z.kd = ((j : Nat) : Int) + 1 from hj)
        obtain ⟨J4, hJ4⟩ : ∃ J, ac4 z = J := ⟨_, rfl⟩
        obtain ⟨J6, hJ6⟩ : ∃ J, ac6 z = J := ⟨_, rfl⟩
        have hj4 : jnS [itS z.at_, z.bx, z.id, kdS z.kd] = J4 := hJ4
        have hj6 : jnS [itS z.at_, z.bx, z.id, kdS z.kd, itS z.lg, dashS z.frm] = J6 := hJ6
        have hln : acLine z = (if z.kd = 1 then J6 else J4).data.toList ++ [10] := by unfold acLine acW; rw [hJ4, hJ6]
        have HLN := Lib.hid hln
        have q1 := itS_size (n := z.at_) (by omega) (by omega)
        have q2 := itS_size (n := z.lg) (by omega) (by omega)
        have q3 := dashS_size z.frm
        rw [hJ4, hJ6] at hsz
        obtain ⟨s4, s6, _⟩ := hsz
        obtain ⟨IA, hIA⟩ : ∃ I, itS z.at_ = I := ⟨_, rfl⟩
        obtain ⟨IL, hIL⟩ : ∃ I, itS z.lg = I := ⟨_, rfl⟩
        obtain ⟨DF, hDF⟩ : ∃ I, dashS z.frm = I := ⟨_, rfl⟩
        obtain ⟨WD, hWD⟩ : ∃ I, kdS z.kd = I := ⟨_, rfl⟩
        rw [hIA, hWD] at hj4
        rw [hIA, hIL, hDF, hWD] at hj6
        rw [hIA] at q1
        rw [hIL] at q2
        rw [hDF] at q3
        rw [hWD] at HWJ hw8
        have HIA := Lib.hid hIA; have HIL := Lib.hid hIL; have HDF := Lib.hid hDF; have HJ4 := Lib.hid hj4; have HJ6 := Lib.hid hj6
        obtain ⟨LF, hLF⟩ : ∃ V, (z.kd == 1) = V := ⟨_, rfl⟩
        have HLF := Lib.hid hLF
        have hlt2 : (k : Int) < (n : Int) := by omega
        clear hz2 hzc hw5 hw6 hj hJ4 hJ6 hln hj4 hj6 hIA hIL hDF hWD a3 a4 hz hLF
        obtain ⟨w1, hw1⟩ : ∃ w1, wr.alloc (.cells #[.int .i64 z.at_, .string z.bx, .string z.id, .int .i64 z.kd, .int .i64 z.lg, .string z.frm] 56) = w1 := ⟨_, rfl⟩
        obtain ⟨zb, hzb⟩ : ∃ zb, wr.heap.size = zb := ⟨_, rfl⟩
        have HB := Lib.hid (show Blk w1 zb 56 #[.int .i64 z.at_, .string z.bx, .string z.id, .int .i64 z.kd, .int .i64 z.lg, .string z.frm] by rw [← hw1, ← hzb]; exact Blk.new _ _ _)
        have hga : wr.grownBy w1 none := by rw [← hw1]; exact gr_alloc (gr_refl _ _) _
        have HW1 := Lib.hid hw1; have HZB := Lib.hid hzb
        clear hw1 hzb
        replace HG := Lib.hid (gr_none HG.out hga)
        replace HBU := Lib.hid (IsBuilder.kept HBU.out hga)
        clear hga
        go_upto_region 8 with (first
          | (refine wpl_load_at Tryz.acT rfl _ rfl _ rfl [.int .i64 z.at_, .string z.bx, .string z.id, .int .i64 z.kd, .int .i64 z.lg, .string z.frm] rfl (fun j u hu => by rw [add_mk]; exact HZC.out j u hu) ?_)
          | fail)
        rw [HW1.out]
        (try rw [HZB.out])
        clear HZC HW1 HZB
        refine H_begin (fun w' => w1.grownBy w' none) (by kernel_rfl) ?_
        have hHeld : w1.grownBy w1.drew none := gr_drew (gr_refl _ _)
        generalize w1.drew = wd at hHeld ⊢
        have hHJ : z.kd = (j : Int) + 1 := HHJ.out
        have u1 : IntKind.i64.wrap ((j : Int) + 1 - 1) = (j : Int) := by rw [IntWalk.i64_in _ (by omega)]; omega
        have u2 : IntKind.i64.wrap (j : Int) = (j : Int) := IntWalk.i64_in _ (by omega)
        refine H_take (k := 0) (v := ?_) (by rfl) (by kernel_rfl) (by kernel_rfl) (by kernel_rfl) (by exact fun _ _ _ h => h) (by rfl) ?_ (by assumption) ?_
        rotate_left 1
        · intro w hSw
          (try dsimp only at hSw)
          go_simp
          (try with_reducible rfl)
        (try simp only [Act.put, List.setIfInBounds_toArray, List.set_cons_zero, List.set_cons_succ])
        refine H_take (k := 1) (v := ?_) (by rfl) (by kernel_rfl) (by kernel_rfl) (by kernel_rfl) (by exact fun _ _ _ h => h) (by rfl) ?_ (by assumption) ?_
        rotate_left 1
        · intro w' hSw
          have kc := (HB.out.grown hSw (by simp)).cell 0
          go_simp
          (try with_reducible rfl)
        (try simp only [Act.put, List.setIfInBounds_toArray, List.set_cons_zero, List.set_cons_succ])
        refine H_take (k := 3) (v := ?_) (by rfl) (by kernel_rfl) (by kernel_rfl) (by kernel_rfl) (by exact fun _ _ _ h => h) (by rfl) ?_ (by assumption) ?_
        rotate_left 1
        · intro w hSw
          (try dsimp only at hSw)
          go_simp
          (try with_reducible rfl)
        (try simp only [Act.put, List.setIfInBounds_toArray, List.set_cons_zero, List.set_cons_succ])
        refine H_take (k := 4) (v := ?_) (by rfl) (by kernel_rfl) (by kernel_rfl) (by kernel_rfl) (by exact fun _ _ _ h => h) (by rfl) ?_ (by assumption) ?_
        rotate_left 1
        · intro w' hSw
          have kc := (HB.out.grown hSw (by simp)).cell 1
          go_simp
          (try with_reducible rfl)
        (try simp only [Act.put, List.setIfInBounds_toArray, List.set_cons_zero, List.set_cons_succ])
        refine H_take (k := 5) (v := ?_) (by rfl) (by kernel_rfl) (by kernel_rfl) (by kernel_rfl) (by exact fun _ _ _ h => h) (by rfl) ?_ (by assumption) ?_
        rotate_left 1
        · intro w hSw
          (try dsimp only at hSw)
          go_simp
          (try with_reducible rfl)
        (try simp only [Act.put, List.setIfInBounds_toArray, List.set_cons_zero, List.set_cons_succ])
        refine H_take (k := 6) (v := ?_) (by rfl) (by kernel_rfl) (by kernel_rfl) (by kernel_rfl) (by exact fun _ _ _ h => h) (by rfl) ?_ (by assumption) ?_
        rotate_left 1
        · intro w' hSw
          have kc := (HB.out.grown hSw (by simp)).cell 2
          go_simp
          (try with_reducible rfl)
        (try simp only [Act.put, List.setIfInBounds_toArray, List.set_cons_zero, List.set_cons_succ])
        refine H_take (k := 8) (v := ?_) (by rfl) (by kernel_rfl) (by kernel_rfl) (by kernel_rfl) (by exact fun _ _ _ h => h) (by rfl) ?_ (by assumption) ?_
        rotate_left 1
        · intro w hSw
          (try dsimp only at hSw)
          go_simp
          (try with_reducible rfl)
        (try simp only [Act.put, List.setIfInBounds_toArray, List.set_cons_zero, List.set_cons_succ])
        refine H_take (k := 9) (v := ?_) (by rfl) (by kernel_rfl) (by kernel_rfl) (by kernel_rfl) (by exact fun _ _ _ h => h) (by rfl) ?_ (by assumption) ?_
        rotate_left 1
        · intro w' hSw
          have kc := (HB.out.grown hSw (by simp)).cell 3
          rw [hHJ] at kc
          go_simp
          (try with_reducible rfl)
        (try simp only [Act.put, List.setIfInBounds_toArray, List.set_cons_zero, List.set_cons_succ])
        refine H_take (k := 10) (v := ?_) (by rfl) (by kernel_rfl) (by kernel_rfl) (by kernel_rfl) (by exact fun _ _ _ h => h) (by rfl) ?_ (by assumption) ?_
        rotate_left 1
        · intro w hSw
          (try dsimp only at hSw)
          go_simp
          (try with_reducible rfl)
        (try simp only [Act.put, List.setIfInBounds_toArray, List.set_cons_zero, List.set_cons_succ])
        refine H_run (k := 2) (by rfl) (by kernel_rfl) (by rfl) (fun K hK => ?_)
        go_simp
        refine (itoaS_any z.at_ _ (by omega) (by omega) (HPW.out.grown (gr_none HG.out hHeld))).mono ?_
        rintro e wx ⟨rfl, hgx⟩
        rw [HIA.out]
        have hgz := gr_none hHeld hgx
        refine hK _ _ hgz ?_
        clear hK K

        clear hHeld hgx
        have hHeld := hgz
        clear hgz
        (try simp only [Act.put, List.setIfInBounds_toArray, List.set_cons_zero, List.set_cons_succ])

        refine H_run (k := 7) (by rfl) (by kernel_rfl) (by rfl) (fun K hK => ?_)
        go_simp
        refine (pWordsA_any _).mono ?_
        rintro e w3 ⟨rfl, hr3, hg3⟩
        have hgz := gr_none hHeld hg3
        refine hK _ _ hgz ?_
        clear hK K
        clear hHeld hg3
        have hHeld := hgz
        have HW3 := Lib.hid hr3
        clear hr3 hgz
        (try simp only [Act.put, List.setIfInBounds_toArray, List.set_cons_zero, List.set_cons_succ])

        have p1 : (0 : Int) ≤ (j : Int) := by omega
        have p2 : (j : Int) < 5 := by omega
        refine H_take (k := 11) (v := ?_) (by rfl) (by kernel_rfl) (by kernel_rfl) (by kernel_rfl) (by exact fun _ _ _ h => h) (by rfl) ?_ (by assumption) ?_
        rotate_left 1
        · intro w hSw
          (try dsimp only at hSw)
          go_simp
          (try with_reducible rfl)
        (try simp only [Act.put, List.setIfInBounds_toArray, List.set_cons_zero, List.set_cons_succ])
        have kw := HW3.out.at_ srow_len HWJ.out 0 _ rfl
        simp only [Nat.mul_one, Nat.add_zero, Nat.zero_add] at kw
        refine H_run (k := 12) (by rfl) (by kernel_rfl) (by rfl) (fun K hK => ?_)
        go_simp
        refine hK _ _ hHeld ?_
        clear hK K
        clear kw
        (try simp only [Act.put, List.setIfInBounds_toArray, List.set_cons_zero, List.set_cons_succ])
        obtain ⟨w8, rfl⟩ : ∃ w8 : World, w8 = w3 := ⟨_, rfl⟩
        obtain ⟨b8, hb8⟩ : ∃ b, w8.heap.size = b := ⟨_, rfl⟩
        obtain ⟨wa, hwa⟩ : ∃ v, w8.alloc (.cells #[.string IA, .string z.bx, .string z.id, .string WD] 9) = v := ⟨_, rfl⟩
        have hga : w8.grownBy wa none := by rw [← hwa]; exact gr_alloc (gr_refl _ _) _
        have HO4 := Lib.hid (show OwnR srow 1 wa b8 9 (some ⟨b8, 0, none⟩) 4 4 [IA, z.bx, z.id, WD] from ⟨by rw [flat_srow, ← hwa, ← hb8]; exact Own.lit w8 9 1 [.string IA, .string z.bx, .string z.id, .string WD] 4 (by unfold maxLen; omega) rfl, rfl⟩)
        have hbw : w.heap.size ≤ b8 := by rw [← hb8]; exact (gr_none HG.out hHeld).size
        have HC4 := Lib.hid (show Blk wa b8 9 #[.string IA, .string z.bx, .string z.id, .string WD] by rw [← hwa, ← hb8]; exact Blk.new _ _ _)
        have hgz := gr_none hHeld hga
        refine H_run (k := 13) (by rfl) (by kernel_rfl) (by rfl) (fun K hK => ?_)
        go_simp

        (try rw [hwa])
        (try rw [hb8])
        refine hK _ _ hgz ?_
        clear hK K

        clear hHeld hwa hb8 hga
        have hHeld := hgz
        clear hgz
        (try simp only [Act.put, List.setIfInBounds_toArray, List.set_cons_zero, List.set_cons_succ])
        refine H_take (k := 14) (v := ?_) (by rfl) (by kernel_rfl) (by kernel_rfl) (by kernel_rfl) (by exact fun _ _ _ h => h) (by rfl) ?_ (by assumption) ?_
        rotate_left 1
        · intro w hSw
          (try dsimp only at hSw)
          go_simp
          (try with_reducible rfl)
        (try simp only [Act.put, List.setIfInBounds_toArray, List.set_cons_zero, List.set_cons_succ])
        refine H_done (by kernel_rfl) ?_
        replace HG := Lib.hid (gr_none HG.out hHeld)
        replace HBU := Lib.hid (IsBuilder.kept HBU.out hHeld)
        replace HB := Lib.hid (HB.out.grown hHeld (by simp))
        clear hHeld HW3 p1 p2 u1 u2 hHJ
        have k3 := HB.out.cell 3
        have hLF := HLF.out
        have hLF2 : decide (z.kd = 1) = LF := by rw [← hLF]; rfl
        cases LF
        · have HLZ := Lib.hid (show acLine z = J4.data.toList ++ [10] by rw [HLN.out, if_neg (by simpa using hLF)])
          have HR4 := Lib.hid HO4.out.recs
          go_wp2_with fail
          refine (joinC_any b8 [IA, z.bx, z.id, WD] 4 4 _ _ HR4.out (by omega) (by omega) (by rw [HJ4.out]; omega)).mono ?_
          rintro e w9 ⟨rfl, hg9⟩
          rw [HJ4.out]
          replace HG := Lib.hid (gr_none HG.out hg9)
          replace HBU := Lib.hid (IsBuilder.kept HBU.out hg9)
          clear hg9
          have a1 : ¬ 9223372036854775807 < J4.size + nl.size := by have := HNL1.out; omega
          obtain ⟨JN, hJN⟩ : ∃ x, J4 ++ nl = x := ⟨_, rfl⟩
          have HJN1 := Lib.hid (show JN.size = J4.size + 1 by rw [← hJN, appS2, HNL1.out])
          have HJN := Lib.hid (show JN.data.toList = acLine z by rw [← hJN, data_app, HNL.out, HLZ.out])
          have hgs := HG.out.size
          go_wp2_with fail
          refine (Tryz.Builder_WriteString w.heap.size bb (Lib.byteCells (acTo l k)) JN _ HBU.out (by rw [Lib.byteCells_length]; have := HJN1.out; omega) hgs).mono ?_
          rintro e wz ⟨rfl, hba, hbl⟩
          have HGZ := Lib.hid (show w.grownBy wz none from gr_below ((below_gr HG.out).trans hbl) none)
          have HBZ := Lib.hid (show Lib.IsBuilder 112 5 w.heap.size bb (Lib.byteCells (acTo l (k + 1))) wz by
            rw [HTO.out, Lib.byteCells_append, ← HJN.out]
            exact .inr hba)
          clear hJN a1 hgs hba hbl
          go_wp2_with fail
          go_roundw
          case rel => exact ⟨k + 1, by omega, by go_num, HGZ.out, HBZ.out⟩
          case measure => simp [intOf]; omega
        · have HLZ := Lib.hid (show acLine z = J6.data.toList ++ [10] by rw [HLN.out, if_pos (by simpa using hLF)])
          have k4 := HB.out.cell 4; have k5 := HB.out.cell 5
          obtain ⟨AE, hAE⟩ : ∃ b, z.frm.toList.isEmpty = b := ⟨_, rfl⟩
          go_upto_if 41 with (fail)
          have HAE := Lib.hid hAE
          clear hAE
          obtain ⟨wv, rfl⟩ : ∃ wv : World, wv = wa := ⟨_, rfl⟩
          go_cut [9] (fun v wx => v = .string DF ∧ wx = wv)
          case first =>
            cases AE
            · have hd := Lib.hid (show DF = z.frm by rw [← HDF.out]; exact if_neg (List.isEmpty_eq_false_iff.1 HAE.out))
              go_wp2_with fail
              go_meet
              exact ⟨by rw [hd.out], rfl⟩
            · have hd := Lib.hid (show DF = ⟨#[45]⟩ by rw [← HDF.out]; exact if_pos (List.isEmpty_iff.1 HAE.out))
              go_wp2_with fail
              go_meet
              exact ⟨by rw [hd.out], rfl⟩
          case rest =>
            obtain ⟨rfl, rfl⟩ := hcut
            obtain ⟨wa, rfl⟩ : ∃ w1 : World, w1 = wc := ⟨_, rfl⟩
            go_wp2_with fail
            refine (itoaS_any z.lg _ (by omega) (by omega) (HPW.out.grown HG.out)).mono ?_
            rintro e w5 ⟨rfl, hg5⟩
            rw [HIL.out]
            replace HG := Lib.hid (gr_none HG.out hg5)
            replace HBU := Lib.hid (IsBuilder.kept HBU.out hg5)
            replace HO4 := Lib.hid (HO4.out.kept hg5 (fun g e => by cases e))
            replace HC4 := Lib.hid (HC4.out.grown hg5 (by simp))
            clear hg5 k3 k4 k5 hLF hLF2
            have zb8 := HC4.out.lt
            obtain ⟨b6, hb6⟩ : ∃ b, w5.heap.size = b := ⟨_, rfl⟩
            obtain ⟨w6, hw6⟩ : ∃ v, w5.alloc (.cells #[.string IL, .string DF] 9) = v := ⟨_, rfl⟩
            have hg6 : w5.grownBy w6 none := by rw [← hw6]; exact gr_alloc (gr_refl _ _) _
            have HRD := Lib.hid (show Reads w6 b6 1 (some ⟨b6, 0, none⟩) 2 2 [.string IL, .string DF] by rw [← hw6, ← hb6]; exact Reads.blk (Blk.new w5 9 #[.string IL, .string DF]) 1 2 rfl)
            have HW6 := Lib.hid hw6; have HB6 := Lib.hid hb6
            replace HG := Lib.hid (gr_none HG.out hg6)
            replace HBU := Lib.hid (IsBuilder.kept HBU.out hg6)
            replace HO4 := Lib.hid (HO4.out.kept hg6 (fun g e => by cases e))
            replace HC4 := Lib.hid (HC4.out.grown hg6 (by simp))
            have z6 := hg6.size
            clear hw6 hb6 hg6
            go_wp2_with (first
              | (at_builtin
                 rw [HW6.out]
                 (try rw [HB6.out])
                 refine wpl_app _ rfl _ _ Tryz.stT rfl b8 (some ⟨b8, 0, none⟩) 4 4 _ rfl (by exact HO4.out.1) _ _ 2 2 [.string IL, .string DF] rfl (by exact HRD.out) (by simp [Value.oneCell']) (by unfold maxLen; omega) (by omega) (by omega) ?_
                 intro A9 c9 w9 h9
                 have H9 := Lib.hid h9; clear h9)
              | fail)
            replace HBU := Lib.hid (IsBuilder.keptR HBU.out H9.out.2.1 HC4.out)
            replace HG := Lib.hid (gr_trans HG.out H9.out.2.1 (fun g e => .inr (by have e2 : b8 = g := (by simpa [blkOf] using e); omega)))
            have HR6 := Lib.hid (show Recs srow 1 w9 b8 A9 6 c9 [IA, z.bx, z.id, WD, IL, DF] from ⟨by have := H9.out.1.reads; rw [flat_srow]; rw [flat_srow] at this; exact this, rfl⟩)
            obtain ⟨g9, o9, _, rfl, _, _, _, _⟩ := HR6.out.get srow_len (show 0 < 6 by omega)
            obtain ⟨rfl⟩ : o9 = 0 := by
              obtain ⟨q, hq, _⟩ := H9.out.1.pos (by omega)
              injection hq with hq
              injection hq
            go_wp2_with fail
            refine (joinC_any g9 [IA, z.bx, z.id, WD, IL, DF] 6 c9 _ _ HR6.out (by omega) (by omega) (by rw [HJ6.out]; omega)).mono ?_
            rintro e w9 ⟨rfl, hg9⟩
            rw [HJ6.out]
            replace HG := Lib.hid (gr_none HG.out hg9)
            replace HBU := Lib.hid (IsBuilder.kept HBU.out hg9)
            clear hg9
            have a1 : ¬ 9223372036854775807 < J6.size + nl.size := by have := HNL1.out; omega
            obtain ⟨JN, hJN⟩ : ∃ x, J6 ++ nl = x := ⟨_, rfl⟩
            have HJN1 := Lib.hid (show JN.size = J6.size + 1 by rw [← hJN, appS2, HNL1.out])
            have HJN := Lib.hid (show JN.data.toList = acLine z by rw [← hJN, data_app, HNL.out, HLZ.out])
            have hgs := HG.out.size
            go_wp2_with fail
            refine (Tryz.Builder_WriteString w.heap.size bb (Lib.byteCells (acTo l k)) JN _ HBU.out (by rw [Lib.byteCells_length]; have := HJN1.out; omega) hgs).mono ?_
            rintro e wz ⟨rfl, hba, hbl⟩
            have HGZ := Lib.hid (show w.grownBy wz none from gr_below ((below_gr HG.out).trans hbl) none)
            have HBZ := Lib.hid (show Lib.IsBuilder 112 5 w.heap.size bb (Lib.byteCells (acTo l (k + 1))) wz by
              rw [HTO.out, Lib.byteCells_append, ← HJN.out]
              exact .inr hba)
            clear hJN a1 hgs hba hbl
            go_wp2_with fail
            go_roundw
            case rel => exact ⟨k + 1, by omega, by go_num, HGZ.out, HBZ.out⟩
            case measure => simp [intOf]; omega
      · obtain rfl : k = n := by omega
        have hgs := HG.out.size
        have hlen : (Lib.byteCells (acTo l k)).length = (acTo l k).length := Lib.byteCells_length _
        obtain ⟨LN, hLN⟩ : ∃ L, (Lib.byteCells (acTo l k)).length = L := ⟨_, rfl⟩
        have hle : LN ≤ 200000 := by rw [← hLN, hlen]; omega
        have HLN := Lib.hid hLN
        have dl : decide ((200000 : Int) < (LN : Int)) = false := decide_eq_false (by omega)
        clear hlen hLN
        go_wp2_with fail
        refine (Tryz.Builder_Len w.heap.size bb (Lib.byteCells (acTo l k)) _ HBU.out).mono ?_
        rintro e wy ⟨rfl, rfl⟩
        rw [HLN.out]
        go_wp2_with fail
        refine (Tryz.Builder_String_any w.heap.size bb (acTo l k) _ HBU.out hgs).mono ?_
        rintro e wz ⟨rfl, hbl⟩
        have HGZ := Lib.hid (show w.grownBy wz none from gr_below ((below_gr HG.out).trans hbl) none)
        clear hbl hgs
        go_wp2_with fail
        go_ret2
        exact ⟨by rw [HE.out, HV.out]; try rfl, HGZ.out⟩
  · have d0 : (E != 0) = true := by simpa using h0
    have HG := Lib.hid hg0
    have HV := Lib.hid (show (Value.tuple #[.string (acText l n), .int .i64 E]) = .tuple #[.string ⟨#[]⟩, .int .i64 E] by unfold acText; rw [hE, if_neg h0])
    clear h0 hE hg0
    go_wp2_with fail
    go_ret2
    exact ⟨by rw [HE.out, HV.out]; try rfl, HG.out⟩
end Go.Proofs.YtgogiljplnninaaGreatDoor

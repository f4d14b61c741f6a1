/- Contract of voice.Known. Conditions: at most 400 beacons in each list, whose notes are of small bytes; the tables of unicode/utf8 and bytealg.MaxLen as laid. -/
import Derived.Test.YtgogiljplnninaaGreatDoorKn1
import Derived.Test.YtgogiljplnninaaGreatDoorShelfSBc
namespace Go.Proofs.YtgogiljplnninaaGreatDoor
open Go.RowKit

def SortedP (A : Option Addr) (n c lo : Nat) (l : List BcV) (w : World) (e : Ending) (w' : World) : Prop := e = .returned (.tuple #[]) ∧ ∃ l' : List BcV, l'.Perm l ∧ Asc bcCmp l' ∧ OwnR BcV.row 6 w' lo 62 A n c l' ∧ w.grownBy w' (blkOf A)
theorem sortBc_any (lo : Nat) (A : Option Addr) (n c : Nat) (l : List BcV) (w : World) (h : OwnR BcV.row 6 w lo 62 A n c l) (hn : n ≤ 100000) :
    Calls Tryz.prog 105 #[.slice A n c, .func (.func 104) #[] #[]] w (SortedP A n c lo l w) := by
  have eg : ∀ args w, (callFunc 104 args).run Tryz.prog w = .ok (.enter 104 args) w := enters_of Tryz.func104 (by kernel_rfl) rfl
  have hcon := sortRec_any Tryz.sortBc Tryz.isAgg62 Tryz.sizeOf62 BcV.row_len (fun x => BcV.one1 x) bcCmp swoBc 104 #[] eg (Ok := fun _ => True) (fun x y w1 _ _ => compareBeacons_q x y w1) A h (fun _ _ => trivial) (by omega)
  exact hcon
def knE (a b : List BcV) : Int := if bcsE a = 0 then bcsE b else bcsE a
open Classical in
noncomputable def kcE (a b : List BcV) : Int := if knE a b = 0 then (if bkCf a b then 13 else 0) else knE a b
def KnR (a b : List BcV) (w : World) (e : Ending) (w' : World) : Prop := ∃ A n c o, e = .returned (.tuple #[.slice A n c, .int .i64 (kcE a b)]) ∧ (kcE a b = 0 → o.Perm (bkOut a b) ∧ Asc bcCmp o) ∧ (kcE a b ≠ 0 → o = []) ∧ Recs BcV.row 6 w' w.heap.size A n c o ∧ n ≤ 100000 ∧ w.grownBy w' none
theorem kcE_a {a b : List BcV} (h : bcsE a ≠ 0) : kcE a b = bcsE a := by
  have e : knE a b = bcsE a := if_neg h
  unfold kcE; rw [e, if_neg h]
theorem kcE_b {a b : List BcV} (h1 : bcsE a = 0) (h : bcsE b ≠ 0) : kcE a b = bcsE b := by
  have e : knE a b = bcsE b := if_pos h1
  unfold kcE; rw [e, if_neg h]
theorem kcE_c {a b : List BcV} (h1 : bcsE a = 0) (h2 : bcsE b = 0) (h : bkCf a b) : kcE a b = 13 := by
  have e : knE a b = 0 := (if_pos h1).trans h2
  unfold kcE; rw [if_pos e, if_pos h]
theorem kcE_0 {a b : List BcV} (h1 : bcsE a = 0) (h2 : bcsE b = 0) (h : ¬ bkCf a b) : kcE a b = 0 := by
  have e : knE a b = 0 := (if_pos h1).trans h2
  unfold kcE; rw [if_pos e, if_neg h]
set_option maxHeartbeats 16000000 in
set_option maxRecDepth 100000 in
theorem known_any (lo lo' : Nat) (A A' : Option Addr) (n c n' c' : Nat) (l l' : List BcV) (w : World) (h : Bcs w lo A n c l) (h' : Bcs w lo' A' n' c' l') (hn : n ≤ 400) (hn' : n' ≤ 400) (hu : U8T w) (hm : MxT w) :
    Calls Tryz.prog 33 #[.slice A n c, .slice A' n' c'] w (KnR l l' w) := by
  have H := Lib.hid h; have H' := Lib.hid h'; have HU := Lib.hid hu; have HMX := Lib.hid hm; clear h h' hu hm
  go_enter Tryz.func33, Tryz.ntmps33
  go_wp2_with fail
  refine (checkBeacons_any lo A n c l _ H.out (by omega) HU.out HMX.out).mono ?_
  rintro e w1 ⟨rfl, hg1⟩
  have HG := Lib.hid hg1
  clear hg1
  obtain ⟨E, hE⟩ : ∃ E, bcsE l = E := ⟨_, rfl⟩
  rw [hE]
  have HE1 := Lib.hid hE
  clear hE
  by_cases h0 : E = 0
  rotate_left 1
  · have HF := Lib.hid (show kcE l l' = E from (kcE_a (by rw [HE1.out]; exact h0)).trans HE1.out)
    go_wp2_with fail
    go_ret2
    exact ⟨none, 0, 0, [], by rw [HF.out]; rfl, fun h => absurd (HF.out.symm.trans h) h0, fun _ => rfl, (OwnR.nil _ _ 62).recs, by omega, HG.out⟩
  subst h0
  go_wp2_with fail
  refine (checkBeacons_any lo' A' n' c' l' _ (H'.out.grown HG.out (fun g e => by cases e)) (by omega) (HU.out.grown HG.out) (HMX.out.grown HG.out)).mono ?_
  rintro e w2 ⟨rfl, hg1⟩
  replace HG := Lib.hid (gr_none HG.out hg1)
  clear hg1
  obtain ⟨E, hE⟩ : ∃ E, bcsE l' = E := ⟨_, rfl⟩
  rw [hE]
  have HE2 := Lib.hid hE
  clear hE
  by_cases h0 : E = 0
  rotate_left 1
  · have HF := Lib.hid (show kcE l l' = E from (kcE_b HE1.out (by rw [HE2.out]; exact h0)).trans HE2.out)
    go_wp2_with fail
    go_ret2
    exact ⟨none, 0, 0, [], by rw [HF.out]; rfl, fun h => absurd (HF.out.symm.trans h) h0, fun _ => rfl, (OwnR.nil _ _ 62).recs, by omega, HG.out⟩
  subst h0
  have HLA := Lib.hid (bAsc_of (bcs_all HE1.out).2.2)
  go_wp2_with fail
  refine (cloneBc_any lo A n c l _ (H.out.1.grown HG.out (fun g e => by cases e)) (by omega)).mono ?_
  rintro e w3 ⟨O0, oc0, rfl, hown, hg3⟩
  have HO0 := Lib.hid (hown.lower HG.out.size)
  replace HG := Lib.hid (gr_none HG.out hg3)
  clear hown hg3
  go_wp2_with fail
  go_loopw [8, 10, 11, 12, 27] (fun ov _ _ _ t wr => ∃ (j on oc : Nat) (O : Option Addr), j ≤ n' ∧ t = .int .i64 j ∧ ov = .slice O on oc ∧ w.grownBy wr none ∧ OwnR BcV.row 6 wr w.heap.size 62 O on oc (bkOut l (l'.take j)) ∧ (∀ x ∈ l'.take j, ¬ bkC l x)) (fun _ _ _ _ t _ => n' - (intOf t).toNat)
  case atStart => exact ⟨0, n, oc0, O0, Nat.zero_le _, rfl, rfl, HG.out, by simpa [bkOut] using HO0.out, by simp⟩
  case round =>
    clear HG HO0
    obtain ⟨j, on, oc, O, hj, rfl, rfl, hg, hown, hnc⟩ := hrel
    have hon : on ≤ n + j := by
      have h1 := hown.2
      have h2 := H.out.1.len
      have h3 : (bkOut l (l'.take j)).length ≤ l.length + j := by
        unfold bkOut
        rw [List.length_append]
        have := List.length_filter_le (bkN l) (l'.take j)
        have := List.length_take_le j l'
        omega
      omega
    have HG := Lib.hid hg; have HO := Lib.hid hown; have HNC := Lib.hid hnc
    clear hg hown hnc
    by_cases hlt : j < n'
    · obtain ⟨g, o, z, rfl, _, hgl, hz, hcc⟩ := (H'.out.1.grown HG.out (fun g e => by cases e)).get BcV.row_len hlt
      have HZ := Lib.hid hz; have HC := Lib.hid hcc; clear hz hcc
      obtain ⟨wa, hwa⟩ : ∃ wa, wr.alloc (.cells #[.string z.psn, .string z.dev, .int .i64 z.st, .int .i64 z.at_, .int .i64 z.un, .string z.note] 62) = wa := ⟨_, rfl⟩
      obtain ⟨zb, hzb⟩ : ∃ b, wr.heap.size = b := ⟨_, rfl⟩
      have HB := Lib.hid (show Blk wa zb 62 #[.string z.psn, .string z.dev, .int .i64 z.st, .int .i64 z.at_, .int .i64 z.un, .string z.note] by rw [← hwa, ← hzb]; exact Blk.new _ _ _)
      have hga : wr.grownBy wa none := by rw [← hwa]; exact gr_alloc (gr_refl _ _) _
      replace HG := Lib.hid (gr_none HG.out hga)
      replace HO := Lib.hid (HO.out.kept hga (fun g e => by cases e))
      have HWA := Lib.hid hwa; have HZB := Lib.hid hzb; clear hwa hzb hga
      go_upto_region 11 with (first
        | (refine wpl_load_at Tryz.bcT rfl _ rfl _ rfl [.string z.psn, .string z.dev, .int .i64 z.st, .int .i64 z.at_, .int .i64 z.un, .string z.note] rfl (fun j u hu => by rw [add_mk]; exact HC.out j u hu) ?_)
        | fail)
      rw [HWA.out]
      (try rw [HZB.out])
      clear HWA HZB HC
      go_wp2_with (first
        | (refine wpl_load_all Tryz.bcT rfl _ rfl _ rfl _ _ HB.out rfl ?_)
        | fail)
      refine (searchBc_any lo A n c l z _ (H.out.1.grown HG.out (fun g e => by cases e)) (by omega) HLA.out).mono ?_
      rintro e w5 ⟨i, f, rfl, hf, hg5⟩
      replace HG := Lib.hid (gr_none HG.out hg5)
      replace HO := Lib.hid (HO.out.kept hg5 (fun g e => by cases e))
      replace HB := Lib.hid (HB.out.grown hg5 (by simp))
      clear hg5
      rcases hf with ⟨rfl, y, hy, hzero⟩ | ⟨rfl, hnew⟩
      · have hin : i < n := by have := (List.getElem?_eq_some_iff.1 hy).1; have := H.out.1.len; omega
        have HBC := Lib.hid (bkC_found HLA.out hy hzero)
        have HNW := Lib.hid (show bkN l z = false from Bool.eq_false_iff.2 fun h => bkN_t.1 h y (List.mem_of_getElem? hy) hzero)
        have HY := Lib.hid hy
        clear hy hzero
        obtain ⟨gA, oA, hA, hAl⟩ : ∃ gA oA, A = some ⟨gA, oA, none⟩ ∧ gA < w5.heap.size := by
          obtain ⟨g, o, a, e, _, h2, _⟩ := (H.out.1.grown HG.out (fun g e => by cases e)).get BcV.row_len hin
          exact ⟨g, o, e, h2⟩
        subst hA
        have q5 : (0 : Int) ≤ (i : Int) := by omega
        have q6 : (i : Int) < (n : Int) := by omega
        have q7 : (i : Int).toNat = i := by omega
        by_cases e : y = z
        · have HEQ := Lib.hid (fun w' => (bcEq_neq y z w').trans (by rw [decide_eq_true e]))
          have HE := Lib.hid e
          clear e
          go_upto_region 14 with (fail)
          refine H_begin (fun w' => w5.grownBy w' none) (by kernel_rfl) ?_
          have hHeld : w5.grownBy w5.drew none := gr_drew (gr_refl _ _)
          refine H_take (k := 0) (v := ?_) (by rfl) (by kernel_rfl) (by kernel_rfl) (by kernel_rfl) (by exact fun _ _ _ h => h) (by rfl) ?_ (by assumption) ?_
          rotate_left 1
          · intro w hSw
            (try dsimp only at hSw)
            go_simp
            (try with_reducible rfl)
          (try simp only [Act.put, List.setIfInBounds_toArray, List.set_cons_zero, List.set_cons_succ])
          refine H_take (k := 1) (v := ?_) (by rfl) (by kernel_rfl) (by kernel_rfl) (by kernel_rfl) (by exact fun _ _ _ h => h) (by rfl) ?_ (by assumption) ?_
          rotate_left 1
          · intro w hSw
            (try dsimp only at hSw)
            go_simp
            (try with_reducible rfl)
          (try simp only [Act.put, List.setIfInBounds_toArray, List.set_cons_zero, List.set_cons_succ])
          refine H_take (k := 2) (v := ?_) (by rfl) (by kernel_rfl) (by kernel_rfl) (by kernel_rfl) (by exact fun _ _ _ h => h) (by rfl) ?_ (by assumption) ?_
          rotate_left 1
          · intro w hSw
            (try dsimp only at hSw)
            go_simp
            (try with_reducible rfl)
          (try simp only [Act.put, List.setIfInBounds_toArray, List.set_cons_zero, List.set_cons_succ])
          refine H_take (k := 3) (v := .agg #[.string y.psn, .string y.dev, .int .i64 y.st, .int .i64 y.at_, .int .i64 y.un, .string y.note]) (by rfl) (by kernel_rfl) (by kernel_rfl) (by kernel_rfl) (by exact fun _ _ _ h => h) (by rfl) (fun w' hSw => exec_ldr Tryz.bcT _ rfl _ rfl [.string y.psn, .string y.dev, .int .i64 y.st, .int .i64 y.at_, .int .i64 y.un, .string y.note] (fun j u hu => by rw [add_mk]; exact ((H.out.1.grown (gr_none HG.out hSw) (fun g e => by cases e)).at2_ BcV.row_len HY.out) j u hu) rfl) (by assumption) ?_
          (try simp only [Act.put, List.setIfInBounds_toArray, List.set_cons_zero, List.set_cons_succ])
          refine H_take (k := 4) (v := .agg #[.string z.psn, .string z.dev, .int .i64 z.st, .int .i64 z.at_, .int .i64 z.un, .string z.note]) (by rfl) (by kernel_rfl) (by kernel_rfl) (by kernel_rfl) (by exact fun _ _ _ h => h) (by rfl) (fun w' hSw => exec_ldb Tryz.bcT _ rfl _ rfl 62 [.string z.psn, .string z.dev, .int .i64 z.st, .int .i64 z.at_, .int .i64 z.un, .string z.note] (HB.out.grown hSw (by simp)) rfl) (by assumption) ?_
          (try simp only [Act.put, List.setIfInBounds_toArray, List.set_cons_zero, List.set_cons_succ])
          refine H_take (k := 5) (v := .bool false) (by rfl) (by kernel_rfl) (by kernel_rfl) (by kernel_rfl) (by exact fun _ _ _ h => h) (by rfl) (fun w' _ => exec_eqs _ _ rfl _ _ rfl rfl bcEq_guard (HEQ.out w')) (by assumption) ?_
          (try simp only [Act.put, List.setIfInBounds_toArray, List.set_cons_zero, List.set_cons_succ])
          refine H_done (by kernel_rfl) ?_
          clear hHeld q5 q6 q7
          go_wp2_with fail
          go_roundw
          case rel => exact ⟨j + 1, on, oc, O, by omega, by go_num, rfl, gr_drew HG.out, by rw [bkOut_succ HZ.out, HNW.out, if_neg (by decide), List.append_nil]; exact HO.out.kept (gr_drew (gr_refl _ none)) (fun g e => by cases e), bkCf_not_succ HZ.out HNC.out (fun h => HBC.out.1 h HE.out)⟩
          case measure => simp [intOf]; omega
        · have HEQ := Lib.hid (fun w' => (bcEq_neq y z w').trans (by rw [decide_eq_false e]))
          have HCF := Lib.hid (show bkCf l l' from ⟨z, List.mem_of_getElem? HZ.out, HBC.out.2 e⟩)
          clear e
          go_upto_region 14 with (fail)
          refine H_begin (fun w' => w5.grownBy w' none) (by kernel_rfl) ?_
          have hHeld : w5.grownBy w5.drew none := gr_drew (gr_refl _ _)
          refine H_take (k := 0) (v := ?_) (by rfl) (by kernel_rfl) (by kernel_rfl) (by kernel_rfl) (by exact fun _ _ _ h => h) (by rfl) ?_ (by assumption) ?_
          rotate_left 1
          · intro w hSw
            (try dsimp only at hSw)
            go_simp
            (try with_reducible rfl)
          (try simp only [Act.put, List.setIfInBounds_toArray, List.set_cons_zero, List.set_cons_succ])
          refine H_take (k := 1) (v := ?_) (by rfl) (by kernel_rfl) (by kernel_rfl) (by kernel_rfl) (by exact fun _ _ _ h => h) (by rfl) ?_ (by assumption) ?_
          rotate_left 1
          · intro w hSw
            (try dsimp only at hSw)
            go_simp
            (try with_reducible rfl)
          (try simp only [Act.put, List.setIfInBounds_toArray, List.set_cons_zero, List.set_cons_succ])
          refine H_take (k := 2) (v := ?_) (by rfl) (by kernel_rfl) (by kernel_rfl) (by kernel_rfl) (by exact fun _ _ _ h => h) (by rfl) ?_ (by assumption) ?_
          rotate_left 1
          · intro w hSw
            (try dsimp only at hSw)
            go_simp
            (try with_reducible rfl)
          (try simp only [Act.put, List.setIfInBounds_toArray, List.set_cons_zero, List.set_cons_succ])
          refine H_take (k := 3) (v := .agg #[.string y.psn, .string y.dev, .int .i64 y.st, .int .i64 y.at_, .int .i64 y.un, .string y.note]) (by rfl) (by kernel_rfl) (by kernel_rfl) (by kernel_rfl) (by exact fun _ _ _ h => h) (by rfl) (fun w' hSw => exec_ldr Tryz.bcT _ rfl _ rfl [.string y.psn, .string y.dev, .int .i64 y.st, .int .i64 y.at_, .int .i64 y.un, .string y.note] (fun j u hu => by rw [add_mk]; exact ((H.out.1.grown (gr_none HG.out hSw) (fun g e => by cases e)).at2_ BcV.row_len HY.out) j u hu) rfl) (by assumption) ?_
          (try simp only [Act.put, List.setIfInBounds_toArray, List.set_cons_zero, List.set_cons_succ])
          refine H_take (k := 4) (v := .agg #[.string z.psn, .string z.dev, .int .i64 z.st, .int .i64 z.at_, .int .i64 z.un, .string z.note]) (by rfl) (by kernel_rfl) (by kernel_rfl) (by kernel_rfl) (by exact fun _ _ _ h => h) (by rfl) (fun w' hSw => exec_ldb Tryz.bcT _ rfl _ rfl 62 [.string z.psn, .string z.dev, .int .i64 z.st, .int .i64 z.at_, .int .i64 z.un, .string z.note] (HB.out.grown hSw (by simp)) rfl) (by assumption) ?_
          (try simp only [Act.put, List.setIfInBounds_toArray, List.set_cons_zero, List.set_cons_succ])
          refine H_take (k := 5) (v := .bool true) (by rfl) (by kernel_rfl) (by kernel_rfl) (by kernel_rfl) (by exact fun _ _ _ h => h) (by rfl) (fun w' _ => exec_eqs _ _ rfl _ _ rfl rfl bcEq_guard (HEQ.out w')) (by assumption) ?_
          (try simp only [Act.put, List.setIfInBounds_toArray, List.set_cons_zero, List.set_cons_succ])
          refine H_done (by kernel_rfl) ?_
          clear hHeld q5 q6 q7
          have HF := Lib.hid (kcE_c HE1.out HE2.out HCF.out)
          go_wp2_with fail
          go_ret2
          exact ⟨none, 0, 0, [], by rw [HF.out]; rfl, fun h => absurd (HF.out.symm.trans h) (by decide), fun _ => rfl, (OwnR.nil _ _ 62).recs, by omega, gr_drew HG.out⟩
      · have HNW := Lib.hid hnew
        have zr := HG.out.size
        clear hnew
        go_wp2_with (first
          | (refine wpl_load_all Tryz.bcT rfl _ rfl _ rfl _ _ HB.out rfl ?_)
          | (at_builtin
             refine wpl_app _ rfl _ _ Tryz.bcsT rfl w.heap.size O on oc _ rfl (by exact HO.out.1.alloc _) _ _ 1 1 [.string z.psn, .string z.dev, .int .i64 z.st, .int .i64 z.at_, .int .i64 z.un, .string z.note] rfl (by exact Reads.one _ _ _ _ rfl) (by simp [Value.oneCell']) (by unfold maxLen; omega) (by omega) (by simp; omega) ?_
             intro A5 c5 w6 h5
             have H5 := Lib.hid h5; clear h5)
          | fail)
        go_roundw
        case rel =>
          have HOw := HO.out.alloc (.cells #[.string z.psn, .string z.dev, .int .i64 z.st, .int .i64 z.at_, .int .i64 z.un, .string z.note] 62)
          exact ⟨j + 1, on + 1, c5, A5, by omega, by go_num, rfl, H5.out.gr (gr_alloc HG.out _) HOw.1 (Nat.le_refl _), by rw [bkOut_succ HZ.out, HNW.out, if_pos rfl]; exact HOw.app rfl H5.out, bkCf_not_succ HZ.out HNC.out (bkC_new HNW.out)⟩
        case measure => simp [intOf]; omega
    · obtain rfl : j = n' := by omega
      have hN : l'.take j = l' := List.take_of_length_le (by rw [H'.out.1.len]; exact Nat.le_refl _)
      have ho := HO.out; have hnc := HNC.out
      rw [hN] at ho hnc
      replace HO := Lib.hid ho
      have HF := Lib.hid (kcE_0 HE1.out HE2.out (fun ⟨x, hx, hc⟩ => hnc x hx hc))
      clear ho hnc hN HNC
      have d9 : decide ((1000 : Int) < (on : Int)) = false := decide_eq_false (by omega)
      have d9' : decide (1000 < on) = false := decide_eq_false (by omega)
      go_wp2_with fail
      refine (sortBc_any w.heap.size O on oc _ _ HO.out (by omega)).mono ?_
      rintro e w8 ⟨rfl, out, hp, ha, hown8, hg8⟩
      have HO8 := Lib.hid hown8
      replace HG := Lib.hid (gr_own HG.out HO.out.1 (Nat.le_refl _) hg8)
      have HP := Lib.hid hp; have HA := Lib.hid ha
      clear hp ha hown8 hg8
      go_wp2_with fail
      go_ret2
      exact ⟨O, on, oc, out, by rw [HF.out]; rfl, fun _ => ⟨HP.out, HA.out⟩, fun h => absurd HF.out h, HO8.out.recs, by omega, HG.out⟩
end Go.Proofs.YtgogiljplnninaaGreatDoor

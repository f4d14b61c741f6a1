/- Contracts of the orders of beacons, of isPlain and Plain. Conditions: strings of small bytes for isPlain and Plain; the tables of unicode/utf8 and bytealg.MaxLen as laid. -/
import Derived.Test.YtgogiljplnninaaGreatDoorBun2
import Derived.Test.YtgogiljplnninaaGreatDoorBun1
import Derived.Test.YtgogiljplnninaaGreatDoorMx
import Derived.Test.YtgogiljplnninaaGreatDoorShelfPl
import Derived.Test.YtgogiljplnninaaGreatDoorShelfVal
import Derived.Lib.ValidLaws
namespace Go.Proofs.YtgogiljplnninaaGreatDoor
section
open Go.RowKit

theorem Tryz.bcT : StructT Tryz.prog 62 6 := ⟨_, Tryz.underlying62, rfl, by kernel_rfl⟩
set_option maxHeartbeats 4000000 in
set_option maxRecDepth 100000 in
theorem compareBeacons_q (a b : BcV) (w : World) : Calls Tryz.prog 104 #[.agg #[.string a.psn, .string a.dev, .int .i64 a.st, .int .i64 a.at_, .int .i64 a.un, .string a.note], .agg #[.string b.psn, .string b.dev, .int .i64 b.st, .int .i64 b.at_, .int .i64 b.un, .string b.note]] w (RetQ (.int .i64 (bcCmp a b)) w) := by
  obtain ⟨W1, hW⟩ : ∃ W1, (w.alloc (.cells #[.string a.psn, .string a.dev, .int .i64 a.st, .int .i64 a.at_, .int .i64 a.un, .string a.note] 62)).alloc (.cells #[.string b.psn, .string b.dev, .int .i64 b.st, .int .i64 b.at_, .int .i64 b.un, .string b.note] 62) = W1 := ⟨_, rfl⟩
  have HA := Lib.hid (show Blk W1 w.heap.size 62 #[.string a.psn, .string a.dev, .int .i64 a.st, .int .i64 a.at_, .int .i64 a.un, .string a.note] by rw [← hW]; exact (Blk.new _ _ _).alloc _)
  have HB := Lib.hid (show Blk W1 (w.heap.size + 1) 62 #[.string b.psn, .string b.dev, .int .i64 b.st, .int .i64 b.at_, .int .i64 b.un, .string b.note] by
    rw [← hW]
    have h := Blk.new (w.alloc (.cells #[.string a.psn, .string a.dev, .int .i64 a.st, .int .i64 a.at_, .int .i64 a.un, .string a.note] 62)) 62 #[.string b.psn, .string b.dev, .int .i64 b.st, .int .i64 b.at_, .int .i64 b.un, .string b.note]
    simpa using h)
  have HQ := Lib.hid (show Gq w W1 by rw [← hW]; exact ((Gq.refl w).alloc _).alloc _)
  have hz1 : W1.heap.size = w.heap.size + 1 + 1 := by rw [← hW]; simp
  have HW := Lib.hid hW; clear hW
  have HV := Lib.hid (show bcCmp a b = orL [cmpS a.psn b.psn, cmpS a.dev b.dev, cmpZ a.at_ b.at_] from rfl)
  obtain ⟨q1, h1⟩ : ∃ q, cmpS a.psn b.psn = q := ⟨_, rfl⟩
  obtain ⟨q2, h2⟩ : ∃ q, cmpS a.dev b.dev = q := ⟨_, rfl⟩
  obtain ⟨q3, h3⟩ : ∃ q, cmpZ a.at_ b.at_ = q := ⟨_, rfl⟩
  rw [h1, h2, h3] at HV
  have H1 := Lib.hid h1; have H2 := Lib.hid h2; have H3 := Lib.hid h3
  clear h1 h2 h3
  go_enter Tryz.func104, Tryz.ntmps104
  go_wp2_with fail
  rw [HW.out]
  refine H_begin (fun w' => Gq W1 w') (by kernel_rfl) ?_
  have hHeld : Gq W1 W1.drew := (Gq.refl _).drew
  generalize W1.drew = wd at hHeld ⊢
  refine H_take (k := 0) (v := ?_) (by rfl) (by kernel_rfl) (by kernel_rfl) (by kernel_rfl) (by exact fun _ _ _ h => h) (by rfl) ?_ (by assumption) ?_
  rotate_left 1
  · intro w hSw
    (try dsimp only at hSw)
    go_simp
    (try with_reducible rfl)
  (try simp only [Act.put, List.setIfInBounds_toArray, List.set_cons_zero, List.set_cons_succ])
  refine H_take (k := 1) (v := ?_) (by rfl) (by kernel_rfl) (by kernel_rfl) (by kernel_rfl) (by exact fun _ _ _ h => h) (by rfl) ?_ (by assumption) ?_
  rotate_left 1
  · intro w' hSw
    have kc := (HA.out.grown hSw.gr (by simp)).cell 0
    go_simp
    (try with_reducible rfl)
  (try simp only [Act.put, List.setIfInBounds_toArray, List.set_cons_zero, List.set_cons_succ])
  refine H_take (k := 2) (v := ?_) (by rfl) (by kernel_rfl) (by kernel_rfl) (by kernel_rfl) (by exact fun _ _ _ h => h) (by rfl) ?_ (by assumption) ?_
  rotate_left 1
  · intro w hSw
    (try dsimp only at hSw)
    go_simp
    (try with_reducible rfl)
  (try simp only [Act.put, List.setIfInBounds_toArray, List.set_cons_zero, List.set_cons_succ])
  refine H_take (k := 3) (v := ?_) (by rfl) (by kernel_rfl) (by kernel_rfl) (by kernel_rfl) (by exact fun _ _ _ h => h) (by rfl) ?_ (by assumption) ?_
  rotate_left 1
  · intro w' hSw
    have kc := (HB.out.grown hSw.gr (by simp)).cell 0
    go_simp
    (try with_reducible rfl)
  (try simp only [Act.put, List.setIfInBounds_toArray, List.set_cons_zero, List.set_cons_succ])
  refine H_take (k := 5) (v := ?_) (by rfl) (by kernel_rfl) (by kernel_rfl) (by kernel_rfl) (by exact fun _ _ _ h => h) (by rfl) ?_ (by assumption) ?_
  rotate_left 1
  · intro w hSw
    (try dsimp only at hSw)
    go_simp
    (try with_reducible rfl)
  (try simp only [Act.put, List.setIfInBounds_toArray, List.set_cons_zero, List.set_cons_succ])
  refine H_take (k := 6) (v := ?_) (by rfl) (by kernel_rfl) (by kernel_rfl) (by kernel_rfl) (by exact fun _ _ _ h => h) (by rfl) ?_ (by assumption) ?_
  rotate_left 1
  · intro w' hSw
    have kc := (HA.out.grown hSw.gr (by simp)).cell 1
    go_simp
    (try with_reducible rfl)
  (try simp only [Act.put, List.setIfInBounds_toArray, List.set_cons_zero, List.set_cons_succ])
  refine H_take (k := 7) (v := ?_) (by rfl) (by kernel_rfl) (by kernel_rfl) (by kernel_rfl) (by exact fun _ _ _ h => h) (by rfl) ?_ (by assumption) ?_
  rotate_left 1
  · intro w hSw
    (try dsimp only at hSw)
    go_simp
    (try with_reducible rfl)
  (try simp only [Act.put, List.setIfInBounds_toArray, List.set_cons_zero, List.set_cons_succ])
  refine H_take (k := 8) (v := ?_) (by rfl) (by kernel_rfl) (by kernel_rfl) (by kernel_rfl) (by exact fun _ _ _ h => h) (by rfl) ?_ (by assumption) ?_
  rotate_left 1
  · intro w' hSw
    have kc := (HB.out.grown hSw.gr (by simp)).cell 1
    go_simp
    (try with_reducible rfl)
  (try simp only [Act.put, List.setIfInBounds_toArray, List.set_cons_zero, List.set_cons_succ])
  refine H_take (k := 10) (v := ?_) (by rfl) (by kernel_rfl) (by kernel_rfl) (by kernel_rfl) (by exact fun _ _ _ h => h) (by rfl) ?_ (by assumption) ?_
  rotate_left 1
  · intro w hSw
    (try dsimp only at hSw)
    go_simp
    (try with_reducible rfl)
  (try simp only [Act.put, List.setIfInBounds_toArray, List.set_cons_zero, List.set_cons_succ])
  refine H_take (k := 11) (v := ?_) (by rfl) (by kernel_rfl) (by kernel_rfl) (by kernel_rfl) (by exact fun _ _ _ h => h) (by rfl) ?_ (by assumption) ?_
  rotate_left 1
  · intro w' hSw
    have kc := (HA.out.grown hSw.gr (by simp)).cell 3
    go_simp
    (try with_reducible rfl)
  (try simp only [Act.put, List.setIfInBounds_toArray, List.set_cons_zero, List.set_cons_succ])
  refine H_take (k := 12) (v := ?_) (by rfl) (by kernel_rfl) (by kernel_rfl) (by kernel_rfl) (by exact fun _ _ _ h => h) (by rfl) ?_ (by assumption) ?_
  rotate_left 1
  · intro w hSw
    (try dsimp only at hSw)
    go_simp
    (try with_reducible rfl)
  (try simp only [Act.put, List.setIfInBounds_toArray, List.set_cons_zero, List.set_cons_succ])
  refine H_take (k := 13) (v := ?_) (by rfl) (by kernel_rfl) (by kernel_rfl) (by kernel_rfl) (by exact fun _ _ _ h => h) (by rfl) ?_ (by assumption) ?_
  rotate_left 1
  · intro w' hSw
    have kc := (HB.out.grown hSw.gr (by simp)).cell 3
    go_simp
    (try with_reducible rfl)
  (try simp only [Act.put, List.setIfInBounds_toArray, List.set_cons_zero, List.set_cons_succ])
  refine H_run (k := 4) (by rfl) (by kernel_rfl) (by rfl) (fun K hK => ?_)
  go_simp
  refine same_calls (strCmp_any _ _ _) ?_
  rw [H1.out]
  refine hK _ _ hHeld ?_
  clear hK K
  (try simp only [Act.put, List.setIfInBounds_toArray, List.set_cons_zero, List.set_cons_succ])
  refine H_run (k := 9) (by rfl) (by kernel_rfl) (by rfl) (fun K hK => ?_)
  go_simp
  refine same_calls (strCmp_any _ _ _) ?_
  rw [H2.out]
  refine hK _ _ hHeld ?_
  clear hK K
  (try simp only [Act.put, List.setIfInBounds_toArray, List.set_cons_zero, List.set_cons_succ])
  refine H_run (k := 14) (by rfl) (by kernel_rfl) (by rfl) (fun K hK => ?_)
  go_simp
  refine same_calls (cmpZ_any _ _ _) ?_
  rw [H3.out]
  refine hK _ _ hHeld ?_
  clear hK K
  (try simp only [Act.put, List.setIfInBounds_toArray, List.set_cons_zero, List.set_cons_succ])
  refine H_run (k := 15) (by rfl) (by kernel_rfl) (by rfl) (fun K hK => ?_)
  go_simp
  obtain ⟨W2, hW2⟩ : ∃ W2, wd.alloc (.cells #[.int .i64 q1, .int .i64 q2, .int .i64 q3] 3) = W2 := ⟨_, rfl⟩
  obtain ⟨g2, hg2⟩ : ∃ g, wd.heap.size = g := ⟨_, rfl⟩
  have hq2 : Gq W1 W2 := by rw [← hW2]; exact hHeld.alloc _
  have HC := Lib.hid (show Blk W2 g2 3 ([q1, q2, q3].map (Value.int .i64)).toArray by rw [← hW2, ← hg2]; exact Blk.new _ _ _)
  (try rw [hW2])
  (try rw [hg2])
  refine hK _ _ hq2 ?_
  clear hK K hHeld hW2 hg2
  have hHeld := hq2
  (try simp only [Act.put, List.setIfInBounds_toArray, List.set_cons_zero, List.set_cons_succ])
  refine H_run (k := 16) (by rfl) (by kernel_rfl) (by rfl) (fun K hK => ?_)
  go_simp
  refine same_calls (orL_any [q1, q2, q3] g2 3 _ HC.out rfl (by omega)) ?_

  refine hK _ _ hHeld ?_
  clear hK K
  (try simp only [Act.put, List.setIfInBounds_toArray, List.set_cons_zero, List.set_cons_succ])
  refine H_take (k := 17) (v := ?_) (by rfl) (by kernel_rfl) (by kernel_rfl) (by kernel_rfl) (by exact fun _ _ _ h => h) (by rfl) ?_ (by assumption) ?_
  rotate_left 1
  · intro w hSw
    (try dsimp only at hSw)
    go_simp
    (try with_reducible rfl)
  (try simp only [Act.put, List.setIfInBounds_toArray, List.set_cons_zero, List.set_cons_succ])
  refine H_done (by kernel_rfl) ?_
  go_wp2_with fail
  go_ret
  exact ⟨by rw [HV.out]; try rfl, HQ.out.trans hHeld⟩
theorem sgn_cmp (x y : Int) : sgnZ (x - y) = cmpZ x y := by
  unfold sgnZ cmpZ
  by_cases h1 : x < y
  · rw [if_pos h1, if_pos (by omega)]
  · by_cases h2 : y < x
    · rw [if_neg h1, if_pos h2, if_neg (by omega), if_pos (by omega)]
    · rw [if_neg h1, if_neg h2, if_neg (by omega), if_neg (by omega)]
set_option maxHeartbeats 4000000 in
set_option maxRecDepth 100000 in
theorem beaconOrder_q (a b : BcV) (w : World) (ha : BcOk a) (hb : BcOk b) : Calls Tryz.prog 100 #[.agg #[.string a.psn, .string a.dev, .int .i64 a.st, .int .i64 a.at_, .int .i64 a.un, .string a.note], .agg #[.string b.psn, .string b.dev, .int .i64 b.st, .int .i64 b.at_, .int .i64 b.un, .string b.note]] w (RetQ (.int .i64 (bcCmp a b)) w) := by
  obtain ⟨-, ⟨a1, a2⟩, -⟩ := ha
  obtain ⟨-, ⟨b1, b2⟩, -⟩ := hb
  have u1 : IntKind.i64.wrap (a.at_ - b.at_) = a.at_ - b.at_ := IntWalk.i64_in _ (by omega)
  clear a1 a2 b1 b2
  obtain ⟨W1, hW⟩ : ∃ W1, (w.alloc (.cells #[.string a.psn, .string a.dev, .int .i64 a.st, .int .i64 a.at_, .int .i64 a.un, .string a.note] 62)).alloc (.cells #[.string b.psn, .string b.dev, .int .i64 b.st, .int .i64 b.at_, .int .i64 b.un, .string b.note] 62) = W1 := ⟨_, rfl⟩
  have HA := Lib.hid (show Blk W1 w.heap.size 62 #[.string a.psn, .string a.dev, .int .i64 a.st, .int .i64 a.at_, .int .i64 a.un, .string a.note] by rw [← hW]; exact (Blk.new _ _ _).alloc _)
  have HB := Lib.hid (show Blk W1 (w.heap.size + 1) 62 #[.string b.psn, .string b.dev, .int .i64 b.st, .int .i64 b.at_, .int .i64 b.un, .string b.note] by
    rw [← hW]
    have h := Blk.new (w.alloc (.cells #[.string a.psn, .string a.dev, .int .i64 a.st, .int .i64 a.at_, .int .i64 a.un, .string a.note] 62)) 62 #[.string b.psn, .string b.dev, .int .i64 b.st, .int .i64 b.at_, .int .i64 b.un, .string b.note]
    simpa using h)
  have HQ := Lib.hid (show Gq w W1 by rw [← hW]; exact ((Gq.refl w).alloc _).alloc _)
  have hz1 : W1.heap.size = w.heap.size + 1 + 1 := by rw [← hW]; simp
  have HW := Lib.hid hW; clear hW
  have kA0 := HA.out.cell 0; have kA1 := HA.out.cell 1; have kA3 := HA.out.cell 3
  have kB0 := HB.out.cell 0; have kB1 := HB.out.cell 1; have kB3 := HB.out.cell 3
  have HD := Lib.hid (bcCmp_doc a b)
  have HSG := Lib.hid (sgn_cmp a.at_ b.at_)
  obtain ⟨W2, hW2⟩ : ∃ v, W1.alloc (.cells #[.string a.psn, .string a.dev] 9) = v := ⟨_, rfl⟩
  obtain ⟨g2, hg2⟩ : ∃ v, W1.heap.size = v := ⟨_, rfl⟩
  obtain ⟨W3, hW3⟩ : ∃ v, W2.alloc (.cells #[.string b.psn, .string b.dev] 9) = v := ⟨_, rfl⟩
  obtain ⟨g3, hg3⟩ : ∃ v, W2.heap.size = v := ⟨_, rfl⟩
  have HR2 := Lib.hid (show Recs srow 1 W3 g2 (some ⟨g2, 0, none⟩) 2 2 [a.psn, a.dev] by
    rw [← hW3, ← hW2, ← hg2]
    exact ⟨(Reads.blk (Blk.new W1 9 #[.string a.psn, .string a.dev]) 1 2 rfl).grown (gr_alloc (gr_refl _ none) _) (fun g e => by cases e), rfl⟩)
  have HR3 := Lib.hid (show Recs srow 1 W3 g3 (some ⟨g3, 0, none⟩) 2 2 [b.psn, b.dev] by
    rw [← hW3, ← hg3]
    exact ⟨Reads.blk (Blk.new W2 9 #[.string b.psn, .string b.dev]) 1 2 rfl, rfl⟩)
  have hz2 : g3 = g2 + 1 := by rw [← hg3, ← hW2, ← hg2]; simp
  have HQ3 := Lib.hid (show Gq w W3 by rw [← hW3, ← hW2]; exact (HQ.out.alloc _).alloc _)
  have HW2 := Lib.hid hW2; have HW3 := Lib.hid hW3
  obtain ⟨QC, hQC⟩ : ∃ q, cmpLL cmpS [a.psn, a.dev] [b.psn, b.dev] = q := ⟨_, rfl⟩
  have HQC := Lib.hid hQC
  replace HD := Lib.hid (show bcCmp a b = if QC = 0 then cmpZ a.at_ b.at_ else QC by rw [HD.out, hQC])
  have kA3' : W3.cell? ⟨w.heap.size, 3, none⟩ = some (.int .i64 a.at_) := by rw [← hW3, ← hW2]; exact ((HA.out.alloc _).alloc _).cell 3
  have kB3' : W3.cell? ⟨w.heap.size + 1, 3, none⟩ = some (.int .i64 b.at_) := by rw [← hW3, ← hW2]; exact ((HB.out.alloc _).alloc _).cell 3
  have e2 : g2 = w.heap.size + 1 + 1 := by rw [← hg2]; exact hz1
  clear hW2 hg2 hW3 hg3 hQC
  subst e2
  subst hz2
  go_enter Tryz.func100, Tryz.ntmps100
  go_wp2_with fail
  rw [HW.out]
  go_wp2_with fail
  rw [HW2.out, HW3.out]
  refine same_calls (compareS_any _ _ _ _ 2 2 2 2 [a.psn, a.dev] [b.psn, b.dev] _ HR2.out HR3.out (by omega) (by omega)) ?_
  rw [HQC.out]
  clear kA0 kA1 kA3 kB0 kB1 kB3
  by_cases hz : QC = 0
  · have d2 : (QC != 0) = false := by simpa using hz
    have HF := Lib.hid (show bcCmp a b = sgnZ (a.at_ - b.at_) by rw [HD.out, if_pos hz, HSG.out])
    clear hz
    go_wp2_with fail
    refine same_calls (sgnZ_any _ _) ?_
    go_wp2_with fail
    go_ret
    exact ⟨by rw [HF.out]; try rfl, HQ3.out⟩
  · have d2 : (QC != 0) = true := by simpa using hz
    have HF := Lib.hid (show bcCmp a b = QC by rw [HD.out, if_neg hz])
    clear hz
    go_wp2_with fail
    go_ret
    exact ⟨by rw [HF.out]; try rfl, HQ3.out⟩
/-! Plain strings. -/
def U8T (w : World) : Prop := Lib.Utf8Tabs 0 1 w
theorem U8T.low {w w' : World} {r : Option Nat} (h : U8T w) (hg : w.grownBy w' r) (hr : ∀ g, r = some g → g ≠ 0 ∧ g ≠ 1) : U8T w' := by
  have key : ∀ (g c : Nat) v, (r = some g → False) → w.cell? ⟨g, c, none⟩ = some v → w'.cell? ⟨g, c, none⟩ = some v := fun g c v hn hc =>
    (World.cell?_of_block (hg.block g (World.block_lt_of_cell? w ⟨g, c, none⟩ hc) (fun e => hn e.symm))).trans hc
  refine ⟨fun c hc => key _ _ _ (fun e => (hr _ e).1 rfl) (h.1 c hc), fun i hi => ⟨key _ _ _ (fun e => (hr _ e).2 rfl) (h.2 i hi).1, key _ _ _ (fun e => (hr _ e).2 rfl) (h.2 i hi).2⟩⟩
theorem U8T.grown {w w' : World} (h : U8T w) (hg : w.grownBy w' none) : U8T w' := h.low hg fun g e => by cases e
theorem U8T.lt {w : World} (h : U8T w) : 0 < w.heap.size ∧ 1 < w.heap.size :=
  ⟨World.block_lt_of_cell? w _ (h.1 0 (by decide)), World.block_lt_of_cell? w _ (h.2 0 (by decide)).1⟩
theorem valid_asc (s : ByteArray) (ha : ascB s) : Lib.validD s.data.toList = true := by
  have := Lib.validD_ascii s.data.toList.length s.data.toList (fun b hb => ha b (List.mem_of_mem_take hb))
  rw [this, List.drop_length]
  rfl
theorem Tryz.utf8_ValidString (s : ByteArray) (w : World) (hs : s.size ≤ 9223372036854775807) (hT : U8T w) : Calls Tryz.prog 152 #[.string s] w fun e w' => e = .returned (.bool (Lib.validD s.data.toList)) ∧ Below w.heap.size w w' := Any.utf8_ValidString Tryz.laysValid s w hs hT
theorem validString_any (s : ByteArray) (w : World) (hs : s.size ≤ 1000000) (ha : ascB s) (hu : U8T w) : Calls Tryz.prog 152 #[.string s] w (RetV (.bool true) w) := by
  have h := Tryz.utf8_ValidString s w (by omega) hu
  rw [valid_asc s ha] at h
  refine h.mono ?_
  rintro e w' ⟨rfl, hb⟩
  exact ⟨rfl, gr_below hb none⟩
theorem ctl_take {s : ByteArray} {i : Nat} (hi : i < s.size) (h : ctlB (s.data.toList.take i) = false) (hc : ctl1 s[i].toNat = false) : ctlB (s.data.toList.take (i + 1)) = false := by
  have hl : i < s.data.toList.length := by rw [sz_len]; exact hi
  rw [List.take_succ_eq_append_getElem hl]
  unfold ctlB at *
  rw [List.any_append, h]
  have : s.data.toList[i] = s[i] := rfl
  simp only [List.any_cons, List.any_nil, this, hc, Bool.or_false]
theorem ctl_hit {s : ByteArray} {i : Nat} (hi : i < s.size) (hc : ctl1 s[i].toNat = true) : ctlB s.data.toList = true := by
  have hl : i < s.data.toList.length := by rw [sz_len]; exact hi
  refine List.any_eq_true.2 ⟨s[i], ?_, hc⟩
  exact List.getElem_mem hl
set_option maxHeartbeats 4000000 in
theorem isPlain_any (s : ByteArray) (w : World) (hs : s.size ≤ 1000000) (ha : ascB s) (hu : U8T w) (hm : MxT w) : Calls Tryz.prog 109 #[.string s] w (RetV (.bool (plB s)) w) := by
  have hv : plB s = (!Lib.hasPrefix s.data.toList [32] && !Lib.hasSuffix s.data.toList [32] && !Lib.contains s.data.toList [32, 32] && !ctlB s.data.toList) := rfl
  obtain ⟨B1, h1⟩ : ∃ B, Lib.hasPrefix s.data.toList [32] = B := ⟨_, rfl⟩
  obtain ⟨B2, h2⟩ : ∃ B, Lib.hasSuffix s.data.toList [32] = B := ⟨_, rfl⟩
  obtain ⟨B3, h3⟩ : ∃ B, Lib.contains s.data.toList [32, 32] = B := ⟨_, rfl⟩
  rw [h1, h2, h3] at hv
  have H1 := Lib.hid h1; have H2 := Lib.hid h2; have H3 := Lib.hid h3; have HV := Lib.hid hv
  have HA := Lib.hid ha; have HU := Lib.hid hu; have HM := Lib.hid hm
  clear h1 h2 h3 hv ha hu hm
  have early : ∀ (b1 b2 b3 : Bool), (b1 || b2 || b3) = true → ((!b1 && !b2 && !b3 && !ctlB s.data.toList) = false) := by
    intro b1 b2 b3 h
    cases b1 <;> cases b2 <;> cases b3 <;> first | rfl | (cases h)
  have HEY := Lib.hid early; clear early
  cases B1 <;> cases B2 <;> cases B3
  rotate_left 1
  all_goals try
    (have HF := Lib.hid (HV.out.trans (HEY.out _ _ _ rfl))
     go_enter Tryz.func109, Tryz.ntmps109
     go_wp2_with fail
     refine (validString_any s _ (by omega) HA.out HU.out).mono ?_
     rintro e w1 ⟨rfl, hg1⟩
     have HG1 := Lib.hid hg1
     have HM1 := Lib.hid (HM.out.grown hg1)
     clear hg1
     go_wp2_with (first
       | (go_at_call 149; refine same_calls (hasPre_any _ _ _) ?_; rw [show Lib.hasPrefix s.data.toList (⟨#[32]⟩ : ByteArray).data.toList = _ from H1.out])
       | (go_at_call 156; refine same_calls (hasSuf_any _ _ _ (by omega)) ?_; rw [show Lib.hasSuffix s.data.toList (⟨#[32]⟩ : ByteArray).data.toList = _ from H2.out])
       | (go_at_call 155; refine same_calls (hasSub_any _ _ _ (by omega) HM1.out) ?_; rw [show Lib.contains s.data.toList (⟨#[32, 32]⟩ : ByteArray).data.toList = _ from H3.out])
       | fail)
     go_ret
     exact ⟨by rw [HF.out]; try rfl, HG1.out⟩
     done)
  have HW := Lib.hid (show plB s = !ctlB s.data.toList by rw [HV.out]; rfl)
  go_enter Tryz.func109, Tryz.ntmps109
  go_wp2_with fail
  refine (validString_any s _ (by omega) HA.out HU.out).mono ?_
  rintro e w1 ⟨rfl, hg1⟩
  have HG1 := Lib.hid hg1
  have HM1 := Lib.hid (HM.out.grown hg1)
  clear hg1
  go_wp2_with (first
    | (go_at_call 149; refine same_calls (hasPre_any _ _ _) ?_; rw [show Lib.hasPrefix s.data.toList (⟨#[32]⟩ : ByteArray).data.toList = _ from H1.out])
    | (go_at_call 156; refine same_calls (hasSuf_any _ _ _ (by omega)) ?_; rw [show Lib.hasSuffix s.data.toList (⟨#[32]⟩ : ByteArray).data.toList = _ from H2.out])
    | (go_at_call 155; refine same_calls (hasSub_any _ _ _ (by omega) HM1.out) ?_; rw [show Lib.contains s.data.toList (⟨#[32, 32]⟩ : ByteArray).data.toList = _ from H3.out])
    | fail)
  go_loop [3, 21] (fun _ t => ∃ i : Nat, i ≤ s.size ∧ t = .int .i64 i ∧ ctlB (s.data.toList.take i) = false) (fun _ t => s.size - (intOf t).toNat)
  case atStart => exact ⟨0, Nat.zero_le _, rfl, rfl⟩
  case round =>
    obtain ⟨i, hi, rfl, hc⟩ := hrel
    have HC := Lib.hid hc; clear hc
    by_cases hlt : i < s.size
    · obtain ⟨b, hb⟩ : ∃ b, s[i].toNat = b := ⟨_, rfl⟩
      by_cases b1 : b < 32
      · have HF := Lib.hid (show plB s = false by rw [HW.out, ctl_hit hlt (by rw [hb]; unfold ctl1; rw [decide_eq_true b1]; rfl)]; rfl)
        have d1 : decide ((b : Int) < 32) = true := decide_eq_true (by omega)
        have d1' : decide (b < 32) = true := decide_eq_true b1
        go_wp2_with fail
        go_ret
        exact ⟨by rw [HF.out]; try rfl, HG1.out⟩
      · have d1 : decide ((b : Int) < 32) = false := decide_eq_false (by omega)
        have d1' : decide (b < 32) = false := decide_eq_false b1
        by_cases b2 : b = 127
        · have HF := Lib.hid (show plB s = false by rw [HW.out, ctl_hit hlt (by rw [hb]; unfold ctl1; rw [b2]; rfl)]; rfl)
          have d2 : ((b : Int) == 127) = true := by simp [b2]
          have d2' : (b == 127) = true := by simp [b2]
          clear b2
          go_wp2_with fail
          go_ret
          exact ⟨by rw [HF.out]; try rfl, HG1.out⟩
        · have HN := Lib.hid (ctl_take hlt HC.out (by rw [hb]; unfold ctl1; rw [decide_eq_false b1]; simpa using b2))
          have d2 : ((b : Int) == 127) = false := by simp; omega
          have d2' : (b == 127) = false := by simpa using b2
          clear b2
          go_wp2_with fail
          go_round
          case rel => exact ⟨i + 1, by omega, by go_num, HN.out⟩
          case measure => simp [intOf]; omega
    · obtain rfl : i = s.size := by omega
      have HF := Lib.hid (show plB s = true by
        have h := HC.out
        rw [List.take_of_length_le (by rw [sz_len]; exact Nat.le_refl _)] at h
        rw [HW.out, h]; rfl)
      go_wp2_with fail
      go_ret
      exact ⟨by rw [HF.out]; try rfl, HG1.out⟩
theorem ctlFn_any (x : Nat) (w : World) : Calls Tryz.prog 154 #[.int .i32 x] w (Same (.bool (ctl1 x)) w) := by
  by_cases b1 : x < 32
  · have HF := Lib.hid (show ctl1 x = true by unfold ctl1; rw [decide_eq_true b1]; rfl)
    have d1 : decide ((x : Int) < 32) = true := decide_eq_true (by omega)
    go_enter Tryz.func154, Tryz.ntmps154
    go_wp2_with fail
    go_ret
    exact ⟨by rw [HF.out]; try rfl, rfl⟩
  · have d1 : decide ((x : Int) < 32) = false := decide_eq_false (by omega)
    by_cases b2 : x = 127
    · have HF := Lib.hid (show ctl1 x = true by unfold ctl1; rw [b2]; rfl)
      have d2 : ((x : Int) == 127) = true := by simp [b2]
      clear b2
      go_enter Tryz.func154, Tryz.ntmps154
      go_wp2_with fail
      go_ret
      exact ⟨by rw [HF.out]; try rfl, rfl⟩
    · have HF := Lib.hid (show ctl1 x = false by unfold ctl1; rw [decide_eq_false b1]; simpa using b2)
      have d2 : ((x : Int) == 127) = false := by simp; omega
      clear b2
      go_enter Tryz.func154, Tryz.ntmps154
      go_wp2_with fail
      go_ret
      exact ⟨by rw [HF.out]; try rfl, rfl⟩
set_option maxHeartbeats 4000000 in
theorem plain_any (s : ByteArray) (w : World) (hs : s.size ≤ 1000000) (ha : ascB s) (hu : U8T w) (hm : MxT w) : Calls Tryz.prog 107 #[.string s] w (RetV (.bool (plB s)) w) := by
  have hv := plain_doc s ha
  obtain ⟨B1, h1⟩ : ∃ B, decide (0 ≤ Lib.idxFunc ctl1 true s) = B := ⟨_, rfl⟩
  obtain ⟨tb, htb⟩ : ∃ t : ByteArray, (⟨(Lib.trimB s.data.toList 32).toArray⟩ : ByteArray) = t := ⟨_, rfl⟩
  obtain ⟨B2, h2⟩ : ∃ B, (tb.toList == s.toList) = B := ⟨_, rfl⟩
  obtain ⟨B3, h3⟩ : ∃ B, Lib.contains s.data.toList [32, 32] = B := ⟨_, rfl⟩
  rw [h1, htb, h2, h3] at hv
  have H1 := Lib.hid h1; have H3 := Lib.hid h3; have HV := Lib.hid hv.symm; have HTB := Lib.hid htb
  have HA := Lib.hid ha; have HU := Lib.hid hu; have HM := Lib.hid hm
  clear h1 h3 hv ha hu hm htb
  have hpred : ∀ W : World, PredGrows Tryz.prog 154 #[] ctl1 W := fun W W' x _ _ => (ctlFn_any x W').mono fun e w' ⟨he, hw⟩ => by subst hw; exact ⟨he, Below.refl _ _⟩
  have HPR := Lib.hid hpred; clear hpred
  have eg : ∀ args w, (callFunc 154 args).run Tryz.prog w = .ok (.enter 154 args) w := enters_of Tryz.func154 (by kernel_rfl) rfl
  have HEG := Lib.hid eg; clear eg
  cases B1 <;> cases B2 <;> cases B3
  all_goals
    have HF := Lib.hid HV.out
    go_enter Tryz.func107, Tryz.ntmps107
    go_wp2_with fail
    refine (validString_any s _ (by omega) HA.out HU.out).mono ?_
    rintro e w1 ⟨rfl, hg1⟩
    have HG1 := Lib.hid hg1
    have HM1 := Lib.hid (HM.out.grown hg1)
    clear hg1
    go_wp2_with fail
    refine (Tryz.strings_ContainsFunc_grows 154 #[] HEG.out ctl1 s _ (HPR.out _)).mono ?_
    rintro e w2 ⟨rfl, hb2⟩
    rw [H1.out]
    have HG2 := Lib.hid (gr_none HG1.out (gr_below hb2 none))
    have HM2 := Lib.hid (HM1.out.grown (gr_below hb2 none))
    clear hb2
    go_wp2_with (first
      | (go_at_call 126
         refine (Tryz.strings_Trim_one s 32 (by decide) _ (by omega)).mono ?_
         rintro e w3 ⟨rfl, hw3⟩
         rw [HTB.out]
         have HG3 := Lib.hid (show w.grownBy w3 none by rcases hw3 with rfl | rfl; exact HG2.out; exact gr_drew HG2.out)
         have HM3 := Lib.hid (show MxT w3 by rcases hw3 with rfl | rfl; exact HM2.out; exact HM2.out.grown (gr_drew (gr_refl _ _)))
         clear hw3)
      | (go_at_call 155; refine same_calls (hasSub_any _ _ _ (by omega) HM3.out) ?_; rw [show Lib.contains s.data.toList (⟨#[32, 32]⟩ : ByteArray).data.toList = _ from H3.out])
      | fail)
    go_ret
    exact ⟨by rw [HF.out]; try rfl, by first | exact HG3.out | exact HG2.out⟩
end
end Go.Proofs.YtgogiljplnninaaGreatDoor
/- Contract of slices.SortStableFunc at few beacons, in the document's order: they are the same beacons, in some order. Conditions: at most 19 beacons, each BcOk. -/
namespace Go.Proofs.YtgogiljplnninaaGreatDoor
section
open Go.RowKit

theorem exec_lda {P : Program} {w : World} {o : Oper} {ev : Operand → Value} {ty : TypeId} {n : Nat} (T : StructT P ty n) (x : Operand) (ho : o.op = .load ty x) (p : Addr) (hx : ev x = .pointer (some p)) (cs : List Value) (hn : cs.length = n) (hc : ∀ j u, cs[j]? = some u → w.cell? (p.add j) = some u) :
    (execOp ev o).run P w = .ok (.value (.agg cs.toArray)) w := by
  unfold execOp
  simp only [ho, hx, Instr.loadAt, Instr.sureAddr, Sem.run_bind, Sem.run_pure, Result.andThen_ok, run_load_at T hn hc]
theorem beaconOrder_any (a b : BcV) (w : World) (ha : BcOk a) (hb : BcOk b) : Calls Tryz.prog 100 #[.agg #[.string a.psn, .string a.dev, .int .i64 a.st, .int .i64 a.at_, .int .i64 a.un, .string a.note], .agg #[.string b.psn, .string b.dev, .int .i64 b.st, .int .i64 b.at_, .int .i64 b.un, .string b.note]] w (RetV (.int .i64 (bcCmp a b)) w) := by
  refine (beaconOrder_q a b w ha hb).mono ?_
  rintro e w' ⟨rfl, h⟩
  exact ⟨rfl, h.gr⟩
def OwnBc (w : World) (lo : Nat) (A : Option Addr) (n c : Nat) (l : List BcV) : Prop := OwnR BcV.row 6 w lo 62 A n c l ∧ ∀ r ∈ l, BcOk r
def SortedVB (A : Option Addr) (n c lo : Nat) (w : World) (e : Ending) (w' : World) : Prop := e = .returned (.tuple #[]) ∧ ∃ l', OwnBc w' lo A n c l' ∧ w.grownBy w' (blkOf A)
theorem OwnBc.swap {l : List BcV} {i j : Nat} {x y : BcV} (hok : ∀ r ∈ l, BcOk r) (hx : x ∈ l) (hy : y ∈ l) : ∀ r ∈ (l.set i x).set j y, BcOk r := by
  intro r hr
  rcases List.mem_or_eq_of_mem_set hr with h | rfl
  · rcases List.mem_or_eq_of_mem_set h with h | rfl
    · exact hok r h
    · exact hok _ hx
  · exact hok _ hy
set_option maxHeartbeats 8000000 in
set_option maxRecDepth 100000 in
theorem insSortB_any (lo : Nat) (A : Option Addr) (n c : Nat) (l : List BcV) (w : World) (h : OwnBc w lo A n c l) (hn : n ≤ 100) :
    Calls Tryz.prog 209 #[.slice A n c, .int .i64 0, .int .i64 n, .func (.func 100) #[] #[]] w (SortedVB A n c lo w) := by
  have H := Lib.hid h; clear h
  go_enter Tryz.func209, Tryz.ntmps209
  go_wp2_with fail
  go_loopw [8, 9] (fun t _ wr => ∃ (i : Nat) (l' : List BcV), t = .int .i64 i ∧ 1 ≤ i ∧ i ≤ n + 1 ∧ OwnBc wr lo A n c l' ∧ w.grownBy wr (blkOf A)) (fun t _ _ => n + 1 - (intOf t).toNat)
  case atStart => exact ⟨1, l, rfl, Nat.le_refl _, by omega, H.out, gr_refl _ _⟩
  case round =>
    obtain ⟨i, l1, rfl, hi, hi2, hown, hg⟩ := hrel
    have HO := Lib.hid hown; have HG := Lib.hid hg; clear hown hg
    by_cases hlt : i < n
    · obtain ⟨g, rfl, _, _⟩ := H.out.1.1.pos (by omega)
      have hl0 : (i : Int) < (n : Int) := by omega
      go_wp2_with fail
      go_loopw [9] (fun t wr => ∃ (j : Nat) (l' : List BcV), t = .int .i64 j ∧ j ≤ i ∧ OwnBc wr lo (some ⟨g, 0, none⟩) n c l' ∧ w.grownBy wr (some g)) (fun t _ => (intOf t).toNat)
      case atStart => exact ⟨i, l1, rfl, Nat.le_refl _, HO.out, HG.out⟩
      case round =>
        clear HO HG
        obtain ⟨j, l2, rfl, hj, hown, hg⟩ := hrel
        have HO := Lib.hid hown.1; have HK := Lib.hid hown.2; have HG := Lib.hid hg; clear hown hg
        have hHeld : wr.grownBy wr.drew none := gr_drew (gr_refl _ _)
        by_cases h0 : 0 < j
        · obtain ⟨q, rfl⟩ : ∃ q, j = q + 1 := ⟨j - 1, by omega⟩
          obtain ⟨⟨psn1, dev1, st1, at1, un1, note1⟩, hx⟩ : ∃ b, l2[q + 1]? = some b := ⟨_, List.getElem?_eq_getElem (by rw [HO.out.2]; omega)⟩
          obtain ⟨⟨psn2, dev2, st2, at2, un2, note2⟩, hy⟩ : ∃ b, l2[q]? = some b := ⟨_, List.getElem?_eq_getElem (by rw [HO.out.2]; omega)⟩
          have HX := Lib.hid hx; have HY := Lib.hid hy; clear hx hy
          have HCX := Lib.hid (HO.out.recs.at_ BcV.row_len HX.out)
          have HCY := Lib.hid (HO.out.recs.at_ BcV.row_len HY.out)
          have hi0 : decide ((0 : Int) < ((q + 1 : Nat) : Int)) = true := decide_eq_true (by omega)
          have hi1 : decide ((0 : Int) < (q : Int) + 1) = true := decide_eq_true (by omega)
          have q1 : IntKind.i64.wrap (q : Int) = (q : Int) := IntWalk.i64_in _ (by omega)
          have q2 : (0 : Int) ≤ (q : Int) + 1 := by omega
          have q3 : (q : Int) + 1 < (n : Int) := by omega
          have q4 : ((q : Int) + 1).toNat = q + 1 := by omega
          have q5 : (0 : Int) ≤ (q : Int) := by omega
          have q6 : (q : Int) < (n : Int) := by omega
          go_wp2_with fail
          refine H_begin (fun w' => wr.grownBy w' none) (by kernel_rfl) ?_
          refine H_take (k := 0) (v := ?_) (by rfl) (by kernel_rfl) (by kernel_rfl) (by kernel_rfl) (by exact fun _ _ _ h => h) (by rfl) ?_ (by assumption) ?_
          rotate_left 1
          · intro w hSw
            (try dsimp only at hSw)
            go_simp
            (try with_reducible rfl)
          (try simp only [Act.put, List.setIfInBounds_toArray, List.set_cons_zero, List.set_cons_succ])
          refine H_take (k := 1) (v := ?_) (by rfl) (by kernel_rfl) (by kernel_rfl) (by kernel_rfl) (by exact fun _ _ _ h => h) (by rfl) ?_ (by assumption) ?_
          rotate_left 1
          · intro w hSw
            (try dsimp only at hSw)
            go_simp
            (try with_reducible rfl)
          (try simp only [Act.put, List.setIfInBounds_toArray, List.set_cons_zero, List.set_cons_succ])
          refine H_take (k := 2) (v := ?_) (by rfl) (by kernel_rfl) (by kernel_rfl) (by kernel_rfl) (by exact fun _ _ _ h => h) (by rfl) ?_ (by assumption) ?_
          rotate_left 1
          · intro w hSw
            (try dsimp only at hSw)
            go_simp
            (try with_reducible rfl)
          (try simp only [Act.put, List.setIfInBounds_toArray, List.set_cons_zero, List.set_cons_succ])
          refine H_take (k := 3) (v := ?_) (by rfl) (by kernel_rfl) (by kernel_rfl) (by kernel_rfl) (by exact fun _ _ _ h => h) (by rfl) ?_ (by assumption) ?_
          rotate_left 1
          · intro w hSw
            (try dsimp only at hSw)
            go_simp
            (try with_reducible rfl)
          (try simp only [Act.put, List.setIfInBounds_toArray, List.set_cons_zero, List.set_cons_succ])
          refine H_take (k := 4) (v := ?_) (by rfl) (by kernel_rfl) (by kernel_rfl) (by kernel_rfl) (by exact fun _ _ _ h => h) (by rfl) ?_ (by assumption) ?_
          rotate_left 1
          · intro w hSw
            (try dsimp only at hSw)
            go_simp
            (try with_reducible rfl)
          (try simp only [Act.put, List.setIfInBounds_toArray, List.set_cons_zero, List.set_cons_succ])
          refine H_take (k := 5) (v := ?_) (by rfl) (by kernel_rfl) (by kernel_rfl) (by kernel_rfl) (by exact fun _ _ _ h => h) (by rfl) ?_ (by assumption) ?_
          rotate_left 1
          · intro w hSw
            (try dsimp only at hSw)
            go_simp
            (try with_reducible rfl)
          (try simp only [Act.put, List.setIfInBounds_toArray, List.set_cons_zero, List.set_cons_succ])
          refine H_take (k := 6) (v := ?_) (by rfl) (by kernel_rfl) (by kernel_rfl) (by kernel_rfl) (by exact fun _ _ _ h => h) (by rfl) ?_ (by assumption) ?_
          rotate_left 1
          · intro w hSw
            (try dsimp only at hSw)
            go_simp
            (try with_reducible rfl)
          (try simp only [Act.put, List.setIfInBounds_toArray, List.set_cons_zero, List.set_cons_succ])
          refine H_take (k := 7) (v := ?_) (by rfl) (by kernel_rfl) (by kernel_rfl) (by kernel_rfl) (by exact fun _ _ _ h => h) (by rfl) ?_ (by assumption) ?_
          rotate_left 1
          · intro w hSw
            (try dsimp only at hSw)
            go_simp
            (try with_reducible rfl)
          (try simp only [Act.put, List.setIfInBounds_toArray, List.set_cons_zero, List.set_cons_succ])
          refine H_take (k := 8) (v := .agg #[.string psn1, .string dev1, .int .i64 st1, .int .i64 at1, .int .i64 un1, .string note1]) (by rfl) (by kernel_rfl) (by kernel_rfl) (by kernel_rfl) (by exact fun _ _ _ h => h) (by rfl) (fun w' hSw => exec_lda Tryz.bcT _ rfl _ rfl [.string psn1, .string dev1, .int .i64 st1, .int .i64 at1, .int .i64 un1, .string note1] rfl (fun j u hu => by rw [add_mk]; exact (by simpa using ((HO.out.recs.grown hSw (fun g e => by cases e)).at_ BcV.row_len HX.out) j u hu))) (by assumption) ?_
          (try simp only [Act.put, List.setIfInBounds_toArray, List.set_cons_zero, List.set_cons_succ])
          refine H_take (k := 9) (v := ?_) (by rfl) (by kernel_rfl) (by kernel_rfl) (by kernel_rfl) (by exact fun _ _ _ h => h) (by rfl) ?_ (by assumption) ?_
          rotate_left 1
          · intro w hSw
            (try dsimp only at hSw)
            go_simp
            (try with_reducible rfl)
          (try simp only [Act.put, List.setIfInBounds_toArray, List.set_cons_zero, List.set_cons_succ])
          refine H_take (k := 10) (v := ?_) (by rfl) (by kernel_rfl) (by kernel_rfl) (by kernel_rfl) (by exact fun _ _ _ h => h) (by rfl) ?_ (by assumption) ?_
          rotate_left 1
          · intro w hSw
            (try dsimp only at hSw)
            go_simp
            (try with_reducible rfl)
          (try simp only [Act.put, List.setIfInBounds_toArray, List.set_cons_zero, List.set_cons_succ])
          refine H_take (k := 11) (v := ?_) (by rfl) (by kernel_rfl) (by kernel_rfl) (by kernel_rfl) (by exact fun _ _ _ h => h) (by rfl) ?_ (by assumption) ?_
          rotate_left 1
          · intro w hSw
            (try dsimp only at hSw)
            go_simp
            (try with_reducible rfl)
          (try simp only [Act.put, List.setIfInBounds_toArray, List.set_cons_zero, List.set_cons_succ])
          refine H_take (k := 12) (v := ?_) (by rfl) (by kernel_rfl) (by kernel_rfl) (by kernel_rfl) (by exact fun _ _ _ h => h) (by rfl) ?_ (by assumption) ?_
          rotate_left 1
          · intro w hSw
            (try dsimp only at hSw)
            go_simp
            (try with_reducible rfl)
          (try simp only [Act.put, List.setIfInBounds_toArray, List.set_cons_zero, List.set_cons_succ])
          refine H_take (k := 13) (v := .agg #[.string psn2, .string dev2, .int .i64 st2, .int .i64 at2, .int .i64 un2, .string note2]) (by rfl) (by kernel_rfl) (by kernel_rfl) (by kernel_rfl) (by exact fun _ _ _ h => h) (by rfl) (fun w' hSw => exec_lda Tryz.bcT _ rfl _ rfl [.string psn2, .string dev2, .int .i64 st2, .int .i64 at2, .int .i64 un2, .string note2] rfl (fun j u hu => by rw [add_mk]; exact (by simpa using ((HO.out.recs.grown hSw (fun g e => by cases e)).at_ BcV.row_len HY.out) j u hu))) (by assumption) ?_
          (try simp only [Act.put, List.setIfInBounds_toArray, List.set_cons_zero, List.set_cons_succ])
          refine H_run (k := 14) (by rfl) (by kernel_rfl) (by rfl) (fun K hK => ?_)
          go_simp
          refine (beaconOrder_any ⟨psn1, dev1, st1, at1, un1, note1⟩ ⟨psn2, dev2, st2, at2, un2, note2⟩ _ (HK.out _ (mem_of_get HX.out)) (HK.out _ (mem_of_get HY.out))).mono ?_
          rintro e w6 ⟨rfl, hg6⟩
          obtain ⟨Z, hZ⟩ : ∃ Z, bcCmp ⟨psn1, dev1, st1, at1, un1, note1⟩ ⟨psn2, dev2, st2, at2, un2, note2⟩ = Z := ⟨_, rfl⟩
          rw [hZ]
          clear hZ
          go_simp
          have hgz : wr.grownBy w6 none := gr_none (gr_drew (gr_refl wr none)) hg6
          refine hK _ _ hgz ?_
          clear hK K hHeld hg6
          have hHeld := hgz
          obtain ⟨ZB, hZB⟩ : ∃ ZB, decide (Z < 0) = ZB := ⟨_, rfl⟩
          refine H_take (k := 15) (v := ?_) (by rfl) (by kernel_rfl) (by kernel_rfl) (by kernel_rfl) (by exact fun _ _ _ h => h) (by rfl) ?_ (by assumption) ?_
          rotate_left 1
          · intro w hSw
            (try dsimp only at hSw)
            go_simp
            (try with_reducible rfl)
          (try simp only [Act.put, List.setIfInBounds_toArray, List.set_cons_zero, List.set_cons_succ])
          refine H_take (k := 16) (v := ?_) (by rfl) (by kernel_rfl) (by kernel_rfl) (by kernel_rfl) (by exact fun _ _ _ h => h) (by rfl) ?_ (by assumption) ?_
          rotate_left 1
          · intro w hSw
            (try dsimp only at hSw)
            go_simp
            (try with_reducible rfl)
          (try simp only [Act.put, List.setIfInBounds_toArray, List.set_cons_zero, List.set_cons_succ])
          refine H_done (by kernel_rfl) ?_
          clear hi0 hi1 hHeld
          have HO6 := Lib.hid (HO.out.kept hgz (fun g e => by cases e))
          have HG6 := Lib.hid (gr_none HG.out hgz)
          clear hgz hZB
          cases ZB
          · clear q1 q2 q3 q4 q5 q6
            go_wp2_with fail
            go_roundw
            case rel => exact ⟨i + 1, l2, by go_num, by omega, by omega, ⟨HO6.out, HK.out⟩, HG6.out⟩
            case measure => simp [intOf]; omega
          · have HCX2 := Lib.hid (HO6.out.recs.at_ BcV.row_len HX.out)
            go_wp2_with fail
            refine wp_region_B (fun w' => w6.grownBy w' none) 15 (by kernel_rfl) ?_
            have hHeld : w6.grownBy w6.drew none := gr_drew (gr_refl _ _)
            refine B_take (k := 0) false (v := ?_) (by rfl) (by kernel_rfl) (by exact fun _ _ _ h => h) (by rfl) ?_ (by first | exact .inr hHeld | exact .inl (by rfl)) ?_
            rotate_left 1
            · intro w hSw
              clear hSw
              go_simp
              (try with_reducible rfl)
            (try simp only [Act.put, List.setIfInBounds_toArray, List.set_cons_zero, List.set_cons_succ])
            refine B_take (k := 1) false (v := ?_) (by rfl) (by kernel_rfl) (by exact fun _ _ _ h => h) (by rfl) ?_ (by first | exact .inr hHeld | exact .inl (by rfl)) ?_
            rotate_left 1
            · intro w hSw
              clear hSw
              go_simp
              (try with_reducible rfl)
            (try simp only [Act.put, List.setIfInBounds_toArray, List.set_cons_zero, List.set_cons_succ])
            refine B_take (k := 2) false (v := ?_) (by rfl) (by kernel_rfl) (by exact fun _ _ _ h => h) (by rfl) ?_ (by first | exact .inr hHeld | exact .inl (by rfl)) ?_
            rotate_left 1
            · intro w hSw
              clear hSw
              go_simp
              (try with_reducible rfl)
            (try simp only [Act.put, List.setIfInBounds_toArray, List.set_cons_zero, List.set_cons_succ])
            refine B_take (k := 3) false (v := ?_) (by rfl) (by kernel_rfl) (by exact fun _ _ _ h => h) (by rfl) ?_ (by first | exact .inr hHeld | exact .inl (by rfl)) ?_
            rotate_left 1
            · intro w hSw
              clear hSw
              go_simp
              (try with_reducible rfl)
            (try simp only [Act.put, List.setIfInBounds_toArray, List.set_cons_zero, List.set_cons_succ])
            refine B_take (k := 4) false (v := ?_) (by rfl) (by kernel_rfl) (by exact fun _ _ _ h => h) (by rfl) ?_ (by first | exact .inr hHeld | exact .inl (by rfl)) ?_
            rotate_left 1
            · intro w hSw
              clear hSw
              go_simp
              (try with_reducible rfl)
            (try simp only [Act.put, List.setIfInBounds_toArray, List.set_cons_zero, List.set_cons_succ])
            refine B_take (k := 5) false (v := ?_) (by rfl) (by kernel_rfl) (by exact fun _ _ _ h => h) (by rfl) ?_ (by first | exact .inr hHeld | exact .inl (by rfl)) ?_
            rotate_left 1
            · intro w hSw
              clear hSw
              go_simp
              (try with_reducible rfl)
            (try simp only [Act.put, List.setIfInBounds_toArray, List.set_cons_zero, List.set_cons_succ])
            refine B_take (k := 6) false (v := ?_) (by rfl) (by kernel_rfl) (by exact fun _ _ _ h => h) (by rfl) ?_ (by first | exact .inr hHeld | exact .inl (by rfl)) ?_
            rotate_left 1
            · intro w hSw
              clear hSw
              go_simp
              (try with_reducible rfl)
            (try simp only [Act.put, List.setIfInBounds_toArray, List.set_cons_zero, List.set_cons_succ])
            refine B_take (k := 7) false (v := ?_) (by rfl) (by kernel_rfl) (by exact fun _ _ _ h => h) (by rfl) ?_ (by first | exact .inr hHeld | exact .inl (by rfl)) ?_
            rotate_left 1
            · intro w hSw
              clear hSw
              go_simp
              (try with_reducible rfl)
            (try simp only [Act.put, List.setIfInBounds_toArray, List.set_cons_zero, List.set_cons_succ])
            refine B_take (k := 8) false (v := ?_) (by rfl) (by kernel_rfl) (by exact fun _ _ _ h => h) (by rfl) ?_ (by first | exact .inr hHeld | exact .inl (by rfl)) ?_
            rotate_left 1
            · intro w hSw
              clear hSw
              go_simp
              (try with_reducible rfl)
            (try simp only [Act.put, List.setIfInBounds_toArray, List.set_cons_zero, List.set_cons_succ])
            refine B_take (k := 9) true (v := .agg #[.string psn2, .string dev2, .int .i64 st2, .int .i64 at2, .int .i64 un2, .string note2]) (by rfl) (by kernel_rfl) (by exact fun _ _ _ h => h) (by rfl) (fun w' hSw => exec_lda Tryz.bcT _ rfl _ rfl [.string psn2, .string dev2, .int .i64 st2, .int .i64 at2, .int .i64 un2, .string note2] rfl (fun j u hu => by rw [add_mk]; exact (by simpa using ((HO6.out.recs.grown hSw (fun g e => by cases e)).at_ BcV.row_len HY.out) j u hu))) (.inr hHeld) ?_
            (try simp only [Act.put, List.setIfInBounds_toArray, List.set_cons_zero, List.set_cons_succ])
            refine B_take (k := 10) false (v := ?_) (by rfl) (by kernel_rfl) (by exact fun _ _ _ h => h) (by rfl) ?_ (by first | exact .inr hHeld | exact .inl (by rfl)) ?_
            rotate_left 1
            · intro w hSw
              clear hSw
              go_simp
              (try with_reducible rfl)
            (try simp only [Act.put, List.setIfInBounds_toArray, List.set_cons_zero, List.set_cons_succ])
            refine B_take (k := 11) false (v := ?_) (by rfl) (by kernel_rfl) (by exact fun _ _ _ h => h) (by rfl) ?_ (by first | exact .inr hHeld | exact .inl (by rfl)) ?_
            rotate_left 1
            · intro w hSw
              clear hSw
              go_simp
              (try with_reducible rfl)
            (try simp only [Act.put, List.setIfInBounds_toArray, List.set_cons_zero, List.set_cons_succ])
            refine B_take (k := 12) false (v := ?_) (by rfl) (by kernel_rfl) (by exact fun _ _ _ h => h) (by rfl) ?_ (by first | exact .inr hHeld | exact .inl (by rfl)) ?_
            rotate_left 1
            · intro w hSw
              clear hSw
              go_simp
              (try with_reducible rfl)
            (try simp only [Act.put, List.setIfInBounds_toArray, List.set_cons_zero, List.set_cons_succ])
            refine B_take (k := 13) true (v := .agg #[.string psn1, .string dev1, .int .i64 st1, .int .i64 at1, .int .i64 un1, .string note1]) (by rfl) (by kernel_rfl) (by exact fun _ _ _ h => h) (by rfl) (fun w' hSw => exec_lda Tryz.bcT _ rfl _ rfl [.string psn1, .string dev1, .int .i64 st1, .int .i64 at1, .int .i64 un1, .string note1] rfl (fun j u hu => by rw [add_mk]; exact (by simpa using ((HO6.out.recs.grown hSw (fun g e => by cases e)).at_ BcV.row_len HX.out) j u hu))) (.inr hHeld) ?_
            (try simp only [Act.put, List.setIfInBounds_toArray, List.set_cons_zero, List.set_cons_succ])
            refine B_take (k := 14) false (v := ?_) (by rfl) (by kernel_rfl) (by exact fun _ _ _ h => h) (by rfl) ?_ (by first | exact .inr hHeld | exact .inl (by rfl)) ?_
            rotate_left 1
            · intro w hSw
              clear hSw
              go_simp
              (try with_reducible rfl)
            (try simp only [Act.put, List.setIfInBounds_toArray, List.set_cons_zero, List.set_cons_succ])
            refine B_run (k := 15) (by rfl) (by kernel_rfl) (by rfl) (fun K hK => ?_)
            refine wp_store_rec (row := BcV.row) Tryz.bcT BcV.row_len (by decide) _ _ rfl (q + 1) _ rfl rfl ⟨psn2, dev2, st2, at2, un2, note2⟩ rfl (HO6.out.kept (gr_drew (gr_refl _ none)) (fun g e => by cases e)) (by omega) (BcV.one _) ?_
            intro w7 hown7 hg7
            refine hK _ _ (.inl (by rfl)) ?_
            clear hK K hHeld
            (try simp only [Act.put, List.setIfInBounds_toArray, List.set_cons_zero, List.set_cons_succ])
            refine B_take (k := 16) false (v := ?_) (by rfl) (by kernel_rfl) (by exact fun _ _ _ h => h) (by rfl) ?_ (by first | exact .inr hHeld | exact .inl (by rfl)) ?_
            rotate_left 1
            · intro w hSw
              clear hSw
              go_simp
              (try with_reducible rfl)
            (try simp only [Act.put, List.setIfInBounds_toArray, List.set_cons_zero, List.set_cons_succ])
            refine B_run (k := 17) (by rfl) (by kernel_rfl) (by rfl) (fun K hK => ?_)
            refine wp_store_rec (row := BcV.row) Tryz.bcT BcV.row_len (by decide) _ _ rfl q _ rfl rfl ⟨psn1, dev1, st1, at1, un1, note1⟩ rfl hown7 (by omega) (BcV.one _) ?_
            intro w8 hown8 hg8
            refine hK _ _ (.inl (by rfl)) ?_
            clear hK K
            (try simp only [Act.put, List.setIfInBounds_toArray, List.set_cons_zero, List.set_cons_succ])
            refine B_done (by kernel_rfl) ?_
            have HO8 := Lib.hid hown8
            have HG8 := Lib.hid (gr_same HG6.out (gr_same (gr_same (gr_drew (gr_refl w6 _)) hg7) hg8))
            clear hown7 hg7 hown8 hg8 q1 q2 q3 q4 q5 q6
            go_simp
            go_wp2_with fail
            go_roundw
            case rel => exact ⟨q, _, by go_num, by omega, ⟨HO8.out, OwnBc.swap HK.out (mem_of_get HY.out) (mem_of_get HX.out)⟩, HG8.out⟩
            case measure => simp [intOf]
        · obtain rfl : j = 0 := by omega
          have hi0 : decide ((0 : Int) < ((0 : Nat) : Int)) = false := by decide
          go_wp2_with fail
          refine H_begin (fun w' => wr.grownBy w' none) (by kernel_rfl) ?_
          refine H_take (k := 0) (v := ?_) (by rfl) (by kernel_rfl) (by kernel_rfl) (by kernel_rfl) (by exact fun _ _ _ h => h) (by rfl) ?_ (by assumption) ?_
          rotate_left 1
          · intro w hSw
            (try dsimp only at hSw)
            go_simp
            (try with_reducible rfl)
          (try simp only [Act.put, List.setIfInBounds_toArray, List.set_cons_zero, List.set_cons_succ])
          refine H_take (k := 1) (v := ?_) (by rfl) (by kernel_rfl) (by kernel_rfl) (by kernel_rfl) (by exact fun _ _ _ h => h) (by rfl) ?_ (by assumption) ?_
          rotate_left 1
          · intro w hSw
            (try dsimp only at hSw)
            go_simp
            (try with_reducible rfl)
          (try simp only [Act.put, List.setIfInBounds_toArray, List.set_cons_zero, List.set_cons_succ])
          refine H_take (k := 2) (v := ?_) (by rfl) (by kernel_rfl) (by kernel_rfl) (by kernel_rfl) (by exact fun _ _ _ h => h) (by rfl) ?_ (by assumption) ?_
          rotate_left 1
          · intro w hSw
            (try dsimp only at hSw)
            go_simp
            (try with_reducible rfl)
          (try simp only [Act.put, List.setIfInBounds_toArray, List.set_cons_zero, List.set_cons_succ])
          refine H_take (k := 3) (v := ?_) (by rfl) (by kernel_rfl) (by kernel_rfl) (by kernel_rfl) (by exact fun _ _ _ h => h) (by rfl) ?_ (by assumption) ?_
          rotate_left 1
          · intro w hSw
            (try dsimp only at hSw)
            go_simp
            (try with_reducible rfl)
          (try simp only [Act.put, List.setIfInBounds_toArray, List.set_cons_zero, List.set_cons_succ])
          refine H_skip (k := 4) (by rfl) (by kernel_rfl) (by kernel_rfl) (by kernel_rfl) (by exact fun _ _ _ h => h) (by rfl) (by assumption) ?_
          (try simp only [Act.put, List.setIfInBounds_toArray, List.set_cons_zero, List.set_cons_succ])
          refine H_skip (k := 5) (by rfl) (by kernel_rfl) (by kernel_rfl) (by kernel_rfl) (by exact fun _ _ _ h => h) (by rfl) (by assumption) ?_
          (try simp only [Act.put, List.setIfInBounds_toArray, List.set_cons_zero, List.set_cons_succ])
          refine H_skip (k := 6) (by rfl) (by kernel_rfl) (by kernel_rfl) (by kernel_rfl) (by exact fun _ _ _ h => h) (by rfl) (by assumption) ?_
          (try simp only [Act.put, List.setIfInBounds_toArray, List.set_cons_zero, List.set_cons_succ])
          refine H_skip (k := 7) (by rfl) (by kernel_rfl) (by kernel_rfl) (by kernel_rfl) (by exact fun _ _ _ h => h) (by rfl) (by assumption) ?_
          (try simp only [Act.put, List.setIfInBounds_toArray, List.set_cons_zero, List.set_cons_succ])
          refine H_skip (k := 8) (by rfl) (by kernel_rfl) (by kernel_rfl) (by kernel_rfl) (by exact fun _ _ _ h => h) (by rfl) (by assumption) ?_
          (try simp only [Act.put, List.setIfInBounds_toArray, List.set_cons_zero, List.set_cons_succ])
          refine H_skip (k := 9) (by rfl) (by kernel_rfl) (by kernel_rfl) (by kernel_rfl) (by exact fun _ _ _ h => h) (by rfl) (by assumption) ?_
          (try simp only [Act.put, List.setIfInBounds_toArray, List.set_cons_zero, List.set_cons_succ])
          refine H_skip (k := 10) (by rfl) (by kernel_rfl) (by kernel_rfl) (by kernel_rfl) (by exact fun _ _ _ h => h) (by rfl) (by assumption) ?_
          (try simp only [Act.put, List.setIfInBounds_toArray, List.set_cons_zero, List.set_cons_succ])
          refine H_skip (k := 11) (by rfl) (by kernel_rfl) (by kernel_rfl) (by kernel_rfl) (by exact fun _ _ _ h => h) (by rfl) (by assumption) ?_
          (try simp only [Act.put, List.setIfInBounds_toArray, List.set_cons_zero, List.set_cons_succ])
          refine H_skip (k := 12) (by rfl) (by kernel_rfl) (by kernel_rfl) (by kernel_rfl) (by exact fun _ _ _ h => h) (by rfl) (by assumption) ?_
          (try simp only [Act.put, List.setIfInBounds_toArray, List.set_cons_zero, List.set_cons_succ])
          refine H_skip (k := 13) (by rfl) (by kernel_rfl) (by kernel_rfl) (by kernel_rfl) (by exact fun _ _ _ h => h) (by rfl) (by assumption) ?_
          (try simp only [Act.put, List.setIfInBounds_toArray, List.set_cons_zero, List.set_cons_succ])
          refine H_skip (k := 14) (by rfl) (by kernel_rfl) (by kernel_rfl) (by kernel_rfl) (by exact fun _ _ _ h => h) (by rfl) (by assumption) ?_
          (try simp only [Act.put, List.setIfInBounds_toArray, List.set_cons_zero, List.set_cons_succ])
          refine H_skip (k := 15) (by rfl) (by kernel_rfl) (by kernel_rfl) (by kernel_rfl) (by exact fun _ _ _ h => h) (by rfl) (by assumption) ?_
          (try simp only [Act.put, List.setIfInBounds_toArray, List.set_cons_zero, List.set_cons_succ])
          refine H_take (k := 16) (v := ?_) (by rfl) (by kernel_rfl) (by kernel_rfl) (by kernel_rfl) (by exact fun _ _ _ h => h) (by rfl) ?_ (by assumption) ?_
          rotate_left 1
          · intro w hSw
            (try dsimp only at hSw)
            go_simp
            (try with_reducible rfl)
          (try simp only [Act.put, List.setIfInBounds_toArray, List.set_cons_zero, List.set_cons_succ])
          refine H_done (by kernel_rfl) ?_
          clear hi0 hHeld
          have HO6 := Lib.hid (HO.out.kept (gr_drew (gr_refl _ none)) (fun g e => by cases e))
          have HG6 := Lib.hid (gr_drew HG.out)
          go_wp2_with fail
          go_roundw
          case rel => exact ⟨i + 1, l2, by go_num, by omega, by omega, ⟨HO6.out, HK.out⟩, HG6.out⟩
          case measure => simp [intOf]; omega
    · have hl0 : ¬ (i : Int) < (n : Int) := by omega
      go_wp2_with fail
      go_end0
      exact ⟨rfl, l1, HO.out, HG.out⟩
set_option maxHeartbeats 2000000 in
theorem stableB_any (lo : Nat) (A : Option Addr) (n c : Nat) (l : List BcV) (w : World) (h : OwnBc w lo A n c l) (hn : n ≤ 19) :
    Calls Tryz.prog 150 #[.slice A n c, .int .i64 n, .func (.func 100) #[] #[]] w (SortedVB A n c lo w) := by
  have H := Lib.hid h; clear h
  have d1 : decide ((20 : Int) ≤ (n : Int)) = false := decide_eq_false (by omega)
  have d2 : decide ((20 : Int) < (n : Int)) = false := decide_eq_false (by omega)
  go_enter Tryz.func150, Tryz.ntmps150
  go_wp2_with fail
  go_loopw [7, 8] (fun x y wr => x = .int .i64 0 ∧ y = .int .i64 20 ∧ w = wr) (fun _ _ _ => 0)
  case atStart => exact ⟨rfl, rfl, rfl⟩
  case round =>
    obtain ⟨rfl, rfl, rfl⟩ := hrel
    go_wp2_with fail
    refine (insSortB_any lo A n c l _ H.out (by omega)).mono ?_
    rintro e w2 ⟨rfl, l2, hown, hg⟩
    have HO := Lib.hid hown; have HG := Lib.hid hg; clear hown hg
    go_wp2_with fail
    go_loopw [6, 7, 8] (fun x _ _ wr => x = .int .i64 20 ∧ w2 = wr) (fun _ _ _ _ => 0)
    case atStart => exact ⟨rfl, rfl⟩
    case round =>
      obtain ⟨rfl, rfl⟩ := hrel
      go_wp2_with fail
      go_end0
      exact ⟨rfl, l2, HO.out, HG.out⟩
set_option maxHeartbeats 1000000 in
theorem sortStableB_any (lo : Nat) (A : Option Addr) (n c : Nat) (l : List BcV) (w : World) (h : OwnBc w lo A n c l) (hn : n ≤ 19) :
    Calls Tryz.prog 99 #[.slice A n c, .func (.func 100) #[] #[]] w (SortedVB A n c lo w) := by
  have H := Lib.hid h; clear h
  go_enter Tryz.func99, Tryz.ntmps99
  go_wp2_with fail
  refine (stableB_any lo A n c l _ H.out hn).mono ?_
  rintro e w2 ⟨rfl, l2, hown, hg⟩
  have HO := Lib.hid hown; have HG := Lib.hid hg; clear hown hg
  go_wp2_with fail
  go_end0
  exact ⟨rfl, l2, HO.out, HG.out⟩
end
end Go.Proofs.YtgogiljplnninaaGreatDoor
/- Contract of slices.CompactFunc at beacons: some of the beacons. Conditions: at most 1000 beacons, each BcOk. -/
namespace Go.Proofs.YtgogiljplnninaaGreatDoor
section
open Go.RowKit

theorem flat_drop {α : Type} {row : α → List Value} {k : Nat} (hrow : ∀ a, (row a).length = k) : ∀ (l : List α) (i : Nat), (l.flatMap row).drop (i * k) = (l.drop i).flatMap row
  | l, 0 => by simp
  | [], i + 1 => by simp
  | a :: l, i + 1 => by
    rw [List.flatMap_cons, List.drop_succ_cons, ← flat_drop hrow l i, Nat.succ_mul, Nat.add_comm, ← List.drop_drop, show List.drop k (row a ++ l.flatMap row) = l.flatMap row by rw [← hrow a, List.drop_left]]
theorem flat_take2 {α : Type} {row : α → List Value} {k : Nat} (hrow : ∀ a, (row a).length = k) : ∀ (l : List α) (i : Nat), (l.flatMap row).take (i * k) = (l.take i).flatMap row
  | l, 0 => by simp
  | [], i + 1 => by simp
  | a :: l, i + 1 => by
    rw [List.flatMap_cons, List.take_succ_cons, List.flatMap_cons, ← flat_take2 hrow l i, Nat.succ_mul, Nat.add_comm, show k + i * k = (row a).length + i * k by rw [hrow], List.take_length_add_append]
theorem Recs.dropK {α : Type} {row : α → List Value} {k : Nat} {w : World} {lo n c g o i : Nat} {l : List α} (hrow : ∀ a, (row a).length = k) (h : Recs row k w lo (some ⟨g, o, none⟩) n c l) (hi : i < n) : Recs row k w lo (some ⟨g, o + i * k, none⟩) (n - i) (c - i) (l.drop i) := by
  obtain ⟨⟨h1, h2, h3⟩, h4⟩ := h
  obtain ⟨g', o', e, q1, q2, q3⟩ := h3 (by omega)
  injection e with e
  injection e with e1 e2
  subst e1; subst e2
  refine ⟨⟨?_, by omega, fun _ => ⟨g, o + i * k, rfl, q1, q2, fun j u hu => ?_⟩⟩, by rw [List.length_drop, h4]⟩
  · rw [← flat_drop hrow, List.length_drop, h1, Nat.sub_mul]
  · rw [← flat_drop hrow, List.getElem?_drop] at hu
    rw [Nat.add_assoc]
    exact q3 _ _ hu
theorem sameBeacon_any (a b : BcV) (w : World) (ha : BcOk a) (hb : BcOk b) : Calls Tryz.prog 102 #[.agg #[.string a.psn, .string a.dev, .int .i64 a.st, .int .i64 a.at_, .int .i64 a.un, .string a.note], .agg #[.string b.psn, .string b.dev, .int .i64 b.st, .int .i64 b.at_, .int .i64 b.un, .string b.note]] w (RetV (.bool (bcCmp a b == 0)) w) := by
  obtain ⟨W1, hW⟩ : ∃ W1, (w.alloc (.cells #[.string a.psn, .string a.dev, .int .i64 a.st, .int .i64 a.at_, .int .i64 a.un, .string a.note] 62)).alloc (.cells #[.string b.psn, .string b.dev, .int .i64 b.st, .int .i64 b.at_, .int .i64 b.un, .string b.note] 62) = W1 := ⟨_, rfl⟩
  have HA := Lib.hid (show Blk W1 w.heap.size 62 #[.string a.psn, .string a.dev, .int .i64 a.st, .int .i64 a.at_, .int .i64 a.un, .string a.note] by rw [← hW]; exact (Blk.new _ _ _).alloc _)
  have HB := Lib.hid (show Blk W1 (w.heap.size + 1) 62 #[.string b.psn, .string b.dev, .int .i64 b.st, .int .i64 b.at_, .int .i64 b.un, .string b.note] by
    rw [← hW]
    have h := Blk.new (w.alloc (.cells #[.string a.psn, .string a.dev, .int .i64 a.st, .int .i64 a.at_, .int .i64 a.un, .string a.note] 62)) 62 #[.string b.psn, .string b.dev, .int .i64 b.st, .int .i64 b.at_, .int .i64 b.un, .string b.note]
    simpa using h)
  have HG := Lib.hid (show w.grownBy W1 none by rw [← hW]; exact gr_alloc (gr_alloc (gr_refl _ _) _) _)
  have HW := Lib.hid hW; clear hW
  have HOA := Lib.hid ha; have HOB := Lib.hid hb
  clear ha hb
  go_enter Tryz.func102, Tryz.ntmps102
  go_upto_region 1 with (fail)
  rw [HW.out]
  go_wp2_with (first
    | (refine wpl_load_all Tryz.bcT rfl _ rfl _ rfl _ _ HA.out rfl ?_)
    | (refine wpl_load_all Tryz.bcT rfl _ rfl _ rfl _ _ HB.out rfl ?_)
    | fail)
  refine (beaconOrder_any a b _ HOA.out HOB.out).mono ?_
  rintro e w2 ⟨rfl, hg2⟩
  have HG2 := Lib.hid (gr_none HG.out hg2)
  clear hg2
  go_wp2_with fail
  go_ret
  exact ⟨rfl, HG2.out⟩
set_option maxHeartbeats 8000000 in
set_option maxRecDepth 100000 in
theorem compactB_any (lo : Nat) (A : Option Addr) (n c : Nat) (l : List BcV) (w : World) (h : OwnBc w lo A n c l) (hn : n ≤ 1000) :
    Calls Tryz.prog 101 #[.slice A n c, .func (.func 102) #[] #[]] w (fun e w' => ∃ m l', e = .returned (.slice A m c) ∧ OwnBc w' lo A m c l' ∧ w.grownBy w' (blkOf A) ∧ m ≤ n) := by
  have H := Lib.hid h; clear h
  by_cases h2 : n < 2
  · have d0 : decide ((n : Int) < 2) = true := decide_eq_true (by omega)
    go_enter Tryz.func101, Tryz.ntmps101
    go_wp2_with fail
    go_ret
    exact ⟨n, l, rfl, H.out, gr_refl _ _, Nat.le_refl _⟩
  · have d0 : decide ((n : Int) < 2) = false := decide_eq_false (by omega)
    obtain ⟨g, rfl, hgl, hgs⟩ := H.out.1.1.pos (by omega)
    have hcn := H.out.1.1.cap
    go_enter Tryz.func101, Tryz.ntmps101
    go_wp2_with fail
    clear d0
    go_loopw [5, 6, 7] (fun t _ _ wr => ∃ k : Nat, t = .int .i64 k ∧ 1 ≤ k ∧ k ≤ n ∧ OwnR BcV.row 6 wr lo 62 (some ⟨g, 0, none⟩) n c l ∧ w.grownBy wr (some g)) (fun t _ _ _ => n - (intOf t).toNat)
    case atStart => exact ⟨1, rfl, Nat.le_refl _, by omega, H.out.1, gr_refl _ _⟩
    case round =>
      obtain ⟨k, rfl, hk1, hkn, hown, hg⟩ := hrel
      have HO := Lib.hid hown; have HG := Lib.hid hg; have HK := Lib.hid H.out.2
      clear hown hg
      by_cases hlt : k < n
      · have hlt2 : (k : Int) < (n : Int) := by omega
        obtain ⟨⟨psn1, dev1, st1, at1, un1, note1⟩, hx⟩ : ∃ b, l[k]? = some b := ⟨_, List.getElem?_eq_getElem (by rw [HO.out.2]; omega)⟩
        obtain ⟨⟨psn2, dev2, st2, at2, un2, note2⟩, hy⟩ : ∃ b, l[k - 1]? = some b := ⟨_, List.getElem?_eq_getElem (by rw [HO.out.2]; omega)⟩
        have HX := Lib.hid hx; have HY := Lib.hid hy; clear hx hy
        have HRO := Lib.hid HO.out.recs
        have s2 : (0 : Int) ≤ (k : Int) - 1 := by omega
        have s5 : (1 : Int) ≤ (k : Int) := by omega
        have s3 : (k : Int) - 1 < (n : Int) := by omega
        have s6 : (0 : Int) < (n : Int) := by omega
        have s1 : IntKind.i64.wrap ((k : Int) - 1) = (k : Int) - 1 := IntWalk.i64_in _ (by omega)
        have s4 : ((k : Int) - 1).toNat = k - 1 := by omega
        have s7 : (0 : Int) ≤ (k : Int) := by omega
        go_wp2_with fail
        refine H_begin (fun w' => wr.grownBy w' none) (by kernel_rfl) ?_
        have hHeld : wr.grownBy wr.drew none := gr_drew (gr_refl _ _)
        refine H_take (k := 0) (v := ?_) (by rfl) (by kernel_rfl) (by kernel_rfl) (by kernel_rfl) (by exact fun _ _ _ h => h) (by rfl) ?_ (by assumption) ?_
        rotate_left 1
        · intro w hSw
          (try dsimp only at hSw)
          go_simp
          (try with_reducible rfl)
        (try simp only [Act.put, List.setIfInBounds_toArray, List.set_cons_zero, List.set_cons_succ])
        refine H_take (k := 1) (v := ?_) (by rfl) (by kernel_rfl) (by kernel_rfl) (by kernel_rfl) (by exact fun _ _ _ h => h) (by rfl) ?_ (by assumption) ?_
        rotate_left 1
        · intro w hSw
          (try dsimp only at hSw)
          go_simp
          (try with_reducible rfl)
        (try simp only [Act.put, List.setIfInBounds_toArray, List.set_cons_zero, List.set_cons_succ])
        refine H_take (k := 2) (v := ?_) (by rfl) (by kernel_rfl) (by kernel_rfl) (by kernel_rfl) (by exact fun _ _ _ h => h) (by rfl) ?_ (by assumption) ?_
        rotate_left 1
        · intro w hSw
          (try dsimp only at hSw)
          go_simp
          (try with_reducible rfl)
        (try simp only [Act.put, List.setIfInBounds_toArray, List.set_cons_zero, List.set_cons_succ])
        refine H_take (k := 3) (v := ?_) (by rfl) (by kernel_rfl) (by kernel_rfl) (by kernel_rfl) (by exact fun _ _ _ h => h) (by rfl) ?_ (by assumption) ?_
        rotate_left 1
        · intro w hSw
          (try dsimp only at hSw)
          go_simp
          (try with_reducible rfl)
        (try simp only [Act.put, List.setIfInBounds_toArray, List.set_cons_zero, List.set_cons_succ])
        refine H_take (k := 4) (v := .agg #[.string psn1, .string dev1, .int .i64 st1, .int .i64 at1, .int .i64 un1, .string note1]) (by rfl) (by kernel_rfl) (by kernel_rfl) (by kernel_rfl) (by exact fun _ _ _ h => h) (by rfl) (fun w' hSw => exec_ldr Tryz.bcT _ rfl _ rfl [.string psn1, .string dev1, .int .i64 st1, .int .i64 at1, .int .i64 un1, .string note1] (fun j u hu => by rw [add_mk]; have hcc := ((HRO.out.grown hSw (fun g e => by cases e)).at_ BcV.row_len HX.out) j u hu; simp only [Nat.zero_add] at hcc; exact hcc) rfl) (by assumption) ?_
        (try simp only [Act.put, List.setIfInBounds_toArray, List.set_cons_zero, List.set_cons_succ])
        refine H_take (k := 5) (v := ?_) (by rfl) (by kernel_rfl) (by kernel_rfl) (by kernel_rfl) (by exact fun _ _ _ h => h) (by rfl) ?_ (by assumption) ?_
        rotate_left 1
        · intro w hSw
          (try dsimp only at hSw)
          go_simp
          (try with_reducible rfl)
        (try simp only [Act.put, List.setIfInBounds_toArray, List.set_cons_zero, List.set_cons_succ])
        refine H_take (k := 6) (v := ?_) (by rfl) (by kernel_rfl) (by kernel_rfl) (by kernel_rfl) (by exact fun _ _ _ h => h) (by rfl) ?_ (by assumption) ?_
        rotate_left 1
        · intro w hSw
          (try dsimp only at hSw)
          go_simp
          (try with_reducible rfl)
        (try simp only [Act.put, List.setIfInBounds_toArray, List.set_cons_zero, List.set_cons_succ])
        refine H_take (k := 7) (v := ?_) (by rfl) (by kernel_rfl) (by kernel_rfl) (by kernel_rfl) (by exact fun _ _ _ h => h) (by rfl) ?_ (by assumption) ?_
        rotate_left 1
        · intro w hSw
          (try dsimp only at hSw)
          go_simp
          (try with_reducible rfl)
        (try simp only [Act.put, List.setIfInBounds_toArray, List.set_cons_zero, List.set_cons_succ])
        refine H_take (k := 8) (v := ?_) (by rfl) (by kernel_rfl) (by kernel_rfl) (by kernel_rfl) (by exact fun _ _ _ h => h) (by rfl) ?_ (by assumption) ?_
        rotate_left 1
        · intro w hSw
          (try dsimp only at hSw)
          go_simp
          (try with_reducible rfl)
        (try simp only [Act.put, List.setIfInBounds_toArray, List.set_cons_zero, List.set_cons_succ])
        refine H_take (k := 9) (v := .agg #[.string psn2, .string dev2, .int .i64 st2, .int .i64 at2, .int .i64 un2, .string note2]) (by rfl) (by kernel_rfl) (by kernel_rfl) (by kernel_rfl) (by exact fun _ _ _ h => h) (by rfl) (fun w' hSw => exec_ldr Tryz.bcT _ rfl _ rfl [.string psn2, .string dev2, .int .i64 st2, .int .i64 at2, .int .i64 un2, .string note2] (fun j u hu => by rw [add_mk]; have hcc := ((HRO.out.grown hSw (fun g e => by cases e)).at_ BcV.row_len HY.out) j u hu; simp only [Nat.zero_add] at hcc; exact hcc) rfl) (by assumption) ?_
        (try simp only [Act.put, List.setIfInBounds_toArray, List.set_cons_zero, List.set_cons_succ])
        refine H_run (k := 10) (by rfl) (by kernel_rfl) (by rfl) (fun K hK => ?_)
        go_simp
        refine (sameBeacon_any ⟨psn1, dev1, st1, at1, un1, note1⟩ ⟨psn2, dev2, st2, at2, un2, note2⟩ _ (HK.out _ (mem_of_get HX.out)) (HK.out _ (mem_of_get HY.out))).mono ?_
        rintro e w6 ⟨rfl, hg6⟩
        obtain ⟨ZB, hZB⟩ : ∃ ZB, (bcCmp ⟨psn1, dev1, st1, at1, un1, note1⟩ ⟨psn2, dev2, st2, at2, un2, note2⟩ == 0) = ZB := ⟨_, rfl⟩
        rw [hZB]
        have hgz := gr_none hHeld hg6
        refine hK _ _ hgz ?_
        clear hK K hHeld hg6
        have hHeld := hgz
        (try simp only [Act.put, List.setIfInBounds_toArray, List.set_cons_zero, List.set_cons_succ])
        refine H_done (by kernel_rfl) ?_
        have HO6 := Lib.hid (HO.out.kept hgz (fun g e => by cases e))
        have HG6 := Lib.hid (gr_none HG.out hgz)
        clear hgz hHeld hZB
        clear s1 s2 s3 s4 s5 s6
        cases ZB
        · go_wp2_with fail
          go_roundw
          case rel => exact ⟨k + 1, by go_num, by omega, by omega, HO6.out, HG6.out⟩
          case measure => simp [intOf]; omega
        · clear HO HG HX HY HRO HK
          have hck : ¬ c = k := by omega
          have s8 : (k : Int) ≤ (n : Int) := by omega
          go_wp2_with fail
          clear s8
          obtain ⟨w7, rfl⟩ : ∃ w7 : World, w7 = w6 := ⟨_, rfl⟩
          go_loopw [5, 7] (fun t5 t7 wr => ∃ (j q : Nat) (l' : List BcV), t5 = .int .i64 j ∧ t7 = .int .i64 q ∧ 1 ≤ q ∧ k ≤ j ∧ j < k + q ∧ k + q ≤ n ∧ OwnBc wr lo (some ⟨g, 0, none⟩) n c l' ∧ w.grownBy wr (some g)) (fun _ t7 _ => n - (intOf t7).toNat)
          case atStart => exact ⟨k, 1, l, rfl, rfl, Nat.le_refl _, Nat.le_refl _, by omega, by omega, ⟨HO6.out, H.out.2⟩, HG6.out⟩
          case round =>
            clear HO6 HG6
            obtain ⟨j, q, l1, rfl, rfl, hq1, hkj, hjq, hqn, hown, hg⟩ := hrel
            have HO := Lib.hid hown.1; have HK := Lib.hid hown.2; have HG := Lib.hid hg
            clear hown hg
            by_cases hltq : k + q < n
            · have hq2 : (q : Int) < ((n - k : Nat) : Int) := by omega
              obtain ⟨⟨psn1, dev1, st1, at1, un1, note1⟩, hx⟩ : ∃ b, l1[k + q]? = some b := ⟨_, List.getElem?_eq_getElem (by rw [HO.out.2]; omega)⟩
              obtain ⟨⟨psn2, dev2, st2, at2, un2, note2⟩, hy⟩ : ∃ b, l1[k + (q - 1)]? = some b := ⟨_, List.getElem?_eq_getElem (by rw [HO.out.2]; omega)⟩
              have HX := Lib.hid (show (l1.drop k)[q]? = some ⟨psn1, dev1, st1, at1, un1, note1⟩ by rw [List.getElem?_drop]; exact hx)
              have HY := Lib.hid (show (l1.drop k)[q - 1]? = some ⟨psn2, dev2, st2, at2, un2, note2⟩ by rw [List.getElem?_drop]; exact hy)
              have HMX := Lib.hid (mem_of_get hx); have HMY := Lib.hid (mem_of_get hy)
              clear hx hy
              have HRO := Lib.hid (HO.out.recs.dropK BcV.row_len (i := k) (by omega))
              have s2 : (0 : Int) ≤ (q : Int) - 1 := by omega
              have s5 : (1 : Int) ≤ (q : Int) := by omega
              have s3 : (q : Int) - 1 < ((n - k : Nat) : Int) := by omega
              have s1 : IntKind.i64.wrap ((q : Int) - 1) = (q : Int) - 1 := IntWalk.i64_in _ (by omega)
              have s4 : ((q : Int) - 1).toNat = q - 1 := by omega
              have s7 : (0 : Int) ≤ (q : Int) := by omega
              have u1 : IntKind.i64.wrap ((q : Int) + 1) = (q : Int) + 1 := IntWalk.i64_in _ (by omega)
              have u2 : IntKind.i64.wrap ((j : Int) + 1) = (j : Int) + 1 := IntWalk.i64_in _ (by omega)
              have hj2 : (j : Int) < (n : Int) := by omega
              go_wp2_with fail
              refine H_begin (fun w' => wr.grownBy w' none) (by kernel_rfl) ?_
              have hHeld : wr.grownBy wr.drew none := gr_drew (gr_refl _ _)
              refine H_take (k := 0) (v := ?_) (by rfl) (by kernel_rfl) (by kernel_rfl) (by kernel_rfl) (by exact fun _ _ _ h => h) (by rfl) ?_ (by assumption) ?_
              rotate_left 1
              · intro w hSw
                (try dsimp only at hSw)
                go_simp
                (try with_reducible rfl)
              (try simp only [Act.put, List.setIfInBounds_toArray, List.set_cons_zero, List.set_cons_succ])
              refine H_take (k := 1) (v := ?_) (by rfl) (by kernel_rfl) (by kernel_rfl) (by kernel_rfl) (by exact fun _ _ _ h => h) (by rfl) ?_ (by assumption) ?_
              rotate_left 1
              · intro w hSw
                (try dsimp only at hSw)
                go_simp
                (try with_reducible rfl)
              (try simp only [Act.put, List.setIfInBounds_toArray, List.set_cons_zero, List.set_cons_succ])
              refine H_take (k := 2) (v := ?_) (by rfl) (by kernel_rfl) (by kernel_rfl) (by kernel_rfl) (by exact fun _ _ _ h => h) (by rfl) ?_ (by assumption) ?_
              rotate_left 1
              · intro w hSw
                (try dsimp only at hSw)
                go_simp
                (try with_reducible rfl)
              (try simp only [Act.put, List.setIfInBounds_toArray, List.set_cons_zero, List.set_cons_succ])
              refine H_take (k := 3) (v := ?_) (by rfl) (by kernel_rfl) (by kernel_rfl) (by kernel_rfl) (by exact fun _ _ _ h => h) (by rfl) ?_ (by assumption) ?_
              rotate_left 1
              · intro w hSw
                (try dsimp only at hSw)
                go_simp
                (try with_reducible rfl)
              (try simp only [Act.put, List.setIfInBounds_toArray, List.set_cons_zero, List.set_cons_succ])
              refine H_take (k := 4) (v := .agg #[.string psn1, .string dev1, .int .i64 st1, .int .i64 at1, .int .i64 un1, .string note1]) (by rfl) (by kernel_rfl) (by kernel_rfl) (by kernel_rfl) (by exact fun _ _ _ h => h) (by rfl) (fun w' hSw => exec_ldr Tryz.bcT _ rfl _ rfl [.string psn1, .string dev1, .int .i64 st1, .int .i64 at1, .int .i64 un1, .string note1] (fun j u hu => by rw [add_mk]; have hcc := ((HRO.out.grown hSw (fun g e => by cases e)).at_ BcV.row_len HX.out) j u hu; simp only [Nat.zero_add] at hcc; exact hcc) rfl) (by assumption) ?_
              (try simp only [Act.put, List.setIfInBounds_toArray, List.set_cons_zero, List.set_cons_succ])
              refine H_take (k := 5) (v := ?_) (by rfl) (by kernel_rfl) (by kernel_rfl) (by kernel_rfl) (by exact fun _ _ _ h => h) (by rfl) ?_ (by assumption) ?_
              rotate_left 1
              · intro w hSw
                (try dsimp only at hSw)
                go_simp
                (try with_reducible rfl)
              (try simp only [Act.put, List.setIfInBounds_toArray, List.set_cons_zero, List.set_cons_succ])
              refine H_take (k := 6) (v := ?_) (by rfl) (by kernel_rfl) (by kernel_rfl) (by kernel_rfl) (by exact fun _ _ _ h => h) (by rfl) ?_ (by assumption) ?_
              rotate_left 1
              · intro w hSw
                (try dsimp only at hSw)
                go_simp
                (try with_reducible rfl)
              (try simp only [Act.put, List.setIfInBounds_toArray, List.set_cons_zero, List.set_cons_succ])
              refine H_take (k := 7) (v := ?_) (by rfl) (by kernel_rfl) (by kernel_rfl) (by kernel_rfl) (by exact fun _ _ _ h => h) (by rfl) ?_ (by assumption) ?_
              rotate_left 1
              · intro w hSw
                (try dsimp only at hSw)
                go_simp
                (try with_reducible rfl)
              (try simp only [Act.put, List.setIfInBounds_toArray, List.set_cons_zero, List.set_cons_succ])
              refine H_take (k := 8) (v := ?_) (by rfl) (by kernel_rfl) (by kernel_rfl) (by kernel_rfl) (by exact fun _ _ _ h => h) (by rfl) ?_ (by assumption) ?_
              rotate_left 1
              · intro w hSw
                (try dsimp only at hSw)
                go_simp
                (try with_reducible rfl)
              (try simp only [Act.put, List.setIfInBounds_toArray, List.set_cons_zero, List.set_cons_succ])
              refine H_take (k := 9) (v := .agg #[.string psn2, .string dev2, .int .i64 st2, .int .i64 at2, .int .i64 un2, .string note2]) (by rfl) (by kernel_rfl) (by kernel_rfl) (by kernel_rfl) (by exact fun _ _ _ h => h) (by rfl) (fun w' hSw => exec_ldr Tryz.bcT _ rfl _ rfl [.string psn2, .string dev2, .int .i64 st2, .int .i64 at2, .int .i64 un2, .string note2] (fun j u hu => by rw [add_mk]; have hcc := ((HRO.out.grown hSw (fun g e => by cases e)).at_ BcV.row_len HY.out) j u hu; simp only [Nat.zero_add] at hcc; exact hcc) rfl) (by assumption) ?_
              (try simp only [Act.put, List.setIfInBounds_toArray, List.set_cons_zero, List.set_cons_succ])
              refine H_run (k := 10) (by rfl) (by kernel_rfl) (by rfl) (fun K hK => ?_)
              go_simp
              refine (sameBeacon_any ⟨psn1, dev1, st1, at1, un1, note1⟩ ⟨psn2, dev2, st2, at2, un2, note2⟩ _ (HK.out _ HMX.out) (HK.out _ HMY.out)).mono ?_
              rintro e w6 ⟨rfl, hg6⟩
              obtain ⟨ZB, hZB⟩ : ∃ ZB, (bcCmp ⟨psn1, dev1, st1, at1, un1, note1⟩ ⟨psn2, dev2, st2, at2, un2, note2⟩ == 0) = ZB := ⟨_, rfl⟩
              rw [hZB]
              have hgz := gr_none hHeld hg6
              refine hK _ _ hgz ?_
              clear hK K hHeld hg6
              have hHeld := hgz
              (try simp only [Act.put, List.setIfInBounds_toArray, List.set_cons_zero, List.set_cons_succ])
              refine H_take (k := 11) (v := ?_) (by rfl) (by kernel_rfl) (by kernel_rfl) (by kernel_rfl) (by exact fun _ _ _ h => h) (by rfl) ?_ (by assumption) ?_
              rotate_left 1
              · intro w hSw
                (try dsimp only at hSw)
                go_simp
                (try with_reducible rfl)
              (try simp only [Act.put, List.setIfInBounds_toArray, List.set_cons_zero, List.set_cons_succ])
              refine H_done (by kernel_rfl) ?_
              have HO6 := Lib.hid (HO.out.kept hgz (fun g e => by cases e))
              have HG6 := Lib.hid (gr_none HG.out hgz)
              clear hgz hHeld hZB
              have HRO6 := Lib.hid (HO6.out.recs.dropK BcV.row_len (i := k) (by omega))
              have HC := Lib.hid (HRO6.out.at_ BcV.row_len HX.out)
              clear s1 s2 s3 s4 s5
              cases ZB
              · go_wp2_with (first
                  | (refine wpl_load_at Tryz.bcT rfl _ rfl _ rfl [.string psn1, .string dev1, .int .i64 st1, .int .i64 at1, .int .i64 un1, .string note1] rfl (fun j u hu => by rw [add_mk]; have hcc := HC.out j u hu; (try simp only [Nat.zero_add] at hcc); exact hcc) ?_)
                  | (refine wpl_store_rec (row := BcV.row) rfl Tryz.bcT BcV.row_len (by decide) _ _ rfl j _ rfl rfl ⟨psn1, dev1, st1, at1, un1, note1⟩ rfl HO6.out (by omega) (BcV.one _) ?_
                     intro w8 hown8 hg8
                     have HO8 := Lib.hid hown8
                     have HG8 := Lib.hid (gr_same HG6.out hg8)
                     clear hown8 hg8)
                  | fail)
                go_roundw
                case rel => exact ⟨j + 1, q + 1, _, by go_num, by go_num, by omega, by omega, by omega, by omega, ⟨HO8.out, fun r hr => by
                  rcases List.mem_or_eq_of_mem_set hr with h | rfl
                  · exact HK.out r h
                  · exact HK.out _ HMX.out⟩, HG8.out⟩
                case measure => simp [intOf]; omega
              · go_wp2_with fail
                go_roundw
                case rel => exact ⟨j, q + 1, l1, rfl, by go_num, by omega, by omega, by omega, by omega, ⟨HO6.out, HK.out⟩, HG6.out⟩
                case measure => simp [intOf]; omega
            · obtain rfl : q = n - k := by omega
              have hi2 : (j : Int) < (n : Int) := by omega
              have hi3 : (j : Int) ≤ (n : Int) := by omega
              have hcj : ¬ c = j := by omega
              obtain ⟨w9, hclr, ho9, hg9⟩ := run_clear_rows (P := Tryz.prog) Tryz.underlying57 Tryz.zeroValue62 rfl (by decide) (by intro v hv; simp [Value.cells] at hv; rcases hv with rfl | rfl | rfl | rfl | rfl | rfl <;> rfl) HO.out.1 j (j * 6) rfl (show j < n by omega) (n - j) (c - j) rfl
              have HO9 := Lib.hid (show OwnR BcV.row 6 w9 lo 62 (some ⟨g, 0, none⟩) j c (l1.take j) from ⟨by rw [← flat_take2 BcV.row_len]; exact ho9, by rw [List.length_take, HO.out.2]; omega⟩)
              have HG9 := Lib.hid (gr_same HG.out hg9)
              clear ho9 hg9
              go_wp2_with fail
              go_ret
              exact ⟨j, l1.take j, rfl, ⟨HO9.out, fun r hr => HK.out r (List.mem_of_mem_take hr)⟩, HG9.out, by omega⟩
      · obtain rfl : k = n := by omega
        go_wp2_with fail
        go_ret
        exact ⟨k, l, rfl, ⟨HO.out, H.out.2⟩, HG.out, Nat.le_refl _⟩
end
end Go.Proofs.YtgogiljplnninaaGreatDoor
/- Contract of the document's BeaconsFault. Conditions: the beacons' notes are of small bytes; the tables of unicode/utf8 and bytealg.MaxLen as laid. -/
namespace Go.Proofs.YtgogiljplnninaaGreatDoor
section
open Go.RowKit

set_option maxHeartbeats 8000000 in
set_option maxRecDepth 100000 in
theorem beaconsFault_any (lo : Nat) (A : Option Addr) (n c : Nat) (l : List BcV) (w : World) (h : Bcs w lo A n c l) (hn : n ≤ 1000000000) (hu : U8T w) (hm : MxT w) :
    Calls Tryz.prog 35 #[.slice A n c] w (RetV (.int .i64 (bcsE l)) w) := by
  have H := Lib.hid h; have HU := Lib.hid hu; have HMX := Lib.hid hm; clear h hu hm
  by_cases hb : 1000 < n
  · have HF := Lib.hid (show bcsE l = 2 by unfold bcsE; rw [if_pos (by rw [H.out.1.len]; exact hb)])
    have hb' : decide ((1000 : Int) < (n : Int)) = true := decide_eq_true (by omega)
    go_enter Tryz.func35, Tryz.ntmps35
    go_wp2_with fail
    go_ret
    exact ⟨by rw [HF.out]; rfl, gr_refl _ _⟩
  · have hb' : decide ((1000 : Int) < (n : Int)) = false := decide_eq_false (by omega)
    have HF := Lib.hid (show bcsE l = fstE (bcAt l) n by unfold bcsE; rw [if_neg (by rw [H.out.1.len]; exact hb), H.out.1.len])
    go_enter Tryz.func35, Tryz.ntmps35
    go_wp2_with fail
    go_loopw [3, 4, 10] (fun _ _ t wr => ∃ k : Nat, k ≤ n ∧ t = .int .i64 k ∧ w.grownBy wr none ∧ fstE (bcAt l) k = 0) (fun _ _ t _ => n - (intOf t).toNat)
    case atStart => exact ⟨0, Nat.zero_le _, rfl, gr_refl _ _, rfl⟩
    case round =>
      obtain ⟨k, hk, rfl, hg, ha⟩ := hrel
      have HA := Lib.hid ha; have HG := Lib.hid hg; clear ha hg
      by_cases hlt : k < n
      · obtain ⟨g, o, ⟨psn, dev, st, at_, un, note⟩, rfl, _, hgl, hz, hc⟩ := (H.out.1.grown HG.out (fun g e => by cases e)).get BcV.row_len hlt
        obtain ⟨⟨p1, p2, p3⟩, ⟨p4, p5⟩, p6⟩ := H.out.2 _ (mem_of_get hz)
        dsimp only at p1 p2 p3 p4 p5 p6
        have HAS := Lib.hid p6
        have HZ := Lib.hid hz; have HC := Lib.hid hc; clear hz hc p6
        obtain ⟨w1, hw1⟩ : ∃ v, wr.alloc (.cells #[.string psn, .string dev, .int .i64 st, .int .i64 at_, .int .i64 un, .string note] 62) = v := ⟨_, rfl⟩
        obtain ⟨zb, hzb⟩ : ∃ b, wr.heap.size = b := ⟨_, rfl⟩
        have HB := Lib.hid (show Blk w1 zb 62 #[.string psn, .string dev, .int .i64 st, .int .i64 at_, .int .i64 un, .string note] by rw [← hw1, ← hzb]; exact Blk.new _ _ _)
        replace HG := Lib.hid (show w.grownBy w1 none by rw [← hw1]; exact gr_alloc HG.out _)
        have HW1 := Lib.hid hw1; have HZB := Lib.hid hzb
        clear hw1 hzb
        go_upto_region 6 with (first
          | (refine wpl_load_at Tryz.bcT rfl _ rfl _ rfl [.string psn, .string dev, .int .i64 st, .int .i64 at_, .int .i64 un, .string note] rfl (fun j u hu => by rw [add_mk]; exact HC.out j u hu) ?_)
          | fail)
        rw [HW1.out]
        (try rw [HZB.out])
        clear HW1 HZB HC
        have k0 := HB.out.cell 0; have k1 := HB.out.cell 1; have k2 := HB.out.cell 2; have k3 := HB.out.cell 3; have k4 := HB.out.cell 4; have k5 := HB.out.cell 5
        obtain ⟨VS, hST⟩ : ∃ V, inB st 0 4 = V := ⟨_, rfl⟩
        obtain ⟨VM, hM⟩ : ∃ V, momB at_ = V := ⟨_, rfl⟩
        obtain ⟨VU, hUN⟩ : ∃ V, inB un at_ 345686400000 = V := ⟨_, rfl⟩
        have HM := Lib.hid hM; have HST := Lib.hid hST; have HUN := Lib.hid hUN
        clear hM hST hUN
        go_wp2_with fail
        refine (keyRefR_any psn _ (by omega)).mono ?_
        rintro e w2 ⟨rfl, hg2⟩
        have hsB := HB.out.grown hg2 (by simp)
        replace HG := Lib.hid (gr_none HG.out hg2)
        clear k0 k1 k2 k3 k4 k5
        have k0 := hsB.cell 0; have k1 := hsB.cell 1; have k2 := hsB.cell 2; have k3 := hsB.cell 3; have k4 := hsB.cell 4; have k5 := hsB.cell 5
        replace HB := Lib.hid hsB
        clear hg2 hsB
        obtain ⟨K1, hK1⟩ : ∃ V, keyOk (nb psn) = V := ⟨_, rfl⟩
        have HK1 := Lib.hid hK1
        rw [hK1]
        clear hK1
        cases K1
        · have hf := bcF_5 (z := ⟨psn, dev, st, at_, un, note⟩) (by show (keyOk (nb psn) && _) = false; rw [HK1.out]; rfl)
          have e := bcAt_f HZ.out (show bcF ⟨psn, dev, st, at_, un, note⟩ ≠ 0 by rw [hf]; decide)
          rw [hf] at e
          have HFIN := Lib.hid (show bcsE l = 5 by rw [HF.out, fstE_stop HA.out (by rw [e]; decide) hlt, e])
          clear e
          go_wp2_with (first
            | (go_at_call 59; refine (momentB_any _ _).mono ?_; rintro e w1 ⟨rfl, rfl⟩; rw [HM.out])
            | (go_at_call 60; refine (in_any _ _ _ _).mono ?_; rintro e w1 ⟨rfl, rfl⟩; (first | rw [HST.out] | rw [HUN.out] | fail))
            | fail)
          go_ret
          exact ⟨by rw [HFIN.out]; rfl, HG.out⟩
        · go_wp2_with fail
          refine (keyRefR_any dev _ (by omega)).mono ?_
          rintro e w3 ⟨rfl, hg3⟩
          have hsB := HB.out.grown hg3 (by simp)
          replace HG := Lib.hid (gr_none HG.out hg3)
          clear k0 k1 k2 k3 k4 k5
          have k0 := hsB.cell 0; have k1 := hsB.cell 1; have k2 := hsB.cell 2; have k3 := hsB.cell 3; have k4 := hsB.cell 4; have k5 := hsB.cell 5
          replace HB := Lib.hid hsB
          clear hg3 hsB
          obtain ⟨K2, hK2⟩ : ∃ V, keyOk (nb dev) = V := ⟨_, rfl⟩
          have HK2 := Lib.hid hK2
          rw [hK2]
          clear hK2
          cases K2
          · have hf := bcF_5 (z := ⟨psn, dev, st, at_, un, note⟩) (by show (keyOk (nb psn) && keyOk (nb dev)) = false; rw [HK1.out, HK2.out]; rfl)
            have e := bcAt_f HZ.out (show bcF ⟨psn, dev, st, at_, un, note⟩ ≠ 0 by rw [hf]; decide)
            rw [hf] at e
            have HFIN := Lib.hid (show bcsE l = 5 by rw [HF.out, fstE_stop HA.out (by rw [e]; decide) hlt, e])
            clear e
            go_wp2_with (first
              | (go_at_call 59; refine (momentB_any _ _).mono ?_; rintro e w1 ⟨rfl, rfl⟩; rw [HM.out])
              | (go_at_call 60; refine (in_any _ _ _ _).mono ?_; rintro e w1 ⟨rfl, rfl⟩; (first | rw [HST.out] | rw [HUN.out] | fail))
              | fail)
            go_ret
            exact ⟨by rw [HFIN.out]; rfl, HG.out⟩
          · have HKK := Lib.hid (show (keyOk (nb (BcV.psn ⟨psn, dev, st, at_, un, note⟩)) && keyOk (nb (BcV.dev ⟨psn, dev, st, at_, un, note⟩))) = true by show (keyOk (nb psn) && keyOk (nb dev)) = true; rw [HK1.out, HK2.out]; rfl)
            cases VS
            · have hf := bcF_4 (z := ⟨psn, dev, st, at_, un, note⟩) HKK.out HST.out
              have e := bcAt_f HZ.out (show bcF ⟨psn, dev, st, at_, un, note⟩ ≠ 0 by rw [hf]; decide)
              rw [hf] at e
              have HFIN := Lib.hid (show bcsE l = 4 by rw [HF.out, fstE_stop HA.out (by rw [e]; decide) hlt, e])
              clear e
              go_wp2_with (first
                | (go_at_call 59; refine (momentB_any _ _).mono ?_; rintro e w1 ⟨rfl, rfl⟩; rw [HM.out])
                | (go_at_call 60; refine (in_any _ _ _ _).mono ?_; rintro e w1 ⟨rfl, rfl⟩; (first | rw [HST.out] | rw [HUN.out] | fail))
                | fail)
              go_ret
              exact ⟨by rw [HFIN.out]; rfl, HG.out⟩
            · cases VM
              · have hf := bcF_1 (z := ⟨psn, dev, st, at_, un, note⟩) HKK.out HST.out (by show (momB at_ && _) = false; rw [HM.out]; rfl)
                have e := bcAt_f HZ.out (show bcF ⟨psn, dev, st, at_, un, note⟩ ≠ 0 by rw [hf]; decide)
                rw [hf] at e
                have HFIN := Lib.hid (show bcsE l = 1 by rw [HF.out, fstE_stop HA.out (by rw [e]; decide) hlt, e])
                clear e
                go_wp2_with (first
                  | (go_at_call 59; refine (momentB_any _ _).mono ?_; rintro e w1 ⟨rfl, rfl⟩; rw [HM.out])
                  | (go_at_call 60; refine (in_any _ _ _ _).mono ?_; rintro e w1 ⟨rfl, rfl⟩; (first | rw [HST.out] | rw [HUN.out] | fail))
                  | fail)
                go_ret
                exact ⟨by rw [HFIN.out]; rfl, HG.out⟩
              · cases VU
                · have hf := bcF_1 (z := ⟨psn, dev, st, at_, un, note⟩) HKK.out HST.out (by show (momB at_ && inB un at_ 345686400000) = false; rw [HM.out, HUN.out]; rfl)
                  have e := bcAt_f HZ.out (show bcF ⟨psn, dev, st, at_, un, note⟩ ≠ 0 by rw [hf]; decide)
                  rw [hf] at e
                  have HFIN := Lib.hid (show bcsE l = 1 by rw [HF.out, fstE_stop HA.out (by rw [e]; decide) hlt, e])
                  clear e
                  go_wp2_with (first
                    | (go_at_call 59; refine (momentB_any _ _).mono ?_; rintro e w1 ⟨rfl, rfl⟩; rw [HM.out])
                    | (go_at_call 60; refine (in_any _ _ _ _).mono ?_; rintro e w1 ⟨rfl, rfl⟩; (first | rw [HST.out] | rw [HUN.out] | fail))
                    | fail)
                  go_ret
                  exact ⟨by rw [HFIN.out]; rfl, HG.out⟩
                · have HMU := Lib.hid (show (momB (BcV.at_ ⟨psn, dev, st, at_, un, note⟩) && inB (BcV.un ⟨psn, dev, st, at_, un, note⟩) (BcV.at_ ⟨psn, dev, st, at_, un, note⟩) 345686400000) = true by show (momB at_ && inB un at_ 345686400000) = true; rw [HM.out, HUN.out]; rfl)
                  go_wp2_with (first
                    | (go_at_call 59; refine (momentB_any _ _).mono ?_; rintro e w1 ⟨rfl, rfl⟩; rw [HM.out])
                    | (go_at_call 60; refine (in_any _ _ _ _).mono ?_; rintro e w1 ⟨rfl, rfl⟩; (first | rw [HST.out] | rw [HUN.out] | fail))
                    | fail)
                  refine (plain_any note _ (by omega) HAS.out (HU.out.grown HG.out) (HMX.out.grown HG.out)).mono ?_
                  rintro e w4 ⟨rfl, hg4⟩
                  have hsB := HB.out.grown hg4 (by simp)
                  replace HG := Lib.hid (gr_none HG.out hg4)
                  clear k0 k1 k2 k3 k4 k5
                  have k0 := hsB.cell 0; have k1 := hsB.cell 1; have k2 := hsB.cell 2; have k3 := hsB.cell 3; have k4 := hsB.cell 4; have k5 := hsB.cell 5
                  replace HB := Lib.hid hsB
                  clear hg4 hsB
                  obtain ⟨PB, hPB⟩ : ∃ V, plB note = V := ⟨_, rfl⟩
                  have HPB := Lib.hid hPB
                  rw [hPB]
                  clear hPB
                  cases PB
                  · have hf := bcF_3 (z := ⟨psn, dev, st, at_, un, note⟩) HKK.out HST.out HMU.out (by show (plB note && _) = false; rw [HPB.out]; rfl)
                    have e := bcAt_f HZ.out (show bcF ⟨psn, dev, st, at_, un, note⟩ ≠ 0 by rw [hf]; decide)
                    rw [hf] at e
                    have HFIN := Lib.hid (show bcsE l = 3 by rw [HF.out, fstE_stop HA.out (by rw [e]; decide) hlt, e])
                    clear e
                    go_wp2_with (first
                      | (go_at_call 59; refine (momentB_any _ _).mono ?_; rintro e w1 ⟨rfl, rfl⟩; rw [HM.out])
                      | (go_at_call 60; refine (in_any _ _ _ _).mono ?_; rintro e w1 ⟨rfl, rfl⟩; (first | rw [HST.out] | rw [HUN.out] | fail))
                      | fail)
                    go_ret
                    exact ⟨by rw [HFIN.out]; rfl, HG.out⟩
                  · by_cases h100 : note.size ≤ 100
                    · have hfz := bcF_0 (z := ⟨psn, dev, st, at_, un, note⟩) HKK.out HST.out HMU.out (by show (plB note && decide (note.size ≤ 100)) = true; rw [HPB.out, decide_eq_true h100]; rfl)
                      have e1 : decide ((100 : Int) < (note.size : Int)) = false := decide_eq_false (by omega)
                      have e1' : decide (100 < note.size) = false := decide_eq_false (by omega)
                      go_wp2_with fail
                      clear e1 e1' h100
                      have HFZ := Lib.hid hfz
                      clear hfz
                      rcases Nat.eq_zero_or_pos k with h0 | h0
                      · have HE := Lib.hid (bcAt_z HZ.out HFZ.out (by omega))
                        have hi0 : decide ((0 : Int) < (k : Int)) = false := decide_eq_false (by omega)
                        refine H_begin (fun w' => w4.grownBy w' none) (by kernel_rfl) ?_
                        have hHeld : w4.grownBy w4.drew none := gr_drew (gr_refl _ _)
                        refine H_take (k := 0) (v := ?_) (by rfl) (by kernel_rfl) (by kernel_rfl) (by kernel_rfl) (by exact fun _ _ _ h => h) (by rfl) ?_ (by assumption) ?_
                        rotate_left 1
                        · intro w hSw
                          (try dsimp only at hSw)
                          go_simp
                          (try with_reducible rfl)
                        (try simp only [Act.put, List.setIfInBounds_toArray, List.set_cons_zero, List.set_cons_succ])
                        refine H_take (k := 1) (v := ?_) (by rfl) (by kernel_rfl) (by kernel_rfl) (by kernel_rfl) (by exact fun _ _ _ h => h) (by rfl) ?_ (by assumption) ?_
                        rotate_left 1
                        · intro w hSw
                          (try dsimp only at hSw)
                          go_simp
                          (try with_reducible rfl)
                        (try simp only [Act.put, List.setIfInBounds_toArray, List.set_cons_zero, List.set_cons_succ])
                        refine H_take (k := 2) (v := ?_) (by rfl) (by kernel_rfl) (by kernel_rfl) (by kernel_rfl) (by exact fun _ _ _ h => h) (by rfl) ?_ (by assumption) ?_
                        rotate_left 1
                        · intro w hSw
                          (try dsimp only at hSw)
                          go_simp
                          (try with_reducible rfl)
                        (try simp only [Act.put, List.setIfInBounds_toArray, List.set_cons_zero, List.set_cons_succ])
                        refine H_skip (k := 3) (by rfl) (by kernel_rfl) (by kernel_rfl) (by kernel_rfl) (by exact fun _ _ _ h => h) (by rfl) (by assumption) ?_
                        (try simp only [Act.put, List.setIfInBounds_toArray, List.set_cons_zero, List.set_cons_succ])
                        refine H_skip (k := 4) (by rfl) (by kernel_rfl) (by kernel_rfl) (by kernel_rfl) (by exact fun _ _ _ h => h) (by rfl) (by assumption) ?_
                        (try simp only [Act.put, List.setIfInBounds_toArray, List.set_cons_zero, List.set_cons_succ])
                        refine H_skip (k := 5) (by rfl) (by kernel_rfl) (by kernel_rfl) (by kernel_rfl) (by exact fun _ _ _ h => h) (by rfl) (by assumption) ?_
                        (try simp only [Act.put, List.setIfInBounds_toArray, List.set_cons_zero, List.set_cons_succ])
                        refine H_skip (k := 6) (by rfl) (by kernel_rfl) (by kernel_rfl) (by kernel_rfl) (by exact fun _ _ _ h => h) (by rfl) (by assumption) ?_
                        (try simp only [Act.put, List.setIfInBounds_toArray, List.set_cons_zero, List.set_cons_succ])
                        refine H_skip (k := 7) (by rfl) (by kernel_rfl) (by kernel_rfl) (by kernel_rfl) (by exact fun _ _ _ h => h) (by rfl) (by assumption) ?_
                        (try simp only [Act.put, List.setIfInBounds_toArray, List.set_cons_zero, List.set_cons_succ])
                        refine H_skip (k := 8) (by rfl) (by kernel_rfl) (by kernel_rfl) (by kernel_rfl) (by exact fun _ _ _ h => h) (by rfl) (by assumption) ?_
                        (try simp only [Act.put, List.setIfInBounds_toArray, List.set_cons_zero, List.set_cons_succ])
                        refine H_skip (k := 9) (by rfl) (by kernel_rfl) (by kernel_rfl) (by kernel_rfl) (by exact fun _ _ _ h => h) (by rfl) (by assumption) ?_
                        (try simp only [Act.put, List.setIfInBounds_toArray, List.set_cons_zero, List.set_cons_succ])
                        refine H_skip (k := 10) (by rfl) (by kernel_rfl) (by kernel_rfl) (by kernel_rfl) (by exact fun _ _ _ h => h) (by rfl) (by assumption) ?_
                        (try simp only [Act.put, List.setIfInBounds_toArray, List.set_cons_zero, List.set_cons_succ])
                        refine H_take (k := 11) (v := ?_) (by rfl) (by kernel_rfl) (by kernel_rfl) (by kernel_rfl) (by exact fun _ _ _ h => h) (by rfl) ?_ (by assumption) ?_
                        rotate_left 1
                        · intro w hSw
                          (try dsimp only at hSw)
                          go_simp
                          (try with_reducible rfl)
                        (try simp only [Act.put, List.setIfInBounds_toArray, List.set_cons_zero, List.set_cons_succ])
                        refine H_take (k := 12) (v := ?_) (by rfl) (by kernel_rfl) (by kernel_rfl) (by kernel_rfl) (by exact fun _ _ _ h => h) (by rfl) ?_ (by assumption) ?_
                        rotate_left 1
                        · intro w hSw
                          (try dsimp only at hSw)
                          go_simp
                          (try with_reducible rfl)
                        (try simp only [Act.put, List.setIfInBounds_toArray, List.set_cons_zero, List.set_cons_succ])
                        refine H_done (by kernel_rfl) ?_
                        replace HG := Lib.hid (gr_none HG.out hHeld)
                        clear hHeld k0 k1 k2 k3 k4 k5 hi0
                        go_wp2_with fail
                        go_roundw
                        case rel => exact ⟨k + 1, by omega, by go_num, HG.out, fstE_zero HA.out HE.out⟩
                        case measure => simp [intOf]; omega
                      · obtain ⟨⟨psn', dev', st', at', un', note'⟩, hb⟩ : ∃ b, l[k - 1]? = some b := ⟨_, List.getElem?_eq_getElem (by rw [H.out.1.len]; omega)⟩
                        have HBB := Lib.hid hb; clear hb
                        have hi0 : decide ((0 : Int) < (k : Int)) = true := decide_eq_true (by omega)
                        have s2 : (0 : Int) ≤ (k : Int) - 1 := by omega
                        have s5 : (1 : Int) ≤ (k : Int) := by omega
                        have s3 : (k : Int) - 1 < (n : Int) := by omega
                        have s6 : (0 : Int) < (n : Int) := by omega
                        have s1 : IntKind.i64.wrap ((k : Int) - 1) = (k : Int) - 1 := IntWalk.i64_in _ (by omega)
                        have s4 : ((k : Int) - 1).toNat = k - 1 := by omega
                        obtain ⟨VO, hVO⟩ : ∃ V, decide (0 ≤ bcCmp ⟨psn', dev', st', at', un', note'⟩ ⟨psn, dev, st, at_, un, note⟩) = V := ⟨_, rfl⟩
                        have HVO := Lib.hid hVO; clear hVO
                        refine H_begin (fun w' => w4.grownBy w' none) (by kernel_rfl) ?_
                        have hHeld : w4.grownBy w4.drew none := gr_drew (gr_refl _ _)
                        refine H_take (k := 0) (v := ?_) (by rfl) (by kernel_rfl) (by kernel_rfl) (by kernel_rfl) (by exact fun _ _ _ h => h) (by rfl) ?_ (by assumption) ?_
                        rotate_left 1
                        · intro w hSw
                          (try dsimp only at hSw)
                          go_simp
                          (try with_reducible rfl)
                        (try simp only [Act.put, List.setIfInBounds_toArray, List.set_cons_zero, List.set_cons_succ])
                        refine H_take (k := 1) (v := ?_) (by rfl) (by kernel_rfl) (by kernel_rfl) (by kernel_rfl) (by exact fun _ _ _ h => h) (by rfl) ?_ (by assumption) ?_
                        rotate_left 1
                        · intro w hSw
                          (try dsimp only at hSw)
                          go_simp
                          (try with_reducible rfl)
                        (try simp only [Act.put, List.setIfInBounds_toArray, List.set_cons_zero, List.set_cons_succ])
                        refine H_take (k := 2) (v := ?_) (by rfl) (by kernel_rfl) (by kernel_rfl) (by kernel_rfl) (by exact fun _ _ _ h => h) (by rfl) ?_ (by assumption) ?_
                        rotate_left 1
                        · intro w hSw
                          (try dsimp only at hSw)
                          go_simp
                          (try with_reducible rfl)
                        (try simp only [Act.put, List.setIfInBounds_toArray, List.set_cons_zero, List.set_cons_succ])
                        refine H_take (k := 3) (v := ?_) (by rfl) (by kernel_rfl) (by kernel_rfl) (by kernel_rfl) (by exact fun _ _ _ h => h) (by rfl) ?_ (by assumption) ?_
                        rotate_left 1
                        · intro w hSw
                          (try dsimp only at hSw)
                          go_simp
                          (try with_reducible rfl)
                        (try simp only [Act.put, List.setIfInBounds_toArray, List.set_cons_zero, List.set_cons_succ])
                        refine H_take (k := 4) (v := ?_) (by rfl) (by kernel_rfl) (by kernel_rfl) (by kernel_rfl) (by exact fun _ _ _ h => h) (by rfl) ?_ (by assumption) ?_
                        rotate_left 1
                        · intro w hSw
                          (try dsimp only at hSw)
                          go_simp
                          (try with_reducible rfl)
                        (try simp only [Act.put, List.setIfInBounds_toArray, List.set_cons_zero, List.set_cons_succ])
                        refine H_take (k := 5) (v := ?_) (by rfl) (by kernel_rfl) (by kernel_rfl) (by kernel_rfl) (by exact fun _ _ _ h => h) (by rfl) ?_ (by assumption) ?_
                        rotate_left 1
                        · intro w hSw
                          (try dsimp only at hSw)
                          go_simp
                          (try with_reducible rfl)
                        (try simp only [Act.put, List.setIfInBounds_toArray, List.set_cons_zero, List.set_cons_succ])
                        refine H_take (k := 6) (v := ?_) (by rfl) (by kernel_rfl) (by kernel_rfl) (by kernel_rfl) (by exact fun _ _ _ h => h) (by rfl) ?_ (by assumption) ?_
                        rotate_left 1
                        · intro w hSw
                          (try dsimp only at hSw)
                          go_simp
                          (try with_reducible rfl)
                        (try simp only [Act.put, List.setIfInBounds_toArray, List.set_cons_zero, List.set_cons_succ])
                        refine H_take (k := 7) (v := .agg #[.string psn', .string dev', .int .i64 st', .int .i64 at', .int .i64 un', .string note']) (by rfl) (by kernel_rfl) (by kernel_rfl) (by kernel_rfl) (by exact fun _ _ _ h => h) (by rfl) (fun w' hSw => exec_ldr Tryz.bcT _ rfl _ rfl [.string psn', .string dev', .int .i64 st', .int .i64 at', .int .i64 un', .string note'] (fun j u hu => by rw [add_mk]; exact ((H.out.1.grown (gr_none HG.out hSw) (fun g e => by cases e)).at_ BcV.row_len HBB.out) j u hu) rfl) (by assumption) ?_
                        (try simp only [Act.put, List.setIfInBounds_toArray, List.set_cons_zero, List.set_cons_succ])
                        refine H_take (k := 8) (v := .agg #[.string psn, .string dev, .int .i64 st, .int .i64 at_, .int .i64 un, .string note]) (by rfl) (by kernel_rfl) (by kernel_rfl) (by kernel_rfl) (by exact fun _ _ _ h => h) (by rfl) (fun w' hSw => exec_ldb Tryz.bcT _ rfl _ rfl 62 [.string psn, .string dev, .int .i64 st, .int .i64 at_, .int .i64 un, .string note] (HB.out.grown hSw (by simp)) rfl) (by assumption) ?_
                        (try simp only [Act.put, List.setIfInBounds_toArray, List.set_cons_zero, List.set_cons_succ])
                        refine H_run (k := 9) (by rfl) (by kernel_rfl) (by rfl) (fun K hK => ?_)
                        go_simp
                        refine (beaconOrder_q ⟨psn', dev', st', at', un', note'⟩ ⟨psn, dev, st, at_, un, note⟩ _ (H.out.2 _ (mem_of_get HBB.out)) (H.out.2 _ (mem_of_get HZ.out))).mono ?_
                        rintro e w6 ⟨rfl, hq6⟩
                        have hgz := gr_none hHeld hq6.gr
                        refine hK _ _ hgz ?_
                        clear hK K hHeld hq6
                        have hHeld := hgz
                        have hO1 := HVO.out
                        (try simp only [Act.put, List.setIfInBounds_toArray, List.set_cons_zero, List.set_cons_succ])
                        refine H_take (k := 10) (v := ?_) (by rfl) (by kernel_rfl) (by kernel_rfl) (by kernel_rfl) (by exact fun _ _ _ h => h) (by rfl) ?_ (by assumption) ?_
                        rotate_left 1
                        · intro w hSw
                          (try dsimp only at hSw)
                          go_simp
                          (try with_reducible rfl)
                        (try simp only [Act.put, List.setIfInBounds_toArray, List.set_cons_zero, List.set_cons_succ])
                        refine H_take (k := 11) (v := ?_) (by rfl) (by kernel_rfl) (by kernel_rfl) (by kernel_rfl) (by exact fun _ _ _ h => h) (by rfl) ?_ (by assumption) ?_
                        rotate_left 1
                        · intro w hSw
                          (try dsimp only at hSw)
                          go_simp
                          (try with_reducible rfl)
                        (try simp only [Act.put, List.setIfInBounds_toArray, List.set_cons_zero, List.set_cons_succ])
                        refine H_take (k := 12) (v := ?_) (by rfl) (by kernel_rfl) (by kernel_rfl) (by kernel_rfl) (by exact fun _ _ _ h => h) (by rfl) ?_ (by assumption) ?_
                        rotate_left 1
                        · intro w hSw
                          (try dsimp only at hSw)
                          go_simp
                          (try with_reducible rfl)
                        (try simp only [Act.put, List.setIfInBounds_toArray, List.set_cons_zero, List.set_cons_succ])
                        refine H_done (by kernel_rfl) ?_
                        clear hi0 s1 s2 s3 s4 s5 s6 hO1
                        replace HG := Lib.hid (gr_none HG.out hgz)
                        clear hgz hHeld k0 k1 k2 k3 k4 k5
                        cases VO
                        · have HE := Lib.hid (bcAt_e HZ.out HFZ.out HBB.out (of_decide_eq_false HVO.out))
                          go_wp2_with fail
                          go_roundw
                          case rel => exact ⟨k + 1, by omega, by go_num, HG.out, fstE_zero HA.out HE.out⟩
                          case measure => simp [intOf]; omega
                        · have e := bcAt_7 HZ.out HFZ.out h0 HBB.out (of_decide_eq_true HVO.out)
                          have HFIN := Lib.hid (show bcsE l = 7 by rw [HF.out, fstE_stop HA.out (by rw [e]; decide) hlt, e])
                          clear e
                          go_wp2_with fail
                          go_ret
                          exact ⟨by rw [HFIN.out]; rfl, HG.out⟩
                    · have hf := bcF_3 (z := ⟨psn, dev, st, at_, un, note⟩) HKK.out HST.out HMU.out (by show (plB note && decide (note.size ≤ 100)) = false; rw [HPB.out, decide_eq_false h100]; rfl)
                      have e1 : decide ((100 : Int) < (note.size : Int)) = true := decide_eq_true (by omega)
                      have e1' : decide (100 < note.size) = true := decide_eq_true (by omega)
                      have e := bcAt_f HZ.out (show bcF ⟨psn, dev, st, at_, un, note⟩ ≠ 0 by rw [hf]; decide)
                      rw [hf] at e
                      have HFIN := Lib.hid (show bcsE l = 3 by rw [HF.out, fstE_stop HA.out (by rw [e]; decide) hlt, e])
                      clear e
                      go_wp2_with (first
                        | (go_at_call 59; refine (momentB_any _ _).mono ?_; rintro e w1 ⟨rfl, rfl⟩; rw [HM.out])
                        | (go_at_call 60; refine (in_any _ _ _ _).mono ?_; rintro e w1 ⟨rfl, rfl⟩; (first | rw [HST.out] | rw [HUN.out] | fail))
                        | fail)
                      go_ret
                      exact ⟨by rw [HFIN.out]; rfl, HG.out⟩
      · obtain rfl : k = n := by omega
        have HFIN := Lib.hid (show bcsE l = 0 by rw [HF.out, HA.out])
        go_wp2_with fail
        go_ret
        exact ⟨by rw [HFIN.out]; rfl, HG.out⟩
end
end Go.Proofs.YtgogiljplnninaaGreatDoor

/- Contracts of the orders of beacons, of isPlain and Plain. Conditions: strings of small bytes for isPlain and Plain; the tables of unicode/utf8 and bytealg.MaxLen as laid. -/
import Derived.Test.YtgogiljplnninaaGreatDoorBun5
import Derived.Test.YtgogiljplnninaaGreatDoorBun2
import Derived.Test.YtgogiljplnninaaGreatDoorCmpLS
import Derived.Test.YtgogiljplnninaaGreatDoorMx
import Derived.Test.YtgogiljplnninaaGreatDoorShelfPl
import Derived.Test.YtgogiljplnninaaGreatDoorShelfVal
import Derived.Lib.ValidLaws
namespace Go.Proofs.YtgogiljplnninaaGreatDoor
open Go.RowKit

theorem Tryz.bcT : StructT Tryz.prog 62 6 := ⟨_, Tryz.underlying62, rfl, by kernel_rfl⟩
set_option maxHeartbeats 4000000 in
set_option maxRecDepth 100000 in
theorem compareBeacons_q (a b : BcV) (w : World) : Calls Tryz.prog 104 #[.agg #[.string a.psn, .string a.dev, .int .i64 a.st, .int .i64 a.at_, .int .i64 a.un, .string a.note], .agg #[.string b.psn, .string b.dev, .int .i64 b.st, .int .i64 b.at_, .int .i64 b.un, .string b.note]] w (RetQ (.int .i64 (bcCmp a b)) w) := by
  obtain ⟨W1, hW⟩ : ∃ W1, (w.alloc (.cells #[.string a.psn, .string a.dev, .int .i64 a.st, .int .i64 a.at_, .int .i64 a.un, .string a.note] 62)).alloc (.cells #[.string b.psn, .string b.dev, .int .i64 b.st, .int .i64 b.at_, .int .i64 b.un, .string b.note] 62) = W1 := ⟨_, rfl⟩
  have HA := Lib.hid (show Blk W1 w.heap.size 62 #[.string a.psn, .string a.dev, .int .i64 a.st, .int .i64 a.at_, .int .i64 a.un, .string a.note] by rw [← hW]; exact (Blk.new _ _ _).alloc _)
  have HB := Lib.hid (show Blk W1 (w.heap.size + 1) 62 #[.string b.psn, .string b.dev, .int .i64 b.st, .int .i64 b.at_, .int .i64 b.un, .string b.note] by
    rw [← hW]
    have h := Blk.new (w.alloc (.cells #[.string a.psn, .string a.dev, .int .i64 a.st, .int .i64 a.at_, .int .i64 a.un, .string a.note] 62)) 62 #[.string b.psn, .string b.dev, .int .i64 b.st, .int .i64 b.at_, .int .i64 b.un, .string b.note]
    simpa using h)
  have HQ := Lib.hid (show Gq w W1 by rw [← hW]; exact ((Gq.refl w).alloc _).alloc _)
  have hz1 : W1.heap.size = w.heap.size + 1 + 1 := by rw [← hW]; simp
  have HW := Lib.hid hW; clear hW
  have HV := Lib.hid (show bcCmp a b = orL [cmpS a.psn b.psn, cmpS a.dev b.dev, cmpZ a.at_ b.at_] from rfl)
  obtain ⟨q1, h1⟩ : ∃ q, cmpS a.psn b.psn = q := ⟨_, rfl⟩
  obtain ⟨q2, h2⟩ : ∃ q, cmpS a.dev b.dev = q := ⟨_, rfl⟩
  obtain ⟨q3, h3⟩ : ∃ q, cmpZ a.at_ b.at_ = q := ⟨_, rfl⟩
  rw [h1, h2, h3] at HV
  have H1 := Lib.hid h1; have H2 := Lib.hid h2; have H3 := Lib.hid h3
  clear h1 h2 h3
  go_enter Tryz.func104, Tryz.ntmps104
  go_wp2_with fail
  rw [HW.out]
  refine H_begin (fun w' => Gq W1 w') (by kernel_rfl) ?_
  have hHeld : Gq W1 W1.drew := (Gq.refl _).drew
  generalize W1.drew = wd at hHeld ⊢
  refine H_take (k := 0) (v := ?_) (by rfl) (by kernel_rfl) (by kernel_rfl) (by kernel_rfl) (by exact fun _ _ _ h => h) (by rfl) ?_ (by assumption) ?_
  rotate_left 1
  · intro w hSw
    (try dsimp only at hSw)
    go_simp
    (try with_reducible rfl)
  (try simp only [Act.put, List.setIfInBounds_toArray, List.set_cons_zero, List.set_cons_succ])
  refine H_take (k := 1) (v := ?_) (by rfl) (by kernel_rfl) (by kernel_rfl) (by kernel_rfl) (by exact fun _ _ _ h => h) (by rfl) ?_ (by assumption) ?_
  rotate_left 1
  · intro w' hSw
    have kc := (HA.out.grown hSw.gr (by simp)).cell 0
    go_simp
    (try with_reducible rfl)
  (try simp only [Act.put, List.setIfInBounds_toArray, List.set_cons_zero, List.set_cons_succ])
  refine H_take (k := 2) (v := ?_) (by rfl) (by kernel_rfl) (by kernel_rfl) (by kernel_rfl) (by exact fun _ _ _ h => h) (by rfl) ?_ (by assumption) ?_
  rotate_left 1
  · intro w hSw
    (try dsimp only at hSw)
    go_simp
    (try with_reducible rfl)
  (try simp only [Act.put, List.setIfInBounds_toArray, List.set_cons_zero, List.set_cons_succ])
  refine H_take (k := 3) (v := ?_) (by rfl) (by kernel_rfl) (by kernel_rfl) (by kernel_rfl) (by exact fun _ _ _ h => h) (by rfl) ?_ (by assumption) ?_
  rotate_left 1
  · intro w' hSw
    have kc := (HB.out.grown hSw.gr (by simp)).cell 0
    go_simp
    (try with_reducible rfl)
  (try simp only [Act.put, List.setIfInBounds_toArray, List.set_cons_zero, List.set_cons_succ])
  refine H_take (k := 5) (v := ?_) (by rfl) (by kernel_rfl) (by kernel_rfl) (by kernel_rfl) (by exact fun _ _ _ h => h) (by rfl) ?_ (by assumption) ?_
  rotate_left 1
  · intro w hSw
    (try dsimp only at hSw)
    go_simp
    (try with_reducible rfl)
  (try simp only [Act.put, List.setIfInBounds_toArray, List.set_cons_zero, List.set_cons_succ])
  refine H_take (k := 6) (v := ?_) (by rfl) (by kernel_rfl) (by kernel_rfl) (by kernel_rfl) (by exact fun _ _ _ h => h) (by rfl) ?_ (by assumption) ?_
  rotate_left 1
  · intro w' hSw
    have kc := (HA.out.grown hSw.gr (by simp)).cell 1
    go_simp
    (try with_reducible rfl)
  (try simp only [Act.put, List.setIfInBounds_toArray, List.set_cons_zero, List.set_cons_succ])
  refine H_take (k := 7) (v := ?_) (by rfl) (by kernel_rfl) (by kernel_rfl) (by kernel_rfl) (by exact fun _ _ _ h => h) (by rfl) ?_ (by assumption) ?_
  rotate_left 1
  · intro w hSw
    (try dsimp only at hSw)
    go_simp
    (try with_reducible rfl)
  (try simp only [Act.put, List.setIfInBounds_toArray, List.set_cons_zero, List.set_cons_succ])
  refine H_take (k := 8) (v := ?_) (by rfl) (by kernel_rfl) (by kernel_rfl) (by kernel_rfl) (by exact fun _ _ _ h => h) (by rfl) ?_ (by assumption) ?_
  rotate_left 1
  · intro w' hSw
    have kc := (HB.out.grown hSw.gr (by simp)).cell 1
    go_simp
    (try with_reducible rfl)
  (try simp only [Act.put, List.setIfInBounds_toArray, List.set_cons_zero, List.set_cons_succ])
  refine H_take (k := 10) (v := ?_) (by rfl) (by kernel_rfl) (by kernel_rfl) (by kernel_rfl) (by exact fun _ _ _ h => h) (by rfl) ?_ (by assumption) ?_
  rotate_left 1
  · intro w hSw
    (try dsimp only at hSw)
    go_simp
    (try with_reducible rfl)
  (try simp only [Act.put, List.setIfInBounds_toArray, List.set_cons_zero, List.set_cons_succ])
  refine H_take (k := 11) (v := ?_) (by rfl) (by kernel_rfl) (by kernel_rfl) (by kernel_rfl) (by exact fun _ _ _ h => h) (by rfl) ?_ (by assumption) ?_
  rotate_left 1
  · intro w' hSw
    have kc := (HA.out.grown hSw.gr (by simp)).cell 3
    go_simp
    (try with_reducible rfl)
  (try simp only [Act.put, List.setIfInBounds_toArray, List.set_cons_zero, List.set_cons_succ])
  refine H_take (k := 12) (v := ?_) (by rfl) (by kernel_rfl) (by kernel_rfl) (by kernel_rfl) (by exact fun _ _ _ h => h) (by rfl) ?_ (by assumption) ?_
  rotate_left 1
  · intro w hSw
    (try dsimp only at hSw)
    go_simp
    (try with_reducible rfl)
  (try simp only [Act.put, List.setIfInBounds_toArray, List.set_cons_zero, List.set_cons_succ])
  refine H_take (k := 13) (v := ?_) (by rfl) (by kernel_rfl) (by kernel_rfl) (by kernel_rfl) (by exact fun _ _ _ h => h) (by rfl) ?_ (by assumption) ?_
  rotate_left 1
  · intro w' hSw
    have kc := (HB.out.grown hSw.gr (by simp)).cell 3
    go_simp
    (try with_reducible rfl)
  (try simp only [Act.put, List.setIfInBounds_toArray, List.set_cons_zero, List.set_cons_succ])
  refine H_run (k := 4) (by rfl) (by kernel_rfl) (by rfl) (fun K hK => ?_)
  go_simp
  refine same_calls (strCmp_any _ _ _) ?_
  rw [H1.out]
  refine hK _ _ hHeld ?_
  clear hK K
  (try simp only [Act.put, List.setIfInBounds_toArray, List.set_cons_zero, List.set_cons_succ])
  refine H_run (k := 9) (by rfl) (by kernel_rfl) (by rfl) (fun K hK => ?_)
  go_simp
  refine same_calls (strCmp_any _ _ _) ?_
  rw [H2.out]
  refine hK _ _ hHeld ?_
  clear hK K
  (try simp only [Act.put, List.setIfInBounds_toArray, List.set_cons_zero, List.set_cons_succ])
  refine H_run (k := 14) (by rfl) (by kernel_rfl) (by rfl) (fun K hK => ?_)
  go_simp
  refine same_calls (cmpZ_any _ _ _) ?_
  rw [H3.out]
  refine hK _ _ hHeld ?_
  clear hK K
  (try simp only [Act.put, List.setIfInBounds_toArray, List.set_cons_zero, List.set_cons_succ])
  refine H_run (k := 15) (by rfl) (by kernel_rfl) (by rfl) (fun K hK => ?_)
  go_simp
  obtain ⟨W2, hW2⟩ : ∃ W2, wd.alloc (.cells #[.int .i64 q1, .int .i64 q2, .int .i64 q3] 3) = W2 := ⟨_, rfl⟩
  obtain ⟨g2, hg2⟩ : ∃ g, wd.heap.size = g := ⟨_, rfl⟩
  have hq2 : Gq W1 W2 := by rw [← hW2]; exact hHeld.alloc _
  have HC := Lib.hid (show Blk W2 g2 3 ([q1, q2, q3].map (Value.int .i64)).toArray by rw [← hW2, ← hg2]; exact Blk.new _ _ _)
  (try rw [hW2])
  (try rw [hg2])
  refine hK _ _ hq2 ?_
  clear hK K hHeld hW2 hg2
  have hHeld := hq2
  (try simp only [Act.put, List.setIfInBounds_toArray, List.set_cons_zero, List.set_cons_succ])
  refine H_run (k := 16) (by rfl) (by kernel_rfl) (by rfl) (fun K hK => ?_)
  go_simp
  refine same_calls (orL_any [q1, q2, q3] g2 3 _ HC.out rfl (by omega)) ?_

  refine hK _ _ hHeld ?_
  clear hK K
  (try simp only [Act.put, List.setIfInBounds_toArray, List.set_cons_zero, List.set_cons_succ])
  refine H_take (k := 17) (v := ?_) (by rfl) (by kernel_rfl) (by kernel_rfl) (by kernel_rfl) (by exact fun _ _ _ h => h) (by rfl) ?_ (by assumption) ?_
  rotate_left 1
  · intro w hSw
    (try dsimp only at hSw)
    go_simp
    (try with_reducible rfl)
  (try simp only [Act.put, List.setIfInBounds_toArray, List.set_cons_zero, List.set_cons_succ])
  refine H_done (by kernel_rfl) ?_
  go_wp2_with fail
  go_ret
  exact ⟨by rw [HV.out]; try rfl, HQ.out.trans hHeld⟩
theorem sgn_cmp (x y : Int) : sgnZ (x - y) = cmpZ x y := by
  unfold sgnZ cmpZ
  by_cases h1 : x < y
  · rw [if_pos h1, if_pos (by omega)]
  · by_cases h2 : y < x
    · rw [if_neg h1, if_pos h2, if_neg (by omega), if_pos (by omega)]
    · rw [if_neg h1, if_neg h2, if_neg (by omega), if_neg (by omega)]
set_option maxHeartbeats 4000000 in
set_option maxRecDepth 100000 in
theorem beaconOrder_q (a b : BcV) (w : World) (ha : BcOk a) (hb : BcOk b) : Calls Tryz.prog 100 #[.agg #[.string a.psn, .string a.dev, .int .i64 a.st, .int .i64 a.at_, .int .i64 a.un, .string a.note], .agg #[.string b.psn, .string b.dev, .int .i64 b.st, .int .i64 b.at_, .int .i64 b.un, .string b.note]] w (RetQ (.int .i64 (bcCmp a b)) w) := by
  obtain ⟨-, ⟨a1, a2⟩, -⟩ := ha
  obtain ⟨-, ⟨b1, b2⟩, -⟩ := hb
  have u1 : IntKind.i64.wrap (a.at_ - b.at_) = a.at_ - b.at_ := IntWalk.i64_in _ (by omega)
  clear a1 a2 b1 b2
  obtain ⟨W1, hW⟩ : ∃ W1, (w.alloc (.cells #[.string a.psn, .string a.dev, .int .i64 a.st, .int .i64 a.at_, .int .i64 a.un, .string a.note] 62)).alloc (.cells #[.string b.psn, .string b.dev, .int .i64 b.st, .int .i64 b.at_, .int .i64 b.un, .string b.note] 62) = W1 := ⟨_, rfl⟩
  have HA := Lib.hid (show Blk W1 w.heap.size 62 #[.string a.psn, .string a.dev, .int .i64 a.st, .int .i64 a.at_, .int .i64 a.un, .string a.note] by rw [← hW]; exact (Blk.new _ _ _).alloc _)
  have HB := Lib.hid (show Blk W1 (w.heap.size + 1) 62 #[.string b.psn, .string b.dev, .int .i64 b.st, .int .i64 b.at_, .int .i64 b.un, .string b.note] by
    rw [← hW]
    have h := Blk.new (w.alloc (.cells #[.string a.psn, .string a.dev, .int .i64 a.st, .int .i64 a.at_, .int .i64 a.un, .string a.note] 62)) 62 #[.string b.psn, .string b.dev, .int .i64 b.st, .int .i64 b.at_, .int .i64 b.un, .string b.note]
    simpa using h)
  have HQ := Lib.hid (show Gq w W1 by rw [← hW]; exact ((Gq.refl w).alloc _).alloc _)
  have hz1 : W1.heap.size = w.heap.size + 1 + 1 := by rw [← hW]; simp
  have HW := Lib.hid hW; clear hW
  have kA0 := HA.out.cell 0; have kA1 := HA.out.cell 1; have kA3 := HA.out.cell 3
  have kB0 := HB.out.cell 0; have kB1 := HB.out.cell 1; have kB3 := HB.out.cell 3
  have HD := Lib.hid (bcCmp_doc a b)
  have HSG := Lib.hid (sgn_cmp a.at_ b.at_)
  obtain ⟨W2, hW2⟩ : ∃ v, W1.alloc (.cells #[.string a.psn, .string a.dev] 9) = v := ⟨_, rfl⟩
  obtain ⟨g2, hg2⟩ : ∃ v, W1.heap.size = v := ⟨_, rfl⟩
  obtain ⟨W3, hW3⟩ : ∃ v, W2.alloc (.cells #[.string b.psn, .string b.dev] 9) = v := ⟨_, rfl⟩
  obtain ⟨g3, hg3⟩ : ∃ v, W2.heap.size = v := ⟨_, rfl⟩
  have HR2 := Lib.hid (show Recs srow 1 W3 g2 (some ⟨g2, 0, none⟩) 2 2 [a.psn, a.dev] by
    rw [← hW3, ← hW2, ← hg2]
    exact ⟨(Reads.blk (Blk.new W1 9 #[.string a.psn, .string a.dev]) 1 2 rfl).grown (gr_alloc (gr_refl _ none) _) (fun g e => by cases e), rfl⟩)
  have HR3 := Lib.hid (show Recs srow 1 W3 g3 (some ⟨g3, 0, none⟩) 2 2 [b.psn, b.dev] by
    rw [← hW3, ← hg3]
    exact ⟨Reads.blk (Blk.new W2 9 #[.string b.psn, .string b.dev]) 1 2 rfl, rfl⟩)
  have hz2 : g3 = g2 + 1 := by rw [← hg3, ← hW2, ← hg2]; simp
  have HQ3 := Lib.hid (show Gq w W3 by rw [← hW3, ← hW2]; exact (HQ.out.alloc _).alloc _)
  have HW2 := Lib.hid hW2; have HW3 := Lib.hid hW3
  obtain ⟨QC, hQC⟩ : ∃ q, cmpLL cmpS [a.psn, a.dev] [b.psn, b.dev] = q := ⟨_, rfl⟩
  have HQC := Lib.hid hQC
  replace HD := Lib.hid (show bcCmp a b = if QC = 0 then cmpZ a.at_ b.at_ else QC by rw [HD.out, hQC])
  have kA3' : W3.cell? ⟨w.heap.size, 3, none⟩ = some (.int .i64 a.at_) := by rw [← hW3, ← hW2]; exact ((HA.out.alloc _).alloc _).cell 3
  have kB3' : W3.cell? ⟨w.heap.size + 1, 3, none⟩ = some (.int .i64 b.at_) := by rw [← hW3, ← hW2]; exact ((HB.out.alloc _).alloc _).cell 3
  have e2 : g2 = w.heap.size + 1 + 1 := by rw [← hg2]; exact hz1
  clear hW2 hg2 hW3 hg3 hQC
  subst e2
  subst hz2
  go_enter Tryz.func100, Tryz.ntmps100
  go_wp2_with fail
  rw [HW.out]
  go_wp2_with fail
  rw [HW2.out, HW3.out]
  refine same_calls (compareS_any _ _ _ _ 2 2 2 2 [a.psn, a.dev] [b.psn, b.dev] _ HR2.out HR3.out (by omega) (by omega)) ?_
  rw [HQC.out]
  clear kA0 kA1 kA3 kB0 kB1 kB3
  by_cases hz : QC = 0
  · have d2 : (QC != 0) = false := by simpa using hz
    have HF := Lib.hid (show bcCmp a b = sgnZ (a.at_ - b.at_) by rw [HD.out, if_pos hz, HSG.out])
    clear hz
    go_wp2_with fail
    refine same_calls (sgnZ_any _ _) ?_
    go_wp2_with fail
    go_ret
    exact ⟨by rw [HF.out]; try rfl, HQ3.out⟩
  · have d2 : (QC != 0) = true := by simpa using hz
    have HF := Lib.hid (show bcCmp a b = QC by rw [HD.out, if_neg hz])
    clear hz
    go_wp2_with fail
    go_ret
    exact ⟨by rw [HF.out]; try rfl, HQ3.out⟩
/-! Plain strings. -/
def U8T (w : World) : Prop := Lib.Utf8Tabs 0 1 w
theorem U8T.low {w w' : World} {r : Option Nat} (h : U8T w) (hg : w.grownBy w' r) (hr : ∀ g, r = some g → g ≠ 0 ∧ g ≠ 1) : U8T w' := by
  have key : ∀ (g c : Nat) v, (r = some g → False) → w.cell? ⟨g, c, none⟩ = some v → w'.cell? ⟨g, c, none⟩ = some v := fun g c v hn hc =>
    (World.cell?_of_block (hg.block g (World.block_lt_of_cell? w ⟨g, c, none⟩ hc) (fun e => hn e.symm))).trans hc
  refine ⟨fun c hc => key _ _ _ (fun e => (hr _ e).1 rfl) (h.1 c hc), fun i hi => ⟨key _ _ _ (fun e => (hr _ e).2 rfl) (h.2 i hi).1, key _ _ _ (fun e => (hr _ e).2 rfl) (h.2 i hi).2⟩⟩
theorem U8T.grown {w w' : World} (h : U8T w) (hg : w.grownBy w' none) : U8T w' := h.low hg fun g e => by cases e
theorem U8T.lt {w : World} (h : U8T w) : 0 < w.heap.size ∧ 1 < w.heap.size :=
  ⟨World.block_lt_of_cell? w _ (h.1 0 (by decide)), World.block_lt_of_cell? w _ (h.2 0 (by decide)).1⟩
theorem valid_asc (s : ByteArray) (ha : ascB s) : Lib.validD s.data.toList = true := by
  have := Lib.validD_ascii s.data.toList.length s.data.toList (fun b hb => ha b (List.mem_of_mem_take hb))
  rw [this, List.drop_length]
  rfl
theorem Tryz.utf8_ValidString (s : ByteArray) (w : World) (hs : s.size ≤ 9223372036854775807) (hT : U8T w) : Calls Tryz.prog 152 #[.string s] w fun e w' => e = .returned (.bool (Lib.validD s.data.toList)) ∧ Below w.heap.size w w' := Any.utf8_ValidString Tryz.laysValid s w hs hT
theorem validString_any (s : ByteArray) (w : World) (hs : s.size ≤ 1000000) (ha : ascB s) (hu : U8T w) : Calls Tryz.prog 152 #[.string s] w (RetV (.bool true) w) := by
  have h := Tryz.utf8_ValidString s w (by omega) hu
  rw [valid_asc s ha] at h
  refine h.mono ?_
  rintro e w' ⟨rfl, hb⟩
  exact ⟨rfl, gr_below hb none⟩
theorem ctl_take {s : ByteArray} {i : Nat} (hi : i < s.size) (h : ctlB (s.data.toList.take i) = false) (hc : ctl1 s[i].toNat = false) : ctlB (s.data.toList.take (i + 1)) = false := by
  have hl : i < s.data.toList.length := by rw [sz_len]; exact hi
  rw [List.take_succ_eq_append_getElem hl]
  unfold ctlB at *
  rw [List.any_append, h]
  have : s.data.toList[i] = s[i] := rfl
  simp only [List.any_cons, List.any_nil, this, hc, Bool.or_false]
theorem ctl_hit {s : ByteArray} {i : Nat} (hi : i < s.size) (hc : ctl1 s[i].toNat = true) : ctlB s.data.toList = true := by
  have hl : i < s.data.toList.length := by rw [sz_len]; exact hi
  refine List.any_eq_true.2 ⟨s[i], ?_, hc⟩
  exact List.getElem_mem hl
set_option maxHeartbeats 4000000 in
theorem isPlain_any (s : ByteArray) (w : World) (hs : s.size ≤ 1000000) (ha : ascB s) (hu : U8T w) (hm : MxT w) : Calls Tryz.prog 109 #[.string s] w (RetV (.bool (plB s)) w) := by
  have hv : plB s = (!Lib.hasPrefix s.data.toList [32] && !Lib.hasSuffix s.data.toList [32] && !Lib.contains s.data.toList [32, 32] && !ctlB s.data.toList) := rfl
  obtain ⟨B1, h1⟩ : ∃ B, Lib.hasPrefix s.data.toList [32] = B := ⟨_, rfl⟩
  obtain ⟨B2, h2⟩ : ∃ B, Lib.hasSuffix s.data.toList [32] = B := ⟨_, rfl⟩
  obtain ⟨B3, h3⟩ : ∃ B, Lib.contains s.data.toList [32, 32] = B := ⟨_, rfl⟩
  rw [h1, h2, h3] at hv
  have H1 := Lib.hid h1; have H2 := Lib.hid h2; have H3 := Lib.hid h3; have HV := Lib.hid hv
  have HA := Lib.hid ha; have HU := Lib.hid hu; have HM := Lib.hid hm
  clear h1 h2 h3 hv ha hu hm
  have early : ∀ (b1 b2 b3 : Bool), (b1 || b2 || b3) = true → ((!b1 && !b2 && !b3 && !ctlB s.data.toList) = false) := by
    intro b1 b2 b3 h
    cases b1 <;> cases b2 <;> cases b3 <;> first | rfl | (cases h)
  have HEY := Lib.hid early; clear early
  cases B1 <;> cases B2 <;> cases B3
  rotate_left 1
  all_goals try
    (have HF := Lib.hid (HV.out.trans (HEY.out _ _ _ rfl))
     go_enter Tryz.func109, Tryz.ntmps109
     go_wp2_with fail
     refine (validString_any s _ (by omega) HA.out HU.out).mono ?_
     rintro e w1 ⟨rfl, hg1⟩
     have HG1 := Lib.hid hg1
     have HM1 := Lib.hid (HM.out.grown hg1)
     clear hg1
     go_wp2_with (first
       | (go_at_call 149; refine same_calls (hasPre_any _ _ _) ?_; rw [show Lib.hasPrefix s.data.toList (⟨#[32]⟩ : ByteArray).data.toList = _ from H1.out])
       | (go_at_call 156; refine same_calls (hasSuf_any _ _ _ (by omega)) ?_; rw [show Lib.hasSuffix s.data.toList (⟨#[32]⟩ : ByteArray).data.toList = _ from H2.out])
       | (go_at_call 155; refine same_calls (hasSub_any _ _ _ (by omega) HM1.out) ?_; rw [show Lib.contains s.data.toList (⟨#[32, 32]⟩ : ByteArray).data.toList = _ from H3.out])
       | fail)
     go_ret
     exact ⟨by rw [HF.out]; try rfl, HG1.out⟩
     done)
  have HW := Lib.hid (show plB s = !ctlB s.data.toList by rw [HV.out]; rfl)
  go_enter Tryz.func109, Tryz.ntmps109
  go_wp2_with fail
  refine (validString_any s _ (by omega) HA.out HU.out).mono ?_
  rintro e w1 ⟨rfl, hg1⟩
  have HG1 := Lib.hid hg1
  have HM1 := Lib.hid (HM.out.grown hg1)
  clear hg1
  go_wp2_with (first
    | (go_at_call 149; refine same_calls (hasPre_any _ _ _) ?_; rw [show Lib.hasPrefix s.data.toList (⟨#[32]⟩ : ByteArray).data.toList = _ from H1.out])
    | (go_at_call 156; refine same_calls (hasSuf_any _ _ _ (by omega)) ?_; rw [show Lib.hasSuffix s.data.toList (⟨#[32]⟩ : ByteArray).data.toList = _ from H2.out])
    | (go_at_call 155; refine same_calls (hasSub_any _ _ _ (by omega) HM1.out) ?_; rw [show Lib.contains s.data.toList (⟨#[32, 32]⟩ : ByteArray).data.toList = _ from H3.out])
    | fail)
  go_loop [3, 21] (fun _ t => ∃ i : Nat, i ≤ s.size ∧ t = .int .i64 i ∧ ctlB (s.data.toList.take i) = false) (fun _ t => s.size - (intOf t).toNat)
  case atStart => exact ⟨0, Nat.zero_le _, rfl, rfl⟩
  case round =>
    obtain ⟨i, hi, rfl, hc⟩ := hrel
    have HC := Lib.hid hc; clear hc
    by_cases hlt : i < s.size
    · obtain ⟨b, hb⟩ : ∃ b, s[i].toNat = b := ⟨_, rfl⟩
      by_cases b1 : b < 32
      · have HF := Lib.hid (show plB s = false by rw [HW.out, ctl_hit hlt (by rw [hb]; unfold ctl1; rw [decide_eq_true b1]; rfl)]; rfl)
        have d1 : decide ((b : Int) < 32) = true := decide_eq_true (by omega)
        have d1' : decide (b < 32) = true := decide_eq_true b1
        go_wp2_with fail
        go_ret
        exact ⟨by rw [HF.out]; try rfl, HG1.out⟩
      · have d1 : decide ((b : Int) < 32) = false := decide_eq_false (by omega)
        have d1' : decide (b < 32) = false := decide_eq_false b1
        by_cases b2 : b = 127
        · have HF := Lib.hid (show plB s = false by rw [HW.out, ctl_hit hlt (by rw [hb]; unfold ctl1; rw [b2]; rfl)]; rfl)
          have d2 : ((b : Int) == 127) = true := by simp [b2]
          have d2' : (b == 127) = true := by simp [b2]
          clear b2
          go_wp2_with fail
          go_ret
          exact ⟨by rw [HF.out]; try rfl, HG1.out⟩
        · have HN := Lib.hid (ctl_take hlt HC.out (by rw [hb]; unfold ctl1; rw [decide_eq_false b1]; simpa using b2))
          have d2 : ((b : Int) == 127) = false := by simp; omega
          have d2' : (b == 127) = false := by simpa using b2
          clear b2
          go_wp2_with fail
          go_round
          case rel => exact ⟨i + 1, by omega, by go_num, HN.out⟩
          case measure => simp [intOf]; omega
    · obtain rfl : i = s.size := by omega
      have HF := Lib.hid (show plB s = true by
        have h := HC.out
        rw [List.take_of_length_le (by rw [sz_len]; exact Nat.le_refl _)] at h
        rw [HW.out, h]; rfl)
      go_wp2_with fail
      go_ret
      exact ⟨by rw [HF.out]; try rfl, HG1.out⟩
theorem ctlFn_any (x : Nat) (w : World) : Calls Tryz.prog 154 #[.int .i32 x] w (Same (.bool (ctl1 x)) w) := by
  by_cases b1 : x < 32
  · have HF := Lib.hid (show ctl1 x = true by unfold ctl1; rw [decide_eq_true b1]; rfl)
    have d1 : decide ((x : Int) < 32) = true := decide_eq_true (by omega)
    go_enter Tryz.func154, Tryz.ntmps154
    go_wp2_with fail
    go_ret
    exact ⟨by rw [HF.out]; try rfl, rfl⟩
  · have d1 : decide ((x : Int) < 32) = false := decide_eq_false (by omega)
    by_cases b2 : x = 127
    · have HF := Lib.hid (show ctl1 x = true by unfold ctl1; rw [b2]; rfl)
      have d2 : ((x : Int) == 127) = true := by simp [b2]
      clear b2
      go_enter Tryz.func154, Tryz.ntmps154
      go_wp2_with fail
      go_ret
      exact ⟨by rw [HF.out]; try rfl, rfl⟩
    · have HF := Lib.hid (show ctl1 x = false by unfold ctl1; rw [decide_eq_false b1]; simpa using b2)
      have d2 : ((x : Int) == 127) = false := by simp; omega
      clear b2
      go_enter Tryz.func154, Tryz.ntmps154
      go_wp2_with fail
      go_ret
      exact ⟨by rw [HF.out]; try rfl, rfl⟩
set_option maxHeartbeats 4000000 in
theorem plain_any (s : ByteArray) (w : World) (hs : s.size ≤ 1000000) (ha : ascB s) (hu : U8T w) (hm : MxT w) : Calls Tryz.prog 107 #[.string s] w (RetV (.bool (plB s)) w) := by
  have hv := plain_doc s ha
  obtain ⟨B1, h1⟩ : ∃ B, decide (0 ≤ Lib.idxFunc ctl1 true s) = B := ⟨_, rfl⟩
  obtain ⟨tb, htb⟩ : ∃ t : ByteArray, (⟨(Lib.trimB s.data.toList 32).toArray⟩ : ByteArray) = t := ⟨_, rfl⟩
  obtain ⟨B2, h2⟩ : ∃ B, (tb.toList == s.toList) = B := ⟨_, rfl⟩
  obtain ⟨B3, h3⟩ : ∃ B, Lib.contains s.data.toList [32, 32] = B := ⟨_, rfl⟩
  rw [h1, htb, h2, h3] at hv
  have H1 := Lib.hid h1; have H3 := Lib.hid h3; have HV := Lib.hid hv.symm; have HTB := Lib.hid htb
  have HA := Lib.hid ha; have HU := Lib.hid hu; have HM := Lib.hid hm
  clear h1 h3 hv ha hu hm htb
  have hpred : ∀ W : World, PredGrows Tryz.prog 154 #[] ctl1 W := fun W W' x _ _ => (ctlFn_any x W').mono fun e w' ⟨he, hw⟩ => by subst hw; exact ⟨he, Below.refl _ _⟩
  have HPR := Lib.hid hpred; clear hpred
  have eg : ∀ args w, (callFunc 154 args).run Tryz.prog w = .ok (.enter 154 args) w := enters_of Tryz.func154 (by kernel_rfl) rfl
  have HEG := Lib.hid eg; clear eg
  cases B1 <;> cases B2 <;> cases B3
  all_goals
    have HF := Lib.hid HV.out
    go_enter Tryz.func107, Tryz.ntmps107
    go_wp2_with fail
    refine (validString_any s _ (by omega) HA.out HU.out).mono ?_
    rintro e w1 ⟨rfl, hg1⟩
    have HG1 := Lib.hid hg1
    have HM1 := Lib.hid (HM.out.grown hg1)
    clear hg1
    go_wp2_with fail
    refine (Tryz.strings_ContainsFunc_grows 154 #[] HEG.out ctl1 s _ (HPR.out _)).mono ?_
    rintro e w2 ⟨rfl, hb2⟩
    rw [H1.out]
    have HG2 := Lib.hid (gr_none HG1.out (gr_below hb2 none))
    have HM2 := Lib.hid (HM1.out.grown (gr_below hb2 none))
    clear hb2
    go_wp2_with (first
      | (go_at_call 126
         refine (Tryz.strings_Trim_one s 32 (by decide) _ (by omega)).mono ?_
         rintro e w3 ⟨rfl, hw3⟩
         rw [HTB.out]
         have HG3 := Lib.hid (show w.grownBy w3 none by rcases hw3 with rfl | rfl; exact HG2.out; exact gr_drew HG2.out)
         have HM3 := Lib.hid (show MxT w3 by rcases hw3 with rfl | rfl; exact HM2.out; exact HM2.out.grown (gr_drew (gr_refl _ _)))
         clear hw3)
      | (go_at_call 155; refine same_calls (hasSub_any _ _ _ (by omega) HM3.out) ?_; rw [show Lib.contains s.data.toList (⟨#[32, 32]⟩ : ByteArray).data.toList = _ from H3.out])
      | fail)
    go_ret
    exact ⟨by rw [HF.out]; try rfl, by first | exact HG3.out | exact HG2.out⟩
end Go.Proofs.YtgogiljplnninaaGreatDoor

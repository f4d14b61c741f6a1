/- Contracts of slices.DeleteFunc at ints and of the room's times. Conditions: none. -/
import Derived.Test.YtnmodobkennklaaGreatDoorRo1
namespace Go.Proofs.YtnmodobkennklaaGreatDoor
open Go.RowKit

theorem reads_lit (w : World) (t : TypeId) (cs : List Value) (n : Nat) (h : cs.length = n) {g : Nat} (hg : w.heap.size = g) : Reads (w.alloc (.cells cs.toArray t)) g 1 (some ⟨g, 0, none⟩) n n cs := by
  subst hg; exact Reads.blk (Blk.new _ _ _) 1 n (by omega)
theorem idxP_spec {α : Type} (p : α → Bool) (l : List α) : (idxP p l = -1 ∧ ∀ x ∈ l, p x = false) ∨ ∃ (i : Nat) (z : α), idxP p l = i ∧ l[i]? = some z ∧ p z = true ∧ ∀ x ∈ l.take i, p x = false := by
  unfold idxP
  cases h : l.any p with
  | false => exact .inl ⟨rfl, fun x hx => by simpa using List.any_eq_false.1 h x hx⟩
  | true =>
    obtain ⟨x, hx, hp⟩ := List.any_eq_true.1 h
    have hlt : l.findIdx p < l.length := List.findIdx_lt_length_of_exists ⟨x, hx, hp⟩
    refine .inr ⟨l.findIdx p, l[l.findIdx p], rfl, List.getElem?_eq_getElem hlt, List.findIdx_getElem (w := hlt), fun y hy => ?_⟩
    obtain ⟨j, hj, rfl⟩ := List.mem_iff_getElem.1 hy
    rw [List.length_take] at hj
    rw [List.getElem_take]
    simpa using List.not_of_lt_findIdx (p := p) (xs := l) (show j < l.findIdx p by omega)
set_option maxHeartbeats 1000000 in
theorem tmLe_any (x t : Int) (kb : Nat) (w : World) (h : Blk w kb 3 #[.int .i64 t]) : Calls Tryz.prog 153 #[.int .i64 x, .pointer (some ⟨kb, 0, none⟩)] w (RetV (.bool (decide (x ≤ t))) w) := by
  have k0 := h.cell 0
  clear h
  go_enter Tryz.func153, Tryz.ntmps153
  go_wp2_with fail
  go_ret
  exact ⟨rfl, gr_refl _ _⟩
set_option maxHeartbeats 4000000 in
theorem tmLeIdx_any (lo : Nat) (A : Option Addr) (n c : Nat) (l : List Int) (t : Int) (kb : Nat) (w : World) (h : Recs nrow 1 w lo A n c l) (hn : n ≤ 1000000000000) (h_k : Blk w kb 3 #[.int .i64 t]) :
    Calls Tryz.prog 187 #[.slice A n c, .func (.func 153) #[] #[.pointer (some ⟨kb, 0, none⟩)]] w (RetV (.int .i64 (idxP (fun x : Int => decide (x ≤ t)) l)) w) := by
  have H := Lib.hid h; have Hk := Lib.hid h_k; clear h h_k
  go_enter Tryz.func187, Tryz.ntmps187
  go_wp2_with fail
  go_loopw [5, 8] (fun _ t' wr => ∃ i : Nat, i ≤ n ∧ t' = .int .i64 i ∧ w.grownBy wr none ∧ (l.take i).all (fun x => !((fun x : Int => decide (x ≤ t)) x)) = true) (fun _ t' _ => n - (intOf t').toNat)
  case atStart => exact ⟨0, Nat.zero_le _, rfl, gr_refl _ _, by simp⟩
  case round =>
    obtain ⟨i, hi, rfl, hg, ha⟩ := hrel
    have HA := Lib.hid ha; have HG := Lib.hid hg; clear ha hg
    by_cases hlt : i < n
    · obtain ⟨g, o, b, rfl, _, hgl, hz, hc⟩ := (H.out.grown HG.out (fun g e => by cases e)).get nrow_len hlt
      have HZ := Lib.hid hz; have HC := Lib.hid hc; clear hz hc
      have ks := HC.out 0 _ rfl
      simp only [Nat.mul_one, Nat.add_zero] at ks
      obtain ⟨B, hB⟩ : ∃ B, (fun x : Int => decide (x ≤ t)) b = B := ⟨_, rfl⟩
      have HE := Lib.hid hB; clear hB
      cases B
      all_goals
        go_wp2_with (first
          | (go_at_call 153; refine (tmLe_any b t kb _ (Hk.out.grown HG.out (by simp))).mono ?_; rintro e w2 ⟨rfl, hg2⟩; have he := HE.out; (try dsimp only at he); rw [he]; clear he; have HG2 := Lib.hid (gr_none HG.out hg2); clear hg2)
          | fail)
      · go_roundw
        case rel => exact ⟨i + 1, by omega, by go_num, HG2.out, allP_succ (p := (fun x : Int => decide (x ≤ t))) HA.out HZ.out HE.out⟩
        case measure => simp [intOf]; omega
      · go_ret
        exact ⟨by rw [idxP_some (p := (fun x : Int => decide (x ≤ t))) HA.out HZ.out HE.out]; rfl, HG2.out⟩
    · obtain rfl : i = n := by omega
      go_wp2_with fail
      go_ret
      have h := HA.out
      rw [List.take_of_length_le (by rw [H.out.len]; exact Nat.le_refl _)] at h
      exact ⟨by rw [idxP_none (p := (fun x : Int => decide (x ≤ t))) h]; rfl, HG.out⟩
def laterB (t : Int) (x : Int) : Bool := decide (t < x)
theorem later_not (t x : Int) : laterB t x = !decide (x ≤ t) := by
  unfold laterB
  by_cases h : x ≤ t
  · rw [decide_eq_true h, decide_eq_false (by omega)]; rfl
  · rw [decide_eq_false h, decide_eq_true (by omega)]; rfl
theorem run_clearI {w : World} {lo n c g : Nat} {l : List Int} (h : OwnR nrow 1 w lo 3 (some ⟨g, 0, none⟩) n c l) (i : Nat) (hi : i < n) (m cc : Nat) (hm : m = n - i) :
    ∃ w', (∀ ty, (Builtin.clear_ #[22] ty #[.slice (some ⟨g, i, none⟩) m cc]).run Tryz.prog w = .ok (.tuple #[]) w') ∧ OwnR nrow 1 w' lo 3 (some ⟨g, 0, none⟩) i c (l.take i) ∧ w.grownBy w' (some g) := by
  obtain ⟨w', h1, h2, h3⟩ := run_clear_own (P := Tryz.prog) (ty := 0) Tryz.underlying22 Tryz.zeroValue3 rfl rfl h.1 i (by omega) (some ⟨g, i, none⟩) (fun _ => rfl) m cc hm
  refine ⟨w', fun ty => ?_, ⟨?_, by rw [List.length_take, h.2]; omega⟩, h3⟩
  · exact h1
  · have hp := h2.prefix_ i (by omega)
    have hl := h.1.len
    rw [Nat.mul_one, List.take_append_of_le_length (by rw [List.length_take]; omega), List.take_take, Nat.min_self] at hp
    have : (l.flatMap nrow).take i = (l.take i).flatMap nrow := by rw [nrow_map, nrow_map, List.map_take]
    rw [this] at hp
    exact hp
set_option maxHeartbeats 8000000 in
set_option maxRecDepth 100000 in
theorem delF_any (lo : Nat) (A : Option Addr) (n c : Nat) (l : List Int) (t : Int) (kb : Nat) (w : World) (h : OwnR nrow 1 w lo 3 A n c l) (hn : n ≤ 100000000) (hk : Blk w kb 3 #[.int .i64 t]) (hne : blkOf A ≠ some kb) :
    Calls Tryz.prog 152 #[.slice A n c, .func (.func 153) #[] #[.pointer (some ⟨kb, 0, none⟩)]] w (fun e w' => ∃ m, e = .returned (.slice A m c) ∧ OwnR nrow 1 w' lo 3 A m c (l.filter (laterB t)) ∧ w.grownBy w' (blkOf A)) := by
  have H := Lib.hid h; have HK := Lib.hid hk; have HNE := Lib.hid hne; clear h hk hne
  go_enter Tryz.func152, Tryz.ntmps152
  go_wp2_with fail
  refine (tmLeIdx_any lo A n c l t kb _ H.out.recs (by omega) HK.out).mono ?_
  rintro e w2 ⟨rfl, hg2⟩
  rcases idxP_spec (fun x : Int => decide (x ≤ t)) l with ⟨he, hall⟩ | ⟨i0, z0, he, hz0, hp0, hall⟩
  · rw [he]
    have HF := Lib.hid (show l.filter (laterB t) = l from List.filter_eq_self.2 fun x hx => by rw [later_not, hall x hx]; rfl)
    have HG2 := Lib.hid hg2
    clear he hall hg2
    go_wp2_with fail
    go_ret
    exact ⟨n, rfl, by rw [HF.out]; exact H.out.kept HG2.out (fun g e => by cases e), gr_none (gr_refl _ _) HG2.out⟩
  · rw [he]
    have hi0 : i0 < n := by rw [← H.out.2]; exact (List.getElem?_eq_some_iff.1 hz0).1
    obtain ⟨g, rfl, hgl, hgs⟩ := H.out.1.pos (by omega)
    have hcn := H.out.1.cap
    have HF0 := Lib.hid (show l.take i0 = (l.take (i0 + 1)).filter (laterB t) by
      rw [take_snoc' hz0, List.filter_append, List.filter_eq_self.2 (fun x hx => by rw [later_not, hall x hx]; rfl)]
      have : laterB t z0 = false := by rw [later_not, show decide (z0 ≤ t) = true from hp0]; rfl
      simp [this])
    have HO2 := Lib.hid (H.out.kept hg2 (fun g e => by cases e))
    have HG2 := Lib.hid (show w.grownBy w2 (some g) from gr_none (gr_refl _ _) hg2)
    have hd0 : ((i0 : Int) == -1) = false := by rw [beq_eq_false_iff_ne]; omega
    have q0 : IntKind.i64.wrap ((i0 : Int) + 1) = (i0 : Int) + 1 := IntWalk.i64_in _ (by omega)
    clear he hall hz0 hp0 hg2
    go_wp2_with fail
    clear hd0 q0
    go_loopw [5, 6, 7] (fun t5 t6 _ wr => ∃ (i j : Nat) (l' : List Int), t5 = .int .i64 i ∧ t6 = .int .i64 j ∧ i < j ∧ j ≤ n ∧ OwnR nrow 1 wr lo 3 (some ⟨g, 0, none⟩) n c l' ∧ l'.take i = (l.take j).filter (laterB t) ∧ l'.drop j = l.drop j ∧ w.grownBy wr (some g)) (fun _ t6 _ _ => n - (intOf t6).toNat)
    case atStart => exact ⟨i0, i0 + 1, l, rfl, by go_num, by omega, by omega, HO2.out, HF0.out, rfl, HG2.out⟩
    case round =>
      clear HO2 HG2
      obtain ⟨i, j, l1, rfl, rfl, hij, hj, hown, htk, hdr, hg⟩ := hrel
      have HO := Lib.hid hown; have HTK := Lib.hid htk; have HDR := Lib.hid hdr; have HG := Lib.hid hg
      clear hown htk hdr hg
      by_cases hlt : j < n
      · obtain ⟨x, hx⟩ : ∃ x, l[j]? = some x := ⟨_, List.getElem?_eq_getElem (by rw [H.out.2]; omega)⟩
        have hx1 : l1[j]? = some x := by
          have e := congrArg (fun m : List Int => m[0]?) HDR.out
          simpa [List.getElem?_drop, hx] using e
        have HX := Lib.hid hx; have HX1 := Lib.hid hx1
        have kx := HO.out.recs.at_ nrow_len hx1 0 _ rfl
        simp only [Nat.mul_one, Nat.add_zero, Nat.zero_add] at kx
        have hj2 : (j : Int) < (n : Int) := by omega
        have q1 : IntKind.i64.wrap ((j : Int) + 1) = (j : Int) + 1 := IntWalk.i64_in _ (by omega)
        have q2 : IntKind.i64.wrap ((i : Int) + 1) = (i : Int) + 1 := IntWalk.i64_in _ (by omega)
        have hi2 : (i : Int) < (n : Int) := by omega
        have hdrop : l1.drop (j + 1) = l.drop (j + 1) := by
          have e := congrArg (fun m : List Int => m.drop 1) HDR.out
          simpa [List.drop_drop] using e
        have HDR1 := Lib.hid hdrop
        clear hx hx1 hdrop
        go_upto_region 8 with (fail)
        clear kx
        go_wp2_with fail
        refine (tmLe_any x t kb _ (HK.out.grown HG.out (fun e => HNE.out e.symm))).mono ?_
        rintro e w4 ⟨rfl, hg4⟩
        have HO4 := Lib.hid (HO.out.kept hg4 (fun g e => by cases e))
        have HG4 := Lib.hid (gr_none HG.out hg4)
        clear hg4 HO HG
        by_cases hx : x ≤ t
        · have hd : decide (x ≤ t) = true := decide_eq_true hx
          have hfx : laterB t x = false := by rw [later_not, hd]; rfl
          have HF := Lib.hid (show l1.take i = (l.take (j + 1)).filter (laterB t) by rw [HTK.out, take_snoc' HX.out, List.filter_append]; simp [hfx])
          clear hx hfx
          go_wp2_with fail
          go_roundw
          case rel => exact ⟨i, j + 1, l1, rfl, by go_num, by omega, by omega, HO4.out, HF.out, HDR1.out, HG4.out⟩
          case measure => simp [intOf]; omega
        · have hd : decide (x ≤ t) = false := decide_eq_false hx
          have hfx : laterB t x = true := by rw [later_not, hd]; rfl
          have HF := Lib.hid (show (l1.set i x).take (i + 1) = (l.take (j + 1)).filter (laterB t) by
            have hl1 := HO4.out.2
            have e1 : (l1.set i x)[i]? = some x := List.getElem?_set_self (by rw [hl1]; omega)
            rw [take_snoc' e1, List.take_set, List.set_eq_of_length_le (by rw [List.length_take]; omega), HTK.out, take_snoc' HX.out, List.filter_append]
            simp [hfx])
          have HD2 := Lib.hid (show (l1.set i x).drop (j + 1) = l.drop (j + 1) by rw [List.drop_set_of_lt (by omega)]; exact HDR1.out)
          clear hx hfx
          go_wp2_with (first
            | (refine wpl_store_one rfl (by kernel_rfl) nrow_len _ _ rfl i rfl x (.int .i64 x) rfl rfl rfl HO4.out (by omega) rfl ?_
               intro w8 hown8 hg8
               have HO8 := Lib.hid hown8
               have HG8 := Lib.hid (gr_same HG4.out hg8)
               clear hown8 hg8)
            | fail)
          go_roundw
          case rel => exact ⟨i + 1, j + 1, _, by go_num, by go_num, by omega, by omega, HO8.out, HF.out, HD2.out, HG8.out⟩
          case measure => simp [intOf]; omega
      · obtain rfl : j = n := by omega
        have hi2 : (i : Int) < (j : Int) := by omega
        have hi3 : (i : Int) ≤ (j : Int) := by omega
        have hci : ¬ c = i := by omega
        obtain ⟨w9, hclr, ho9, hg9⟩ := run_clearI HO.out i hij (j - i) (c - i) rfl
        have HO9 := Lib.hid ho9
        have HG9 := Lib.hid (gr_same HG.out hg9)
        have HF := Lib.hid (show l1.take i = l.filter (laterB t) by rw [HTK.out, List.take_of_length_le (by rw [H.out.2]; exact Nat.le_refl _)])
        clear ho9 hg9
        go_wp2_with fail
        go_ret
        exact ⟨i, rfl, by rw [← HF.out]; exact HO9.out, HG9.out⟩
set_option maxHeartbeats 16000000 in
set_option maxRecDepth 100000 in
theorem times_any (wb : World) (R : RoC) (s : StyV) (A : List AgV) (C : List CaV) (st : RoS) (t : Int) (w : World) (h : Rm wb w R s A C st) :
    Calls Tryz.prog 113 #[.pointer (some ⟨R.g, 0, none⟩), .int .i64 t] w (fun e w' => ∃ B m c, e = .returned (.slice B m c) ∧ OwnR nrow 1 w' w.heap.size 3 B m c (nextsR A C st.ds t) ∧ w.grownBy w' none ∧ m ≤ 100000000) := by
  obtain ⟨rg, aA, ac, cA, cc, dA, dc, sA, sc, bA, bc, nA, nc⟩ := R
  have H := Lib.hid h
  have hm := h.m; have hn := h.n
  obtain ⟨w1, hw1⟩ : ∃ w1, w.alloc (.cells #[.int .i64 t] 3) = w1 := ⟨_, rfl⟩
  have HK1 := Lib.hid (show Blk w1 w.heap.size 3 #[.int .i64 t] by rw [← hw1]; exact Blk.new _ _ _)
  have HG1 := Lib.hid (show w.grownBy w1 none by rw [← hw1]; exact gr_alloc (gr_refl _ _) _)
  have HW1 := Lib.hid hw1
  have hz1 : w1.heap.size = w.heap.size + 1 := by rw [← hw1]; simp
  clear h hw1
  go_enter Tryz.func113, Tryz.ntmps113
  go_upto_region 1 with (fail)
  rw [HW1.out]
  have k4 := (H.out.kept HG1.out).at_.blk.cell 4
  go_upto_region 3 with (fail)
  clear k4
  go_loopw [5, 7, 18] (fun v _ t18 wr => ∃ (k : Nat) (B : Option Addr) (m cB : Nat), v = .slice B m cB ∧ t18 = .int .i64 k ∧ k ≤ C.length ∧ m ≤ 2 * k ∧ OwnR nrow 1 wr (w.heap.size + 1) 3 B m cB (calT C k) ∧ w.grownBy wr none ∧ Blk wr w.heap.size 3 #[.int .i64 t]) (fun _ _ t18 _ => C.length - (intOf t18).toNat)
  case atStart => exact ⟨0, none, 0, 0, rfl, rfl, Nat.zero_le _, Nat.zero_le _, OwnR.nil _ _ _, HG1.out, HK1.out⟩
  case round =>
    clear HG1 HK1
    obtain ⟨k, B, m, cB, rfl, rfl, hk, hmk, hown, hg, hkb⟩ := hrel
    have HO := Lib.hid hown; have HG := Lib.hid hg; have HK := Lib.hid hkb
    have zr := hg.size
    clear hown hg hkb
    by_cases hlt : k < C.length
    · obtain ⟨c, hc⟩ : ∃ c, C[k]? = some c := ⟨_, List.getElem?_eq_getElem hlt⟩
      obtain ⟨cg, co, hcA, hrec⟩ := (H.out.kept HG.out).caller hc
      dsimp only at hcA
      subst hcA
      obtain ⟨n1, n2, n3, n4, _⟩ := (H.out.cn c (mem_of_get hc)).1
      have HCC := Lib.hid (hrec.at_ CaV.row_len hc)
      have HC := Lib.hid hc
      have hlt2 : (k : Int) < (C.length : Int) := by omega
      obtain ⟨wa, hwa⟩ : ∃ wa, wr.alloc (.cells #[.string c.id, .string c.skill, .int .i64 c.at_, .int .i64 c.least, .int .i64 c.prio, .int .i64 c.pat, .int .i64 c.talk, .bool c.back] 49) = wa := ⟨_, rfl⟩
      have HB := Lib.hid (show Blk wa wr.heap.size 49 #[.string c.id, .string c.skill, .int .i64 c.at_, .int .i64 c.least, .int .i64 c.prio, .int .i64 c.pat, .int .i64 c.talk, .bool c.back] by rw [← hwa]; exact Blk.new _ _ _)
      have HGa := Lib.hid (show wr.grownBy wa none by rw [← hwa]; exact gr_alloc (gr_refl _ _) _)
      have HWA := Lib.hid hwa
      clear hwa hc hrec
      go_upto_region 5 with (first
        | (refine wpl_load_at Tryz.caT rfl _ rfl _ rfl [.string c.id, .string c.skill, .int .i64 c.at_, .int .i64 c.least, .int .i64 c.prio, .int .i64 c.pat, .int .i64 c.talk, .bool c.back] rfl (fun j u hu => by rw [add_mk]; exact HCC.out j u hu) ?_)
        | fail)
      rw [HWA.out]
      have k2 := HB.out.cell 2
      have k5 := HB.out.cell 5
      have q1 : IntKind.i64.wrap (c.at_ + c.pat) = c.at_ + c.pat := IntWalk.i64_in _ (by omega)
      replace HO := Lib.hid (HO.out.kept HGa.out (fun g e => by cases e))
      replace HG := Lib.hid (gr_none HG.out HGa.out)
      replace HK := Lib.hid (HK.out.grown HGa.out (by simp))
      clear HWA HCC HGa
      go_wp2_with (first
        | (at_builtin
           refine wpl_app _ rfl _ _ Tryz.inT rfl (w.heap.size + 1) B m cB _ rfl (by exact HO.out.1.alloc _) _ _ 2 2 [.int .i64 (c.at_), .int .i64 (c.at_ + c.pat)] rfl (by exact reads_lit _ _ _ _ rfl (by simp)) (by simp [Value.oneCell']) (by unfold maxLen; omega) (by omega) (by have := HG.out.size; simp; omega) ?_
           intro A8 c8 w8 h8
           have H8 := Lib.hid h8; clear h8)
        | fail)
      have HO8 := Lib.hid (show OwnR nrow 1 w8 (w.heap.size + 1) 3 A8 (m + 2) c8 (calT C k ++ [c.at_, c.at_ + c.pat]) from ⟨by rw [List.flatMap_append]; exact H8.out.1, by rw [List.length_append, HO.out.2]; rfl⟩)
      have HG8 := Lib.hid (show w.grownBy w8 none from gr_own (lo := w.heap.size + 1) (gr_alloc HG.out _) (HO.out.1.alloc _) (by omega) H8.out.2.1)
      have HK8 := Lib.hid (show Blk w8 w.heap.size 3 #[.int .i64 t] from (HK.out.alloc _).grown H8.out.2.1 (fun e => by have := (HO.out.1.lt e.symm).1; omega))
      clear H8
      go_roundw
      case rel => exact ⟨k + 1, A8, m + 2, c8, rfl, by go_num, by omega, by omega, by rw [calT_succ HC.out]; exact HO8.out, HG8.out, HK8.out⟩
      case measure => simp [intOf]; omega
    · obtain rfl : k = C.length := by omega
      clear hlt
      have k3 := (H.out.kept HG.out).at_.blk.cell 3
      go_upto_region 8 with (fail)
      clear k3
      go_loopw [5, 8, 9, 11, 12, 38] (fun v _ _ _ _ t38 wr => ∃ (k : Nat) (B : Option Addr) (m cB : Nat), v = .slice B m cB ∧ t38 = .int .i64 k ∧ k ≤ A.length ∧ m ≤ 100 + 1010 * k ∧ OwnR nrow 1 wr (w.heap.size + 1) 3 B m cB (calT C C.length ++ agT A st.ds k) ∧ w.grownBy wr none ∧ Blk wr w.heap.size 3 #[.int .i64 t]) (fun _ _ _ _ _ t38 _ => A.length - (intOf t38).toNat)
      case atStart => exact ⟨0, B, m, cB, rfl, rfl, Nat.zero_le _, by omega, by simpa [agT] using HO.out, HG.out, HK.out⟩
      case round =>
        clear HO HG HK hmk
        obtain ⟨k, B, m, cB, rfl, rfl, hk2, hmk, hown, hg, hkb⟩ := hrel
        have HO := Lib.hid hown; have HG := Lib.hid hg; have HK := Lib.hid hkb
        have zr := hg.size
        clear hown hg hkb
        by_cases hlt : k < A.length
        · obtain ⟨a, ha⟩ : ∃ a, A[k]? = some a := ⟨_, List.getElem?_eq_getElem hlt⟩
          obtain ⟨ag, ao, haA, hrec, hao⟩ := (H.out.kept HG.out).agent ha
          dsimp only at haA
          subst haA
          obtain ⟨n1, n2, n3, n4, n5, _⟩ := (H.out.an a (mem_of_get ha)).1
          have HAC := Lib.hid (hrec.at_ AgV.row_len ha)
          have HA := Lib.hid ha
          have HAO := Lib.hid hao
          have hpn : a.pn ≤ 1000 := hao.1.2.2.2
          have hlt2 : (k : Int) < (A.length : Int) := by omega
          obtain ⟨wo, hwo⟩ : ∃ wo, wr.alloc (.cells #[.string a.key, .slice a.sA a.sn a.sc, .int .i64 a.fr, .int .i64 a.til, .slice a.pA a.pn a.pc, .int .i64 a.wrap] 43) = wo := ⟨_, rfl⟩
          obtain ⟨ab, hab⟩ : ∃ ab, wr.heap.size = ab := ⟨_, rfl⟩
          have HB := Lib.hid (show Blk wo ab 43 #[.string a.key, .slice a.sA a.sn a.sc, .int .i64 a.fr, .int .i64 a.til, .slice a.pA a.pn a.pc, .int .i64 a.wrap] by rw [← hwo, ← hab]; exact Blk.new _ _ _)
          have HGa := Lib.hid (show wr.grownBy wo none by rw [← hwo]; exact gr_alloc (gr_refl _ _) _)
          have HWA := Lib.hid hwo
          clear hwo ha hrec hao
          go_upto_region 10 with (first
            | (refine wpl_load_at Tryz.agT rfl _ rfl _ rfl [.string a.key, .slice a.sA a.sn a.sc, .int .i64 a.fr, .int .i64 a.til, .slice a.pA a.pn a.pc, .int .i64 a.wrap] rfl (fun j u hu => by rw [add_mk]; exact HAC.out j u hu) ?_)
            | fail)
          rw [HWA.out]
          (try rw [hab])
          have k2 := HB.out.cell 2
          replace HO := Lib.hid (HO.out.kept HGa.out (fun g e => by cases e))
          replace HG := Lib.hid (gr_none HG.out HGa.out)
          replace HK := Lib.hid (HK.out.grown HGa.out (by simp))
          replace HAO := Lib.hid (HAO.out.grown HGa.out (fun g e => by cases e))
          clear HWA HAC HGa
          go_upto_region 11 with (first
            | (at_builtin
               refine wpl_app _ rfl _ _ Tryz.inT rfl (w.heap.size + 1) B m cB _ rfl (by exact HO.out.1.alloc _) _ _ 1 1 [.int .i64 (a.fr)] rfl (by exact Reads.one _ _ _ _ rfl) (by simp [Value.oneCell']) (by unfold maxLen; omega) (by omega) (by have := HG.out.size; simp; omega) ?_
               intro A8 c8 w8 h8
               have H8 := Lib.hid h8; clear h8)
            | fail)
          have HB8 := Lib.hid (show Blk w8 ab 43 #[.string a.key, .slice a.sA a.sn a.sc, .int .i64 a.fr, .int .i64 a.til, .slice a.pA a.pn a.pc, .int .i64 a.wrap] from (HB.out.alloc _).grown H8.out.2.1 (Ne.symm (HO.out.1.blk_ne HB.out (by decide))))
          have HO8 := Lib.hid (show OwnR nrow 1 w8 (w.heap.size + 1) 3 A8 (m + 1) c8 ((calT C C.length ++ agT A st.ds k) ++ [a.fr]) from ⟨by rw [List.flatMap_append]; exact H8.out.1, by rw [List.length_append, HO.out.2]; rfl⟩)
          have HG8 := Lib.hid (show w.grownBy w8 none from gr_own (lo := w.heap.size + 1) (gr_alloc HG.out _) (HO.out.1.alloc _) (by omega) H8.out.2.1)
          have HK8 := Lib.hid (show Blk w8 w.heap.size 3 #[.int .i64 t] from (HK.out.alloc _).grown H8.out.2.1 (fun e => by have := (HO.out.1.lt e.symm).1; omega))
          clear H8
          clear k2 HO HG HK HB
          obtain ⟨PA, hPA⟩ : ∃ PA, a.pA = PA := ⟨_, rfl⟩
          have HPQ := Lib.hid hPA
          have k4 : w8.cell? ⟨ab, 4, none⟩ = some (.slice PA a.pn a.pc) := by rw [← hPA]; exact HB8.out.cell 4
          clear hPA
          go_upto_region 12 with (fail)
          clear k4
          go_loopw [5, 11, 52] (fun v _ t52 wr => ∃ (j : Nat) (B : Option Addr) (m cB : Nat), v = .slice B m cB ∧ t52 = .int .i64 j ∧ j ≤ a.pn ∧ m ≤ 101 + 1010 * k + j ∧ OwnR nrow 1 wr (w.heap.size + 1) 3 B m cB ((calT C C.length ++ agT A st.ds k) ++ a.fr :: (a.ps.take j).map (·.2)) ∧ w.grownBy wr none ∧ Blk wr w.heap.size 3 #[.int .i64 t] ∧ Blk wr ab 43 #[.string a.key, .slice a.sA a.sn a.sc, .int .i64 a.fr, .int .i64 a.til, .slice a.pA a.pn a.pc, .int .i64 a.wrap]) (fun _ _ t52 _ => a.pn - (intOf t52).toNat)
          case atStart => exact ⟨0, A8, m + 1, c8, rfl, rfl, Nat.zero_le _, by omega, by simpa using HO8.out, HG8.out, HK8.out, HB8.out⟩
          case round =>
            clear HO8 HG8 HK8 HB8 HAO
            obtain ⟨j, B, m, cB, rfl, rfl, hj, hmj, hown, hg, hkb, hbb⟩ := hrel
            have HO := Lib.hid hown; have HG := Lib.hid hg; have HK := Lib.hid hkb; have HB := Lib.hid hbb
            have HAO := Lib.hid ((H.out.kept HG.out).agsW.2 a (mem_of_get HA.out))
            clear hown hg hkb hbb
            by_cases hltj : j < a.pn
            · obtain ⟨pg, po, p, hpA, _, hpg, hp, hpc⟩ := HAO.out.2.2.get pwRow_len hltj
              have hltj2 : (j : Int) < (a.pn : Int) := by omega
              obtain rfl : PA = some ⟨pg, po, none⟩ := HPQ.out.symm.trans hpA
              have HPC := Lib.hid hpc; have HP := Lib.hid hp
              obtain ⟨wa, hwa⟩ : ∃ wa, wr.alloc (.cells #[.int .i64 p.1, .int .i64 p.2] 33) = wa := ⟨_, rfl⟩
              have HPB := Lib.hid (show Blk wa wr.heap.size 33 #[.int .i64 p.1, .int .i64 p.2] by rw [← hwa]; exact Blk.new _ _ _)
              have HGa := Lib.hid (show wr.grownBy wa none by rw [← hwa]; exact gr_alloc (gr_refl _ _) _)
              have HWA := Lib.hid hwa
              clear hwa hp hpc hpA
              go_upto_region 14 with (first
                | (refine wpl_load_at Tryz.winT rfl _ rfl _ rfl [.int .i64 p.1, .int .i64 p.2] rfl (fun j u hu => by rw [add_mk]; exact HPC.out j u hu) ?_)
                | fail)
              rw [HWA.out]
              have k1 := HPB.out.cell 1
              replace HO := Lib.hid (HO.out.kept HGa.out (fun g e => by cases e))
              replace HG := Lib.hid (gr_none HG.out HGa.out)
              replace HK := Lib.hid (HK.out.grown HGa.out (by simp))
              replace HB := Lib.hid (HB.out.grown HGa.out (by simp))
              clear HWA HPC HGa
              go_wp2_with (first
                | (at_builtin
                   refine wpl_app _ rfl _ _ Tryz.inT rfl (w.heap.size + 1) B m cB _ rfl (by exact HO.out.1.alloc _) _ _ 1 1 [.int .i64 (p.2)] rfl (by exact Reads.one _ _ _ _ rfl) (by simp [Value.oneCell']) (by unfold maxLen; omega) (by omega) (by have := HG.out.size; simp; omega) ?_
                   intro A8 c8 w8 h8
                   have H8 := Lib.hid h8; clear h8)
                | fail)
              have HB8 := Lib.hid (show Blk w8 ab 43 #[.string a.key, .slice a.sA a.sn a.sc, .int .i64 a.fr, .int .i64 a.til, .slice a.pA a.pn a.pc, .int .i64 a.wrap] from (HB.out.alloc _).grown H8.out.2.1 (Ne.symm (HO.out.1.blk_ne HB.out (by decide))))
              have HO8 := Lib.hid (show OwnR nrow 1 w8 (w.heap.size + 1) 3 A8 (m + 1) c8 (((calT C C.length ++ agT A st.ds k) ++ a.fr :: (a.ps.take j).map (·.2)) ++ [p.2]) from ⟨by rw [List.flatMap_append]; exact H8.out.1, by rw [List.length_append, HO.out.2]; rfl⟩)
              have HG8 := Lib.hid (show w.grownBy w8 none from gr_own (lo := w.heap.size + 1) (gr_alloc HG.out _) (HO.out.1.alloc _) (by omega) H8.out.2.1)
              have HK8 := Lib.hid (show Blk w8 w.heap.size 3 #[.int .i64 t] from (HK.out.alloc _).grown H8.out.2.1 (fun e => by have := (HO.out.1.lt e.symm).1; omega))
              clear H8
              go_roundw
              case rel => exact ⟨j + 1, A8, m + 1, c8, rfl, by go_num, by omega, by omega, by rw [take_snoc' HP.out]; simpa using HO8.out, HG8.out, HK8.out, HB8.out⟩
              case measure => simp [intOf]; omega
            · obtain rfl : j = a.pn := by omega
              have hE1 : (calT C C.length ++ agT A st.ds k) ++ a.fr :: (a.ps.take a.pn).map (·.2) = calT C C.length ++ agT A st.ds k ++ a.fr :: a.ps.map (·.2) := by rw [List.take_of_length_le (by rw [HAO.out.2.2.2]; exact Nat.le_refl _)]
              rw [hE1] at HO
              clear hE1 hltj
              obtain ⟨dg, d, hdA, hd, hd0, hd1⟩ := (H.out.kept HG.out).at_.desk hlt
              dsimp only at hdA
              have k5 := (H.out.kept HG.out).at_.blk.cell 5
              dsimp only at k5
              rw [hdA] at k5
              have HDC := Lib.hid (show ∀ j u, (dkRow d)[j]? = some u → wr.cell? ⟨dg, 0 + k * 2 + j, none⟩ = some u from by
                have hr := (H.out.kept HG.out).at_.2.1.recs
                dsimp only at hr
                rw [hdA] at hr
                exact hr.at_ dkRow_len hd)
              obtain ⟨b1, b2, b3, b4⟩ := H.out.ok.dv d (mem_of_get hd)
              have HD := Lib.hid (show dAt st.ds k = d from dAt_some hd)
              obtain ⟨wa, hwa⟩ : ∃ wa, wr.alloc (.cells #[.int .i64 d.1, .int .i64 d.2] 251) = wa := ⟨_, rfl⟩
              have HDB := Lib.hid (show Blk wa wr.heap.size 251 #[.int .i64 d.1, .int .i64 d.2] by rw [← hwa]; exact Blk.new _ _ _)
              have HGa := Lib.hid (show wr.grownBy wa none by rw [← hwa]; exact gr_alloc (gr_refl _ _) _)
              have HWA := Lib.hid hwa
              clear hwa hd hdA hd0 hd1
              go_upto_region 17 with (first
                | (refine wpl_load_at Tryz.dkT rfl _ rfl _ rfl [.int .i64 d.1, .int .i64 d.2] rfl (fun j u hu => by rw [add_mk]; exact (by simpa using HDC.out j u hu)) ?_)
                | fail)
              rw [HWA.out]
              replace HO := Lib.hid (HO.out.kept HGa.out (fun g e => by cases e))
              replace HG := Lib.hid (gr_none HG.out HGa.out)
              replace HK := Lib.hid (HK.out.grown HGa.out (by simp))
              replace HB := Lib.hid (HB.out.grown HGa.out (by simp))
              clear k5 HWA HDC HGa
              have k0 := HDB.out.cell 0
              have k1 := HDB.out.cell 1
              have kw := HB.out.cell 5
              by_cases hz : 0 < d.1
              · have hzb : decide (0 < d.1) = true := decide_eq_true hz
                have q1 : IntKind.i64.wrap (d.2 + a.wrap) = d.2 + a.wrap := IntWalk.i64_in _ (by omega)
                have HE := Lib.hid (show (calT C C.length ++ agT A st.ds k ++ a.fr :: a.ps.map (·.2)) ++ [d.2, d.2 + a.wrap] = calT C C.length ++ agT A st.ds (k + 1) by
                  rw [agT_succ HA.out, HD.out]
                  unfold agT1
                  rw [if_pos hz]
                  simp)
                clear hz
                go_wp2_with (first
                  | (at_builtin
                     refine wpl_app _ rfl _ _ Tryz.inT rfl (w.heap.size + 1) B m cB _ rfl (by exact HO.out.1.alloc _) _ _ 2 2 [.int .i64 (d.2), .int .i64 (d.2 + a.wrap)] rfl (by exact reads_lit _ _ _ _ rfl (by simp)) (by simp [Value.oneCell']) (by unfold maxLen; omega) (by omega) (by have := HG.out.size; simp; omega) ?_
                     intro A8 c8 w8 h8
                     have H8 := Lib.hid h8; clear h8)
                  | fail)
                have HO8 := Lib.hid (show OwnR nrow 1 w8 (w.heap.size + 1) 3 A8 (m + 2) c8 ((calT C C.length ++ agT A st.ds k ++ a.fr :: a.ps.map (·.2)) ++ [d.2, d.2 + a.wrap]) from ⟨by rw [List.flatMap_append]; exact H8.out.1, by rw [List.length_append, HO.out.2]; rfl⟩)
                have HG8 := Lib.hid (show w.grownBy w8 none from gr_own (lo := w.heap.size + 1) (gr_alloc HG.out _) (HO.out.1.alloc _) (by omega) H8.out.2.1)
                have HK8 := Lib.hid (show Blk w8 w.heap.size 3 #[.int .i64 t] from (HK.out.alloc _).grown H8.out.2.1 (fun e => by have := (HO.out.1.lt e.symm).1; omega))
                clear H8
                go_roundw
                case rel => exact ⟨k + 1, A8, m + 2, c8, rfl, by go_num, by omega, by omega, by rw [← HE.out]; exact HO8.out, HG8.out, HK8.out⟩
                case measure => simp [intOf]; omega
              · have hzb : decide (0 < d.1) = false := decide_eq_false hz
                have HE := Lib.hid (show (calT C C.length ++ agT A st.ds k ++ a.fr :: a.ps.map (·.2)) = calT C C.length ++ agT A st.ds (k + 1) by
                  rw [agT_succ HA.out, HD.out]
                  unfold agT1
                  rw [if_neg hz]
                  simp)
                clear hz k0 k1 kw
                have k0 := HDB.out.cell 0
                go_wp2_with fail
                go_roundw
                case rel => exact ⟨k + 1, B, m, cB, rfl, by go_num, by omega, by omega, by rw [← HE.out]; exact HO.out, HG.out, HK.out⟩
                case measure => simp [intOf]; omega
        · obtain rfl : k = A.length := by omega
          have HO0 := Lib.hid (show OwnR nrow 1 wr (w.heap.size + 1) 3 B m cB (timesR A C st.ds) from HO.out)
          go_wp2_with fail
          refine (delF_any (w.heap.size + 1) B m cB (timesR A C st.ds) t w.heap.size _ HO0.out (by omega) HK.out (fun e => by have := (HO0.out.1.lt e).1; omega)).mono ?_
          rintro e w2 ⟨m2, rfl, ho2, hg2⟩
          have HO2 := Lib.hid ho2
          have HG2 := Lib.hid (show w.grownBy w2 none from gr_own (lo := w.heap.size + 1) HG.out HO0.out.1 (by omega) hg2)
          have hm2 : m2 ≤ m := by rw [← ho2.2, ← HO0.out.2]; exact List.length_filter_le _ _
          clear ho2 hg2
          go_wp2_with fail
          refine (sortI_any (w.heap.size + 1) B m2 cB _ _ HO2.out (by omega)).mono ?_
          rintro e w3 ⟨rfl, ho3, hg3⟩
          have HO3 := Lib.hid ho3
          have HG3 := Lib.hid (show w.grownBy w3 none from gr_own (lo := w.heap.size + 1) HG2.out HO2.out.1 (by omega) hg3)
          clear ho3 hg3
          go_wp2_with fail
          go_ret
          exact ⟨B, m2, cB, rfl, HO3.out.lower (by omega), HG3.out, by omega⟩
end Go.Proofs.YtnmodobkennklaaGreatDoor

/- Contracts of the room's line and choose. Conditions: none. -/
import Derived.Test.YtnmodobkennklaaGreatDoorRo2
import Derived.Test.YtnmodobkennklaaGreatDoorRo3
import Derived.Test.YtnmodobkennklaaGreatDoorShelfTrim
import Derived.Deep.CutBlock
namespace Go.Proofs.YtnmodobkennklaaGreatDoor
open Go.RowKit

theorem cmpI_lt (a b : Int) : decide (Lib.compareInt a b < 0) = decide (a < b) := by
  unfold Lib.compareInt
  by_cases h : a < b
  · simp [h]
  · by_cases h2 : b < a
    · simp [h, h2]
    · simp [h, h2]
theorem cmpI_zero {a b : Int} (h : Lib.compareInt a b = 0) : a = b := by
  unfold Lib.compareInt at h
  by_cases h1 : a < b
  · simp [h1] at h
  · by_cases h2 : b < a
    · simp [h1, h2] at h
    · omega
set_option maxHeartbeats 2000000 in
/-- slices.Compare at two lists of one number each. -/
theorem cmp1_any (x y : Int) (lo1 lo2 : Nat) (A1 A2 : Option Addr) (c1 c2 : Nat) (w : World) (h1 : Recs nrow 1 w lo1 A1 1 c1 [x]) (h2 : Recs nrow 1 w lo2 A2 1 c2 [y]) :
    Calls Tryz.prog 196 #[.slice A1 1 c1, .slice A2 1 c2] w (fun e w' => ∃ z : Int, e = .returned (.int .i64 z) ∧ decide (z < 0) = decide (x < y) ∧ w' = w) := by
  obtain ⟨g1, o1, _, rfl, _, _, e1, hc1⟩ := h1.get nrow_len (i := 0) (by omega)
  obtain ⟨g2, o2, _, rfl, _, _, e2, hc2⟩ := h2.get nrow_len (i := 0) (by omega)
  injection e1 with e1; subst e1
  injection e2 with e2; subst e2
  have k1 := hc1 0 _ rfl
  have k2 := hc2 0 _ rfl
  simp only [Nat.zero_mul, Nat.add_zero] at k1 k2
  obtain ⟨Z, hZ⟩ : ∃ Z, Lib.compareInt x y = Z := ⟨_, rfl⟩
  have HZ := Lib.hid hZ
  have HZ1 := Lib.hid (show decide (Z < 0) = decide (x < y) by rw [← hZ]; exact cmpI_lt x y)
  clear h1 h2 hc1 hc2 hZ
  go_enter Tryz.func196, Tryz.ntmps196
  go_wp2_with fail
  go_loop [5, 6, 7, 8, 11] (fun _ _ _ _ t => ∃ i : Nat, i ≤ 1 ∧ t = .int .i64 i ∧ (1 ≤ i → x = y)) (fun _ _ _ _ t => 1 - (intOf t).toNat)
  case atStart => exact ⟨0, by omega, rfl, by omega⟩
  case round =>
    obtain ⟨i, hi, rfl, he⟩ := hrel
    have HE := Lib.hid he; clear he
    rcases (by omega : i = 0 ∨ i = 1) with rfl | rfl
    · by_cases hz : Z = 0
      · have q : (Z != 0) = false := by simp [hz]
        have HEQ := Lib.hid (cmpI_zero (HZ.out.trans hz))
        clear hz
        go_wp2_with (first
          | (go_at_call 228; refine (Tryz.cmp_Compare_int x y _).mono ?_; rintro e w' ⟨rfl, rfl⟩; rw [HZ.out])
          | fail)
        go_round
        case rel => exact ⟨1, by omega, by go_num, fun _ => HEQ.out⟩
        case measure => simp [intOf]
      · have q : (Z != 0) = true := by simpa using hz
        clear hz
        go_wp2_with (first
          | (go_at_call 228; refine (Tryz.cmp_Compare_int x y _).mono ?_; rintro e w' ⟨rfl, rfl⟩; rw [HZ.out])
          | fail)
        go_ret
        exact ⟨Z, rfl, HZ1.out, rfl⟩
    · have HX := Lib.hid (HE.out (Nat.le_refl _))
      go_wp2_with fail
      go_ret
      exact ⟨0, rfl, by rw [HX.out]; simp, rfl⟩
set_option maxHeartbeats 8000000 in
set_option maxRecDepth 100000 in
theorem line_any (wb : World) (R : RoC) (s : StyV) (A : List AgV) (C : List CaV) (st : RoS) (t : Int) (w : World) (h : Rm wb w R s A C st) (t0 : -1 ≤ t) (t1 : t ≤ 400000000000) :
    Calls Tryz.prog 156 #[.pointer (some ⟨R.g, 0, none⟩), .int .i64 t] w (fun e w' => ∃ B m c, e = .returned (.slice B m c) ∧ OwnR irow 1 w' w.heap.size 3 B m c (lineR s C st.dn t) ∧ w.grownBy w' none) := by
  obtain ⟨rg, aA, ac, cA, cc, dA, dc, sA, sc, bA, bc, nA, nc⟩ := R
  have H := Lib.hid h
  have hn := h.n
  obtain ⟨w0, hw0⟩ : ∃ w0, w.alloc (.cells #[.pointer (some ⟨rg, 0, none⟩)] 209) = w0 := ⟨_, rfl⟩
  obtain ⟨w1, hw1⟩ : ∃ w1, w0.alloc (.cells #[.int .i64 t] 3) = w1 := ⟨_, rfl⟩
  have hz0 : w0.heap.size = w.heap.size + 1 := by rw [← hw0]; simp
  have HR1 := Lib.hid (show Blk w1 w.heap.size 209 #[.pointer (some ⟨rg, 0, none⟩)] by rw [← hw1, ← hw0]; exact (Blk.new _ _ _).alloc _)
  have HT1 := Lib.hid (show Blk w1 (w.heap.size + 1) 3 #[.int .i64 t] by rw [← hw1, ← hz0]; exact Blk.new _ _ _)
  have HG1 := Lib.hid (show w.grownBy w1 none by rw [← hw1, ← hw0]; exact gr_alloc (gr_alloc (gr_refl _ _) _) _)
  have HW0 := Lib.hid hw0; have HW1 := Lib.hid hw1; have HZ0 := Lib.hid hz0
  have hz1 : w1.heap.size = w.heap.size + 2 := by rw [← hw1]; simp [hz0]
  clear h hw0 hw1 hz0
  go_enter Tryz.func156, Tryz.ntmps156
  go_upto_region 1 with (fail)
  rw [HW0.out, HW1.out]
  (try rw [HZ0.out])
  have kr := HR1.out.cell 0
  have k4 := (H.out.kept HG1.out).at_.blk.cell 4
  dsimp only at k4
  go_upto_region 3 with (fail)
  clear k4 kr
  go_loopw [5, 6, 7, 13] (fun v _ _ t13 wr => ∃ (k : Nat) (B : Option Addr) (m cB : Nat), v = .slice B m cB ∧ t13 = .int .i64 k ∧ k ≤ C.length ∧ m ≤ k ∧ OwnR irow 1 wr (w.heap.size + 2) 3 B m cB (lineRaw C st.dn t k) ∧ w.grownBy wr none ∧ Blk wr w.heap.size 209 #[.pointer (some ⟨rg, 0, none⟩)] ∧ Blk wr (w.heap.size + 1) 3 #[.int .i64 t]) (fun _ _ _ t13 _ => C.length - (intOf t13).toNat)
  case atStart => exact ⟨0, none, 0, 0, rfl, rfl, Nat.zero_le _, Nat.zero_le _, OwnR.nil _ _ _, HG1.out, HR1.out, HT1.out⟩
  case round =>
    clear HG1 HR1 HT1
    obtain ⟨k, B, m, cB, rfl, rfl, hk, hmk, hown, hg, hrb, htb⟩ := hrel
    have HO := Lib.hid hown; have HG := Lib.hid hg; have HR := Lib.hid hrb; have HT := Lib.hid htb
    have zr := hg.size
    clear hown hg hrb htb
    by_cases hlt : k < C.length
    · obtain ⟨c, hc⟩ : ∃ c, C[k]? = some c := ⟨_, List.getElem?_eq_getElem hlt⟩
      obtain ⟨cg, co, hcA, hrec⟩ := (H.out.kept HG.out).caller hc
      dsimp only at hcA
      subst hcA
      have HCC := Lib.hid (hrec.at_ CaV.row_len hc)
      have HC := Lib.hid hc
      have hlt2 : (k : Int) < (C.length : Int) := by omega
      obtain ⟨ng, b, hnA, hdn, hnc⟩ := (H.out.kept HG.out).at_.done hlt
      dsimp only at hnA
      have HDN := Lib.hid (show bAt st.dn k = b from bAt_some hdn)
      obtain ⟨wa, hwa⟩ : ∃ wa, wr.alloc (.cells #[.string c.id, .string c.skill, .int .i64 c.at_, .int .i64 c.least, .int .i64 c.prio, .int .i64 c.pat, .int .i64 c.talk, .bool c.back] 49) = wa := ⟨_, rfl⟩
      have HB := Lib.hid (show Blk wa wr.heap.size 49 #[.string c.id, .string c.skill, .int .i64 c.at_, .int .i64 c.least, .int .i64 c.prio, .int .i64 c.pat, .int .i64 c.talk, .bool c.back] by rw [← hwa]; exact Blk.new _ _ _)
      have HGa := Lib.hid (show wr.grownBy wa none by rw [← hwa]; exact gr_alloc (gr_refl _ _) _)
      have HWA := Lib.hid hwa
      have HNC := Lib.hid hnc; have HNA := Lib.hid hnA
      clear hwa hc hrec hdn hnc hnA
      go_upto_region 5 with (first
        | (refine wpl_load_at Tryz.caT rfl _ rfl _ rfl [.string c.id, .string c.skill, .int .i64 c.at_, .int .i64 c.least, .int .i64 c.prio, .int .i64 c.pat, .int .i64 c.talk, .bool c.back] rfl (fun j u hu => by rw [add_mk]; exact HCC.out j u hu) ?_)
        | fail)
      rw [HWA.out]
      replace HO := Lib.hid (HO.out.kept HGa.out (fun g e => by cases e))
      replace HG := Lib.hid (gr_none HG.out HGa.out)
      replace HR := Lib.hid (HR.out.grown HGa.out (by simp))
      replace HT := Lib.hid (HT.out.grown HGa.out (by simp))
      have k2 := HB.out.cell 2
      have kt := HT.out.cell 0
      clear HWA HCC
      by_cases hat : c.at_ ≤ t
      · have hd : decide (c.at_ ≤ t) = true := decide_eq_true hat
        have kr := HR.out.cell 0
        have k8 := (H.out.kept HG.out).at_.blk.cell 8
        dsimp only at k8
        rw [HNA.out] at k8
        have kn := HNC.out
        rw [← World.cell?_of_block (w' := wa) (w := wr) (HGa.out.block ng (by
          have hq := (H.out.kept HG.out).at_
          have hx := HNC.out
          unfold World.cell? at hx
          rcases Nat.lt_or_ge ng wr.heap.size with hlt | hge
          · exact hlt
          · simp [Array.getElem?_eq_none hge] at hx) (by simp))] at kn
        cases b
        · have HE := Lib.hid (show lineRaw C st.dn t (k + 1) = lineRaw C st.dn t k ++ [k] by rw [lineRaw_succ HC.out, HDN.out, hd]; rfl)
          clear hat
          go_wp2_with (first
            | (at_builtin
               refine wpl_app _ rfl _ _ Tryz.inT rfl (w.heap.size + 2) B m cB _ rfl (by exact HO.out.1.alloc _) _ _ 1 1 [.int .i64 (k : Int)] rfl (by exact Reads.one _ _ _ _ rfl) (by simp [Value.oneCell']) (by unfold maxLen; omega) (by omega) (by have := HT.out.lt; simp; omega) ?_
               intro A8 c8 w8 h8
               have H8 := Lib.hid h8; clear h8)
            | fail)
          have HO8 := Lib.hid (show OwnR irow 1 w8 (w.heap.size + 2) 3 A8 (m + 1) c8 (lineRaw C st.dn t k ++ [k]) from HO.out.alloc _ |>.app rfl H8.out)
          have HG8 := Lib.hid (show w.grownBy w8 none from gr_own (lo := w.heap.size + 2) (gr_alloc HG.out _) (HO.out.1.alloc _) (by omega) H8.out.2.1)
          have HT8 := Lib.hid (show Blk w8 (w.heap.size + 1) 3 #[.int .i64 t] from (HT.out.alloc _).grown H8.out.2.1 (fun e => by have := (HO.out.1.lt e.symm).1; omega))
          have HR8 := Lib.hid (show Blk w8 w.heap.size 209 #[.pointer (some ⟨rg, 0, none⟩)] from (HR.out.alloc _).grown H8.out.2.1 (fun e => by have := (HO.out.1.lt e.symm).1; omega))
          clear H8
          go_roundw
          case rel => exact ⟨k + 1, A8, m + 1, c8, rfl, by go_num, by omega, by omega, by rw [HE.out]; exact HO8.out, HG8.out, HR8.out, HT8.out⟩
          case measure => simp [intOf]; omega
        · have HE := Lib.hid (show lineRaw C st.dn t (k + 1) = lineRaw C st.dn t k by rw [lineRaw_succ HC.out, HDN.out, hd]; simp)
          clear hat
          go_wp2_with fail
          go_roundw
          case rel => exact ⟨k + 1, B, m, cB, rfl, by go_num, by omega, by omega, by rw [HE.out]; exact HO.out, HG.out, HR.out, HT.out⟩
          case measure => simp [intOf]; omega
      · have hd : decide (c.at_ ≤ t) = false := decide_eq_false hat
        have HE := Lib.hid (show lineRaw C st.dn t (k + 1) = lineRaw C st.dn t k by rw [lineRaw_succ HC.out, hd]; simp)
        clear hat
        go_wp2_with fail
        go_roundw
        case rel => exact ⟨k + 1, B, m, cB, rfl, by go_num, by omega, by omega, by rw [HE.out]; exact HO.out, HG.out, HR.out, HT.out⟩
        case measure => simp [intOf]; omega
    · obtain rfl : k = C.length := by omega
      clear hlt
      have hRm := H.out.kept HG.out
      have hcmp : ∀ (w1 : World) (x y : Nat), wr.grownBy w1 (blkOf B) → x ∈ lineRaw C st.dn t C.length → y ∈ lineRaw C st.dn t C.length → ∃ z : Int, decide (z < 0) = (fun a b => decide (rankAt s C t b < rankAt s C t a)) x y ∧ Calls Tryz.prog 190 #[.int .i64 x, .int .i64 y, .pointer (some ⟨w.heap.size, 0, none⟩), .pointer (some ⟨w.heap.size + 1, 0, none⟩)] w1 (RetV (.int .i64 z) w1) := by
        intro w1 x y hgx hx hy
        have hg1 : w.grownBy w1 none := gr_own (lo := w.heap.size + 2) HG.out HO.out.1 (by omega) hgx
        refine ⟨_, ?_, lineLt_any wb ⟨rg, aA, ac, cA, cc, dA, dc, sA, sc, bA, bc, nA, nc⟩ s A C st x y t w.heap.size (w.heap.size + 1) w1 (H.out.kept hg1) (lineRaw_mem hx).1 (lineRaw_mem hy).1 t0 t1
          (HR.out.grown hgx (fun e => by have := (HO.out.1.lt e.symm).1; omega)) (HT.out.grown hgx (fun e => by have := (HO.out.1.lt e.symm).1; omega))⟩
        rw [sgn3_lt]
        apply decide_eq_decide.2
        omega
      have HCMP := Lib.hid hcmp
      clear hcmp hRm
      go_wp2_with fail
      refine (lineSort_any (fun a b => decide (rankAt s C t b < rankAt s C t a)) (w.heap.size + 2) B m cB _ (.pointer (some ⟨w.heap.size, 0, none⟩)) (.pointer (some ⟨w.heap.size + 1, 0, none⟩)) _ HO.out (by omega) HCMP.out).mono ?_
      rintro e w3 ⟨rfl, ho3, hg3⟩
      have HO3 := Lib.hid ho3
      have HG3 := Lib.hid (show w.grownBy w3 none from gr_own (lo := w.heap.size + 2) HG.out HO.out.1 (by omega) hg3)
      clear ho3 hg3
      go_wp2_with fail
      go_ret
      exact ⟨B, m, cB, rfl, HO3.out.lower (by omega), HG3.out⟩
set_option maxHeartbeats 16000000 in
set_option maxRecDepth 100000 in
theorem choose_any (wb : World) (R : RoC) (s : StyV) (A : List AgV) (C : List CaV) (st : RoS) (i : Nat) (c : CaV) (t : Int) (w : World) (h : Rm wb w R s A C st) (hc : C[i]? = some c) (k1 : 1 ≤ s.kind) (k4 : s.kind ≤ 4) :
    Calls Tryz.prog 157 #[.pointer (some ⟨R.g, 0, none⟩), .int .i64 i, .int .i64 t] w (RetV (.int .i64 (chosenR s A st c t)) w) := by
  obtain ⟨rg, aA, ac, cA, cc, dA, dc, sA, sc, bA, bc, nA, nc⟩ := R
  have hm := h.m
  have hil : i < C.length := (List.getElem?_eq_some_iff.1 hc).1
  have hil2 : (i : Int) < (C.length : Int) := by omega
  obtain ⟨cg, co, hcA, hrecC⟩ := h.caller hc
  dsimp only at hcA
  subst hcA
  have HRC := Lib.hid hrecC
  have HC := Lib.hid hc
  have H := Lib.hid h
  have HK1 := Lib.hid k1; have HK4 := Lib.hid k4
  clear h hc hrecC k1 k4
  go_enter Tryz.func157, Tryz.ntmps157
  have k3 := H.out.at_.blk.cell 3
  dsimp only at k3
  go_upto_region 4 with (fail)
  clear k3
  go_loopw [7, 8, 9, 10, 11, 12, 18] (fun v7 v8 _ _ _ _ t18 wr => ∃ (k : Nat) (b mo : Int) (B : Option Addr) (nB cB : Nat) (L : List Int), chooseR s A st.ds st.last c t k = (b, mo) ∧ t18 = .int .i64 k ∧ k ≤ A.length ∧ v7 = .int .i64 b ∧ v8 = .slice B nB cB ∧ Recs nrow 1 wr 0 B nB cB L ∧ (b = -1 ∨ (0 ≤ b ∧ L = [mo])) ∧ w.grownBy wr none) (fun _ _ _ _ _ _ t18 _ => A.length - (intOf t18).toNat)
  case atStart => exact ⟨0, -1, 0, none, 0, 0, [], rfl, rfl, Nat.zero_le _, rfl, rfl, Recs.nil, .inl rfl, gr_refl _ _⟩
  case round =>
    obtain ⟨k, b, mo, B, nB, cB, L, hch, rfl, hk, rfl, rfl, hrl, hbl, hg⟩ := hrel
    have HCH := Lib.hid hch; have HRL := Lib.hid hrl; have HBL := Lib.hid hbl; have HG := Lib.hid hg
    have zr := hg.size
    clear hch hrl hbl hg
    by_cases hlt : k < A.length
    · obtain ⟨a, ha⟩ : ∃ a, A[k]? = some a := ⟨_, List.getElem?_eq_getElem hlt⟩
      obtain ⟨ag, ao, haA, hrec, hao⟩ := (H.out.kept HG.out).agent ha
      dsimp only at haA
      subst haA
      have HAC := Lib.hid (hrec.at_ AgV.row_len ha)
      have HA := Lib.hid ha; have HAO := Lib.hid hao
      have hlt2 : (k : Int) < (A.length : Int) := by omega
      obtain ⟨wo, hwo⟩ : ∃ wo, wr.alloc (.cells #[.string a.key, .slice a.sA a.sn a.sc, .int .i64 a.fr, .int .i64 a.til, .slice a.pA a.pn a.pc, .int .i64 a.wrap] 43) = wo := ⟨_, rfl⟩
      obtain ⟨ab, hab⟩ : ∃ ab, wr.heap.size = ab := ⟨_, rfl⟩
      have HB := Lib.hid (show Blk wo ab 43 #[.string a.key, .slice a.sA a.sn a.sc, .int .i64 a.fr, .int .i64 a.til, .slice a.pA a.pn a.pc, .int .i64 a.wrap] by rw [← hwo, ← hab]; exact Blk.new _ _ _)
      have HGa := Lib.hid (show wr.grownBy wo none by rw [← hwo]; exact gr_alloc (gr_refl _ _) _)
      have HWA := Lib.hid hwo
      clear hwo ha hrec hao
      go_upto_region 6 with (first
        | (refine wpl_load_at Tryz.agT rfl _ rfl _ rfl [.string a.key, .slice a.sA a.sn a.sc, .int .i64 a.fr, .int .i64 a.til, .slice a.pA a.pn a.pc, .int .i64 a.wrap] rfl (fun j u hu => by rw [add_mk]; exact HAC.out j u hu) ?_)
        | fail)
      rw [HWA.out]
      (try rw [hab])
      replace HG := Lib.hid (gr_none HG.out HGa.out)
      replace HRL := Lib.hid (HRL.out.grown HGa.out (fun g e => by cases e))
      replace HAO := Lib.hid (HAO.out.grown HGa.out (fun g e => by cases e))
      clear HWA HAC HGa hab
      obtain ⟨E1, hE1⟩ : ∃ E, ableB a c = E := ⟨_, rfl⟩
      have HE1 := Lib.hid hE1
      have HS := Lib.hid (chooseR_succ (s := s) (ds := st.ds) (last := st.last) (c := c) (t := t) HA.out)
      clear hE1
      refine H_begin (fun w' => wo.grownBy w' none) (by kernel_rfl) ?_
      have hHeld : wo.grownBy wo.drew none := gr_drew (gr_refl _ _)
      refine H_take (k := 0) (v := .agg #[.string a.key, .slice a.sA a.sn a.sc, .int .i64 a.fr, .int .i64 a.til, .slice a.pA a.pn a.pc, .int .i64 a.wrap]) (by rfl) (by kernel_rfl) (by kernel_rfl) (by kernel_rfl) (by exact fun _ _ _ h => h) (by rfl) (fun w' hSw => exec_ldb Tryz.agT _ rfl _ rfl 43 [.string a.key, .slice a.sA a.sn a.sc, .int .i64 a.fr, .int .i64 a.til, .slice a.pA a.pn a.pc, .int .i64 a.wrap] (HB.out.grown hSw (by simp)) rfl) (by assumption) ?_
      (try simp only [Act.put, List.setIfInBounds_toArray, List.set_cons_zero, List.set_cons_succ])
      refine H_take (k := 1) (v := ?_) (by rfl) (by kernel_rfl) (by kernel_rfl) (by kernel_rfl) (by exact fun _ _ _ h => h) (by rfl) ?_ (by assumption) ?_
      rotate_left 1
      · intro w hSw
        (try dsimp only at hSw)
        go_simp
        (try with_reducible rfl)
      (try simp only [Act.put, List.setIfInBounds_toArray, List.set_cons_zero, List.set_cons_succ])
      refine H_take (k := 2) (v := ?_) (by rfl) (by kernel_rfl) (by kernel_rfl) (by kernel_rfl) (by exact fun _ _ _ h => h) (by rfl) ?_ (by assumption) ?_
      rotate_left 1
      · intro w hSw
        (try dsimp only at hSw)
        go_simp
        (try with_reducible rfl)
      (try simp only [Act.put, List.setIfInBounds_toArray, List.set_cons_zero, List.set_cons_succ])
      refine H_take (k := 3) (v := ?_) (by rfl) (by kernel_rfl) (by kernel_rfl) (by kernel_rfl) (by exact fun _ _ _ h => h) (by rfl) ?_ (by assumption) ?_
      rotate_left 1
      · intro w hSw
        (try dsimp only at hSw)
        go_simp
        (try with_reducible rfl)
      (try simp only [Act.put, List.setIfInBounds_toArray, List.set_cons_zero, List.set_cons_succ])
      refine H_take (k := 4) (v := ?_) (by rfl) (by kernel_rfl) (by kernel_rfl) (by kernel_rfl) (by exact fun _ _ _ h => h) (by rfl) ?_ (by assumption) ?_
      rotate_left 1
      · intro w' hSw
        have kc := (H.out.kept (gr_none HG.out hSw)).at_.blk.cell 4; dsimp only at kc
        go_simp
        (try with_reducible rfl)
      (try simp only [Act.put, List.setIfInBounds_toArray, List.set_cons_zero, List.set_cons_succ])
      refine H_take (k := 5) (v := ?_) (by rfl) (by kernel_rfl) (by kernel_rfl) (by kernel_rfl) (by exact fun _ _ _ h => h) (by rfl) ?_ (by assumption) ?_
      rotate_left 1
      · intro w hSw
        (try dsimp only at hSw)
        go_simp
        (try with_reducible rfl)
      (try simp only [Act.put, List.setIfInBounds_toArray, List.set_cons_zero, List.set_cons_succ])
      refine H_take (k := 6) (v := ?_) (by rfl) (by kernel_rfl) (by kernel_rfl) (by kernel_rfl) (by exact fun _ _ _ h => h) (by rfl) ?_ (by assumption) ?_
      rotate_left 1
      · intro w hSw
        (try dsimp only at hSw)
        go_simp
        (try with_reducible rfl)
      (try simp only [Act.put, List.setIfInBounds_toArray, List.set_cons_zero, List.set_cons_succ])
      refine H_take (k := 7) (v := .agg #[.string c.id, .string c.skill, .int .i64 c.at_, .int .i64 c.least, .int .i64 c.prio, .int .i64 c.pat, .int .i64 c.talk, .bool c.back]) (by rfl) (by kernel_rfl) (by kernel_rfl) (by kernel_rfl) (by exact fun _ _ _ h => h) (by rfl) (fun w' hSw => exec_ldr Tryz.caT _ rfl _ rfl [.string c.id, .string c.skill, .int .i64 c.at_, .int .i64 c.least, .int .i64 c.prio, .int .i64 c.pat, .int .i64 c.talk, .bool c.back] (fun j u hu => by rw [add_mk]; exact ((HRC.out.grown (gr_none HG.out hSw) (fun g e => by cases e)).at_ CaV.row_len HC.out) j u hu) rfl) (by assumption) ?_
      (try simp only [Act.put, List.setIfInBounds_toArray, List.set_cons_zero, List.set_cons_succ])
      refine H_run (k := 8) (by rfl) (by kernel_rfl) (by rfl) (fun K hK => ?_)
      go_simp
      refine (ableOf_any 0 a c _ (HAO.out.grown hHeld (fun g e => by cases e))).mono ?_
      rintro e w3 ⟨rfl, hg3⟩
      rw [HE1.out]
      have hg := gr_none hHeld hg3
      refine hK _ _ hg ?_
      clear hK K hHeld hg3
      have hHeld := hg
      clear hg
      (try simp only [Act.put, List.setIfInBounds_toArray, List.set_cons_zero, List.set_cons_succ])
      refine H_take (k := 9) (v := ?_) (by rfl) (by kernel_rfl) (by kernel_rfl) (by kernel_rfl) (by exact fun _ _ _ h => h) (by rfl) ?_ (by assumption) ?_
      rotate_left 1
      · intro w hSw
        (try dsimp only at hSw)
        go_simp
        (try with_reducible rfl)
      (try simp only [Act.put, List.setIfInBounds_toArray, List.set_cons_zero, List.set_cons_succ])
      refine H_take (k := 10) (v := ?_) (by rfl) (by kernel_rfl) (by kernel_rfl) (by kernel_rfl) (by exact fun _ _ _ h => h) (by rfl) ?_ (by assumption) ?_
      rotate_left 1
      · intro w hSw
        (try dsimp only at hSw)
        go_simp
        (try with_reducible rfl)
      (try simp only [Act.put, List.setIfInBounds_toArray, List.set_cons_zero, List.set_cons_succ])
      cases E1
      · have HNO := Lib.hid (show chooseR s A st.ds st.last c t (k + 1) = chooseR s A st.ds st.last c t k by rw [HS.out, HE1.out]; rfl)
        refine H_skip (k := 11) (by rfl) (by kernel_rfl) (by kernel_rfl) (by kernel_rfl) (by exact fun _ _ _ h => h) (by rfl) (by assumption) ?_
        (try simp only [Act.put, List.setIfInBounds_toArray, List.set_cons_zero, List.set_cons_succ])
        refine H_skip (k := 12) (by rfl) (by kernel_rfl) (by kernel_rfl) (by kernel_rfl) (by exact fun _ _ _ h => h) (by rfl) (by assumption) ?_
        (try simp only [Act.put, List.setIfInBounds_toArray, List.set_cons_zero, List.set_cons_succ])
        refine H_skip (k := 13) (by rfl) (by kernel_rfl) (by kernel_rfl) (by kernel_rfl) (by exact fun _ _ _ h => h) (by rfl) (by assumption) ?_
        (try simp only [Act.put, List.setIfInBounds_toArray, List.set_cons_zero, List.set_cons_succ])
        refine H_skip (k := 14) (by rfl) (by kernel_rfl) (by kernel_rfl) (by kernel_rfl) (by exact fun _ _ _ h => h) (by rfl) (by assumption) ?_
        (try simp only [Act.put, List.setIfInBounds_toArray, List.set_cons_zero, List.set_cons_succ])
        refine H_skip (k := 15) (by rfl) (by kernel_rfl) (by kernel_rfl) (by kernel_rfl) (by exact fun _ _ _ h => h) (by rfl) (by assumption) ?_
        (try simp only [Act.put, List.setIfInBounds_toArray, List.set_cons_zero, List.set_cons_succ])
        refine H_take (k := 16) (v := ?_) (by rfl) (by kernel_rfl) (by kernel_rfl) (by kernel_rfl) (by exact fun _ _ _ h => h) (by rfl) ?_ (by assumption) ?_
        rotate_left 1
        · intro w hSw
          (try dsimp only at hSw)
          go_simp
          (try with_reducible rfl)
        (try simp only [Act.put, List.setIfInBounds_toArray, List.set_cons_zero, List.set_cons_succ])
        refine H_done (by kernel_rfl) ?_
        replace HG := Lib.hid (gr_none HG.out hHeld)
        replace HRL := Lib.hid (HRL.out.grown hHeld (fun g e => by cases e))
        clear hHeld
        go_wp2_with fail
        go_roundw
        case rel => exact ⟨k + 1, b, mo, B, nB, cB, L, HNO.out.trans HCH.out, by go_num, by omega, rfl, rfl, HRL.out, HBL.out, HG.out⟩
        case measure => simp [intOf]; omega
      · obtain ⟨E2, hE2⟩ : ∃ E, freeB a (dAt st.ds k) t = E := ⟨_, rfl⟩
        have HE2 := Lib.hid hE2
        clear hE2
        refine H_take (k := 11) (v := ?_) (by rfl) (by kernel_rfl) (by kernel_rfl) (by kernel_rfl) (by exact fun _ _ _ h => h) (by rfl) ?_ (by assumption) ?_
        rotate_left 1
        · intro w hSw
          (try dsimp only at hSw)
          go_simp
          (try with_reducible rfl)
        (try simp only [Act.put, List.setIfInBounds_toArray, List.set_cons_zero, List.set_cons_succ])
        refine H_take (k := 12) (v := ?_) (by rfl) (by kernel_rfl) (by kernel_rfl) (by kernel_rfl) (by exact fun _ _ _ h => h) (by rfl) ?_ (by assumption) ?_
        rotate_left 1
        · intro w hSw
          (try dsimp only at hSw)
          go_simp
          (try with_reducible rfl)
        (try simp only [Act.put, List.setIfInBounds_toArray, List.set_cons_zero, List.set_cons_succ])
        refine H_take (k := 13) (v := ?_) (by rfl) (by kernel_rfl) (by kernel_rfl) (by kernel_rfl) (by exact fun _ _ _ h => h) (by rfl) ?_ (by assumption) ?_
        rotate_left 1
        · intro w hSw
          (try dsimp only at hSw)
          go_simp
          (try with_reducible rfl)
        (try simp only [Act.put, List.setIfInBounds_toArray, List.set_cons_zero, List.set_cons_succ])
        refine H_run (k := 14) (by rfl) (by kernel_rfl) (by rfl) (fun K hK => ?_)
        go_simp
        refine (free_any wb ⟨rg, _, ac, _, cc, dA, dc, sA, sc, bA, bc, nA, nc⟩ s A C st k a t _ (H.out.kept (gr_none HG.out hHeld)) HA.out).mono ?_
        rintro e w4 ⟨rfl, hg4⟩
        rw [HE2.out]
        have hg := gr_none hHeld hg4
        refine hK _ _ hg ?_
        clear hK K hHeld hg4
        have hHeld := hg
        clear hg
        (try simp only [Act.put, List.setIfInBounds_toArray, List.set_cons_zero, List.set_cons_succ])
        refine H_take (k := 15) (v := ?_) (by rfl) (by kernel_rfl) (by kernel_rfl) (by kernel_rfl) (by exact fun _ _ _ h => h) (by rfl) ?_ (by assumption) ?_
        rotate_left 1
        · intro w hSw
          (try dsimp only at hSw)
          go_simp
          (try with_reducible rfl)
        (try simp only [Act.put, List.setIfInBounds_toArray, List.set_cons_zero, List.set_cons_succ])
        refine H_take (k := 16) (v := ?_) (by rfl) (by kernel_rfl) (by kernel_rfl) (by kernel_rfl) (by exact fun _ _ _ h => h) (by rfl) ?_ (by assumption) ?_
        rotate_left 1
        · intro w hSw
          (try dsimp only at hSw)
          go_simp
          (try with_reducible rfl)
        (try simp only [Act.put, List.setIfInBounds_toArray, List.set_cons_zero, List.set_cons_succ])
        cases E2
        · have HNO := Lib.hid (show chooseR s A st.ds st.last c t (k + 1) = chooseR s A st.ds st.last c t k by rw [HS.out, HE1.out, HE2.out]; rfl)
          refine H_done (by kernel_rfl) ?_
          replace HG := Lib.hid (gr_none HG.out hHeld)
          replace HRL := Lib.hid (HRL.out.grown hHeld (fun g e => by cases e))
          clear hHeld
          go_wp2_with fail
          go_roundw
          case rel => exact ⟨k + 1, b, mo, B, nB, cB, L, HNO.out.trans HCH.out, by go_num, by omega, rfl, rfl, HRL.out, HBL.out, HG.out⟩
          case measure => simp [intOf]; omega
        · refine H_done (by kernel_rfl) ?_
          replace HG := Lib.hid (gr_none HG.out hHeld)
          replace HRL := Lib.hid (HRL.out.grown hHeld (fun g e => by cases e))
          replace HB := Lib.hid (HB.out.grown hHeld (by simp))
          have HAO4 := Lib.hid (HAO.out.grown hHeld (fun g e => by cases e))
          clear hHeld HAO
          have HY := Lib.hid (show chooseR s A st.ds st.last c t (k + 1) = if decide (b < 0) || decide (ptsR s.kind a (dAt st.ds k) st.last c.skill < mo) then ((k : Int), ptsR s.kind a (dAt st.ds k) st.last c.skill) else (b, mo) by rw [HS.out, HE1.out, HE2.out, HCH.out]; rfl)
          clear HS HE1 HE2 zr
          obtain ⟨dg, d, hdA, hd, hd0, hd1⟩ := (H.out.kept HG.out).at_.desk hlt
          dsimp only at hdA
          have k5 := (H.out.kept HG.out).at_.blk.cell 5
          dsimp only at k5
          rw [hdA] at k5
          have HDC := Lib.hid (show ∀ j u, (dkRow d)[j]? = some u → w4.cell? ⟨dg, 0 + k * 2 + j, none⟩ = some u from by
            have hr := (H.out.kept HG.out).at_.2.1.recs
            dsimp only at hr
            rw [hdA] at hr
            exact hr.at_ dkRow_len hd)
          rw [dAt_some hd] at HY
          obtain ⟨w5, hw5⟩ : ∃ w5, w4.alloc (.cells #[.int .i64 d.1, .int .i64 d.2] 251) = w5 := ⟨_, rfl⟩
          obtain ⟨db, hdb⟩ : ∃ db, w4.heap.size = db := ⟨_, rfl⟩
          have HDB := Lib.hid (show Blk w5 db 251 #[.int .i64 d.1, .int .i64 d.2] by rw [← hw5, ← hdb]; exact Blk.new _ _ _)
          have HG5 := Lib.hid (show w4.grownBy w5 none by rw [← hw5]; exact gr_alloc (gr_refl _ _) _)
          have HW5 := Lib.hid hw5
          have HDB5 := Lib.hid hdb
          clear hw5 hd hdA hd0 hd1 hdb
          go_upto_region 9 with (first
            | (refine wpl_load_at Tryz.dkT rfl _ rfl _ rfl [.int .i64 d.1, .int .i64 d.2] rfl (fun j u hu => by rw [add_mk]; exact (by simpa using HDC.out j u hu)) ?_)
            | fail)
          rw [HW5.out]
          (try rw [HDB5.out])
          replace HG := Lib.hid (gr_none HG.out HG5.out)
          replace HRL := Lib.hid (HRL.out.grown HG5.out (fun g e => by cases e))
          replace HB := Lib.hid (HB.out.grown HG5.out (by simp))
          replace HAO4 := Lib.hid (HAO4.out.grown HG5.out (fun g e => by cases e))
          clear k5 HW5 HDC HG5 HDB5
          have k0 := (H.out.kept HG.out).at_.blk.cell 0
          dsimp only at k0
          go_upto_block 2 with (fail)
          clear k0
          obtain ⟨PT, hPT⟩ : ∃ PT, ptsR s.kind a d st.last c.skill = PT := ⟨_, rfl⟩
          have HPT := Lib.hid hPT
          rw [hPT] at HY
          clear hPT
          obtain ⟨wv, rfl⟩ : ∃ wv : World, wv = w5 := ⟨_, rfl⟩
          go_cut [11] (fun v11 wx => ∃ pb : Nat, v11 = .slice (some ⟨pb, 0, none⟩) 1 1 ∧ wv.grownBy wx none ∧ Blk wx pb 3 #[.int .i64 PT])
          case first =>
            rcases (show s.kind = 1 ∨ s.kind = 2 ∨ s.kind = 3 ∨ s.kind = 4 by have := HK1.out; have := HK4.out; omega) with hk | hk | hk | hk
            · have e1 : (s.kind == 1) = true := by rw [hk]; rfl
              have HP2 := Lib.hid (show PT = if 0 < d.1 then d.2 else a.fr by rw [← HPT.out]; unfold ptsR; rw [if_pos hk])
              clear hk
              have k2 := HB.out.cell 2
              obtain ⟨w6, hw6⟩ : ∃ w6, wv.alloc (.cells #[.int .i64 a.fr] 3) = w6 := ⟨_, rfl⟩
              have HN6 := Lib.hid (show Blk w6 wv.heap.size 3 #[.int .i64 a.fr] by rw [← hw6]; exact Blk.new _ _ _)
              have HG6 := Lib.hid (show wv.grownBy w6 none by rw [← hw6]; exact gr_alloc (gr_refl _ _) _)
              have HW6 := Lib.hid hw6
              clear hw6
              go_upto_region 12 with (fail)
              rw [HW6.out]
              clear HW6 k2
              have c0 := (HDB.out.grown HG6.out (by simp)).cell 0
              have c1 := (HDB.out.grown HG6.out (by simp)).cell 1
              by_cases hz : 0 < d.1
              · have hzb : decide (0 < d.1) = true := decide_eq_true hz
                have HP3 := Lib.hid (show PT = d.2 by rw [HP2.out, if_pos hz])
                clear hz
                go_wp2_with fail
                go_meet
                exact ⟨_, rfl, gr_alloc HG6.out _, by rw [HP3.out]; exact Blk.new _ _ _⟩
              · have hzb : decide (0 < d.1) = false := decide_eq_false hz
                have HP3 := Lib.hid (show PT = a.fr by rw [HP2.out, if_neg hz])
                clear hz
                go_wp2_with fail
                go_meet
                exact ⟨_, rfl, HG6.out, by rw [HP3.out]; exact HN6.out⟩
            · have e1 : (s.kind == 1) = false := by rw [hk]; rfl
              have e2 : (s.kind == 2) = true := by rw [hk]; rfl
              have HP3 := Lib.hid (show PT = d.1 by rw [← HPT.out]; unfold ptsR; rw [hk]; rfl)
              clear hk
              have c0 := HDB.out.cell 0
              go_wp2_with fail
              go_meet
              exact ⟨_, rfl, gr_alloc (gr_refl _ _) _, by rw [HP3.out]; exact Blk.new _ _ _⟩
            · have e1 : (s.kind == 1) = false := by rw [hk]; rfl
              have e2 : (s.kind == 2) = false := by rw [hk]; rfl
              have e3 : (s.kind == 3) = true := by rw [hk]; rfl
              have HP3 := Lib.hid (show PT = -(lvl a.sk c.skill) by rw [← HPT.out]; unfold ptsR; rw [hk]; rfl)
              obtain ⟨LV, hLV⟩ : ∃ LV, lvl a.sk c.skill = LV := ⟨_, rfl⟩
              rw [hLV] at HP3
              have HLV := Lib.hid hLV
              obtain ⟨lv0, lv9⟩ := lvl_bd (H.out.an a (mem_of_get HA.out)).1.2.2.2.2.2.2 c.skill
              rw [hLV] at lv0 lv9
              have qn : IntKind.i64.wrap (-LV) = -LV := IntWalk.i64_in _ (by omega)
              clear hk hLV
              go_upto_region 17 with (fail)
              refine H_begin (fun w' => wv.grownBy w' none) (by kernel_rfl) ?_
              have hHeld : wv.grownBy wv.drew none := gr_drew (gr_refl _ _)
              refine H_take (k := 0) (v := .agg #[.string a.key, .slice a.sA a.sn a.sc, .int .i64 a.fr, .int .i64 a.til, .slice a.pA a.pn a.pc, .int .i64 a.wrap]) (by rfl) (by kernel_rfl) (by kernel_rfl) (by kernel_rfl) (by exact fun _ _ _ h => h) (by rfl) (fun w' hSw => exec_ldb Tryz.agT _ rfl _ rfl 43 [.string a.key, .slice a.sA a.sn a.sc, .int .i64 a.fr, .int .i64 a.til, .slice a.pA a.pn a.pc, .int .i64 a.wrap] (HB.out.grown hSw (by simp)) rfl) (by assumption) ?_
              (try simp only [Act.put, List.setIfInBounds_toArray, List.set_cons_zero, List.set_cons_succ])
              refine H_take (k := 1) (v := ?_) (by rfl) (by kernel_rfl) (by kernel_rfl) (by kernel_rfl) (by exact fun _ _ _ h => h) (by rfl) ?_ (by assumption) ?_
              rotate_left 1
              · intro w hSw
                (try dsimp only at hSw)
                go_simp
                (try with_reducible rfl)
              (try simp only [Act.put, List.setIfInBounds_toArray, List.set_cons_zero, List.set_cons_succ])
              refine H_take (k := 2) (v := ?_) (by rfl) (by kernel_rfl) (by kernel_rfl) (by kernel_rfl) (by exact fun _ _ _ h => h) (by rfl) ?_ (by assumption) ?_
              rotate_left 1
              · intro w hSw
                (try dsimp only at hSw)
                go_simp
                (try with_reducible rfl)
              (try simp only [Act.put, List.setIfInBounds_toArray, List.set_cons_zero, List.set_cons_succ])
              refine H_take (k := 3) (v := ?_) (by rfl) (by kernel_rfl) (by kernel_rfl) (by kernel_rfl) (by exact fun _ _ _ h => h) (by rfl) ?_ (by assumption) ?_
              rotate_left 1
              · intro w hSw
                (try dsimp only at hSw)
                go_simp
                (try with_reducible rfl)
              (try simp only [Act.put, List.setIfInBounds_toArray, List.set_cons_zero, List.set_cons_succ])
              refine H_take (k := 4) (v := ?_) (by rfl) (by kernel_rfl) (by kernel_rfl) (by kernel_rfl) (by exact fun _ _ _ h => h) (by rfl) ?_ (by assumption) ?_
              rotate_left 1
              · intro w' hSw
                have kc := (H.out.kept (gr_none HG.out hSw)).at_.blk.cell 4; dsimp only at kc
                go_simp
                (try with_reducible rfl)
              (try simp only [Act.put, List.setIfInBounds_toArray, List.set_cons_zero, List.set_cons_succ])
              refine H_take (k := 5) (v := ?_) (by rfl) (by kernel_rfl) (by kernel_rfl) (by kernel_rfl) (by exact fun _ _ _ h => h) (by rfl) ?_ (by assumption) ?_
              rotate_left 1
              · intro w hSw
                (try dsimp only at hSw)
                go_simp
                (try with_reducible rfl)
              (try simp only [Act.put, List.setIfInBounds_toArray, List.set_cons_zero, List.set_cons_succ])
              refine H_take (k := 6) (v := ?_) (by rfl) (by kernel_rfl) (by kernel_rfl) (by kernel_rfl) (by exact fun _ _ _ h => h) (by rfl) ?_ (by assumption) ?_
              rotate_left 1
              · intro w hSw
                (try dsimp only at hSw)
                go_simp
                (try with_reducible rfl)
              (try simp only [Act.put, List.setIfInBounds_toArray, List.set_cons_zero, List.set_cons_succ])
              refine H_take (k := 7) (v := ?_) (by rfl) (by kernel_rfl) (by kernel_rfl) (by kernel_rfl) (by exact fun _ _ _ h => h) (by rfl) ?_ (by assumption) ?_
              rotate_left 1
              · intro w hSw
                (try dsimp only at hSw)
                go_simp
                (try with_reducible rfl)
              (try simp only [Act.put, List.setIfInBounds_toArray, List.set_cons_zero, List.set_cons_succ])
              refine H_take (k := 8) (v := ?_) (by rfl) (by kernel_rfl) (by kernel_rfl) (by kernel_rfl) (by exact fun _ _ _ h => h) (by rfl) ?_ (by assumption) ?_
              rotate_left 1
              · intro w' hSw
                have kc := (HRC.out.grown (gr_none HG.out hSw) (fun g e => by cases e)).at_ CaV.row_len HC.out 1 _ rfl
                go_simp
                (try with_reducible rfl)
              (try simp only [Act.put, List.setIfInBounds_toArray, List.set_cons_zero, List.set_cons_succ])
              refine H_run (k := 9) (by rfl) (by kernel_rfl) (by rfl) (fun K hK => ?_)
              go_simp
              refine (levelOf_any 0 a c.skill _ (HAO4.out.grown hHeld (fun g e => by cases e))).mono ?_
              rintro e w7 ⟨rfl, hg7⟩
              rw [HLV.out]
              have hg := gr_none hHeld hg7
              refine hK _ _ hg ?_
              clear hK K hHeld hg7
              have hHeld := hg
              clear hg
              (try simp only [Act.put, List.setIfInBounds_toArray, List.set_cons_zero, List.set_cons_succ])
              refine H_take (k := 10) (v := ?_) (by rfl) (by kernel_rfl) (by kernel_rfl) (by kernel_rfl) (by exact fun _ _ _ h => h) (by rfl) ?_ (by assumption) ?_
              rotate_left 1
              · intro w hSw
                (try dsimp only at hSw)
                go_simp
                (try with_reducible rfl)
              (try simp only [Act.put, List.setIfInBounds_toArray, List.set_cons_zero, List.set_cons_succ])
              refine H_run (k := 11) (by rfl) (by kernel_rfl) (by rfl) (fun K hK => ?_)
              go_simp
              refine hK _ _ (gr_alloc hHeld _) ?_
              clear hK K
              (try simp only [Act.put, List.setIfInBounds_toArray, List.set_cons_zero, List.set_cons_succ])
              have HN8 := Lib.hid (show Blk (w7.alloc (.cells #[.int .i64 (-LV)] 3)) w7.heap.size 3 #[.int .i64 (-LV)] from Blk.new _ _ _)
              have HG8 := Lib.hid (gr_alloc hHeld (.cells #[.int .i64 (-LV)] 3))
              have hHeld := HG8.out
              refine H_take (k := 12) (v := ?_) (by rfl) (by kernel_rfl) (by kernel_rfl) (by kernel_rfl) (by exact fun _ _ _ h => h) (by rfl) ?_ (by assumption) ?_
              rotate_left 1
              · intro w hSw
                (try dsimp only at hSw)
                go_simp
                (try with_reducible rfl)
              (try simp only [Act.put, List.setIfInBounds_toArray, List.set_cons_zero, List.set_cons_succ])
              refine H_done (by kernel_rfl) ?_
              clear hHeld
              go_wp2_with fail
              go_meet
              exact ⟨_, rfl, HG8.out, by rw [HP3.out]; exact HN8.out⟩
            · have e1 : (s.kind == 1) = false := by rw [hk]; rfl
              have e2 : (s.kind == 2) = false := by rw [hk]; rfl
              have e3 : (s.kind == 3) = false := by rw [hk]; rfl
              have e4 : (s.kind == 4) = true := by rw [hk]; rfl
              obtain ⟨L2, hL2⟩ : ∃ L2, leS a.key st.last = L2 := ⟨_, rfl⟩
              have HP2 := Lib.hid (show PT = if L2 then 1 else 0 by rw [← HPT.out]; unfold ptsR; rw [hk, hL2]; rfl)
              have hL3 : (Op.bytesLess a.key.toList st.last.toList || a.key.toList == st.last.toList) = L2 := hL2
              clear hk hL2
              obtain ⟨w6, hw6⟩ : ∃ w6, wv.alloc (.cells #[.int .i64 0] 3) = w6 := ⟨_, rfl⟩
              have HN6 := Lib.hid (show Blk w6 wv.heap.size 3 #[.int .i64 0] by rw [← hw6]; exact Blk.new _ _ _)
              have HG6 := Lib.hid (show wv.grownBy w6 none by rw [← hw6]; exact gr_alloc (gr_refl _ _) _)
              have HW6 := Lib.hid hw6
              clear hw6
              go_upto_region 20 with (fail)
              rw [HW6.out]
              clear HW6
              have c0 := (HB.out.grown HG6.out (by simp)).cell 0
              have c9 := (H.out.kept (gr_none HG.out HG6.out)).at_.blk.cell 9
              dsimp only at c9
              go_quiet (fail)
              clear hL3
              cases L2
              · go_wp2_with fail
                go_meet
                exact ⟨_, rfl, gr_drewN HG6.out _, by rw [HP2.out]; exact HN6.out⟩
              · go_wp2_with fail
                go_meet
                exact ⟨_, rfl, gr_alloc (gr_drewN HG6.out _) _, by rw [HP2.out]; exact Blk.new _ _ _⟩
          case rest =>
            obtain ⟨pb, rfl, hg9, hpb⟩ := hcut
            have HPB := Lib.hid hpb
            replace HG := Lib.hid (gr_none HG.out hg9)
            replace HRL := Lib.hid (HRL.out.grown hg9 (fun g e => by cases e))
            have HPR := Lib.hid (show Recs nrow 1 wc 0 (some ⟨pb, 0, none⟩) 1 1 [PT] from ⟨(Reads.blk (cs := [.int .i64 PT]) HPB.out 1 1 rfl).lower (Nat.zero_le _), rfl⟩)
            clear hg9 hpb HB HDB HAO4
            rcases HBL.out with hb | ⟨hb, hL⟩
            · subst hb
              have HN := Lib.hid (show chooseR s A st.ds st.last c t (k + 1) = ((k : Int), PT) by rw [HY.out]; rfl)
              go_wp2_with fail
              go_roundw
              case rel => exact ⟨k + 1, k, PT, some ⟨pb, 0, none⟩, 1, 1, [PT], HN.out, by go_num, by omega, rfl, rfl, HPR.out, .inr ⟨by omega, rfl⟩, HG.out⟩
              case measure => simp [intOf]; omega
            · subst hL
              obtain rfl : nB = 1 := by have := HRL.out.len; simpa using this.symm
              have hbn : decide (b < 0) = false := decide_eq_false (by omega)
              obtain ⟨Z2, hZ2⟩ : ∃ Z2, decide (PT < mo) = Z2 := ⟨_, rfl⟩
              have HZ2 := Lib.hid hZ2
              have HY2 := Lib.hid (show chooseR s A st.ds st.last c t (k + 1) = if Z2 then ((k : Int), PT) else (b, mo) by rw [HY.out, hbn, hZ2]; rfl)
              have HB0 := Lib.hid hb
              clear hZ2
              go_wp2_with fail
              refine (cmp1_any PT mo 0 0 _ _ 1 cB _ HPR.out HRL.out).mono ?_
              rintro e w' ⟨Z, rfl, hz, rfl⟩
              have hz2 : decide (Z < 0) = Z2 := hz.trans HZ2.out
              clear hz
              cases Z2
              · go_wp2_with fail
                go_roundw
                case rel => exact ⟨k + 1, b, mo, B, 1, cB, [mo], HY2.out, by go_num, by omega, rfl, rfl, HRL.out, .inr ⟨HB0.out, rfl⟩, HG.out⟩
                case measure => simp [intOf]; omega
              · go_wp2_with fail
                go_roundw
                case rel => exact ⟨k + 1, k, PT, some ⟨pb, 0, none⟩, 1, 1, [PT], HY2.out, by go_num, by omega, rfl, rfl, HPR.out, .inr ⟨by omega, rfl⟩, HG.out⟩
                case measure => simp [intOf]; omega
    · obtain rfl : k = A.length := by omega
      go_wp2_with fail
      go_ret
      exact ⟨by unfold chosenR; rw [HCH.out]; try rfl, HG.out⟩
end Go.Proofs.YtnmodobkennklaaGreatDoor

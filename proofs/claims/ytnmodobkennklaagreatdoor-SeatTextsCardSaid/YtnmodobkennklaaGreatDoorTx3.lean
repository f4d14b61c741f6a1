/- Contracts of checkWell and SeatForm. Conditions: seats as they lie in memory, strings of bounded length. -/
import Derived.Test.YtnmodobkennklaaGreatDoorBun3
import Derived.Test.YtnmodobkennklaaGreatDoorRo1
import Derived.Test.YtnmodobkennklaaGreatDoorBun5
namespace Go.Proofs.YtnmodobkennklaaGreatDoor
open Go.RowKit

def weE (z : SeV) : Int := if keyOk (nb z.ca) then (if inB z.how 1 4 then (if z.ag.toList.isEmpty || keyOk (nb z.ag) then (if inB z.beg 0 691372800000 && inB z.fin 0 691372800000 then 0 else 1) else 5) else 4) else 5
def weAt (l : List SeV) (i : Nat) : Int := (l[i]?).elim 0 weE
def wellE (l : List SeV) : Int := if 500 < l.length then 2 else fstE (weAt l) l.length
def SzOk (z : SeV) : Prop := z.ca.size ≤ 1000000 ∧ z.ag.size ≤ 1000000
def Sws (w : World) (lo : Nat) (A : Option Addr) (n c : Nat) (l : List SeV) : Prop := Recs SeV.row 5 w lo A n c l ∧ ∀ s ∈ l, SzOk s
theorem Sws.grown {w w' : World} {lo : Nat} {A : Option Addr} {n c : Nat} {l : List SeV} (h : Sws w lo A n c l) {r : Option Nat} (hg : w.grownBy w' r) (hr : ∀ g, r = some g → g < lo) : Sws w' lo A n c l := ⟨h.1.grown hg hr, h.2⟩
theorem Ses.sws {w : World} {lo : Nat} {A : Option Addr} {n c : Nat} {l : List SeV} (h : Ses w lo A n c l) : Sws w lo A n c l := ⟨h.1, fun s hs => ⟨by have := (h.2 s hs).1; omega, by have := (h.2 s hs).2.1; omega⟩⟩
theorem weAt_eq {l : List SeV} {i : Nat} {z : SeV} (h : l[i]? = some z) : weAt l i = weE z := by unfold weAt; rw [h]; rfl
theorem well_stop {l : List SeV} {n k : Nat} {E : Int} (hf : wellE l = fstE (weAt l) n) (ha : fstE (weAt l) k = 0) (hlt : k < n) (he : weAt l k = E) (h0 : E ≠ 0) : wellE l = E := by
  rw [hf, fstE_stop ha (by rw [he]; exact h0) hlt, he]
set_option maxHeartbeats 8000000 in
set_option maxRecDepth 100000 in
theorem checkWell_any (lo : Nat) (A : Option Addr) (n c0 : Nat) (l : List SeV) (w : World) (hS : Sws w lo A n c0 l) (hn : n ≤ 1000000000) :
    Calls Tryz.prog 56 #[.slice A n c0] w (RetV (.int .i64 (wellE l)) w) := by
  have HSE := Lib.hid hS
  have hls := hS.1.len
  clear hS
  by_cases hb : 500 < n
  · have HV := Lib.hid (show wellE l = 2 by unfold wellE; rw [if_pos (by omega)])
    have e1 : decide ((500 : Int) < (n : Int)) = true := decide_eq_true (by omega)
    go_enter Tryz.func56, Tryz.ntmps56
    go_wp2_with fail
    go_ret
    exact ⟨by rw [HV.out]; try rfl, gr_refl _ _⟩
  · have HV2 := Lib.hid (show wellE l = fstE (weAt l) n by unfold wellE; rw [if_neg (by omega), hls])
    have e1 : decide ((500 : Int) < (n : Int)) = false := decide_eq_false (by omega)
    clear hls
    go_enter Tryz.func56, Tryz.ntmps56
    go_wp2_with fail
    clear e1
    go_loopw [4, 14, 19, 24, 34, 10] (fun _ _ _ _ _ t wr => ∃ k : Nat, k ≤ n ∧ t = .int .i64 k ∧ w.grownBy wr none ∧ fstE (weAt l) k = 0) (fun _ _ _ _ _ t _ => n - (intOf t).toNat)
    case atStart => exact ⟨0, Nat.zero_le _, rfl, gr_refl _ _, rfl⟩
    case round =>
      obtain ⟨k, hk, rfl, hg, ha⟩ := hrel
      have HG := Lib.hid hg; have HAC := Lib.hid ha
      clear hg ha
      by_cases hlt : k < n
      · obtain ⟨sg, so, z, rfl, _, _, hz2, hzc⟩ := (HSE.out.1.grown HG.out (fun g e => by cases e)).get SeV.row_len hlt
        obtain ⟨o1, o2⟩ := HSE.out.2 z (mem_of_get hz2)
        have hlt2 : (k : Int) < (n : Int) := by omega
        have HZC := Lib.hid hzc
        have HX := Lib.hid (weAt_eq hz2)
        clear hz2 hzc
        obtain ⟨K1, hK1⟩ : ∃ K, keyOk (nb z.ca) = K := ⟨_, rfl⟩
        obtain ⟨K2, hK2⟩ : ∃ K, keyOk (nb z.ag) = K := ⟨_, rfl⟩
        obtain ⟨I1, hI1⟩ : ∃ K, inB z.how 1 4 = K := ⟨_, rfl⟩
        obtain ⟨I2, hI2⟩ : ∃ K, inB z.beg 0 691372800000 = K := ⟨_, rfl⟩
        obtain ⟨I3, hI3⟩ : ∃ K, inB z.fin 0 691372800000 = K := ⟨_, rfl⟩
        obtain ⟨AE, hAE⟩ : ∃ K, z.ag.toList.isEmpty = K := ⟨_, rfl⟩
        have HS := Lib.hid (show weE z = if K1 then (if I1 then (if AE || K2 then (if I2 && I3 then 0 else 1) else 5) else 4) else 5 by unfold weE; rw [hK1, hK2, hI1, hI2, hI3, hAE])
        have HK1 := Lib.hid hK1; have HK2 := Lib.hid hK2; have HI1 := Lib.hid hI1; have HI2 := Lib.hid hI2; have HI3 := Lib.hid hI3
        clear hK1 hK2 hI1 hI2 hI3
        obtain ⟨w1, hw1⟩ : ∃ w1, wr.alloc (.cells #[.string z.ca, .string z.ag, .int .i64 z.how, .int .i64 z.beg, .int .i64 z.fin] 58) = w1 := ⟨_, rfl⟩
        obtain ⟨zb, hzb⟩ : ∃ zb, wr.heap.size = zb := ⟨_, rfl⟩
        have HB := Lib.hid (show Blk w1 zb 58 #[.string z.ca, .string z.ag, .int .i64 z.how, .int .i64 z.beg, .int .i64 z.fin] by rw [← hw1, ← hzb]; exact Blk.new _ _ _)
        replace HG := Lib.hid (show w.grownBy w1 none by rw [← hw1]; exact gr_alloc HG.out _)
        have HW1 := Lib.hid hw1; have HZB := Lib.hid hzb
        clear hw1 hzb
        go_upto_region 6 with (first
          | (refine wpl_load_at Tryz.seT rfl _ rfl _ rfl [.string z.ca, .string z.ag, .int .i64 z.how, .int .i64 z.beg, .int .i64 z.fin] rfl (fun j u hu => by rw [add_mk]; exact HZC.out j u hu) ?_)
          | fail)
        rw [HW1.out]
        (try rw [HZB.out])
        clear HZC HW1 HZB
        have k0 := HB.out.cell 0
        go_wp2_with (first
          | (go_at_call 115; refine (within_any _ _ _ _).mono ?_; rintro e w' ⟨rfl, rfl⟩; first | rw [HI1.out] | rw [HI2.out] | rw [HI3.out] | fail)
          | fail)
        refine (isKey_any _ _ (by assumption)).mono ?_
        rintro e w3 ⟨rfl, hg3⟩
        rw [HK1.out]
        replace HG := Lib.hid (gr_none HG.out hg3)
        replace HB := Lib.hid (HB.out.grown hg3 (by simp))
        clear hg3 k0
        have k0 := HB.out.cell 0
        have k1 := HB.out.cell 1
        have k2 := HB.out.cell 2
        have k3 := HB.out.cell 3
        have k4 := HB.out.cell 4
        cases K1
        · have HE := Lib.hid (show weE z = 5 from HS.out)
          go_wp2_with (first
            | (go_at_call 115; refine (within_any _ _ _ _).mono ?_; rintro e w' ⟨rfl, rfl⟩; first | rw [HI1.out] | rw [HI2.out] | rw [HI3.out] | fail)
            | fail)
          go_ret
          exact ⟨by rw [well_stop HV2.out HAC.out hlt (HX.out.trans HE.out) (by decide)]; try rfl, HG.out⟩
        · cases I1
          · have HE := Lib.hid (show weE z = 4 from HS.out)
            go_wp2_with (first
              | (go_at_call 115; refine (within_any _ _ _ _).mono ?_; rintro e w' ⟨rfl, rfl⟩; first | rw [HI1.out] | rw [HI2.out] | rw [HI3.out] | fail)
              | fail)
            go_ret
            exact ⟨by rw [well_stop HV2.out HAC.out hlt (HX.out.trans HE.out) (by decide)]; try rfl, HG.out⟩
          · cases AE
            · have e1 : (z.ag.toList == []) = false := by rw [beq_eq_false_iff_ne]; exact List.isEmpty_eq_false_iff.1 hAE
              clear hAE
              go_wp2_with (first
                | (go_at_call 115; refine (within_any _ _ _ _).mono ?_; rintro e w' ⟨rfl, rfl⟩; first | rw [HI1.out] | rw [HI2.out] | rw [HI3.out] | fail)
                | fail)
              refine (isKey_any _ _ (by assumption)).mono ?_
              rintro e w3 ⟨rfl, hg3⟩
              rw [HK2.out]
              replace HG := Lib.hid (gr_none HG.out hg3)
              replace HB := Lib.hid (HB.out.grown hg3 (by simp))
              clear hg3 k0 k1 k2 k3 k4
              have k0 := HB.out.cell 0
              have k1 := HB.out.cell 1
              have k2 := HB.out.cell 2
              have k3 := HB.out.cell 3
              have k4 := HB.out.cell 4
              cases K2
              · have HE := Lib.hid (show weE z = 5 from HS.out)
                go_wp2_with (first
                  | (go_at_call 115; refine (within_any _ _ _ _).mono ?_; rintro e w' ⟨rfl, rfl⟩; first | rw [HI1.out] | rw [HI2.out] | rw [HI3.out] | fail)
                  | fail)
                go_ret
                exact ⟨by rw [well_stop HV2.out HAC.out hlt (HX.out.trans HE.out) (by decide)]; try rfl, HG.out⟩
              · cases I2
                · have HE := Lib.hid (show weE z = 1 from HS.out)
                  go_wp2_with (first
                    | (go_at_call 115; refine (within_any _ _ _ _).mono ?_; rintro e w' ⟨rfl, rfl⟩; first | rw [HI1.out] | rw [HI2.out] | rw [HI3.out] | fail)
                    | fail)
                  go_ret
                  exact ⟨by rw [well_stop HV2.out HAC.out hlt (HX.out.trans HE.out) (by decide)]; try rfl, HG.out⟩
                · cases I3
                  · have HE := Lib.hid (show weE z = 1 from HS.out)
                    go_wp2_with (first
                      | (go_at_call 115; refine (within_any _ _ _ _).mono ?_; rintro e w' ⟨rfl, rfl⟩; first | rw [HI1.out] | rw [HI2.out] | rw [HI3.out] | fail)
                      | fail)
                    go_ret
                    exact ⟨by rw [well_stop HV2.out HAC.out hlt (HX.out.trans HE.out) (by decide)]; try rfl, HG.out⟩
                  · have HE := Lib.hid (show weE z = 0 from HS.out)
                    go_wp2_with (first
                      | (go_at_call 115; refine (within_any _ _ _ _).mono ?_; rintro e w' ⟨rfl, rfl⟩; first | rw [HI1.out] | rw [HI2.out] | rw [HI3.out] | fail)
                      | fail)
                    go_roundw
                    case rel => exact ⟨k + 1, by omega, by go_num, HG.out, fstE_zero HAC.out (HX.out.trans HE.out)⟩
                    case measure => simp [intOf]; omega
            · have e1 : z.ag.toList = [] := List.isEmpty_iff.1 hAE
              clear hAE
              cases I2
              · have HE := Lib.hid (show weE z = 1 from HS.out)
                go_wp2_with (first
                  | (go_at_call 115; refine (within_any _ _ _ _).mono ?_; rintro e w' ⟨rfl, rfl⟩; first | rw [HI1.out] | rw [HI2.out] | rw [HI3.out] | fail)
                  | fail)
                go_ret
                exact ⟨by rw [well_stop HV2.out HAC.out hlt (HX.out.trans HE.out) (by decide)]; try rfl, HG.out⟩
              · cases I3
                · have HE := Lib.hid (show weE z = 1 from HS.out)
                  go_wp2_with (first
                    | (go_at_call 115; refine (within_any _ _ _ _).mono ?_; rintro e w' ⟨rfl, rfl⟩; first | rw [HI1.out] | rw [HI2.out] | rw [HI3.out] | fail)
                    | fail)
                  go_ret
                  exact ⟨by rw [well_stop HV2.out HAC.out hlt (HX.out.trans HE.out) (by decide)]; try rfl, HG.out⟩
                · have HE := Lib.hid (show weE z = 0 from HS.out)
                  go_wp2_with (first
                    | (go_at_call 115; refine (within_any _ _ _ _).mono ?_; rintro e w' ⟨rfl, rfl⟩; first | rw [HI1.out] | rw [HI2.out] | rw [HI3.out] | fail)
                    | fail)
                  go_roundw
                  case rel => exact ⟨k + 1, by omega, by go_num, HG.out, fstE_zero HAC.out (HX.out.trans HE.out)⟩
                  case measure => simp [intOf]; omega
      · obtain rfl : k = n := by omega
        have HE := Lib.hid (show wellE l = 0 by rw [HV2.out]; exact HAC.out)
        go_wp2_with fail
        go_ret
        exact ⟨by rw [HE.out]; try rfl, HG.out⟩
set_option maxHeartbeats 8000000 in
set_option maxRecDepth 100000 in
theorem seatForm_any (lo : Nat) (A : Option Addr) (n c0 : Nat) (l : List SeV) (w : World) (hS : Sws w lo A n c0 l) (hn : n ≤ 1000000000) :
    Calls Tryz.prog 26 #[.slice A n c0] w (RetV (.int .i64 (wellE l)) w) := by
  have HSE := Lib.hid hS
  have hls := hS.1.len
  clear hS
  by_cases hb : 500 < n
  · have HV := Lib.hid (show wellE l = 2 by unfold wellE; rw [if_pos (by omega)])
    have e1 : decide ((500 : Int) < (n : Int)) = true := decide_eq_true (by omega)
    go_enter Tryz.func26, Tryz.ntmps26
    go_wp2_with fail
    go_ret
    exact ⟨by rw [HV.out]; try rfl, gr_refl _ _⟩
  · have HV2 := Lib.hid (show wellE l = fstE (weAt l) n by unfold wellE; rw [if_neg (by omega), hls])
    have e1 : decide ((500 : Int) < (n : Int)) = false := decide_eq_false (by omega)
    clear hls
    go_enter Tryz.func26, Tryz.ntmps26
    go_wp2_with fail
    clear e1
    go_loopw [4, 14, 19, 24, 34, 10] (fun _ _ _ _ _ t wr => ∃ k : Nat, k ≤ n ∧ t = .int .i64 k ∧ w.grownBy wr none ∧ fstE (weAt l) k = 0) (fun _ _ _ _ _ t _ => n - (intOf t).toNat)
    case atStart => exact ⟨0, Nat.zero_le _, rfl, gr_refl _ _, rfl⟩
    case round =>
      obtain ⟨k, hk, rfl, hg, ha⟩ := hrel
      have HG := Lib.hid hg; have HAC := Lib.hid ha
      clear hg ha
      by_cases hlt : k < n
      · obtain ⟨sg, so, z, rfl, _, _, hz2, hzc⟩ := (HSE.out.1.grown HG.out (fun g e => by cases e)).get SeV.row_len hlt
        obtain ⟨o1, o2⟩ := HSE.out.2 z (mem_of_get hz2)
        have hlt2 : (k : Int) < (n : Int) := by omega
        have HZC := Lib.hid hzc
        have HX := Lib.hid (weAt_eq hz2)
        clear hz2 hzc
        obtain ⟨K1, hK1⟩ : ∃ K, keyOk (nb z.ca) = K := ⟨_, rfl⟩
        obtain ⟨K2, hK2⟩ : ∃ K, keyOk (nb z.ag) = K := ⟨_, rfl⟩
        obtain ⟨I1, hI1⟩ : ∃ K, inB z.how 1 4 = K := ⟨_, rfl⟩
        obtain ⟨I2, hI2⟩ : ∃ K, inB z.beg 0 691372800000 = K := ⟨_, rfl⟩
        obtain ⟨I3, hI3⟩ : ∃ K, inB z.fin 0 691372800000 = K := ⟨_, rfl⟩
        obtain ⟨AE, hAE⟩ : ∃ K, z.ag.toList.isEmpty = K := ⟨_, rfl⟩
        have HS := Lib.hid (show weE z = if K1 then (if I1 then (if AE || K2 then (if I2 && I3 then 0 else 1) else 5) else 4) else 5 by unfold weE; rw [hK1, hK2, hI1, hI2, hI3, hAE])
        have HK1 := Lib.hid hK1; have HK2 := Lib.hid hK2; have HI1 := Lib.hid hI1; have HI2 := Lib.hid hI2; have HI3 := Lib.hid hI3
        clear hK1 hK2 hI1 hI2 hI3
        obtain ⟨w1, hw1⟩ : ∃ w1, wr.alloc (.cells #[.string z.ca, .string z.ag, .int .i64 z.how, .int .i64 z.beg, .int .i64 z.fin] 58) = w1 := ⟨_, rfl⟩
        obtain ⟨zb, hzb⟩ : ∃ zb, wr.heap.size = zb := ⟨_, rfl⟩
        have HB := Lib.hid (show Blk w1 zb 58 #[.string z.ca, .string z.ag, .int .i64 z.how, .int .i64 z.beg, .int .i64 z.fin] by rw [← hw1, ← hzb]; exact Blk.new _ _ _)
        replace HG := Lib.hid (show w.grownBy w1 none by rw [← hw1]; exact gr_alloc HG.out _)
        have HW1 := Lib.hid hw1; have HZB := Lib.hid hzb
        clear hw1 hzb
        go_upto_region 6 with (first
          | (refine wpl_load_at Tryz.seT rfl _ rfl _ rfl [.string z.ca, .string z.ag, .int .i64 z.how, .int .i64 z.beg, .int .i64 z.fin] rfl (fun j u hu => by rw [add_mk]; exact HZC.out j u hu) ?_)
          | fail)
        rw [HW1.out]
        (try rw [HZB.out])
        clear HZC HW1 HZB
        have k0 := HB.out.cell 0
        go_wp2_with (first
          | (go_at_call 63; refine (in_any _ _ _ _).mono ?_; rintro e w' ⟨rfl, rfl⟩; first | rw [HI1.out] | rw [HI2.out] | rw [HI3.out] | fail)
          | fail)
        refine (keyRefR_any _ _ (by assumption)).mono ?_
        rintro e w3 ⟨rfl, hg3⟩
        rw [HK1.out]
        replace HG := Lib.hid (gr_none HG.out hg3)
        replace HB := Lib.hid (HB.out.grown hg3 (by simp))
        clear hg3 k0
        have k0 := HB.out.cell 0
        have k1 := HB.out.cell 1
        have k2 := HB.out.cell 2
        have k3 := HB.out.cell 3
        have k4 := HB.out.cell 4
        cases K1
        · have HE := Lib.hid (show weE z = 5 from HS.out)
          go_wp2_with (first
            | (go_at_call 63; refine (in_any _ _ _ _).mono ?_; rintro e w' ⟨rfl, rfl⟩; first | rw [HI1.out] | rw [HI2.out] | rw [HI3.out] | fail)
            | fail)
          go_ret
          exact ⟨by rw [well_stop HV2.out HAC.out hlt (HX.out.trans HE.out) (by decide)]; try rfl, HG.out⟩
        · cases I1
          · have HE := Lib.hid (show weE z = 4 from HS.out)
            go_wp2_with (first
              | (go_at_call 63; refine (in_any _ _ _ _).mono ?_; rintro e w' ⟨rfl, rfl⟩; first | rw [HI1.out] | rw [HI2.out] | rw [HI3.out] | fail)
              | fail)
            go_ret
            exact ⟨by rw [well_stop HV2.out HAC.out hlt (HX.out.trans HE.out) (by decide)]; try rfl, HG.out⟩
          · cases AE
            · have e1 : (z.ag.toList == []) = false := by rw [beq_eq_false_iff_ne]; exact List.isEmpty_eq_false_iff.1 hAE
              clear hAE
              go_wp2_with (first
                | (go_at_call 63; refine (in_any _ _ _ _).mono ?_; rintro e w' ⟨rfl, rfl⟩; first | rw [HI1.out] | rw [HI2.out] | rw [HI3.out] | fail)
                | fail)
              refine (keyRefR_any _ _ (by assumption)).mono ?_
              rintro e w3 ⟨rfl, hg3⟩
              rw [HK2.out]
              replace HG := Lib.hid (gr_none HG.out hg3)
              replace HB := Lib.hid (HB.out.grown hg3 (by simp))
              clear hg3 k0 k1 k2 k3 k4
              have k0 := HB.out.cell 0
              have k1 := HB.out.cell 1
              have k2 := HB.out.cell 2
              have k3 := HB.out.cell 3
              have k4 := HB.out.cell 4
              cases K2
              · have HE := Lib.hid (show weE z = 5 from HS.out)
                go_wp2_with (first
                  | (go_at_call 63; refine (in_any _ _ _ _).mono ?_; rintro e w' ⟨rfl, rfl⟩; first | rw [HI1.out] | rw [HI2.out] | rw [HI3.out] | fail)
                  | fail)
                go_ret
                exact ⟨by rw [well_stop HV2.out HAC.out hlt (HX.out.trans HE.out) (by decide)]; try rfl, HG.out⟩
              · cases I2
                · have HE := Lib.hid (show weE z = 1 from HS.out)
                  go_wp2_with (first
                    | (go_at_call 63; refine (in_any _ _ _ _).mono ?_; rintro e w' ⟨rfl, rfl⟩; first | rw [HI1.out] | rw [HI2.out] | rw [HI3.out] | fail)
                    | fail)
                  go_ret
                  exact ⟨by rw [well_stop HV2.out HAC.out hlt (HX.out.trans HE.out) (by decide)]; try rfl, HG.out⟩
                · cases I3
                  · have HE := Lib.hid (show weE z = 1 from HS.out)
                    go_wp2_with (first
                      | (go_at_call 63; refine (in_any _ _ _ _).mono ?_; rintro e w' ⟨rfl, rfl⟩; first | rw [HI1.out] | rw [HI2.out] | rw [HI3.out] | fail)
                      | fail)
                    go_ret
                    exact ⟨by rw [well_stop HV2.out HAC.out hlt (HX.out.trans HE.out) (by decide)]; try rfl, HG.out⟩
                  · have HE := Lib.hid (show weE z = 0 from HS.out)
                    go_wp2_with (first
                      | (go_at_call 63; refine (in_any _ _ _ _).mono ?_; rintro e w' ⟨rfl, rfl⟩; first | rw [HI1.out] | rw [HI2.out] | rw [HI3.out] | fail)
                      | fail)
                    go_roundw
                    case rel => exact ⟨k + 1, by omega, by go_num, HG.out, fstE_zero HAC.out (HX.out.trans HE.out)⟩
                    case measure => simp [intOf]; omega
            · have e1 : z.ag.toList = [] := List.isEmpty_iff.1 hAE
              clear hAE
              cases I2
              · have HE := Lib.hid (show weE z = 1 from HS.out)
                go_wp2_with (first
                  | (go_at_call 63; refine (in_any _ _ _ _).mono ?_; rintro e w' ⟨rfl, rfl⟩; first | rw [HI1.out] | rw [HI2.out] | rw [HI3.out] | fail)
                  | fail)
                go_ret
                exact ⟨by rw [well_stop HV2.out HAC.out hlt (HX.out.trans HE.out) (by decide)]; try rfl, HG.out⟩
              · cases I3
                · have HE := Lib.hid (show weE z = 1 from HS.out)
                  go_wp2_with (first
                    | (go_at_call 63; refine (in_any _ _ _ _).mono ?_; rintro e w' ⟨rfl, rfl⟩; first | rw [HI1.out] | rw [HI2.out] | rw [HI3.out] | fail)
                    | fail)
                  go_ret
                  exact ⟨by rw [well_stop HV2.out HAC.out hlt (HX.out.trans HE.out) (by decide)]; try rfl, HG.out⟩
                · have HE := Lib.hid (show weE z = 0 from HS.out)
                  go_wp2_with (first
                    | (go_at_call 63; refine (in_any _ _ _ _).mono ?_; rintro e w' ⟨rfl, rfl⟩; first | rw [HI1.out] | rw [HI2.out] | rw [HI3.out] | fail)
                    | fail)
                  go_roundw
                  case rel => exact ⟨k + 1, by omega, by go_num, HG.out, fstE_zero HAC.out (HX.out.trans HE.out)⟩
                  case measure => simp [intOf]; omega
      · obtain rfl : k = n := by omega
        have HE := Lib.hid (show wellE l = 0 by rw [HV2.out]; exact HAC.out)
        go_wp2_with fail
        go_ret
        exact ⟨by rw [HE.out]; try rfl, HG.out⟩
end Go.Proofs.YtnmodobkennklaaGreatDoor

/- Contracts of strongest, the program's and the document's. Conditions: none. -/
import Derived.Test.YtdknfhpconfhkaaTone
import Derived.Test.YtdknfhpconfhkaaKeysP
namespace Go.Proofs.Ytdknfhpconfhkaa
open Go.RowKit

def strOf (cs l : List Int) : List Int := cs.map (fun c => strength c l)
/-- Another number is nearly as strong. -/
def weakB (S : List Int) (b i : Nat) : Bool := (i != b) && decide (S.getD b 0 < wrap64 (6 * S.getD i 0))
def clearTo (S : List Int) (b k : Nat) : Prop := ∀ j, j < k → weakB S b j = false
theorem clearTo_succ {S : List Int} {b k : Nat} (h : clearTo S b k) (h1 : weakB S b k = false) : clearTo S b (k + 1) := fun j hj => by
  rcases Nat.lt_or_ge j k with h2 | h2
  · exact h j h2
  · obtain rfl : j = k := by omega
    exact h1
open Classical in
noncomputable def strongR (S : List Int) : Int × Bool := if clearTo S (bestTo S S.length) S.length then ((bestTo S S.length : Int), decide (4000000 ≤ S.getD (bestTo S S.length) 0)) else (0, false)
theorem strongR_yes {S : List Int} {n : Nat} (hn : S.length = n) (h : clearTo S (bestTo S n) n) : strongR S = ((bestTo S n : Int), decide (4000000 ≤ S.getD (bestTo S n) 0)) := by
  unfold strongR; rw [hn, if_pos h]
theorem strongR_no {S : List Int} {n i : Nat} (hn : S.length = n) (hi : i < n) (h : weakB S (bestTo S n) i = true) : strongR S = (0, false) := by
  unfold strongR; rw [hn, if_neg (fun hc => by rw [hc i hi] at h; cases h)]
theorem mstrength_as (lo : Nat) (A : Option Addr) (n cap : Nat) (l : List Int) (c x : Int) (w : World) (h : Ints .i64 w lo A n cap l) (hn : n ≤ 1000000) (hl : ∀ z ∈ l, -32768 ≤ z ∧ z ≤ 32767) (hx : strength c l = x) :
    Calls Try.prog 98 #[.int .i64 c, .slice A n cap] w (Same (.int .i64 x) w) := by subst hx; exact mstrength_any lo A n cap l c w h hn hl
theorem qstrength_as (lo : Nat) (A : Option Addr) (n cap : Nat) (l : List Int) (c x : Int) (w : World) (h : Ints .i64 w lo A n cap l) (hn : n ≤ 1000000) (hl : ∀ z ∈ l, -32768 ≤ z ∧ z ≤ 32767) (hx : strength c l = x) :
    Calls Try.prog 99 #[.int .i64 c, .slice A n cap] w (Same (.int .i64 x) w) := by subst hx; exact qstrength_any lo A n cap l c w h hn hl
def IsStrong (S : List Int) (v : Value) (_ : World) : Prop := v = .tuple #[.int .i64 (strongR S).1, .bool (strongR S).2]

set_option maxRecDepth 100000 in
set_option maxHeartbeats 8000000 in
theorem mstrongest_any (A : Option Addr) (n c : Nat) (cs : List Int) (B : Option Addr) (m d : Nat) (l : List Int) (w : World) (h : Ints .i64 w 0 A n c cs) (hb : Ints .i64 w 0 B m d l) (hn : n ≤ 1000) (hn0 : 0 < n) (hm : m ≤ 1000000) (hl : ∀ z ∈ l, -32768 ≤ z ∧ z ≤ 32767) :
    Calls Try.prog 91 #[.slice A n c, .slice B m d] w (RetP (IsStrong (strOf cs l)) w) := by
  have H := Lib.hid h; have HB := Lib.hid hb; have HL := Lib.hid hl; clear h hb hl
  obtain ⟨S, hS⟩ : ∃ S, strOf cs l = S := ⟨_, rfl⟩
  have hSl : S.length = n := by rw [← hS]; unfold strOf; rw [List.length_map, H.out.len]
  have HSL := Lib.hid hSl; have HS := Lib.hid hS
  rw [hS]
  clear hS hSl
  go_enter Try.func91, Try.ntmps91
  go_wp2_with fail
  go_loopw [6, 7, 8, 9, 14] (fun v s7 _ _ t wr => ∃ (i : Nat) (A' : Option Addr) (c' b : Nat), i ≤ n ∧ t = .int .i64 i ∧ v = .slice A' i c' ∧ s7 = .int .i64 b ∧ bestTo S i = b ∧ w.grownBy wr none ∧ OwnI wr w.heap.size A' i c' (S.take i)) (fun _ _ _ _ t _ => n - (intOf t).toNat)
  case atStart => exact ⟨0, none, 0, 0, Nat.zero_le _, rfl, rfl, rfl, rfl, gr_refl _ _, Own.nil _ _ _ _⟩
  case round =>
    obtain ⟨i, A', c', b, hi, rfl, rfl, rfl, hbest, hg, ho⟩ := hrel
    have hbb := bestTo_bd S i
    rw [hbest] at hbb
    have zr := hg.size
    have HBEST := Lib.hid hbest; have HG := Lib.hid hg; have HO := Lib.hid ho
    clear hbest hg ho
    by_cases hlt : i < n
    · obtain ⟨g, o, z, rfl, _, _, hz, hc⟩ := (H.out.grown HG.out (fun g e => by cases e)).get hlt
      have HZ := Lib.hid (show S[i]? = some (strength z l) by rw [← HS.out]; unfold strOf; rw [List.getElem?_map, hz]; rfl)
      clear hz
      obtain ⟨x, hx⟩ : ∃ x, strength z l = x := ⟨_, rfl⟩
      rw [hx] at HZ
      have HX := Lib.hid hx; clear hx
      go_wp2_with (first
        | (go_at_call 98; refine (mstrength_as 0 B m d l z x _ (HB.out.grown HG.out (fun g e => by cases e)) hm HL.out HX.out).mono ?_; rintro e w' ⟨rfl, rfl⟩)
        | (at_builtin
           refine wpl_app _ rfl _ _ Try.intT rfl w.heap.size A' i c' _ rfl (by exact HO.out.alloc _) _ _ 1 1 [.int .i64 x] rfl (by exact Reads.one _ _ _ _ rfl) (by simp [Value.oneCell']) (by unfold maxLen; omega) (by omega) (by simp; omega) ?_
           intro A10 c10 w10 h10
           have H10 := Lib.hid h10; clear h10)
        | fail)
      have hO10 : OwnI w10 w.heap.size A10 (i + 1) c10 (S.take (i + 1)) := by unfold OwnI; rw [take_snoc' HZ.out, List.map_append]; exact H10.out.1
      have HG10 := Lib.hid (H10.out.gr (gr_alloc HG.out _) (Own.alloc HO.out _) (Nat.le_refl _))
      obtain ⟨g2, o2, x2, hA2, _, _, hx2, hc2⟩ := Ints.get (Own.reads hO10) (show i < i + 1 by omega)
      obtain ⟨g3, o3, y, hA3, _, _, hy, hc3⟩ := Ints.get (Own.reads hO10) (show b < i + 1 by omega)
      rw [hA2] at hA3
      injection hA3 with hA3
      injection hA3 with hA3 hA4
      subst hA3; subst hA4; subst hA2
      rw [List.getElem?_take, if_pos (by omega)] at hx2 hy
      obtain rfl : x = x2 := by have h := HZ.out; rw [hx2] at h; injection h with h; exact h.symm
      have HY := Lib.hid (show S.getD b 0 = y by rw [List.getD_eq_getElem?_getD, hy]; rfl)
      have HX2 := Lib.hid (show S.getD i 0 = x by rw [List.getD_eq_getElem?_getD, hx2]; rfl)
      have HO10 := Lib.hid hO10
      clear hO10 hx2 hy
      have j0 : (0 : Int) ≤ (i : Int) := by omega
      have j1 : (i : Int) < ((i + 1 : Nat) : Int) := by omega
      have j2 : (0 : Int) ≤ (b : Int) := by omega
      have j3 : (b : Int) < ((i + 1 : Nat) : Int) := by omega
      have j4 : (b : Int) < (i : Int) + 1 := by omega
      have j5 : (i : Int) < (i : Int) + 1 := by omega
      by_cases hgt : y < x
      · go_wp2_with fail
        go_quiet (fail)
        go_wp2_with fail
        go_roundw
        case rel => exact ⟨i + 1, _, c10, i, by omega, by go_num, rfl, rfl, by rw [bestTo, HBEST.out, HY.out, HX2.out, if_pos hgt], gr_drewN HG10.out _, Own.drewN HO10.out _⟩
        case measure => simp [intOf]; omega
      · have hgt' : decide (y < x) = false := by simpa using hgt
        go_wp2_with fail
        go_quiet (fail)
        go_wp2_with fail
        go_roundw
        case rel => exact ⟨i + 1, _, c10, b, by omega, by go_num, rfl, rfl, by rw [bestTo, HBEST.out, HY.out, HX2.out, if_neg (by omega)], gr_drewN HG10.out _, Own.drewN HO10.out _⟩
        case measure => simp [intOf]; omega
    · obtain rfl : i = n := by omega
      have HRD := Lib.hid (show Ints .i64 wr w.heap.size A' i c' S by
        have h := Own.reads HO.out
        rw [List.take_of_length_le (by rw [HSL.out]; exact Nat.le_refl _)] at h
        exact h)
      obtain ⟨g2, o2, y, rfl, _, _, hy, hc3⟩ := HRD.out.get (show b < i by omega)
      have HY := Lib.hid (show S.getD b 0 = y by rw [List.getD_eq_getElem?_getD, hy]; rfl)
      clear hy
      have j2 : (0 : Int) ≤ (b : Int) := by omega
      have j3 : (b : Int) < (i : Int) := by omega
      have j4 : b < i := by omega
      obtain ⟨wo, rfl⟩ : ∃ wo : World, wo = wr := ⟨_, rfl⟩
      go_wp2_with fail
      go_loopw [10, 11, 38] (fun _ _ t wr => ∃ j : Nat, j ≤ i ∧ t = .int .i64 j ∧ wr = wo ∧ clearTo S b j) (fun _ _ t _ => i - (intOf t).toNat)
      case atStart => exact ⟨0, Nat.zero_le _, rfl, rfl, fun j hj => by omega⟩
      case round =>
        obtain ⟨j, hj, rfl, rfl, hcl⟩ := hrel
        have HCL := Lib.hid hcl; clear hcl
        by_cases hlt2 : j < i
        · obtain ⟨g3, o3, x, hA3, _, _, hx, hc4⟩ := HRD.out.get hlt2
          injection hA3 with hA3
          injection hA3 with hA3 hA4
          subst hA3; subst hA4
          have HX := Lib.hid (show S.getD j 0 = x by rw [List.getD_eq_getElem?_getD, hx]; rfl)
          clear hx
          by_cases hjb : j = b
          · have hb1 : ((j : Int) != (b : Int)) = false := by rw [bne_eq_false_iff_eq]; omega
            have HW := Lib.hid (show weakB S b j = false by unfold weakB; rw [hjb]; simp)
            clear hjb
            go_wp2_with fail
            go_roundw
            case rel => exact ⟨j + 1, by omega, by go_num, by first | rfl | trivial | fail, clearTo_succ HCL.out HW.out⟩
            case measure => simp [intOf]; omega
          · have hb1 : ((j : Int) != (b : Int)) = true := by rw [bne_iff_ne]; omega
            have HW := Lib.hid (show weakB S b j = decide (y < wrap64 (6 * x)) by unfold weakB; rw [HY.out, HX.out]; simp [hjb])
            clear hjb
            by_cases hwk : y < wrap64 (6 * x)
            · go_wp2_with fail
              go_ret2
              refine ⟨_, rfl, ?_, HG.out⟩
              unfold IsStrong
              rw [strongR_no HSL.out hlt2 (by rw [HBEST.out, HW.out]; exact decide_eq_true hwk)]
              rfl
            · have hwk' : decide (y < wrap64 (6 * x)) = false := by simpa using hwk
              go_wp2_with fail
              go_roundw
              case rel => exact ⟨j + 1, by omega, by go_num, by first | rfl | trivial | fail, clearTo_succ HCL.out (by rw [HW.out]; exact hwk')⟩
              case measure => simp [intOf]; omega
        · obtain rfl : j = i := by omega
          go_wp2_with fail
          go_quiet (fail)
          go_wp2_with fail
          go_ret2
          refine ⟨_, rfl, ?_, gr_drewN HG.out _⟩
          unfold IsStrong
          rw [strongR_yes HSL.out (by rw [HBEST.out]; exact HCL.out), HBEST.out, HY.out]
          rfl

theorem idx_best {S : List Int} {n : Nat} (hn : S.length = n) (h0 : 0 < n) : idxOf (fun x => x == lmax S) S = (bestTo S n : Int) := by
  have hb := bestTo_bd S n
  obtain ⟨h1, h2⟩ := bestTo_spec (S := S) (k := n) (by omega) (by omega)
  rw [List.take_of_length_le (by omega)] at h1 h2
  have hx : S[bestTo S n]? = some S[bestTo S n] := List.getElem?_eq_getElem (by omega)
  have hv : S[bestTo S n] = lmax S := by rw [← h1, List.getD_eq_getElem?_getD, hx]; rfl
  refine idxOf_some ?_ hx (by rw [hv]; exact beq_self_eq_true _)
  rw [List.all_eq_true]
  intro x hxm
  obtain ⟨j, hj, rfl⟩ := List.mem_take_iff_getElem.1 hxm
  have := h2 j (by omega)
  rw [List.getD_eq_getElem?_getD, List.getElem?_eq_getElem (by omega)] at this
  simp only [Option.getD_some] at this
  simp
  omega
open Classical in
noncomputable def strongQ (S : List Int) : Int := if (strongR S).2 then (strongR S).1 else -1
theorem strongQ_low {S : List Int} {n : Nat} (hn : S.length = n) (h : S.getD (bestTo S n) 0 < 4000000) : strongQ S = -1 := by
  unfold strongQ
  refine if_neg ?_
  unfold strongR
  rw [hn]
  split
  · rw [decide_eq_false (by omega)]; exact Bool.false_ne_true
  · exact Bool.false_ne_true
theorem strongQ_no {S : List Int} {n i : Nat} (hn : S.length = n) (hi : i < n) (h : weakB S (bestTo S n) i = true) : strongQ S = -1 := by
  unfold strongQ; rw [strongR_no hn hi h]; rfl
theorem strongQ_yes {S : List Int} {n : Nat} (hn : S.length = n) (h : clearTo S (bestTo S n) n) (h1 : 4000000 ≤ S.getD (bestTo S n) 0) : strongQ S = (bestTo S n : Int) := by
  unfold strongQ; rw [strongR_yes hn h]; exact if_pos (decide_eq_true h1)

set_option maxRecDepth 100000 in
set_option maxHeartbeats 8000000 in
theorem qstrongest_any (A : Option Addr) (n c : Nat) (cs : List Int) (B : Option Addr) (m d : Nat) (l : List Int) (w : World) (h : Ints .i64 w 0 A n c cs) (hb : Ints .i64 w 0 B m d l) (hn : n ≤ 1000) (hn0 : 0 < n) (hm : m ≤ 1000000) (hl : ∀ z ∈ l, -32768 ≤ z ∧ z ≤ 32767) :
    Calls Try.prog 92 #[.slice A n c, .slice B m d] w (RetV (.int .i64 (strongQ (strOf cs l))) w) := by
  have H := Lib.hid h; have HB := Lib.hid hb; have HL := Lib.hid hl; clear h hb hl
  obtain ⟨S, hS⟩ : ∃ S, strOf cs l = S := ⟨_, rfl⟩
  have hSl : S.length = n := by rw [← hS]; unfold strOf; rw [List.length_map, H.out.len]
  have HSL := Lib.hid hSl; have HS := Lib.hid hS
  rw [hS]
  clear hS hSl
  go_enter Try.func92, Try.ntmps92
  go_wp2_with fail
  go_loopw [5, 7, 13] (fun v _ t wr => ∃ (i : Nat) (A' : Option Addr) (c' : Nat), i ≤ n ∧ t = .int .i64 i ∧ v = .slice A' i c' ∧ w.grownBy wr none ∧ OwnI wr w.heap.size A' i c' (S.take i)) (fun _ _ t _ => n - (intOf t).toNat)
  case atStart => exact ⟨0, none, 0, Nat.zero_le _, rfl, rfl, gr_refl _ _, Own.nil _ _ _ _⟩
  case round =>
    obtain ⟨i, A', c', hi, rfl, rfl, hg, ho⟩ := hrel
    have zr := hg.size
    have HG := Lib.hid hg; have HO := Lib.hid ho
    clear hg ho
    by_cases hlt : i < n
    · obtain ⟨g, o, z, rfl, _, _, hz, hc⟩ := (H.out.grown HG.out (fun g e => by cases e)).get hlt
      have HZ := Lib.hid (show S[i]? = some (strength z l) by rw [← HS.out]; unfold strOf; rw [List.getElem?_map, hz]; rfl)
      clear hz
      obtain ⟨x, hx⟩ : ∃ x, strength z l = x := ⟨_, rfl⟩
      rw [hx] at HZ
      have HX := Lib.hid hx; clear hx
      go_wp2_with (first
        | (go_at_call 99; refine (qstrength_as 0 B m d l z x _ (HB.out.grown HG.out (fun g e => by cases e)) hm HL.out HX.out).mono ?_; rintro e w' ⟨rfl, rfl⟩)
        | (at_builtin
           refine wpl_app _ rfl _ _ Try.intT rfl w.heap.size A' i c' _ rfl (by exact HO.out.alloc _) _ _ 1 1 [.int .i64 x] rfl (by exact Reads.one _ _ _ _ rfl) (by simp [Value.oneCell']) (by unfold maxLen; omega) (by omega) (by simp; omega) ?_
           intro A10 c10 w10 h10
           have H10 := Lib.hid h10; clear h10)
        | fail)
      go_roundw
      case rel => exact ⟨i + 1, A10, c10, by omega, by go_num, rfl, H10.out.gr (gr_alloc HG.out _) (Own.alloc HO.out _) (Nat.le_refl _), by unfold OwnI; rw [take_snoc' HZ.out, List.map_append]; exact H10.out.1⟩
      case measure => simp [intOf]; omega
    · obtain rfl : i = n := by omega
      have HRD := Lib.hid (show Ints .i64 wr 0 A' i c' S by
        have h := Own.reads HO.out
        rw [List.take_of_length_le (by rw [HSL.out]; exact Nat.le_refl _)] at h
        exact Ints.lower h (Nat.zero_le _))
      have hbb := bestTo_bd S i
      have HIB := Lib.hid (idx_best HSL.out hn0)
      obtain ⟨b, hb⟩ : ∃ b, bestTo S i = b := ⟨_, rfl⟩
      rw [hb] at hbb HIB
      have HBEST := Lib.hid hb; clear hb
      obtain ⟨g2, o2, y, rfl, _, _, hy, hc3⟩ := HRD.out.get (show b < i by omega)
      have HY := Lib.hid (show S.getD b 0 = y by rw [List.getD_eq_getElem?_getD, hy]; rfl)
      clear hy
      have j2 : (0 : Int) ≤ (b : Int) := by omega
      have j3 : (b : Int) < (i : Int) := by omega
      have j4 : b < i := by omega
      obtain ⟨wo, rfl⟩ : ∃ wo : World, wo = wr := ⟨_, rfl⟩
      go_wp2_with fail
      refine (max_any 0 _ _ _ S _ HRD.out (by omega) hn0).mono ?_
      rintro e w' ⟨rfl, rfl⟩
      go_wp2_with fail
      refine (indexI_any 0 _ _ _ S (lmax S) _ HRD.out (by omega)).mono ?_
      rintro e w' ⟨rfl, rfl⟩
      rw [HIB.out]
      go_wp2_with fail
      go_loopw [9, 10, 30] (fun _ _ t wr => ∃ j : Nat, j ≤ i ∧ t = .int .i64 j ∧ wr = wo ∧ clearTo S b j ∧ (0 < j → 4000000 ≤ y)) (fun _ _ t _ => i - (intOf t).toNat)
      case atStart => exact ⟨0, Nat.zero_le _, rfl, rfl, fun j hj => by omega, fun h => by omega⟩
      case round =>
        obtain ⟨j, hj, rfl, rfl, hcl, hpos⟩ := hrel
        have HCL := Lib.hid hcl; have HPOS := Lib.hid hpos; clear hcl hpos
        by_cases hlt2 : j < i
        · obtain ⟨g3, o3, x, hA3, _, _, hx, hc4⟩ := HRD.out.get hlt2
          injection hA3 with hA3
          injection hA3 with hA3 hA4
          subst hA3; subst hA4
          have HX := Lib.hid (show S.getD j 0 = x by rw [List.getD_eq_getElem?_getD, hx]; rfl)
          clear hx
          by_cases hlow : y < 4000000
          · go_wp2_with fail
            go_ret
            exact ⟨by rw [strongQ_low HSL.out (by rw [HBEST.out, HY.out]; exact hlow)]; rfl, HG.out⟩
          · have hlow' : decide (y < 4000000) = false := by simpa using hlow
            have hlow2 : 4000000 ≤ y := by omega
            by_cases hjb : j = b
            · have hb1 : ((j : Int) != (b : Int)) = false := by rw [bne_eq_false_iff_eq]; omega
              have HW := Lib.hid (show weakB S b j = false by unfold weakB; rw [hjb]; simp)
              clear hjb
              go_wp2_with fail
              go_roundw
              case rel => exact ⟨j + 1, by omega, by go_num, by first | rfl | trivial | fail, clearTo_succ HCL.out HW.out, fun _ => hlow2⟩
              case measure => simp [intOf]; omega
            · have hb1 : ((j : Int) != (b : Int)) = true := by rw [bne_iff_ne]; omega
              have HW := Lib.hid (show weakB S b j = decide (y < wrap64 (6 * x)) by unfold weakB; rw [HY.out, HX.out]; simp [hjb])
              clear hjb
              by_cases hwk : y < wrap64 (6 * x)
              · go_wp2_with fail
                go_ret
                exact ⟨by rw [strongQ_no HSL.out hlt2 (by rw [HBEST.out, HW.out]; exact decide_eq_true hwk)]; rfl, HG.out⟩
              · have hwk' : decide (y < wrap64 (6 * x)) = false := by simpa using hwk
                go_wp2_with fail
                go_roundw
                case rel => exact ⟨j + 1, by omega, by go_num, by first | rfl | trivial | fail, clearTo_succ HCL.out (by rw [HW.out]; exact hwk'), fun _ => hlow2⟩
                case measure => simp [intOf]; omega
        · obtain rfl : j = i := by omega
          go_wp2_with fail
          go_ret
          exact ⟨by rw [strongQ_yes HSL.out (by rw [HBEST.out]; exact HCL.out) (by rw [HBEST.out, HY.out]; exact HPOS.out hn0), HBEST.out]; rfl, HG.out⟩
end Go.Proofs.Ytdknfhpconfhkaa

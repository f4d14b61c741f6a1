/- Contracts of the document's counting, partOf, ServedOf, LostOf and WaitedOf. Conditions: callers whose numbers are in bounds. -/
import Derived.Test.YtpeoijngmglbfaaGreatDoorSe4
namespace Go.Proofs.YtpeoijngmglbfaaGreatDoor
open Go.RowKit

set_option maxHeartbeats 8000000 in
set_option maxRecDepth 100000 in
theorem counting_any (short : Int) (lo1 lo2 : Nat) (cA : Option Addr) (n cc : Nat) (C : List CaV) (A : Option Addr) (c0 : Nat) (l : List SeV) (w : World) (hC : Cas w lo1 cA n cc C) (hS : Ses w lo2 A n c0 l) (hn : n ≤ 1000000) (hnum : ∀ c ∈ C, CaN c) :
    Calls Tryz.prog 83 #[.slice cA n cc, .slice A n c0, .int .i64 short] w (fun e w' => ∃ B m cB, e = .returned (.slice B m cB) ∧ OwnR irow 1 w' w.heap.size 3 B m cB (ctL short C l n) ∧ w.grownBy w' none ∧ m ≤ n) := by
  have HC := Lib.hid hC; have HS := Lib.hid hS; have HNUM := Lib.hid hnum
  clear hC hS hnum
  go_enter Tryz.func83, Tryz.ntmps83
  go_wp2_with fail
  go_loopw [7, 8, 9, 12] (fun v _ _ t wr => ∃ (k : Nat) (B : Option Addr) (m cB : Nat), v = .slice B m cB ∧ t = .int .i64 k ∧ k ≤ n ∧ m ≤ k ∧ OwnR irow 1 wr w.heap.size 3 B m cB (ctL short C l k) ∧ w.grownBy wr none) (fun _ _ _ t _ => n - (intOf t).toNat)
  case atStart => exact ⟨0, none, 0, 0, rfl, rfl, Nat.zero_le _, Nat.le_refl _, OwnR.nil _ _ _, gr_refl _ _⟩
  case round =>
    obtain ⟨k, B, m, cB, rfl, rfl, hk, hmk, hown, hg⟩ := hrel
    have HG := Lib.hid hg; have HO := Lib.hid hown
    have zr := hg.size
    clear hg hown
    by_cases hlt : k < n
    · obtain ⟨sg, sof, z, rfl, _, _, hz2, hzc⟩ := (HS.out.1.grown HG.out (fun g e => by cases e)).get SeV.row_len hlt
      obtain ⟨cg, co, c, rfl, _, _, hc2, hcc⟩ := (HC.out.1.grown HG.out (fun g e => by cases e)).get CaV.row_len hlt
      have qs := ses_bd (HNUM.out c (mem_of_get hc2)) (HS.out.2 z (mem_of_get hz2))
      have hlt2 : (k : Int) < (n : Int) := by omega
      have HZC := Lib.hid hzc
      have HC2 := Lib.hid hc2
      have HCT := Lib.hid (ctL_succ (short := short) hz2 hc2)
      obtain ⟨wa, hwa⟩ : ∃ wa, wr.alloc (.cells #[.string z.ca, .string z.ag, .int .i64 z.how, .int .i64 z.beg, .int .i64 z.fin] 44) = wa := ⟨_, rfl⟩
      obtain ⟨zb, hzb⟩ : ∃ zb, wr.heap.size = zb := ⟨_, rfl⟩
      have HB := Lib.hid (show Blk wa zb 44 #[.string z.ca, .string z.ag, .int .i64 z.how, .int .i64 z.beg, .int .i64 z.fin] by rw [← hwa, ← hzb]; exact Blk.new _ _ _)
      have HGa := Lib.hid (show wr.grownBy wa none by rw [← hwa]; exact gr_alloc (gr_refl _ _) _)
      have HWA := Lib.hid hwa; have HZB := Lib.hid hzb
      clear hwa hzb hz2 hc2 hzc hcc
      go_upto_region 5 with (first
        | (refine wpl_load_at Tryz.seT rfl _ rfl _ rfl [.string z.ca, .string z.ag, .int .i64 z.how, .int .i64 z.beg, .int .i64 z.fin] rfl (fun j u hu => by rw [add_mk]; exact HZC.out j u hu) ?_)
        | fail)
      rw [HWA.out]
      (try rw [HZB.out])
      replace HG := Lib.hid (gr_none HG.out HGa.out)
      replace HO := Lib.hid (HO.out.kept HGa.out (fun g e => by cases e))
      have k2 := HB.out.cell 2
      have k3 := HB.out.cell 3
      have kc := (HC.out.1.grown HG.out (fun g e => by cases e)).at_ CaV.row_len HC2.out 2 _ rfl
      clear HWA HZB HZC HGa
      obtain ⟨U, hU⟩ : ∃ U, (z.how == 2) = U := ⟨_, rfl⟩
      have hU2 : (z.how != 2) = !U := by rw [← hU]; rfl
      obtain ⟨D, hD⟩ : ∃ D, decide (z.beg - c.at_ < short) = D := ⟨_, rfl⟩
      have hD2 : decide (short ≤ z.beg - c.at_) = !D := by
        rw [← hD]
        by_cases h : z.beg - c.at_ < short
        · rw [decide_eq_true h, decide_eq_false (by omega)]; rfl
        · rw [decide_eq_false h, decide_eq_true (by omega)]; rfl
      have HCB := Lib.hid (show ctB short c z = !(U && D) by unfold ctB; rw [hU, hD])
      by_cases hout : U = true ∧ D = true
      · obtain ⟨rfl, rfl⟩ := hout
        have HN := Lib.hid (show ctL short C l (k + 1) = ctL short C l k by rw [HCT.out, HCB.out]; simp)
        go_quiet (fail)
        go_wp2_with fail
        go_roundw
        case rel => exact ⟨k + 1, B, m, cB, rfl, by go_num, by omega, by omega, by rw [HN.out]; exact HO.out.kept (gr_drewN (gr_refl _ none) _) (fun g e => by cases e), gr_drewN HG.out _⟩
        case measure => simp [intOf]; omega
      · have HN := Lib.hid (show ctL short C l (k + 1) = ctL short C l k ++ [k] by
          rw [HCT.out, HCB.out]
          cases U <;> cases D <;> simp at hout ⊢)
        have hUD : U = false ∨ (U = true ∧ D = false) := by cases U <;> cases D <;> simp at hout ⊢
        go_cut [31] (fun v wx => v = .bool true ∧ ∃ q : Nat, wx = wa.drewN q)
        case first =>
          rcases hUD with rfl | ⟨rfl, rfl⟩
          all_goals
            go_quiet (fail)
            go_wp2_with fail
            go_meet
            exact ⟨rfl, _, rfl⟩
        case rest =>
          obtain ⟨rfl, q, rfl⟩ := hcut
          obtain ⟨wv, hwv⟩ : ∃ wv, wa.drewN q = wv := ⟨_, rfl⟩
          have HG5 := Lib.hid (show w.grownBy wv none by rw [← hwv]; exact gr_drewN HG.out q)
          have HO5 := Lib.hid (show OwnR irow 1 wv w.heap.size 3 B m cB (ctL short C l k) by rw [← hwv]; exact HO.out.kept (gr_drewN (gr_refl _ none) q) (fun g e => by cases e))
          rw [hwv]
          clear hwv k2 k3 kc hU hU2 hD hD2 hUD hout HG HO
          go_wp2_with (first
            | (at_builtin
               refine wpl_app _ rfl _ _ Tryz.inT rfl w.heap.size B m cB _ rfl (by exact HO5.out.1.alloc _) _ _ 1 1 [.int .i64 (k : Int)] rfl (by exact Reads.one _ _ _ _ rfl) (by simp [Value.oneCell']) (by unfold maxLen; omega) (by omega) (by have := HG5.out.size; simp; omega) ?_
               intro A8 c8 w8 h8
               have H8 := Lib.hid h8; clear h8)
            | fail)
          have HO8 := Lib.hid (show OwnR irow 1 w8 w.heap.size 3 A8 (m + 1) c8 (ctL short C l k ++ [k]) from HO5.out.alloc _ |>.app rfl H8.out)
          have HG8 := Lib.hid (show w.grownBy w8 none from gr_own (lo := w.heap.size) (gr_alloc HG5.out _) (HO5.out.1.alloc _) (Nat.le_refl _) H8.out.2.1)
          clear H8
          go_roundw
          case rel => exact ⟨k + 1, A8, m + 1, c8, rfl, by go_num, by omega, by omega, by rw [HN.out]; exact HO8.out, HG8.out⟩
          case measure => simp [intOf]; omega
    · obtain rfl : k = n := by omega
      go_wp2_with fail
      go_ret
      exact ⟨B, m, cB, rfl, HO.out, HG.out, hmk⟩
set_option maxHeartbeats 4000000 in
theorem svo_any (most : Int) (i : Nat) (lo1 lo2 : Nat) (cA : Option Addr) (n cc : Nat) (C : List CaV) (A : Option Addr) (c0 : Nat) (l : List SeV) (lb cb kb : Nat) (w : World) (hC : Cas w lo1 cA n cc C) (hS : Ses w lo2 A n c0 l) (hi : i < n) (hnum : ∀ c ∈ C, CaN c)
    (h1 : Blk w lb 33 #[.slice A n c0]) (h2 : Blk w cb 31 #[.slice cA n cc]) (h3 : Blk w kb 3 #[.int .i64 most]) :
    Calls Tryz.prog 84 #[.int .i64 i, .pointer (some ⟨lb, 0, none⟩), .pointer (some ⟨cb, 0, none⟩), .pointer (some ⟨kb, 0, none⟩)] w (RetV (.bool (soAt (inTime most) C l i)) w) := by
  obtain ⟨sg, sof, z, rfl, _, _, hz2, hzc⟩ := hS.1.get SeV.row_len hi
  obtain ⟨cg, co, c, rfl, _, _, hc2, hcc⟩ := hC.1.get CaV.row_len hi
  have qs := ses_bd (hnum c (mem_of_get hc2)) (hS.2 z (mem_of_get hz2))
  have hi2 : (i : Int) < (n : Int) := by omega
  have k2 := hzc 2 _ rfl
  have k3 := hzc 3 _ rfl
  have kc := hcc 2 _ rfl
  have b1 := h1.cell 0
  have b2 := h2.cell 0
  have b3 := h3.cell 0
  obtain ⟨B1, hB1⟩ : ∃ B, (z.how == 1) = B := ⟨_, rfl⟩
  obtain ⟨D, hD⟩ : ∃ D, decide (z.beg - c.at_ ≤ most) = D := ⟨_, rfl⟩
  have HV := Lib.hid (show soAt (inTime most) C l i = (B1 && D) by rw [soAt_eq hz2 hc2]; unfold inTime; rw [hB1, hD])
  clear hC hS hnum h1 h2 h3 hz2 hc2 hzc hcc
  cases B1
  all_goals
    go_enter Tryz.func84, Tryz.ntmps84
    go_wp2_with fail
    go_quiet (fail)
    go_wp2_with fail
    go_ret
    exact ⟨by rw [HV.out]; try rfl, gr_drewN (gr_refl _ _) _⟩
def partD (some_ all : Nat) : Value := if all = 0 then .tuple #[.agg #[.int .i64 0, .int .i64 0], .bool false] else .tuple #[.agg #[.int .i64 (lowV some_ all).1, .int .i64 (lowV some_ all).2], .bool true]
set_option maxHeartbeats 8000000 in
set_option maxRecDepth 100000 in
theorem svoOf_any (so : CaV → SeV → Bool) (C : List CaV) (l : List SeV) (lo : Nat) (B : Option Addr) (m cB : Nat) (L : List Nat) (K1 K2 K3 : Value) (w : World) (hO : Recs irow 1 w lo B m cB L) (hm : m ≤ 1000000)
    (hso : ∀ (w1 : World) (i : Nat), w.grownBy w1 none → i ∈ L → Calls Tryz.prog 84 #[.int .i64 i, K1, K2, K3] w1 (RetV (.bool (soAt so C l i)) w1)) :
    Calls Tryz.prog 82 #[.slice B m cB, .func (.func 84) #[] #[K1, K2, K3]] w (RetV (partD (soN so C l L) L.length) w) := by
  have HO := Lib.hid hO; have HSO := Lib.hid hso
  have hlm := hO.len
  clear hO hso
  obtain ⟨w1, hw1⟩ : ∃ w1, w.alloc (.cells #[.int .i64 0, .int .i64 0] 100) = w1 := ⟨_, rfl⟩
  have HR1 := Lib.hid (show Blk w1 w.heap.size 100 #[.int .i64 0, .int .i64 0] by rw [← hw1]; exact Blk.new _ _ _)
  have HG1 := Lib.hid (show w.grownBy w1 none by rw [← hw1]; exact gr_alloc (gr_refl _ _) _)
  have HW1 := Lib.hid hw1
  clear hw1
  go_enter Tryz.func82, Tryz.ntmps82
  go_upto_region 1 with (fail)
  rw [HW1.out]
  clear HW1
  go_wp2_with fail
  go_loopw [6, 8, 11] (fun v6 _ t wr => ∃ (k b : Nat), k ≤ m ∧ t = .int .i64 k ∧ v6 = .int .i64 b ∧ soN so C l (L.take k) = b ∧ b ≤ k ∧ w.grownBy wr none ∧ Blk wr w.heap.size 100 #[.int .i64 0, .int .i64 0]) (fun _ _ t _ => m - (intOf t).toNat)
  case atStart => exact ⟨0, 0, Nat.zero_le _, rfl, rfl, rfl, Nat.le_refl _, HG1.out, HR1.out⟩
  case round =>
    clear HG1 HR1
    obtain ⟨k, b, hk, rfl, rfl, hb, hbk, hg, hr⟩ := hrel
    have HG := Lib.hid hg; have HR := Lib.hid hr; have HBB := Lib.hid hb
    have zr := hr.lt
    clear hg hr hb
    by_cases hlt : k < m
    · obtain ⟨bg, bo, i, rfl, _, _, hi, hic⟩ := (HO.out.grown HG.out (fun g e => by cases e)).get irow_len hlt
      have HI := Lib.hid hi
      have hlt2 : (k : Int) < (m : Int) := by omega
      have kx := hic 0 _ rfl
      simp only [Nat.mul_one, Nat.add_zero] at kx
      obtain ⟨X, hX⟩ : ∃ X, soAt so C l i = X := ⟨_, rfl⟩
      have HX := Lib.hid hX
      have HN := Lib.hid (show soN so C l (L.take (k + 1)) = b + (if X then 1 else 0) by rw [take_snoc' hi, soN_snoc, HBB.out, hX])
      have qb : IntKind.i64.wrap ((b : Int) + 1) = (b : Int) + 1 := IntWalk.i64_in _ (by omega)
      clear hi hic hX
      go_upto_region 5 with (fail)
      clear kx
      go_wp2_with fail
      refine (HSO.out _ i HG.out (mem_of_get HI.out)).mono ?_
      rintro e w4 ⟨rfl, hg4⟩
      rw [HX.out]
      replace HR := Lib.hid (HR.out.grown hg4 (by simp))
      replace HG := Lib.hid (gr_none HG.out hg4)
      clear hg4
      cases X
      · go_wp2_with fail
        go_roundw
        case rel => exact ⟨k + 1, b, by omega, by go_num, rfl, by rw [HN.out]; rfl, by omega, HG.out, HR.out⟩
        case measure => simp [intOf]; omega
      · go_wp2_with fail
        go_roundw
        case rel => exact ⟨k + 1, b + 1, by omega, by go_num, by go_num, by rw [HN.out]; rfl, by omega, HG.out, HR.out⟩
        case measure => simp [intOf]; omega
    · obtain rfl : k = m := by omega
      have HPS := Lib.hid (show soN so C l L = b by rw [← HBB.out, List.take_of_length_le (by rw [hlm]; exact Nat.le_refl _)])
      by_cases ha0 : k = 0
      · subst ha0
        have HV := Lib.hid (show partD (soN so C l L) L.length = .tuple #[.agg #[.int .i64 0, .int .i64 0], .bool false] by unfold partD; rw [if_pos hlm])
        have d0 : (((0 : Nat) : Int) == 0) = true := by decide
        go_wp2_with (first
          | (refine wpl_store_all Tryz.frT rfl _ _ rfl _ rfl _ _ _ rfl HR.out rfl rfl (by simp [Value.oneCell']) ?_
             intro wz hst
             have HST := Lib.hid hst; clear hst)
          | fail)
        refine ret_cell_tmp Tryz.frT rfl w.heap.size 100 #[.int .i64 0, .int .i64 0] _ rfl rfl HST.out.1 rfl rfl ?_
        exact ⟨by rw [HV.out]; try rfl, gr_trans HG.out HST.out.2.1 (fun g e => .inr (by injection e with e; omega))⟩
      · have d0 : ((k : Int) == 0) = false := by rw [beq_eq_false_iff_ne]; omega
        have HV := Lib.hid (show partD (soN so C l L) L.length = .tuple #[.agg #[.int .i64 (lowV b k).1, .int .i64 (lowV b k).2], .bool true] by unfold partD; rw [if_neg (by rw [hlm]; exact ha0), hlm, HPS.out])
        go_wp2_with fail
        refine (lowest_any b k (by omega) (by omega) (by omega) _).mono ?_
        rintro e w8 ⟨rfl, hg8⟩
        obtain ⟨P, hP⟩ : ∃ P, (lowV b k).1 = P := ⟨_, rfl⟩
        obtain ⟨Q, hQ⟩ : ∃ Q, (lowV b k).2 = Q := ⟨_, rfl⟩
        rw [hP, hQ] at HV ⊢
        clear hP hQ
        replace HR := Lib.hid (HR.out.grown hg8 (by simp))
        replace HG := Lib.hid (gr_none HG.out hg8)
        clear hg8
        go_wp2_with (first
          | (refine wpl_store_all Tryz.frT rfl _ _ rfl _ rfl _ _ _ rfl HR.out rfl rfl (by simp [Value.oneCell']) ?_
             intro wz hst
             have HST := Lib.hid hst; clear hst)
          | fail)
        refine ret_cell_tmp Tryz.frT rfl w.heap.size 100 #[.int .i64 P, .int .i64 Q] _ rfl rfl HST.out.1 rfl rfl ?_
        exact ⟨by rw [HV.out]; try rfl, gr_trans HG.out HST.out.2.1 (fun g e => .inr (by injection e with e; omega))⟩
end Go.Proofs.YtpeoijngmglbfaaGreatDoor

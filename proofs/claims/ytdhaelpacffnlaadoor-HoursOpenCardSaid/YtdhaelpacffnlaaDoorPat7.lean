/- Contract of shared. Conditions: none. -/
import Derived.Test.YtdhaelpacffnlaaDoorPat6
import Derived.Test.YtdhaelpacffnlaaDoorRec
namespace Go.Proofs.YtdhaelpacffnlaaDoor
open Go.RowKit

theorem Tryd.byteT : ElemT Tryd.prog 114 5 1 1 (.int .u8 0) := elemT_of Tryd.underlying114 (by kernel_rfl) rfl (by decide)
theorem DbT.grown {w w' : World} {row : Option Nat} (h : DbT w) (hg : w.grownBy w' row) (hr : row ≠ some 0) : DbT w' := by
  intro i hi
  have hc := h i hi
  have hlt : 0 < w.heap.size := World.block_lt_of_cell? w _ hc
  exact (World.cell?_of_block (hg.block _ hlt (Ne.symm hr))).trans hc
theorem strI_nat (b : List Nat) : strI (b.map (fun z : Nat => (z : Int))) = strN b := by
  unfold strI strN; rw [List.map_map]; rfl
theorem signs_get {z : Nat} (h : z ≤ 11) (hs : z < (⟨#[35, 42, 48, 49, 50, 51, 52, 53, 54, 55, 56, 57]⟩ : ByteArray).size) : (⟨#[35, 42, 48, 49, 50, 51, 52, 53, 54, 55, 56, 57]⟩ : ByteArray)[z].toNat = sgn.getD z 0 := by
  rw [nb_get hs, nb_signs]
theorem signs_size : (⟨#[35, 42, 48, 49, 50, 51, 52, 53, 54, 55, 56, 57]⟩ : ByteArray).size = 12 := by decide

set_option maxRecDepth 100000 in
set_option maxHeartbeats 8000000 in
theorem shared_any (A : Option Addr) (N c : Nat) (l : List PatV) (w : World) (h : Recs patRow 2 w 0 A N c l) (hp : ∀ p ∈ l, PatOk w p) (hN : N ≤ 2) (ht : DbT w) :
    Calls Tryd.prog 51 #[.slice A N c] w (RetV (.tuple #[.string (strN (sharedL (l.map (·.x))).1), .bool (sharedL (l.map (·.x))).2]) w) := by
  obtain ⟨ps, hps⟩ : ∃ ps, l.map (·.x) = ps := ⟨_, rfl⟩
  have HPS := Lib.hid hps
  have hlen : ps.length = N := by rw [← hps, List.length_map, h.len]
  have HR := Lib.hid (show ∀ x ∈ ps, Right x by
    intro x hx
    rw [← hps] at hx
    obtain ⟨p, hp1, rfl⟩ := List.mem_map.1 hx
    exact (hp p hp1).2.2)
  rw [hps]
  obtain ⟨sg, hsg⟩ : ∃ sg, (⟨#[35, 42, 48, 49, 50, 51, 52, 53, 54, 55, 56, 57]⟩ : ByteArray) = sg := ⟨_, rfl⟩
  have sgsz : sg.size = 12 := by rw [← hsg]; exact signs_size
  have HSG := Lib.hid (show ∀ z (hz : z < sg.size), sg[z].toNat = sgn.getD z 0 by
    subst hsg
    intro z hz
    exact signs_get (by rw [signs_size] at hz; omega) hz)
  have sg12 : 12 ≤ sg.size := by omega
  have HL := Lib.hid hlen; have HP := Lib.hid hp; have H := Lib.hid h; have HT := Lib.hid ht
  clear hps hlen hp h ht sgsz
  go_enter Tryd.func51, Tryd.ntmps51
  go_wp2_with fail
  go_loopw [4, 5, 6, 7, 9, 10, 11, 20] (fun v t _ _ _ _ _ _ wr => ShLoop w ps v t wr) (fun _ t _ _ _ _ _ _ _ => 31 - (intOf t).toNat)
  case atStart => exact ⟨0, 31, [], none, 0, 0, rfl, rfl, by omega, rfl, rfl, gr_refl _ _, Own.nil _ _ _ _, rfl, rfl⟩
  case round =>
    obtain ⟨k, f, b, A1, n, c1, rfl, rfl, hk, rfl, rfl, hg, hown, hbl, hsh⟩ := hrel
    have HG := Lib.hid hg; have HW := Lib.hid hown; have HB := Lib.hid hbl; have HS := Lib.hid hsh
    have zr := hg.size
    clear hg hown hbl hsh
    by_cases hk30 : n ≤ 30
    · obtain ⟨B0, hB0⟩ : ∃ B0, decide (0 < n) = B0 := ⟨_, rfl⟩
      have hB0' : decide ((0 : Int) < (n : Int)) = B0 := by rw [← hB0]; apply decide_eq_decide.2; omega
      have HB0 := Lib.hid hB0
      obtain ⟨wo, rfl⟩ : ∃ wo : World, wo = wr := ⟨_, rfl⟩
      have d30 : decide ((n : Int) ≤ 30) = true := decide_eq_true (by omega)
      go_wp2_with fail
      go_loopw [6, 7, 9, 10, 11, 20] (fun v6 v7 _ _ _ t wr2 => ∃ i : Nat, i ≤ N ∧ t = .int .i64 i ∧ v6 = .int .u16 (mTo ps n i : Nat) ∧ v7 = .bool (eTo ps n i) ∧ wo.grownBy wr2 none) (fun _ _ _ _ _ t _ => N - (intOf t).toNat)
      case atStart => exact ⟨0, Nat.zero_le _, rfl, rfl, by unfold eTo; rw [List.take_zero, List.foldl_nil, HB0.out], gr_refl _ _⟩
      case round =>
        obtain ⟨i, hi, rfl, rfl, rfl, hg2⟩ := hrel
        have HG2 := Lib.hid hg2
        have zr2 := hg2.size
        clear hg2
        by_cases hlt : i < N
        · obtain ⟨g, o, p, rfl, _, hgl, hp, hc⟩ := (H.out.grown HG.out (fun g e => by cases e)).grown HG2.out (fun g e => by cases e) |>.get patRow_len hlt
          have hpx : ps[i]? = some p.x := by rw [← HPS.out, List.getElem?_map, hp]; rfl
          have hpo := HP.out p (mem_of_get hp)
          have HMN := Lib.hid (show mTo ps n (i + 1) = mTo ps n i &&& (takesL p.x n).1 from take_fold hpx)
          have HEN := Lib.hid (show eTo ps n (i + 1) = (eTo ps n i && (takesL p.x n).2) from take_fold hpx)
          have hm1 : mTo ps n i < 4096 := allM_bd (fun x hx => HR.out x (List.mem_of_mem_take hx)) n 4095 (by omega)
          have hm2 : (takesL p.x n).1 < 4096 := by
            rw [takes_fst hpo.2.2]
            split
            · omega
            · exact mAt_bd hpo.2.2 n
          obtain ⟨pA, pn, pc, px⟩ := p
          have HI := Lib.hid hpo.1
          have hpn : pn ≤ 30 := hpo.2.1
          dsimp only at HMN HEN hm2 HI
          obtain ⟨M2, E2, hT⟩ : ∃ M2 E2, takesL px n = (M2, E2) := ⟨_, _, rfl⟩
          have HTK := Lib.hid hT
          rw [hT] at HMN HEN hm2
          dsimp only at HMN HEN hm2
          obtain ⟨M1, hM1⟩ : ∃ M1, mTo ps n i = M1 := ⟨_, rfl⟩
          obtain ⟨E1, hE1⟩ : ∃ E1, eTo ps n i = E1 := ⟨_, rfl⟩
          rw [hM1] at HMN hm1
          rw [hE1] at HEN
          rw [hM1, hE1]
          have HAND := Lib.hid (u16_and M1 M2 (by omega) (by omega))
          have HC := Lib.hid hc
          clear hc hp hpx hpo hT hM1 hE1
          have y2 : g < wr.heap.size := hgl
          cases E1
          all_goals
            go_wp2_with (first
              | (refine wpl_load_at Tryd.patT rfl _ rfl ⟨g, o + i * 2, none⟩ rfl [.slice pA pn pc, .int .u8 (px.2 : Int)] rfl (fun j u hu => by rw [add_mk]; exact HC.out j u hu) ?_)
              | (go_at_call 72
                 refine (takes_any pA pn pc n px _ (((HI.out.grown HG.out (fun g e => by cases e)).grown HG2.out (fun g e => by cases e)).alloc _) (by omega) (by omega)).mono ?_
                 rintro e w3 ⟨rfl, hg3⟩
                 rw [HTK.out]
                 have HG3 := Lib.hid (gr_none (gr_alloc HG2.out _) hg3)
                 clear hg3)
              | fail)
            go_roundw
            case rel => exact ⟨i + 1, by omega, by go_num, by rw [HAND.out, HMN.out], by rw [HEN.out]; rfl, HG3.out⟩
            case measure => simp [intOf]; omega
        · obtain rfl : i = N := by omega
          have HAM := Lib.hid (show mTo ps n i = allM ps n by unfold mTo allM; rw [List.take_of_length_le (by rw [HL.out]; exact Nat.le_refl _)])
          have HAE := Lib.hid (show eTo ps n i = allE ps n by unfold eTo allE; rw [List.take_of_length_le (by rw [HL.out]; exact Nat.le_refl _)])
          rw [HAM.out, HAE.out]
          have hm1 : allM ps n < 4096 := allM_bd HR.out n 4095 (by omega)
          obtain ⟨M, hM⟩ : ∃ M, allM ps n = M := ⟨_, rfl⟩
          obtain ⟨E, hE⟩ : ∃ E, allE ps n = E := ⟨_, rfl⟩
          obtain ⟨f, hf⟩ : ∃ f, 31 - n = f + 1 := ⟨30 - n, by omega⟩
          have HS2 := Lib.hid (show (if E then (b, true) else if M = 0 then ([], false) else shF ps f (n + 1) (b ++ [firstS M])) = sharedL ps by
            rw [← HS.out, hf, shF, hM, hE])
          rw [hM, hE]
          rw [hM] at hm1
          have HF := Lib.hid hf
          have HGW := Lib.hid (gr_none HG.out HG2.out)
          have HW2 := Lib.hid (Own.kept HW.out HG2.out (fun g e => by cases e))
          clear hM hE hf
          cases E
          · by_cases hM0 : M = 0
            · subst hM0
              go_wp2_with fail
              go_ret2
              exact ⟨by rw [← HS2.out]; rfl, HGW.out⟩
            · have b1 : ((M : Int) == 0) = false := by rw [beq_eq_false_iff_ne]; omega
              have b1' : (M == 0) = false := by rw [beq_eq_false_iff_ne]; omega
              obtain ⟨t1, t2⟩ := tz_first hM0 hm1
              obtain ⟨z, hz⟩ : ∃ z, tzM M = z := ⟨_, rfl⟩
              rw [hz] at t1 t2
              have hzs : z < sg.size := by omega
              have hsz := HSG.out z hzs
              rw [t1] at hsz
              have HS3 := Lib.hid (show shF ps f (n + 1) (b ++ [firstS M]) = sharedL ps by rw [← HS2.out, if_neg (by simp), if_neg hM0])
              have hfb : firstS M < 256 := by
                unfold firstS
                cases hfd : sgn.find? (fun c => hasM M c) with
                | none => simp
                | some c => exact sgn_lt (List.mem_of_find?_eq_some hfd)
              generalize firstS M = q at *
              have HZ := Lib.hid hz
              have HM0 := Lib.hid hM0
              clear hz t1 HS2 hM0
              go_wp2_with (first
                | (go_at_call 73
                   refine (tz_any M _ ((HT.out.grown HG.out (by simp)).grown HG2.out (by simp)) HM0.out hm1).mono ?_
                   rintro e w3 ⟨rfl, rfl⟩
                   rw [HZ.out])
                | (at_builtin
                   refine wpl_app _ rfl _ _ Tryd.byteT rfl w.heap.size A1 n c1 _ rfl (by exact HW2.out.alloc _) _ _ 1 1 [.int .u8 q] rfl (by exact Reads.one _ _ _ _ rfl) (by simp [Value.oneCell']) (by unfold maxLen; omega) (by omega) (by simp; omega) ?_
                   intro A10 c10 w10 h10
                   have H10 := Lib.hid h10; clear h10)
                | fail)
              go_roundw
              case rel =>
                refine ⟨n + 1, f, b ++ [q], A10, n + 1, c10, rfl, by go_num, by omega, rfl, by have := HF.out; omega, ?_, ?_, ?_, ?_⟩
                · exact H10.out.gr (gr_alloc HGW.out _) (HW2.out.alloc _) (Nat.le_refl _)
                · rw [List.map_append]; exact H10.out.1
                · rw [List.length_append, HB.out]; rfl
                · exact HS3.out
              case measure => simp [intOf]; omega
          · have hcv := run_str (P := Tryd.prog) (src := 114) (dst := 9) (e := 5) Tryd.underlying114 Tryd.underlying5 Tryd.underlying9 (show Ints .u8 wr w.heap.size A1 n c1 (b.map (fun z : Nat => (z : Int))) by
              have := Own.reads HW2.out
              unfold Ints
              rw [List.map_map]
              exact this)
            rw [strI_nat] at hcv
            go_wp2_with fail
            go_ret2
            exact ⟨by rw [← HS2.out]; rfl, HGW.out⟩
    · obtain rfl : n = 31 := by omega
      go_wp2_with fail
      go_ret2
      exact ⟨by rw [← HS.out]; rfl, HG.out⟩
end Go.Proofs.YtdhaelpacffnlaaDoor

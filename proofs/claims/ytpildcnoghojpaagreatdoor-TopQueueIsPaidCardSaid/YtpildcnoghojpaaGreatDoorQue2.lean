/- Contracts of CheckAgents and of the document's AgentsFault. Conditions: none. -/
import Derived.Test.YtpildcnoghojpaaGreatDoorQue1
namespace Go.Proofs.YtpildcnoghojpaaGreatDoor
open Go.RowKit

section
variable {l : List AgV} {i : Nat} {z b : AgV}
theorem agAt_5 (h : l[i]? = some z) (h1 : keyOk (nb z.key) = false) : agAt l i = 5 := by simp only [agAt, h, Option.elim, h1]; rfl
theorem agAt_7 (h : l[i]? = some z) (h1 : keyOk (nb z.key) = true) (hi : 0 < i) (hb : l[i - 1]? = some b) (h3 : leS z.key b.key = true) : agAt l i = 7 := by simp only [agAt, h, Option.elim, h1, hb, h3, decide_eq_true hi]; rfl
theorem agAt_e (h : l[i]? = some z) (h1 : keyOk (nb z.key) = true) (hb : l[i - 1]? = some b) (h3 : leS z.key b.key = false) : agAt l i = agE z := by simp only [agAt, h, Option.elim, h1, hb, h3, Bool.and_false]; rfl
theorem agAt_z (h : l[i]? = some z) (h1 : keyOk (nb z.key) = true) (hi : ¬ 0 < i) : agAt l i = agE z := by simp only [agAt, h, Option.elim, h1, decide_eq_false hi, Bool.false_and]; rfl
end
set_option maxHeartbeats 4000000 in
theorem checkAgents_any (lo : Nat) (A : Option Addr) (n c : Nat) (l : List AgV) (w : World) (h : Ags w lo A n c l) (hn : n ≤ 1000000000000) :
    Calls Tryz.prog 31 #[.slice A n c] w (RetV (.int .i64 (agsE l)) w) := by
  have H := Lib.hid h; clear h
  by_cases hb : n > 100
  · have HF := Lib.hid (show agsE l = 2 by unfold agsE; rw [if_pos (by rw [H.out.1.len]; exact hb)])
    have hb' : decide ((100 : Int) < (n : Int)) = true := decide_eq_true (by omega)
    go_enter Tryz.func31, Tryz.ntmps31
    go_wp2_with fail
    go_ret
    exact ⟨by rw [HF.out]; rfl, gr_refl _ _⟩
  · have hb' : decide ((100 : Int) < (n : Int)) = false := decide_eq_false (by omega)
    have HF := Lib.hid (show agsE l = fstE (agAt l) n by unfold agsE; rw [if_neg (by rw [H.out.1.len]; exact hb), H.out.1.len])
    go_enter Tryz.func31, Tryz.ntmps31
    go_wp2_with fail
    go_loopw [3, 4, 5, 11] (fun _ _ _ t wr => ∃ k : Nat, k ≤ n ∧ t = .int .i64 k ∧ w.grownBy wr none ∧ fstE (agAt l) k = 0) (fun _ _ _ t _ => n - (intOf t).toNat)
    case atStart => exact ⟨0, Nat.zero_le _, rfl, gr_refl _ _, rfl⟩
    case round =>
      obtain ⟨k, hk, rfl, hg, ha⟩ := hrel
      have HA := Lib.hid ha; have HG := Lib.hid hg; clear ha hg
      by_cases hlt : k < n
      · obtain ⟨g, o, ⟨key, sA, sn, sc, fr, til, pA, pn, pc, wrap, sk, ps⟩, rfl, _, hgl, hz, hc⟩ := (H.out.1.grown HG.out (fun g e => by cases e)).get AgV.row_len hlt
        have hok := H.out.2 _ (mem_of_get hz)
        have hkey : key.size ≤ 1000 := hok.1.1
        obtain ⟨E, hE⟩ : ∃ E, agE ⟨key, sA, sn, sc, fr, til, pA, pn, pc, wrap, sk, ps⟩ = E := ⟨_, rfl⟩
        have HEV := Lib.hid hE; have HZ := Lib.hid hz; have HC := Lib.hid hc; have HOK := Lib.hid hok; clear hz hc hok hE
        go_wp2_with (first
          | (refine wpl_load_at Tryz.agT rfl _ rfl _ rfl [.string key, .slice sA sn sc, .int .i64 fr, .int .i64 til, .slice pA pn pc, .int .i64 wrap] rfl (fun j u hu => by rw [add_mk]; exact HC.out j u hu) ?_)
          | fail)
        refine (isKey_any key _ (by omega)).mono ?_
        rintro e w2 ⟨rfl, hg2⟩
        have hsB := (Blk.new wr 81 #[.string key, .slice sA sn sc, .int .i64 fr, .int .i64 til, .slice pA pn pc, .int .i64 wrap]).grown hg2 (by simp)
        have k0 := hsB.cell 0
        have HG2 := Lib.hid (gr_none (gr_alloc HG.out _) hg2)
        have HB2 := Lib.hid hsB
        have z2 := hg2.size; simp at z2
        clear hg2
        clear hsB
        cases hB1 : keyOk (nb key)
        · have e := agAt_5 HZ.out hB1
          have HFIN := Lib.hid (show agsE l = 5 by rw [HF.out, fstE_stop HA.out (by rw [e]; decide) hlt, e])
          clear e
          go_wp2_with fail
          go_ret
          exact ⟨by rw [HFIN.out]; rfl, HG2.out⟩
        · by_cases h0 : 0 < k
          · obtain ⟨⟨key', sA', sn', sc', fr', til', pA', pn', pc', wrap', sk', ps'⟩, hb⟩ : ∃ b, l[k - 1]? = some b := ⟨_, List.getElem?_eq_getElem (by rw [H.out.1.len]; omega)⟩
            have kb := (H.out.1.grown HG2.out (fun g e => by cases e)).at_ AgV.row_len hb 0 _ rfl
            simp only [Nat.add_zero] at kb
            have HB1 := Lib.hid hb; clear hb
            have hi0 : decide ((0 : Int) < (k : Int)) = true := by simpa using h0
            cases h7 : (Op.bytesLess key.toList key'.toList || key.toList == key'.toList)
            · have s2 : (0 : Int) ≤ (k : Int) - 1 := by omega
              have s5 : (1 : Int) ≤ (k : Int) := by omega
              have s3 : (k : Int) - 1 < (n : Int) := by omega
              have s6 : (0 : Int) < (n : Int) := by omega
              have s1 : IntKind.i64.wrap ((k : Int) - 1) = (k : Int) - 1 := IntWalk.i64_in _ (by omega)
              have s4 : ((k : Int) - 1).toNat = k - 1 := by omega
              go_wp2_with fail
              go_quiet (fail)
              clear s1 s4
              have HE := Lib.hid (agAt_e HZ.out hB1 HB1.out h7)
              go_wp2_with (first
                | (refine wpl_load_all Tryz.agT rfl _ rfl _ rfl _ _ (HB2.out.drewN _) rfl ?_)
                | fail)
              refine (checkAgent_any lo ⟨key, sA, sn, sc, fr, til, pA, pn, pc, wrap, sk, ps⟩ _ (HOK.out.grown (gr_drewN HG2.out _) (fun g e => by cases e))).mono ?_
              rintro e w3 ⟨rfl, hg3⟩
              have HG3 := Lib.hid (gr_none (gr_drewN HG2.out _) hg3); clear hg3
              rw [HEV.out]
              by_cases h9 : E = 0
              · have h9' : (E != 0) = false := by simpa using h9
                have HE0 := Lib.hid (show agAt l k = 0 by rw [HE.out, HEV.out, h9])
                clear h9
                go_wp2_with fail
                go_roundw
                case rel => exact ⟨k + 1, by omega, by go_num, HG3.out, fstE_zero HA.out HE0.out⟩
                case measure => simp [intOf]; omega
              · have h9' : (E != 0) = true := by simpa using h9
                have HFIN := Lib.hid (show agsE l = E by rw [HF.out, fstE_stop HA.out (by rw [HE.out, HEV.out]; exact h9) hlt, HE.out, HEV.out])
                go_wp2_with fail
                go_ret
                exact ⟨by rw [HFIN.out]; rfl, HG3.out⟩
            · have e := agAt_7 HZ.out hB1 h0 HB1.out h7
              have HFIN := Lib.hid (show agsE l = 7 by rw [HF.out, fstE_stop HA.out (by rw [e]; decide) hlt, e])
              clear e
              have s2 : (0 : Int) ≤ (k : Int) - 1 := by omega
              have s5 : (1 : Int) ≤ (k : Int) := by omega
              have s3 : (k : Int) - 1 < (n : Int) := by omega
              have s6 : (0 : Int) < (n : Int) := by omega
              have s1 : IntKind.i64.wrap ((k : Int) - 1) = (k : Int) - 1 := IntWalk.i64_in _ (by omega)
              have s4 : ((k : Int) - 1).toNat = k - 1 := by omega
              go_wp2_with fail
              go_quiet (fail)
              go_wp2_with fail
              go_ret
              exact ⟨by rw [HFIN.out]; rfl, gr_drewN HG2.out _⟩
          · have hi0 : decide ((0 : Int) < (k : Int)) = false := decide_eq_false (by omega)
            go_wp2_with fail
            go_quiet (fail)
            have HE := Lib.hid (agAt_z HZ.out hB1 h0)
            go_wp2_with (first
              | (refine wpl_load_all Tryz.agT rfl _ rfl _ rfl _ _ (HB2.out.drewN _) rfl ?_)
              | fail)
            refine (checkAgent_any lo ⟨key, sA, sn, sc, fr, til, pA, pn, pc, wrap, sk, ps⟩ _ (HOK.out.grown (gr_drewN HG2.out _) (fun g e => by cases e))).mono ?_
            rintro e w3 ⟨rfl, hg3⟩
            have HG3 := Lib.hid (gr_none (gr_drewN HG2.out _) hg3); clear hg3
            rw [HEV.out]
            by_cases h9 : E = 0
            · have h9' : (E != 0) = false := by simpa using h9
              have HE0 := Lib.hid (show agAt l k = 0 by rw [HE.out, HEV.out, h9])
              clear h9
              go_wp2_with fail
              go_roundw
              case rel => exact ⟨k + 1, by omega, by go_num, HG3.out, fstE_zero HA.out HE0.out⟩
              case measure => simp [intOf]; omega
            · have h9' : (E != 0) = true := by simpa using h9
              have HFIN := Lib.hid (show agsE l = E by rw [HF.out, fstE_stop HA.out (by rw [HE.out, HEV.out]; exact h9) hlt, HE.out, HEV.out])
              go_wp2_with fail
              go_ret
              exact ⟨by rw [HFIN.out]; rfl, HG3.out⟩
      · obtain rfl : k = n := by omega
        go_wp2_with fail
        go_ret
        exact ⟨by rw [HF.out, HA.out]; rfl, HG.out⟩

end Go.Proofs.YtpildcnoghojpaaGreatDoor

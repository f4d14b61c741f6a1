/- Contract of the document's PresenceOf. Conditions: beacons in order, of bounded names. -/
import Derived.Test.YtgogiljplnninaaGreatDoorPr1
import Derived.Test.YtgogiljplnninaaGreatDoorBun3
import Derived.Test.YtgogiljplnninaaGreatDoorBun6
namespace Go.Proofs.YtgogiljplnninaaGreatDoor
open Go.RowKit

def bcEnc (z : BcV) : Value := .agg #[.string z.psn, .string z.dev, .int .i64 z.st, .int .i64 z.at_, .int .i64 z.un, .string z.note]
theorem bcEnc_inj (a b : BcV) (h : bcEnc a = bcEnc b) : a = b := by
  obtain ⟨a1, a2, a3, a4, a5, a6⟩ := a
  obtain ⟨b1, b2, b3, b4, b5, b6⟩ := b
  unfold bcEnc at h
  simpa using h
set_option maxHeartbeats 4000000 in
set_option maxRecDepth 100000 in
/-- A beacon's points: its state and its time, in a new slice. -/
theorem points_any (z : BcV) (w : World) : Calls Tryz.prog 113 #[.agg #[.string z.psn, .string z.dev, .int .i64 z.st, .int .i64 z.at_, .int .i64 z.un, .string z.note]] w fun e w' => ∃ B, e = .returned (.slice (some ⟨B, 0, none⟩) 2 2) ∧ Blk w' B 3 #[.int .i64 z.st, .int .i64 z.at_] ∧ w.heap.size ≤ B ∧ w.grownBy w' none := by
  obtain ⟨W1, hW⟩ : ∃ W1, w.alloc (.cells #[.string z.psn, .string z.dev, .int .i64 z.st, .int .i64 z.at_, .int .i64 z.un, .string z.note] 62) = W1 := ⟨_, rfl⟩
  have HB := Lib.hid (show Blk W1 w.heap.size 62 #[.string z.psn, .string z.dev, .int .i64 z.st, .int .i64 z.at_, .int .i64 z.un, .string z.note] by rw [← hW]; exact Blk.new _ _ _)
  have HG := Lib.hid (show w.grownBy W1 none by rw [← hW]; exact gr_alloc (gr_refl _ _) _)
  have hz1 : W1.heap.size = w.heap.size + 1 := by rw [← hW]; simp
  have HW := Lib.hid hW; clear hW
  have k2 := HB.out.cell 2; have k3 := HB.out.cell 3
  go_enter Tryz.func113, Tryz.ntmps113
  go_wp2_with fail
  rw [HW.out]
  go_ret
  refine ⟨w.heap.size + 1, rfl, ?_, by omega, gr_alloc HG.out _⟩
  have h := Blk.new W1 3 #[.int .i64 z.st, .int .i64 z.at_]
  rw [hz1] at h
  exact h
set_option maxHeartbeats 16000000 in
set_option maxRecDepth 100000 in
theorem presenceOf_any (lo : Nat) (A : Option Addr) (n c : Nat) (l : List BcV) (p : ByteArray) (t : Int) (w : World) (h : Bcs w lo A n c l) (hn : n ≤ 1000000000) (hl : BAsc l) :
    Calls Tryz.prog 41 #[.slice A n c, .string p, .int .i64 t] w (RetV (.tuple #[.agg #[.string (prs l p t).2.psn, .string (prs l p t).2.dev, .int .i64 (prs l p t).2.st, .int .i64 (prs l p t).2.at_, .int .i64 (prs l p t).2.un, .string (prs l p t).2.note], .bool (prs l p t).1]) w) := by
  have H := Lib.hid h; have HL := Lib.hid hl; clear h hl
  go_enter Tryz.func41, Tryz.ntmps41
  have hmm := @run_makeMap Tryz.prog
  go_wp2_with fail
  clear hmm
  go_loopw [10, 20] (fun _ x wr => ∃ (k M : Nat), k ≤ n ∧ x = .int .i64 k ∧ w.grownBy wr none ∧ Blk wr w.heap.size 62 #[.string bc0.psn, .string bc0.dev, .int .i64 bc0.st, .int .i64 bc0.at_, .int .i64 bc0.un, .string bc0.note] ∧ MapG bcEnc wr (w.heap.size + 1) M (pLast p t (l.take k)) ∧ M ≤ k) (fun _ x _ => n - (intOf x).toNat)
  case atStart => exact ⟨0, 0, Nat.zero_le _, rfl, gr_alloc (gr_alloc (gr_refl _ _) _) _, (Blk.new _ _ _).alloc _, by
    have h : MapG bcEnc ((w.alloc (.cells #[.string bc0.psn, .string bc0.dev, .int .i64 bc0.st, .int .i64 bc0.at_, .int .i64 bc0.un, .string bc0.note] 62)).alloc (.map #[] 0)) (w.alloc (.cells #[.string bc0.psn, .string bc0.dev, .int .i64 bc0.st, .int .i64 bc0.at_, .int .i64 bc0.un, .string bc0.note] 62)).heap.size 0 (pLast p t []) := MapG.new bcEnc (w.alloc (.cells #[.string bc0.psn, .string bc0.dev, .int .i64 bc0.st, .int .i64 bc0.at_, .int .i64 bc0.un, .string bc0.note] 62))
    simpa [bc0] using h, Nat.le_refl _⟩
  case round =>
    obtain ⟨k, M, hk, rfl, hg, hr0, hmp, hM⟩ := hrel
    have HG := Lib.hid hg; have HR0 := Lib.hid hr0; have HMP := Lib.hid hmp; clear hg hr0 hmp
    by_cases hlt : k < n
    · obtain ⟨g, o, z, rfl, _, hgl, hz, hc⟩ := (H.out.1.grown HG.out (fun g e => by cases e)).get BcV.row_len hlt
      obtain ⟨⟨_, p2, _⟩, _, _⟩ := H.out.2 _ (mem_of_get hz)
      have HZ := Lib.hid hz; have HC := Lib.hid hc; clear hz hc
      have HSN := Lib.hid (show pLast p t (l.take (k + 1)) = if nb z.psn = nb p ∧ z.at_ ≤ t then (fun k' => if nb z.dev = nb k' then some z else pLast p t (l.take k) k') else pLast p t (l.take k) by
        rw [List.take_succ_eq_append_getElem (by rw [H.out.1.len]; exact hlt), pLast_snoc]
        have e : l[k]'(by rw [H.out.1.len]; exact hlt) = z := Option.some.inj ((List.getElem?_eq_getElem _).symm.trans HZ.out)
        rw [e])
      obtain ⟨w1, hw1⟩ : ∃ v, wr.alloc (.cells #[.string z.psn, .string z.dev, .int .i64 z.st, .int .i64 z.at_, .int .i64 z.un, .string z.note] 62) = v := ⟨_, rfl⟩
      obtain ⟨zb, hzb⟩ : ∃ b, wr.heap.size = b := ⟨_, rfl⟩
      have HB := Lib.hid (show Blk w1 zb 62 #[.string z.psn, .string z.dev, .int .i64 z.st, .int .i64 z.at_, .int .i64 z.un, .string z.note] by rw [← hw1, ← hzb]; exact Blk.new _ _ _)
      replace HG := Lib.hid (show w.grownBy w1 none by rw [← hw1]; exact gr_alloc HG.out _)
      replace HR0 := Lib.hid (show Blk w1 w.heap.size 62 #[.string bc0.psn, .string bc0.dev, .int .i64 bc0.st, .int .i64 bc0.at_, .int .i64 bc0.un, .string bc0.note] by rw [← hw1]; exact HR0.out.alloc _)
      replace HMP := Lib.hid (show MapG bcEnc w1 (w.heap.size + 1) M (pLast p t (l.take k)) by rw [← hw1]; exact HMP.out.kept (gr_alloc (gr_refl _ none) _) (by simp))
      have HW1 := Lib.hid hw1; have HZB := Lib.hid hzb
      clear hw1 hzb
      go_upto_region 5 with (first
        | (refine wpl_load_at Tryz.bcT rfl _ rfl _ rfl [.string z.psn, .string z.dev, .int .i64 z.st, .int .i64 z.at_, .int .i64 z.un, .string z.note] rfl (fun j u hu => by rw [add_mk]; exact HC.out j u hu) ?_)
        | fail)
      rw [HW1.out]
      (try rw [HZB.out])
      clear HW1 HZB HC
      have k0 := HB.out.cell 0; have k1 := HB.out.cell 1; have k3 := HB.out.cell 3
      obtain ⟨V2, hV2⟩ : ∃ V, decide (z.at_ ≤ t) = V := ⟨_, rfl⟩
      by_cases hp : nb z.psn = nb p
      · have HV1 := Lib.hid hp
        obtain ⟨e1, e2, e3⟩ := eqS_yes hp
        clear hp
        cases V2
        · go_wp2_with fail
          go_roundw
          case rel => exact ⟨k + 1, M, by omega, by go_num, HG.out, HR0.out, HMP.out.fn (fun k' => by rw [HSN.out, if_neg (fun h => of_decide_eq_false hV2 h.2)]), by omega⟩
          case measure => simp [intOf]; omega
        · go_wp2_with (first
            | (refine wpl_load_all Tryz.bcT rfl _ rfl _ rfl _ _ HB.out rfl ?_)
            | (refine wpl_gput bcEnc_inj rfl _ _ _ _ rfl Tryz.underlying146 rfl z.dev z rfl rfl (by unfold maxLen; omega) HMP.out (by unfold maxLen; omega) ?_; intro w5 hm5 hg5; have HM5 := Lib.hid hm5; have HG5 := Lib.hid hg5; clear hm5 hg5)
            | fail)
          have HG6 := Lib.hid (gr_trans HG.out HG5.out (fun g e => .inr (by injection e with e; rw [← e]; omega)))
          have HR6 := Lib.hid (HR0.out.grown HG5.out (by simp))
          have hsn := HSN.out
          rw [if_pos ⟨HV1.out, of_decide_eq_true hV2⟩] at hsn
          have HM6 := Lib.hid (HM5.out.fn (g := pLast p t (l.take (k + 1))) (fun k' => by rw [hsn]))
          clear hsn
          go_roundw
          case rel => exact ⟨k + 1, M + 1, by omega, by go_num, HG6.out, HR6.out, HM6.out, by omega⟩
          case measure => simp [intOf]; omega
      · have HV1 := Lib.hid hp
        obtain ⟨e1, e2, e3⟩ := eqS_no hp
        clear hp
        go_wp2_with fail
        go_roundw
        case rel => exact ⟨k + 1, M, by omega, by go_num, HG.out, HR0.out, HMP.out.fn (fun k' => by rw [HSN.out, if_neg (fun h => HV1.out h.1)]), by omega⟩
        case measure => simp [intOf]; omega
    · obtain rfl : k = n := by omega
      replace HMP := Lib.hid (show MapG bcEnc wr (w.heap.size + 1) M (pLast p t l) by
        have h := HMP.out
        rw [List.take_of_length_le (by rw [H.out.1.len]; exact Nat.le_refl _)] at h
        exact h)
      have hml := HMP.out.lt
      go_wp2_with (first
        | (refine wpl_store_all Tryz.bcT rfl _ _ rfl _ rfl _ _ _ rfl (Blk.new _ _ _) rfl rfl (by simp [Value.oneCell']) ?_; intro wz hst
           have HST := Lib.hid hst
           have HM3 := Lib.hid ((HMP.out.kept (gr_alloc (gr_refl wr none) _) (by simp)).kept hst.2.1 (fun e => by injection e with e; omega))
           clear hst)
        | (at_range; refine wpl_grange rfl _ _ rfl Tryz.underlying146 rfl HM3.out ?_; intro w5 cnt hr5 hg5 hs5)
        | fail)
      go_frame
      have hzz : wz.heap.size = wr.heap.size + 1 := by have := HST.out.2.2; simpa using this
      have HG5 := Lib.hid (gr_none (gr_trans (gr_alloc HG.out _) HST.out.2.1 (fun g e => .inr (by injection e with e; omega))) hg5)
      have HR5 := Lib.hid (((HR0.out.alloc _).grown HST.out.2.1 (by simp; omega)).grown hg5 (by simp))
      have HB5 := Lib.hid (HST.out.1.grown hg5 (by simp))
      have HRG5 := Lib.hid hr5
      obtain ⟨bb, hbb⟩ : ∃ v, wr.heap.size = v := ⟨_, rfl⟩
      obtain ⟨rr, hrr⟩ : ∃ v, wz.heap.size = v := ⟨_, rfl⟩
      rw [hbb] at HB5
      rw [hrr] at HRG5
      (try rw [hrr])
      (try rw [hbb])
      have hlo : w.heap.size + 1 < bb := by rw [← hbb]; exact hml
      have hrb : bb < rr := by omega
      clear HG HR0 HMP HST HM3 hg5 hr5 hs5 hbb hrr hzz
      go_loopw [12, 14, 15, 16] (fun f _ _ _ w6 => ∃ (F : Bool) (B : BcV) (L : ByteArray → Bool) (cnt6 : Nat), f = .bool F ∧ w.grownBy w6 none ∧ Blk w6 w.heap.size 62 #[.string bc0.psn, .string bc0.dev, .int .i64 bc0.st, .int .i64 bc0.at_, .int .i64 bc0.un, .string bc0.note] ∧ Blk w6 bb 62 #[.string B.psn, .string B.dev, .int .i64 B.st, .int .i64 B.at_, .int .i64 B.un, .string B.note] ∧ RngG bcEnc w6 (w.heap.size + 1) rr M (pLast p t l) L cnt6 ∧ IsW (DoC (pLast p t l) L t) F B) (fun _ _ _ _ w6 => w6.rangeLeft (w.heap.size + 1) rr)
      case atStart => exact ⟨false, bc0, _, cnt, rfl, HG5.out, HR5.out, HB5.out, HRG5.out, .inr ⟨rfl, rfl, fun d hd => by
        obtain ⟨⟨k', h1, h2⟩, _⟩ := hd
        dsimp only at h2
        rw [h1] at h2; cases h2⟩⟩
      case round =>
        clear HG5 HR5 HB5 HRG5
        obtain ⟨F, B, L, cnt6, rfl, hg, hr0, hbb, hrg, hw⟩ := hrel
        have HG := Lib.hid hg; have HR0 := Lib.hid hr0; have HBB := Lib.hid hbb; have HRG0 := Lib.hid hrg; have HW := Lib.hid hw; clear hg hr0 hbb hrg hw
        go_wp2_with (first
          | (at_next; refine wpl_gnext bcEnc_inj rfl _ rfl rfl HRG0.out ?_ ?_)
          | fail)
        · intro hL0
          have HFIN := Lib.hid (prs_of HL.out (HW.out.same (doC_all HL.out hL0)))
          go_wp2_with (first
            | (refine wpl_load_all Tryz.bcT rfl _ rfl _ rfl _ _ HBB.out rfl ?_)
            | (refine wpl_store_all Tryz.bcT rfl _ _ rfl _ rfl _ _ _ rfl HR0.out rfl rfl (by simp [Value.oneCell']) ?_; intro wz hst; have HST := Lib.hid hst; clear hst)
            | fail)
          refine ret_cell_tmp Tryz.bcT rfl w.heap.size 62 #[.string B.psn, .string B.dev, .int .i64 B.st, .int .i64 B.at_, .int .i64 B.un, .string B.note] _ rfl rfl HST.out.1 rfl rfl ?_
          exact ⟨by rw [HFIN.out]; rfl, gr_trans HG.out HST.out.2.1 (fun g e => .inr (by injection e with e; omega))⟩
        · intro x z w7 cnt7 hfx hlx hrg7 hlt7 hg7 hs7 hen7
          have hrl := HRG0.out.lt
          replace HG := Lib.hid (gr_trans HG.out hg7 (fun g e => .inr (by injection e with e; omega)))
          replace HR0 := Lib.hid (HR0.out.grown hg7 (by simp; omega))
          replace HBB := Lib.hid (HBB.out.grown hg7 (by simp; omega))
          unfold bcEnc at hen7
          obtain ⟨w8, hw8⟩ : ∃ v, w7.alloc (.cells #[.string z.psn, .string z.dev, .int .i64 z.st, .int .i64 z.at_, .int .i64 z.un, .string z.note] 62) = v := ⟨_, rfl⟩
          obtain ⟨zb, hzb⟩ : ∃ b, w7.heap.size = b := ⟨_, rfl⟩
          have HB := Lib.hid (show Blk w8 zb 62 #[.string z.psn, .string z.dev, .int .i64 z.st, .int .i64 z.at_, .int .i64 z.un, .string z.note] by rw [← hw8, ← hzb]; exact Blk.new _ _ _)
          replace HG := Lib.hid (show w.grownBy w8 none by rw [← hw8]; exact gr_alloc HG.out _)
          replace HR0 := Lib.hid (show Blk w8 w.heap.size 62 #[.string bc0.psn, .string bc0.dev, .int .i64 bc0.st, .int .i64 bc0.at_, .int .i64 bc0.un, .string bc0.note] by rw [← hw8]; exact HR0.out.alloc _)
          replace HBB := Lib.hid (show Blk w8 bb 62 #[.string B.psn, .string B.dev, .int .i64 B.st, .int .i64 B.at_, .int .i64 B.un, .string B.note] by rw [← hw8]; exact HBB.out.alloc _)
          have HRG := Lib.hid (show RngG bcEnc w8 (w.heap.size + 1) rr M (pLast p t l) (fun k' => L k' && decide (nb k' ≠ nb x)) cnt7 by
            have e : (fun k' => L k' && decide (nb k' ≠ nb x)) = (fun k' => L k' && !decide (nb k' = nb x)) := by funext k'; simp
            rw [← hw8, e]
            exact hrg7.kept (gr_alloc (gr_refl _ none) _) (by simp) (by simp))
          have HW8 := Lib.hid hw8; have HZB := Lib.hid hzb
          clear hw8 hzb hg7 hs7 hrg7
          go_upto_region 12 with (fail)
          rw [HW8.out]
          (try rw [HZB.out])
          clear HW8 HZB hen7
          have k4 := HB.out.cell 4
          obtain ⟨V3, hV3⟩ : ∃ V, decide (z.un ≤ t) = V := ⟨_, rfl⟩
          cases V3
          · have HUN := Lib.hid (show t < z.un by have := of_decide_eq_false hV3; omega)
            go_upto_region 14 with (fail)
            clear k4
            refine H_begin (fun w' => w8.grownBy w' none) (by kernel_rfl) ?_
            have hHeld : w8.grownBy w8.drew none := gr_drew (gr_refl _ _)
            generalize w8.drew = wd at hHeld ⊢
            refine H_take (k := 0) (v := ?_) (by rfl) (by kernel_rfl) (by kernel_rfl) (by kernel_rfl) (by exact fun _ _ _ h => h) (by rfl) ?_ (by assumption) ?_
            rotate_left 1
            · intro w hSw
              (try dsimp only at hSw)
              go_simp
              (try with_reducible rfl)
            (try simp only [Act.put, List.setIfInBounds_toArray, List.set_cons_zero, List.set_cons_succ])
            refine H_take (k := 1) (v := .agg #[.string z.psn, .string z.dev, .int .i64 z.st, .int .i64 z.at_, .int .i64 z.un, .string z.note]) (by rfl) (by kernel_rfl) (by kernel_rfl) (by kernel_rfl) (by exact fun _ _ _ h => h) (by rfl) (fun w' hSw => exec_ldb Tryz.bcT _ rfl _ rfl 62 [.string z.psn, .string z.dev, .int .i64 z.st, .int .i64 z.at_, .int .i64 z.un, .string z.note] (HB.out.grown hSw (by simp)) rfl) (by assumption) ?_
            (try simp only [Act.put, List.setIfInBounds_toArray, List.set_cons_zero, List.set_cons_succ])
            refine H_take (k := 3) (v := ?_) (by rfl) (by kernel_rfl) (by kernel_rfl) (by kernel_rfl) (by exact fun _ _ _ h => h) (by rfl) ?_ (by assumption) ?_
            rotate_left 1
            · intro w hSw
              (try dsimp only at hSw)
              go_simp
              (try with_reducible rfl)
            (try simp only [Act.put, List.setIfInBounds_toArray, List.set_cons_zero, List.set_cons_succ])
            refine H_take (k := 4) (v := .agg #[.string B.psn, .string B.dev, .int .i64 B.st, .int .i64 B.at_, .int .i64 B.un, .string B.note]) (by rfl) (by kernel_rfl) (by kernel_rfl) (by kernel_rfl) (by exact fun _ _ _ h => h) (by rfl) (fun w' hSw => exec_ldb Tryz.bcT _ rfl _ rfl 62 [.string B.psn, .string B.dev, .int .i64 B.st, .int .i64 B.at_, .int .i64 B.un, .string B.note] (HBB.out.grown hSw (by simp)) rfl) (by assumption) ?_
            (try simp only [Act.put, List.setIfInBounds_toArray, List.set_cons_zero, List.set_cons_succ])
            refine H_run (k := 2) (by rfl) (by kernel_rfl) (by rfl) (fun K hK => ?_)
            go_simp
            refine (points_any z _).mono ?_
            rintro e w9 ⟨P1, rfl, hp1, hlo1, hg9⟩
            have hgz := gr_none hHeld hg9
            refine hK _ _ hgz ?_
            clear hK K hHeld hg9
            have hHeld := hgz
            (try simp only [Act.put, List.setIfInBounds_toArray, List.set_cons_zero, List.set_cons_succ])
            refine H_run (k := 5) (by rfl) (by kernel_rfl) (by rfl) (fun K hK => ?_)
            go_simp
            refine (points_any B _).mono ?_
            rintro e w10 ⟨P2, rfl, hp2, hlo2, hg10⟩
            have hgy := gr_none hHeld hg10
            refine hK _ _ hgy ?_
            have HP1 := Lib.hid (hp1.grown hg10 (by simp))
            have HP2 := Lib.hid hp2
            clear hK K hHeld hg10 hgz hp1 hp2
            have hHeld := hgy
            (try simp only [Act.put, List.setIfInBounds_toArray, List.set_cons_zero, List.set_cons_succ])
            obtain ⟨Q, hQ⟩ : ∃ q, cmpLL cmpZ [z.st, z.at_] [B.st, B.at_] = q := ⟨_, rfl⟩
            have HQ := Lib.hid hQ
            have HV := Lib.hid (prB_doc z B)
            rw [hQ] at HV
            clear hQ
            refine H_run (k := 6) (by rfl) (by kernel_rfl) (by rfl) (fun K hK => ?_)
            go_simp
            refine (compareI_any P1 P2 _ _ 2 2 2 2 [z.st, z.at_] [B.st, B.at_] _ ⟨Reads.blk HP1.out 1 2 rfl, rfl⟩ ⟨Reads.blk HP2.out 1 2 rfl, rfl⟩ (by omega) (by omega)).mono ?_
            rintro e w11 ⟨rfl, rfl⟩
            rw [HQ.out]
            refine hK _ _ hHeld ?_
            clear hK K
            (try simp only [Act.put, List.setIfInBounds_toArray, List.set_cons_zero, List.set_cons_succ])
            refine H_take (k := 7) (v := ?_) (by rfl) (by kernel_rfl) (by kernel_rfl) (by kernel_rfl) (by exact fun _ _ _ h => h) (by rfl) ?_ (by assumption) ?_
            rotate_left 1
            · intro w hSw
              (try dsimp only at hSw)
              go_simp
              (try with_reducible rfl)
            (try simp only [Act.put, List.setIfInBounds_toArray, List.set_cons_zero, List.set_cons_succ])
            refine H_done (by kernel_rfl) ?_
            replace HG := Lib.hid (gr_none HG.out hHeld); replace HR0 := Lib.hid (HR0.out.grown hHeld (by simp)); replace HBB := Lib.hid (HBB.out.grown hHeld (by simp)); replace HB := Lib.hid (HB.out.grown hHeld (by simp)); replace HRG := Lib.hid (HRG.out.kept hHeld (by simp) (by simp))
            clear hHeld hgy HP1 HP2 HQ
            have k1 := HB.out.cell 1
            have j1 := HBB.out.cell 1
            cases F
            · have HPB := Lib.hid (show false = false ∨ PrB z B from .inl rfl)
              go_wp2_with (first
                | (refine wpl_load_all Tryz.bcT rfl _ rfl _ rfl _ _ HB.out rfl ?_)
                | (refine wpl_store_all Tryz.bcT rfl _ _ rfl _ rfl _ _ _ rfl HBB.out rfl rfl (by simp [Value.oneCell']) ?_; intro wz hst; have HST := Lib.hid hst; clear hst)
                | fail)
              have HG9 := Lib.hid (gr_trans HG.out HST.out.2.1 (fun g e => .inr (by injection e with e; rw [← e]; omega)))
              have HR9 := Lib.hid (HR0.out.grown HST.out.2.1 (by simp; omega))
              have HRN := Lib.hid (HRG.out.kept HST.out.2.1 (by simp; omega) (by simp; omega))
              go_roundw
              case rel => exact ⟨true, z, _, cnt7, rfl, HG9.out, HR9.out, HST.out.1, HRN.out, HW.out.put (doC_add hfx HUN.out) HPB.out⟩
              case measure => rw [HRN.out.left_eq, HRG0.out.left_eq]; exact hlt7
            · obtain ⟨V5, hV5⟩ : ∃ V, decide (0 < Q) = V := ⟨_, rfl⟩
              cases V5
              · by_cases hq0 : Q = 0
                · have q1 : (Q == 0) = true := by rw [hq0]; rfl
                  have q2 : decide (Q = 0) = true := decide_eq_true hq0
                  obtain ⟨V6, hV6⟩ : ∃ V, Op.bytesLess z.dev.toList B.dev.toList = V := ⟨_, rfl⟩
                  have HV6 := Lib.hid ((ltS_cmp z.dev B.dev).symm.trans hV6)
                  cases V6
                  · have HNB := Lib.hid (show ¬ PrB z B from fun h => (HV.out.1 h).elim (of_decide_eq_false hV5) (fun h => of_decide_eq_false HV6.out h.2))
                    go_wp2_with fail
                    go_roundw
                    case rel => exact ⟨true, B, _, cnt7, rfl, HG.out, HR0.out, HBB.out, HRG.out, HW.out.stay (doC_add hfx HUN.out) rfl HNB.out⟩
                    case measure => rw [HRG.out.left_eq, HRG0.out.left_eq]; exact hlt7
                  · have HPB := Lib.hid (show true = false ∨ PrB z B from .inr (HV.out.2 (.inr ⟨hq0, of_decide_eq_true HV6.out⟩)))
                    go_wp2_with (first
                      | (refine wpl_load_all Tryz.bcT rfl _ rfl _ rfl _ _ HB.out rfl ?_)
                      | (refine wpl_store_all Tryz.bcT rfl _ _ rfl _ rfl _ _ _ rfl HBB.out rfl rfl (by simp [Value.oneCell']) ?_; intro wz hst; have HST := Lib.hid hst; clear hst)
                      | fail)
                    have HG9 := Lib.hid (gr_trans HG.out HST.out.2.1 (fun g e => .inr (by injection e with e; rw [← e]; omega)))
                    have HR9 := Lib.hid (HR0.out.grown HST.out.2.1 (by simp; omega))
                    have HRN := Lib.hid (HRG.out.kept HST.out.2.1 (by simp; omega) (by simp; omega))
                    go_roundw
                    case rel => exact ⟨true, z, _, cnt7, rfl, HG9.out, HR9.out, HST.out.1, HRN.out, HW.out.put (doC_add hfx HUN.out) HPB.out⟩
                    case measure => rw [HRN.out.left_eq, HRG0.out.left_eq]; exact hlt7
                · have q1 : (Q == 0) = false := beq_eq_false_iff_ne.2 hq0
                  have q2 : decide (Q = 0) = false := decide_eq_false hq0
                  have HNB := Lib.hid (show ¬ PrB z B from fun h => (HV.out.1 h).elim (of_decide_eq_false hV5) (fun h => hq0 h.1))
                  go_wp2_with fail
                  go_roundw
                  case rel => exact ⟨true, B, _, cnt7, rfl, HG.out, HR0.out, HBB.out, HRG.out, HW.out.stay (doC_add hfx HUN.out) rfl HNB.out⟩
                  case measure => rw [HRG.out.left_eq, HRG0.out.left_eq]; exact hlt7
              · have HPB := Lib.hid (show true = false ∨ PrB z B from .inr (HV.out.2 (.inl (of_decide_eq_true hV5))))
                go_wp2_with (first
                  | (refine wpl_load_all Tryz.bcT rfl _ rfl _ rfl _ _ HB.out rfl ?_)
                  | (refine wpl_store_all Tryz.bcT rfl _ _ rfl _ rfl _ _ _ rfl HBB.out rfl rfl (by simp [Value.oneCell']) ?_; intro wz hst; have HST := Lib.hid hst; clear hst)
                  | fail)
                have HG9 := Lib.hid (gr_trans HG.out HST.out.2.1 (fun g e => .inr (by injection e with e; rw [← e]; omega)))
                have HR9 := Lib.hid (HR0.out.grown HST.out.2.1 (by simp; omega))
                have HRN := Lib.hid (HRG.out.kept HST.out.2.1 (by simp; omega) (by simp; omega))
                go_roundw
                case rel => exact ⟨true, z, _, cnt7, rfl, HG9.out, HR9.out, HST.out.1, HRN.out, HW.out.put (doC_add hfx HUN.out) HPB.out⟩
                case measure => rw [HRN.out.left_eq, HRG0.out.left_eq]; exact hlt7
          · have HUN := Lib.hid (show ¬ t < z.un by have := of_decide_eq_true hV3; omega)
            go_wp2_with fail
            go_roundw
            case rel => exact ⟨F, B, _, cnt7, rfl, HG.out, HR0.out, HBB.out, HRG.out, HW.out.same (doC_skip hfx HUN.out)⟩
            case measure => rw [HRG.out.left_eq, HRG0.out.left_eq]; exact hlt7
end Go.Proofs.YtgogiljplnninaaGreatDoor

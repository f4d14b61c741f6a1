/- Contracts of the generators of codecs and of their texts. Conditions: the table of powers of ten, outside the stream's block. -/
import Derived.Test.YtoddgaocochdgaaGreatDoorCd5
import Derived.Test.YtoddgaocochdgaaGreatDoorBun3
import Derived.Test.YtoddgaocochdgaaGreatDoorBun2
namespace Go.Proofs.YtoddgaocochdgaaGreatDoor
open Go.RowKit

theorem gr_to {a b : World} {r : Option Nat} (h : a.grownBy b r) : a.grownBy b r := h
/-- A codec as it is drawn. -/
def CdR (z : CdV) : Prop := z.nm.size ≤ 4 ∧ -1099511627776 ≤ z.ty ∧ z.ty ≤ 1099511627776 ∧ -1099511627776 ≤ z.rt ∧ z.rt ≤ 1099511627776
theorem CdR.n {z : CdV} (h : CdR z) : CdN z := by obtain ⟨h0, h1, h2, h3, h4⟩ := h; exact ⟨by omega, by omega, by omega, by omega⟩
def CdsR (l : List CdV) : Prop := ∀ z ∈ l, CdR z
theorem CdsR.app {l : List CdV} {z : CdV} (h : CdsR l) (hz : CdR z) : CdsR (l ++ [z]) := fun x hx => by
  rcases List.mem_append.1 hx with h1 | h1
  · exact h x h1
  · rw [List.mem_singleton.1 h1]; exact hz
theorem CdsR.ok {l : List CdV} (h : CdsR l) : ∀ z ∈ l, CdOk z := fun z hz => by have := (h z hz).1; show z.nm.size ≤ _; omega
theorem kinds4 (k : Nat) (hk : k < 4) {w : World} {g : Nat} (h : Blk w g 3 #[.int .i64 0, .int .i64 8, .int .i64 9, .int .i64 96]) : ∃ n : Int, 0 ≤ n ∧ n ≤ 96 ∧ w.cell? ⟨g, k, none⟩ = some (.int .i64 n) := by
  rcases (by omega : k = 0 ∨ k = 1 ∨ k = 2 ∨ k = 3) with rfl | rfl | rfl | rfl
  · exact ⟨_, by decide, by decide, h.cell 0⟩
  · exact ⟨_, by decide, by decide, h.cell 1⟩
  · exact ⟨_, by decide, by decide, h.cell 2⟩
  · exact ⟨_, by decide, by decide, h.cell 3⟩
set_option maxHeartbeats 8000000 in
set_option maxRecDepth 100000 in
theorem rightCodecs_any (sb : Nat) (m : Int) (w : World) (hs : Str w sb m) (hm : m ≤ 1000000000) : Calls Tryz.prog 50 #[.pointer (some ⟨sb, 0, none⟩)] w (Drawn sb (m + 40) (fun v w' => ∃ A n c l, v = .slice A n c ∧ OwnR CdV.row 3 w' w.heap.size 43 A n c l ∧ CdsR l ∧ n ≤ 4) w) := by
  have hlt := hs.lt
  have HS0 := Lib.hid hs; clear hs
  go_enter Tryz.func50, Tryz.ntmps50
  go_wp2_with fail
  go_loopw [3, 5, 6, 9] (fun out _ _ t wr => ∃ (k n c : Nat) (A : Option Addr) (l : List CdV), k ≤ 4 ∧ t = .int .i64 k ∧ out = .slice A n c ∧ n ≤ k ∧ Str wr sb (m + 10 * k) ∧ w.grownBy wr (some sb) ∧ Blk wr w.heap.size 3 #[.int .i64 0, .int .i64 8, .int .i64 9, .int .i64 96] ∧ OwnR CdV.row 3 wr w.heap.size 43 A n c l ∧ CdsR l) (fun _ _ _ t _ => 4 - (intOf t).toNat)
  case atStart => exact ⟨0, 0, 0, none, [], Nat.zero_le _, rfl, rfl, Nat.le_refl _, (HS0.out.alloc _).mono (by omega), gr_alloc (gr_refl _ _) _, Blk.new _ _ _, OwnR.nil _ _ _, (fun z hz => by cases hz)⟩
  case round =>
    obtain ⟨k, n, c, A, l, hk, rfl, rfl, hnk, hs, hg, hn, hown, hlr⟩ := hrel
    have zr := hg.size
    have HS := Lib.hid hs; have HG := Lib.hid hg; have HO := Lib.hid hown; have HN := Lib.hid hn; have HLR := Lib.hid hlr; clear hs hg hown hn hlr
    have zn := HN.out.lt
    have HNE := Lib.hid (show blkOf A ≠ some w.heap.size from HO.out.1.blk_ne HN.out (by decide))
    by_cases hlt2 : k < 4
    · obtain ⟨ky, hk0, hk9, hkc⟩ := kinds4 k hlt2 HN.out
      have qk : IntKind.i64.wrap (ky + 1) = ky + 1 := IntWalk.i64_in _ (by omega)
      go_wp2_with fail
      refine (pick_new sb _ [ky, ky, ky + 1] _ HS.out (by omega) (by simp) rfl rfl (by simp) (by simp)).mono ?_
      rintro e w2 ⟨v2, rfl, ⟨r2, hr2, rfl⟩, hs2, hg2⟩
      have hb2 : 0 ≤ r2 ∧ r2 ≤ 97 := by simp only [List.mem_cons, List.not_mem_nil, or_false] at hr2; omega
      clear hr2
      have z2 := hg2.size; (try simp at z2)
      replace HO := Lib.hid (HO.out.low hg2 (fun g e => by injection e with e; omega))
      (try replace HN := Lib.hid (HN.out.grown hg2 (by simp; omega)))
      replace HG := Lib.hid (gr_same (a := w) HG.out hg2)
      replace HS := Lib.hid hs2
      clear hs2 hg2
      clear hkc qk
      go_wp2_with fail
      refine (some_new (n := 3) sb _ 4 _ HS.out (by omega) (by simp) (by
        repeat (first | exact StrsOk.nil _ | refine StrsOk.cons (by decide) ?_)) rfl (by omega) (by omega)).mono ?_
      rintro e w3 ⟨v3, rfl, ⟨y3, rfl, hy3⟩, hs3, hg3⟩
      have z3 := hg3.size; (try simp at z3)
      replace HO := Lib.hid (HO.out.low hg3 (fun g e => by injection e with e; omega))
      (try replace HN := Lib.hid (HN.out.grown hg3 (by simp; omega)))
      replace HG := Lib.hid (gr_same (a := w) HG.out hg3)
      replace HS := Lib.hid hs3
      clear hs3 hg3
      go_wp2_with fail
      refine (pick_new sb _ [8000, 8000, 16000] _ HS.out (by omega) (by simp) rfl rfl (by simp) (by simp)).mono ?_
      rintro e w4 ⟨v4, rfl, ⟨r4, hr4, rfl⟩, hs4, hg4⟩
      have hb4 : 8000 ≤ r4 ∧ r4 ≤ 16000 := by simp only [List.mem_cons, List.not_mem_nil, or_false] at hr4; omega
      clear hr4
      have z4 := hg4.size; (try simp at z4)
      replace HO := Lib.hid (HO.out.low hg4 (fun g e => by injection e with e; omega))
      (try replace HN := Lib.hid (HN.out.grown hg4 (by simp; omega)))
      replace HG := Lib.hid (gr_same (a := w) HG.out hg4)
      replace HS := Lib.hid hs4
      clear hs4 hg4
      have HOR := Lib.hid (HLR.out.app (z := ⟨r2, r4, y3⟩) ⟨hy3, by show _ ≤ r2; omega, by show r2 ≤ _; omega, by show _ ≤ r4; omega, by show r4 ≤ _; omega⟩)
      have HOK := Lib.hid HOR.out.ok
      obtain ⟨E, hE⟩ : ∃ E, cdE (l ++ [⟨r2, r4, y3⟩]) = E := ⟨_, rfl⟩
      have HE := Lib.hid hE
      clear hE hb2 hb4
      obtain ⟨w5, hw5⟩ : ∃ v, w4.alloc (.cells #[.int .i64 r2, .int .i64 r4, .string y3] 43) = v := ⟨_, rfl⟩
      obtain ⟨cb, hcb⟩ : ∃ b, w4.heap.size = b := ⟨_, rfl⟩
      have hg5 : w4.grownBy w5 (some sb) := by rw [← hw5]; exact gr_alloc (gr_refl _ _) _
      have HS6 := Lib.hid (show Str w5 sb _ by rw [← hw5]; exact HS.out.alloc _)
      have HB6 := Lib.hid (show Blk w5 cb 43 #[.int .i64 r2, .int .i64 r4, .string y3] by rw [← hw5, ← hcb]; exact Blk.new _ _ _)
      have HO6 := Lib.hid (HO.out.low hg5 (fun g e => by injection e with e; omega))
      have HN6 := Lib.hid (HN.out.grown hg5 (by simp; omega))
      have HG6 := Lib.hid (gr_same (a := w) HG.out hg5)
      have z5 := hg5.size
      have HW5 := Lib.hid hw5; have HCB := Lib.hid hcb
      have hcs : sb < cb := by rw [← hcb]; omega
      clear hw5 hcb hg5 HS HO HN HG
      go_upto_region 6 with (fail)
      rw [HW5.out]
      (try rw [HCB.out])
      clear HW5 HCB
      refine H_begin (fun w' => w5.grownBy w' (some sb)) (by kernel_rfl) ?_
      have hHeld : w5.grownBy w5.drew (some sb) := gr_drew (gr_refl _ _)
      refine H_take (k := 0) (v := ?_) (by rfl) (by kernel_rfl) (by kernel_rfl) (by kernel_rfl) (by exact fun _ _ _ h => h) (by rfl) ?_ (by assumption) ?_
      rotate_left 1
      · intro w hSw
        (try dsimp only at hSw)
        go_simp
        (try with_reducible rfl)
      (try simp only [Act.put, List.setIfInBounds_toArray, List.set_cons_zero, List.set_cons_succ])
      refine H_run (k := 1) (by rfl) (by kernel_rfl) (by rfl) (fun K hK => ?_)
      go_simp
      refine (flip_any sb _ 3 _ HS6.out.drew (by omega) (by omega) (by omega)).mono ?_
      rintro e wd ⟨v6, rfl, ⟨f6, rfl⟩, hs6, hg6⟩
      have hgz := gr_same hHeld hg6
      refine hK _ _ hgz ?_
      clear hK K hHeld
      have hHeld := hgz
      have HS := Lib.hid hs6
      clear hgz hs6 hg6 HS6
      (try simp only [Act.put, List.setIfInBounds_toArray, List.set_cons_zero, List.set_cons_succ])
      refine H_take (k := 2) (v := ?_) (by rfl) (by kernel_rfl) (by kernel_rfl) (by kernel_rfl) (by exact fun _ _ _ h => h) (by rfl) ?_ (by assumption) ?_
      rotate_left 1
      · intro w hSw
        (try dsimp only at hSw)
        go_simp
        (try with_reducible rfl)
      (try simp only [Act.put, List.setIfInBounds_toArray, List.set_cons_zero, List.set_cons_succ])
      refine H_take (k := 3) (v := ?_) (by rfl) (by kernel_rfl) (by kernel_rfl) (by kernel_rfl) (by exact fun _ _ _ h => h) (by rfl) ?_ (by assumption) ?_
      rotate_left 1
      · intro w hSw
        (try dsimp only at hSw)
        go_simp
        (try with_reducible rfl)
      (try simp only [Act.put, List.setIfInBounds_toArray, List.set_cons_zero, List.set_cons_succ])
      cases f6
      · refine H_take (k := 4) (v := ?_) (by rfl) (by kernel_rfl) (by kernel_rfl) (by kernel_rfl) (by exact fun _ _ _ h => h) (by rfl) ?_ (by assumption) ?_
        rotate_left 1
        · intro w hSw
          (try dsimp only at hSw)
          go_simp
          (try with_reducible rfl)
        (try simp only [Act.put, List.setIfInBounds_toArray, List.set_cons_zero, List.set_cons_succ])
        refine H_take (k := 6) (v := .agg #[.int .i64 r2, .int .i64 r4, .string y3]) (by rfl) (by kernel_rfl) (by kernel_rfl) (by kernel_rfl) (by exact fun _ _ _ h => h) (by rfl) (fun w' hSw => exec_ldb Tryz.cdT _ rfl _ rfl 43 [.int .i64 r2, .int .i64 r4, .string y3] (HB6.out.grown hSw (by simp; omega)) rfl) (by assumption) ?_
        (try simp only [Act.put, List.setIfInBounds_toArray, List.set_cons_zero, List.set_cons_succ])
        refine H_runTwo (k1 := 5) (k2 := 7) (by rfl) (by rfl) (by kernel_rfl) (by rfl) (by rfl) (fun K hK => ?_) (fun K hK => ?_)
        · go_simp
          refine (cloneCd_any _ A n c l _ ((HO6.out.low (gr_to hHeld) (fun g e => by injection e with e; omega)).recs) (by omega)).mono ?_
          rintro e wc ⟨A', c', rfl, hoc, hgc⟩
          have hgz := gr_none hHeld hgc
          replace HS := Lib.hid (HS.out.grown hgc (fun g e => by cases e))
          refine hK _ _ hgz ?_
          clear hK K
          have zd := hHeld.size
          have zc := hgc.size
          (try simp only [Act.put, List.setIfInBounds_toArray, List.set_cons_zero, List.set_cons_succ])
          refine H_run (k := 7) (by rfl) (by kernel_rfl) (by rfl) (fun K hK => ?_)
          go_simp
          obtain ⟨wv, hwv⟩ : ∃ v, wc.alloc (.cells #[.int .i64 r2, .int .i64 r4, .string y3] 43) = v := ⟨_, rfl⟩
          obtain ⟨GB, hGB⟩ : ∃ b, wc.heap.size = b := ⟨_, rfl⟩
          obtain ⟨LO, hLO⟩ : ∃ b, wd.heap.size = b := ⟨_, rfl⟩
          have hga : wc.grownBy wv none := by rw [← hwv]; exact gr_alloc (gr_refl _ _) _
          have za := hga.size
          have HRD := Lib.hid (show Reads wv GB 3 (some ⟨GB, 0, none⟩) 1 1 [.int .i64 r2, .int .i64 r4, .string y3] by rw [← hwv, ← hGB]; exact Reads.one _ _ _ _ rfl)
          have HOC := Lib.hid (show OwnR CdV.row 3 wv LO 43 A' n c' l by rw [← hLO]; exact hoc.kept hga (fun g e => by cases e))
          have hgy := gr_none hgz hga
          replace HS := Lib.hid (HS.out.grown hga (fun g e => by cases e))
          (try rw [hwv])
          (try rw [hGB])
          refine hK _ _ hgy ?_
          clear hK K hHeld hgz hwv hga hoc hgc
          have hHeld := hgy
          clear hgy
          (try simp only [Act.put, List.setIfInBounds_toArray, List.set_cons_zero, List.set_cons_succ])
          refine H_run (k := 8) (by rfl) (by kernel_rfl) (by rfl) (fun K hK => ?_)
          refine wp_app _ _ _ Tryz.cdsT (by rfl) LO A' n c' _ (by rfl) (by exact HOC.out.1) _ _ 1 1 [.int .i64 r2, .int .i64 r4, .string y3] (by rfl) (by exact HRD.out) (by simp [Value.oneCell']) (by unfold maxLen; omega) (by omega) (by omega) ?_
          intro A9 c9 w9 h9
          have HO9 := Lib.hid (HOC.out.app (a := (⟨r2, r4, y3⟩ : CdV)) rfl h9)
          have hgz := gr_own hHeld HOC.out.1 (by omega) h9.2.1
          replace HS := Lib.hid (HS.out.grown h9.2.1 (fun g e => by have := (HOC.out.1.lt e).1; omega))
          refine hK _ _ hgz ?_
          clear hK K hHeld h9
          have hHeld := hgz
          clear hgz HOC HRD
          (try simp only [Act.put, List.setIfInBounds_toArray, List.set_cons_zero, List.set_cons_succ])
          refine H_run (k := 9) (by rfl) (by kernel_rfl) (by rfl) (fun K hK => ?_)
          go_simp
          refine (codecsFault_any LO A9 (n + 1) c9 (l ++ [⟨r2, r4, y3⟩]) _ ⟨HO9.out.recs, HOK.out⟩ (by omega)).mono ?_
          rintro e wx ⟨rfl, hgx⟩
          rw [HE.out]
          have hgz := gr_none hHeld hgx
          replace HS := Lib.hid (HS.out.grown hgx (fun g e => by cases e))
          refine hK _ _ hgz ?_
          clear hK K hHeld hgx HO9
          have hHeld := hgz
          clear hgz
          (try simp only [Act.put, List.setIfInBounds_toArray, List.set_cons_zero, List.set_cons_succ])
          refine H_take (k := 10) (v := ?_) (by rfl) (by kernel_rfl) (by kernel_rfl) (by kernel_rfl) (by exact fun _ _ _ h => h) (by rfl) ?_ (by assumption) ?_
          rotate_left 1
          · intro w hSw
            (try dsimp only at hSw)
            go_simp
            (try with_reducible rfl)
          (try simp only [Act.put, List.setIfInBounds_toArray, List.set_cons_zero, List.set_cons_succ])
          refine H_take (k := 11) (v := ?_) (by rfl) (by kernel_rfl) (by kernel_rfl) (by kernel_rfl) (by exact fun _ _ _ h => h) (by rfl) ?_ (by assumption) ?_
          rotate_left 1
          · intro w hSw
            (try dsimp only at hSw)
            go_simp
            (try with_reducible rfl)
          (try simp only [Act.put, List.setIfInBounds_toArray, List.set_cons_zero, List.set_cons_succ])
          refine H_done (by kernel_rfl) ?_
          have zx := hHeld.size
          replace HO := Lib.hid (HO6.out.low hHeld (fun g e => by injection e with e; omega))
          replace HN := Lib.hid (HN6.out.grown hHeld (by simp; omega))
          replace HB := Lib.hid (HB6.out.grown hHeld (by simp; omega))
          replace HG := Lib.hid (gr_same (a := w) HG6.out hHeld)
          clear hHeld HO6 HN6 HB6 HG6
          by_cases hz : E = 0
          · have dz : (E == 0) = true := by simpa using hz
            go_wp2_with (first
              | (refine wpl_load_all Tryz.cdT rfl _ rfl _ rfl _ _ HB.out rfl ?_)
              | (at_builtin
                 refine wpl_app _ rfl _ _ Tryz.cdsT rfl w.heap.size A n c _ rfl (by exact HO.out.1.alloc _) _ _ 1 1 [.int .i64 r2, .int .i64 r4, .string y3] rfl (by exact Reads.one _ _ _ _ rfl) (by simp [Value.oneCell']) (by unfold maxLen; omega) (by omega) (by simp; have := HG.out.size; omega) ?_
                 intro A5 c5 wy h5
                 have H5 := Lib.hid h5; clear h5)
              | fail)
            go_roundw
            case rel => exact ⟨k + 1, n + 1, c5, A5, l ++ [⟨r2, r4, y3⟩], by omega, by go_num, rfl, by omega, ((HS.out.alloc _).grown H5.out.2.1 (fun g e => by have := (HO.out.1.lt e).1; omega)).mono (by omega), H5.out.gr (gr_alloc HG.out _) (HO.out.1.alloc _) (Nat.le_refl _), (HN.out.alloc _).grown H5.out.2.1 (fun e => HNE.out e.symm), (HO.out.alloc _).app rfl H5.out, HOR.out⟩
            case measure => simp [intOf]; omega
          · have dz : (E == 0) = false := by simpa using hz
            go_wp2_with fail
            go_roundw
            case rel => exact ⟨k + 1, n, c, A, l, by omega, by go_num, rfl, by omega, HS.out.mono (by omega), HG.out, HN.out, HO.out, HLR.out⟩
            case measure => simp [intOf]; omega
        · go_simp
          obtain ⟨wa, hwa⟩ : ∃ v, wd.alloc (.cells #[.int .i64 r2, .int .i64 r4, .string y3] 43) = v := ⟨_, rfl⟩
          obtain ⟨GB, hGB⟩ : ∃ b, wd.heap.size = b := ⟨_, rfl⟩
          have hga : wd.grownBy wa none := by rw [← hwa]; exact gr_alloc (gr_refl _ _) _
          have hrd : Reads wa GB 3 (some ⟨GB, 0, none⟩) 1 1 [.int .i64 r2, .int .i64 r4, .string y3] := by rw [← hwa, ← hGB]; exact Reads.one _ _ _ _ rfl
          have zd := hHeld.size
          have za := hga.size
          have hgy := gr_none hHeld hga
          replace HS := Lib.hid (HS.out.grown hga (fun g e => by cases e))
          (try rw [hwa])
          (try rw [hGB])
          refine hK _ _ hgy ?_
          clear hK K hHeld hwa hga
          have hHeld := hgy
          clear hgy
          (try simp only [Act.put, List.setIfInBounds_toArray, List.set_cons_zero, List.set_cons_succ])
          refine H_run (k := 5) (by rfl) (by kernel_rfl) (by rfl) (fun K hK => ?_)
          go_simp
          obtain ⟨LO, hLO⟩ : ∃ b, wa.heap.size = b := ⟨_, rfl⟩
          refine (cloneCd_any _ A n c l _ ((HO6.out.low (gr_to hHeld) (fun g e => by injection e with e; omega)).recs) (by omega)).mono ?_
          rintro e wc ⟨A', c', rfl, hoc, hgc⟩
          obtain ⟨wv, rfl⟩ : ∃ v : World, v = wc := ⟨_, rfl⟩
          have zc := hgc.size
          have hgz := gr_none hHeld hgc
          replace HS := Lib.hid (HS.out.grown hgc (fun g e => by cases e))
          have HRD := Lib.hid (hrd.grown hgc (fun g e => by cases e))
          have HOC := Lib.hid (show OwnR CdV.row 3 wv LO 43 A' n c' l by rw [← hLO]; exact hoc)
          refine hK _ _ hgz ?_
          clear hK K hHeld hrd hoc hgc
          have hHeld := hgz
          clear hgz
          (try simp only [Act.put, List.setIfInBounds_toArray, List.set_cons_zero, List.set_cons_succ])
          refine H_run (k := 8) (by rfl) (by kernel_rfl) (by rfl) (fun K hK => ?_)
          refine wp_app _ _ _ Tryz.cdsT (by rfl) LO A' n c' _ (by rfl) (by exact HOC.out.1) _ _ 1 1 [.int .i64 r2, .int .i64 r4, .string y3] (by rfl) (by exact HRD.out) (by simp [Value.oneCell']) (by unfold maxLen; omega) (by omega) (by omega) ?_
          intro A9 c9 w9 h9
          have HO9 := Lib.hid (HOC.out.app (a := (⟨r2, r4, y3⟩ : CdV)) rfl h9)
          have hgz := gr_own hHeld HOC.out.1 (by omega) h9.2.1
          replace HS := Lib.hid (HS.out.grown h9.2.1 (fun g e => by have := (HOC.out.1.lt e).1; omega))
          refine hK _ _ hgz ?_
          clear hK K hHeld h9
          have hHeld := hgz
          clear hgz HOC HRD
          (try simp only [Act.put, List.setIfInBounds_toArray, List.set_cons_zero, List.set_cons_succ])
          refine H_run (k := 9) (by rfl) (by kernel_rfl) (by rfl) (fun K hK => ?_)
          go_simp
          refine (codecsFault_any LO A9 (n + 1) c9 (l ++ [⟨r2, r4, y3⟩]) _ ⟨HO9.out.recs, HOK.out⟩ (by omega)).mono ?_
          rintro e wx ⟨rfl, hgx⟩
          rw [HE.out]
          have hgz := gr_none hHeld hgx
          replace HS := Lib.hid (HS.out.grown hgx (fun g e => by cases e))
          refine hK _ _ hgz ?_
          clear hK K hHeld hgx HO9
          have hHeld := hgz
          clear hgz
          (try simp only [Act.put, List.setIfInBounds_toArray, List.set_cons_zero, List.set_cons_succ])
          refine H_take (k := 10) (v := ?_) (by rfl) (by kernel_rfl) (by kernel_rfl) (by kernel_rfl) (by exact fun _ _ _ h => h) (by rfl) ?_ (by assumption) ?_
          rotate_left 1
          · intro w hSw
            (try dsimp only at hSw)
            go_simp
            (try with_reducible rfl)
          (try simp only [Act.put, List.setIfInBounds_toArray, List.set_cons_zero, List.set_cons_succ])
          refine H_take (k := 11) (v := ?_) (by rfl) (by kernel_rfl) (by kernel_rfl) (by kernel_rfl) (by exact fun _ _ _ h => h) (by rfl) ?_ (by assumption) ?_
          rotate_left 1
          · intro w hSw
            (try dsimp only at hSw)
            go_simp
            (try with_reducible rfl)
          (try simp only [Act.put, List.setIfInBounds_toArray, List.set_cons_zero, List.set_cons_succ])
          refine H_done (by kernel_rfl) ?_
          have zx := hHeld.size
          replace HO := Lib.hid (HO6.out.low hHeld (fun g e => by injection e with e; omega))
          replace HN := Lib.hid (HN6.out.grown hHeld (by simp; omega))
          replace HB := Lib.hid (HB6.out.grown hHeld (by simp; omega))
          replace HG := Lib.hid (gr_same (a := w) HG6.out hHeld)
          clear hHeld HO6 HN6 HB6 HG6
          by_cases hz : E = 0
          · have dz : (E == 0) = true := by simpa using hz
            go_wp2_with (first
              | (refine wpl_load_all Tryz.cdT rfl _ rfl _ rfl _ _ HB.out rfl ?_)
              | (at_builtin
                 refine wpl_app _ rfl _ _ Tryz.cdsT rfl w.heap.size A n c _ rfl (by exact HO.out.1.alloc _) _ _ 1 1 [.int .i64 r2, .int .i64 r4, .string y3] rfl (by exact Reads.one _ _ _ _ rfl) (by simp [Value.oneCell']) (by unfold maxLen; omega) (by omega) (by simp; have := HG.out.size; omega) ?_
                 intro A5 c5 wy h5
                 have H5 := Lib.hid h5; clear h5)
              | fail)
            go_roundw
            case rel => exact ⟨k + 1, n + 1, c5, A5, l ++ [⟨r2, r4, y3⟩], by omega, by go_num, rfl, by omega, ((HS.out.alloc _).grown H5.out.2.1 (fun g e => by have := (HO.out.1.lt e).1; omega)).mono (by omega), H5.out.gr (gr_alloc HG.out _) (HO.out.1.alloc _) (Nat.le_refl _), (HN.out.alloc _).grown H5.out.2.1 (fun e => HNE.out e.symm), (HO.out.alloc _).app rfl H5.out, HOR.out⟩
            case measure => simp [intOf]; omega
          · have dz : (E == 0) = false := by simpa using hz
            go_wp2_with fail
            go_roundw
            case rel => exact ⟨k + 1, n, c, A, l, by omega, by go_num, rfl, by omega, HS.out.mono (by omega), HG.out, HN.out, HO.out, HLR.out⟩
            case measure => simp [intOf]; omega
      · refine H_skip (k := 4) (by rfl) (by kernel_rfl) (by kernel_rfl) (by kernel_rfl) (by exact fun _ _ _ h => h) (by rfl) (by assumption) ?_
        (try simp only [Act.put, List.setIfInBounds_toArray, List.set_cons_zero, List.set_cons_succ])
        refine H_skip (k := 5) (by rfl) (by kernel_rfl) (by kernel_rfl) (by kernel_rfl) (by exact fun _ _ _ h => h) (by rfl) (by assumption) ?_
        (try simp only [Act.put, List.setIfInBounds_toArray, List.set_cons_zero, List.set_cons_succ])
        refine H_skip (k := 6) (by rfl) (by kernel_rfl) (by kernel_rfl) (by kernel_rfl) (by exact fun _ _ _ h => h) (by rfl) (by assumption) ?_
        (try simp only [Act.put, List.setIfInBounds_toArray, List.set_cons_zero, List.set_cons_succ])
        refine H_skip (k := 7) (by rfl) (by kernel_rfl) (by kernel_rfl) (by kernel_rfl) (by exact fun _ _ _ h => h) (by rfl) (by assumption) ?_
        (try simp only [Act.put, List.setIfInBounds_toArray, List.set_cons_zero, List.set_cons_succ])
        refine H_skip (k := 8) (by rfl) (by kernel_rfl) (by kernel_rfl) (by kernel_rfl) (by exact fun _ _ _ h => h) (by rfl) (by assumption) ?_
        (try simp only [Act.put, List.setIfInBounds_toArray, List.set_cons_zero, List.set_cons_succ])
        refine H_skip (k := 9) (by rfl) (by kernel_rfl) (by kernel_rfl) (by kernel_rfl) (by exact fun _ _ _ h => h) (by rfl) (by assumption) ?_
        (try simp only [Act.put, List.setIfInBounds_toArray, List.set_cons_zero, List.set_cons_succ])
        refine H_skip (k := 10) (by rfl) (by kernel_rfl) (by kernel_rfl) (by kernel_rfl) (by exact fun _ _ _ h => h) (by rfl) (by assumption) ?_
        (try simp only [Act.put, List.setIfInBounds_toArray, List.set_cons_zero, List.set_cons_succ])
        refine H_take (k := 11) (v := ?_) (by rfl) (by kernel_rfl) (by kernel_rfl) (by kernel_rfl) (by exact fun _ _ _ h => h) (by rfl) ?_ (by assumption) ?_
        rotate_left 1
        · intro w hSw
          (try dsimp only at hSw)
          go_simp
          (try with_reducible rfl)
        (try simp only [Act.put, List.setIfInBounds_toArray, List.set_cons_zero, List.set_cons_succ])
        refine H_done (by kernel_rfl) ?_
        replace HO := Lib.hid (HO6.out.low hHeld (fun g e => by injection e with e; omega))
        replace HN := Lib.hid (HN6.out.grown hHeld (by simp; omega))
        replace HB := Lib.hid (HB6.out.grown hHeld (by simp; omega))
        replace HG := Lib.hid (gr_same (a := w) HG6.out hHeld)
        clear hHeld HO6 HN6 HB6 HG6
        go_wp2_with fail
        go_roundw
        case rel => exact ⟨k + 1, n, c, A, l, by omega, by go_num, rfl, by omega, HS.out.mono (by omega), HG.out, HN.out, HO.out, HLR.out⟩
        case measure => simp [intOf]; omega
    · obtain rfl : k = 4 := by omega
      go_wp2_with fail
      go_ret
      exact ⟨_, rfl, ⟨A, n, c, l, rfl, HO.out, HLR.out, hnk⟩, HS.out.mono (by omega), HG.out⟩
end Go.Proofs.YtoddgaocochdgaaGreatDoor

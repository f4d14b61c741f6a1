/- Contract of Circles. Conditions: none. -/
import Derived.Test.YtpjheibkacbbcaaGreatDoorCf2
import Derived.Test.YtpjheibkacbbcaaGreatDoorBun2
import Derived.Test.YtpjheibkacbbcaaGreatDoorBun10
import Derived.Test.YtpjheibkacbbcaaGreatDoorCovP
import Derived.Test.YtpjheibkacbbcaaGreatDoorGenPl1
import Derived.Test.YtpjheibkacbbcaaGreatDoorBun6
import Derived.Deep.LoopGhost
namespace Go.Proofs.YtpjheibkacbbcaaGreatDoor
open Go.RowKit Classical

abbrev SlT := Option Addr × Nat × Nat
def slE (s : SlT) : Value := .slice s.1 s.2.1 s.2.2
theorem slE_inj (a b : SlT) (h : slE a = slE b) : a = b := by
  obtain ⟨a1, a2, a3⟩ := a
  obtain ⟨b1, b2, b3⟩ := b
  unfold slE at h
  injection h with h1 h2 h3
  dsimp only at h1 h2 h3
  rw [h1, h2, h3]
theorem Tryz.zeroSl (w : World) : (zeroValue 27).run Tryz.prog w = .ok (.slice none 0 0) w := by kernel_rfl
theorem Tryz.zeroBo (w : World) : (zeroValue 4).run Tryz.prog w = .ok (.bool false) w := by kernel_rfl
/-- What a map of slices holds at a key. -/
def slG (F : ByteArray → Option SlT) (k : ByteArray) : SlT := (F k).elim (none, 0, 0) id
theorem slG_val (F : ByteArray → Option SlT) (k : ByteArray) : (F k).elim (.slice none 0 0) slE = slE (slG F k) := by unfold slG; cases F k <;> rfl
/-- A map of the call's own from lines to where their forwards lead. -/
structure OutF (w : World) (lo : Nat) (l : List FwV) (F : ByteArray → Option SlT) : Prop where
  own : ∀ k, OwnR srow 1 w lo 9 (slG F k).1 (slG F k).2.1 (slG F k).2.2 (outs l k)
  key : ∀ k, (F k).isSome = true ↔ ∃ f ∈ l, f.line = k
  apart : ∀ k k' g, k ≠ k' → blkOf (slG F k).1 = some g → blkOf (slG F k').1 ≠ some g
theorem OutF.new (w : World) (lo : Nat) : OutF w lo [] (fun _ => none) := ⟨fun k => OwnR.nil _ _ _, fun k => by simp, fun k k' g _ h => by cases h⟩
theorem OutF.kept {w w' : World} {lo : Nat} {l : List FwV} {F : ByteArray → Option SlT} {row : Option Nat} (h : OutF w lo l F) (hg : w.grownBy w' row) (hne : ∀ k g, row = some g → blkOf (slG F k).1 ≠ some g) : OutF w' lo l F :=
  ⟨fun k => (h.own k).kept hg (hne k), h.key, h.apart⟩
theorem OutF.low {w w' : World} {lo : Nat} {l : List FwV} {F : ByteArray → Option SlT} {row : Option Nat} (h : OutF w lo l F) (hg : w.grownBy w' row) (hr : ∀ g, row = some g → g < lo) : OutF w' lo l F :=
  ⟨fun k => (h.own k).low hg hr, h.key, h.apart⟩
theorem OutF.step {w wa w9 : World} {lo : Nat} {l : List FwV} {F : ByteArray → Option SlT} (h : OutF w lo l F) (f : FwV) {A1 A9 : Option Addr} {n1 c1 c9 : Nat} (hs : slG F f.line = (A1, n1, c1)) (hg : w.grownBy wa none)
    (h9 : Appended wa lo 9 1 A1 A9 (n1 + 1) c9 ((outs l f.line).flatMap srow ++ srow f.to_) w9) : OutF w9 lo (l ++ [f]) (fun k' => if nb f.line = nb k' then some (A9, n1 + 1, c9) else F k') := by
  have hsl : ∀ k, nb f.line ≠ nb k → slG (fun k' => if nb f.line = nb k' then some (A9, n1 + 1, c9) else F k') k = slG F k := fun k hk => by unfold slG; show (if nb f.line = nb k then _ else F k).elim _ _ = _; rw [if_neg hk]
  have hsk : ∀ k, nb f.line = nb k → slG (fun k' => if nb f.line = nb k' then some (A9, n1 + 1, c9) else F k') k = (A9, n1 + 1, c9) := fun k hk => by unfold slG; show (if nb f.line = nb k then _ else F k).elim _ _ = _; rw [if_pos hk]; rfl
  have hne : ∀ k g, nb f.line ≠ nb k → blkOf A1 = some g → blkOf (slG F k).1 ≠ some g := fun k g hk e => h.apart f.line k g (fun q => hk (by rw [q])) (by rw [hs]; exact e)
  have hlt : ∀ k g, blkOf (slG F k).1 = some g → g < w.heap.size := fun k g e => ((h.own k).1.lt e).2
  have hnew : ∀ k g, nb f.line ≠ nb k → blkOf A9 = some g → blkOf (slG F k).1 ≠ some g := fun k g hk e e' => by
    rcases h9.2.2 g e with q | q
    · exact hne k g hk q e'
    · have := hlt k g e'; have := hg.size; omega
  refine ⟨fun k => ?_, fun k => ?_, fun k k' g hkk => ?_⟩
  · rw [outs_snoc]
    by_cases e : nb f.line = nb k
    · rw [hsk k e, if_pos e]
      obtain rfl := nb_inj e
      have h0 := h.own f.line
      rw [hs] at h0
      exact (h0.kept hg (fun g e => by cases e)).app rfl h9
    · rw [hsl k e, if_neg e]
      exact ((h.own k).kept hg (fun g e => by cases e)).kept h9.2.1 (fun g q => hne k g e q)
  · by_cases e : nb f.line = nb k
    · rw [if_pos e]
      exact ⟨fun _ => ⟨f, by simp, nb_inj e⟩, fun _ => rfl⟩
    · rw [if_neg e, h.key]
      constructor
      · rintro ⟨x, hx, hxk⟩; exact ⟨x, by simp [hx], hxk⟩
      · rintro ⟨x, hx, hxk⟩
        rcases List.mem_append.1 hx with q | q
        · exact ⟨x, q, hxk⟩
        · rw [List.mem_singleton] at q; subst q; exact absurd (by rw [hxk]) e
  · by_cases e : nb f.line = nb k
    · rw [hsk k e]
      by_cases e' : nb f.line = nb k'
      · exact absurd (nb_inj (e.symm.trans e')) hkk
      · rw [hsl k' e']; exact fun q => hnew k' g e' q
    · rw [hsl k e]
      by_cases e' : nb f.line = nb k'
      · rw [hsk k' e']; exact fun q q' => hnew k g e q' q
      · rw [hsl k' e']; exact h.apart k k' g hkk
/-- What Circles answers. -/
noncomputable def cirV (p : PlV) (LB : Bool) (l : List FwV) : List ByteArray × Int := if chP p LB l = 0 then (dedS (srtS ((l.filter (cirF l)).map (·.line))), 0) else ([], chP p LB l)
/-- A slice of strings and an error. -/
def SlErrV (v : List ByteArray × Int) (w : World) (e : Ending) (w' : World) : Prop := ∃ A n c, e = .returned (.tuple #[.slice A n c, .int .i64 v.2]) ∧ OwnR srow 1 w' w.heap.size 9 A n c v.1 ∧ w.grownBy w' none
set_option maxHeartbeats 32000000 in
set_option maxRecDepth 100000 in
theorem circles_any (lo : Nat) (p : PlV) (LB : Bool) (A : Option Addr) (n c : Nat) (l : List FwV) (w : World) (hpl : PlOk w lo p) (hLB : LB = true ↔ Loops p.ctxs) (h : Fws w lo A n c l) (hn : n ≤ 1000000000) :
    Calls Tryz.prog 32 #[.agg #[.slice p.cA p.cn p.cc, .slice p.hA p.hn p.hc], .slice A n c] w (SlErrV (cirV p LB l) w) := by
  have H := Lib.hid h; have HPL := Lib.hid hpl
  clear h hpl
  obtain ⟨W1, hW⟩ : ∃ W1, w.alloc (.cells #[.slice p.cA p.cn p.cc, .slice p.hA p.hn p.hc] 48) = W1 := ⟨_, rfl⟩
  have HP := Lib.hid (show Blk W1 w.heap.size 48 #[.slice p.cA p.cn p.cc, .slice p.hA p.hn p.hc] by rw [← hW]; exact Blk.new _ _ _)
  have HG := Lib.hid (show w.grownBy W1 none by rw [← hW]; exact gr_alloc (gr_refl _ _) _)
  have HW := Lib.hid hW; clear hW
  have hmm := @run_makeMap Tryz.prog
  go_enter Tryz.func32, Tryz.ntmps32
  go_upto_region 1 with (fail)
  rw [HW.out]
  clear HW
  obtain ⟨E, hE⟩ : ∃ E, chP p LB l = E := ⟨_, rfl⟩
  have HE := Lib.hid hE
  clear hE
  go_wp2_with (first
    | (refine wpl_load_all Tryz.plT rfl _ rfl _ rfl _ _ HP.out rfl ?_)
    | fail)
  refine (checkForwards_any lo p LB A n c l _ (HPL.out.grown HG.out (fun g e => by cases e)) hLB (H.out.grown HG.out (fun g e => by cases e)) hn).mono ?_
  rintro e w2 ⟨rfl, hg2⟩
  rw [HE.out]
  replace HG := Lib.hid (gr_none HG.out hg2)
  clear hg2 HP
  by_cases e0 : E = 0
  rotate_left 1
  · have dE : (E != 0) = true := by simpa using e0
    have HV := Lib.hid (show cirV p LB l = ([], E) by unfold cirV; rw [HE.out, if_neg e0])
    clear e0
    go_wp2_with fail
    go_ret2
    exact ⟨none, 0, 0, by rw [HV.out]; try rfl, by rw [HV.out]; exact OwnR.nil _ _ _, HG.out⟩
  · subst e0
    obtain ⟨_, hfr⟩ := chP_right HE.out
    have HFR := Lib.hid hfr
    have hn1 : n ≤ 1000 := by rw [← H.out.1.len]; exact hfr.len
    clear hfr
    have dE : ((0 : Int) != 0) = false := by decide
    have HV := Lib.hid (show cirV p LB l = (dedS (srtS ((l.filter (cirF l)).map (·.line))), 0) by unfold cirV; rw [HE.out, if_pos rfl])
    obtain ⟨mb, hmb⟩ : ∃ mb, w2.heap.size = mb := ⟨_, rfl⟩
    obtain ⟨wm, hwm⟩ : ∃ wm, w2.alloc (.map #[] 0) = wm := ⟨_, rfl⟩
    have HM0 := Lib.hid (show MapG slE wm mb 0 (fun _ => none) by rw [← hwm, ← hmb]; exact MapG.new _ _)
    have HO0 := Lib.hid (OutF.new wm (mb + 1))
    have hgm : w2.grownBy wm none := by rw [← hwm]; exact gr_alloc (gr_refl _ _) _
    have hmw : w.heap.size ≤ mb := by rw [← hmb]; exact HG.out.size
    have hmz : mb < wm.heap.size := HM0.out.lt
    replace HG := Lib.hid (gr_none HG.out hgm)
    have HWM := Lib.hid hwm; have HMB := Lib.hid hmb
    clear hwm hmb hgm
    go_upto_region 5 with (fail)
    clear hmm
    rw [HWM.out, HMB.out]
    clear HWM HMB
    go_wp2_with fail
    go_loopw [9, 24] (fun _ t wr => ∃ (i : Nat) (F : ByteArray → Option SlT), i ≤ n ∧ t = .int .i64 i ∧ w.grownBy wr none ∧ MapG slE wr mb i F ∧ OutF wr (mb + 1) (l.take i) F) (fun _ t _ => n - (intOf t).toNat)
    case atStart => exact ⟨0, _, Nat.zero_le _, rfl, HG.out, HM0.out, HO0.out⟩
    case round =>
      clear HG HM0 HO0
      obtain ⟨i, F, hi, rfl, hg, hm, ho⟩ := hrel
      have HG := Lib.hid hg; have HM := Lib.hid hm; have HO := Lib.hid ho
      have zmr := hm.lt
      clear hg hm ho
      by_cases hlt : i < n
      · obtain ⟨g, o, ⟨ln, wh, too, hr⟩, rfl, _, hgl, hz, hc⟩ := (H.out.1.grown HG.out (fun g e => by cases e)).get FwV.row_len hlt
        obtain ⟨p1, p2, p3⟩ := H.out.2 _ (mem_of_get hz)
        dsimp only at p1 p2 p3
        have HZ := Lib.hid hz; have HC := Lib.hid hc; clear hz hc
        obtain ⟨wa, hwa⟩ : ∃ v, wr.alloc (.cells #[.string ln, .int .i64 wh, .string too, .string hr] 114) = v := ⟨_, rfl⟩
        obtain ⟨zb, hzb⟩ : ∃ b, wr.heap.size = b := ⟨_, rfl⟩
        have HB := Lib.hid (show Blk wa zb 114 #[.string ln, .int .i64 wh, .string too, .string hr] by rw [← hwa, ← hzb]; exact Blk.new _ _ _)
        have hga : wr.grownBy wa none := by rw [← hwa]; exact gr_alloc (gr_refl _ _) _
        have HBD := Lib.hid (show ∀ g, blkOf (slG F ln).1 = some g → g < zb from fun g e => by have := ((HO.out.own ln).1.lt e).2; omega)
        have hzm : mb < zb := by omega
        replace HG := Lib.hid (gr_none HG.out hga)
        replace HM := Lib.hid (HM.out.kept hga (by simp))
        replace HO := Lib.hid (HO.out.kept hga (fun k g e => by cases e))
        have HW1 := Lib.hid hwa; have HZB := Lib.hid hzb
        clear hwa hzb hga
        go_upto_region 8 with (first
          | (refine wpl_load_at Tryz.fwT rfl _ rfl _ rfl [.string ln, .int .i64 wh, .string too, .string hr] rfl (fun j u hu => by rw [add_mk]; exact HC.out j u hu) ?_)
          | fail)
        rw [HW1.out]
        (try rw [HZB.out])
        clear HW1 HZB HC
        obtain ⟨⟨A1, n1, c1⟩, hs⟩ : ∃ s, slG F ln = s := ⟨_, rfl⟩
        have HS := Lib.hid hs
        have hown1 := HO.out.own ln
        rw [hs] at hown1
        have HO1 := Lib.hid hown1
        have hnn : n1 ≤ 1000 := by have h1 := hown1.2; have h2 := outs_len (l.take i) ln; rw [List.length_take] at h2; dsimp only at h1; omega
        have HB1 := Lib.hid (show ∀ g, blkOf A1 = some g → g < zb from fun g e => HBD.out g (by rw [hs]; exact e))
        have HLO := Lib.hid (show ∀ g, blkOf A1 = some g → mb + 1 ≤ g from fun g e => (hown1.1.lt e).1)
        clear hs hown1 HBD
        refine wp_region_B (fun w' => Blk w' zb 114 #[.string ln, .int .i64 wh, .string too, .string hr] ∧ MapG slE w' mb i F) 11 (by kernel_rfl) ?_
        have hHeld : Blk wa.drew zb 114 #[.string ln, .int .i64 wh, .string too, .string hr] ∧ MapG slE wa.drew mb i F := ⟨HB.out.drew, HM.out.kept (gr_drew (gr_refl _ none)) (by simp)⟩
        have hgd : wa.grownBy wa.drew none := gr_drew (gr_refl _ _)
        generalize wa.drew = wd at hHeld hgd ⊢
        refine B_take (k := 0) false (v := ?_) (by rfl) (by kernel_rfl) (by exact fun _ _ _ h => h) (by rfl) ?_ (by first | exact .inr hHeld | exact .inl (by rfl)) ?_
        rotate_left 1
        · intro w hSw
          clear hSw
          go_simp
          (try with_reducible rfl)
        (try simp only [Act.put, List.setIfInBounds_toArray, List.set_cons_zero, List.set_cons_succ])
        refine B_take (k := 1) false (v := ?_) (by rfl) (by kernel_rfl) (by exact fun _ _ _ h => h) (by rfl) ?_ (by first | exact .inr hHeld | exact .inl (by rfl)) ?_
        rotate_left 1
        · intro w hSw
          clear hSw
          go_simp
          (try with_reducible rfl)
        (try simp only [Act.put, List.setIfInBounds_toArray, List.set_cons_zero, List.set_cons_succ])
        refine B_take (k := 2) true (v := ?_) (by rfl) (by kernel_rfl) (by exact fun _ _ _ h => h) (by rfl) ?_ (.inr hHeld) ?_
        rotate_left 1
        · intro w' hSw
          have kc := hSw.1.cell 0
          go_simp
          (try with_reducible rfl)
        (try simp only [Act.put, List.setIfInBounds_toArray, List.set_cons_zero, List.set_cons_succ])
        refine B_take (k := 3) false (v := ?_) (by rfl) (by kernel_rfl) (by exact fun _ _ _ h => h) (by rfl) ?_ (by first | exact .inr hHeld | exact .inl (by rfl)) ?_
        rotate_left 1
        · intro w hSw
          clear hSw
          go_simp
          (try with_reducible rfl)
        (try simp only [Act.put, List.setIfInBounds_toArray, List.set_cons_zero, List.set_cons_succ])
        refine B_take (k := 4) false (v := ?_) (by rfl) (by kernel_rfl) (by exact fun _ _ _ h => h) (by rfl) ?_ (by first | exact .inr hHeld | exact .inl (by rfl)) ?_
        rotate_left 1
        · intro w hSw
          clear hSw
          go_simp
          (try with_reducible rfl)
        (try simp only [Act.put, List.setIfInBounds_toArray, List.set_cons_zero, List.set_cons_succ])
        refine B_take (k := 5) true (v := ?_) (by rfl) (by kernel_rfl) (by exact fun _ _ _ h => h) (by rfl) ?_ (.inr hHeld) ?_
        rotate_left 1
        · intro w' hSw
          have kc := hSw.1.cell 0
          go_simp
          (try with_reducible rfl)
        (try simp only [Act.put, List.setIfInBounds_toArray, List.set_cons_zero, List.set_cons_succ])
        refine B_take (k := 6) true (v := .slice A1 n1 c1) (by rfl) (by kernel_rfl) (by exact fun _ _ _ h => h) (by rfl) (fun w' hSw => (exec_glook 187 _ _ rfl Tryz.underlying187 (Tryz.zeroSl w') rfl ln rfl (by unfold maxLen; omega) hSw.2).trans (by rw [slG_val, HS.out]; rfl)) (.inr hHeld) ?_
        (try simp only [Act.put, List.setIfInBounds_toArray, List.set_cons_zero, List.set_cons_succ])
        refine B_take (k := 7) false (v := ?_) (by rfl) (by kernel_rfl) (by exact fun _ _ _ h => h) (by rfl) ?_ (by first | exact .inr hHeld | exact .inl (by rfl)) ?_
        rotate_left 1
        · intro w hSw
          clear hSw
          go_simp
          (try with_reducible rfl)
        (try simp only [Act.put, List.setIfInBounds_toArray, List.set_cons_zero, List.set_cons_succ])
        refine B_take (k := 8) true (v := ?_) (by rfl) (by kernel_rfl) (by exact fun _ _ _ h => h) (by rfl) ?_ (.inr hHeld) ?_
        rotate_left 1
        · intro w' hSw
          have kc := hSw.1.cell 2
          go_simp
          (try with_reducible rfl)
        (try simp only [Act.put, List.setIfInBounds_toArray, List.set_cons_zero, List.set_cons_succ])
        refine B_run (k := 9) (by rfl) (by kernel_rfl) (by rfl) (fun K hK => ?_)
        go_simp
        have hg9 : wa.grownBy (wd.alloc (.cells #[.string too] 9)) none := gr_alloc hgd _
        refine hK _ _ (.inr ⟨hHeld.1.alloc _, hHeld.2.kept (gr_alloc (gr_refl _ none) _) (by simp)⟩) ?_
        clear hK K
        have hHeld2 : Blk (wd.alloc (.cells #[.string too] 9)) zb 114 #[.string ln, .int .i64 wh, .string too, .string hr] ∧ MapG slE (wd.alloc (.cells #[.string too] 9)) mb i F := ⟨hHeld.1.alloc _, hHeld.2.kept (gr_alloc (gr_refl _ none) _) (by simp)⟩
        clear hHeld
        have hHeld := hHeld2
        clear hHeld2
        (try simp only [Act.put, List.setIfInBounds_toArray, List.set_cons_zero, List.set_cons_succ])
        refine B_run (k := 10) (by rfl) (by kernel_rfl) (by rfl) (fun K hK => ?_)
        refine wp_app _ _ _ Tryz.stT rfl (mb + 1) A1 n1 c1 _ rfl (by exact (HO1.out.kept hg9 (fun g e => by cases e)).1) _ _ 1 1 [.string too] rfl (by exact Reads.one _ _ _ _ rfl) (by simp [Value.oneCell']) (by unfold maxLen; omega) (by omega) (by have := hg9.size; have := HB.out.lt; omega) ?_
        intro A9 c9 w9 h9
        have hB9 : Blk w9 zb 114 #[.string ln, .int .i64 wh, .string too, .string hr] := hHeld.1.grown h9.2.1 (fun e => by have := HB1.out zb e.symm; omega)
        have hM9 : MapG slE w9 mb i F := hHeld.2.kept h9.2.1 (fun e => by have := HLO.out mb e.symm; omega)
        refine hK _ _ (.inr ⟨hB9, hM9⟩) ?_
        clear hK K hHeld
        have hHeld : Blk w9 zb 114 #[.string ln, .int .i64 wh, .string too, .string hr] ∧ MapG slE w9 mb i F := ⟨hB9, hM9⟩
        (try simp only [Act.put, List.setIfInBounds_toArray, List.set_cons_zero, List.set_cons_succ])
        refine B_run (k := 11) (by rfl) (by kernel_rfl) (by rfl) (fun K hK => ?_)
        refine wp_gput slE_inj 187 _ _ _ rfl Tryz.underlying187 rfl ln (A9, n1 + 1, c9) rfl rfl (by unfold maxLen; omega) hM9 (by unfold maxLen; omega) ?_
        intro w3 hput hg3
        refine hK _ _ (.inl (by rfl)) ?_
        clear hK K
        (try simp only [Act.put, List.setIfInBounds_toArray, List.set_cons_zero, List.set_cons_succ])
        refine B_done (by kernel_rfl) ?_
        have HN := Lib.hid (show OutF w3 (mb + 1) (l.take (i + 1)) (fun k' => if nb ln = nb k' then some (A9, n1 + 1, c9) else F k') from by
          rw [take_get1 HZ.out]
          exact (HO.out.step ⟨ln, wh, too, hr⟩ HS.out hg9 h9).low hg3 (fun g e => by injection e with e; omega))
        have HMN := Lib.hid hput
        have HG3 := Lib.hid (show w.grownBy w3 none from gr_trans (gr_trans (gr_none HG.out hg9) h9.2.1 (fun g e => .inr (by have := HLO.out g e; omega))) hg3 (fun g e => .inr (by injection e with e; omega)))
        clear hput hg3 hHeld hM9 hB9 h9 hg9 hgd
        go_wp2_with fail
        go_roundw
        case rel => exact ⟨i + 1, _, by omega, by go_num, HG3.out, HMN.out, HN.out⟩
        case measure => simp [intOf]; omega
      · obtain rfl : i = n := by omega
        replace HO := Lib.hid (show OutF wr (mb + 1) l F by have h := HO.out; rw [List.take_of_length_le (by rw [H.out.1.len]; exact Nat.le_refl _)] at h; exact h)
        obtain ⟨rb, hrb⟩ : ∃ b, wr.heap.size = b := ⟨_, rfl⟩
        have HHI := Lib.hid (show ∀ k g, blkOf (slG F k).1 = some g → mb + 1 ≤ g ∧ g < rb from fun k g e => by have := (HO.out.own k).1.lt e; omega)
        have hmr : mb < rb := by omega
        have HMl := Lib.hid HM.out
        go_wp2_with (first
          | (at_range; refine wpl_grange rfl _ _ rfl Tryz.underlying187 rfl HMl.out ?_; intro w5 cnt hr5 hg5 hs5)
          | fail)
        go_frame
        (try rw [hrb])
        rw [hrb] at hr5
        have HG5 := Lib.hid (gr_none HG.out hg5)
        have HO5 := Lib.hid (HO.out.kept hg5 (fun k g e => by cases e))
        have HR5 := Lib.hid hr5
        have hz5 : w5.heap.size = rb + 1 := by omega
        clear HG HM HO HMl hr5 hg5 hs5 hrb
        go_loopw [10, 11, 12, 13, 14] (fun v10 _ _ _ _ wr => ∃ (Ao : Option Addr) (no co : Nat) (ol : List ByteArray) (L : ByteArray → Bool) (cnt : Nat), v10 = .slice Ao no co ∧ w.grownBy wr none ∧ RngG slE wr mb rb i F L cnt ∧ OutF wr (mb + 1) l F ∧ OwnR srow 1 wr (rb + 1) 9 Ao no co ol ∧ ol.Nodup ∧ ∀ k, k ∈ ol ↔ (∃ f ∈ l, f.line = k) ∧ L k = false ∧ cirB l k = true) (fun _ _ _ _ _ wr => wr.rangeLeft mb rb)
        case atStart => exact ⟨none, 0, 0, [], _, cnt, rfl, HG5.out, HR5.out, HO5.out, OwnR.nil _ _ _, List.nodup_nil, fun k => ⟨(fun h => by cases h), (fun ⟨h1, h2, _⟩ => by have h3 := (HO5.out.key k).2 h1; rw [h3] at h2; cases h2)⟩⟩
        case round =>
          clear HG5 HR5 HO5 hz5
          obtain ⟨Ao, no, co, ol, L, cnt6, rfl, hg, hrg, ho, hown, hnd, hmem⟩ := hrel
          have HG := Lib.hid hg; have HRG := Lib.hid hrg; have HO := Lib.hid ho; have HOL := Lib.hid hown; have HND := Lib.hid hnd; have HMEM := Lib.hid hmem
          clear hg hrg ho hown hnd hmem
          have hno : no ≤ 1000 := by
            rw [← HOL.out.2]
            have h1 := nodup_len' HND.out (b := l.map (·.line)) (fun x hx => by
              obtain ⟨⟨f, hf, e⟩, _⟩ := (HMEM.out x).1 hx
              exact List.mem_map.2 ⟨f, hf, e⟩)
            rw [List.length_map, H.out.1.len] at h1
            omega
          go_wp2_with (first
            | (at_next; refine wpl_gnext slE_inj rfl _ rfl rfl HRG.out ?_ ?_)
            | fail)
          · intro hL0
            have HFIN := Lib.hid (show srtS ol = dedS (srtS ((l.filter (cirF l)).map (·.line))) from sorted_same HND.out (fun k => by
              rw [HMEM.out k]
              have h1 := cir_same l k
              constructor
              · rintro ⟨h2, _, h3⟩
                obtain ⟨f, hf, h4, h5⟩ := h1.1 ⟨h3, h2⟩
                exact List.mem_map.2 ⟨f, List.mem_filter.2 ⟨hf, h5⟩, h4⟩
              · intro h2
                obtain ⟨f, hf, h4⟩ := List.mem_map.1 h2
                obtain ⟨h5, h6⟩ := List.mem_filter.1 hf
                obtain ⟨h7, h8⟩ := h1.2 ⟨f, h5, h4, h6⟩
                exact ⟨h8, hL0 k, h7⟩))
            go_wp2_with fail
            refine (sortS_any (rb + 1) Ao no co ol _ HOL.out (by omega)).mono ?_
            rintro e w8 ⟨rfl, hown8, hg8⟩
            have HO8 := Lib.hid hown8
            have HG8 := Lib.hid (show w.grownBy w8 none from gr_own HG.out HOL.out.1 (by have := hmw; omega) hg8)
            clear hown8 hg8
            go_wp2_with fail
            go_ret2
            exact ⟨Ao, no, co, by rw [HV.out]; try rfl, by rw [HV.out, ← HFIN.out]; exact HO8.out.lower (by omega), HG8.out⟩
          · intro x sA sn sc w7 cnt7 hfx hlx hrg70 hlt7 hg7 hs7 hen7
            have hrg7 : RngG slE w7 mb rb i F (fun k' => L k' && decide (nb k' ≠ nb x)) cnt7 := by
              have e : (fun k' => L k' && decide (nb k' ≠ nb x)) = (fun k' => L k' && !decide (nb k' = nb x)) := by funext k'; simp
              rw [e]; exact hrg70
            clear hrg70
            have zr7 := HRG.out.lt
            have HLEFT := Lib.hid HRG.out.left_eq
            unfold slE at hen7
            dsimp only at hen7
            have hxs : slG F x = (sA, sn, sc) := by unfold slG; rw [hfx]; rfl
            have hxl : ∃ f ∈ l, f.line = x := (HO.out.key x).1 (by rw [hfx]; rfl)
            have hxz : x.size ≤ 1000000 := by obtain ⟨f, hf, e⟩ := hxl; rw [← e]; exact (H.out.2 f hf).1
            have HXS := Lib.hid hxs; have HXL := Lib.hid hxl; have HLX := Lib.hid hlx
            replace HG := Lib.hid (gr_trans HG.out hg7 (fun g e => .inr (by injection e with e; omega)))
            replace HO := Lib.hid (HO.out.kept hg7 (fun k g e e' => by injection e with e; have := (HHI.out k g e').2; omega))
            replace HOL := Lib.hid (HOL.out.low hg7 (fun g e => by injection e with e; omega))
            have HRG7 := Lib.hid hrg7
            clear hxs hxl hfx hlx hg7 hrg7 HRG
            obtain ⟨sb, hsb⟩ : ∃ b, w7.heap.size = b := ⟨_, rfl⟩
            obtain ⟨w8, hw8⟩ : ∃ v, w7.alloc (.map #[] 0) = v := ⟨_, rfl⟩
            have HSE0 := Lib.hid (show MapG Value.bool w8 sb 0 (fun _ => none) by rw [← hw8, ← hsb]; exact MapG.new _ _)
            have hg8 : w7.grownBy w8 none := by rw [← hw8]; exact gr_alloc (gr_refl _ _) _
            have zsb : rb < sb := by rw [← hsb, hs7]; exact zr7
            have HOBD := Lib.hid (show ∀ g, blkOf Ao = some g → g < sb from fun g e => by have := (HOL.out.1.lt e).2; omega)
            clear hs7
            have zs8 : w8.heap.size = sb + 1 := by rw [← hw8, ← hsb]; simp
            have hmm := @run_makeMap Tryz.prog
            have HW8 := Lib.hid hw8; have HSB := Lib.hid hsb
            clear hw8 hsb
            go_upto_region 15 with (fail)
            clear hmm hen7
            rw [HW8.out, HSB.out]
            clear HW8 HSB
            replace HG := Lib.hid (gr_none HG.out hg8)
            replace HO := Lib.hid (HO.out.kept hg8 (fun k g e => by cases e))
            replace HOL := Lib.hid (HOL.out.kept hg8 (fun g e => by cases e))
            replace HRG7 := Lib.hid (HRG7.out.kept hg8 (by simp) (by simp))
            clear hg8
            go_wp2_with (first
              | (at_lookup; refine wpl_glook rfl _ _ _ rfl Tryz.underlying187 (Tryz.zeroSl _) rfl x rfl (by unfold maxLen; omega) HRG7.out.map ?_; rw [slG_val, HXS.out]; unfold slE; dsimp only)
              | fail)
            have hox := HO.out.own x
            rw [HXS.out] at hox
            dsimp only at hox
            have hsn : sn ≤ 1000 := by have h1 := hox.2; have h2 := outs_len l x; rw [H.out.1.len] at h2; omega
            refine (cloneS_any _ sA sn sc (outs l x) _ hox.recs (by omega)).mono ?_
            rintro e w9 ⟨A9, c9, rfl, hown9, hg9⟩
            have HQ0 := Lib.hid (show OwnQ srow 1 w9 (sb + 1) A9 sn c9 (outs l x) from ⟨OwnO.of (hown9.1.lower (by omega)), hown9.2, by
              rcases hown9.1.2 with ⟨hv, h0⟩ | ⟨g, cap, cur, hv, _, _, _, h2, _⟩
              · injection hv with _ _ e3; unfold maxLen; omega
              · injection hv with _ _ e3; omega⟩)
            have HSE := Lib.hid (HSE0.out.kept hg9 (by simp))
            clear hown9 HSE0 hox
            go_wp2_with fail
            obtain ⟨M0, hM0⟩ : ∃ M, (outs l x).length + left l [] = M := ⟨_, rfl⟩
            have hM0b : M0 ≤ 2000 := by rw [← hM0, left_nil, H.out.1.len]; have := outs_len l x; rw [H.out.1.len] at this; omega
            go_loopg [13, 14] M0 (fun gk v13 _ wr => ∃ (S Q : List ByteArray) (Aq : Option Addr) (nq cq : Nat), v13 = .slice Aq nq cq ∧ w8.grownBy wr (some sb) ∧ MapG Value.bool wr sb S.length (fun k => if memS S k = true then some true else none) ∧ OwnQ srow 1 wr (sb + 1) Aq nq cq Q ∧ Bf l (outs l x) S Q ∧ gk = Q.length + left l S ∧ S.length + gk ≤ M0 ∧ ∀ y ∈ Q, y.size ≤ 1000000)
            case atStart => exact ⟨[], outs l x, _, _, _, rfl, gr_none (gr_refl _ _) hg9, HSE.out.fn (fun k => by rw [memS_nil]; rfl), HQ0.out, Bf.new _ _, hM0.symm, by rw [← hM0]; simp, fun y hy => by
              obtain ⟨f, hf, _, e⟩ := outs_mem.1 hy
              rw [← e]; exact (H.out.2 f hf).2.1⟩
            case round =>
              clear HSE HQ0 hg9
              obtain ⟨S, Q, Aq, nq, cq, rfl, hgr, hse, hq, hbf, hgk, hsm, hqz⟩ := hrel
              have HGR := Lib.hid hgr; have HSE := Lib.hid hse; have HBF := Lib.hid hbf; have HGK := Lib.hid hgk; have HQZ := Lib.hid hqz
              have hql := hq.2.1
              have zrr := hgr.size
              clear hgr hse hbf hgk hqz
              cases Q with
              | nil =>
                obtain rfl : nq = 0 := by simpa using hql.symm
                clear hql hq
                have HRGx := Lib.hid (HRG7.out.kept HGR.out (by simp; omega) (by simp; omega))
                have HOx := Lib.hid (HO.out.kept HGR.out (fun k g e e' => by injection e with e; have := (HHI.out k g e').2; omega))
                have HOLx := Lib.hid (HOL.out.kept HGR.out (fun g e e' => by injection e with e; have := HOBD.out g e'; omega))
                have HGx := Lib.hid (gr_trans HG.out HGR.out (fun g e => .inr (by injection e with e; omega)))
                obtain ⟨VB, hVB⟩ : ∃ b, memS S x = b := ⟨_, rfl⟩
                have HVB := Lib.hid hVB
                have hcb : cirB l x = VB := by
                  unfold cirB
                  rw [← hVB]
                  cases hx : memS S x
                  · exact decide_eq_false fun q => by have := memS_iff.2 ((HBF.out.seen x).2 q); rw [hx] at this; cases this
                  · exact decide_eq_true ((HBF.out.seen x).1 (memS_iff.1 hx))
                have HCB := Lib.hid hcb
                have hlook : (if VB = true then some true else none : Option Bool).elim (.bool false) Value.bool = .bool VB := by cases VB <;> rfl
                clear hVB hcb
                have hxno : x ∉ ol := fun q => by have := ((HMEM.out x).1 q).2.1; rw [HLX.out] at this; cases this
                cases VB
                · have HMN := Lib.hid (show ∀ k, k ∈ ol ↔ (∃ f ∈ l, f.line = k) ∧ (L k && decide (nb k ≠ nb x)) = false ∧ cirB l k = true from fun k => by
                    by_cases e : k = x
                    · subst e
                      constructor
                      · intro q; exact absurd q hxno
                      · rintro ⟨_, _, q⟩; rw [HCB.out] at q; cases q
                    · rw [HMEM.out k, decide_eq_true (show nb k ≠ nb x from fun q => e (nb_inj q)), Bool.and_true])
                  clear hxno
                  go_wp2_with (first
                    | (at_lookup; refine wpl_glook rfl _ _ _ rfl Tryz.underlying188 (Tryz.zeroBo _) rfl x rfl (by unfold maxLen; omega) HSE.out ?_; rw [HVB.out, hlook])
                    | fail)
                  go_roundw
                  case rel =>
                    repeat (refine Exists.intro ?_ ?_; rotate_left 1)
                    refine And.intro ?_ ?_
                    rotate_left 1
                    · rfl
                    · exact ⟨Ao, no, co, ol, _, _, rfl, HGx.out, HRGx.out, HOx.out, HOLx.out, HND.out, HMN.out⟩
                  case measure => rw [HRGx.out.left_eq, HLEFT.out]; exact hlt7
                · have HMN := Lib.hid (show ∀ k, k ∈ ol ++ [x] ↔ (∃ f ∈ l, f.line = k) ∧ (L k && decide (nb k ≠ nb x)) = false ∧ cirB l k = true from fun k => by
                    by_cases e : k = x
                    · subst e
                      constructor
                      · exact fun _ => ⟨HXL.out, by rw [decide_eq_false (fun q => q rfl), Bool.and_false], HCB.out⟩
                      · exact fun _ => by simp
                    · rw [List.mem_append, HMEM.out k, decide_eq_true (show nb k ≠ nb x from fun q => e (nb_inj q)), Bool.and_true]
                      constructor
                      · rintro (q | q)
                        · exact q
                        · rw [List.mem_singleton] at q; exact absurd q e
                      · exact fun q => .inl q)
                  have HNN := Lib.hid (show (ol ++ [x]).Nodup from by
                    rw [List.nodup_append]
                    refine ⟨HND.out, by simp, fun a ha b hb e => ?_⟩
                    rw [List.mem_singleton] at hb
                    subst hb; subst e; exact hxno ha)
                  have HLO := Lib.hid (show ∀ g, blkOf Ao = some g → rb + 1 ≤ g from fun g e => (HOLx.out.1.lt e).1)
                  have zgx := HGx.out.size
                  clear hxno
                  go_wp2_with (first
                    | (at_lookup; refine wpl_glook rfl _ _ _ rfl Tryz.underlying188 (Tryz.zeroBo _) rfl x rfl (by unfold maxLen; omega) HSE.out ?_; rw [HVB.out, hlook])
                    | (at_builtin
                       refine wpl_app _ rfl _ _ Tryz.stT rfl (rb + 1) Ao no co _ rfl (by exact HOLx.out.1.alloc _) _ _ 1 1 [.string x] rfl (by exact Reads.one _ _ _ _ rfl) (by simp [Value.oneCell']) (by unfold maxLen; omega) (by omega) (by simp; omega) ?_
                       intro A10 c10 w10 h10
                       have H10 := Lib.hid h10; clear h10)
                    | fail)
                  have HRGy := Lib.hid ((HRGx.out.kept (gr_alloc (gr_refl _ none) (.cells #[.string x] 9)) (by simp) (by simp)).kept H10.out.2.1 (fun e => by have := HLO.out mb e.symm; omega) (fun e => by have := HLO.out rb e.symm; omega))
                  have HOy := Lib.hid ((HOx.out.kept (gr_alloc (gr_refl _ none) (.cells #[.string x] 9)) (fun k g e => by cases e)).kept H10.out.2.1 (fun k g e e' => by have := HLO.out g e; have := (HHI.out k g e').2; omega))
                  have HGy := Lib.hid (gr_own (gr_alloc HGx.out _) (HOLx.out.1.alloc _) (by omega) H10.out.2.1)
                  go_roundw
                  case rel => exact ⟨A10, no + 1, c10, ol ++ [x], _, _, rfl, HGy.out, HRGy.out, HOy.out, (HOLx.out.alloc _).app rfl H10.out, HNN.out, HMN.out⟩
                  case measure => rw [HRGy.out.left_eq, HLEFT.out]; exact hlt7
              | cons t Q =>
                obtain ⟨q, rfl⟩ : ∃ q, nq = q + 1 := ⟨Q.length, by rw [← hql]; rfl⟩
                have HQL := Lib.hid (show Q.length = q by simpa using hql)
                obtain ⟨g, o, rfl, hgl, hgs⟩ := hq.1.pos (by omega)
                obtain ⟨g2, o2, t2, e2, _, _, ht2, hc2⟩ := hq.recs.get srow_len (show 0 < q + 1 by omega)
                obtain ⟨rfl, rfl⟩ : g2 = g ∧ o2 = o := by injection e2 with e2; injection e2 with e2 e3; exact ⟨e2.symm, e3.symm⟩
                obtain rfl : t = t2 := by injection ht2
                have HQ := Lib.hid hq
                have kc := hc2 0 _ rfl
                simp only [Nat.zero_mul, Nat.add_zero] at kc
                have hcap : q + 1 ≤ cq := hq.1.cap
                have hcm := hq.2.2
                have htz : t.size ≤ 1000000 := HQZ.out t (by simp)
                have hgk2 : gk = (q + 1) + left l S := by rw [HGK.out, List.length_cons, HQL.out]
                clear hq hc2 ht2 e2 hql
                have hq0 : (0 : Int) < (q : Int) + 1 := by omega
                obtain ⟨VT, hVT⟩ : ∃ b, memS S t = b := ⟨_, rfl⟩
                have HVT := Lib.hid hVT
                have hlook : (if VT = true then some true else none : Option Bool).elim (.bool false) Value.bool = .bool VT := by cases VT <;> rfl
                clear hVT
                cases VT
                rotate_left 1
                · obtain ⟨A2, hA2⟩ : ∃ A2 : Option Addr, (if cq = 1 then some ⟨g2, o2, none⟩ else some ⟨g2, o2 + 1, none⟩) = A2 := ⟨_, rfl⟩
                  have hq2 : OwnQ srow 1 wr (sb + 1) A2 q (cq - 1) Q := by have := HQ.out.cut1 srow_len; rw [hA2] at this; exact this
                  have HQ2 := Lib.hid hq2
                  have HB2 := Lib.hid (HBF.out.skip HVT.out)
                  clear hq2 HBF
                  go_wp2_with (first
                    | (at_lookup; refine wpl_glook rfl _ _ _ rfl Tryz.underlying188 (Tryz.zeroBo _) rfl t rfl (by unfold maxLen; omega) HSE.out ?_; rw [HVT.out, hlook])
                    | fail)
                  (try rw [hA2])
                  go_roundg (q + left l S)
                  case measure => omega
                  case rel => exact ⟨S, Q, A2, q, cq - 1, rfl, HGR.out, HSE.out, HQ2.out, HB2.out, by rw [HQL.out], by omega, fun y hy => HQZ.out y (by simp [hy])⟩
                · obtain ⟨⟨tA, tn, tc⟩, hts⟩ : ∃ s, slG F t = s := ⟨_, rfl⟩
                  have HTS := Lib.hid hts
                  have HOx := Lib.hid (HO.out.kept HGR.out (fun k g e e' => by injection e with e; have := (HHI.out k g e').2; omega))
                  have hot := HOx.out.own t
                  rw [hts] at hot
                  dsimp only at hot
                  have htl := hot.2
                  have htn : tn ≤ 1000 := by have h2 := outs_len l t; rw [H.out.1.len] at h2; omega
                  have HRGx := Lib.hid (HRG7.out.kept HGR.out (by simp; omega) (by simp; omega))
                  have HOT := Lib.hid hot
                  have hSm : S.length ≤ 2000 := by omega
                  have hlv := left_visit l HVT.out
                  have HB2 := Lib.hid HBF.out.visit
                  clear hts hot HBF
                  go_upto_region 21 with (first
                    | (at_lookup; refine wpl_glook rfl _ _ _ rfl Tryz.underlying188 (Tryz.zeroBo _) rfl t rfl (by unfold maxLen; omega) HSE.out ?_; rw [HVT.out, hlook])
                    | (refine wpl_gput (fun a b h => by injection h) rfl _ _ _ _ rfl Tryz.underlying188 rfl t true rfl rfl (by unfold maxLen; omega) HSE.out (by unfold maxLen; omega) ?_
                       intro w20 hput20 hg20
                       have HPUT := Lib.hid hput20; have HG20 := Lib.hid hg20
                       clear hput20 hg20)
                    | fail)
                  have z20 := HG20.out.size
                  have HQ20 := Lib.hid (HQ.out.kept HG20.out (fun g e e' => by injection e with e; have := (HQ.out.lt e').1; omega))
                  have HOT20 := Lib.hid (HOT.out.kept HG20.out (fun g e e' => by injection e with e; have := (HHI.out t g (by rw [HTS.out]; exact e')).2; omega))
                  have HRG20 := Lib.hid (HRGx.out.kept HG20.out (by simp; omega) (by simp; omega))
                  have HSE20 := Lib.hid (show MapG Value.bool w20 sb (S.length + 1) (fun k => if memS (S ++ [t]) k = true then some true else none) from HPUT.out.fn (fun k => by
                    rw [memS_snoc]
                    by_cases e : nb t = nb k
                    · rw [if_pos e, if_pos (by simp [e])]
                    · rw [if_neg e]; simp [e]))
                  have HGR20 := Lib.hid (gr_same HGR.out HG20.out)
                  clear kc HQ HOT HRGx HPUT HG20 hlook hq0
                  go_upto_region 17 with (first
                    | (at_lookup; refine wpl_glook rfl _ _ _ rfl Tryz.underlying187 (Tryz.zeroSl _) rfl t rfl (by unfold maxLen; omega) HRG20.out.map ?_; rw [slG_val, HTS.out]; unfold slE; dsimp only)
                    | (at_builtin
                       refine wpl_appQ rfl _ _ Tryz.stT rfl (sb + 1) _ (q + 1) cq _ rfl (by exact HQ20.out.1) tA tn tc ((outs l t).flatMap srow) rfl (by exact HOT20.out.recs.1.lower (Nat.zero_le _)) srow_one (by unfold maxLen; omega) (by omega) (by omega) hcm ?_
                       intro A21 c21 w21 h21 hc21
                       have H21 := Lib.hid h21; have HC21 := Lib.hid hc21
                       clear h21 hc21)
                    | fail)
                  have hq21 : OwnQ srow 1 w21 (sb + 1) A21 (q + 1 + tn) c21 (t :: (Q ++ outs l t)) := HQ20.out.apps (by rw [htl]) H21.out HC21.out
                  obtain ⟨g3, o3, rfl, hg3l, hg3s⟩ := hq21.1.pos (by omega)
                  have hcap21 : q + 1 + tn ≤ c21 := hq21.1.cap
                  have HGR21 := Lib.hid (show w8.grownBy w21 (some sb) from gr_trans HGR20.out H21.out.2.1 (fun g e => .inr (by have := (HQ20.out.lt e).1; omega)))
                  have HSE21 := Lib.hid (HSE20.out.kept H21.out.2.1 (fun e => by have := (HQ20.out.lt e.symm).1; omega))
                  obtain ⟨A2, hA2⟩ : ∃ A2 : Option Addr, (if c21 = 1 then some ⟨g3, o3, none⟩ else some ⟨g3, o3 + 1, none⟩) = A2 := ⟨_, rfl⟩
                  have hq2 : OwnQ srow 1 w21 (sb + 1) A2 (q + 1 + tn - 1) (c21 - 1) (Q ++ outs l t) := by have := hq21.cut1 srow_len; rw [hA2] at this; exact this
                  rw [show q + 1 + tn - 1 = q + tn by omega] at hq2
                  have HQ2 := Lib.hid hq2
                  clear hq21 hq2 H21 HC21 HSE20 HGR20 HRG20 HOT20 HQ20
                  go_wp2_with fail
                  (try rw [hA2])
                  go_roundg (q + tn + left l (S ++ [t]))
                  case measure => omega
                  case rel => exact ⟨S ++ [t], Q ++ outs l t, A2, q + tn, c21 - 1, by go_num, HGR21.out, by rw [List.length_append]; exact HSE21.out, HQ2.out, HB2.out, by rw [List.length_append, HQL.out, htl], by rw [List.length_append]; simp only [List.length_singleton]; omega, fun y hy => by
                    rcases List.mem_append.1 hy with h1 | h1
                    · exact HQZ.out y (by simp [h1])
                    · obtain ⟨f, hf, _, e⟩ := outs_mem.1 h1
                      rw [← e]; exact (H.out.2 f hf).2.1⟩
end Go.Proofs.YtpjheibkacbbcaaGreatDoor

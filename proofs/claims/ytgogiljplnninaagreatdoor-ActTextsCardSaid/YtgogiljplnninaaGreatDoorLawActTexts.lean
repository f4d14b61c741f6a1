/- The law ActTexts: acts are written and read as specified. Conditions: the table of powers of ten and bytealg.MaxLen as laid. -/
import Derived.Test.YtgogiljplnninaaGreatDoorBun1
import Derived.Test.YtgogiljplnninaaGreatDoorAt9
import Derived.Test.YtgogiljplnninaaGreatDoorAtD
import Derived.Test.YtgogiljplnninaaGreatDoorAtE
import Derived.Test.YtgogiljplnninaaGreatDoorBun2
import Derived.Test.YtgogiljplnninaaGreatDoorBun4
import Derived.Test.YtgogiljplnninaaGreatDoorTie
import Derived.Test.YtgogiljplnninaaGreatDoorCards
import Derived.ChangeKeysEq
import Derived.ProofKit
import Derived.Lay
import Derived.OpenShut
import Derived.Stop.Joined
import Derived.SevenTiedAt
import Derived.LaidMore
import Derived.MakeChecks
import Derived.LaidHandle
import Derived.Lib.LaidTab
import Derived.Shelf.Vars
namespace Go.Proofs.YtgogiljplnninaaGreatDoor
open Go.ChangeShapes Go.WideShapes Go.ChangeAt Go.RowKit

/-- What is read has three parts. -/
theorem RdA.ret {s : ByteArray} {w w' : World} {e : Ending} (h : RdA s w e w') : ∃ (B : Option Addr) (n c : Nat) (i E : Int), e = .returned (.tuple #[.slice B n c, .int .i64 i, .int .i64 E]) := by
  rcases h.2 with ⟨_, rfl⟩ | ⟨_, i, b, _, ⟨_, rfl⟩ | ⟨_, _, rfl⟩ | ⟨_, _, B, c, rfl, _⟩⟩
  · exact ⟨_, _, _, _, _, rfl⟩
  · exact ⟨_, _, _, _, _, rfl⟩
  · exact ⟨_, _, _, _, _, rfl⟩
  · exact ⟨_, _, _, _, _, rfl⟩
/-- What both ways read is the same, named part for part. -/
theorem RdA.same3 {s : ByteArray} {w1 w1' w2 w2' : World} {B1 B2 : Option Addr} {n1 c1 n2 c2 : Nat} {i1 E1 i2 E2 : Int}
    (h1 : RdA s w1 (.returned (.tuple #[.slice B1 n1 c1, .int .i64 i1, .int .i64 E1])) w1') (h2 : RdA s w2 (.returned (.tuple #[.slice B2 n2 c2, .int .i64 i2, .int .i64 E2])) w2') :
    n2 = n1 ∧ i2 = i1 ∧ E2 = E1 ∧ n1 ≤ 1000000 ∧ ∃ l, Recs ActV.row 6 w1' 0 B1 n1 c1 l ∧ Recs ActV.row 6 w2' 0 B2 n2 c2 l := by
  obtain ⟨i, E, n, l, A1, A2, d1, d2, e1, e2, hn, r1, r2⟩ := h1.same h2
  simp only [Ending.returned.injEq, Value.tuple.injEq, Array.mk.injEq, List.cons.injEq, Value.slice.injEq, Value.int.injEq, true_and, and_true] at e1 e2
  obtain ⟨⟨rfl, rfl, rfl⟩, rfl, rfl⟩ := e1
  obtain ⟨⟨rfl, rfl, rfl⟩, rfl, rfl⟩ := e2
  exact ⟨rfl, rfl, rfl, hn, l, r1, r2⟩
set_option maxRecDepth 100000 in
set_option maxHeartbeats 8000000 in
theorem walk_ActTexts (a0 : Option Addr) (len cap : Nat) (zs : List Int) (W : World) (h : IsRow .i64 W a0 len cap zs) (ht : PwT W ∧ MxT W) :
    Calls Tryz.prog 4 #[.slice a0 len cap] W (fun e w' => e = .returned (.bool true) ∧ Below W.heap.size W w') := by
  have hs := str_new h
  obtain ⟨sb, hsb⟩ : ∃ sb, W.heap.size = sb := ⟨_, rfl⟩
  have hp1 := ht.1.lt
  have hp2 := ht.2.lt
  have hg0 : W.grownBy (W.alloc (.cells #[.slice a0 len cap, .int .i64 0] 25)) (some sb) := gr_alloc (gr_refl _ _) _
  have HG := Lib.hid hg0
  rw [hsb] at hs hp1 hp2
  have HPW := Lib.hid (ht.1.low hg0 (fun g e => by injection e with e; rw [← e]; omega))
  have HMX := Lib.hid (ht.2.low hg0 (fun g e => by injection e with e; rw [← e]; omega))
  have hlt := hs.lt
  have HS := Lib.hid hs
  have HSB := Lib.hid hsb
  clear h hs hg0 ht
  go_enter Tryz.func4, Tryz.ntmps4
  go_wp2_with fail
  refine (range_any sb _ 0 6 _ HS.out (by omega) (by omega) (by omega) (by omega)).mono ?_
  rintro e w0 ⟨v0, rfl, ⟨r0, hlo0, hhi0, rfl⟩, hs0, hg0⟩
  replace HS := Lib.hid hs0
  replace HG := Lib.hid (gr_same HG.out hg0)
  replace HPW := Lib.hid (HPW.out.low hg0 (fun g e => by injection e with e; rw [← e]; omega))
  replace HMX := Lib.hid (HMX.out.low hg0 (fun g e => by injection e with e; rw [← e]; omega))
  have z0 := hg0.size
  obtain ⟨q, rfl⟩ : ∃ q : Nat, r0 = q := ⟨r0.toNat, by omega⟩
  clear hs0 hg0
  go_wp2_with fail
  refine (acts_any sb _ q _ HS.out (by omega) (by omega)).mono ?_
  rintro e w1 ⟨v1, rfl, ⟨aA, an, ac, la, rfl, hca, han⟩, hs1, hg1⟩
  replace HS := Lib.hid hs1
  replace HG := Lib.hid (gr_same HG.out hg1)
  replace HPW := Lib.hid (HPW.out.low hg1 (fun g e => by injection e with e; rw [← e]; omega))
  replace HMX := Lib.hid (HMX.out.low hg1 (fun g e => by injection e with e; rw [← e]; omega))
  have z1 := hg1.size
  obtain ⟨lo1, hlo1⟩ : ∃ lo, w0.heap.size = lo := ⟨_, rfl⟩
  rw [hlo1] at hca z0 z1
  have HA := Lib.hid hca
  clear hca hlo1 hs1 hg1
  go_wp2_with fail
  refine (actTextG_any sb _ _ HS.out (by omega) HPW.out (by omega)).mono ?_
  rintro e w3 ⟨v3, rfl, ⟨t, rfl, htz⟩, hs3, hg3⟩
  replace HS := Lib.hid hs3
  replace HG := Lib.hid (gr_same HG.out hg3)
  replace HPW := Lib.hid (HPW.out.low hg3 (fun g e => by injection e with e; rw [← e]; omega))
  replace HMX := Lib.hid (HMX.out.low hg3 (fun g e => by injection e with e; rw [← e]; omega))
  have z3 := hg3.size
  replace HA := Lib.hid (HA.out.grown hg3 (fun g e => by first | (cases e; done) | (injection e with e; omega)))
  clear hs3 hg3 HS z0 z1 z3
  obtain ⟨E, hE⟩ : ∃ E, acsE la = E := ⟨_, rfl⟩
  obtain ⟨T, hT⟩ : ∃ T, acText la an = T := ⟨_, rfl⟩
  have HE := Lib.hid hE; have HT := Lib.hid hT
  clear hE hT
  go_wp2_with fail
  refine (actText_any lo1 aA an ac la _ HA.out (by omega) HPW.out).mono ?_
  rintro e w4 ⟨rfl, hg4⟩
  rw [HE.out, HT.out]
  replace HG := Lib.hid (gr_none HG.out hg4)
  replace HPW := Lib.hid (HPW.out.grown hg4)
  replace HMX := Lib.hid (HMX.out.grown hg4)
  replace HA := Lib.hid (HA.out.grown hg4 (fun g e => by cases e))
  clear hg4
  go_wp2_with fail
  refine (actsFault_any lo1 aA an ac la _ HA.out (by omega)).mono ?_
  rintro e w5 ⟨rfl, hg5⟩
  rw [HE.out]
  replace HG := Lib.hid (gr_none HG.out hg5)
  replace HPW := Lib.hid (HPW.out.grown hg5)
  replace HMX := Lib.hid (HMX.out.grown hg5)
  replace HA := Lib.hid (HA.out.grown hg5 (fun g e => by cases e))
  clear hg5
  have q3 : (T.toList == T.toList) = true := by simp
  have q0 : (E == E) = true := by simp
  by_cases hz : E = 0
  · have dz : (E == 0) = true := by simpa using hz
    have HRG := Lib.hid (acs_all (HE.out.trans hz)).2
    have HTT := Lib.hid (show (⟨(acTo la an).toArray⟩ : ByteArray) = T by rw [← HT.out]; exact (if_pos (HE.out.trans hz)).symm)
    clear hz
    go_wp2_with fail
    refine (actLines_any lo1 aA an ac la _ HA.out (by omega) HRG.out HPW.out).mono ?_
    rintro e w6 ⟨rfl, hg6⟩
    rw [HTT.out]
    replace HG := Lib.hid (gr_none HG.out hg6)
    replace HPW := Lib.hid (HPW.out.grown hg6)
    replace HMX := Lib.hid (HMX.out.grown hg6)
    replace HA := Lib.hid (HA.out.grown hg6 (fun g e => by cases e))
    clear hg6
    clear HA
    go_wp2_with fail
    refine (actsReadP_any t _ (by omega) HMX.out HPW.out).mono ?_
    rintro e wa hra
    obtain ⟨B1, n1, c1, i1, F1, rfl⟩ := hra.ret
    have hga := hra.1
    have HRA := Lib.hid hra
    replace HG := Lib.hid (gr_none HG.out hga)
    replace HPW := Lib.hid (HPW.out.grown hga)
    replace HMX := Lib.hid (HMX.out.grown hga)
    clear hga
    clear hra
    go_wp2_with fail
    refine (actsReadD_any t _ (by omega) HMX.out HPW.out).mono ?_
    rintro e wb hrb
    obtain ⟨B2, n2, c2, i2, F2, rfl⟩ := hrb.ret
    have hgb := hrb.1
    obtain ⟨rfl, rfl, rfl, hn1, L, hR1, hR2⟩ := HRA.out.same3 hrb
    have HR1 := Lib.hid (hR1.grown hgb (fun g e => by cases e))
    have HR2 := Lib.hid hR2
    replace HG := Lib.hid (gr_none HG.out hgb)
    replace HPW := Lib.hid (HPW.out.grown hgb)
    replace HMX := Lib.hid (HMX.out.grown hgb)
    clear hgb
    clear hrb hR1 hR2 HRA HPW HMX
    have q1 : (F2 == F2) = true := by simp
    have q2 : (i2 == i2) = true := by simp
    go_wp2_with fail
    refine (equalAc_same _ _ B1 B2 _ c1 _ c2 _ _ HR1.out HR2.out (by omega)).mono ?_
    rintro e wd ⟨rfl, k2, rfl⟩
    go_wp2_with (first
      | (go_at_call 29; refine (voiced_true _).mono ?_; rintro e wz ⟨rfl, hgz⟩; have HGZ := Lib.hid hgz; clear hgz)
      | fail)
    go_ret
    refine ⟨rfl, ?_⟩
    have hfin := gr_none HG.out (gr_none (gr_drewN (gr_refl _ none) k2) HGZ.out)
    rw [← HSB.out] at hfin
    exact below_of_gr hfin
  · have dz : (E == 0) = false := by simpa using hz
    obtain rfl : (⟨#[]⟩ : ByteArray) = T := by rw [← HT.out]; exact (if_neg (fun q => hz (HE.out.symm.trans q))).symm
    clear hz
    clear HA
    go_wp2_with fail
    refine (actsReadP_any t _ (by omega) HMX.out HPW.out).mono ?_
    rintro e wa hra
    obtain ⟨B1, n1, c1, i1, F1, rfl⟩ := hra.ret
    have hga := hra.1
    have HRA := Lib.hid hra
    replace HG := Lib.hid (gr_none HG.out hga)
    replace HPW := Lib.hid (HPW.out.grown hga)
    replace HMX := Lib.hid (HMX.out.grown hga)
    clear hga
    clear hra
    go_wp2_with fail
    refine (actsReadD_any t _ (by omega) HMX.out HPW.out).mono ?_
    rintro e wb hrb
    obtain ⟨B2, n2, c2, i2, F2, rfl⟩ := hrb.ret
    have hgb := hrb.1
    obtain ⟨rfl, rfl, rfl, hn1, L, hR1, hR2⟩ := HRA.out.same3 hrb
    have HR1 := Lib.hid (hR1.grown hgb (fun g e => by cases e))
    have HR2 := Lib.hid hR2
    replace HG := Lib.hid (gr_none HG.out hgb)
    replace HPW := Lib.hid (HPW.out.grown hgb)
    replace HMX := Lib.hid (HMX.out.grown hgb)
    clear hgb
    clear hrb hR1 hR2 HRA HPW HMX
    have q1 : (F2 == F2) = true := by simp
    have q2 : (i2 == i2) = true := by simp
    go_wp2_with fail
    refine (equalAc_same _ _ B1 B2 _ c1 _ c2 _ _ HR1.out HR2.out (by omega)).mono ?_
    rintro e wd ⟨rfl, k2, rfl⟩
    go_wp2_with (first
      | (go_at_call 29; refine (voiced_true _).mono ?_; rintro e wz ⟨rfl, hgz⟩; have HGZ := Lib.hid hgz; clear hgz)
      | fail)
    go_ret
    refine ⟨rfl, ?_⟩
    have hfin := gr_none HG.out (gr_none (gr_drewN (gr_refl _ none) k2) HGZ.out)
    rw [← HSB.out] at hfin
    exact below_of_gr hfin
/-! The row's frame, the world's shape kept. -/
section
variable {H : Type} {enc : TypeId × Value → H}
theorem rih_shape {a : Assume} {C : Checked} {os : Os} {f : FuncId} {fn : Func} {s : ChangeSpec} {conds : List PathCond} {apart fresh handsOn again : Bool} {X : World → Array Value → Prop}
    (hX : ∀ (w w' : World) (args : Array Value), w.heap = w'.heap → X w args → X w' args)
    (own : ownKnob C.prog.godebug = none) (started : os.Started) (noInit : C.prog.inits.idxOf? f = none) (hfn : C.prog.funcs[f]? = some fn)
    (witness : ∃ (w : World) (tape : Tape) (i : Input), w.os = os ∧ (w.forCall tape i).Shaped C.prog ∧ i.vars = [] ∧ Input.okWide C.prog (w.forCall tape i) .any w.heap.size f i ∧
      ((s.pre enc C.prog fn conds apart (w.forCall tape i).memory i.args ∧ X (w.forCall tape i).memory i.args) ∧ sizedMet enc C.prog fn (OpenSpec.ofChange s) apart (w.forCall tape i).memory i.args) ∧ a.holds C.prog (lone (Frame.enter C.prog f i.args .normal) [] (w.forCall tape i)))
    (contract : ∀ (W : World) (base : Nat) (args : Array Value) (ds gs : List (DataW H)) (before : List MemPlace),
      (∀ (j : Nat) t v, fn.params[j]? = some t → args[j]? = some v → Value.okWide C.prog W .any base t v) →
      DataW.Whole enc C.prog fn.params.toList s.vars apart W args.toList ds gs before →
      X W args → W.ShapedOpen C.prog →
      Calls C.prog f args W fun e W' => ∃ v, e = .returned v ∧ s.post enc C.prog fn apart fresh handsOn again W args v W') :
    ReturnsInHanded a C os f .any (fun w args => (s.pre enc C.prog fn conds apart w args ∧ X w args) ∧ sizedMet enc C.prog fn (OpenSpec.ofChange s) apart w args) (s.post enc C.prog fn apart fresh handsOn again) := by
  refine returnsInHanded_of_calls own started noInit witness ?_
  intro w tape i _ hsh _ hok hpre _
  obtain ⟨_, _, _, fn', hfn', _, _, _, _, hval⟩ := hok
  obtain rfl : fn' = fn := Option.some.inj (hfn'.symm.trans hfn)
  obtain ⟨⟨⟨ds, gs, before, hw, _⟩, hx⟩, _⟩ := hpre
  refine (contract (w.forCall tape i) w.heap.size i.args ds gs before hval (DataW.Whole.of_heap (w' := w.forCall tape i) (by rfl) hw) (hX _ _ _ (by rfl) hx) hsh).mono fun e W' ⟨v, he, hp⟩ => ?_
  subst he
  exact ChangeSpec.post_blind hp
end
theorem gPw : Tryz.prog.globalNamed "internal/strconv.uint64pow10" = some 3 := by kernel_rfl
theorem tPw : (Tryz.prog.globals[3]?).map (·.type) = some 276 := by kernel_rfl
theorem laid_pw : (Rows.laid_internal_strconv_uint64pow10 : DataW Unit) = Lib.tabData .u64 Lib.pow10Tab := rfl
theorem met_ActTexts {W : World} (h : laidMetH Tryz.prog Rows.actTextsRow.laid W) (hsh : W.ShapedOpen Tryz.prog) : PwT W ∧ MxT W := by
  refine ⟨?_, cell_of_shapedOpen_int (zero := #[.int .i64 0]) (t := 3) hsh (of_decide_eq_true (by kernel_rfl)) (by kernel_rfl) rfl (by kernel_rfl) (by kernel_rfl) Tryz.underlying3⟩
  rw [MakeChecks.laidMetH_plain _ _ _ (by kernel_rfl)] at h
  obtain ⟨ps, ⟨_, _, _, _, _, _, _, _, _, _, ⟨_, _, _, _, _, _, _, _, _, _, ⟨g0, t0, cs0, f0, p0, q0, hg0, ht0, hv0, hd0, _⟩, _⟩, _⟩, _, _⟩ := h
  obtain rfl := Option.some.inj (gPw.symm.trans hg0)
  obtain rfl := Option.some.inj (tPw.symm.trans ht0)
  rw [laid_pw] at hd0
  show W.var? _ _ = _
  rw [hv0, ← Lib.cells_of_tab Tryz.underlying276 Tryz.underlying195 (by kernel_rfl) (by kernel_rfl) hd0]

theorem own_ActTexts : ownKnob Tryz.prog.godebug = none := by kernel_rfl
theorem laidOut_ActTexts : laidOutB Tryz.prog = true := by kernel_rfl
set_option maxRecDepth 100000 in
theorem lifted_ActTexts (os : Os) (started : os.Started) (H : Type) (enc : TypeId × Value → H) :
    ReturnsInHanded {} Tryz.checked os 4 .any (fun w args => (Rows.actTextsSpec.pre enc Tryz.prog Tryz.f4 [] false w args ∧ laidMetH Tryz.prog Rows.actTextsRow.laid w) ∧ sizedMet enc Tryz.prog Tryz.f4 (OpenSpec.ofChange Rows.actTextsSpec) false w args) (Rows.actTextsSpec.post enc Tryz.prog Tryz.f4 false true false false) := by
  refine rih_shape (C := Tryz.checked) (X := fun w _ => laidMetH Tryz.prog Rows.actTextsRow.laid w) (fun _ _ _ hh h => h.of_heap hh) own_ActTexts started (by kernel_rfl) Tryz.func4
    (ChangeSpec.witness_shaped (enc := enc) (C := Tryz.checked) (os := os) (X := fun w _ => laidMetH Tryz.prog Rows.actTextsRow.laid w) false (World.laidAll Tryz.prog os Rows.actTextsRow.laid) #[.slice none 0 0] 8 (World.laidAll_os _ _ _) (World.shaped_of_ZipB (by kernel_rfl) (by kernel_rfl)) (by kernel_rfl) (by kernel_rfl) (by kernel_rfl)
      (by rw [MakeChecks.laidMetH_plain _ _ _ (by kernel_rfl)]; exact laidMet_laidAll _ (by kernel_rfl) (by kernel_rfl))) ?_
  intro W base args ds gs before hval0 hW hL hsh
  have hval : ∀ (j : Nat) t v, Tryz.f4.params[j]? = some t → args[j]? = some v → Value.okWide Tryz.prog W .any base t v := hval0
  have hW' := hW
  obtain ⟨p, q, hA0, hV, rfl, hfz, hnd⟩ := hW
  have hA : DataW.TrodAll enc Tryz.prog W 0 (fun _ => true) true Tryz.f4.params.toList args.toList ds p := hA0
  rw [Tryz.params4] at hA hval
  obtain ⟨v0, vs0, d0, ds0, p0, q0, hargs, rfl, rfl, h0, r0⟩ := trodAll_cons hA
  obtain ⟨rfl, rfl, rfl⟩ := trodAll_nil r0
  obtain rfl : args = #[v0] := by cases args; simp_all
  obtain ⟨rfl, rfl⟩ := trodVars_none hV
  obtain ⟨a0, len0, cap0, rfl⟩ := okWide_slice Tryz.underlying22 (hval 0 22 v0 rfl rfl)
  have k0 := h0
  have lt0 : ∀ x ∈ p0, x.block < W.heap.size := by obtain ⟨m, hm⟩ := k0; exact DataW.trod_lt m _ _ _ hm
  obtain ⟨z0, w0⟩ : ∃ zs, IsRow .i64 W a0 len0 cap0 zs := by
    obtain ⟨fuel, hf⟩ := h0
    rcases open_ints Tryz.underlying22 Tryz.underlying3 (by kernel_rfl) hf with ⟨hcs, _⟩ | ⟨x, l, c, zs, hcs, _, hl, hm, hz, _, hcell, hwz⟩
    · simp [Value.cells] at hcs
      obtain ⟨rfl, rfl, rfl⟩ := hcs
      exact ⟨[], .inl ⟨rfl, rfl, rfl, rfl⟩⟩
    · simp [Value.cells] at hcs
      obtain ⟨rfl, rfl, rfl⟩ := hcs
      exact ⟨zs, .inr ⟨_, rfl, hl, hm, by simpa using hz, hcell, hwz⟩⟩
  clear hA0 hval0
  refine (walk_ActTexts a0 len0 cap0 z0 W w0 (met_ActTexts hL hsh)).mono fun e W' ⟨he, bel⟩ => ?_
  subst he
  exact ⟨_, rfl, _, _, _, [], _, [], hW', trodAll_mk1 (shut_bool Tryz.underlying4 _), (trodAll_cons_mk (Below.trod laidOut_ActTexts (by kernel_rfl) (of_decide_eq_true (by kernel_rfl)) k0 bel lt0) trodAll_mk0), rfl, bel.frame _, fun h => by cases h⟩

theorem over_ActTexts : Rows.actTextsRow.holds Tryz.pinned (OpenSpec.ofChange Rows.actTextsSpec) :=
  OpenClaim.holds_of_wide 4 Tryz.f4 rfl rfl rfl rfl rfl rfl rfl ⟨rfl, rfl, rfl, rfl, rfl⟩ rfl rfl rfl rfl rfl (by kernel_rfl) Tryz.func4 (by kernel_rfl)
    (of_decide_eq_true (by kernel_rfl)) (by unfold Func.isWrapper; first | (rw [if_pos (by decide +kernel)]; kernel_rfl) | (rw [if_neg (by decide +kernel)]; exact ⟨rfl, rfl⟩))
    (fun os started H enc _ => lifted_ActTexts os started H enc)

theorem proved_ActTexts : Rows.ActTextsCardSaid :=
  Claim7.holds_tied_plain_at .later [] [.data, .data, .data, .data, .sentinel, .sentinel, .pinned] true Rows.actTextsCard.stood.harness true
    over_ActTexts (fun _ h => by cases h) (by kernel_rfl) (fun _ h => by cases h) actTexts_row_tie rfl ⟨rfl, rfl⟩ (by kernel_rfl) rfl
    (fun f fn hf hfn => by
      obtain rfl : f = 4 := Option.some.inj ((show Tryz.prog.funcNamed Rows.actTextsRow.func = some 4 by kernel_rfl).symm.trans hf) |>.symm
      obtain rfl : fn = Tryz.f4 := (Option.some.inj (Tryz.func4.symm.trans hfn)).symm
      exact ⟨by kernel_rfl, fun j t ht => by
        rw [Tryz.params4] at ht
        have h3 : t = 22 := by
          rcases j with _ | j
          · simpa using ht.symm
          · simp at ht
        subst h3
        exact (show Tryz.prog.wantsStandIn 22 = false by kernel_rfl)⟩)
    (by kernel_rfl)
end Go.Proofs.YtgogiljplnninaaGreatDoor


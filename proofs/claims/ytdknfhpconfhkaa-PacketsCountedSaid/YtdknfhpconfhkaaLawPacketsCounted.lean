/- The law PacketsCounted: for every input the call returns true, and the argument reads as before. Conditions: none. -/
import Derived.Test.YtdknfhpconfhkaaRows
import Derived.Test.YtdknfhpconfhkaaLawBase
import Derived.Test.YtdknfhpconfhkaaMCommon
import Derived.Test.YtdknfhpconfhkaaLoss4
import Derived.Test.YtdknfhpconfhkaaArrivals
import Derived.Deep.RegionHeld3
import Derived.ProofKit
import Derived.OpenShut
import Derived.ShutString
import Derived.ChangeOld
namespace Go.Proofs.Ytdknfhpconfhkaa
open Go.ChangeShapes Go.WideShapes Go.ChangeAt Go.RowKit
open Go.ChangeMaps (open_string shut_string)

set_option maxRecDepth 100000 in
set_option maxHeartbeats 20000000 in
theorem walk_PacketsCounted (a0 : Option Addr) (len0 cap0 : Nat) (z0 : List Int) (w : World) (w0 : IsRow .i64 w a0 len0 cap0 z0) :
    Calls Try.prog 7 #[.slice a0 len0 cap0] w fun e w' => e = .returned (.bool true) ∧ Below w.heap.size w w' := by
  have hs0 := str_new w0
  clear w0
  obtain ⟨sb, hsb⟩ : ∃ sb, w.heap.size = sb := ⟨_, rfl⟩
  have hlt : sb = w.heap.size := hsb.symm
  have HLT := Lib.hid hlt
  have hlt1 : sb ≤ w.heap.size := by omega
  have hlt2 : w.heap.size ≤ sb := by omega
  have HSB := Lib.hid hsb
  rw [hsb] at hs0
  clear hlt hsb
  have HS := Lib.hid hs0; clear hs0
  have HG := Lib.hid (gr_refl w (some sb))
  go_enter Try.func7, Try.ntmps7
  go_wp2_with fail
  simp only [HSB.out]
  refine (arrivals_any sb _ 12 _ (by exact HS.out) (by omega) (by omega)).mono ?_
  rintro e w1 ⟨v1, rfl, ⟨A1, n1, c1, l1, rfl, hga, hn1⟩, hs1, hg1⟩
  have HGA := Lib.hid hga
  clear hga
  have z1 := hg1.size; try simp at z1
  try replace HZ := Lib.hid (HZ.out.grown hg1 (by simp; omega))
  try replace HP := Lib.hid (HP.out.grown hg1 (by simp; omega))
  try replace HGA := Lib.hid (HGA.out.kept hg1 (fun g e => by injection e with e; omega))
  try replace HY := Lib.hid (Own.kept HY.out hg1 (fun g e e' => by injection e with e; have := (HY.out.lt e').1; omega))
  replace HG := Lib.hid (gr_same (a := w) (by repeat (first | exact HG.out | refine gr_alloc ?_ _ | refine gr_drew ?_ | refine gr_drewN ?_ _ | refine gr_setCell ?_ (.inr (by simp; omega)) _)) hg1); clear hg1
  replace HS := Lib.hid hs1; clear hs1
  clear HS
  have HA1 := Lib.hid (show Arrs w1 0 A1 n1 c1 l1 from ⟨HGA.out.arrs.1.lower (Nat.zero_le _), fun a ha => ⟨(HGA.out.arrs.2 a ha).1, ⟨(HGA.out.arrs.2 a ha).2.1.lower (Nat.zero_le _), (HGA.out.arrs.2 a ha).2.2⟩⟩⟩)
  clear HGA
  obtain ⟨af, haf⟩ : ∃ af, arrFault l1 = af := ⟨_, rfl⟩
  have HAF := Lib.hid haf; clear haf
  go_wp2_with fail
  refine (numbersE_any A1 n1 c1 l1 _ HA1.out (by omega)).mono ?_
  rintro e w2 ⟨v2, rfl, ⟨A2, n2, c2, rfl, hx2⟩, hg2⟩
  rw [HAF.out] at hx2 ⊢
  have HX2 := Lib.hid hx2
  have HN := Lib.hid hg2
  clear hx2 hg2
  have e1 : (af == af) = true := beq_self_eq_true _
  have e2 : (af != af) = false := by simp
  by_cases ha : af = 0
  · rw [if_pos ha] at HX2
    subst ha
    go_wp2_with fail
    refine (losses_good A1 n1 c1 l1 _ (HA1.out.grown HN.out (fun g e => by cases e)) HAF.out).mono ?_
    rintro e w3 ⟨v3, rfl, rfl, hg3⟩
    obtain ⟨d1, d2, d3, d4, d5, hd⟩ := lossCells_form l1
    rw [hd]
    have HD := Lib.hid hd
    replace HN := Lib.hid (gr_none HN.out hg3)
    replace HX2 := Lib.hid (HX2.out.grown hg3 (fun g e => by cases e))
    clear hg3 hd
    go_wp2_with fail
    refine (arrivalsFault_any 0 A1 n1 c1 l1 _ (HA1.out.grown (gr_alloc HN.out _) (fun g e => by cases e)) (by omega)).mono ?_
    rintro e w4 ⟨rfl, hg4⟩
    rw [HAF.out]
    have hB := (Blk.new w3 76 _).grown hg4 (by simp)
    replace HN := Lib.hid (gr_none (gr_alloc HN.out _) hg4)
    replace HX2 := Lib.hid ((HX2.out.alloc _).grown hg4 (fun g e => by cases e))
    have HB := Lib.hid hB
    clear hg4 hB
    go_wp2_with fail
    refine (checkArrivals_any 0 A1 n1 c1 l1 _ (HA1.out.grown HN.out (fun g e => by cases e)) (by omega)).mono ?_
    rintro e w5 ⟨rfl, hg5⟩
    rw [HAF.out]
    have hB := HB.out.grown hg5 (by simp)
    have hblt := hB.lt
    have k0 := hB.cell 0
    have k1 := hB.cell 1
    have k2 := hB.cell 2
    have k3 := hB.cell 3
    have k4 := hB.cell 4
    replace HN := Lib.hid (gr_none HN.out hg5)
    replace HX2 := Lib.hid (HX2.out.grown hg5 (fun g e => by cases e))
    have HA5 := Lib.hid (HA1.out.grown HN.out (fun g e => by cases e))
    replace HB := Lib.hid hB
    clear hg5 hB
    have hnn : n2 ≤ 1000000 := by
      have h1 := HX2.out.len
      have h2 := (numTo_bd (l := l1) (fun a ha => ((arr_ok HAF.out).2 a ha).2.1) l1.length (Nat.le_refl _)).1
      have h3 := (arr_ok HAF.out).1
      unfold nums at h1
      omega
    have q1 : (d1 == d1) = true := beq_self_eq_true _
    have q2 : (d2 == d2) = true := beq_self_eq_true _
    have q3 : (d3 == d3) = true := beq_self_eq_true _
    have q4 : (d4 == d4) = true := beq_self_eq_true _
    have q5 : (d5 == d5) = true := beq_self_eq_true _
    have K0 := Lib.hid k0; have K1 := Lib.hid k1; have K2 := Lib.hid k2; have K3 := Lib.hid k3; have K4 := Lib.hid k4
    clear k0 k1 k2 k3 k4
    go_wp2_with fail
    go_region_held3 (fun w' => (w'.cell? ⟨w3.heap.size, 0, none⟩ = some (.int .i64 d1) ∧ w'.cell? ⟨w3.heap.size, 1, none⟩ = some (.int .i64 d2) ∧ w'.cell? ⟨w3.heap.size, 2, none⟩ = some (.int .i64 d3) ∧ w'.cell? ⟨w3.heap.size, 3, none⟩ = some (.int .i64 d4) ∧ w'.cell? ⟨w3.heap.size, 4, none⟩ = some (.int .i64 d5)) ∧ w5.grownBy w' none)
      ((suffices hg : w5.grownBy _ none from ⟨⟨(World.cell?_of_block (hg.block _ hblt (by simp))).trans K0.out, (World.cell?_of_block (hg.block _ hblt (by simp))).trans K1.out, (World.cell?_of_block (hg.block _ hblt (by simp))).trans K2.out, (World.cell?_of_block (hg.block _ hblt (by simp))).trans K3.out, (World.cell?_of_block (hg.block _ hblt (by simp))).trans K4.out⟩, hg⟩
        repeat (first | (with_reducible exact HG9.out) | (with_reducible exact HG8.out) | (with_reducible exact HG7.out) | (with_reducible refine gr_drew ?_) | (with_reducible exact gr_refl _ _))))
      (first
        | (go_at_call 50
           have hS' : w5.grownBy _ none := (by rename_i hS _ _; exact hS.2)
           refine (numbersOf_any 0 _ _ _ l1 _ (HA5.out.grown hS' (fun g e => by cases e)) HAF.out).mono ?_
           rintro e w7 ⟨v7, rfl, ⟨A7, n7, c7, rfl, hx7⟩, hg7⟩
           have HG7 := Lib.hid (gr_none hS' hg7)
           have HX7 := Lib.hid hx7
           clear hS' hg7 hx7)
        | (go_at_call 38
           refine (equalI_any _ _ _ _ _ _ _ _ (nums l1) (nums l1) _ (HX2.out.grown HG7.out (fun g e => by cases e)) HX7.out (by omega)).mono ?_
           rintro e w8 ⟨rfl, k8, hw8⟩
           have HG8 := Lib.hid (show w5.grownBy w8 none by rw [hw8]; exact gr_drewN HG7.out _)
           clear hw8
           rw [show (nums l1 == nums l1) = true from beq_self_eq_true _])
        | (go_at_call 51
           have hS' : w5.grownBy _ none := (by rename_i hS _ _; exact hS.2)
           refine (lossesOf_any _ _ _ l1 _ (HA5.out.grown hS' (fun g e => by cases e)) HAF.out).mono ?_
           rintro e w9 ⟨v9, rfl, rfl, hg9⟩
           have HG9 := Lib.hid (gr_none hS' hg9)
           rw [HD.out]
           clear hS' hg9)
        | (go_at_call 19
           refine (sounded_true _).mono ?_
           rintro e w11 ⟨rfl, rfl⟩)
        | fail)
    go_wp2_with fail
    go_ret
    refine ⟨by simp, ?_⟩
    have h := gr_none HG.out (gr_none HN.out HG9.out)
    rw [HLT.out] at h
    exact below_of_gr h
  · have hab : (af != 0) = true := by simpa using ha
    go_wp2_with fail
    refine (losses_none 0 A1 n1 c1 l1 _ (HA1.out.grown HN.out (fun g e => by cases e)) (by omega) (.inl (by rw [HAF.out]; exact ha))).mono ?_
    rintro e w3 ⟨v3, rfl, rfl, hg3⟩
    rw [HAF.out]
    replace HN := Lib.hid (gr_none HN.out hg3)
    rw [if_neg ha] at HX2
    obtain rfl : n2 = 0 := by have := HX2.out.len; simp at this; omega
    clear hg3
    go_wp2_with fail
    refine (arrivalsFault_any 0 A1 n1 c1 l1 _ (HA1.out.grown (gr_alloc HN.out _) (fun g e => by cases e)) (by omega)).mono ?_
    rintro e w4 ⟨rfl, hg4⟩
    rw [HAF.out]
    have hB := (Blk.new w3 76 _).grown hg4 (by simp)
    replace HN := Lib.hid (gr_none (gr_alloc HN.out _) hg4)
    have HB := Lib.hid hB
    clear hg4 hB
    go_wp2_with fail
    refine (checkArrivals_any 0 A1 n1 c1 l1 _ (HA1.out.grown HN.out (fun g e => by cases e)) (by omega)).mono ?_
    rintro e w5 ⟨rfl, hg5⟩
    rw [HAF.out]
    have hB := HB.out.grown hg5 (by simp)
    have k0 := hB.cell 0
    have k1 := hB.cell 1
    have k2 := hB.cell 2
    have k3 := hB.cell 3
    have k4 := hB.cell 4
    replace HN := Lib.hid (gr_none HN.out hg5)
    clear hg5 hB
    go_wp2_with (first
      | (go_at_call 19
         refine (sounded_true _).mono ?_
         rintro e w11 ⟨rfl, rfl⟩)
      | fail)
    go_ret
    refine ⟨by simp, ?_⟩
    have h := gr_none HG.out HN.out
    rw [HLT.out] at h
    exact below_of_gr h

theorem own_PacketsCounted : ownKnob Try.prog.godebug = none := by kernel_rfl
theorem laidOut_PacketsCounted : laidOutB Try.prog = true := by kernel_rfl

set_option maxRecDepth 100000 in
theorem lifted_PacketsCounted (os : Os) (started : os.Started) (H : Type) (enc : TypeId × Value → H) :
    ReturnsInHanded {} Try.checked os 7 .any (Rows.packetsCountedSpec.pre6 enc Try.prog Try.f7 Rows.packetsCountedRow.domain false) (Rows.packetsCountedSpec.post enc Try.prog Try.f7 false true false false) := by
  refine returnsInHanded_of_change (C := Try.checked) own_PacketsCounted started (by kernel_rfl) Try.func7
    (ChangeSpec.witness6 (enc := enc) (C := Try.checked) false ⟨#[], #[.slice none 0 0], []⟩ 8 (by kernel_rfl) (by kernel_rfl) (by kernel_rfl) (by kernel_rfl)) ?_
  intro W base args ds gs before hval0 hW hcnd _
  have hval : ∀ (j : Nat) t v, Try.f7.params[j]? = some t → args[j]? = some v → Value.okWide Try.prog W .any base t v := hval0
  have hW' := hW
  obtain ⟨p, q, hA0, hV, rfl, hfz, hnd⟩ := hW
  have hA : DataW.TrodAll enc Try.prog W 0 (fun _ => true) true Try.f7.params.toList args.toList ds p := hA0
  rw [Try.params7] at hA hval
  obtain ⟨v0, vs0, d0, ds0, p0, q0, hargs, rfl, rfl, h0, r0⟩ := trodAll_cons hA
  obtain ⟨rfl, rfl, rfl⟩ := trodAll_nil r0
  obtain rfl : args = #[v0] := by cases args; simp_all
  obtain ⟨rfl, rfl⟩ := trodVars_none hV
  obtain ⟨a0, len0, cap0, rfl⟩ := okWide_slice Try.underlying22 (hval 0 22 v0 rfl rfl)
  have k0 := h0
  have lt0 : ∀ x ∈ p0, x.block < W.heap.size := by obtain ⟨m, hm⟩ := k0; exact DataW.trod_lt m _ _ _ hm
  obtain ⟨z0, w0⟩ : ∃ zs, IsRow .i64 W a0 len0 cap0 zs := by
    obtain ⟨fuel, hf⟩ := h0
    rcases open_ints Try.underlying22 Try.underlying3 (by kernel_rfl) hf with ⟨hcs, _⟩ | ⟨x, l, c, zs, hcs, _, hl, hm, hz, _, hcell, hwz⟩
    · simp [Value.cells] at hcs
      obtain ⟨rfl, rfl, rfl⟩ := hcs
      exact ⟨[], .inl ⟨rfl, rfl, rfl, rfl⟩⟩
    · simp [Value.cells] at hcs
      obtain ⟨rfl, rfl, rfl⟩ := hcs
      exact ⟨zs, .inr ⟨_, rfl, hl, hm, by simpa using hz, hcell, hwz⟩⟩
  clear hA0 hval0
  refine (walk_PacketsCounted a0 len0 cap0 z0 W w0).mono fun e W' ⟨he, bel⟩ => ?_
  subst he
  exact ⟨_, rfl, _, _, _, [], _, [], hW', trodAll_mk1 (shut_bool Try.underlying4 _), (trodAll_cons_mk (Below.trod laidOut_PacketsCounted (by kernel_rfl) (of_decide_eq_true (by kernel_rfl)) k0 bel lt0) trodAll_mk0), rfl, bel.frame _, fun h => by cases h⟩

theorem over_PacketsCounted : Rows.packetsCountedRow.holds Try.pinned (OpenSpec.ofChange Rows.packetsCountedSpec) :=
  OpenClaim.holds_of_wide 7 Try.f7 rfl rfl rfl rfl rfl rfl rfl ⟨rfl, rfl, rfl, rfl, rfl⟩ rfl rfl rfl rfl rfl (by kernel_rfl) Try.func7 (by kernel_rfl)
    (of_decide_eq_true (by kernel_rfl)) (by unfold Func.isWrapper; first | (rw [if_pos (by decide +kernel)]; kernel_rfl) | (rw [if_neg (by decide +kernel)]; exact ⟨rfl, rfl⟩))
    (fun os started H enc _ => lifted_PacketsCounted os started H enc)

theorem proved_PacketsCounted : Rows.PacketsCountedSaid := over_PacketsCounted

end Go.Proofs.Ytdknfhpconfhkaa

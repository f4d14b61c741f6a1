/- The law SoundsMixed: for every input the call returns true, and the argument reads as before. Conditions: none. -/
import Derived.Test.YtdknfhpconfhkaaRows
import Derived.Test.YtdknfhpconfhkaaLawBase
import Derived.Test.YtdknfhpconfhkaaSnds
import Derived.Deep.DeepCutAuto
import Derived.ProofKit
import Derived.OpenShut
import Derived.ShutString
import Derived.ChangeOld
namespace Go.Proofs.Ytdknfhpconfhkaa
open Go.ChangeShapes Go.WideShapes Go.ChangeAt Go.RowKit
open Go.ChangeMaps (open_string shut_string)

/-- The sounds that have been made so far, and the first error among them. -/
def SMRel (w1 : World) (sb : Nat) (m : Int) (k : Nat) (A' : Option Addr) (c' : Nat) (ss : List SndV) (wr : World) : Prop :=
  Str wr sb (m + 40 * k) ∧ w1.grownBy wr (some sb) ∧ SndsG wr w1.heap.size A' k c' ss ∧ ss.length = k
def SMCut (w : World) (sb : Nat) (m : Int) (v f : Value) (wx : World) : Prop :=
  ∃ (A : Option Addr) (n c : Nat) (ss : List SndV), v = .slice A n c ∧ f = .int .i64 (mixFault ss) ∧ n ≤ 21 ∧ Str wx sb m ∧ w.grownBy wx (some sb) ∧ SndsG wx (sb + 1) A n c ss
def CutInts (wb : World) (l : List Int) (v : Value) (wx : World) : Prop := ∃ (A : Option Addr) (n c : Nat), v = .slice A n c ∧ Ints .i64 wx 0 A n c l ∧ wb.grownBy wx none
def CutWins (wb : World) (l : List (Int × Int)) (v : Value) (wx : World) : Prop := ∃ (A : Option Addr) (n c : Nat), v = .slice A n c ∧ Wins wx 0 A n c l ∧ wb.grownBy wx none
def CutErr (wb : World) (f : Int) (v : Value) (wx : World) : Prop := v = .int .i64 f ∧ wb.grownBy wx none

set_option maxRecDepth 100000 in
set_option maxHeartbeats 20000000 in
theorem walk_SoundsMixed (a0 : Option Addr) (len0 cap0 : Nat) (z0 : List Int) (w : World) (w0 : IsRow .i64 w a0 len0 cap0 z0) :
    Calls Try.prog 6 #[.slice a0 len0 cap0] w fun e w' => e = .returned (.bool true) ∧ Below w.heap.size w w' := by
  have hs0 := str_new w0
  clear w0
  obtain ⟨sb, hsb⟩ : ∃ sb, w.heap.size = sb := ⟨_, rfl⟩
  have hlt : sb = w.heap.size := hsb.symm
  have HLT := Lib.hid hlt
  have hlt1 : sb ≤ w.heap.size := by omega
  have hlt2 : w.heap.size ≤ sb := by omega
  have HSB := Lib.hid hsb
  rw [hsb] at hs0
  clear hlt hsb
  have HS := Lib.hid hs0; clear hs0
  have HG := Lib.hid (gr_refl w (some sb))
  have hmk : ∀ w : World, (Instr.makeSlice 62 (.int .i64 21) (.int .i64 21)).run Try.prog w = .ok (.slice (some ⟨w.heap.size, 0, none⟩) 21 21) (w.alloc (.cells (Array.replicate 21 (.slice none 0 0)) 22)) := run_make1 Try.rowsT 21 rfl (by omega) (by omega)
  go_enter Try.func6, Try.ntmps6
  go_wp2_with fail
  simp only [HSB.out]
  refine (range_any sb _ 0 4 _ (by exact HS.out) (by omega) (by omega) (by omega) (by omega)).mono ?_
  rintro e w1 ⟨v1, rfl, ⟨r1, hlo1, hhi1, rfl⟩, hs1, hg1⟩
  have z1 := hg1.size; try simp at z1
  try replace HZ := Lib.hid (HZ.out.grown hg1 (by simp; omega))
  try replace HP := Lib.hid (HP.out.grown hg1 (by simp; omega))
  try replace HGA := Lib.hid (HGA.out.kept hg1 (fun g e => by injection e with e; omega))
  try replace HY := Lib.hid (Own.kept HY.out hg1 (fun g e e' => by injection e with e; have := (HY.out.lt e').1; omega))
  replace HG := Lib.hid (gr_same (a := w) (by repeat (first | exact HG.out | refine gr_alloc ?_ _ | refine gr_drew ?_ | refine gr_drewN ?_ _ | refine gr_setCell ?_ (.inr (by simp; omega)) _)) hg1); clear hg1
  replace HS := Lib.hid hs1; clear hs1
  obtain ⟨nn, rfl⟩ : ∃ nn : Nat, r1 = nn := ⟨r1.toNat, by omega⟩
  have hsb1 := HS.out.lt
  have HREL := Lib.hid (show SMRel w1 sb (0 + 1) 0 none 0 [] w1 from ⟨HS.out.mono (by omega), gr_refl _ _, SndsG.nil _ _, rfl⟩)
  clear HS
  go_wp2_with fail
  go_loopw [4, 5, 6, 27] (fun v f _ t wr => ∃ (k : Nat) (A' : Option Addr) (c' : Nat) (ss : List SndV), k ≤ nn ∧ t = .int .i64 k ∧ v = .slice A' k c' ∧ f = .int .i64 (sErr ss) ∧ SMRel w1 sb (0 + 1) k A' c' ss wr) (fun _ _ _ t _ => nn - (intOf t).toNat)
  case atStart => exact ⟨0, none, 0, [], Nat.zero_le _, rfl, rfl, rfl, HREL.out⟩
  case round =>
    clear HREL
    obtain ⟨k, A', c', ss, hk, rfl, rfl, rfl, hs, hgr, hga, hsl⟩ := hrel
    have HS := Lib.hid hs; have HGR := Lib.hid hgr; have HGA := Lib.hid hga; have HSL := Lib.hid hsl
    have zr := hgr.size
    clear hs hgr hga hsl
    by_cases hlt2 : k < nn
    · have hkn : decide (k < nn) = true := by simpa using hlt2
      go_wp2_with fail
      refine (sound_any sb _ 8 _ (by first | exact HS.out | exact HS.out.alloc _ | exact (HS.out.alloc _).alloc _ | exact ((HS.out.alloc _).alloc _).alloc _ | exact HS.out.drewN _ | exact HS.out.setCell (by simp; omega) _ | exact (HS.out.alloc _).setCell (by simp; omega) _ | exact (HS.out.setCell (by simp; omega) _).alloc _ | exact (HS.out.setCell (by simp; omega) _).drewN _ | exact (HS.out.alloc _).drewN _) (by omega) (by omega)).mono ?_
      rintro e w5 ⟨v5, rfl, ⟨A5, n5, c5, l5, rfl, ho5, hl5, hn5⟩, hs5, hg5⟩
      have z5 := hg5.size
      replace HGA := Lib.hid (HGA.out.kept hg5 (fun g e => by injection e with e; omega))
      replace HGR := Lib.hid (gr_same HGR.out hg5)
      replace HS := Lib.hid hs5
      have HO5 := Lib.hid (show OwnI w5 w1.heap.size A5 n5 c5 l5 from Own.lower ho5 (by omega))
      clear hg5 hs5 ho5 hl5
      go_wp2_with (first
        | (at_builtin
           refine wpl_app _ rfl _ _ Try.rowsT rfl w1.heap.size A' k c' _ rfl (by exact HGA.out.1.alloc _) _ _ 1 1 [.slice A5 n5 c5] rfl (by exact Reads.one _ _ _ _ rfl) (by simp [Value.oneCell']) (by unfold maxLen; omega) (by omega) (by simp; omega) ?_
           intro A6 c6 w6 h6
           have H6 := Lib.hid h6; clear h6)
        | fail)
      have hga6 := (HGA.out.alloc _).append (s := ⟨A5, n5, c5, l5⟩) (Own.alloc HO5.out _) (by dsimp only; omega) H6.out
      replace HS := Lib.hid ((HS.out.alloc _).grown H6.out.2.1 (fun g e => by have := (HGA.out.1.lt e).1; omega))
      replace HGR := Lib.hid (H6.out.gr (gr_alloc HGR.out _) (HGA.out.1.alloc _) (Nat.le_refl _))
      replace HGA := Lib.hid hga6; clear hga6
      have hz6 := HGR.out.size
      go_wp2_with (first
        | (go_at_call 28; refine (samplesFault_any 0 A5 n5 c5 l5 _ (Ints.lower (Own.reads (HGA.out.2 ⟨A5, n5, c5, l5⟩ (by simp)).1) (Nat.zero_le _)) (by omega)).mono ?_; rintro e w' ⟨rfl, rfl⟩)
        | fail)
      refine (errs2_new (sErr ss) (smpFault l5) _ rfl).mono ?_
      rintro e w7 ⟨rfl, hg7⟩
      rw [← sErr_snoc ss ⟨A5, n5, c5, l5⟩]
      have HG7 := Lib.hid hg7; clear hg7
      go_wp2_with fail
      go_roundw
      case rel => exact ⟨k + 1, A6, c6, ss ++ [⟨A5, n5, c5, l5⟩], by omega, by go_num, rfl, rfl, (HS.out.grown HG7.out (fun g e => by cases e)).mono (by omega), gr_none HGR.out HG7.out, HGA.out.kept HG7.out (fun g e => by cases e), by simp [HSL.out]⟩
      case measure => simp [intOf]; omega
    · obtain rfl : k = nn := by omega
      replace HG := Lib.hid (gr_same HG.out HGR.out)
      clear HGR
      have HMF := Lib.hid (mixFault_eq (ss := ss) (by rw [HSL.out]; omega))
      go_wp2_with fail
      refine (flip_any sb _ 40 _ (by first | exact HS.out | exact HS.out.alloc _ | exact (HS.out.alloc _).alloc _ | exact ((HS.out.alloc _).alloc _).alloc _ | exact HS.out.drewN _ | exact HS.out.setCell (by simp; omega) _ | exact (HS.out.alloc _).setCell (by simp; omega) _ | exact (HS.out.setCell (by simp; omega) _).alloc _ | exact (HS.out.setCell (by simp; omega) _).drewN _ | exact (HS.out.alloc _).drewN _) (by omega) (by omega) (by omega)).mono ?_
      rintro e w5 ⟨v5, rfl, ⟨f5, rfl⟩, hs5, hg5⟩
      have z5 := hg5.size; try simp at z5
      try replace HZ := Lib.hid (HZ.out.grown hg5 (by simp; omega))
      try replace HP := Lib.hid (HP.out.grown hg5 (by simp; omega))
      try replace HGA := Lib.hid (HGA.out.kept hg5 (fun g e => by injection e with e; omega))
      try replace HY := Lib.hid (Own.kept HY.out hg5 (fun g e e' => by injection e with e; have := (HY.out.lt e').1; omega))
      replace HG := Lib.hid (gr_same (a := w) (by repeat (first | exact HG.out | refine gr_alloc ?_ _ | refine gr_drew ?_ | refine gr_drewN ?_ _ | refine gr_setCell ?_ (.inr (by simp; omega)) _)) hg5); clear hg5
      replace HS := Lib.hid hs5; clear hs5
      go_upto_if 42 with (fail)
      go_cut [4, 5] (fun v f wx => SMCut w sb 200 v f wx)
      case first =>
        cases f5
        · go_wp2_with fail
          go_meet
          exact ⟨A', k, c', ss, rfl, by rw [HMF.out], by omega, HS.out.mono (by omega), HG.out, HGA.out.lower (by omega)⟩
        · go_wp2_with fail
          go_meet
          exact ⟨_, 21, 21, List.replicate 21 ⟨none, 0, 0, []⟩, rfl, by rfl, by omega, (HS.out.alloc _).mono (by omega), gr_alloc HG.out _, (SndsG.made w5 21 (by unfold maxLen; omega)).lower (by omega)⟩
      case rest =>
        clear HS HG HGA HMF HSL hmk
        obtain ⟨A2, n2, c2, ss2, rfl, rfl, hn2, hs2, hg2, hga2⟩ := hcut
        have HS := Lib.hid hs2; have HG := Lib.hid hg2; have HGA := Lib.hid hga2
        have zc := hg2.size
        have hsc := hs2.lt
        clear hs2 hg2 hga2
        go_wp2_with fail
        refine (sound_any sb _ 10 _ (by first | exact HS.out | exact HS.out.alloc _ | exact (HS.out.alloc _).alloc _ | exact ((HS.out.alloc _).alloc _).alloc _ | exact HS.out.drewN _ | exact HS.out.setCell (by simp; omega) _ | exact (HS.out.alloc _).setCell (by simp; omega) _ | exact (HS.out.setCell (by simp; omega) _).alloc _ | exact (HS.out.setCell (by simp; omega) _).drewN _ | exact (HS.out.alloc _).drewN _) (by omega) (by omega)).mono ?_
        rintro e w6 ⟨v6, rfl, ⟨A3, n3, c3, l3, rfl, ho3, hl3, hn3⟩, hs6, hg6⟩
        have HY := Lib.hid ho3; clear ho3 hl3
        have z6 := hg6.size; try simp at z6
        try replace HZ := Lib.hid (HZ.out.grown hg6 (by simp; omega))
        try replace HP := Lib.hid (HP.out.grown hg6 (by simp; omega))
        try replace HGA := Lib.hid (HGA.out.kept hg6 (fun g e => by injection e with e; omega))
        try replace HY := Lib.hid (Own.kept HY.out hg6 (fun g e e' => by injection e with e; have := (HY.out.lt e').1; omega))
        replace HG := Lib.hid (gr_same (a := w) (by repeat (first | exact HG.out | refine gr_alloc ?_ _ | refine gr_drew ?_ | refine gr_drewN ?_ _ | refine gr_setCell ?_ (.inr (by simp; omega)) _)) hg6); clear hg6
        replace HS := Lib.hid hs6; clear hs6
        go_wp2_with fail
        refine (pick_new sb _ [0, 128, 255, 256, 1000, 65536, -1, 65537] _ (by first | exact HS.out | exact HS.out.alloc _ | exact (HS.out.alloc _).alloc _ | exact ((HS.out.alloc _).alloc _).alloc _ | exact HS.out.drewN _ | exact HS.out.setCell (by simp; omega) _ | exact (HS.out.alloc _).setCell (by simp; omega) _ | exact (HS.out.setCell (by simp; omega) _).alloc _ | exact (HS.out.setCell (by simp; omega) _).drewN _ | exact (HS.out.alloc _).drewN _) (by omega) (by simp) rfl rfl (by simp) (by simp)).mono ?_
        rintro e w7 ⟨v7, rfl, ⟨r7, hr7, rfl⟩, hs7, hg7⟩
        have HR7 := Lib.hid hr7; clear hr7
        have z7 := hg7.size; try simp at z7
        try replace HZ := Lib.hid (HZ.out.grown hg7 (by simp; omega))
        try replace HP := Lib.hid (HP.out.grown hg7 (by simp; omega))
        try replace HGA := Lib.hid (HGA.out.kept hg7 (fun g e => by injection e with e; omega))
        try replace HY := Lib.hid (Own.kept HY.out hg7 (fun g e e' => by injection e with e; have := (HY.out.lt e').1; omega))
        replace HG := Lib.hid (gr_same (a := w) (by repeat (first | exact HG.out | refine gr_alloc ?_ _ | refine gr_drew ?_ | refine gr_drewN ?_ _ | refine gr_setCell ?_ (.inr (by simp; omega)) _)) hg7); clear hg7
        replace HS := Lib.hid hs7; clear hs7
        go_wp2_with fail
        refine (pick_new sb _ [0, 1, 5, 32767, -1, 32768] _ (by first | exact HS.out | exact HS.out.alloc _ | exact (HS.out.alloc _).alloc _ | exact ((HS.out.alloc _).alloc _).alloc _ | exact HS.out.drewN _ | exact HS.out.setCell (by simp; omega) _ | exact (HS.out.alloc _).setCell (by simp; omega) _ | exact (HS.out.setCell (by simp; omega) _).alloc _ | exact (HS.out.setCell (by simp; omega) _).drewN _ | exact (HS.out.alloc _).drewN _) (by omega) (by simp) rfl rfl (by simp) (by simp)).mono ?_
        rintro e w8 ⟨v8, rfl, ⟨r8, hr8, rfl⟩, hs8, hg8⟩
        have HR8 := Lib.hid hr8; clear hr8
        have z8 := hg8.size; try simp at z8
        try replace HZ := Lib.hid (HZ.out.grown hg8 (by simp; omega))
        try replace HP := Lib.hid (HP.out.grown hg8 (by simp; omega))
        try replace HGA := Lib.hid (HGA.out.kept hg8 (fun g e => by injection e with e; omega))
        try replace HY := Lib.hid (Own.kept HY.out hg8 (fun g e e' => by injection e with e; have := (HY.out.lt e').1; omega))
        replace HG := Lib.hid (gr_same (a := w) (by repeat (first | exact HG.out | refine gr_alloc ?_ _ | refine gr_drew ?_ | refine gr_drewN ?_ _ | refine gr_setCell ?_ (.inr (by simp; omega)) _)) hg8); clear hg8
        replace HS := Lib.hid hs8; clear hs8
        go_wp2_with fail
        refine (pick_new sb _ [1, 2, 3, 0, 20001] _ (by first | exact HS.out | exact HS.out.alloc _ | exact (HS.out.alloc _).alloc _ | exact ((HS.out.alloc _).alloc _).alloc _ | exact HS.out.drewN _ | exact HS.out.setCell (by simp; omega) _ | exact (HS.out.alloc _).setCell (by simp; omega) _ | exact (HS.out.setCell (by simp; omega) _).alloc _ | exact (HS.out.setCell (by simp; omega) _).drewN _ | exact (HS.out.alloc _).drewN _) (by omega) (by simp) rfl rfl (by simp) (by simp)).mono ?_
        rintro e w9 ⟨v9, rfl, ⟨r9, hr9, rfl⟩, hs9, hg9⟩
        have HR9 := Lib.hid hr9; clear hr9
        have z9 := hg9.size; try simp at z9
        try replace HZ := Lib.hid (HZ.out.grown hg9 (by simp; omega))
        try replace HP := Lib.hid (HP.out.grown hg9 (by simp; omega))
        try replace HGA := Lib.hid (HGA.out.kept hg9 (fun g e => by injection e with e; omega))
        try replace HY := Lib.hid (Own.kept HY.out hg9 (fun g e e' => by injection e with e; have := (HY.out.lt e').1; omega))
        replace HG := Lib.hid (gr_same (a := w) (by repeat (first | exact HG.out | refine gr_alloc ?_ _ | refine gr_drew ?_ | refine gr_drewN ?_ _ | refine gr_setCell ?_ (.inr (by simp; omega)) _)) hg9); clear hg9
        replace HS := Lib.hid hs9; clear hs9
        have hx7 : -1 ≤ r7 ∧ r7 ≤ 65537 := by have h := HR7.out; simp at h; omega
        have hx8 : -1 ≤ r8 ∧ r8 ≤ 32768 := by have h := HR8.out; simp at h; omega
        have hx9 : 0 ≤ r9 ∧ r9 ≤ 20001 := by have h := HR9.out; simp at h; omega
        obtain ⟨hx70, hx71⟩ := hx7
        obtain ⟨hx80, hx81⟩ := hx8
        obtain ⟨hx90, hx91⟩ := hx9
        clear HR7 HR8 HR9 HS
        have HSN := Lib.hid HGA.out.snds
        have HSB2 := Lib.hid (show ∀ s ∈ ss2, s.n ≤ 1000000 from fun s hs => by have := (HGA.out.2 s hs).2; omega)
        have HX := Lib.hid (show Ints .i64 w9 0 A3 n3 c3 l3 from Ints.lower (Own.reads HY.out) (Nat.zero_le _))
        clear HGA HY
        go_wp2_with fail
        refine (mix_any A2 n2 c2 ss2 _ HSN.out (by omega) HSB2.out).mono ?_
        rintro e w10 ⟨v10, rfl, ⟨A10, n10, c10, rfl, hx10⟩, hg10⟩
        have HX10 := Lib.hid hx10
        have HN := Lib.hid hg10
        clear hx10 hg10
        go_wp2_with fail
        refine (louder_any A3 n3 c3 l3 r7 _ (HX.out.grown HN.out (fun g e => by cases e)) (by omega)).mono ?_
        rintro e w11 ⟨v11, rfl, ⟨A11, n11, c11, rfl, hx11⟩, hg11⟩
        have HX11 := Lib.hid hx11
        replace HX10 := Lib.hid (HX10.out.grown hg11 (fun g e => by cases e))
        replace HN := Lib.hid (gr_none HN.out hg11)
        clear hx11 hg11
        go_wp2_with fail
        refine (silent_any A3 n3 c3 l3 r8 r9 _ (HX.out.grown HN.out (fun g e => by cases e)) (by omega)).mono ?_
        rintro e w12 ⟨v12, rfl, ⟨A12, n12, c12, rfl, hx12⟩, hg12⟩
        have HX12 := Lib.hid hx12
        replace HX10 := Lib.hid (HX10.out.grown hg12 (fun g e => by cases e))
        replace HX11 := Lib.hid (HX11.out.grown hg12 (fun g e => by cases e))
        replace HN := Lib.hid (gr_none HN.out hg12)
        replace HX := Lib.hid (HX.out.grown HN.out (fun g e => by cases e))
        replace HSN := Lib.hid (HSN.out.grown HN.out (fun g e => by cases e))
        clear hx12 hg12
        obtain ⟨mf, hmf⟩ : ∃ mf, mixFault ss2 = mf := ⟨_, rfl⟩
        obtain ⟨lf, hlf⟩ : ∃ lf, loudFault l3 r7 = lf := ⟨_, rfl⟩
        obtain ⟨sf, hsf⟩ : ∃ sf, silFault l3 r8 r9 = sf := ⟨_, rfl⟩
        rw [hmf, hlf, hsf]
        rw [hmf] at HX10
        rw [hlf] at HX11
        rw [hsf] at HX12
        have HMF := Lib.hid hmf; have HLF := Lib.hid hlf; have HSF := Lib.hid hsf
        clear hmf hlf hsf
        obtain ⟨ml, hml⟩ : ∃ ml, (if mf = 0 then mixOf ss2 else []) = ml := ⟨_, rfl⟩
        obtain ⟨ll, hll⟩ : ∃ ll, (if lf = 0 then l3.map (loud r7) else []) = ll := ⟨_, rfl⟩
        obtain ⟨sl, hsl⟩ : ∃ sl, (if sf = 0 then silent l3 r8 r9 else []) = sl := ⟨_, rfl⟩
        have hml2 : ml.length ≤ 20000 := by
          rw [← hml]
          split
          · rename_i h0
            unfold mixOf
            rw [tab_len]
            exact maxTo_le (fun s hs => (smp_ok ((mix_ok (by rw [HMF.out]; exact h0)).2 s hs)).1) _
          · simp
        have hll2 : ll.length ≤ 100 := by
          rw [← hll]
          split
          · have := HX.out.len; simp; omega
          · simp
        have hsl2 : sl.length ≤ 100 := by
          rw [← hsl]
          split
          · have := HX.out.len; have := (silTo_bd l3 r8 r9 (l3.length + 1)).2.2; unfold silent; omega
          · simp
        rw [hml] at HX10
        rw [hll] at HX11
        rw [hsl] at HX12
        have hn10 : n10 ≤ 20000 := by have := HX10.out.len; omega
        have hn11 : n11 ≤ 20000 := by have := HX11.out.len; omega
        have hn12 : n12 ≤ 20000 := by have := HX12.out.len; omega
        have HML := Lib.hid (show mf = 0 → ml = mixOf ss2 from fun h => by rw [← hml, if_pos h])
        have HML0 := Lib.hid (show mf ≠ 0 → ml = [] from fun h => by rw [← hml, if_neg h])
        have HLL := Lib.hid (show lf = 0 → ll = l3.map (loud r7) from fun h => by rw [← hll, if_pos h])
        have HLL0 := Lib.hid (show lf ≠ 0 → ll = [] from fun h => by rw [← hll, if_neg h])
        have HSL := Lib.hid (show sf = 0 → sl = silent l3 r8 r9 from fun h => by rw [← hsl, if_pos h])
        have HSL0 := Lib.hid (show sf ≠ 0 → sl = [] from fun h => by rw [← hsl, if_neg h])
        clear hml hll hsl
        go_upto_if 74 with (fail)
        go_cut [17] (fun v wx => CutInts w12 ml v wx)
        case first =>
          by_cases hm0 : mf = 0
          · have HMLZ := Lib.hid (HML.out hm0)
            subst hm0
            go_wp2_with fail
            refine (mixOf_good 0 A2 n2 c2 ss2 _ HSN.out HMF.out).mono ?_
            rintro e w13 ⟨v13, rfl, ⟨A13, n13, c13, rfl, hx13⟩, hg13⟩
            go_wp2_with fail
            go_meet
            exact ⟨A13, n13, c13, rfl, by rw [HMLZ.out]; exact hx13.lower (Nat.zero_le _), hg13⟩
          · have hmb : (mf == 0) = false := by simpa using hm0
            go_wp2_with fail
            go_meet
            exact ⟨none, 0, 0, rfl, by rw [HML0.out hm0]; exact Ints.none_, gr_refl _ _⟩
        case rest =>
          obtain ⟨A13, n13, c13, rfl, hx13, hg13⟩ := hcut
          have HX13 := Lib.hid hx13
          have HN2 := Lib.hid hg13
          clear hx13 hg13
          obtain ⟨wa, rfl⟩ : ∃ wa : World, wa = wc := ⟨_, rfl⟩
          go_upto_region 19 with (fail)
          go_cut [18] (fun v wx => CutErr wa lf v wx)
          case first =>
            rcases (by omega : r7 < 0 ∨ 65536 < r7 ∨ (0 ≤ r7 ∧ r7 ≤ 65536)) with q1 | q1 | ⟨q1, q2⟩
            · have HPV := Lib.hid (show (if smpFault l3 = 0 then 1 else smpFault l3) = lf from by rw [← HLF.out]; unfold loudFault; simp [inB] <;> intros <;> omega)
              go_wp2_with (first
                | (go_at_call 28; refine (samplesFault_any 0 A3 n3 c3 l3 _ (HX.out.grown HN2.out (fun g e => by cases e)) (by omega)).mono ?_; rintro e w' ⟨rfl, rfl⟩)
                | (go_at_call 24; refine (when_any _ _ _).mono ?_; rintro e w' ⟨rfl, rfl⟩)
                | fail)
              refine (errs2_new (smpFault l3) 1 _ rfl).mono ?_
              rintro e w14 ⟨rfl, hg14⟩
              rw [show (if smpFault l3 = 0 then 1 else smpFault l3) = lf from HPV.out]
              go_wp2_with fail
              go_meet
              exact ⟨rfl, hg14⟩
            · have HPV := Lib.hid (show (if smpFault l3 = 0 then 1 else smpFault l3) = lf from by rw [← HLF.out]; unfold loudFault; simp [inB] <;> intros <;> omega)
              go_wp2_with (first
                | (go_at_call 28; refine (samplesFault_any 0 A3 n3 c3 l3 _ (HX.out.grown HN2.out (fun g e => by cases e)) (by omega)).mono ?_; rintro e w' ⟨rfl, rfl⟩)
                | (go_at_call 24; refine (when_any _ _ _).mono ?_; rintro e w' ⟨rfl, rfl⟩)
                | fail)
              refine (errs2_new (smpFault l3) 1 _ rfl).mono ?_
              rintro e w14 ⟨rfl, hg14⟩
              rw [show (if smpFault l3 = 0 then 1 else smpFault l3) = lf from HPV.out]
              go_wp2_with fail
              go_meet
              exact ⟨rfl, hg14⟩
            · have d1 : decide (r7 < 0) = false := by simp; omega
              have d2 : decide (65536 < r7) = false := by simp; omega
              have HPV := Lib.hid (show (if smpFault l3 = 0 then 0 else smpFault l3) = lf from by rw [← HLF.out]; unfold loudFault; simp [inB] <;> intros <;> omega)
              go_wp2_with (first
                | (go_at_call 28; refine (samplesFault_any 0 A3 n3 c3 l3 _ (HX.out.grown HN2.out (fun g e => by cases e)) (by omega)).mono ?_; rintro e w' ⟨rfl, rfl⟩)
                | (go_at_call 24; refine (when_any _ _ _).mono ?_; rintro e w' ⟨rfl, rfl⟩)
                | fail)
              refine (errs2_new (smpFault l3) 0 _ rfl).mono ?_
              rintro e w14 ⟨rfl, hg14⟩
              rw [show (if smpFault l3 = 0 then 0 else smpFault l3) = lf from HPV.out]
              go_wp2_with fail
              go_meet
              exact ⟨rfl, hg14⟩
          case rest =>
            obtain ⟨rfl, hg14⟩ := hcut
            replace HX13 := Lib.hid (HX13.out.grown hg14 (fun g e => by cases e))
            replace HN2 := Lib.hid (gr_none HN2.out hg14)
            clear hg14
            obtain ⟨wb, rfl⟩ : ∃ wb : World, wb = wc := ⟨_, rfl⟩
            go_upto_region 20 with (fail)
            go_cut [19] (fun v wx => CutErr wb sf v wx)
            case first =>
              rcases (by omega : r8 < 0 ∨ 32767 < r8 ∨ (0 ≤ r8 ∧ r8 ≤ 32767 ∧ r9 < 1) ∨ (0 ≤ r8 ∧ r8 ≤ 32767 ∧ 20000 < r9) ∨ (0 ≤ r8 ∧ r8 ≤ 32767 ∧ 1 ≤ r9 ∧ r9 ≤ 20000)) with q1 | q1 | ⟨q1, q2, q3⟩ | ⟨q1, q2, q3⟩ | ⟨q1, q2, q3, q4⟩
              · have HPV := Lib.hid (show (if smpFault l3 = 0 then 1 else smpFault l3) = sf from by rw [← HSF.out]; unfold silFault; simp [inB] <;> intros <;> omega)
                go_wp2_with (first
                  | (go_at_call 28; refine (samplesFault_any 0 A3 n3 c3 l3 _ (HX.out.grown HN2.out (fun g e => by cases e)) (by omega)).mono ?_; rintro e w' ⟨rfl, rfl⟩)
                  | (go_at_call 24; refine (when_any _ _ _).mono ?_; rintro e w' ⟨rfl, rfl⟩)
                  | fail)
                refine (errs2_new (smpFault l3) 1 _ rfl).mono ?_
                rintro e w14 ⟨rfl, hg14⟩
                rw [show (if smpFault l3 = 0 then 1 else smpFault l3) = sf from HPV.out]
                go_wp2_with fail
                go_meet
                exact ⟨rfl, hg14⟩
              · have d1 : decide (r8 < 0) = false := by simp; omega
                have d2 : decide (32767 < r8) = true := by simp; omega
                have HPV := Lib.hid (show (if smpFault l3 = 0 then 1 else smpFault l3) = sf from by rw [← HSF.out]; unfold silFault; simp [inB] <;> intros <;> omega)
                go_wp2_with (first
                  | (go_at_call 28; refine (samplesFault_any 0 A3 n3 c3 l3 _ (HX.out.grown HN2.out (fun g e => by cases e)) (by omega)).mono ?_; rintro e w' ⟨rfl, rfl⟩)
                  | (go_at_call 24; refine (when_any _ _ _).mono ?_; rintro e w' ⟨rfl, rfl⟩)
                  | fail)
                refine (errs2_new (smpFault l3) 1 _ rfl).mono ?_
                rintro e w14 ⟨rfl, hg14⟩
                rw [show (if smpFault l3 = 0 then 1 else smpFault l3) = sf from HPV.out]
                go_wp2_with fail
                go_meet
                exact ⟨rfl, hg14⟩
              · have d1 : decide (r8 < 0) = false := by simp; omega
                have d2 : decide (32767 < r8) = false := by simp; omega
                obtain rfl : r9 = 0 := by omega
                have HPV := Lib.hid (show (if smpFault l3 = 0 then 1 else smpFault l3) = sf from by rw [← HSF.out]; unfold silFault; simp [inB] <;> intros <;> omega)
                go_wp2_with (first
                  | (go_at_call 28; refine (samplesFault_any 0 A3 n3 c3 l3 _ (HX.out.grown HN2.out (fun g e => by cases e)) (by omega)).mono ?_; rintro e w' ⟨rfl, rfl⟩)
                  | (go_at_call 24; refine (when_any _ _ _).mono ?_; rintro e w' ⟨rfl, rfl⟩)
                  | fail)
                refine (errs2_new (smpFault l3) 1 _ rfl).mono ?_
                rintro e w14 ⟨rfl, hg14⟩
                rw [show (if smpFault l3 = 0 then 1 else smpFault l3) = sf from HPV.out]
                go_wp2_with fail
                go_meet
                exact ⟨rfl, hg14⟩
              · have d1 : decide (r8 < 0) = false := by simp; omega
                have d2 : decide (32767 < r8) = false := by simp; omega
                have d3 : decide (r9 < 1) = false := by simp; omega
                have d5 : decide (r9 ≤ 0) = false := by simp; omega
                have d4 : decide (20000 < r9) = true := by simp; omega
                have HPV := Lib.hid (show (if smpFault l3 = 0 then 1 else smpFault l3) = sf from by rw [← HSF.out]; unfold silFault; simp [inB] <;> intros <;> omega)
                go_wp2_with (first
                  | (go_at_call 28; refine (samplesFault_any 0 A3 n3 c3 l3 _ (HX.out.grown HN2.out (fun g e => by cases e)) (by omega)).mono ?_; rintro e w' ⟨rfl, rfl⟩)
                  | (go_at_call 24; refine (when_any _ _ _).mono ?_; rintro e w' ⟨rfl, rfl⟩)
                  | fail)
                refine (errs2_new (smpFault l3) 1 _ rfl).mono ?_
                rintro e w14 ⟨rfl, hg14⟩
                rw [show (if smpFault l3 = 0 then 1 else smpFault l3) = sf from HPV.out]
                go_wp2_with fail
                go_meet
                exact ⟨rfl, hg14⟩
              · have d1 : decide (r8 < 0) = false := by simp; omega
                have d2 : decide (32767 < r8) = false := by simp; omega
                have d3 : decide (r9 < 1) = false := by simp; omega
                have d5 : decide (r9 ≤ 0) = false := by simp; omega
                have d4 : decide (20000 < r9) = false := by simp; omega
                have HPV := Lib.hid (show (if smpFault l3 = 0 then 0 else smpFault l3) = sf from by rw [← HSF.out]; unfold silFault; simp [inB] <;> intros <;> omega)
                go_wp2_with (first
                  | (go_at_call 28; refine (samplesFault_any 0 A3 n3 c3 l3 _ (HX.out.grown HN2.out (fun g e => by cases e)) (by omega)).mono ?_; rintro e w' ⟨rfl, rfl⟩)
                  | (go_at_call 24; refine (when_any _ _ _).mono ?_; rintro e w' ⟨rfl, rfl⟩)
                  | fail)
                refine (errs2_new (smpFault l3) 0 _ rfl).mono ?_
                rintro e w14 ⟨rfl, hg14⟩
                rw [show (if smpFault l3 = 0 then 0 else smpFault l3) = sf from HPV.out]
                go_wp2_with fail
                go_meet
                exact ⟨rfl, hg14⟩
            case rest =>
              obtain ⟨rfl, hg15⟩ := hcut
              replace HX13 := Lib.hid (HX13.out.grown hg15 (fun g e => by cases e))
              replace HN2 := Lib.hid (gr_none HN2.out hg15)
              clear hg15
              obtain ⟨wd, rfl⟩ : ∃ wd : World, wd = wc := ⟨_, rfl⟩
              go_upto_if 108 with (fail)
              go_cut [20] (fun v wx => CutInts wd ll v wx)
              case first =>
                by_cases hm0 : lf = 0
                · have HMLZ := Lib.hid (HLL.out hm0)
                  subst hm0
                  go_wp2_with fail
                  refine (louderOf_any A3 n3 c3 l3 r7 _ (HX.out.grown HN2.out (fun g e => by cases e)) HLF.out).mono ?_
                  rintro e w16 ⟨v16, rfl, ⟨A16, n16, c16, rfl, hx16⟩, hg16⟩
                  go_wp2_with fail
                  go_meet
                  exact ⟨A16, n16, c16, rfl, by rw [HMLZ.out]; exact hx16.lower (Nat.zero_le _), hg16⟩
                · have hmb : (lf == 0) = false := by simpa using hm0
                  go_wp2_with fail
                  go_meet
                  exact ⟨none, 0, 0, rfl, by rw [HLL0.out hm0]; exact Ints.none_, gr_refl _ _⟩
              case rest =>
                obtain ⟨A16, n16, c16, rfl, hx16, hg16⟩ := hcut
                replace HX13 := Lib.hid (HX13.out.grown hg16 (fun g e => by cases e))
                replace HN2 := Lib.hid (gr_none HN2.out hg16)
                have HX16 := Lib.hid hx16
                clear hg16 hx16
                obtain ⟨we, rfl⟩ : ∃ we : World, we = wc := ⟨_, rfl⟩
                go_upto_if 113 with (fail)
                go_cut [21] (fun v wx => CutWins we sl v wx)
                case first =>
                  by_cases hm0 : sf = 0
                  · have HMLZ := Lib.hid (HSL.out hm0)
                    subst hm0
                    go_wp2_with fail
                    refine (silentOf_any A3 n3 c3 l3 r8 r9 _ (HX.out.grown HN2.out (fun g e => by cases e)) HSF.out).mono ?_
                    rintro e w17 ⟨v17, rfl, ⟨A17, n17, c17, rfl, hx17⟩, hg17⟩
                    go_wp2_with fail
                    go_meet
                    exact ⟨A17, n17, c17, rfl, by rw [HMLZ.out]; exact hx17.lower (Nat.zero_le _), hg17⟩
                  · have hmb : (sf == 0) = false := by simpa using hm0
                    go_wp2_with fail
                    go_meet
                    exact ⟨none, 0, 0, rfl, by rw [HSL0.out hm0]; exact Recs.nil, gr_refl _ _⟩
                case rest =>
                  obtain ⟨A17, n17, c17, rfl, hx17, hg17⟩ := hcut
                  replace HX13 := Lib.hid (HX13.out.grown hg17 (fun g e => by cases e))
                  replace HX16 := Lib.hid (HX16.out.grown hg17 (fun g e => by cases e))
                  replace HN2 := Lib.hid (gr_none HN2.out hg17)
                  have HX17 := Lib.hid hx17
                  clear hg17 hx17
                  replace HX10 := Lib.hid (HX10.out.grown HN2.out (fun g e => by cases e))
                  replace HX11 := Lib.hid (HX11.out.grown HN2.out (fun g e => by cases e))
                  replace HX12 := Lib.hid (HX12.out.grown HN2.out (fun g e => by cases e))
                  have e1 : (mf == mf) = true := beq_self_eq_true _
                  have e2 : (lf == lf) = true := beq_self_eq_true _
                  have e3 : (sf == sf) = true := beq_self_eq_true _
                  go_wp2_with fail
                  refine (equalI_any _ _ _ _ _ _ _ _ ml ml _ HX10.out HX13.out (by omega)).mono ?_
                  rintro e w20 ⟨rfl, k20, hw20⟩
                  have hg20 : wc.grownBy w20 none := by rw [hw20]; exact gr_drewN (gr_refl _ _) _
                  clear hw20
                  replace HX11 := Lib.hid (HX11.out.grown hg20 (fun g e => by cases e))
                  replace HX16 := Lib.hid (HX16.out.grown hg20 (fun g e => by cases e))
                  replace HX12 := Lib.hid (HX12.out.grown hg20 (fun g e => by cases e))
                  replace HX17 := Lib.hid (HX17.out.grown hg20 (fun g e => by cases e))
                  replace HN2 := Lib.hid (gr_none HN2.out hg20)
                  clear hg20
                  rw [show (ml == ml) = true from beq_self_eq_true _]
                  go_wp2_with fail
                  refine (equalI_any _ _ _ _ _ _ _ _ ll ll _ HX11.out HX16.out (by omega)).mono ?_
                  rintro e w21 ⟨rfl, k21, hw21⟩
                  have hg21 : w20.grownBy w21 none := by rw [hw21]; exact gr_drewN (gr_refl _ _) _
                  clear hw21
                  replace HX12 := Lib.hid (HX12.out.grown hg21 (fun g e => by cases e))
                  replace HX17 := Lib.hid (HX17.out.grown hg21 (fun g e => by cases e))
                  replace HN2 := Lib.hid (gr_none HN2.out hg21)
                  clear hg21
                  rw [show (ll == ll) = true from beq_self_eq_true _]
                  go_wp2_with fail
                  refine (equalW_same _ _ _ _ _ _ _ _ sl _ HX12.out HX17.out (by omega)).mono ?_
                  rintro e w22 ⟨rfl, k22, hw22⟩
                  have hg22 : w21.grownBy w22 none := by rw [hw22]; exact gr_drewN (gr_refl _ _) _
                  clear hw22
                  replace HN2 := Lib.hid (gr_none HN2.out hg22)
                  clear hg22
                  go_wp2_with (first
                    | (go_at_call 19
                       refine (sounded_true _).mono ?_
                       rintro e w11 ⟨rfl, rfl⟩)
                    | fail)
                  go_ret
                  refine ⟨by simp, ?_⟩
                  have h := gr_none HG.out (gr_none HN.out HN2.out)
                  rw [HLT.out] at h
                  exact below_of_gr h

theorem own_SoundsMixed : ownKnob Try.prog.godebug = none := by kernel_rfl
theorem laidOut_SoundsMixed : laidOutB Try.prog = true := by kernel_rfl

set_option maxRecDepth 100000 in
theorem lifted_SoundsMixed (os : Os) (started : os.Started) (H : Type) (enc : TypeId × Value → H) :
    ReturnsInHanded {} Try.checked os 6 .any (Rows.soundsMixedSpec.pre6 enc Try.prog Try.f6 Rows.soundsMixedRow.domain false) (Rows.soundsMixedSpec.post enc Try.prog Try.f6 false true false false) := by
  refine returnsInHanded_of_change (C := Try.checked) own_SoundsMixed started (by kernel_rfl) Try.func6
    (ChangeSpec.witness6 (enc := enc) (C := Try.checked) false ⟨#[], #[.slice none 0 0], []⟩ 8 (by kernel_rfl) (by kernel_rfl) (by kernel_rfl) (by kernel_rfl)) ?_
  intro W base args ds gs before hval0 hW hcnd _
  have hval : ∀ (j : Nat) t v, Try.f6.params[j]? = some t → args[j]? = some v → Value.okWide Try.prog W .any base t v := hval0
  have hW' := hW
  obtain ⟨p, q, hA0, hV, rfl, hfz, hnd⟩ := hW
  have hA : DataW.TrodAll enc Try.prog W 0 (fun _ => true) true Try.f6.params.toList args.toList ds p := hA0
  rw [Try.params6] at hA hval
  obtain ⟨v0, vs0, d0, ds0, p0, q0, hargs, rfl, rfl, h0, r0⟩ := trodAll_cons hA
  obtain ⟨rfl, rfl, rfl⟩ := trodAll_nil r0
  obtain rfl : args = #[v0] := by cases args; simp_all
  obtain ⟨rfl, rfl⟩ := trodVars_none hV
  obtain ⟨a0, len0, cap0, rfl⟩ := okWide_slice Try.underlying22 (hval 0 22 v0 rfl rfl)
  have k0 := h0
  have lt0 : ∀ x ∈ p0, x.block < W.heap.size := by obtain ⟨m, hm⟩ := k0; exact DataW.trod_lt m _ _ _ hm
  obtain ⟨z0, w0⟩ : ∃ zs, IsRow .i64 W a0 len0 cap0 zs := by
    obtain ⟨fuel, hf⟩ := h0
    rcases open_ints Try.underlying22 Try.underlying3 (by kernel_rfl) hf with ⟨hcs, _⟩ | ⟨x, l, c, zs, hcs, _, hl, hm, hz, _, hcell, hwz⟩
    · simp [Value.cells] at hcs
      obtain ⟨rfl, rfl, rfl⟩ := hcs
      exact ⟨[], .inl ⟨rfl, rfl, rfl, rfl⟩⟩
    · simp [Value.cells] at hcs
      obtain ⟨rfl, rfl, rfl⟩ := hcs
      exact ⟨zs, .inr ⟨_, rfl, hl, hm, by simpa using hz, hcell, hwz⟩⟩
  clear hA0 hval0
  refine (walk_SoundsMixed a0 len0 cap0 z0 W w0).mono fun e W' ⟨he, bel⟩ => ?_
  subst he
  exact ⟨_, rfl, _, _, _, [], _, [], hW', trodAll_mk1 (shut_bool Try.underlying4 _), (trodAll_cons_mk (Below.trod laidOut_SoundsMixed (by kernel_rfl) (of_decide_eq_true (by kernel_rfl)) k0 bel lt0) trodAll_mk0), rfl, bel.frame _, fun h => by cases h⟩

theorem over_SoundsMixed : Rows.soundsMixedRow.holds Try.pinned (OpenSpec.ofChange Rows.soundsMixedSpec) :=
  OpenClaim.holds_of_wide 6 Try.f6 rfl rfl rfl rfl rfl rfl rfl ⟨rfl, rfl, rfl, rfl, rfl⟩ rfl rfl rfl rfl rfl (by kernel_rfl) Try.func6 (by kernel_rfl)
    (of_decide_eq_true (by kernel_rfl)) (by unfold Func.isWrapper; first | (rw [if_pos (by decide +kernel)]; kernel_rfl) | (rw [if_neg (by decide +kernel)]; exact ⟨rfl, rfl⟩))
    (fun os started H enc _ => lifted_SoundsMixed os started H enc)

theorem proved_SoundsMixed : Rows.SoundsMixedSaid := over_SoundsMixed

end Go.Proofs.Ytdknfhpconfhkaa

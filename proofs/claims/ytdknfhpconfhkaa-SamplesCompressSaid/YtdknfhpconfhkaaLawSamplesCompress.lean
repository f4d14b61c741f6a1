/- The law SamplesCompress: for every input the call returns true, and the argument reads as before. Conditions: none. -/
import Derived.Test.YtdknfhpconfhkaaRows
import Derived.Test.YtdknfhpconfhkaaLawBase
import Derived.Test.YtdknfhpconfhkaaPktSame
import Derived.Test.YtdknfhpconfhkaaSound
import Derived.Deep.QuietTactic
import Derived.BigQuiet
import Derived.ProofKit
import Derived.OpenShut
import Derived.ShutString
import Derived.ChangeOld
namespace Go.Proofs.Ytdknfhpconfhkaa
open Go.ChangeShapes Go.WideShapes Go.ChangeAt Go.RowKit
open Go.ChangeMaps (open_string shut_string)

def RawRel (w1 : World) (sb : Nat) (m : Int) (k : Nat) (A' : Option Addr) (c' : Nat) (l' : List Int) (wr : World) : Prop :=
  Str wr sb (m + k) ∧ w1.grownBy wr (some sb) ∧ OwnB wr w1.heap.size A' k c' l' ∧ ∀ b ∈ l', 0 ≤ b ∧ b < 256

theorem quiet_same {P : Program} {f : FuncId} {args : Array Value} {w : World} {a n : Nat} {v : Value} (h : Calls P f args (w.drewN (a + n)) (Same v (w.drewN (a + n)))) :
    Calls P f args (w.drewN (a + n)) fun e w'' => e = .returned v ∧ ∃ m, w'' = w.drewN (a + m) :=
  h.mono fun _ _ ⟨he, hm⟩ => ⟨he, n, hm.symm⟩

set_option maxRecDepth 100000 in
set_option maxHeartbeats 20000000 in
theorem walk_SamplesCompress (a0 : Option Addr) (len0 cap0 : Nat) (z0 : List Int) (w : World) (w0 : IsRow .i64 w a0 len0 cap0 z0) :
    Calls Try.prog 4 #[.slice a0 len0 cap0] w fun e w' => e = .returned (.bool true) ∧ Below w.heap.size w w' := by
  have hs0 := str_new w0
  clear w0
  obtain ⟨sb, hsb⟩ : ∃ sb, w.heap.size = sb := ⟨_, rfl⟩
  have hlt : sb = w.heap.size := hsb.symm
  have HLT := Lib.hid hlt
  have hlt1 : sb ≤ w.heap.size := by omega
  have hlt2 : w.heap.size ≤ sb := by omega
  have HSB := Lib.hid hsb
  rw [hsb] at hs0
  clear hlt hsb
  have HS := Lib.hid hs0; clear hs0
  have HG := Lib.hid (gr_refl w (some sb))
  go_enter Try.func4, Try.ntmps4
  go_wp2_with fail
  simp only [HSB.out]
  refine (range_any sb _ (-32768) 32767 _ (by exact HS.out) (by omega) (by omega) (by omega) (by omega)).mono ?_
  rintro e w1 ⟨v1, rfl, ⟨r1, hlo1, hhi1, rfl⟩, hs1, hg1⟩
  have z1 := hg1.size; try simp at z1
  try replace HZ := Lib.hid (HZ.out.grown hg1 (by simp; omega))
  try replace HP := Lib.hid (HP.out.grown hg1 (by simp; omega))
  try replace HY := Lib.hid (Own.kept HY.out hg1 (fun g e e' => by injection e with e; have := (HY.out.lt e').1; omega))
  replace HG := Lib.hid (gr_same (a := w) (by repeat (first | exact HG.out | refine gr_alloc ?_ _ | refine gr_drew ?_ | refine gr_drewN ?_ _ | refine gr_setCell ?_ (.inr (by simp; omega)) _)) hg1); clear hg1
  replace HS := Lib.hid hs1; clear hs1
  go_wp2_with fail
  refine (pick_new sb _ [0, 1, -1, 3, 4, 100, 32767, -32768, 32632, 32635, 32636, 32768, -32769, r1] _ (by first | exact HS.out | exact HS.out.alloc _ | exact (HS.out.alloc _).alloc _ | exact ((HS.out.alloc _).alloc _).alloc _ | exact HS.out.drewN _ | exact HS.out.setCell (by simp; omega) _ | exact (HS.out.alloc _).setCell (by simp; omega) _ | exact (HS.out.setCell (by simp; omega) _).alloc _ | exact (HS.out.setCell (by simp; omega) _).drewN _ | exact (HS.out.alloc _).drewN _) (by omega) (by simp) rfl rfl (by simp) (by simp)).mono ?_
  rintro e w2 ⟨v2, rfl, ⟨r2, hr2, rfl⟩, hs2, hg2⟩
  have HR2 := Lib.hid hr2; clear hr2
  have z2 := hg2.size; try simp at z2
  try replace HZ := Lib.hid (HZ.out.grown hg2 (by simp; omega))
  try replace HP := Lib.hid (HP.out.grown hg2 (by simp; omega))
  try replace HY := Lib.hid (Own.kept HY.out hg2 (fun g e e' => by injection e with e; have := (HY.out.lt e').1; omega))
  replace HG := Lib.hid (gr_same (a := w) (by repeat (first | exact HG.out | refine gr_alloc ?_ _ | refine gr_drew ?_ | refine gr_drewN ?_ _ | refine gr_setCell ?_ (.inr (by simp; omega)) _)) hg2); clear hg2
  replace HS := Lib.hid hs2; clear hs2
  have hx2 : -32769 ≤ r2 ∧ r2 ≤ 32768 := by have h := HR2.out; simp at h; omega
  go_wp2_with fail
  refine (sound_any sb _ 12 _ (by first | exact HS.out | exact HS.out.alloc _ | exact (HS.out.alloc _).alloc _ | exact ((HS.out.alloc _).alloc _).alloc _ | exact HS.out.drewN _ | exact HS.out.setCell (by simp; omega) _ | exact (HS.out.alloc _).setCell (by simp; omega) _ | exact (HS.out.setCell (by simp; omega) _).alloc _ | exact (HS.out.setCell (by simp; omega) _).drewN _ | exact (HS.out.alloc _).drewN _) (by omega) (by omega)).mono ?_
  rintro e w3 ⟨v3, rfl, ⟨A3, n3, c3, l3, rfl, ho3, hl3, hn3⟩, hs3, hg3⟩
  have HY := Lib.hid ho3; have HL := Lib.hid hl3; clear ho3 hl3
  have z3 := hg3.size; try simp at z3
  try replace HZ := Lib.hid (HZ.out.grown hg3 (by simp; omega))
  try replace HP := Lib.hid (HP.out.grown hg3 (by simp; omega))
  try replace HY := Lib.hid (Own.kept HY.out hg3 (fun g e e' => by injection e with e; have := (HY.out.lt e').1; omega))
  replace HG := Lib.hid (gr_same (a := w) (by repeat (first | exact HG.out | refine gr_alloc ?_ _ | refine gr_drew ?_ | refine gr_drewN ?_ _ | refine gr_setCell ?_ (.inr (by simp; omega)) _)) hg3); clear hg3
  replace HS := Lib.hid hs3; clear hs3
  go_wp2_with fail
  refine (range_any sb _ 0 6 _ (by first | exact HS.out | exact HS.out.alloc _ | exact (HS.out.alloc _).alloc _ | exact ((HS.out.alloc _).alloc _).alloc _ | exact HS.out.drewN _ | exact HS.out.setCell (by simp; omega) _ | exact (HS.out.alloc _).setCell (by simp; omega) _ | exact (HS.out.setCell (by simp; omega) _).alloc _ | exact (HS.out.setCell (by simp; omega) _).drewN _ | exact (HS.out.alloc _).drewN _) (by omega) (by omega) (by omega) (by omega)).mono ?_
  rintro e w4 ⟨v4, rfl, ⟨r4, hlo4, hhi4, rfl⟩, hs4, hg4⟩
  have z4 := hg4.size; try simp at z4
  try replace HZ := Lib.hid (HZ.out.grown hg4 (by simp; omega))
  try replace HP := Lib.hid (HP.out.grown hg4 (by simp; omega))
  try replace HY := Lib.hid (Own.kept HY.out hg4 (fun g e e' => by injection e with e; have := (HY.out.lt e').1; omega))
  replace HG := Lib.hid (gr_same (a := w) (by repeat (first | exact HG.out | refine gr_alloc ?_ _ | refine gr_drew ?_ | refine gr_drewN ?_ _ | refine gr_setCell ?_ (.inr (by simp; omega)) _)) hg4); clear hg4
  replace HS := Lib.hid hs4; clear hs4
  obtain ⟨nn, rfl⟩ : ∃ nn : Nat, r4 = nn := ⟨r4.toNat, by omega⟩
  have z4' := z4
  have HREL := Lib.hid (show RawRel w4 sb (0 + 1 + 1 + 12 + 10 + 1) 0 none 0 [] w4 from ⟨by simpa using HS.out, gr_refl _ _, Own.nil _ _ _ _, fun z hz => by cases hz⟩)
  have hsb4 := HS.out.lt
  clear HS
  go_wp2_with fail
  go_loopw [6, 31] (fun v t wr => ∃ (k : Nat) (A' : Option Addr) (c' : Nat) (l' : List Int), k ≤ nn ∧ t = .int .i64 k ∧ v = .slice A' k c' ∧ RawRel w4 sb (0 + 1 + 1 + 12 + 10 + 1) k A' c' l' wr) (fun _ t _ => nn - (intOf t).toNat)
  case atStart => exact ⟨0, none, 0, [], Nat.zero_le _, rfl, rfl, HREL.out⟩
  case round =>
    clear HREL
    obtain ⟨k, A', c', l', hk, rfl, rfl, hs, hgr, hy, hl⟩ := hrel
    have HS := Lib.hid hs; have HGR := Lib.hid hgr; have HRAW := Lib.hid hy; have HRL := Lib.hid hl
    have zr := hgr.size
    clear hs hgr hy hl
    by_cases hlt2 : k < nn
    · have hkn : decide (k < nn) = true := by simpa using hlt2
      go_wp2_with fail
      refine (range_any sb _ 0 255 _ (by first | exact HS.out | exact HS.out.alloc _ | exact (HS.out.alloc _).alloc _ | exact ((HS.out.alloc _).alloc _).alloc _ | exact HS.out.drewN _ | exact HS.out.setCell (by simp; omega) _ | exact (HS.out.alloc _).setCell (by simp; omega) _ | exact (HS.out.setCell (by simp; omega) _).alloc _ | exact (HS.out.setCell (by simp; omega) _).drewN _ | exact (HS.out.alloc _).drewN _) (by omega) (by omega) (by omega) (by omega)).mono ?_
      rintro e w5 ⟨v5, rfl, ⟨r5, hlo5, hhi5, rfl⟩, hs5, hg5⟩
      have z5 := hg5.size
      replace HRAW := Lib.hid (Own.kept HRAW.out hg5 (fun g e e' => by injection e with e; have := (Own.lt HRAW.out e').1; omega))
      replace HGR := Lib.hid (gr_same HGR.out hg5)
      replace HS := Lib.hid hs5
      clear hg5 hs5
      go_wp2_with (first
        | (at_builtin
           refine wpl_app _ rfl _ _ Try.byteT rfl w4.heap.size A' k c' _ rfl (by exact HRAW.out.alloc _) _ _ 1 1 [.int .u8 r5] rfl (by exact Reads.one _ _ _ _ rfl) (by simp [Value.oneCell']) (by unfold maxLen; omega) (by omega) (by simp; omega) ?_
           intro A6 c6 w6 h6
           have H6 := Lib.hid h6; clear h6)
        | fail)
      go_roundw
      case rel =>
        refine ⟨k + 1, A6, c6, l' ++ [r5], by omega, by go_num, rfl, ((HS.out.alloc _).grown H6.out.2.1 (fun g e => by have := (HRAW.out.lt e).1; omega)).mono (by omega), H6.out.gr (gr_alloc HGR.out _) (Own.alloc HRAW.out _) (Nat.le_refl _), ?_, ?_⟩
        · unfold OwnB; rw [List.map_append]; exact H6.out.1
        · intro z hz
          rcases List.mem_append.1 hz with h | h
          · exact HRL.out z h
          · rw [List.mem_singleton.1 h]; omega
      case measure => simp [intOf]; omega
    · obtain rfl : k = nn := by omega
      clear HS
      have HN := Lib.hid (gr_refl wr none)
      cases hS : isS r2
      · go_wp2_with (first
          | (go_at_call 23; refine (compress_no r2 _ hS).mono ?_; rintro e w' ⟨rfl, rfl⟩)
          | (go_at_call 25; refine (sample_any _ _).mono ?_; rintro e w' ⟨rfl, rfl⟩)
          | (go_at_call 24; refine (when_any _ _ _).mono ?_; rintro e w' ⟨rfl, rfl⟩)
          | fail)
        have HX3 := Lib.hid (show Ints .i64 wr 0 A3 n3 c3 l3 from Ints.lower (Own.reads (Own.kept HY.out HGR.out (fun g e e' => by injection e with e; have := (Own.lt HY.out e').1; omega))) (Nat.zero_le _))
        refine (small_any 0 A3 n3 c3 l3 _ HX3.out (by omega)).mono ?_
        rintro e w6 ⟨v6, rfl, ⟨A6, n6, c6, rfl, hx6⟩, hg6⟩
        have z6 := hg6.size
        have HX6 := Lib.hid hx6
        replace HN := Lib.hid (gr_none HN.out hg6)
        replace HX3 := Lib.hid (HX3.out.grown hg6 (fun g e => by cases e))
        clear hg6 hx6
        go_wp2_with fail
        refine (samplesFault_any 0 A3 n3 c3 l3 _ HX3.out (by omega)).mono ?_
        rintro e w7 ⟨rfl, rfl⟩
        by_cases hf : smpFault l3 = 0
        · have hfb : (smpFault l3 == 0) = true := by simpa using hf
          obtain ⟨_, hz3⟩ := smp_ok hf
          have HZ3 := Lib.hid hz3
          rw [if_pos hf] at HX6
          have HF := Lib.hid hf; clear hf hz3
          have hn3l := HX3.out.len
          have HN3 := Lib.hid hn3l; clear hn3l
          obtain ⟨wo, rfl⟩ : ∃ wo : World, wo = wr := ⟨_, rfl⟩
          go_wp2_with fail
          go_loopw [12, 14, 81] (fun v _ t wr => ∃ (i : Nat) (A9 : Option Addr) (c9 : Nat), i ≤ n3 ∧ t = .int .i64 i ∧ v = .slice A9 i c9 ∧ w6.grownBy wr none ∧ OwnB wr w6.heap.size A9 i c9 ((l3.take i).map cmpB)) (fun _ _ t _ => n3 - (intOf t).toNat)
          case atStart => exact ⟨0, none, 0, Nat.zero_le _, rfl, rfl, gr_refl _ _, Own.nil _ _ _ _⟩
          case round =>
            obtain ⟨i, A9, c9, hi, rfl, rfl, hg9, ho9⟩ := hrel
            have zi := hg9.size
            have HG9 := Lib.hid hg9; have HO9 := Lib.hid ho9; clear hg9 ho9
            by_cases hlt3 : i < n3
            · obtain ⟨g, o, z, rfl, _, hgl, hz, hc⟩ := (HX3.out.grown HG9.out (fun g e => by cases e)).get hlt3
              obtain ⟨zb0, zb1⟩ := HZ3.out z (mem_of_get hz)
              have HZ := Lib.hid hz; clear hz
              go_wp2_with (first
                | (go_at_call 26; refine (compressOf_ok z _ zb0 zb1).mono ?_; rintro e w' ⟨rfl, rfl⟩)
                | (at_builtin
                   refine wpl_app _ rfl _ _ Try.byteT rfl w6.heap.size A9 i c9 _ rfl (by exact HO9.out.alloc _) _ _ 1 1 [.int .u8 (cmpB z)] rfl (by exact Reads.one _ _ _ _ rfl) (by simp [Value.oneCell']) (by unfold maxLen; omega) (by omega) (by simp; omega) ?_
                   intro A10 c10 w10 h10
                   have H10 := Lib.hid h10; clear h10)
                | fail)
              go_roundw
              case rel =>
                refine ⟨i + 1, A10, c10, by omega, by go_num, rfl, H10.out.gr (gr_alloc HG9.out _) (Own.alloc HO9.out _) (Nat.le_refl _), ?_⟩
                unfold OwnB
                rw [take_snoc' HZ.out, List.map_append, List.map_append]
                exact H10.out.1
              case measure => simp [intOf]; omega
            · obtain rfl : i = n3 := by omega
              replace HX3 := Lib.hid (HX3.out.grown HG9.out (fun g e => by cases e))
              replace HX6 := Lib.hid (HX6.out.grown HG9.out (fun g e => by cases e))
              replace HN := Lib.hid (gr_none HN.out HG9.out)
              have HW9 := Lib.hid (show Ints .u8 wr 0 A9 i c9 (l3.map cmpB) by
                have h := Own.reads HO9.out
                rw [List.take_of_length_le (by rw [HN3.out]; exact Nat.le_refl _)] at h
                exact Ints.lower h (Nat.zero_le _))
              go_wp2_with (first
                | (go_at_call 29; refine (checkSamples_any 0 _ _ _ l3 _ HX3.out (by omega)).mono ?_; rintro e w' ⟨rfl, rfl⟩)
                | fail)
              refine (equalB_any _ 0 _ _ _ _ _ _ _ (l3.map cmpB) _ HX6.out HW9.out (by have h6 := HX6.out.len; have h3 := HX3.out.len; simp at h6; omega)).mono ?_
              rintro e w12 ⟨rfl, k12, rfl⟩
              rw [show (((l3.map cmpB) : List Int) == (l3.map cmpB)) = true from beq_self_eq_true _]
              go_wp2_with fail
              refine (great_any _ A' k c' l' _ ((OwnB.bytes HRAW.out HRL.out).grown (gr_drewN HN.out k12) (fun g e => by cases e)) (by omega)).mono ?_
              rintro e w13 ⟨v13, rfl, ⟨A13, n13, c13, rfl, hx13⟩, hg13⟩
              replace HN := Lib.hid (gr_none (gr_drewN HN.out k12) hg13)
              have HB13 := Lib.hid ((OwnB.bytes HRAW.out HRL.out).grown HN.out (fun g e => by cases e))
              obtain rfl : n13 = k := by have h1 := hx13.len; have h2 := HB13.out.1.len; rw [List.length_map] at h1; omega
              have HX13 := Lib.hid hx13
              clear hg13 hx13
              go_wp2_with fail
              go_loopw [17, 18, 113] (fun _ _ t wr => ∃ (i q : Nat), i ≤ n13 ∧ t = .int .i64 i ∧ wr = w13.drewN q) (fun _ _ t _ => n13 - (intOf t).toNat)
              case atStart => exact ⟨0, 0, Nat.zero_le _, rfl, rfl⟩
              case round =>
                obtain ⟨i13, q, hi13, rfl, rfl⟩ := hrel
                by_cases hlt13 : i13 < n13
                · obtain ⟨g, o, z, rfl, _, _, hz, hc, zb0, zb1⟩ := HB13.out.get hlt13
                  obtain ⟨g', o', y, rfl, _, _, hy, hc'⟩ := HX13.out.get hlt13
                  obtain rfl : expB z = y := by rw [List.getElem?_map, hz] at hy; injection hy
                  have HZ := Lib.hid hz; clear hz hy
                  have j0 : (0 : Int) ≤ (i13 : Int) := by omega
                  have j1 : (i13 : Int) < (n13 : Int) := by omega
                  have hne : (expB z != expB z) = false := by simp
                  go_wp2_with fail
                  go_quiet ((first | (go_at_call 31; exact quiet_same (expandOf_any z _ zb0 zb1)) | (go_at_call 32; exact quiet_same (expand_any z _ zb0 zb1)) | fail))
                  go_wp2_with fail
                  go_roundw
                  case rel => exact ⟨i13 + 1, _, by omega, by go_num, rfl⟩
                  case measure => simp [intOf]; omega
                · go_wp2_with (first
                    | (go_at_call 19
                       refine (sounded_true _).mono ?_
                       rintro e w15 ⟨rfl, rfl⟩)
                    | fail)
                  go_ret
                  refine ⟨by simp, ?_⟩
                  have h := gr_none (gr_same HG.out HGR.out) (gr_drewN HN.out q)
                  rw [HLT.out] at h
                  exact below_of_gr h
        · have hfb : (smpFault l3 == 0) = false := by simpa using hf
          rw [if_neg hf] at HX6
          have HF := Lib.hid hf; clear hf
          go_wp2_with (first
            | (go_at_call 29; refine (checkSamples_any 0 _ _ _ l3 _ HX3.out (by omega)).mono ?_; rintro e w' ⟨rfl, rfl⟩)
            | fail)
          refine (equalB_any _ 0 _ _ _ _ _ _ _ [] _ HX6.out Ints.none_ (by have h6 := HX6.out.len; have h3 := HX3.out.len; simp at h6; omega)).mono ?_
          rintro e w12 ⟨rfl, k12, rfl⟩
          rw [show (([] : List Int) == []) = true from beq_self_eq_true _]
          go_wp2_with fail
          refine (great_any _ A' k c' l' _ ((OwnB.bytes HRAW.out HRL.out).grown (gr_drewN HN.out k12) (fun g e => by cases e)) (by omega)).mono ?_
          rintro e w13 ⟨v13, rfl, ⟨A13, n13, c13, rfl, hx13⟩, hg13⟩
          replace HN := Lib.hid (gr_none (gr_drewN HN.out k12) hg13)
          have HB13 := Lib.hid ((OwnB.bytes HRAW.out HRL.out).grown HN.out (fun g e => by cases e))
          obtain rfl : n13 = k := by have h1 := hx13.len; have h2 := HB13.out.1.len; rw [List.length_map] at h1; omega
          have HX13 := Lib.hid hx13
          clear hg13 hx13
          go_wp2_with fail
          go_loopw [17, 18, 113] (fun _ _ t wr => ∃ (i q : Nat), i ≤ n13 ∧ t = .int .i64 i ∧ wr = w13.drewN q) (fun _ _ t _ => n13 - (intOf t).toNat)
          case atStart => exact ⟨0, 0, Nat.zero_le _, rfl, rfl⟩
          case round =>
            obtain ⟨i13, q, hi13, rfl, rfl⟩ := hrel
            by_cases hlt13 : i13 < n13
            · obtain ⟨g, o, z, rfl, _, _, hz, hc, zb0, zb1⟩ := HB13.out.get hlt13
              obtain ⟨g', o', y, rfl, _, _, hy, hc'⟩ := HX13.out.get hlt13
              obtain rfl : expB z = y := by rw [List.getElem?_map, hz] at hy; injection hy
              have HZ := Lib.hid hz; clear hz hy
              have j0 : (0 : Int) ≤ (i13 : Int) := by omega
              have j1 : (i13 : Int) < (n13 : Int) := by omega
              have hne : (expB z != expB z) = false := by simp
              go_wp2_with fail
              go_quiet ((first | (go_at_call 31; exact quiet_same (expandOf_any z _ zb0 zb1)) | (go_at_call 32; exact quiet_same (expand_any z _ zb0 zb1)) | fail))
              go_wp2_with fail
              go_roundw
              case rel => exact ⟨i13 + 1, _, by omega, by go_num, rfl⟩
              case measure => simp [intOf]; omega
            · go_wp2_with (first
                | (go_at_call 19
                   refine (sounded_true _).mono ?_
                   rintro e w15 ⟨rfl, rfl⟩)
                | fail)
              go_ret
              refine ⟨by simp, ?_⟩
              have h := gr_none (gr_same HG.out HGR.out) (gr_drewN HN.out q)
              rw [HLT.out] at h
              exact below_of_gr h
      · obtain ⟨s0, s1⟩ := isS_bd hS
        go_wp2_with (first
          | (go_at_call 23; refine (compress_ok r2 _ s0 s1).mono ?_; rintro e w' ⟨rfl, rfl⟩)
          | (go_at_call 25; refine (sample_any _ _).mono ?_; rintro e w' ⟨rfl, rfl⟩)
          | (go_at_call 24; refine (when_any _ _ _).mono ?_; rintro e w' ⟨rfl, rfl⟩)
          | (go_at_call 26; refine (compressOf_ok r2 _ s0 s1).mono ?_; rintro e w' ⟨rfl, rfl⟩)
          | fail)
        have HX3 := Lib.hid (show Ints .i64 wr 0 A3 n3 c3 l3 from Ints.lower (Own.reads (Own.kept HY.out HGR.out (fun g e e' => by injection e with e; have := (Own.lt HY.out e').1; omega))) (Nat.zero_le _))
        refine (small_any 0 A3 n3 c3 l3 _ HX3.out (by omega)).mono ?_
        rintro e w6 ⟨v6, rfl, ⟨A6, n6, c6, rfl, hx6⟩, hg6⟩
        have z6 := hg6.size
        have HX6 := Lib.hid hx6
        replace HN := Lib.hid (gr_none HN.out hg6)
        replace HX3 := Lib.hid (HX3.out.grown hg6 (fun g e => by cases e))
        clear hg6 hx6
        go_wp2_with fail
        refine (samplesFault_any 0 A3 n3 c3 l3 _ HX3.out (by omega)).mono ?_
        rintro e w7 ⟨rfl, rfl⟩
        by_cases hf : smpFault l3 = 0
        · have hfb : (smpFault l3 == 0) = true := by simpa using hf
          obtain ⟨_, hz3⟩ := smp_ok hf
          have HZ3 := Lib.hid hz3
          rw [if_pos hf] at HX6
          have HF := Lib.hid hf; clear hf hz3
          have hn3l := HX3.out.len
          have HN3 := Lib.hid hn3l; clear hn3l
          obtain ⟨wo, rfl⟩ : ∃ wo : World, wo = wr := ⟨_, rfl⟩
          go_wp2_with fail
          go_loopw [12, 14, 81] (fun v _ t wr => ∃ (i : Nat) (A9 : Option Addr) (c9 : Nat), i ≤ n3 ∧ t = .int .i64 i ∧ v = .slice A9 i c9 ∧ w6.grownBy wr none ∧ OwnB wr w6.heap.size A9 i c9 ((l3.take i).map cmpB)) (fun _ _ t _ => n3 - (intOf t).toNat)
          case atStart => exact ⟨0, none, 0, Nat.zero_le _, rfl, rfl, gr_refl _ _, Own.nil _ _ _ _⟩
          case round =>
            obtain ⟨i, A9, c9, hi, rfl, rfl, hg9, ho9⟩ := hrel
            have zi := hg9.size
            have HG9 := Lib.hid hg9; have HO9 := Lib.hid ho9; clear hg9 ho9
            by_cases hlt3 : i < n3
            · obtain ⟨g, o, z, rfl, _, hgl, hz, hc⟩ := (HX3.out.grown HG9.out (fun g e => by cases e)).get hlt3
              obtain ⟨zb0, zb1⟩ := HZ3.out z (mem_of_get hz)
              have HZ := Lib.hid hz; clear hz
              go_wp2_with (first
                | (go_at_call 26; refine (compressOf_ok z _ zb0 zb1).mono ?_; rintro e w' ⟨rfl, rfl⟩)
                | (at_builtin
                   refine wpl_app _ rfl _ _ Try.byteT rfl w6.heap.size A9 i c9 _ rfl (by exact HO9.out.alloc _) _ _ 1 1 [.int .u8 (cmpB z)] rfl (by exact Reads.one _ _ _ _ rfl) (by simp [Value.oneCell']) (by unfold maxLen; omega) (by omega) (by simp; omega) ?_
                   intro A10 c10 w10 h10
                   have H10 := Lib.hid h10; clear h10)
                | fail)
              go_roundw
              case rel =>
                refine ⟨i + 1, A10, c10, by omega, by go_num, rfl, H10.out.gr (gr_alloc HG9.out _) (Own.alloc HO9.out _) (Nat.le_refl _), ?_⟩
                unfold OwnB
                rw [take_snoc' HZ.out, List.map_append, List.map_append]
                exact H10.out.1
              case measure => simp [intOf]; omega
            · obtain rfl : i = n3 := by omega
              replace HX3 := Lib.hid (HX3.out.grown HG9.out (fun g e => by cases e))
              replace HX6 := Lib.hid (HX6.out.grown HG9.out (fun g e => by cases e))
              replace HN := Lib.hid (gr_none HN.out HG9.out)
              have HW9 := Lib.hid (show Ints .u8 wr 0 A9 i c9 (l3.map cmpB) by
                have h := Own.reads HO9.out
                rw [List.take_of_length_le (by rw [HN3.out]; exact Nat.le_refl _)] at h
                exact Ints.lower h (Nat.zero_le _))
              go_wp2_with (first
                | (go_at_call 29; refine (checkSamples_any 0 _ _ _ l3 _ HX3.out (by omega)).mono ?_; rintro e w' ⟨rfl, rfl⟩)
                | fail)
              refine (equalB_any _ 0 _ _ _ _ _ _ _ (l3.map cmpB) _ HX6.out HW9.out (by have h6 := HX6.out.len; have h3 := HX3.out.len; simp at h6; omega)).mono ?_
              rintro e w12 ⟨rfl, k12, rfl⟩
              rw [show (((l3.map cmpB) : List Int) == (l3.map cmpB)) = true from beq_self_eq_true _]
              go_wp2_with fail
              refine (great_any _ A' k c' l' _ ((OwnB.bytes HRAW.out HRL.out).grown (gr_drewN HN.out k12) (fun g e => by cases e)) (by omega)).mono ?_
              rintro e w13 ⟨v13, rfl, ⟨A13, n13, c13, rfl, hx13⟩, hg13⟩
              replace HN := Lib.hid (gr_none (gr_drewN HN.out k12) hg13)
              have HB13 := Lib.hid ((OwnB.bytes HRAW.out HRL.out).grown HN.out (fun g e => by cases e))
              obtain rfl : n13 = k := by have h1 := hx13.len; have h2 := HB13.out.1.len; rw [List.length_map] at h1; omega
              have HX13 := Lib.hid hx13
              clear hg13 hx13
              go_wp2_with fail
              go_loopw [17, 18, 113] (fun _ _ t wr => ∃ (i q : Nat), i ≤ n13 ∧ t = .int .i64 i ∧ wr = w13.drewN q) (fun _ _ t _ => n13 - (intOf t).toNat)
              case atStart => exact ⟨0, 0, Nat.zero_le _, rfl, rfl⟩
              case round =>
                obtain ⟨i13, q, hi13, rfl, rfl⟩ := hrel
                by_cases hlt13 : i13 < n13
                · obtain ⟨g, o, z, rfl, _, _, hz, hc, zb0, zb1⟩ := HB13.out.get hlt13
                  obtain ⟨g', o', y, rfl, _, _, hy, hc'⟩ := HX13.out.get hlt13
                  obtain rfl : expB z = y := by rw [List.getElem?_map, hz] at hy; injection hy
                  have HZ := Lib.hid hz; clear hz hy
                  have j0 : (0 : Int) ≤ (i13 : Int) := by omega
                  have j1 : (i13 : Int) < (n13 : Int) := by omega
                  have hne : (expB z != expB z) = false := by simp
                  go_wp2_with fail
                  go_quiet ((first | (go_at_call 31; exact quiet_same (expandOf_any z _ zb0 zb1)) | (go_at_call 32; exact quiet_same (expand_any z _ zb0 zb1)) | fail))
                  go_wp2_with fail
                  go_roundw
                  case rel => exact ⟨i13 + 1, _, by omega, by go_num, rfl⟩
                  case measure => simp [intOf]; omega
                · go_wp2_with (first
                    | (go_at_call 19
                       refine (sounded_true _).mono ?_
                       rintro e w15 ⟨rfl, rfl⟩)
                    | fail)
                  go_ret
                  refine ⟨by simp, ?_⟩
                  have h := gr_none (gr_same HG.out HGR.out) (gr_drewN HN.out q)
                  rw [HLT.out] at h
                  exact below_of_gr h
        · have hfb : (smpFault l3 == 0) = false := by simpa using hf
          rw [if_neg hf] at HX6
          have HF := Lib.hid hf; clear hf
          go_wp2_with (first
            | (go_at_call 29; refine (checkSamples_any 0 _ _ _ l3 _ HX3.out (by omega)).mono ?_; rintro e w' ⟨rfl, rfl⟩)
            | fail)
          refine (equalB_any _ 0 _ _ _ _ _ _ _ [] _ HX6.out Ints.none_ (by have h6 := HX6.out.len; have h3 := HX3.out.len; simp at h6; omega)).mono ?_
          rintro e w12 ⟨rfl, k12, rfl⟩
          rw [show (([] : List Int) == []) = true from beq_self_eq_true _]
          go_wp2_with fail
          refine (great_any _ A' k c' l' _ ((OwnB.bytes HRAW.out HRL.out).grown (gr_drewN HN.out k12) (fun g e => by cases e)) (by omega)).mono ?_
          rintro e w13 ⟨v13, rfl, ⟨A13, n13, c13, rfl, hx13⟩, hg13⟩
          replace HN := Lib.hid (gr_none (gr_drewN HN.out k12) hg13)
          have HB13 := Lib.hid ((OwnB.bytes HRAW.out HRL.out).grown HN.out (fun g e => by cases e))
          obtain rfl : n13 = k := by have h1 := hx13.len; have h2 := HB13.out.1.len; rw [List.length_map] at h1; omega
          have HX13 := Lib.hid hx13
          clear hg13 hx13
          go_wp2_with fail
          go_loopw [17, 18, 113] (fun _ _ t wr => ∃ (i q : Nat), i ≤ n13 ∧ t = .int .i64 i ∧ wr = w13.drewN q) (fun _ _ t _ => n13 - (intOf t).toNat)
          case atStart => exact ⟨0, 0, Nat.zero_le _, rfl, rfl⟩
          case round =>
            obtain ⟨i13, q, hi13, rfl, rfl⟩ := hrel
            by_cases hlt13 : i13 < n13
            · obtain ⟨g, o, z, rfl, _, _, hz, hc, zb0, zb1⟩ := HB13.out.get hlt13
              obtain ⟨g', o', y, rfl, _, _, hy, hc'⟩ := HX13.out.get hlt13
              obtain rfl : expB z = y := by rw [List.getElem?_map, hz] at hy; injection hy
              have HZ := Lib.hid hz; clear hz hy
              have j0 : (0 : Int) ≤ (i13 : Int) := by omega
              have j1 : (i13 : Int) < (n13 : Int) := by omega
              have hne : (expB z != expB z) = false := by simp
              go_wp2_with fail
              go_quiet ((first | (go_at_call 31; exact quiet_same (expandOf_any z _ zb0 zb1)) | (go_at_call 32; exact quiet_same (expand_any z _ zb0 zb1)) | fail))
              go_wp2_with fail
              go_roundw
              case rel => exact ⟨i13 + 1, _, by omega, by go_num, rfl⟩
              case measure => simp [intOf]; omega
            · go_wp2_with (first
                | (go_at_call 19
                   refine (sounded_true _).mono ?_
                   rintro e w15 ⟨rfl, rfl⟩)
                | fail)
              go_ret
              refine ⟨by simp, ?_⟩
              have h := gr_none (gr_same HG.out HGR.out) (gr_drewN HN.out q)
              rw [HLT.out] at h
              exact below_of_gr h

theorem own_SamplesCompress : ownKnob Try.prog.godebug = none := by kernel_rfl
theorem laidOut_SamplesCompress : laidOutB Try.prog = true := by kernel_rfl

set_option maxRecDepth 100000 in
theorem lifted_SamplesCompress (os : Os) (started : os.Started) (H : Type) (enc : TypeId × Value → H) :
    ReturnsInHanded {} Try.checked os 4 .any (Rows.samplesCompressSpec.pre6 enc Try.prog Try.f4 Rows.samplesCompressRow.domain false) (Rows.samplesCompressSpec.post enc Try.prog Try.f4 false true false false) := by
  refine returnsInHanded_of_change (C := Try.checked) own_SamplesCompress started (by kernel_rfl) Try.func4
    (ChangeSpec.witness6 (enc := enc) (C := Try.checked) false ⟨#[], #[.slice none 0 0], []⟩ 8 (by kernel_rfl) (by kernel_rfl) (by kernel_rfl) (by kernel_rfl)) ?_
  intro W base args ds gs before hval0 hW hcnd _
  have hval : ∀ (j : Nat) t v, Try.f4.params[j]? = some t → args[j]? = some v → Value.okWide Try.prog W .any base t v := hval0
  have hW' := hW
  obtain ⟨p, q, hA0, hV, rfl, hfz, hnd⟩ := hW
  have hA : DataW.TrodAll enc Try.prog W 0 (fun _ => true) true Try.f4.params.toList args.toList ds p := hA0
  rw [Try.params4] at hA hval
  obtain ⟨v0, vs0, d0, ds0, p0, q0, hargs, rfl, rfl, h0, r0⟩ := trodAll_cons hA
  obtain ⟨rfl, rfl, rfl⟩ := trodAll_nil r0
  obtain rfl : args = #[v0] := by cases args; simp_all
  obtain ⟨rfl, rfl⟩ := trodVars_none hV
  obtain ⟨a0, len0, cap0, rfl⟩ := okWide_slice Try.underlying22 (hval 0 22 v0 rfl rfl)
  have k0 := h0
  have lt0 : ∀ x ∈ p0, x.block < W.heap.size := by obtain ⟨m, hm⟩ := k0; exact DataW.trod_lt m _ _ _ hm
  obtain ⟨z0, w0⟩ : ∃ zs, IsRow .i64 W a0 len0 cap0 zs := by
    obtain ⟨fuel, hf⟩ := h0
    rcases open_ints Try.underlying22 Try.underlying3 (by kernel_rfl) hf with ⟨hcs, _⟩ | ⟨x, l, c, zs, hcs, _, hl, hm, hz, _, hcell, hwz⟩
    · simp [Value.cells] at hcs
      obtain ⟨rfl, rfl, rfl⟩ := hcs
      exact ⟨[], .inl ⟨rfl, rfl, rfl, rfl⟩⟩
    · simp [Value.cells] at hcs
      obtain ⟨rfl, rfl, rfl⟩ := hcs
      exact ⟨zs, .inr ⟨_, rfl, hl, hm, by simpa using hz, hcell, hwz⟩⟩
  clear hA0 hval0
  refine (walk_SamplesCompress a0 len0 cap0 z0 W w0).mono fun e W' ⟨he, bel⟩ => ?_
  subst he
  exact ⟨_, rfl, _, _, _, [], _, [], hW', trodAll_mk1 (shut_bool Try.underlying4 _), (trodAll_cons_mk (Below.trod laidOut_SamplesCompress (by kernel_rfl) (of_decide_eq_true (by kernel_rfl)) k0 bel lt0) trodAll_mk0), rfl, bel.frame _, fun h => by cases h⟩

theorem over_SamplesCompress : Rows.samplesCompressRow.holds Try.pinned (OpenSpec.ofChange Rows.samplesCompressSpec) :=
  OpenClaim.holds_of_wide 4 Try.f4 rfl rfl rfl rfl rfl rfl rfl ⟨rfl, rfl, rfl, rfl, rfl⟩ rfl rfl rfl rfl rfl (by kernel_rfl) Try.func4 (by kernel_rfl)
    (of_decide_eq_true (by kernel_rfl)) (by unfold Func.isWrapper; first | (rw [if_pos (by decide +kernel)]; kernel_rfl) | (rw [if_neg (by decide +kernel)]; exact ⟨rfl, rfl⟩))
    (fun os started H enc _ => lifted_SamplesCompress os started H enc)

theorem proved_SamplesCompress : Rows.SamplesCompressSaid := over_SamplesCompress

end Go.Proofs.Ytdknfhpconfhkaa

/- Contract of the generator of sounds. Conditions: none. -/
import Derived.Test.YtdknfhpconfhkaaSamples3
import Derived.Test.YtdknfhpconfhkaaPktGen
namespace Go.Proofs.Ytdknfhpconfhkaa
open Go.RowKit

/-- A row of ints of the call's own. -/
def OwnI (w : World) (lo : Nat) (A : Option Addr) (n c : Nat) (l : List Int) : Prop := Own w lo 3 1 A n c (l.map (Value.int .i64))
def Small40 (l : List Int) : Prop := ∀ z ∈ l, -1099511627776 ≤ z ∧ z ≤ 1099511627776
def IsInts (lo most : Nat) (v : Value) (w : World) : Prop := ∃ (A : Option Addr) (n c : Nat) (l : List Int), v = .slice A n c ∧ OwnI w lo A n c l ∧ Small40 l ∧ n ≤ most

def SRel (w : World) (sb : Nat) (m : Int) (k : Nat) (A' : Option Addr) (c' : Nat) (l' : List Int) (wr : World) : Prop :=
  Str wr sb (m + k) ∧ w.grownBy wr (some sb) ∧ OwnI wr w.heap.size A' k c' l' ∧ Small40 l'

set_option maxRecDepth 100000 in
set_option maxHeartbeats 4000000 in
theorem sound_any (sb : Nat) (m : Int) (most : Nat) (w : World) (hs : Str w sb m) (hm : m ≤ 100000000000) (hmost : most ≤ 1000000) :
    Calls Try.prog 22 #[.pointer (some ⟨sb, 0, none⟩), .int .i64 most] w (Drawn sb (m + most + 10) (IsInts w.heap.size most) w) := by
  have hlt := hs.lt
  have HS := Lib.hid hs; clear hs
  have HG := Lib.hid (gr_refl w (some sb))
  go_enter Try.func22, Try.ntmps22
  go_wp2_with fail
  refine (range_any sb _ 0 most _ (by first | exact HS.out | exact HS.out.alloc _ | exact (HS.out.alloc _).alloc _ | exact ((HS.out.alloc _).alloc _).alloc _ | exact HS.out.drewN _ | exact HS.out.setCell (by simp; omega) _ | exact (HS.out.alloc _).setCell (by simp; omega) _ | exact (HS.out.setCell (by simp; omega) _).alloc _ | exact (HS.out.setCell (by simp; omega) _).drewN _ | exact (HS.out.alloc _).drewN _) (by omega) (by omega) (by omega) (by omega)).mono ?_
  rintro e w2 ⟨v2, rfl, ⟨r2, hlo2, hhi2, rfl⟩, hs2, hg2⟩
  have z2 := hg2.size; try simp at z2
  try replace HZ := Lib.hid (HZ.out.grown hg2 (by simp; omega))
  try replace HP := Lib.hid (HP.out.grown hg2 (by simp; omega))
  try replace HGA := Lib.hid (HGA.out.kept hg2 (fun g e => by injection e with e; omega))
  try replace HY := Lib.hid (Own.kept HY.out hg2 (fun g e e' => by injection e with e; have := (HY.out.lt e').1; omega))
  replace HG := Lib.hid (gr_same (a := w) (by repeat (first | exact HG.out | refine gr_alloc ?_ _ | refine gr_drew ?_ | refine gr_drewN ?_ _ | refine gr_setCell ?_ (.inr (by simp; omega)) _)) hg2); clear hg2
  replace HS := Lib.hid hs2; clear hs2
  obtain ⟨nn, rfl⟩ : ∃ nn : Nat, r2 = nn := ⟨r2.toNat, by omega⟩
  have HREL := Lib.hid (show SRel w sb (m + 1) 0 none 0 [] w2 from ⟨by simpa using HS.out, HG.out, Own.nil _ _ _ _, fun z hz => by cases hz⟩)
  clear HS HG
  go_wp2_with fail
  go_loopw [5, 9] (fun v t wr => ∃ (k : Nat) (A' : Option Addr) (c' : Nat) (l' : List Int), k ≤ nn ∧ t = .int .i64 k ∧ v = .slice A' k c' ∧ SRel w sb (m + 1) k A' c' l' wr) (fun _ t _ => nn - (intOf t).toNat)
  case atStart => exact ⟨0, none, 0, [], Nat.zero_le _, rfl, rfl, HREL.out⟩
  case round =>
    clear HREL
    obtain ⟨k, A', c', l', hk, rfl, rfl, hs, hg, hy, hl⟩ := hrel
    have HS := Lib.hid hs; have HG := Lib.hid hg; have HY := Lib.hid hy; have HL := Lib.hid hl
    have zr := hg.size
    clear hs hg hy hl
    by_cases hlt2 : k < nn
    · have hkn : decide (k < nn) = true := by simpa using hlt2
      go_wp2_with fail
      refine (pick_new sb _ [0, 0, 1, -1, 5, -7, 100, -300, 4000, -9000, 32767, -32768] _ (by first | exact HS.out | exact HS.out.alloc _ | exact (HS.out.alloc _).alloc _ | exact ((HS.out.alloc _).alloc _).alloc _ | exact HS.out.drewN _ | exact HS.out.setCell (by simp; omega) _ | exact (HS.out.alloc _).setCell (by simp; omega) _ | exact (HS.out.setCell (by simp; omega) _).alloc _ | exact (HS.out.setCell (by simp; omega) _).drewN _ | exact (HS.out.alloc _).drewN _) (by omega) (by simp) rfl rfl (by simp) (by simp)).mono ?_
      rintro e w3 ⟨v3, rfl, ⟨r3, hr3, rfl⟩, hs3, hg3⟩
      have HR3 := Lib.hid hr3; clear hr3
      have z3 := hg3.size; try simp at z3
      try replace HZ := Lib.hid (HZ.out.grown hg3 (by simp; omega))
      try replace HP := Lib.hid (HP.out.grown hg3 (by simp; omega))
      try replace HGA := Lib.hid (HGA.out.kept hg3 (fun g e => by injection e with e; omega))
      try replace HY := Lib.hid (Own.kept HY.out hg3 (fun g e e' => by injection e with e; have := (HY.out.lt e').1; omega))
      replace HG := Lib.hid (gr_same (a := w) (by repeat (first | exact HG.out | refine gr_alloc ?_ _ | refine gr_drew ?_ | refine gr_drewN ?_ _ | refine gr_setCell ?_ (.inr (by simp; omega)) _)) hg3); clear hg3
      replace HS := Lib.hid hs3; clear hs3
      go_wp2_with (first
        | (at_builtin
           refine wpl_app _ rfl _ _ Try.intT rfl w.heap.size A' k c' _ rfl (by exact HY.out.alloc _) _ _ 1 1 [.int .i64 r3] rfl (by exact Reads.one _ _ _ _ rfl) (by simp [Value.oneCell']) (by unfold maxLen; omega) (by omega) (by simp; omega) ?_
           intro A5 c5 w5 h5
           have H5 := Lib.hid h5; clear h5)
        | fail)
      go_roundw
      case rel =>
        refine ⟨k + 1, A5, c5, l' ++ [r3], by omega, by go_num, rfl, ((HS.out.alloc _).grown H5.out.2.1 (fun g e => by have := (HY.out.lt e).1; omega)).mono (by omega), H5.out.gr (gr_alloc HG.out _) (Own.alloc HY.out _) (Nat.le_refl _), ?_, ?_⟩
        · unfold OwnI; rw [List.map_append]; exact H5.out.1
        · intro z hz
          rcases List.mem_append.1 hz with h | h
          · exact HL.out z h
          · rw [List.mem_singleton.1 h]
            have h := HR3.out; simp at h; omega
      case measure => simp [intOf]; omega
    · obtain rfl : k = nn := by omega
      by_cases h0 : k = 0
      · subst h0
        go_wp2_with fail
        go_ret
        exact ⟨_, rfl, ⟨A', 0, c', l', rfl, HY.out, HL.out, by omega⟩, HS.out.mono (by omega), HG.out⟩
      · have h0' : decide (0 < k) = true := by simp; omega
        have h0p : 0 < k := by omega
        go_wp2_with fail
        refine (flip_any sb _ 25 _ (by first | exact HS.out | exact HS.out.alloc _ | exact (HS.out.alloc _).alloc _ | exact ((HS.out.alloc _).alloc _).alloc _ | exact HS.out.drewN _ | exact HS.out.setCell (by simp; omega) _ | exact (HS.out.alloc _).setCell (by simp; omega) _ | exact (HS.out.setCell (by simp; omega) _).alloc _ | exact (HS.out.setCell (by simp; omega) _).drewN _ | exact (HS.out.alloc _).drewN _) (by omega) (by omega) (by omega)).mono ?_
        rintro e w4 ⟨v4, rfl, ⟨f4, rfl⟩, hs4, hg4⟩
        have z4 := hg4.size; try simp at z4
        try replace HZ := Lib.hid (HZ.out.grown hg4 (by simp; omega))
        try replace HP := Lib.hid (HP.out.grown hg4 (by simp; omega))
        try replace HGA := Lib.hid (HGA.out.kept hg4 (fun g e => by injection e with e; omega))
        try replace HY := Lib.hid (Own.kept HY.out hg4 (fun g e e' => by injection e with e; have := (HY.out.lt e').1; omega))
        replace HG := Lib.hid (gr_same (a := w) (by repeat (first | exact HG.out | refine gr_alloc ?_ _ | refine gr_drew ?_ | refine gr_drewN ?_ _ | refine gr_setCell ?_ (.inr (by simp; omega)) _)) hg4); clear hg4
        replace HS := Lib.hid hs4; clear hs4
        cases f4
        · go_wp2_with fail
          go_ret
          exact ⟨_, rfl, ⟨A', k, c', l', rfl, HY.out, HL.out, by omega⟩, HS.out.mono (by omega), HG.out⟩
        · go_wp2_with fail
          refine (next_any sb _ (k : Int) _ (by first | exact HS.out | exact HS.out.alloc _ | exact (HS.out.alloc _).alloc _ | exact ((HS.out.alloc _).alloc _).alloc _ | exact HS.out.drewN _ | exact HS.out.setCell (by simp; omega) _ | exact (HS.out.alloc _).setCell (by simp; omega) _ | exact (HS.out.setCell (by simp; omega) _).alloc _ | exact (HS.out.setCell (by simp; omega) _).drewN _ | exact (HS.out.alloc _).drewN _) (by omega) (by omega) (by omega)).mono ?_
          rintro e w6 ⟨v6, rfl, ⟨r6, hlo6, hhi6, rfl⟩, hs6, hg6⟩
          have z6 := hg6.size; try simp at z6
          try replace HZ := Lib.hid (HZ.out.grown hg6 (by simp; omega))
          try replace HP := Lib.hid (HP.out.grown hg6 (by simp; omega))
          try replace HGA := Lib.hid (HGA.out.kept hg6 (fun g e => by injection e with e; omega))
          try replace HY := Lib.hid (Own.kept HY.out hg6 (fun g e e' => by injection e with e; have := (HY.out.lt e').1; omega))
          replace HG := Lib.hid (gr_same (a := w) (by repeat (first | exact HG.out | refine gr_alloc ?_ _ | refine gr_drew ?_ | refine gr_drewN ?_ _ | refine gr_setCell ?_ (.inr (by simp; omega)) _)) hg6); clear hg6
          replace HS := Lib.hid hs6; clear hs6
          go_wp2_with fail
          refine (odd_any sb _ (-32768) 32767 _ (by first | exact HS.out | exact HS.out.alloc _ | exact (HS.out.alloc _).alloc _ | exact ((HS.out.alloc _).alloc _).alloc _ | exact HS.out.drewN _ | exact HS.out.setCell (by simp; omega) _ | exact (HS.out.alloc _).setCell (by simp; omega) _ | exact (HS.out.setCell (by simp; omega) _).alloc _ | exact (HS.out.setCell (by simp; omega) _).drewN _ | exact (HS.out.alloc _).drewN _) (by omega) (by omega) (by omega) (by omega)).mono ?_
          rintro e w7 ⟨v7, rfl, ⟨r7, hlo7, hhi7, rfl⟩, hs7, hg7⟩
          have z7 := hg7.size; try simp at z7
          try replace HZ := Lib.hid (HZ.out.grown hg7 (by simp; omega))
          try replace HP := Lib.hid (HP.out.grown hg7 (by simp; omega))
          try replace HGA := Lib.hid (HGA.out.kept hg7 (fun g e => by injection e with e; omega))
          try replace HY := Lib.hid (Own.kept HY.out hg7 (fun g e e' => by injection e with e; have := (HY.out.lt e').1; omega))
          replace HG := Lib.hid (gr_same (a := w) (by repeat (first | exact HG.out | refine gr_alloc ?_ _ | refine gr_drew ?_ | refine gr_drewN ?_ _ | refine gr_setCell ?_ (.inr (by simp; omega)) _)) hg7); clear hg7
          replace HS := Lib.hid hs7; clear hs7
          obtain ⟨i, rfl⟩ : ∃ i : Nat, r6 = i := ⟨r6.toNat, by omega⟩
          obtain ⟨g, rfl, hg0, hg1⟩ := HY.out.pos (by omega)
          have hin : i < k := by omega
          have hcz : ∃ u, w7.cell? ⟨g, i, none⟩ = some u := by
            rw [HY.out.cell (by omega)]
            exact ⟨_, List.getElem?_eq_getElem (by have := HY.out.len; omega)⟩
          obtain ⟨u, hcu⟩ := hcz
          have hfz : w7.frozen? ⟨g, i, none⟩ = false := HY.out.frozen i
          go_wp2_with fail
          go_ret
          refine ⟨_, rfl, ⟨_, k, c', l'.set i r7, rfl, ?_, ?_, by omega⟩, (HS.out.setCell (by simp; omega) _).mono (by omega), gr_setCell HG.out (.inr (by simp; omega)) _⟩
          · have h := HY.out.stored i (.int .i64 r7)
            unfold OwnI
            rw [List.map_set]
            exact h
          · intro z hz
            rcases List.mem_or_eq_of_mem_set hz with h | h
            · exact HL.out z h
            · rw [h]; exact ⟨hlo7, hhi7⟩
end Go.Proofs.Ytdknfhpconfhkaa

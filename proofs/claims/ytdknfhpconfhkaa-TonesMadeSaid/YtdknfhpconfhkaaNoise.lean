/- Contracts of LouderOf over any samples, of KeyByte and of Noise. Conditions: none. -/
import Derived.Test.YtdknfhpconfhkaaSnds
import Derived.Test.YtdknfhpconfhkaaTone3
import Derived.Test.YtdknfhpconfhkaaKeysOf
namespace Go.Proofs.Ytdknfhpconfhkaa
open Go.RowKit

/-- The byte of a string at a place. -/
def byteAt (s : ByteArray) (r : Int) : Int := ((s.data.getD r.toNat 0).toNat : Int)
theorem run_ixs {P : Program} (t : TypeId) (s : ByteArray) (k : IntKind) (r : Int) (h : P.underlying t = some .string) (h0 : 0 ≤ r) (h1 : r < s.size) (w : World) :
    (Instr.index t (.string s) (.int k r)).run P w = .ok (.int .u8 (byteAt s r)) w := by
  have hs : r.toNat < s.size := by omega
  have hs' : r.toNat < s.data.size := hs
  rw [run_index_string w t s k r h, dif_pos ⟨h0, h1⟩]
  have e : byteAt s r = (s[r.toNat].toNat : Int) := by
    unfold byteAt
    rw [Array.getD_eq_getD_getElem?, Array.getElem?_eq_getElem hs']
    rfl
  rw [e]

set_option maxRecDepth 100000 in
set_option maxHeartbeats 4000000 in
theorem louderOf_len (lo : Nat) (A : Option Addr) (n c : Nat) (l : List Int) (b : Int) (w : World) (h : Ints .i64 w lo A n c l) (hn2 : n ≤ 20000) :
    Calls Try.prog 44 #[.slice A n c, .int .i64 b] w (RetP (IsOut .i64 w.heap.size (l.map (fun z => cutS (wrap64 (z * b) / 256)))) w) := by
  have H := Lib.hid h; clear h
  have HLN := Lib.hid H.out.len
  go_enter Try.func44, Try.ntmps44
  go_wp2_with fail
  go_loopw [5, 7, 10] (fun v _ t wr => ∃ (i : Nat) (A9 : Option Addr) (c9 : Nat), i ≤ n ∧ t = .int .i64 i ∧ v = .slice A9 i c9 ∧ w.grownBy wr none ∧ OwnI wr w.heap.size A9 i c9 ((l.take i).map (fun z => cutS (wrap64 (z * b) / 256)))) (fun _ _ t _ => n - (intOf t).toNat)
  case atStart => exact ⟨0, none, 0, Nat.zero_le _, rfl, rfl, gr_refl _ _, Own.nil _ _ _ _⟩
  case round =>
    obtain ⟨i, A9, c9, hi, rfl, rfl, hg9, ho9⟩ := hrel
    have zi := hg9.size
    have HG9 := Lib.hid hg9; have HO9 := Lib.hid ho9; clear hg9 ho9
    by_cases hlt3 : i < n
    · obtain ⟨g, o, z, rfl, _, hgl, hz, hc⟩ := (H.out.grown HG9.out (fun g e => by cases e)).get hlt3
      obtain ⟨x, hx⟩ : ∃ x, wrap64 (z * b) = x := ⟨_, rfl⟩
      have hxb := wrap64_bd (z * b)
      rw [hx] at hxb
      obtain ⟨x0, x1⟩ := hxb
      have HX := Lib.hid hx
      have HZ := Lib.hid hz; clear hz
      go_wp2_with (first
        | (go_at_call 75; refine (floor_any x 256 _ (by omega) (by omega) (by omega)).mono ?_; rintro e w' ⟨rfl, rfl⟩)
        | (go_at_call 77; refine (qcut_any (x / 256) _).mono ?_; rintro e w' ⟨rfl, rfl⟩)
        | (at_builtin
           refine wpl_app _ rfl _ _ Try.intT rfl w.heap.size A9 i c9 _ rfl (by exact HO9.out.alloc _) _ _ 1 1 [.int .i64 (cutS (x / 256))] rfl (by exact Reads.one _ _ _ _ rfl) (by simp [Value.oneCell']) (by unfold maxLen; omega) (by omega) (by simp; omega) ?_
           intro A10 c10 w10 h10
           have H10 := Lib.hid h10; clear h10)
        | fail)
      go_roundw
      case rel =>
        refine ⟨i + 1, A10, c10, by omega, by go_num, rfl, H10.out.gr (gr_alloc HG9.out _) (Own.alloc HO9.out _) (Nat.le_refl _), ?_⟩
        unfold OwnI
        rw [take_snoc' HZ.out, List.map_append, List.map_append, List.map_singleton, HX.out]
        exact H10.out.1
      case measure => simp [intOf]; omega
    · obtain rfl : i = n := by omega
      go_wp2_with fail
      go_ret
      refine ⟨_, rfl, ⟨_, _, _, rfl, ?_⟩, HG9.out⟩
      have h := Own.reads HO9.out
      rw [List.take_of_length_le (by rw [HLN.out]; exact Nat.le_refl _)] at h
      exact h

def IsKey (v : Value) (_ : World) : Prop := ∃ (k : Int) (q : Nat), v = .int .u8 k ∧ 0 ≤ k ∧ k < 256 ∧ keyIx k = q
theorem key16 (r : Int) (h0 : 0 ≤ r) (h1 : r ≤ 15) : ∃ (k : Int) (q : Nat), byteAt ⟨#[49, 50, 51, 65, 52, 53, 54, 66, 55, 56, 57, 67, 42, 48, 35, 68]⟩ r = k ∧ 0 ≤ k ∧ k < 256 ∧ keyIx k = q := by
  have hd : ∀ x : Fin 16, 0 ≤ byteAt ⟨#[49, 50, 51, 65, 52, 53, 54, 66, 55, 56, 57, 67, 42, 48, 35, 68]⟩ (x.val : Int) ∧ byteAt ⟨#[49, 50, 51, 65, 52, 53, 54, 66, 55, 56, 57, 67, 42, 48, 35, 68]⟩ (x.val : Int) < 256 ∧ keyIx (byteAt ⟨#[49, 50, 51, 65, 52, 53, 54, 66, 55, 56, 57, 67, 42, 48, 35, 68]⟩ (x.val : Int)) = ((keyIx (byteAt ⟨#[49, 50, 51, 65, 52, 53, 54, 66, 55, 56, 57, 67, 42, 48, 35, 68]⟩ (x.val : Int))).toNat : Int) := by decide +kernel
  have := hd ⟨r.toNat, by omega⟩
  rw [show (((⟨r.toNat, by omega⟩ : Fin 16).val : Nat) : Int) = r by simp; omega] at this
  exact ⟨_, _, rfl, this⟩
theorem key4 (r : Int) (h0 : 0 ≤ r) (h1 : r ≤ 3) : ∃ (k : Int) (q : Nat), byteAt ⟨#[49, 53, 57, 68]⟩ r = k ∧ 0 ≤ k ∧ k < 256 ∧ keyIx k = q := by
  have hd : ∀ x : Fin 4, 0 ≤ byteAt ⟨#[49, 53, 57, 68]⟩ (x.val : Int) ∧ byteAt ⟨#[49, 53, 57, 68]⟩ (x.val : Int) < 256 ∧ keyIx (byteAt ⟨#[49, 53, 57, 68]⟩ (x.val : Int)) = ((keyIx (byteAt ⟨#[49, 53, 57, 68]⟩ (x.val : Int))).toNat : Int) := by decide +kernel
  have := hd ⟨r.toNat, by omega⟩
  rw [show (((⟨r.toNat, by omega⟩ : Fin 4).val : Nat) : Int) = r by simp; omega] at this
  exact ⟨_, _, rfl, this⟩

set_option maxHeartbeats 1000000 in
theorem keyByte_any (sb : Nat) (m : Int) (w : World) (hs : Str w sb m) (hm : m ≤ 2000000000) :
    Calls Try.prog 52 #[.pointer (some ⟨sb, 0, none⟩)] w (Drawn sb (m + 1) IsKey w) := by
  have hlt := hs.lt
  have HS := Lib.hid hs; clear hs
  have HG := Lib.hid (gr_refl w (some sb))
  go_enter Try.func52, Try.ntmps52
  go_wp2_with fail
  refine (next_any sb _ 16 _ (by first | exact HS.out | exact HS.out.alloc _ | exact (HS.out.alloc _).alloc _ | exact ((HS.out.alloc _).alloc _).alloc _ | exact HS.out.drewN _ | exact HS.out.setCell (by simp; omega) _ | exact (HS.out.alloc _).setCell (by simp; omega) _ | exact (HS.out.setCell (by simp; omega) _).alloc _ | exact (HS.out.setCell (by simp; omega) _).drewN _ | exact (HS.out.alloc _).drewN _) (by omega) (by omega) (by omega)).mono ?_
  rintro e w1 ⟨v1, rfl, ⟨r1, hlo1, hhi1, rfl⟩, hs1, hg1⟩
  have z1 := hg1.size; try simp at z1
  try replace HZ := Lib.hid (HZ.out.grown hg1 (by simp; omega))
  try replace HP := Lib.hid (HP.out.grown hg1 (by simp; omega))
  try replace HGA := Lib.hid (HGA.out.kept hg1 (fun g e => by injection e with e; omega))
  try replace HY := Lib.hid (Own.kept HY.out hg1 (fun g e e' => by injection e with e; have := (HY.out.lt e').1; omega))
  replace HG := Lib.hid (gr_same (a := w) (by repeat (first | exact HG.out | refine gr_alloc ?_ _ | refine gr_drew ?_ | refine gr_drewN ?_ _ | refine gr_setCell ?_ (.inr (by simp; omega)) _)) hg1); clear hg1
  replace HS := Lib.hid hs1; clear hs1
  obtain ⟨k, q, hk, k0, k1, hq⟩ := key16 r1 hlo1 (by omega)
  have hix : ∀ w, (Instr.index 9 (.string ⟨#[49, 50, 51, 65, 52, 53, 54, 66, 55, 56, 57, 67, 42, 48, 35, 68]⟩) (.int .i64 r1)).run Try.prog w = .ok (.int .u8 k) w := fun w => by
    rw [run_ixs _ _ _ _ Try.underlying9 hlo1 (by show r1 < 16; omega), hk]
  have HQ := Lib.hid hq; clear hk hq
  go_wp2_with fail
  go_ret
  exact ⟨_, rfl, ⟨k, q, rfl, k0, k1, HQ.out⟩, HS.out, HG.out⟩

theorem toneOf_var (k N : Int) (q : Nat) (w : World) (h0 : 0 ≤ N) (hN : N ≤ 20000) (k0 : 0 ≤ k) (k1 : k < 256) (hk : keyIx k = q) :
    Calls Try.prog 55 #[.int .u8 k, .int .i64 N] w (RetP (IsToneOk w.heap.size (tab N.toNat (toneF q))) w) := by
  obtain ⟨M, rfl⟩ : ∃ M : Nat, N = M := ⟨N.toNat, by omega⟩
  exact toneOf_ok k M q w (by omega) k0 k1 hk
/-- What Noise carries from round to round. -/
def NzR (w : World) (sb : Nat) (m : Int) (most : Nat) (A : Option Addr) (q c : Nat) (wr : World) : Prop := Str wr sb m ∧ w.grownBy wr (some sb) ∧ q ≤ most ∧ ∃ l, OwnI wr w.heap.size A q c l
def IsNoise (lo : Nat) (v : Value) (w : World) : Prop := ∃ (A : Option Addr) (n c : Nat) (l : List Int), v = .slice A n c ∧ OwnI w lo A n c l ∧ n ≤ 61500
def ToneR (w w1 : World) (sb : Nat) (m : Int) (most : Nat) (A : Option Addr) (q c : Nat) (v : Value) (wx : World) : Prop :=
  NzR w sb m most A q c wx ∧ ∃ (A2 : Option Addr) (n2 c2 : Nat) (l2 : List Int), v = .slice A2 n2 c2 ∧ OwnI wx w1.heap.size A2 n2 c2 l2 ∧ n2 ≤ 500

set_option maxRecDepth 100000 in
set_option maxHeartbeats 8000000 in
theorem noise_any (sb : Nat) (m : Int) (w : World) (hs : Str w sb m) (hm : m ≤ 1000000000) :
    Calls Try.prog 53 #[.pointer (some ⟨sb, 0, none⟩)] w (Drawn sb (m + 13) (IsNoise w.heap.size) w) := by
  have hlt := hs.lt
  have HS := Lib.hid hs; clear hs
  have HG := Lib.hid (gr_refl w (some sb))
  go_enter Try.func53, Try.ntmps53
  go_wp2_with fail
  refine (range_any sb _ 0 3 _ (by first | exact HS.out | exact HS.out.alloc _ | exact (HS.out.alloc _).alloc _ | exact ((HS.out.alloc _).alloc _).alloc _ | exact HS.out.drewN _ | exact HS.out.setCell (by simp; omega) _ | exact (HS.out.alloc _).setCell (by simp; omega) _ | exact (HS.out.setCell (by simp; omega) _).alloc _ | exact (HS.out.setCell (by simp; omega) _).drewN _ | exact (HS.out.alloc _).drewN _) (by omega) (by omega) (by omega) (by omega)).mono ?_
  rintro e w1 ⟨v1, rfl, ⟨r1, hlo1, hhi1, rfl⟩, hs1, hg1⟩
  have z1 := hg1.size; try simp at z1
  try replace HZ := Lib.hid (HZ.out.grown hg1 (by simp; omega))
  try replace HP := Lib.hid (HP.out.grown hg1 (by simp; omega))
  try replace HGA := Lib.hid (HGA.out.kept hg1 (fun g e => by injection e with e; omega))
  try replace HY := Lib.hid (Own.kept HY.out hg1 (fun g e e' => by injection e with e; have := (HY.out.lt e').1; omega))
  replace HG := Lib.hid (gr_same (a := w) (by repeat (first | exact HG.out | refine gr_alloc ?_ _ | refine gr_drew ?_ | refine gr_drewN ?_ _ | refine gr_setCell ?_ (.inr (by simp; omega)) _)) hg1); clear hg1
  replace HS := Lib.hid hs1; clear hs1
  obtain ⟨R, rfl⟩ : ∃ R : Nat, r1 = R := ⟨r1.toNat, by omega⟩
  go_wp2_with fail
  go_loopw [3, 4, 5, 6, 7, 8, 9, 10, 11, 14] (fun v _ _ _ _ _ _ _ _ t wr => ∃ (i : Nat) (A1 : Option Addr) (q1 c1 : Nat), i ≤ R ∧ t = .int .i64 i ∧ v = .slice A1 q1 c1 ∧ NzR w sb (m + 1 + 4 * i) (20500 * i) A1 q1 c1 wr) (fun _ _ _ _ _ _ _ _ _ t _ => R - (intOf t).toNat)
  case atStart => exact ⟨0, none, 0, 0, Nat.zero_le _, rfl, rfl, by simpa using HS.out, HG.out, Nat.zero_le _, [], Own.nil _ _ _ _⟩
  case round =>
    obtain ⟨i, A1, q1, c1, hi, rfl, rfl, hs0, hg0, hq1, l1, ho1⟩ := hrel
    by_cases hlt2 : i < R
    · have di : decide ((i : Int) < (R : Int)) = true := decide_eq_true (by omega)
      clear HS HG
      have HS := Lib.hid hs0; have HG := Lib.hid hg0; have HY := Lib.hid ho1
      have z0 := hg0.size
      clear hs0 hg0 ho1
      go_wp2_with fail
      refine (next_any sb _ 4 _ (by first | exact HS.out | exact HS.out.alloc _ | exact (HS.out.alloc _).alloc _ | exact ((HS.out.alloc _).alloc _).alloc _ | exact HS.out.drewN _ | exact HS.out.setCell (by simp; omega) _ | exact (HS.out.alloc _).setCell (by simp; omega) _ | exact (HS.out.setCell (by simp; omega) _).alloc _ | exact (HS.out.setCell (by simp; omega) _).drewN _ | exact (HS.out.alloc _).drewN _) (by omega) (by omega) (by omega)).mono ?_
      rintro e w2 ⟨v2, rfl, ⟨r2, hlo2, hhi2, rfl⟩, hs2, hg2⟩
      have z2 := hg2.size; try simp at z2
      try replace HZ := Lib.hid (HZ.out.grown hg2 (by simp; omega))
      try replace HP := Lib.hid (HP.out.grown hg2 (by simp; omega))
      try replace HGA := Lib.hid (HGA.out.kept hg2 (fun g e => by injection e with e; omega))
      try replace HY := Lib.hid (Own.kept HY.out hg2 (fun g e e' => by injection e with e; have := (HY.out.lt e').1; omega))
      replace HG := Lib.hid (gr_same (a := w) (by repeat (first | exact HG.out | refine gr_alloc ?_ _ | refine gr_drew ?_ | refine gr_drewN ?_ _ | refine gr_setCell ?_ (.inr (by simp; omega)) _)) hg2); clear hg2
      replace HS := Lib.hid hs2; clear hs2
      rcases (by omega : r2 = 0 ∨ r2 = 1 ∨ r2 = 2 ∨ r2 = 3) with rfl | rfl | rfl | rfl
      · obtain ⟨wp, rfl⟩ : ∃ wp : World, wp = w2 := ⟨_, rfl⟩
        go_upto_region 10 with (fail)
        go_cut [4, 5] (fun v _ wx => ToneR w wp sb (m + 1 + 4 * i + 3) (20500 * i) A1 q1 c1 v wx)
        case first =>
          go_region_held3 (fun _ => True) (trivial) (first
            | (go_at_call 59
               ((with_reducible refine (next_any sb _ 4 wp.drew HS.out.drew (by omega) (by omega) (by omega)).mono ?_)
                rintro e w3 ⟨v3, rfl, ⟨r3, hlo3, hhi3, rfl⟩, hs3, hg3⟩
                have HGX := Lib.hid (gr_same (a := w) (by repeat (first | exact HG.out | refine gr_alloc ?_ _ | refine gr_drew ?_)) hg3)
                have HYX := Lib.hid (Own.kept HY.out (gr_trans (a := wp) (by repeat (first | exact gr_refl _ _ | refine gr_alloc ?_ _ | refine gr_drew ?_)) hg3 (fun g e => .inl e.symm)) (fun g e e' => by injection e with e; have := (Own.lt HY.out e').1; omega))
                obtain ⟨k, kq, hk, k0, k1, hq⟩ := key4 r3 hlo3 (by omega)
                have hix : ∀ w, (Instr.index 9 (.string ⟨#[49, 53, 57, 68]⟩) (.int .i64 r3)).run Try.prog w = .ok (.int .u8 k) w := fun w => by rw [run_ixs _ _ _ _ Try.underlying9 hlo3 (by show r3 < 4; omega), hk]
                have HKQ := Lib.hid hq
                have HS3 := Lib.hid hs3
                have z3 := hg3.size; simp at z3
                clear hk hq hs3 hg3
               ))
            | (go_at_call 59
               (refine (next_any sb _ 4 _ (HS.out.alloc _).drew (by omega) (by omega) (by omega)).mono ?_
                rintro e w3 ⟨v3, rfl, ⟨r3, hlo3, hhi3, rfl⟩, hs3, hg3⟩
                have HBK := Lib.hid ((Blk.new wp 3 ([100, 205, 300, 411, 500].map (Value.int .i64)).toArray).drew.grown hg3 (by simp; omega))
                have HGX := Lib.hid (gr_same (a := w) (by repeat (first | exact HG.out | refine gr_alloc ?_ _ | refine gr_drew ?_)) hg3)
                have HYX := Lib.hid (Own.kept HY.out (gr_trans (a := wp) (by repeat (first | exact gr_refl _ _ | refine gr_alloc ?_ _ | refine gr_drew ?_)) hg3 (fun g e => .inl e.symm)) (fun g e e' => by injection e with e; have := (Own.lt HY.out e').1; omega))
                obtain ⟨k, kq, hk, k0, k1, hq⟩ := key4 r3 hlo3 (by omega)
                have hix : ∀ w, (Instr.index 9 (.string ⟨#[49, 53, 57, 68]⟩) (.int .i64 r3)).run Try.prog w = .ok (.int .u8 k) w := fun w => by rw [run_ixs _ _ _ _ Try.underlying9 hlo3 (by show r3 < 4; omega), hk]
                have HKQ := Lib.hid hq
                have HS3 := Lib.hid hs3
                have z3 := hg3.size; simp at z3
                clear hk hq hs3 hg3
               ))
            | (go_at_call 20
               (have _h := HBK
                refine (pick_any sb _ _ 5 [100, 205, 300, 411, 500] _ HS3.out (by omega) HBK.out (by omega) rfl (by simp) (by simp)).mono ?_
                rintro e w4 ⟨v4, rfl, ⟨r4, hr4, rfl⟩, hs4, hg4⟩
                have HR4 := Lib.hid hr4
                replace HGX := Lib.hid (gr_same HGX.out hg4)
                replace HYX := Lib.hid (Own.kept HYX.out hg4 (fun g e e' => by injection e with e; have := (Own.lt HYX.out e').1; omega))
                have HS4 := Lib.hid hs4
                have z4 := hg4.size
                clear hr4 hs4 hg4
               ))
            | (go_at_call 20
               (refine (pick_new sb _ [100, 205, 300, 411, 500] w3 HS3.out (by omega) rfl rfl rfl (by simp) (by simp)).mono ?_
                rintro e w4 ⟨v4, rfl, ⟨r4, hr4, rfl⟩, hs4, hg4⟩
                have HR4 := Lib.hid hr4
                replace HGX := Lib.hid (gr_same HGX.out hg4)
                replace HYX := Lib.hid (Own.kept HYX.out hg4 (fun g e e' => by injection e with e; have := (Own.lt HYX.out e').1; omega))
                have HS4 := Lib.hid hs4
                have z4 := hg4.size
                clear hr4 hs4 hg4
               ))
            | (go_at_call 55
               (have hr4' : 100 ≤ r4 ∧ r4 ≤ 500 := by have := HR4.out; simp at this; omega
                obtain ⟨h41, h42⟩ := hr4'
                refine (toneOf_var k r4 kq _ (by omega) (by omega) k0 k1 HKQ.out).mono ?_
                rintro e w5 ⟨v5, rfl, ⟨A5, n5, c5, rfl, ho5⟩, hg5⟩
                replace HGX := Lib.hid (gr_none HGX.out hg5)
                replace HYX := Lib.hid (Own.kept HYX.out hg5 (fun g e => by cases e))
                have HS5 := Lib.hid (HS4.out.grown hg5 (fun g e => by cases e))
                have HO5 := Lib.hid ho5
                clear ho5 hg5
               ))
            | fail)
          all_goals
            go_wp2_with fail
            go_meet
            exact ⟨⟨HS5.out.mono (by omega), HGX.out, by omega, _, HYX.out⟩, A5, n5, c5, _, rfl, Own.lower HO5.out (by omega), by have h := Own.len HO5.out; simp [tab_len] at h; omega⟩
        case rest =>
          obtain ⟨⟨hs5, hg5, hq5, l5, ho5⟩, A2, n2, c2, l2, rfl, ho2, hn2⟩ := hcut
          clear HS HG HY
          have HS := Lib.hid hs5; have HG := Lib.hid hg5; have HY := Lib.hid ho5; have HT := Lib.hid ho2
          have z5 := hg5.size
          clear hs5 hg5 ho5 ho2
          go_wp2_with fail
          refine (pick_new sb _ [256, 64, 16, 1000] _ HS.out (by omega) rfl rfl rfl (by simp) (by simp)).mono ?_
          rintro e w7 ⟨v7, rfl, ⟨r7, hr7, rfl⟩, hs7, hg7⟩
          replace HT := Lib.hid (Own.kept HT.out hg7 (fun g e e' => by injection e with e; have := (Own.lt HT.out e').1; omega))
          have HR7 := Lib.hid hr7; clear hr7
          have z7 := hg7.size; try simp at z7
          try replace HZ := Lib.hid (HZ.out.grown hg7 (by simp; omega))
          try replace HP := Lib.hid (HP.out.grown hg7 (by simp; omega))
          try replace HGA := Lib.hid (HGA.out.kept hg7 (fun g e => by injection e with e; omega))
          try replace HY := Lib.hid (Own.kept HY.out hg7 (fun g e e' => by injection e with e; have := (HY.out.lt e').1; omega))
          replace HG := Lib.hid (gr_same (a := w) (by repeat (first | exact HG.out | refine gr_alloc ?_ _ | refine gr_drew ?_ | refine gr_drewN ?_ _ | refine gr_setCell ?_ (.inr (by simp; omega)) _)) hg7); clear hg7
          replace HS := Lib.hid hs7; clear hs7
          go_wp2_with fail
          refine (louderOf_len _ A2 n2 c2 l2 r7 _ (Own.reads HT.out) (by omega)).mono ?_
          rintro e w8 ⟨v8, rfl, ⟨A8, n8, c8, rfl, hx8⟩, hg8⟩
          have hn8 : n8 ≤ 500 := by have h1 := hx8.len; have h2 := (Own.reads HT.out).len; rw [List.length_map] at h1 h2; omega
          have z8 := hg8.size; try simp at z8
          replace HS := Lib.hid (HS.out.grown hg8 (fun g e => by cases e))
          replace HG := Lib.hid (gr_none HG.out hg8)
          replace HY := Lib.hid (Own.kept HY.out hg8 (fun g e => by cases e))
          clear hg8
          have HX6 := Lib.hid hx8; clear hx8
          obtain ⟨l6, hl6⟩ : ∃ l6, (l2.map (fun z => cutS (wrap64 (z * r7) / 256))) = l6 := ⟨_, rfl⟩
          rw [hl6] at HX6
          clear hl6
          go_wp2_with (first
            | (at_builtin
               refine wpl_app _ rfl _ _ Try.intT rfl w.heap.size A1 q1 c1 _ rfl (by exact HY.out) _ _ n8 c8 _ rfl (by exact HX6.out) (one_ints _ _) (by unfold maxLen; omega) (by omega) (by omega) ?_
               intro A9 c9 w9 h9
               have H9 := Lib.hid h9; clear h9)
            | fail)
          go_roundw
          case rel =>
            refine ⟨i + 1, A9, q1 + n8, c9, by omega, by go_num, rfl, (HS.out.grown H9.out.2.1 (fun g e => by have := (HY.out.lt e).1; omega)).mono (by omega), H9.out.gr HG.out HY.out (by omega), by omega, l5 ++ l6, ?_⟩
            unfold OwnI
            rw [List.map_append]
            exact H9.out.1
          case measure => simp [intOf]; omega
      · go_wp2_with fail
        refine (pick_new sb _ [50, 205, 300] _ (by first | exact HS.out | exact HS.out.alloc _ | exact (HS.out.alloc _).alloc _ | exact ((HS.out.alloc _).alloc _).alloc _ | exact HS.out.drewN _ | exact HS.out.setCell (by simp; omega) _ | exact (HS.out.alloc _).setCell (by simp; omega) _ | exact (HS.out.setCell (by simp; omega) _).alloc _ | exact (HS.out.setCell (by simp; omega) _).drewN _ | exact (HS.out.alloc _).drewN _) (by omega) (by simp) rfl rfl (by simp) (by simp)).mono ?_
        rintro e w3 ⟨v3, rfl, ⟨r3, hr3, rfl⟩, hs3, hg3⟩
        have HR3 := Lib.hid hr3; clear hr3
        have z3 := hg3.size; try simp at z3
        try replace HZ := Lib.hid (HZ.out.grown hg3 (by simp; omega))
        try replace HP := Lib.hid (HP.out.grown hg3 (by simp; omega))
        try replace HGA := Lib.hid (HGA.out.kept hg3 (fun g e => by injection e with e; omega))
        try replace HY := Lib.hid (Own.kept HY.out hg3 (fun g e e' => by injection e with e; have := (HY.out.lt e').1; omega))
        replace HG := Lib.hid (gr_same (a := w) (by repeat (first | exact HG.out | refine gr_alloc ?_ _ | refine gr_drew ?_ | refine gr_drewN ?_ _ | refine gr_setCell ?_ (.inr (by simp; omega)) _)) hg3); clear hg3
        replace HS := Lib.hid hs3; clear hs3
        have hr3' : 50 ≤ r3 ∧ r3 ≤ 300 := by have := HR3.out; simp at this; omega
        obtain ⟨q, rfl⟩ : ∃ q : Nat, r3 = q := ⟨r3.toNat, by omega⟩
        obtain ⟨q0, q2⟩ := hr3'
        go_wp2_with (first
          | (at_builtin
             refine wpl_app_zeros _ rfl _ _ Try.intT rfl rfl Try.underlying3 rfl w.heap.size _ q1 c1 _ rfl (by exact HY.out) q rfl (by omega) (by unfold maxLen; omega) (by omega) (by omega) ?_
             intro A9 c9 w9 h9
             have H9 := Lib.hid h9; clear h9)
          | fail)
        go_roundw
        case rel =>
          refine ⟨i + 1, A9, q1 + q, c9, by omega, by go_num, rfl, (HS.out.grown H9.out.2.1 (fun g e => by have := (HY.out.lt e).1; omega)).mono (by omega), H9.out.gr HG.out HY.out (by omega), by omega, l1 ++ List.replicate q 0, ?_⟩
          unfold OwnI
          rw [List.map_append, List.map_replicate]
          exact H9.out.1
        case measure => simp [intOf]; omega
      · go_wp2_with fail
        refine (range_any sb _ 0 3000 _ (by first | exact HS.out | exact HS.out.alloc _ | exact (HS.out.alloc _).alloc _ | exact ((HS.out.alloc _).alloc _).alloc _ | exact HS.out.drewN _ | exact HS.out.setCell (by simp; omega) _ | exact (HS.out.alloc _).setCell (by simp; omega) _ | exact (HS.out.setCell (by simp; omega) _).alloc _ | exact (HS.out.setCell (by simp; omega) _).drewN _ | exact (HS.out.alloc _).drewN _) (by omega) (by omega) (by omega) (by omega)).mono ?_
        rintro e w3 ⟨v3, rfl, ⟨r3, hlo3, hhi3, rfl⟩, hs3, hg3⟩
        have z3 := hg3.size; try simp at z3
        try replace HZ := Lib.hid (HZ.out.grown hg3 (by simp; omega))
        try replace HP := Lib.hid (HP.out.grown hg3 (by simp; omega))
        try replace HGA := Lib.hid (HGA.out.kept hg3 (fun g e => by injection e with e; omega))
        try replace HY := Lib.hid (Own.kept HY.out hg3 (fun g e e' => by injection e with e; have := (HY.out.lt e').1; omega))
        replace HG := Lib.hid (gr_same (a := w) (by repeat (first | exact HG.out | refine gr_alloc ?_ _ | refine gr_drew ?_ | refine gr_drewN ?_ _ | refine gr_setCell ?_ (.inr (by simp; omega)) _)) hg3); clear hg3
        replace HS := Lib.hid hs3; clear hs3
        go_wp2_with fail
        refine (range_any sb _ 1 900 _ (by first | exact HS.out | exact HS.out.alloc _ | exact (HS.out.alloc _).alloc _ | exact ((HS.out.alloc _).alloc _).alloc _ | exact HS.out.drewN _ | exact HS.out.setCell (by simp; omega) _ | exact (HS.out.alloc _).setCell (by simp; omega) _ | exact (HS.out.setCell (by simp; omega) _).alloc _ | exact (HS.out.setCell (by simp; omega) _).drewN _ | exact (HS.out.alloc _).drewN _) (by omega) (by omega) (by omega) (by omega)).mono ?_
        rintro e w4 ⟨v4, rfl, ⟨r4, hlo4, hhi4, rfl⟩, hs4, hg4⟩
        have z4 := hg4.size; try simp at z4
        try replace HZ := Lib.hid (HZ.out.grown hg4 (by simp; omega))
        try replace HP := Lib.hid (HP.out.grown hg4 (by simp; omega))
        try replace HGA := Lib.hid (HGA.out.kept hg4 (fun g e => by injection e with e; omega))
        try replace HY := Lib.hid (Own.kept HY.out hg4 (fun g e e' => by injection e with e; have := (HY.out.lt e').1; omega))
        replace HG := Lib.hid (gr_same (a := w) (by repeat (first | exact HG.out | refine gr_alloc ?_ _ | refine gr_drew ?_ | refine gr_drewN ?_ _ | refine gr_setCell ?_ (.inr (by simp; omega)) _)) hg4); clear hg4
        replace HS := Lib.hid hs4; clear hs4
        go_wp2_with fail
        refine (pick_new sb _ [205, 410] _ (by first | exact HS.out | exact HS.out.alloc _ | exact (HS.out.alloc _).alloc _ | exact ((HS.out.alloc _).alloc _).alloc _ | exact HS.out.drewN _ | exact HS.out.setCell (by simp; omega) _ | exact (HS.out.alloc _).setCell (by simp; omega) _ | exact (HS.out.setCell (by simp; omega) _).alloc _ | exact (HS.out.setCell (by simp; omega) _).drewN _ | exact (HS.out.alloc _).drewN _) (by omega) (by simp) rfl rfl (by simp) (by simp)).mono ?_
        rintro e w5 ⟨v5, rfl, ⟨r5, hr5, rfl⟩, hs5, hg5⟩
        have HR5 := Lib.hid hr5; clear hr5
        have z5 := hg5.size; try simp at z5
        try replace HZ := Lib.hid (HZ.out.grown hg5 (by simp; omega))
        try replace HP := Lib.hid (HP.out.grown hg5 (by simp; omega))
        try replace HGA := Lib.hid (HGA.out.kept hg5 (fun g e => by injection e with e; omega))
        try replace HY := Lib.hid (Own.kept HY.out hg5 (fun g e e' => by injection e with e; have := (HY.out.lt e').1; omega))
        replace HG := Lib.hid (gr_same (a := w) (by repeat (first | exact HG.out | refine gr_alloc ?_ _ | refine gr_drew ?_ | refine gr_drewN ?_ _ | refine gr_setCell ?_ (.inr (by simp; omega)) _)) hg5); clear hg5
        replace HS := Lib.hid hs5; clear hs5
        have hr5' : 205 ≤ r5 ∧ r5 ≤ 410 := by have := HR5.out; simp at this; omega
        obtain ⟨q, rfl⟩ : ∃ q : Nat, r5 = q := ⟨r5.toNat, by omega⟩
        obtain ⟨q0, q2⟩ := hr5'
        obtain ⟨wp, rfl⟩ : ∃ wp : World, wp = wr := ⟨_, rfl⟩
        go_wp2_with fail
        go_loopw [3, 6, 69] (fun v x t wr => ∃ (j : Nat) (A2 : Option Addr) (c2 : Nat) (n : Int), j ≤ q ∧ t = .int .i64 j ∧ v = .slice A2 (q1 + j) c2 ∧ x = .int .i64 n ∧ 0 ≤ n ∧ n ≤ 6006 ∧ NzR w sb (m + 1 + 4 * i + 1 + 1 + 1 + 1) (20500 * i + j) A2 (q1 + j) c2 wr) (fun _ _ t _ => q - (intOf t).toNat)
        case atStart => exact ⟨0, A1, c1, r3, Nat.zero_le _, rfl, rfl, rfl, by omega, by omega, HS.out.mono (by omega), HG.out, by omega, l1, HY.out⟩
        case round =>
          obtain ⟨j, A2, c2, n, hj, rfl, rfl, rfl, n0, n1, hs6, hg6, hq6, l6, ho6⟩ := hrel
          by_cases hjq : j < q
          · have hm0 : 0 ≤ n * r4 := Int.mul_nonneg n0 (by omega)
            have hm1 : n * r4 ≤ 5405400 := by have := Int.mul_le_mul n1 hhi4 (by omega) (by omega); omega
            have HS6 := Lib.hid hs6; have HG6 := Lib.hid hg6; have HO6 := Lib.hid ho6
            have z6 := hg6.size
            clear hs6 hg6 ho6
            have dj : decide ((j : Int) < (q : Int)) = true := decide_eq_true (by omega)
            go_wp2_with (first
              | (at_builtin
                 refine wpl_app _ rfl _ _ Try.intT rfl w.heap.size A2 (q1 + j) c2 _ rfl (by exact HO6.out.alloc _) _ _ 1 1 [.int .i64 ((n * r4 + 17) % 6007 - 3000)] rfl (by exact Reads.one _ _ _ _ rfl) (by simp [Value.oneCell']) (by unfold maxLen; omega) (by omega) (by simp; omega) ?_
                 intro A10 c10 w10 h10
                 have H10 := Lib.hid h10; clear h10)
              | fail)
            go_roundw
            case rel =>
              refine ⟨j + 1, A10, c10, _, by omega, by go_num, rfl, rfl, by omega, by omega, (((HS6.out.alloc _).grown H10.out.2.1 (fun g e => by have := (Own.lt HO6.out e).1; omega)).mono (by omega)), H10.out.gr (gr_alloc HG6.out _) (Own.alloc HO6.out _) (Nat.le_refl _), by omega, l6 ++ [(n * r4 + 17) % 6007 - 3000], ?_⟩
              unfold OwnI
              rw [List.map_append]
              exact H10.out.1
            case measure => simp [intOf]; omega
          · obtain rfl : j = q := by omega
            have dj : decide ((j : Int) < (j : Int)) = false := decide_eq_false (by omega)
            go_wp2_with fail
            go_roundw
            case rel => exact ⟨i + 1, A2, q1 + j, c2, by omega, by go_num, rfl, hs6.mono (by omega), hg6, by omega, l6, ho6⟩
            case measure => simp [intOf]; omega
      · go_wp2_with fail
        refine (toneOf_ok 49 410 0 _ (by omega) (by omega) (by omega) (by decide)).mono ?_
        rintro e w3 ⟨v3, rfl, ⟨A3, n3, c3, rfl, ho3⟩, hg3⟩
        have z3 := hg3.size; try simp at z3
        replace HS := Lib.hid (HS.out.grown hg3 (fun g e => by cases e))
        replace HG := Lib.hid (gr_none HG.out hg3)
        replace HY := Lib.hid (Own.kept HY.out hg3 (fun g e => by cases e))
        clear hg3
        have HT3 := Lib.hid ho3; clear ho3
        go_wp2_with fail
        refine (keyByte_any sb _ _ HS.out (by omega)).mono ?_
        rintro e w4 ⟨v4, rfl, ⟨k, kq, rfl, k0, k1, hkq⟩, hs4, hg4⟩
        replace HT3 := Lib.hid (Own.kept HT3.out hg4 (fun g e e' => by injection e with e; have := (Own.lt HT3.out e').1; omega))
        have HKQ := Lib.hid hkq; clear hkq
        have z4 := hg4.size; try simp at z4
        try replace HZ := Lib.hid (HZ.out.grown hg4 (by simp; omega))
        try replace HP := Lib.hid (HP.out.grown hg4 (by simp; omega))
        try replace HGA := Lib.hid (HGA.out.kept hg4 (fun g e => by injection e with e; omega))
        try replace HY := Lib.hid (Own.kept HY.out hg4 (fun g e e' => by injection e with e; have := (HY.out.lt e').1; omega))
        replace HG := Lib.hid (gr_same (a := w) (by repeat (first | exact HG.out | refine gr_alloc ?_ _ | refine gr_drew ?_ | refine gr_drewN ?_ _ | refine gr_setCell ?_ (.inr (by simp; omega)) _)) hg4); clear hg4
        replace HS := Lib.hid hs4; clear hs4
        go_wp2_with fail
        refine (toneOf_ok k 410 kq _ (by omega) k0 k1 HKQ.out).mono ?_
        rintro e w5 ⟨v5, rfl, ⟨A5, n5, c5, rfl, ho5⟩, hg5⟩
        replace HT3 := Lib.hid (Own.kept HT3.out hg5 (fun g e => by cases e))
        have z5 := hg5.size; try simp at z5
        replace HS := Lib.hid (HS.out.grown hg5 (fun g e => by cases e))
        replace HG := Lib.hid (gr_none HG.out hg5)
        replace HY := Lib.hid (Own.kept HY.out hg5 (fun g e => by cases e))
        clear hg5
        have HT5 := Lib.hid ho5; clear ho5
        go_wp2_with fail
        obtain ⟨l3, hl3⟩ : ∃ l3, tab 410 (toneF 0) = l3 := ⟨_, rfl⟩
        obtain ⟨l5, hl5⟩ : ∃ l5, tab 410 (toneF kq) = l5 := ⟨_, rfl⟩
        have hl3' : l3.length = 410 := by rw [← hl3, tab_len]
        have hl5' : l5.length = 410 := by rw [← hl5, tab_len]
        rw [hl3] at HT3
        rw [hl5] at HT5
        have HSN := Lib.hid (show Snds (w5.alloc (.cells #[.slice A3 n3 c3, .slice A5 n5 c5] 22)) 0 (some ⟨w5.heap.size, 0, none⟩) 2 2 [⟨A3, n3, c3, l3⟩, ⟨A5, n5, c5, l5⟩] from
          ⟨(Reads.blk (Blk.new w5 22 #[.slice A3 n3 c3, .slice A5 n5 c5]) 1 2 rfl).lower (Nat.zero_le _), fun s hs => by
            rcases List.mem_cons.1 hs with rfl | hs
            · exact ((Own.reads HT3.out).lower (Nat.zero_le _)).alloc _
            · rw [List.mem_singleton.1 hs]; exact ((Own.reads HT5.out).lower (Nat.zero_le _)).alloc _⟩)
        clear hl3 hl5
        have HL3 := Lib.hid hl3'; have HL5 := Lib.hid hl5'; clear hl3' hl5'
        refine (mixOf_len 0 _ 2 2 _ _ HSN.out (by omega) (fun s hs => by
            rcases List.mem_cons.1 hs with rfl | hs
            · have := HL3.out; dsimp only; omega
            · rw [List.mem_singleton.1 hs]; have := HL5.out; dsimp only; omega)).mono ?_
        rintro e w6 ⟨v6, rfl, ⟨A6, n6, c6, rfl, hx6⟩, hg6⟩
        have hn6 : n6 ≤ 20000 := by
          rw [← hx6.len]
          unfold mixOf
          rw [tab_len]
          refine maxTo_le (fun s hs => ?_) _
          rcases List.mem_cons.1 hs with rfl | hs
          · have := HL3.out; dsimp only; omega
          · rw [List.mem_singleton.1 hs]; have := HL5.out; dsimp only; omega
        replace hg6 := gr_none (gr_alloc (gr_refl w5 none) _) hg6
        have z6 := hg6.size; try simp at z6
        replace HS := Lib.hid (HS.out.grown hg6 (fun g e => by cases e))
        replace HG := Lib.hid (gr_none HG.out hg6)
        replace HY := Lib.hid (Own.kept HY.out hg6 (fun g e => by cases e))
        clear hg6
        have HX6 := Lib.hid hx6; clear hx6
        obtain ⟨l6, hl6⟩ : ∃ l6, mixOf [⟨A3, n3, c3, l3⟩, ⟨A5, n5, c5, l5⟩] = l6 := ⟨_, rfl⟩
        rw [hl6] at HX6
        clear hl6 HSN
        go_wp2_with (first
          | (at_builtin
             refine wpl_app _ rfl _ _ Try.intT rfl w.heap.size A1 q1 c1 _ rfl (by exact HY.out) _ _ n6 c6 _ rfl (by exact HX6.out) (one_ints _ _) (by unfold maxLen; omega) (by omega) (by omega) ?_
             intro A9 c9 w9 h9
             have H9 := Lib.hid h9; clear h9)
          | fail)
        go_roundw
        case rel =>
          refine ⟨i + 1, A9, q1 + n6, c9, by omega, by go_num, rfl, (HS.out.grown H9.out.2.1 (fun g e => by have := (HY.out.lt e).1; omega)).mono (by omega), H9.out.gr HG.out HY.out (by omega), by omega, l1 ++ l6, ?_⟩
          unfold OwnI
          rw [List.map_append]
          exact H9.out.1
        case measure => simp [intOf]; omega
    · obtain rfl : i = R := by omega
      go_wp2_with fail
      go_ret
      exact ⟨_, rfl, ⟨A1, q1, c1, l1, rfl, ho1, by omega⟩, hs0.mono (by omega), hg0⟩
end Go.Proofs.Ytdknfhpconfhkaa

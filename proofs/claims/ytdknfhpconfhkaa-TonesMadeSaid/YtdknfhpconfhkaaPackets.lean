/- Contracts of the generators of packets. Conditions: none. -/
import Derived.Test.YtdknfhpconfhkaaStream
import Derived.Test.YtdknfhpconfhkaaStruct
import Derived.Deep.RegionHeld3
import Derived.WalkSpells
import Derived.Deep.RegionLaw
import Derived.Deep.DeepFit
namespace Go.Proofs.Ytdknfhpconfhkaa
open Go.RowKit

theorem Try.byteT : ElemT Try.prog 26 5 1 1 (.int .u8 0) := elemT_of Try.underlying26 (by kernel_rfl) rfl (by decide)

theorem Try.pktT : StructT Try.prog 28 6 := ⟨_, Try.underlying28, rfl, by kernel_rfl⟩

/-- Bytes that lie in memory. -/
def Bytes (w : World) (lo : Nat) (A : Option Addr) (n c : Nat) (l : List Int) : Prop := Ints .u8 w lo A n c l ∧ ∀ b ∈ l, 0 ≤ b ∧ b < 256

theorem Bytes.sub {w : World} {lo g o n c : Nat} {l : List Int} (h : Bytes w lo (some ⟨g, o, none⟩) n c l) (i m : Nat) (hj : i + m ≤ n) : Bytes w lo (some ⟨g, o + i, none⟩) m (c - i) ((l.drop i).take m) :=
  ⟨h.1.sub i m hj, fun b hb => h.2 b (List.mem_of_mem_drop (List.mem_of_mem_take hb))⟩
theorem Bytes.recap {w : World} {lo n c c' : Nat} {A : Option Addr} {l : List Int} (h : Bytes w lo A n c l) (hc : n ≤ c') : Bytes w lo A n c' l := ⟨h.1.recap hc, h.2⟩
/-- A row of bytes of the call's own. -/
def OwnB (w : World) (lo : Nat) (A : Option Addr) (n c : Nat) (l : List Int) : Prop := Own w lo 5 1 A n c (l.map (Value.int .u8))
def IsPkt (lo : Nat) (v : Value) (w : World) : Prop :=
  ∃ (ty sq tm sr : Int) (mk : Bool) (A : Option Addr) (n c : Nat) (l : List Int), v = .agg #[.int .i64 ty, .int .i64 sq, .int .i64 tm, .int .i64 sr, .bool mk, .slice A n c] ∧
    (-1099511627776 ≤ ty ∧ ty ≤ 1099511627776) ∧ (-1099511627776 ≤ sq ∧ sq ≤ 1099511627776) ∧ (-1099511627776 ≤ tm ∧ tm ≤ 1099511627776) ∧ (-1099511627776 ≤ sr ∧ sr ≤ 1099511627776) ∧ n ≤ 2000 ∧ OwnB w lo A n c l ∧ ∀ b ∈ l, 0 ≤ b ∧ b < 256
def IsRight (lo : Nat) (v : Value) (w : World) : Prop :=
  ∃ (ty sq tm sr : Int) (mk : Bool) (A : Option Addr) (n c : Nat) (l : List Int), v = .agg #[.int .i64 ty, .int .i64 sq, .int .i64 tm, .int .i64 sr, .bool mk, .slice A n c] ∧
    (0 ≤ ty ∧ ty ≤ 127) ∧ (0 ≤ sq ∧ sq ≤ 65535) ∧ (0 ≤ tm ∧ tm ≤ 4294967295) ∧ (0 ≤ sr ∧ sr ≤ 4294967295) ∧ n ≤ 2000 ∧ OwnB w lo A n c l ∧ ∀ b ∈ l, 0 ≤ b ∧ b < 256
theorem OwnB.bytes {w : World} {lo : Nat} {A : Option Addr} {n c : Nat} {l : List Int} (h : OwnB w lo A n c l) (hl : ∀ b ∈ l, 0 ≤ b ∧ b < 256) : Bytes w lo A n c l := ⟨Own.reads h, hl⟩

def RPRel (w : World) (sb pb : Nat) (m r1 r2 r3 r4 : Int) (mk : Bool) (k : Nat) (A : Option Addr) (c : Nat) (l : List Int) (wr : World) : Prop :=
  Str wr sb (m + k) ∧ w.grownBy wr (some sb) ∧ w.heap.size < pb ∧ Blk wr w.heap.size 28 #[.int .i64 0, .int .i64 0, .int .i64 0, .int .i64 0, .bool false, .slice none 0 0] ∧
  Blk wr pb 28 #[.int .i64 r1, .int .i64 r2, .int .i64 r3, .int .i64 r4, .bool mk, .slice A k c] ∧
  Own wr w.heap.size 5 1 A k c (l.map (Value.int .u8)) ∧ ∀ b ∈ l, 0 ≤ b ∧ b < 256

theorem RPRel.next {w wr w7 w8 : World} {sb pb : Nat} {m r1 r2 r3 r4 : Int} {mk : Bool} {k : Nat} {A : Option Addr} {c : Nat} {l : List Int} (h : RPRel w sb pb m r1 r2 r3 r4 mk k A c l wr) (hsb : sb < w.heap.size) {x : Int} (hx : 0 ≤ x ∧ x < 256)
    (hs7 : Str w7 sb (m + k + 1)) (hg7 : wr.drew.grownBy w7 (some sb)) {A1 : Option Addr} {c1 : Nat} {o : Obj}
    (h8 : Appended (w7.alloc o) w.heap.size 5 1 A A1 (k + 1) c1 (l.map (Value.int .u8) ++ [.int .u8 x]) w8) :
    RPRel w sb pb m r1 r2 r3 r4 mk (k + 1) A1 c1 (l ++ [x]) (w8.setCell ⟨pb, 5, none⟩ (.slice A1 (k + 1) c1)) := by
  obtain ⟨hs, hg, hp, hz, hb, ho, hl⟩ := h
  obtain ⟨ho8, hg8, hat⟩ := h8
  have hneS : ∀ g, some sb = some g → blkOf A ≠ some g := fun g e e' => by injection e with e; subst e; have := (ho.lt e').1; omega
  have ho7 : Own (w7.alloc o) w.heap.size 5 1 A k c (l.map (Value.int .u8)) := (ho.drew.kept hg7 hneS).alloc o
  have hz7 := (hz.drew.grown hg7 (by simp; omega)).alloc o
  have hb7 := (hb.drew.grown hg7 (by simp; omega)).alloc o
  have hz8 := hz7.grown hg8 (Ne.symm (ho7.blk_ne hz7 (by decide)))
  have hb8 := hb7.grown hg8 (Ne.symm (ho7.blk_ne hb7 (by decide)))
  have hgr : w.grownBy w8 (some sb) := gr_own (gr_alloc (gr_same (gr_drew hg) hg7) o) ho7 (Nat.le_refl _) hg8
  have hsz := hgr.size
  refine ⟨(((hs7.alloc o).grown hg8 (fun g e => by have := (ho7.lt e).1; omega)).setCell (by simp; omega) _).mono (by omega), gr_setCell hgr (.inr (by simp; omega)) _, hp, hz8.far (by simp; omega) _, hb8.set_ 5 _, ?_, ?_⟩
  · rw [List.map_append]
    exact ho8.far (ho8.blk_ne hb8 (by decide)) _
  · intro b hb
    rcases List.mem_append.1 hb with h1 | h1
    · exact hl b h1
    · rw [List.mem_singleton.1 h1]; exact hx

set_option maxRecDepth 100000 in
set_option maxHeartbeats 4000000 in
theorem rightPacket_any (sb : Nat) (m : Int) (w : World) (hs : Str w sb m) (hm : m ≤ 1000000000000) :
    Calls Try.prog 58 #[.pointer (some ⟨sb, 0, none⟩)] w (Drawn sb (m + 20) (IsRight w.heap.size) w) := by
  have hlt := hs.lt
  have HS := Lib.hid hs; clear hs
  have HG := Lib.hid (gr_refl w (some sb))
  go_enter Try.func58, Try.ntmps58
  go_wp2_with fail
  refine (pick_new sb _ [0, 8, 127] _ (by first | exact HS.out | exact HS.out.alloc _ | exact (HS.out.alloc _).alloc _ | exact ((HS.out.alloc _).alloc _).alloc _ | exact HS.out.drewN _ | exact HS.out.setCell (by simp; omega) _ | exact (HS.out.alloc _).setCell (by simp; omega) _ | exact (HS.out.setCell (by simp; omega) _).alloc _ | exact (HS.out.setCell (by simp; omega) _).drewN _ | exact (HS.out.alloc _).drewN _) (by omega) (by simp) rfl rfl (by simp) (by simp)).mono ?_
  rintro e w1 ⟨v1, rfl, ⟨r1, hr1, rfl⟩, hs1, hg1⟩
  have HR1 := Lib.hid hr1; clear hr1
  have HZ := Lib.hid ((Blk.new w 28 #[.int .i64 0, .int .i64 0, .int .i64 0, .int .i64 0, .bool false, .slice none 0 0]).grown hg1 (by simp; omega))
  have z1 := hg1.size; try simp at z1
  try replace HZ := Lib.hid (HZ.out.grown hg1 (by simp; omega))
  try replace HP := Lib.hid (HP.out.grown hg1 (by simp; omega))
  try replace HGA := Lib.hid (HGA.out.kept hg1 (fun g e => by injection e with e; omega))
  try replace HY := Lib.hid (Own.kept HY.out hg1 (fun g e e' => by injection e with e; have := (HY.out.lt e').1; omega))
  replace HG := Lib.hid (gr_same (a := w) (by repeat (first | exact HG.out | refine gr_alloc ?_ _ | refine gr_drew ?_ | refine gr_drewN ?_ _ | refine gr_setCell ?_ (.inr (by simp; omega)) _)) hg1); clear hg1
  replace HS := Lib.hid hs1; clear hs1
  go_wp2_with fail
  refine (pick_new sb _ [0, 1, 255, 256, 65535] _ (by first | exact HS.out | exact HS.out.alloc _ | exact (HS.out.alloc _).alloc _ | exact ((HS.out.alloc _).alloc _).alloc _ | exact HS.out.drewN _ | exact HS.out.setCell (by simp; omega) _ | exact (HS.out.alloc _).setCell (by simp; omega) _ | exact (HS.out.setCell (by simp; omega) _).alloc _ | exact (HS.out.setCell (by simp; omega) _).drewN _ | exact (HS.out.alloc _).drewN _) (by omega) (by simp) rfl rfl (by simp) (by simp)).mono ?_
  rintro e w2 ⟨v2, rfl, ⟨r2, hr2, rfl⟩, hs2, hg2⟩
  have HR2 := Lib.hid hr2; clear hr2
  have z2 := hg2.size; try simp at z2
  try replace HZ := Lib.hid (HZ.out.grown hg2 (by simp; omega))
  try replace HP := Lib.hid (HP.out.grown hg2 (by simp; omega))
  try replace HGA := Lib.hid (HGA.out.kept hg2 (fun g e => by injection e with e; omega))
  try replace HY := Lib.hid (Own.kept HY.out hg2 (fun g e e' => by injection e with e; have := (HY.out.lt e').1; omega))
  replace HG := Lib.hid (gr_same (a := w) (by repeat (first | exact HG.out | refine gr_alloc ?_ _ | refine gr_drew ?_ | refine gr_drewN ?_ _ | refine gr_setCell ?_ (.inr (by simp; omega)) _)) hg2); clear hg2
  replace HS := Lib.hid hs2; clear hs2
  go_wp2_with fail
  refine (pick_new sb _ [0, 160, 4294967295, 2147483648] _ (by first | exact HS.out | exact HS.out.alloc _ | exact (HS.out.alloc _).alloc _ | exact ((HS.out.alloc _).alloc _).alloc _ | exact HS.out.drewN _ | exact HS.out.setCell (by simp; omega) _ | exact (HS.out.alloc _).setCell (by simp; omega) _ | exact (HS.out.setCell (by simp; omega) _).alloc _ | exact (HS.out.setCell (by simp; omega) _).drewN _ | exact (HS.out.alloc _).drewN _) (by omega) (by simp) rfl rfl (by simp) (by simp)).mono ?_
  rintro e w3 ⟨v3, rfl, ⟨r3, hr3, rfl⟩, hs3, hg3⟩
  have HR3 := Lib.hid hr3; clear hr3
  have z3 := hg3.size; try simp at z3
  try replace HZ := Lib.hid (HZ.out.grown hg3 (by simp; omega))
  try replace HP := Lib.hid (HP.out.grown hg3 (by simp; omega))
  try replace HGA := Lib.hid (HGA.out.kept hg3 (fun g e => by injection e with e; omega))
  try replace HY := Lib.hid (Own.kept HY.out hg3 (fun g e e' => by injection e with e; have := (HY.out.lt e').1; omega))
  replace HG := Lib.hid (gr_same (a := w) (by repeat (first | exact HG.out | refine gr_alloc ?_ _ | refine gr_drew ?_ | refine gr_drewN ?_ _ | refine gr_setCell ?_ (.inr (by simp; omega)) _)) hg3); clear hg3
  replace HS := Lib.hid hs3; clear hs3
  go_wp2_with fail
  refine (pick_new sb _ [0, 7, 4294967295] _ (by first | exact HS.out | exact HS.out.alloc _ | exact (HS.out.alloc _).alloc _ | exact ((HS.out.alloc _).alloc _).alloc _ | exact HS.out.drewN _ | exact HS.out.setCell (by simp; omega) _ | exact (HS.out.alloc _).setCell (by simp; omega) _ | exact (HS.out.setCell (by simp; omega) _).alloc _ | exact (HS.out.setCell (by simp; omega) _).drewN _ | exact (HS.out.alloc _).drewN _) (by omega) (by simp) rfl rfl (by simp) (by simp)).mono ?_
  rintro e w4 ⟨v4, rfl, ⟨r4, hr4, rfl⟩, hs4, hg4⟩
  have HR4 := Lib.hid hr4; clear hr4
  have z4 := hg4.size; try simp at z4
  try replace HZ := Lib.hid (HZ.out.grown hg4 (by simp; omega))
  try replace HP := Lib.hid (HP.out.grown hg4 (by simp; omega))
  try replace HGA := Lib.hid (HGA.out.kept hg4 (fun g e => by injection e with e; omega))
  try replace HY := Lib.hid (Own.kept HY.out hg4 (fun g e e' => by injection e with e; have := (HY.out.lt e').1; omega))
  replace HG := Lib.hid (gr_same (a := w) (by repeat (first | exact HG.out | refine gr_alloc ?_ _ | refine gr_drew ?_ | refine gr_drewN ?_ _ | refine gr_setCell ?_ (.inr (by simp; omega)) _)) hg4); clear hg4
  replace HS := Lib.hid hs4; clear hs4
  go_wp2_with fail
  refine (flip_any sb _ 2 _ (by first | exact HS.out | exact HS.out.alloc _ | exact (HS.out.alloc _).alloc _ | exact ((HS.out.alloc _).alloc _).alloc _ | exact HS.out.drewN _ | exact HS.out.setCell (by simp; omega) _ | exact (HS.out.alloc _).setCell (by simp; omega) _ | exact (HS.out.setCell (by simp; omega) _).alloc _ | exact (HS.out.setCell (by simp; omega) _).drewN _ | exact (HS.out.alloc _).drewN _) (by omega) (by omega) (by omega)).mono ?_
  rintro e w5 ⟨v5, rfl, ⟨f5, rfl⟩, hs5, hg5⟩
  have z5 := hg5.size; try simp at z5
  try replace HZ := Lib.hid (HZ.out.grown hg5 (by simp; omega))
  try replace HP := Lib.hid (HP.out.grown hg5 (by simp; omega))
  try replace HGA := Lib.hid (HGA.out.kept hg5 (fun g e => by injection e with e; omega))
  try replace HY := Lib.hid (Own.kept HY.out hg5 (fun g e e' => by injection e with e; have := (HY.out.lt e').1; omega))
  replace HG := Lib.hid (gr_same (a := w) (by repeat (first | exact HG.out | refine gr_alloc ?_ _ | refine gr_drew ?_ | refine gr_drewN ?_ _ | refine gr_setCell ?_ (.inr (by simp; omega)) _)) hg5); clear hg5
  replace HS := Lib.hid hs5; clear hs5
  go_wp2_with fail
  refine (range_any sb _ 0 5 _ (by first | exact HS.out | exact HS.out.alloc _ | exact (HS.out.alloc _).alloc _ | exact ((HS.out.alloc _).alloc _).alloc _ | exact HS.out.drewN _ | exact HS.out.setCell (by simp; omega) _ | exact (HS.out.alloc _).setCell (by simp; omega) _ | exact (HS.out.setCell (by simp; omega) _).alloc _ | exact (HS.out.setCell (by simp; omega) _).drewN _ | exact (HS.out.alloc _).drewN _) (by omega) (by omega) (by omega) (by omega)).mono ?_
  rintro e w6 ⟨v6, rfl, ⟨n, hn0, hn5, rfl⟩, hs6, hg6⟩
  have hb6 := (Blk.new w5 28 #[.int .i64 r1, .int .i64 r2, .int .i64 r3, .int .i64 r4, .bool f5, .slice none 0 0]).grown hg6 (by simp; omega)
  have hz6 : Blk w6 w.heap.size 28 #[.int .i64 0, .int .i64 0, .int .i64 0, .int .i64 0, .bool false, .slice none 0 0] := (HZ.out.alloc _).grown hg6 (by simp; omega)
  have z6 := hg6.size; try simp at z6
  try replace HZ := Lib.hid (HZ.out.grown hg6 (by simp; omega))
  try replace HP := Lib.hid (HP.out.grown hg6 (by simp; omega))
  try replace HGA := Lib.hid (HGA.out.kept hg6 (fun g e => by injection e with e; omega))
  try replace HY := Lib.hid (Own.kept HY.out hg6 (fun g e e' => by injection e with e; have := (HY.out.lt e').1; omega))
  replace HG := Lib.hid (gr_same (a := w) (by repeat (first | exact HG.out | refine gr_alloc ?_ _ | refine gr_drew ?_ | refine gr_drewN ?_ _ | refine gr_setCell ?_ (.inr (by simp; omega)) _)) hg6); clear hg6
  replace HS := Lib.hid hs6; clear hs6
  obtain ⟨nn, rfl⟩ : ∃ nn : Nat, n = nn := ⟨n.toNat, by omega⟩
  have HREL := Lib.hid (show RPRel w sb w5.heap.size (m + 6) r1 r2 r3 r4 f5 0 none 0 [] w6 from ⟨HS.out.mono (by omega), HG.out, by omega, hz6, hb6, Own.nil _ _ _ _, by simp⟩)
  clear hb6 hz6 HS HG
  go_wp2_with fail
  go_loopw [21] (fun i wr => ∃ (k : Nat) (A : Option Addr) (c : Nat) (l : List Int), k ≤ nn ∧ i = .int .i64 k ∧ RPRel w sb w5.heap.size (m + 6) r1 r2 r3 r4 f5 k A c l wr) (fun i _ => nn - (intOf i).toNat)
  case atStart => exact ⟨0, none, 0, [], Nat.zero_le _, rfl, HREL.out⟩
  case round =>
    clear HREL
    obtain ⟨k, A, c, l, hk, rfl, hrel⟩ := hrel
    have HREL := Lib.hid hrel
    obtain ⟨hs, hg, hp, hz, hb, ho, hl⟩ := hrel
    have cP := hb.cell
    have fP := hb.frozen
    have cR := hz.cell
    have fR := hz.frozen
    have zr := hg.size
    have zp := hb.lt
    have HS := Lib.hid hs; have HB := Lib.hid hb; have HO := Lib.hid ho; have HL := Lib.hid hl; have HG := Lib.hid hg; have HZ := Lib.hid hz
    clear hs hg hz hb ho hl
    by_cases hlt2 : k < nn
    · clear cR fR
      have hkn : decide (k < nn) = true := by simpa using hlt2
      have hne : blkOf A ≠ some sb := fun e => by have := (HO.out.lt e).1; omega
      have hneB : blkOf A ≠ some w5.heap.size := HO.out.blk_ne HB.out (by decide)
      have HNE := Lib.hid hne; have HNB := Lib.hid hneB; clear hne hneB
      go_wp2_with fail
      go_region_law (first
          | (refine step_app _ (by rfl) _ _ Try.byteT (by rfl) w.heap.size A k c _ (by rfl) (by exact HO7.out.alloc _) _ _ 1 1 [.int .u8 (IntKind.u8.wrap r7)] (by rfl) (by exact Reads.one _ _ _ _ rfl) (by simp [Value.oneCell']) (by unfold maxLen; omega) (by omega) (by simp; omega) ?_
             intro A1 c1 w8 h8
             have HB8 := Lib.hid ((HB7.out.alloc _).grown h8.2.1 (Ne.symm HNB.out))
             have H8 := Lib.hid h8
             have c8 := HB8.out.cell
             have f8 := HB8.out.frozen
             clear h8)
          | (go_simp
             go_at_call 21
             refine (range_any sb _ 0 255 _ (by exact HS.out.drew) (by omega) (by omega) (by omega) (by omega)).mono ?_
             rintro e w7 ⟨v7, rfl, ⟨r7, hlo7, hhi7, rfl⟩, hs7, hg7⟩
             have HB7 := Lib.hid (HB.out.drew.grown hg7 (by simp; omega))
             have HO7 := Lib.hid (HO.out.drew.kept hg7 (fun g e => by injection e with e; subst e; exact HNE.out))
             have z7 := hg7.size; simp at z7
             have y7 : w5.heap.size < w7.heap.size := by omega
             have HG7 := Lib.hid hg7
             have HS7 := Lib.hid hs7
             have c7 := HB7.out.cell
             clear hs7 hg7))
      all_goals
        go_wp2_with fail
        go_roundw
        case rel =>
          exact ⟨k + 1, A1, c1, _, by omega, by go_num, HREL.out.next (by omega) (by rw [IntKind.wrap_u8]; omega) HS7.out HG7.out H8.out⟩
        case measure => simp [intOf]; omega
    · go_wp2_with (first
        | (refine wpl_load_all Try.pktT rfl _ rfl _ rfl _ _ HB.out rfl ?_)
        | (refine wpl_store_all Try.pktT rfl _ _ rfl _ rfl _ _ _ rfl HZ.out rfl rfl (by simp [Value.oneCell']) ?_
           intro wz hst
           have HST := Lib.hid hst; clear hst))
      have hst := HST.out
      refine ret_cell Try.pktT rfl _ _ _ rfl hst.1 rfl rfl ?_
      have ho' := HO.out.kept hst.2.1 (fun g e => by injection e with e; subst e; exact HO.out.blk_ne HZ.out (by decide))
      refine ⟨_, rfl, ⟨r1, r2, r3, r4, f5, A, k, c, l, rfl, ?_, ?_, ?_, ?_, by omega, ho', HL.out⟩, (HS.out.grown hst.2.1 (fun g e => by injection e with e; omega)).mono (by omega), gr_trans HG.out hst.2.1 (fun g e => .inr (by injection e with e; omega))⟩
      · have h := HR1.out; simp at h; omega
      · have h := HR2.out; simp at h; omega
      · have h := HR3.out; simp at h; omega
      · have h := HR4.out; simp at h; omega
end Go.Proofs.Ytdknfhpconfhkaa

/- Contract of the generator of changed bytes. Conditions: none. -/
import Derived.Test.YtdknfhpconfhkaaPktGen
namespace Go.Proofs.Ytdknfhpconfhkaa
open Go.RowKit

theorem bits_u8 (o : BinOp) (a b : Int) : 0 ≤ bits o .u8 a b ∧ bits o .u8 a b < 256 := by
  unfold bits
  split <;> (rw [IntKind.wrap_u8]; omega)

def BRel (w : World) (sb : Nat) (m : Int) (n k : Nat) (A' : Option Addr) (n' c' : Nat) (l' : List Int) (wr : World) : Prop :=
  Str wr sb (m + 3 * k) ∧ w.grownBy wr (some sb) ∧ OwnB wr w.heap.size A' n' c' l' ∧ (∀ b ∈ l', 0 ≤ b ∧ b < 256) ∧ n' ≤ n + k

theorem BRel.of {w w4 w5 : World} {sb : Nat} {m : Int} {n k : Nat} {A' A5 : Option Addr} {n0 c0 n5 c5 : Nat} {xs : List Value} {l5 : List Int} (hs : Str w4 sb (m + 3 * k + 2)) (hg : w.grownBy w4 (some sb)) (ho : Own w4 w.heap.size 5 1 A' n0 c0 xs)
    (h5 : Appended w4.drew w.heap.size 5 1 A' A5 n5 c5 (l5.map (Value.int .u8)) w5) (hl : ∀ b ∈ l5, 0 ≤ b ∧ b < 256) (hn : n5 ≤ n + (k + 1)) (hsb : sb < w.heap.size) : BRel w sb m n (k + 1) A5 n5 c5 l5 w5 :=
  ⟨(hs.drew.grown h5.2.1 (fun g e => by have := (ho.lt e).1; omega)).mono (by omega), h5.gr (gr_drew hg) ho.drew (Nat.le_refl _), h5.1, hl, hn⟩

def IsBytes (lo most : Nat) (v : Value) (w : World) : Prop := ∃ (A : Option Addr) (n c : Nat) (l : List Int), v = .slice A n c ∧ OwnB w lo A n c l ∧ (∀ b ∈ l, 0 ≤ b ∧ b < 256) ∧ n ≤ most

set_option maxRecDepth 100000 in
set_option maxHeartbeats 8000000 in
theorem bytes_any (sb : Nat) (m : Int) (lo : Nat) (A : Option Addr) (n c : Nat) (l : List Int) (w : World) (hs : Str w sb m) (hm : m ≤ 100000000000) (hb : Bytes w lo A n c l) (hn : n ≤ 1000000) :
    Calls Try.prog 61 #[.pointer (some ⟨sb, 0, none⟩), .slice A n c] w (Drawn sb (m + 10) (IsBytes w.heap.size (n + 2)) w) := by
  have HB := Lib.hid hb; clear hb
  have hlt := hs.lt
  have HS := Lib.hid hs; clear hs
  have HG := Lib.hid (gr_refl w (some sb))
  go_enter Try.func61, Try.ntmps61
  go_wp2_with (first
    | (at_builtin
       refine wpl_app _ rfl _ _ Try.byteT rfl w.heap.size none 0 0 [] rfl (by exact Own.nil _ _ _ _) _ A n c _ rfl (by exact HB.out.1) (one_ints _ _) (by unfold maxLen; omega) (by omega) (by omega) ?_
       intro A1 c1 w1 h1
       have hg1 : w.grownBy w1 none := h1.gr (gr_refl _ _) (Own.nil _ _ _ _) (Nat.le_refl _)
       have z1 := hg1.size
       replace HG := Lib.hid (gr_none HG.out hg1)
       replace HS := Lib.hid (HS.out.grown hg1 (fun g e => by cases e))
       have ho1 := h1.1
       rw [List.nil_append, Nat.zero_add] at ho1
       have HY := Lib.hid ho1
       clear h1 hg1 ho1)
    | fail)
  refine (range_any sb _ 1 2 _ (by first | exact HS.out | exact HS.out.alloc _ | exact (HS.out.alloc _).alloc _ | exact ((HS.out.alloc _).alloc _).alloc _ | exact HS.out.drewN _ | exact HS.out.setCell (by simp; omega) _ | exact (HS.out.alloc _).setCell (by simp; omega) _ | exact (HS.out.setCell (by simp; omega) _).alloc _ | exact (HS.out.setCell (by simp; omega) _).drewN _ | exact (HS.out.alloc _).drewN _) (by omega) (by omega) (by omega) (by omega)).mono ?_
  rintro e w2 ⟨v2, rfl, ⟨r2, hlo2, hhi2, rfl⟩, hs2, hg2⟩
  have z2 := hg2.size; try simp at z2
  try replace HZ := Lib.hid (HZ.out.grown hg2 (by simp; omega))
  try replace HP := Lib.hid (HP.out.grown hg2 (by simp; omega))
  try replace HY := Lib.hid (Own.kept HY.out hg2 (fun g e e' => by injection e with e; have := (HY.out.lt e').1; omega))
  replace HG := Lib.hid (gr_same (a := w) (by repeat (first | exact HG.out | refine gr_alloc ?_ _ | refine gr_drew ?_ | refine gr_drewN ?_ _ | refine gr_setCell ?_ (.inr (by simp; omega)) _)) hg2); clear hg2
  replace HS := Lib.hid hs2; clear hs2
  obtain ⟨nn, rfl⟩ : ∃ nn : Nat, r2 = nn := ⟨r2.toNat, by omega⟩
  have HREL := Lib.hid (show BRel w sb (m + 1) n 0 A1 n c1 l w2 from ⟨by simpa using HS.out, HG.out, HY.out, HB.out.2, by omega⟩)
  clear HS HG HY
  go_wp2_with fail
  go_loopw [5, 6, 11] (fun v _ t wr => ∃ (k : Nat) (A' : Option Addr) (n' c' : Nat) (l' : List Int), k ≤ nn ∧ t = .int .i64 k ∧ v = .slice A' n' c' ∧ BRel w sb (m + 1) n k A' n' c' l' wr) (fun _ _ t _ => nn - (intOf t).toNat)
  case atStart => exact ⟨0, A1, n, c1, l, Nat.zero_le _, rfl, rfl, HREL.out⟩
  case round =>
    clear HREL HB
    obtain ⟨k, A', n', c', l', hk, rfl, rfl, hrel⟩ := hrel
    obtain ⟨hs, hg, hy, hl, hnk⟩ := hrel
    have HS := Lib.hid hs; have HG := Lib.hid hg; have HY := Lib.hid hy; have HL := Lib.hid hl
    have zr := hg.size
    clear hs hg hy hl
    by_cases hlt2 : k < nn
    · have hkn : decide (k < nn) = true := by simpa using hlt2
      by_cases h0 : n' = 0
      · subst h0
        go_wp2_with fail
        refine (next_any sb _ 256 _ (by first | exact HS.out | exact HS.out.alloc _ | exact (HS.out.alloc _).alloc _ | exact ((HS.out.alloc _).alloc _).alloc _ | exact HS.out.drewN _ | exact HS.out.setCell (by simp; omega) _ | exact (HS.out.alloc _).setCell (by simp; omega) _ | exact (HS.out.setCell (by simp; omega) _).alloc _ | exact (HS.out.setCell (by simp; omega) _).drewN _ | exact (HS.out.alloc _).drewN _) (by omega) (by omega) (by omega)).mono ?_
        rintro e w3 ⟨v3, rfl, ⟨r3, hlo3, hhi3, rfl⟩, hs3, hg3⟩
        have z3 := hg3.size; try simp at z3
        try replace HZ := Lib.hid (HZ.out.grown hg3 (by simp; omega))
        try replace HP := Lib.hid (HP.out.grown hg3 (by simp; omega))
        try replace HY := Lib.hid (Own.kept HY.out hg3 (fun g e e' => by injection e with e; have := (HY.out.lt e').1; omega))
        replace HG := Lib.hid (gr_same (a := w) (by repeat (first | exact HG.out | refine gr_alloc ?_ _ | refine gr_drew ?_ | refine gr_drewN ?_ _ | refine gr_setCell ?_ (.inr (by simp; omega)) _)) hg3); clear hg3
        replace HS := Lib.hid hs3; clear hs3
        go_wp2_with (first
          | (at_builtin
             refine wpl_app _ rfl _ _ Try.byteT rfl w.heap.size A' 0 c' _ rfl (by exact HY.out.alloc _) _ _ 1 1 [_] rfl (by exact Reads.one _ _ _ _ rfl) (by simp [Value.oneCell']) (by unfold maxLen; omega) (by omega) (by simp; omega) ?_
             intro A5 c5 w5 h5
             have H5 := Lib.hid h5; clear h5)
          | fail)
        go_ret
        refine ⟨_, rfl, ⟨A5, _, c5, l' ++ [r3], rfl, ?_, ?_, by omega⟩, ((HS.out.alloc _).grown H5.out.2.1 (fun g e => by have := (HY.out.lt e).1; omega)).mono (by omega), H5.out.gr (gr_alloc HG.out _) (HY.out.alloc _) (Nat.le_refl _)⟩
        · unfold OwnB; rw [List.map_append]; exact H5.out.1
        · intro b hb
          rcases List.mem_append.1 hb with h | h
          · exact HL.out b h
          · rw [List.mem_singleton.1 h]; first | omega | (rw [IntKind.wrap_u8]; omega)
      · have h0' : ((n' : Int) == 0) = false := by simpa using h0
        go_wp2_with fail
        refine (next_any sb _ (n' : Int) _ (by first | exact HS.out | exact HS.out.alloc _ | exact (HS.out.alloc _).alloc _ | exact ((HS.out.alloc _).alloc _).alloc _ | exact HS.out.drewN _ | exact HS.out.setCell (by simp; omega) _ | exact (HS.out.alloc _).setCell (by simp; omega) _ | exact (HS.out.setCell (by simp; omega) _).alloc _ | exact (HS.out.setCell (by simp; omega) _).drewN _ | exact (HS.out.alloc _).drewN _) (by omega) (by omega) (by omega)).mono ?_
        rintro e w3 ⟨v3, rfl, ⟨r3, hlo3, hhi3, rfl⟩, hs3, hg3⟩
        have z3 := hg3.size; try simp at z3
        try replace HZ := Lib.hid (HZ.out.grown hg3 (by simp; omega))
        try replace HP := Lib.hid (HP.out.grown hg3 (by simp; omega))
        try replace HY := Lib.hid (Own.kept HY.out hg3 (fun g e e' => by injection e with e; have := (HY.out.lt e').1; omega))
        replace HG := Lib.hid (gr_same (a := w) (by repeat (first | exact HG.out | refine gr_alloc ?_ _ | refine gr_drew ?_ | refine gr_drewN ?_ _ | refine gr_setCell ?_ (.inr (by simp; omega)) _)) hg3); clear hg3
        replace HS := Lib.hid hs3; clear hs3
        go_wp2_with fail
        refine (next_any sb _ 4 _ (by first | exact HS.out | exact HS.out.alloc _ | exact (HS.out.alloc _).alloc _ | exact ((HS.out.alloc _).alloc _).alloc _ | exact HS.out.drewN _ | exact HS.out.setCell (by simp; omega) _ | exact (HS.out.alloc _).setCell (by simp; omega) _ | exact (HS.out.setCell (by simp; omega) _).alloc _ | exact (HS.out.setCell (by simp; omega) _).drewN _ | exact (HS.out.alloc _).drewN _) (by omega) (by omega) (by omega)).mono ?_
        rintro e w4 ⟨v4, rfl, ⟨r4, hlo4, hhi4, rfl⟩, hs4, hg4⟩
        have z4 := hg4.size; try simp at z4
        try replace HZ := Lib.hid (HZ.out.grown hg4 (by simp; omega))
        try replace HP := Lib.hid (HP.out.grown hg4 (by simp; omega))
        try replace HY := Lib.hid (Own.kept HY.out hg4 (fun g e e' => by injection e with e; have := (HY.out.lt e').1; omega))
        replace HG := Lib.hid (gr_same (a := w) (by repeat (first | exact HG.out | refine gr_alloc ?_ _ | refine gr_drew ?_ | refine gr_drewN ?_ _ | refine gr_setCell ?_ (.inr (by simp; omega)) _)) hg4); clear hg4
        replace HS := Lib.hid hs4; clear hs4
        obtain ⟨i, rfl⟩ : ∃ i : Nat, r3 = i := ⟨r3.toNat, by omega⟩
        obtain ⟨g, rfl, hg0, hg1⟩ := HY.out.pos (by omega)
        have hin : i < n' := by omega
        have hcap := HY.out.cap
        have hw1 : IntKind.i64.wrap ((i : Int) + 1) = (i : Int) + 1 := IntWalk.i64_in _ (by omega)
        have i0 : (0 : Int) ≤ (i : Int) := by omega
        have i1 : (i : Int) ≤ (c' : Int) := by omega
        have i2 : (i : Int) + 1 ≤ (n' : Int) := by omega
        have i3 : (i : Int) + 1 ≤ (c' : Int) := by omega
        have i4 : (0 : Int) ≤ (i : Int) + 1 := by omega
        have i5 : (i : Int) ≤ (n' : Int) := by omega
        have t1 : ((i : Int) + 1).toNat = i + 1 := by omega
        rcases (by omega : r4 = 0 ∨ r4 = 1 ∨ r4 = 2 ∨ r4 = 3) with rfl | rfl | rfl | rfl
        · obtain ⟨HYi⟩ : Nonempty (Ints .u8 w4 w.heap.size (some ⟨g, 0, none⟩) n' c' l') := ⟨HY.out.reads⟩
          have HYI := Lib.hid HYi; clear HYi
          go_wp2_with fail
          go_region_held3 (fun _ => True) (trivial) (first
            | (refine step_app _ (by rfl) _ _ Try.byteT (by rfl) w.heap.size _ _ _ _ (by rfl) (by exact (HY.out.prefix_ i (by omega)).drew) _ _ _ _ (List.map (Value.int .u8) (l'.drop (i + 1))) (by rfl) (by exact (HYI.out.cut0 (i + 1) (by omega)).drew) (one_ints _ _) (by unfold maxLen; omega) (by omega) (by simp; omega) ?_
               intro A5 c5 w5 h5
               have H5 := Lib.hid h5; clear h5)
            | fail)
          go_wp2_with fail
          go_roundw
          case rel =>
            refine ⟨k + 1, A5, _, c5, l'.take i ++ l'.drop (i + 1), by omega, by go_num, rfl, BRel.of (HS.out.mono (by omega)) HG.out (HY.out.prefix_ i (by omega)) ?_ ?_ (by omega) hlt⟩
            · rw [List.map_append, List.map_take]; simpa using H5.out
            · intro b hb
              rcases List.mem_append.1 hb with h | h
              · exact HL.out b (List.mem_of_mem_take h)
              · exact HL.out b (List.mem_of_mem_drop h)
          case measure => simp [intOf]; omega
        · obtain ⟨HYi⟩ : Nonempty (Ints .u8 w4 w.heap.size (some ⟨g, 0, none⟩) n' c' l') := ⟨HY.out.reads⟩
          have HYI := Lib.hid HYi; clear HYi
          go_wp2_with fail
          go_region_held3 (fun _ => True) (trivial) (first
            | (refine step_app _ (by rfl) _ _ Try.byteT (by rfl) w.heap.size _ _ _ _ (by rfl) (by exact (HY.out.prefix_ (i + 1) (by omega)).drew) _ _ _ _ (List.map (Value.int .u8) (l'.drop i)) (by rfl) (by exact (HYI.out.cut0 i (by omega)).drew) (one_ints _ _) (by unfold maxLen; omega) (by omega) (by simp; omega) ?_
               intro A5 c5 w5 h5
               have H5 := Lib.hid h5; clear h5)
            | fail)
          go_wp2_with fail
          go_roundw
          case rel =>
            refine ⟨k + 1, A5, _, c5, l'.take (i + 1) ++ l'.drop i, by omega, by go_num, rfl, BRel.of (HS.out.mono (by omega)) HG.out (HY.out.prefix_ (i + 1) (by omega)) ?_ ?_ (by omega) hlt⟩
            · rw [List.map_append, List.map_take]; simpa using H5.out
            · intro b hb
              rcases List.mem_append.1 hb with h | h
              · exact HL.out b (List.mem_of_mem_take h)
              · exact HL.out b (List.mem_of_mem_drop h)
          case measure => simp [intOf]; omega
        · go_wp2_with fail
          go_roundw
          case rel =>
            refine ⟨k + 1, _, i, c', l'.take i, by omega, by go_num, rfl, HS.out.mono (by omega), HG.out, ?_, fun b hb => HL.out b (List.mem_of_mem_take hb), by omega⟩
            have h := HY.out.prefix_ i (by omega)
            rw [Nat.mul_one, ← List.map_take] at h
            exact h
          case measure => simp [intOf]; omega
        · obtain ⟨g', o', z, e, _, _, hz, hcz⟩ := (show Ints .u8 w4 w.heap.size (some ⟨g, 0, none⟩) n' c' l' from HY.out.reads).get hin
          injection e with e; injection e with e1 e2; subst e1; subst e2
          rw [Nat.zero_add] at hcz
          have j1 : (i : Int) < (n' : Int) := by omega
          have HZ := Lib.hid hz; clear hz
          go_wp2_with fail
          go_region_law (first
            | (go_simp
               go_at_call 59
               refine (next_any sb _ 8 _ (by exact HS.out.drew) (by omega) (by omega) (by omega)).mono ?_
               rintro e w6 ⟨v6, rfl, ⟨r6, hlo6, hhi6, rfl⟩, hs6, hg6⟩
               have HY6 := Lib.hid (HY.out.drew.kept hg6 (fun g' e e' => by injection e with e; have := (HY.out.lt e').1; omega))
               have z6 := hg6.size; simp at z6
               have HG6 := Lib.hid (gr_same (gr_drew HG.out) hg6)
               have HS6 := Lib.hid hs6
               have c6 : w6.cell? ⟨g, i, none⟩ = some (.int .u8 z) := (World.cell?_of_block (hg6.block g (by simpa using hg1) (by simp; omega))).trans hcz
               have f6 : w6.frozen? ⟨g, i, none⟩ = false := HY6.out.frozen i
               clear hs6 hg6)
            | fail)
          all_goals
            go_wp2_with fail
            go_roundw
            case rel =>
              refine ⟨k + 1, _, n', c', l'.set i (bits .xor .u8 z (2 ^ r6.toNat % 256)), by omega, by go_num, rfl, (HS6.out.setCell (by simp; omega) _).mono (by omega), gr_setCell HG6.out (.inr (by simp; omega)) _, ?_, ?_, by omega⟩
              · have h := HY6.out.stored i (.int .u8 (bits .xor .u8 z (2 ^ r6.toNat % 256)))
                unfold OwnB
                rw [List.map_set]
                exact h
              · intro b hb
                rcases List.mem_or_eq_of_mem_set hb with h | h
                · exact HL.out b h
                · rw [h]; exact bits_u8 _ _ _
            case measure => simp [intOf]; omega
    · go_wp2_with fail
      go_ret
      exact ⟨_, rfl, ⟨A', n', c', l', rfl, HY.out, HL.out, by omega⟩, HS.out.mono (by omega), HG.out⟩

theorem IsBytes.grown {lo most sb : Nat} {v : Value} {w w' : World} (h : IsBytes lo most v w) (hg : w.grownBy w' (some sb)) (hs : sb < lo) : IsBytes lo most v w' := by
  obtain ⟨A, n, c, l, rfl, ho, hl, hn⟩ := h
  exact ⟨A, n, c, l, rfl, Own.kept ho hg (fun g e e' => by injection e with e; have := (Own.lt ho e').1; omega), hl, hn⟩
theorem pktBytes_byte {ty sq tm sr : Int} {mk : Bool} {l : List Int} (h : ∀ b ∈ l, 0 ≤ b ∧ b < 256) : ∀ b ∈ pktBytes ty sq tm sr mk l, 0 ≤ b ∧ b < 256 := by
  intro b hb
  simp only [pktBytes, List.mem_append, List.mem_cons, List.not_mem_nil, or_false] at hb
  rcases hb with ((((h1 | h1) | h1) | h1) | h1) | h1
  · omega
  · omega
  · exact beBytes_byte _ _ _ h1
  · exact beBytes_byte _ _ _ h1
  · exact beBytes_byte _ _ _ h1
  · exact h b h1

set_option maxRecDepth 100000 in
set_option maxHeartbeats 8000000 in
theorem packetBytesGen_any (sb : Nat) (m : Int) (w : World) (hs : Str w sb m) (hm : m ≤ 10000000000) :
    Calls Try.prog 10 #[.pointer (some ⟨sb, 0, none⟩)] w (Drawn sb (m + 60) (IsBytes w.heap.size 5000) w) := by
  have hlt := hs.lt
  have HS := Lib.hid hs; clear hs
  have HG := Lib.hid (gr_refl w (some sb))
  go_enter Try.func10, Try.ntmps10
  go_wp2_with fail
  refine (rightPacket_any sb _ _ (by first | exact HS.out | exact HS.out.alloc _ | exact (HS.out.alloc _).alloc _ | exact ((HS.out.alloc _).alloc _).alloc _ | exact HS.out.drewN _ | exact HS.out.setCell (by simp; omega) _ | exact (HS.out.alloc _).setCell (by simp; omega) _ | exact (HS.out.setCell (by simp; omega) _).alloc _ | exact (HS.out.setCell (by simp; omega) _).drewN _ | exact (HS.out.alloc _).drewN _) (by omega)).mono ?_
  rintro e w1 ⟨v1, rfl, ⟨ty, sq, tm, sr, mk, A, n, c, l, rfl, b1, b2, b3, b4, hn, hy, hl⟩, hs1, hg1⟩
  have HY := Lib.hid hy; have HL := Lib.hid hl; clear hy hl
  have z1 := hg1.size; try simp at z1
  try replace HZ := Lib.hid (HZ.out.grown hg1 (by simp; omega))
  try replace HP := Lib.hid (HP.out.grown hg1 (by simp; omega))
  try replace HY := Lib.hid (Own.kept HY.out hg1 (fun g e e' => by injection e with e; have := (HY.out.lt e').1; omega))
  replace HG := Lib.hid (gr_same (a := w) (by repeat (first | exact HG.out | refine gr_alloc ?_ _ | refine gr_drew ?_ | refine gr_drewN ?_ _ | refine gr_setCell ?_ (.inr (by simp; omega)) _)) hg1); clear hg1
  replace HS := Lib.hid hs1; clear hs1
  go_wp2_with fail
  refine (packetBytes_any ty sq tm sr mk _ A n c l _ (HY.out.bytes HL.out) b1 ⟨by omega, by omega⟩ b3 b4 hn).mono ?_
  rintro e w2 ⟨v2, rfl, ⟨A2, c2, rfl, ho2⟩, hg2⟩
  have z2 := hg2.size
  replace HG := Lib.hid (gr_none HG.out hg2)
  replace HS := Lib.hid (HS.out.grown hg2 (fun g e => by cases e))
  have hl2 : ∀ b ∈ pktBytes ty sq tm sr mk l, 0 ≤ b ∧ b < 256 := pktBytes_byte HL.out
  have HB2 := Lib.hid (show IsBytes w.heap.size 3000 (.slice A2 (12 + n) c2) w2 from ⟨A2, 12 + n, c2, _, rfl, Own.lower ho2 (by omega), hl2, by omega⟩)
  clear hg2 ho2 hl2 HY HL
  generalize Value.slice A2 (12 + n) c2 = v2 at *
  have key : ∀ (f : Bool), True := fun _ => trivial
  clear key
  go_wp2_with fail
  refine (flip_any sb _ 3 _ (by first | exact HS.out | exact HS.out.alloc _ | exact (HS.out.alloc _).alloc _ | exact ((HS.out.alloc _).alloc _).alloc _ | exact HS.out.drewN _ | exact HS.out.setCell (by simp; omega) _ | exact (HS.out.alloc _).setCell (by simp; omega) _ | exact (HS.out.setCell (by simp; omega) _).alloc _ | exact (HS.out.setCell (by simp; omega) _).drewN _ | exact (HS.out.alloc _).drewN _) (by omega) (by omega) (by omega)).mono ?_
  rintro e w3 ⟨v3, rfl, ⟨f3, rfl⟩, hs3, hg3⟩
  replace HB2 := Lib.hid (HB2.out.grown hg3 (by omega))
  have z3 := hg3.size; try simp at z3
  try replace HZ := Lib.hid (HZ.out.grown hg3 (by simp; omega))
  try replace HP := Lib.hid (HP.out.grown hg3 (by simp; omega))
  try replace HY := Lib.hid (Own.kept HY.out hg3 (fun g e e' => by injection e with e; have := (HY.out.lt e').1; omega))
  replace HG := Lib.hid (gr_same (a := w) (by repeat (first | exact HG.out | refine gr_alloc ?_ _ | refine gr_drew ?_ | refine gr_drewN ?_ _ | refine gr_setCell ?_ (.inr (by simp; omega)) _)) hg3); clear hg3
  replace HS := Lib.hid hs3; clear hs3
  obtain ⟨A3, n3, c3, l3, rfl, ho3, hl3, hn3⟩ := HB2.out
  have HY := Lib.hid ho3; have HL := Lib.hid hl3
  clear ho3 hl3 HB2
  have hcut : ∀ (W : World), True := fun _ => trivial
  clear hcut
  cases f3
  · go_wp2_with fail
    refine (flip_any sb _ 30 _ (by first | exact HS.out | exact HS.out.alloc _ | exact (HS.out.alloc _).alloc _ | exact ((HS.out.alloc _).alloc _).alloc _ | exact HS.out.drewN _ | exact HS.out.setCell (by simp; omega) _ | exact (HS.out.alloc _).setCell (by simp; omega) _ | exact (HS.out.setCell (by simp; omega) _).alloc _ | exact (HS.out.setCell (by simp; omega) _).drewN _ | exact (HS.out.alloc _).drewN _) (by omega) (by omega) (by omega)).mono ?_
    rintro e w7 ⟨v7, rfl, ⟨f7, rfl⟩, hs7, hg7⟩
    have z7 := hg7.size; try simp at z7
    try replace HZ := Lib.hid (HZ.out.grown hg7 (by simp; omega))
    try replace HP := Lib.hid (HP.out.grown hg7 (by simp; omega))
    try replace HY := Lib.hid (Own.kept HY.out hg7 (fun g e e' => by injection e with e; have := (HY.out.lt e').1; omega))
    replace HG := Lib.hid (gr_same (a := w) (by repeat (first | exact HG.out | refine gr_alloc ?_ _ | refine gr_drew ?_ | refine gr_drewN ?_ _ | refine gr_setCell ?_ (.inr (by simp; omega)) _)) hg7); clear hg7
    replace HS := Lib.hid hs7; clear hs7
    cases f7
    · go_wp2_with fail
      go_ret
      exact ⟨_, rfl, ⟨_, _, _, _, rfl, HY.out, HL.out, by omega⟩, HS.out.mono (by omega), HG.out⟩
    · clear HY HL
      go_wp2_with fail
      refine (pick_new sb _ [10, 11, 1011, 1012] _ (by first | exact HS.out | exact HS.out.alloc _ | exact (HS.out.alloc _).alloc _ | exact ((HS.out.alloc _).alloc _).alloc _ | exact HS.out.drewN _ | exact HS.out.setCell (by simp; omega) _ | exact (HS.out.alloc _).setCell (by simp; omega) _ | exact (HS.out.setCell (by simp; omega) _).alloc _ | exact (HS.out.setCell (by simp; omega) _).drewN _ | exact (HS.out.alloc _).drewN _) (by omega) (by simp) rfl rfl (by simp) (by simp)).mono ?_
      rintro e w8 ⟨v8, rfl, ⟨r8, hr8, rfl⟩, hs8, hg8⟩
      have HY := Lib.hid (Own.kept (Own.lit w7 5 1 [.int .u8 128] 1 (by unfold maxLen; omega) rfl) hg8 (fun g e => by injection e with e; subst e; simp [blkOf]; omega))
      have hr8' : 10 ≤ r8 ∧ r8 ≤ 1012 := by simp at hr8; omega
      clear hr8
      have z8 := hg8.size; try simp at z8
      replace HG := Lib.hid (gr_same (a := w) (by repeat (first | exact HG.out | refine gr_alloc ?_ _ | refine gr_drew ?_ | refine gr_drewN ?_ _ | refine gr_setCell ?_ (.inr (by simp; omega)) _)) hg8); clear hg8
      replace HS := Lib.hid hs8; clear hs8
      obtain ⟨q, rfl⟩ : ∃ q : Nat, r8 = q := ⟨r8.toNat, by omega⟩
      obtain ⟨q0, q1⟩ := hr8'
      go_wp2_with (first
        | (at_builtin
           refine wpl_app_zeros _ rfl _ _ Try.byteT rfl rfl Try.underlying3 rfl w7.heap.size _ 1 1 _ rfl (by exact HY.out) q rfl (by omega) (by unfold maxLen; omega) (by omega) (by omega) ?_
           intro A9 c9 w9 h9
           have H9 := Lib.hid h9; clear h9)
        | fail)
      go_ret
      refine ⟨_, rfl, ⟨A9, _, c9, [128] ++ List.replicate q 0, rfl, ?_, ?_, by omega⟩, (HS.out.grown H9.out.2.1 (fun g e => by have := (HY.out.lt e).1; omega)).mono (by omega), H9.out.gr HG.out HY.out (by omega)⟩
      · have h := H9.out.1.lower (show w.heap.size ≤ w7.heap.size by omega)
        unfold OwnB
        rw [List.map_append, List.map_replicate]
        exact h
      · intro b hb
        rcases List.mem_append.1 hb with h | h
        · simp at h; omega
        · rw [List.eq_of_mem_replicate h]; omega
  · go_wp2_with fail
    refine (bytes_any sb _ _ A3 n3 c3 l3 _ (by first | exact HS.out | exact HS.out.alloc _ | exact (HS.out.alloc _).alloc _ | exact ((HS.out.alloc _).alloc _).alloc _ | exact HS.out.drewN _ | exact HS.out.setCell (by simp; omega) _ | exact (HS.out.alloc _).setCell (by simp; omega) _ | exact (HS.out.setCell (by simp; omega) _).alloc _ | exact (HS.out.setCell (by simp; omega) _).drewN _ | exact (HS.out.alloc _).drewN _) (by omega) (HY.out.bytes HL.out) (by omega)).mono ?_
    rintro e w4 ⟨v4, rfl, ⟨A5, n5, c5, l5, rfl, ho5, hl5, hn5⟩, hs4, hg4⟩
    have z4 := hg4.size; try simp at z4
    try replace HZ := Lib.hid (HZ.out.grown hg4 (by simp; omega))
    try replace HP := Lib.hid (HP.out.grown hg4 (by simp; omega))
    try replace HY := Lib.hid (Own.kept HY.out hg4 (fun g e e' => by injection e with e; have := (HY.out.lt e').1; omega))
    replace HG := Lib.hid (gr_same (a := w) (by repeat (first | exact HG.out | refine gr_alloc ?_ _ | refine gr_drew ?_ | refine gr_drewN ?_ _ | refine gr_setCell ?_ (.inr (by simp; omega)) _)) hg4); clear hg4
    replace HS := Lib.hid hs4; clear hs4
    clear HY HL
    have HY := Lib.hid (Own.lower ho5 (show w.heap.size ≤ w3.heap.size by omega)); have HL := Lib.hid hl5
    clear ho5 hl5
    go_wp2_with fail
    refine (flip_any sb _ 30 _ (by first | exact HS.out | exact HS.out.alloc _ | exact (HS.out.alloc _).alloc _ | exact ((HS.out.alloc _).alloc _).alloc _ | exact HS.out.drewN _ | exact HS.out.setCell (by simp; omega) _ | exact (HS.out.alloc _).setCell (by simp; omega) _ | exact (HS.out.setCell (by simp; omega) _).alloc _ | exact (HS.out.setCell (by simp; omega) _).drewN _ | exact (HS.out.alloc _).drewN _) (by omega) (by omega) (by omega)).mono ?_
    rintro e w7 ⟨v7, rfl, ⟨f7, rfl⟩, hs7, hg7⟩
    have z7 := hg7.size; try simp at z7
    try replace HZ := Lib.hid (HZ.out.grown hg7 (by simp; omega))
    try replace HP := Lib.hid (HP.out.grown hg7 (by simp; omega))
    try replace HY := Lib.hid (Own.kept HY.out hg7 (fun g e e' => by injection e with e; have := (HY.out.lt e').1; omega))
    replace HG := Lib.hid (gr_same (a := w) (by repeat (first | exact HG.out | refine gr_alloc ?_ _ | refine gr_drew ?_ | refine gr_drewN ?_ _ | refine gr_setCell ?_ (.inr (by simp; omega)) _)) hg7); clear hg7
    replace HS := Lib.hid hs7; clear hs7
    cases f7
    · go_wp2_with fail
      go_ret
      exact ⟨_, rfl, ⟨_, _, _, _, rfl, HY.out, HL.out, by omega⟩, HS.out.mono (by omega), HG.out⟩
    · clear HY HL
      go_wp2_with fail
      refine (pick_new sb _ [10, 11, 1011, 1012] _ (by first | exact HS.out | exact HS.out.alloc _ | exact (HS.out.alloc _).alloc _ | exact ((HS.out.alloc _).alloc _).alloc _ | exact HS.out.drewN _ | exact HS.out.setCell (by simp; omega) _ | exact (HS.out.alloc _).setCell (by simp; omega) _ | exact (HS.out.setCell (by simp; omega) _).alloc _ | exact (HS.out.setCell (by simp; omega) _).drewN _ | exact (HS.out.alloc _).drewN _) (by omega) (by simp) rfl rfl (by simp) (by simp)).mono ?_
      rintro e w8 ⟨v8, rfl, ⟨r8, hr8, rfl⟩, hs8, hg8⟩
      have HY := Lib.hid (Own.kept (Own.lit w7 5 1 [.int .u8 128] 1 (by unfold maxLen; omega) rfl) hg8 (fun g e => by injection e with e; subst e; simp [blkOf]; omega))
      have hr8' : 10 ≤ r8 ∧ r8 ≤ 1012 := by simp at hr8; omega
      clear hr8
      have z8 := hg8.size; try simp at z8
      replace HG := Lib.hid (gr_same (a := w) (by repeat (first | exact HG.out | refine gr_alloc ?_ _ | refine gr_drew ?_ | refine gr_drewN ?_ _ | refine gr_setCell ?_ (.inr (by simp; omega)) _)) hg8); clear hg8
      replace HS := Lib.hid hs8; clear hs8
      obtain ⟨q, rfl⟩ : ∃ q : Nat, r8 = q := ⟨r8.toNat, by omega⟩
      obtain ⟨q0, q1⟩ := hr8'
      go_wp2_with (first
        | (at_builtin
           refine wpl_app_zeros _ rfl _ _ Try.byteT rfl rfl Try.underlying3 rfl w7.heap.size _ 1 1 _ rfl (by exact HY.out) q rfl (by omega) (by unfold maxLen; omega) (by omega) (by omega) ?_
           intro A9 c9 w9 h9
           have H9 := Lib.hid h9; clear h9)
        | fail)
      go_ret
      refine ⟨_, rfl, ⟨A9, _, c9, [128] ++ List.replicate q 0, rfl, ?_, ?_, by omega⟩, (HS.out.grown H9.out.2.1 (fun g e => by have := (HY.out.lt e).1; omega)).mono (by omega), H9.out.gr HG.out HY.out (by omega)⟩
      · have h := H9.out.1.lower (show w.heap.size ≤ w7.heap.size by omega)
        unfold OwnB
        rw [List.map_append, List.map_replicate]
        exact h
      · intro b hb
        rcases List.mem_append.1 hb with h | h
        · simp at h; omega
        · rw [List.eq_of_mem_replicate h]; omega
end Go.Proofs.Ytdknfhpconfhkaa

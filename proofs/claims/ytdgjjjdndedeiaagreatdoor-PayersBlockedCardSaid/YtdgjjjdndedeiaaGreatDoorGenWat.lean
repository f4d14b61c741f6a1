/- Contracts of the generators of watches. Conditions: none. -/
import Derived.Test.YtdgjjjdndedeiaaGreatDoorBun3
import Derived.Test.YtdgjjjdndedeiaaGreatDoorGenPay
import Derived.Test.YtdgjjjdndedeiaaGreatDoorBun2
namespace Go.Proofs.YtdgjjjdndedeiaaGreatDoor
open Go.RowKit

theorem Tryz.wasT : ElemT Tryz.prog 59 127 5 48 (.agg #[.string ⟨#[]⟩, .int .i64 0, .int .i64 0, .int .i64 0, .int .i64 0]) := elemT_of Tryz.underlying59 (by kernel_rfl) rfl (by decide)
def OwnWa (w : World) (lo : Nat) (A : Option Addr) (n c : Nat) (l : List WaV) : Prop := OwnR WaV.row 5 w lo 127 A n c l ∧ ∀ z ∈ l, z.cls.size ≤ 1000
theorem OwnWa.low {w w' : World} {lo n c : Nat} {A : Option Addr} {l : List WaV} (h : OwnWa w lo A n c l) {r : Option Nat} (hg : w.grownBy w' r) (hr : ∀ g, r = some g → g < lo) : OwnWa w' lo A n c l := ⟨h.1.low hg hr, h.2⟩
def IsWas (lo k : Nat) (v : Value) (w : World) : Prop := ∃ A n c l, v = .slice A n c ∧ Was w lo A n c l ∧ n ≤ k
theorem names4 (k : Nat) (hk : k < 4) {w : World} {g : Nat} (h : Blk w g 9 #[.string ⟨#[]⟩, .string ⟨#[102, 97, 114]⟩, .string ⟨#[104, 111, 109, 101]⟩, .string ⟨#[110, 101, 97, 114]⟩]) : ∃ s : ByteArray, s.size ≤ 4 ∧ w.cell? ⟨g, k, none⟩ = some (.string s) := by
  rcases (by omega : k = 0 ∨ k = 1 ∨ k = 2 ∨ k = 3) with rfl | rfl | rfl | rfl
  · exact ⟨_, by decide, h.cell 0⟩
  · exact ⟨_, by decide, h.cell 1⟩
  · exact ⟨_, by decide, h.cell 2⟩
  · exact ⟨_, by decide, h.cell 3⟩
set_option maxHeartbeats 8000000 in
theorem rightWatches_any (sb : Nat) (m : Int) (w : World) (hs : Str w sb m) (hm : m ≤ 1000000000) : Calls Tryz.prog 64 #[.pointer (some ⟨sb, 0, none⟩)] w (Drawn sb (m + 40) (fun v w' => ∃ A n c l, v = .slice A n c ∧ OwnWa w' w.heap.size A n c l ∧ n ≤ 4) w) := by
  have hlt := hs.lt
  have HS0 := Lib.hid hs; clear hs
  go_enter Tryz.func64, Tryz.ntmps64
  go_wp2_with fail
  go_loopw [3, 5, 8] (fun out _ t wr => ∃ (k n c : Nat) (A : Option Addr) (l : List WaV), k ≤ 4 ∧ t = .int .i64 k ∧ out = .slice A n c ∧ n ≤ k ∧ Str wr sb (m + 10 * k) ∧ w.grownBy wr (some sb) ∧ Blk wr w.heap.size 9 #[.string ⟨#[]⟩, .string ⟨#[102, 97, 114]⟩, .string ⟨#[104, 111, 109, 101]⟩, .string ⟨#[110, 101, 97, 114]⟩] ∧ OwnWa wr w.heap.size A n c l) (fun _ _ t _ => 4 - (intOf t).toNat)
  case atStart => exact ⟨0, 0, 0, none, [], Nat.zero_le _, rfl, rfl, Nat.le_refl _, (HS0.out.alloc _).mono (by omega), gr_alloc (gr_refl _ _) _, Blk.new _ _ _, OwnR.nil _ _ _, (fun z hz => by cases hz)⟩
  case round =>
    obtain ⟨k, n, c, A, l, hk, rfl, rfl, hnk, hs, hg, hn, hown⟩ := hrel
    have zr := hg.size
    have HS := Lib.hid hs; have HG := Lib.hid hg; have HO := Lib.hid hown; have HN := Lib.hid hn; clear hs hg hown hn
    have zn := HN.out.lt
    have HNE := Lib.hid (show blkOf A ≠ some w.heap.size from HO.out.1.1.blk_ne HN.out (by decide))
    by_cases hlt2 : k < 4
    · obtain ⟨ky, hky, hkc⟩ := names4 k hlt2 HN.out
      go_wp2_with fail
      refine (flip_any sb _ 2 _ HS.out (by omega) (by omega) (by omega)).mono ?_
      rintro e w1 ⟨v1, rfl, ⟨f1, rfl⟩, hs1, hg1⟩
      clear hkc
      have z1 := hg1.size; (try simp at z1)
      replace HO := Lib.hid (HO.out.low hg1 (fun g e => by injection e with e; omega))
      (try replace HN := Lib.hid (HN.out.grown hg1 (by simp; omega)))
      replace HG := Lib.hid (gr_same (a := w) HG.out hg1)
      replace HS := Lib.hid hs1
      clear hs1 hg1
      cases f1
      · go_wp2_with fail
        go_roundw
        case rel => exact ⟨k + 1, n, c, A, l, by omega, by go_num, rfl, by omega, HS.out.mono (by omega), HG.out, HN.out, HO.out⟩
        case measure => simp [intOf]; omega
      · go_wp2_with fail
        refine (pick_new sb _ [100, 1000, 60000, 2592000000] _ HS.out (by omega) (by simp) rfl rfl (by simp) (by simp)).mono ?_
        rintro e w2 ⟨v2, rfl, ⟨r2, hr2, rfl⟩, hs2, hg2⟩
        clear hr2
        have z2 := hg2.size; (try simp at z2)
        replace HO := Lib.hid (HO.out.low hg2 (fun g e => by injection e with e; omega))
        (try replace HN := Lib.hid (HN.out.grown hg2 (by simp; omega)))
        replace HG := Lib.hid (gr_same (a := w) HG.out hg2)
        replace HS := Lib.hid hs2
        clear hs2 hg2
        go_wp2_with fail
        refine (pick_new sb _ [0, 1, 2, 3000] _ HS.out (by omega) (by simp) rfl rfl (by simp) (by simp)).mono ?_
        rintro e w3 ⟨v3, rfl, ⟨r3, hr3, rfl⟩, hs3, hg3⟩
        clear hr3
        have z3 := hg3.size; (try simp at z3)
        replace HO := Lib.hid (HO.out.low hg3 (fun g e => by injection e with e; omega))
        (try replace HN := Lib.hid (HN.out.grown hg3 (by simp; omega)))
        replace HG := Lib.hid (gr_same (a := w) HG.out hg3)
        replace HS := Lib.hid hs3
        clear hs3 hg3
        go_wp2_with fail
        refine (pick_new sb _ [0, 1, 2, 1000] _ HS.out (by omega) (by simp) rfl rfl (by simp) (by simp)).mono ?_
        rintro e w4 ⟨v4, rfl, ⟨r4, hr4, rfl⟩, hs4, hg4⟩
        clear hr4
        have z4 := hg4.size; (try simp at z4)
        replace HO := Lib.hid (HO.out.low hg4 (fun g e => by injection e with e; omega))
        (try replace HN := Lib.hid (HN.out.grown hg4 (by simp; omega)))
        replace HG := Lib.hid (gr_same (a := w) HG.out hg4)
        replace HS := Lib.hid hs4
        clear hs4 hg4
        go_wp2_with fail
        refine (pick_new sb _ [50, 1000, 100000] _ HS.out (by omega) (by simp) rfl rfl (by simp) (by simp)).mono ?_
        rintro e w5 ⟨v5, rfl, ⟨r5, hr5, rfl⟩, hs5, hg5⟩
        clear hr5
        have z5 := hg5.size; (try simp at z5)
        replace HO := Lib.hid (HO.out.low hg5 (fun g e => by injection e with e; omega))
        (try replace HN := Lib.hid (HN.out.grown hg5 (by simp; omega)))
        replace HG := Lib.hid (gr_same (a := w) HG.out hg5)
        replace HS := Lib.hid hs5
        clear hs5 hg5
        go_wp2_with (first
          | (at_builtin
             refine wpl_app _ rfl _ _ Tryz.wasT rfl w.heap.size A n c _ rfl (by exact HO.out.1.1.alloc _) _ _ 1 1 [.string ky, .int .i64 r2, .int .i64 r3, .int .i64 r4, .int .i64 r5] rfl (by exact Reads.one _ _ _ _ rfl) (by simp [Value.oneCell']) (by unfold maxLen; omega) (by omega) (by simp; have := HG.out.size; omega) ?_
             intro A5 c5 w6 h5
             have H5 := Lib.hid h5; clear h5)
          | fail)
        go_roundw
        case rel => exact ⟨k + 1, n + 1, c5, A5, l ++ [⟨ky, r2, r3, r4, r5⟩], by omega, by go_num, rfl, by omega, ((HS.out.alloc _).grown H5.out.2.1 (fun g e => by have := (HO.out.1.1.lt e).1; omega)).mono (by omega), H5.out.gr (gr_alloc HG.out _) (HO.out.1.1.alloc _) (Nat.le_refl _), (HN.out.alloc _).grown H5.out.2.1 (fun e => HNE.out e.symm), (HO.out.1.alloc _).app rfl H5.out, fun z hz => by
          rcases List.mem_append.1 hz with h | h
          · exact HO.out.2 z h
          · rw [List.mem_singleton.1 h]; dsimp only; omega⟩
        case measure => simp [intOf]; omega
    · obtain rfl : k = 4 := by omega
      go_wp2_with fail
      go_ret
      exact ⟨_, rfl, ⟨A, n, c, l, rfl, HO.out, hnk⟩, HS.out.mono (by omega), HG.out⟩
set_option maxHeartbeats 8000000 in
theorem watches_any (sb : Nat) (m : Int) (w : World) (hs : Str w sb m) (hm : m ≤ 1000000000) : Calls Tryz.prog 22 #[.pointer (some ⟨sb, 0, none⟩)] w (Drawn sb (m + 60) (IsWas w.heap.size 5) w) := by
  have hlt := hs.lt
  have HS0 := Lib.hid hs; clear hs
  go_enter Tryz.func22, Tryz.ntmps22
  go_wp2_with fail
  refine (rightWatches_any sb _ _ HS0.out (by omega)).mono ?_
  rintro e w1 ⟨v1, rfl, ⟨A, n, c, l, rfl, hown, hn⟩, hs1, hg1⟩
  have HO := Lib.hid hown; have HS := Lib.hid hs1; have HG := Lib.hid hg1
  have z1 := hg1.size
  clear hown hs1 hg1
  go_wp2_with fail
  refine (flip_any sb _ 12 _ HS.out (by omega) (by omega) (by omega)).mono ?_
  rintro e w2 ⟨v2, rfl, ⟨f2, rfl⟩, hs2, hg2⟩
  have z2 := hg2.size; (try simp at z2)
  replace HO := Lib.hid (HO.out.low hg2 (fun g e => by injection e with e; omega))
  (try replace HN := Lib.hid (HN.out.grown hg2 (by simp; omega)))
  replace HG := Lib.hid (gr_same (a := w) HG.out hg2)
  replace HS := Lib.hid hs2
  clear hs2 hg2
  cases f2
  · go_wp2_with fail
    go_ret
    exact ⟨_, rfl, ⟨A, n, c, l, rfl, ⟨HO.out.1.recs, HO.out.2⟩, by omega⟩, HS.out.mono (by omega), HG.out⟩
  · go_wp2_with fail
    refine (some_new (n := 3) sb _ 2 _ HS.out (by omega) (by simp) (by
      repeat (first | exact StrsOk.nil _ | refine StrsOk.cons (by decide) ?_)) rfl (by omega) (by omega)).mono ?_
    rintro e w3 ⟨v3, rfl, ⟨y3, rfl, hy3⟩, hs3, hg3⟩
    have z3 := hg3.size; (try simp at z3)
    replace HO := Lib.hid (HO.out.low hg3 (fun g e => by injection e with e; omega))
    (try replace HN := Lib.hid (HN.out.grown hg3 (by simp; omega)))
    replace HG := Lib.hid (gr_same (a := w) HG.out hg3)
    replace HS := Lib.hid hs3
    clear hs3 hg3
    go_wp2_with fail
    refine (odd_any sb _ 1 100 _ HS.out (by omega) (by omega) (by omega) (by omega)).mono ?_
    rintro e w4 ⟨v4, rfl, ⟨r4, hlo4, hhi4, rfl⟩, hs4, hg4⟩
    have z4 := hg4.size; (try simp at z4)
    replace HO := Lib.hid (HO.out.low hg4 (fun g e => by injection e with e; omega))
    (try replace HN := Lib.hid (HN.out.grown hg4 (by simp; omega)))
    replace HG := Lib.hid (gr_same (a := w) HG.out hg4)
    replace HS := Lib.hid hs4
    clear hs4 hg4
    go_wp2_with fail
    refine (odd_any sb _ 0 10 _ HS.out (by omega) (by omega) (by omega) (by omega)).mono ?_
    rintro e w5 ⟨v5, rfl, ⟨r5, hlo5, hhi5, rfl⟩, hs5, hg5⟩
    have z5 := hg5.size; (try simp at z5)
    replace HO := Lib.hid (HO.out.low hg5 (fun g e => by injection e with e; omega))
    (try replace HN := Lib.hid (HN.out.grown hg5 (by simp; omega)))
    replace HG := Lib.hid (gr_same (a := w) HG.out hg5)
    replace HS := Lib.hid hs5
    clear hs5 hg5
    go_wp2_with fail
    refine (odd_any sb _ 0 10 _ HS.out (by omega) (by omega) (by omega) (by omega)).mono ?_
    rintro e w6 ⟨v6, rfl, ⟨r6, hlo6, hhi6, rfl⟩, hs6, hg6⟩
    have z6 := hg6.size; (try simp at z6)
    replace HO := Lib.hid (HO.out.low hg6 (fun g e => by injection e with e; omega))
    (try replace HN := Lib.hid (HN.out.grown hg6 (by simp; omega)))
    replace HG := Lib.hid (gr_same (a := w) HG.out hg6)
    replace HS := Lib.hid hs6
    clear hs6 hg6
    go_wp2_with fail
    refine (odd_any sb _ 1 10 _ HS.out (by omega) (by omega) (by omega) (by omega)).mono ?_
    rintro e w7 ⟨v7, rfl, ⟨r7, hlo7, hhi7, rfl⟩, hs7, hg7⟩
    have z7 := hg7.size; (try simp at z7)
    replace HO := Lib.hid (HO.out.low hg7 (fun g e => by injection e with e; omega))
    (try replace HN := Lib.hid (HN.out.grown hg7 (by simp; omega)))
    replace HG := Lib.hid (gr_same (a := w) HG.out hg7)
    replace HS := Lib.hid hs7
    clear hs7 hg7
    go_wp2_with (first
      | (at_builtin
         refine wpl_app _ rfl _ _ Tryz.wasT rfl w.heap.size A n c _ rfl (by exact HO.out.1.1.alloc _) _ _ 1 1 [.string y3, .int .i64 r4, .int .i64 r5, .int .i64 r6, .int .i64 r7] rfl (by exact Reads.one _ _ _ _ rfl) (by simp [Value.oneCell']) (by unfold maxLen; omega) (by omega) (by simp; have := HG.out.size; omega) ?_
         intro A5 c5 w8 h5
         have H5 := Lib.hid h5; clear h5)
      | fail)
    go_ret
    exact ⟨_, rfl, ⟨A5, n + 1, c5, l ++ [⟨y3, r4, r5, r6, r7⟩], rfl, ⟨((HO.out.1.alloc _).app rfl H5.out).recs, fun z hz => by
      rcases List.mem_append.1 hz with h | h
      · exact HO.out.2 z h
      · rw [List.mem_singleton.1 h]; dsimp only; omega⟩, by omega⟩, ((HS.out.alloc _).grown H5.out.2.1 (fun g e => by have := (HO.out.1.1.lt e).1; omega)).mono (by omega), H5.out.gr (gr_alloc HG.out _) (HO.out.1.1.alloc _) (Nat.le_refl _)⟩
end Go.Proofs.YtdgjjjdndedeiaaGreatDoor

/- Contract of the document's reading of packets, and of slices.Clone over bytes. Conditions: none. -/
import Derived.Test.YtdknfhpconfhkaaPktRead
namespace Go.Proofs.Ytdknfhpconfhkaa
open Go.RowKit

set_option maxHeartbeats 2000000 in
theorem cloneB_any (lo : Nat) (A : Option Addr) (n c : Nat) (l : List Int) (w : World) (h : Ints .u8 w lo A n c l) (hn : n ≤ 1000000000000) :
    Calls Try.prog 66 #[.slice A n c] w (RetP (fun v w' => ∃ A' c', v = .slice A' n c' ∧ OwnB w' w.heap.size A' n c' l) w) := by
  have H := Lib.hid h; clear h
  have heq := fun (w : World) (A : Option Addr) (n c : Nat) => Lib.run_eql_slice_nil (P := Try.prog) w 26 5 A n c 0 0 Try.underlying26
  rcases A with _ | ad
  · have h0 : n = 0 := by
      rcases Nat.eq_zero_or_pos n with h0 | h0
      · exact h0
      · obtain ⟨g, o, h, _⟩ := H.out.2.2 h0
        cases h
    subst h0
    have hl : l = [] := List.eq_nil_of_length_eq_zero H.out.len
    subst hl
    go_enter Try.func66, Try.ntmps66
    go_wp2_with fail
    go_ret
    exact ⟨_, rfl, ⟨none, 0, rfl, Own.nil _ _ _ _⟩, gr_refl _ _⟩
  · go_enter Try.func66, Try.ntmps66
    go_wp2_with (first
      | (at_builtin
         refine wpl_app _ rfl _ _ Try.byteT rfl w.heap.size _ 0 0 [] rfl (by exact Own.lit w _ 1 [] 0 (by unfold maxLen; omega) rfl) _ _ _ _ _ rfl (by exact H.out.alloc _) (one_ints _ _) (by unfold maxLen; omega) (by omega) (by simp) ?_
         intro A1 c1 w1 h1
         have H1 := Lib.hid h1; clear h1)
      | fail)
    go_ret
    refine ⟨_, rfl, ⟨A1, c1, by simp, ?_⟩, H1.out.gr (gr_alloc (gr_refl _ _) _) (Own.lit w _ 1 [] 0 (by unfold maxLen; omega) rfl) (Nat.le_refl _)⟩
    have h := H1.out.1
    rw [List.nil_append, Nat.zero_add] at h
    exact h

theorem rem128 (y : Int) (h0 : 0 ≤ y) (_ : y < 256) : IntKind.i64.wrap (y.tmod 128) = y % 128 := by
  rw [Int.tmod_eq_emod_of_nonneg h0, IntKind.wrap_i64]; omega

set_option maxRecDepth 100000 in
set_option maxHeartbeats 4000000 in
theorem packetRead_any (lo : Nat) (A : Option Addr) (n c : Nat) (l : List Int) (w : World) (hb : Bytes w lo A n c l) (hn : n ≤ 1000000000000) :
    Calls Try.prog 15 #[.slice A n c] w (RetP (IsPktErr w.heap.size l) w) := by
  have HB := Lib.hid hb; clear hb
  by_cases h12 : n < 12
  · have HF := Lib.hid (show rdFault l = 3 by unfold rdFault; rw [if_pos (.inl (by rw [HB.out.len]; exact h12))])
    have h12' : decide ((n : Int) < 12) = true := by simp; omega
    go_enter Try.func15, Try.ntmps15
    go_wp2_with fail
    refine ret_cell_tmp Try.pktT rfl _ _ _ _ rfl rfl (Blk.new _ _ _) rfl rfl ?_
    exact ⟨_, rfl, by unfold IsPktErr; rw [if_neg (by rw [HF.out]; decide), HF.out]; rfl, gr_alloc (gr_refl _ _) _⟩
  · have h12' : decide ((n : Int) < 12) = false := by simp; omega
    obtain ⟨g, o, z, rfl, hlo, hlt, hz, hc, b0, b1⟩ := HB.out.get (show 0 < n by omega)
    rw [Nat.add_zero] at hc
    have hgw : (w.alloc (.cells #[.int .i64 0, .int .i64 0, .int .i64 0, .int .i64 0, .bool false, .slice none 0 0] 28)).cell? ⟨g, o, none⟩ = some (.int .u8 z) := (World.cell?_alloc_lt _ _ _ hlt).trans hc
    by_cases hz0 : z = 128
    · subst hz0
      by_cases h1k : n - 12 > 1000
      · have HF := Lib.hid (show rdFault l = 2 by unfold rdFault; rw [if_neg (by rw [hz, HB.out.len]; simp; omega), if_pos (by rw [HB.out.len]; exact h1k)])
        clear hz
        have h1k' : decide ((1000 : Int) < (n : Int) - 12) = true := by simp; omega
        go_enter Try.func15, Try.ntmps15
        go_wp2_with fail
        refine ret_cell_tmp Try.pktT rfl _ _ _ _ rfl rfl (Blk.new _ _ _) rfl rfl ?_
        exact ⟨_, rfl, by unfold IsPktErr; rw [if_neg (by rw [HF.out]; decide), HF.out]; rfl, gr_alloc (gr_refl _ _) _⟩
      · have HF := Lib.hid (show rdFault l = 0 by unfold rdFault; rw [if_neg (by rw [hz, HB.out.len]; simp; omega), if_neg (by rw [HB.out.len]; exact h1k)])
        clear hz
        have h1k' : decide ((1000 : Int) < (n : Int) - 12) = false := by simp; omega
        obtain ⟨g', o', y, e, _, _, hy, hcy, y0, y1⟩ := HB.out.get (show 1 < n by omega)
        injection e with e; injection e with e1 e2; subst e1; subst e2
        have HY := Lib.hid hy; clear hy
        have hcap := HB.out.1.cap
        have HBL := Lib.hid (HB.out.1.len)
        have i1 : (1 : Int) < (n : Int) := by omega
        have i4 : (4 : Int) ≤ (c : Int) := by omega
        have i8 : (8 : Int) ≤ (c : Int) := by omega
        have i12 : (12 : Int) ≤ (c : Int) := by omega
        have j12 : (12 : Int) ≤ (n : Int) := by omega
        have k1 : 1 < n := by omega
        have k4 : 4 ≤ c := by omega
        have k8 : 8 ≤ c := by omega
        have k12 : 12 ≤ c := by omega
        have l12 : 12 ≤ n := by omega
        have n2 : ¬ c = 2 := by omega
        have n4 : ¬ c = 4 := by omega
        have n8 : ¬ c = 8 := by omega
        obtain ⟨X, hX, hcut⟩ : ∃ X, (c = 12 ∧ X = some ⟨g, o, none⟩ ∨ ¬ c = 12 ∧ X = some ⟨g, o + 12, none⟩) ∧ ∀ w', Ints .u8 w' lo (some ⟨g, o, none⟩) n c l → Ints .u8 w' lo X (n - 12) (c - 12) (l.drop 12) := by
          by_cases h : c = 12
          · exact ⟨_, .inl ⟨h, rfl⟩, fun w' hh => by have := hh.cutTo 12 l12; rwa [if_pos h] at this⟩
          · exact ⟨_, .inr ⟨h, rfl⟩, fun w' hh => hh.subTo 12 l12⟩
        have HCUT := Lib.hid hcut; clear hcut
        rcases hX with ⟨hc12, rfl⟩ | ⟨hc12, rfl⟩
        all_goals
          go_enter Try.func15, Try.ntmps15
          go_wp2_with fail
          go_region_held3 (fun w' => w'.cell? ⟨g, o + 1, none⟩ = some (.int .u8 y) ∧ w.grownBy w' none)
            ((suffices hg : w.grownBy _ none from ⟨(World.cell?_of_block (hg.block g hlt (by simp))).trans hcy, hg⟩
              repeat (first | (with_reducible exact HG2.out) | (with_reducible refine gr_drew ?_) | (with_reducible refine gr_alloc ?_ _) | (refine gr_setCell ?_ (.inr (by simp)) _) | (with_reducible exact gr_refl _ _))))
            (first
              | (go_at_call 65
                 have hB : Bytes _ lo (some ⟨g, o, none⟩) n c l := HB.out.grown (by rename_i hS _ _; exact hS.2) (fun g e => by cases e)
                 first
                   | ((with_reducible refine (getRef_any lo _ _ _ _ _ ((hB.sub 2 2 (by omega)).recap (by omega)) (by omega)).mono ?_); rintro e w' ⟨rfl, rfl⟩)
                   | ((with_reducible refine (getRef_any lo _ _ _ _ _ ((hB.sub 4 4 (by omega)).recap (by omega)) (by omega)).mono ?_); rintro e w' ⟨rfl, rfl⟩)
                   | ((with_reducible refine (getRef_any lo _ _ _ _ _ ((hB.sub 8 4 (by omega)).recap (by omega)) (by omega)).mono ?_); rintro e w' ⟨rfl, rfl⟩)
                 clear hB)
              | (go_at_call 66
                 have hS' : w.grownBy _ none := (by rename_i hS _ _; exact hS.2)
                 refine (cloneB_any lo _ _ _ (l.drop 12) _ ((HCUT.out _ (HB.out.grown hS' (fun g e => by cases e)).1).recap (by omega)) (by omega)).mono ?_
                 rintro e w2 ⟨v2, rfl, ⟨A2, c2, rfl, ho2⟩, hg2⟩
                 have HG2 := Lib.hid (gr_none hS' hg2)
                 have hz2 := ((Blk.new w 28 #[.int .i64 0, .int .i64 0, .int .i64 0, .int .i64 0, .bool false, .slice none 0 0]).drew).grown hg2 (by simp)
                 have cZ := hz2.cell
                 have fZ := hz2.frozen
                 have HZ2 := Lib.hid hz2
                 have H2 := Lib.hid (ho2.lower (show w.heap.size ≤ _ by simp))
                 clear hS' ho2 hg2 hz2)
              | fail)
          go_wp2_with fail
          refine ret_cell_tmp Try.pktT rfl _ _ _ _ rfl rfl ((((((HZ2.out.set_ 0 _).set_ 1 _).set_ 2 _).set_ 3 _).set_ 4 _).set_ 5 _) rfl rfl ?_
          refine ⟨_, rfl, ?_, ?_⟩
          · unfold IsPktErr
            rw [if_pos HF.out]
            refine ⟨y, A2, n - 12, c2, HY.out, ?_, ?_, by omega⟩
            · rw [rem128 y y0 y1]; rfl
            · have hne := H2.out.blk_ne HZ2.out (by decide)
              have ho := H2.out
              exact ((((((ho.far (p := ⟨w.heap.size, 0, none⟩) hne _).far (p := ⟨w.heap.size, 1, none⟩) hne _).far (p := ⟨w.heap.size, 2, none⟩) hne _).far (p := ⟨w.heap.size, 3, none⟩) hne _).far (p := ⟨w.heap.size, 4, none⟩) hne _).far (p := ⟨w.heap.size, 5, none⟩) hne _).reads
          · repeat (first | (with_reducible exact HG2.out) | (refine gr_setCell ?_ (.inr (by simp)) _))
    · have HF := Lib.hid (show rdFault l = 3 by unfold rdFault; rw [if_pos (.inr (by rw [hz]; simpa using hz0))])
      have hzb : (z != 128) = true := by simpa using hz0
      clear hz hz0
      go_enter Try.func15, Try.ntmps15
      go_wp2_with fail
      refine ret_cell_tmp Try.pktT rfl _ _ _ _ rfl rfl (Blk.new _ _ _) rfl rfl ?_
      exact ⟨_, rfl, by unfold IsPktErr; rw [if_neg (by rw [HF.out]; decide), HF.out]; rfl, gr_alloc (gr_refl _ _) _⟩
end Go.Proofs.Ytdknfhpconfhkaa

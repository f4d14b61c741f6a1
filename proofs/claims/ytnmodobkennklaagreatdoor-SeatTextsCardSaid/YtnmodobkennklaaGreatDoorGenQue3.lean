/- Contract of the generator RightAgents. Conditions: none. -/
import Derived.Test.YtnmodobkennklaaGreatDoorGenQue1
import Derived.Deep.RegionLaw
namespace Go.Proofs.YtnmodobkennklaaGreatDoor
open Go.RowKit

theorem pick_newD (sb : Nat) (m : Int) (l : List Int) (W : World) (hs : Str W sb m) (hm : m ≤ 1152921504606846976) {g n : Nat} {cs : Array Value} (hg : W.heap.size = g) (hcs : cs = (l.map (Value.int .i64)).toArray) (hn : l.length = n) (h0 : 1 ≤ n) (h1 : n ≤ 4611686018427387904) :
    Calls Tryz.prog 10 #[.pointer (some ⟨sb, 0, none⟩), .slice (some ⟨g, 0, none⟩) n n] (W.alloc (.cells cs 3)).drew (Drawn sb (m + 1) (IntOf l) W) := by
  refine Calls.mono (show Calls Tryz.prog 10 #[.pointer (some ⟨sb, 0, none⟩), .slice (some ⟨g, 0, none⟩) n n] (W.alloc (.cells cs 3)).drew (Drawn sb (m + 1) (IntOf l) W.drew) from pick_new sb m l W.drew hs.drew hm hg hcs hn h0 h1) ?_
  rintro e w' ⟨v, rfl, hv, hs', hg'⟩
  exact ⟨v, rfl, hv, hs', gr_same (gr_drew (gr_refl _ _)) hg'⟩
theorem names3 (k : Nat) (hk : k < 3) {w : World} {g : Nat} (h : Blk w g 9 #[.string ⟨#[97, 97]⟩, .string ⟨#[97, 98]⟩, .string ⟨#[97, 99]⟩]) : ∃ s : ByteArray, s.size ≤ 2 ∧ w.cell? ⟨g, k, none⟩ = some (.string s) := by
  rcases (by omega : k = 0 ∨ k = 1 ∨ k = 2) with rfl | rfl | rfl
  · exact ⟨_, by decide, h.cell 0⟩
  · exact ⟨_, by decide, h.cell 1⟩
  · exact ⟨_, by decide, h.cell 2⟩
theorem names2 (k : Nat) (hk : k < 2) {w : World} {g : Nat} (h : Blk w g 9 #[.string ⟨#[104, 101, 108, 112]⟩, .string ⟨#[115, 97, 108, 101]⟩]) : ∃ s : ByteArray, s.size ≤ 4 ∧ w.cell? ⟨g, k, none⟩ = some (.string s) := by
  rcases (by omega : k = 0 ∨ k = 1) with rfl | rfl
  · exact ⟨_, by decide, h.cell 0⟩
  · exact ⟨_, by decide, h.cell 1⟩
theorem AgN.pause {a : AgV} (h : AgN a) {y : Int × Int} (hy : 0 ≤ y.1 ∧ y.1 ≤ y.2 ∧ y.2 ≤ 345686400000) {A : Option Addr} {n c : Nat} : AgN { a with pA := A, pn := n, pc := c, ps := a.ps ++ [y] } := by
  obtain ⟨h1, h2, h3, h4, h5, h6, h7⟩ := h
  refine ⟨h1, h2, h3, h4, h5, fun p hp => ?_, h7⟩
  rcases List.mem_append.1 hp with hp | hp
  · exact h6 p hp
  · rw [List.mem_singleton.1 hp]; exact hy
theorem AgN.skill {a : AgV} (h : AgN a) {y : ByteArray × Int} (hy : 0 ≤ y.2 ∧ y.2 ≤ 9) {A : Option Addr} {n c : Nat} : AgN { a with sA := A, sn := n, sc := c, sk := a.sk ++ [y] } := by
  obtain ⟨h1, h2, h3, h4, h5, h6, h7⟩ := h
  refine ⟨h1, h2, h3, h4, h5, h6, fun p hp => ?_⟩
  rcases List.mem_append.1 hp with hp | hp
  · exact h7 p hp
  · rw [List.mem_singleton.1 hp]; exact hy
def RaRel (w : World) (sb : Nat) (m : Int) (v t : Value) (wr : World) : Prop := ∃ (k : Nat) (A : Option Addr) (n c : Nat) (l : List AgV), k ≤ 3 ∧ t = .int .i64 k ∧ v = .slice A n c ∧ Str wr sb (m + 30 * k) ∧ w.grownBy wr (some sb) ∧
  Blk wr w.heap.size 9 #[.string ⟨#[97, 97]⟩, .string ⟨#[97, 98]⟩, .string ⟨#[97, 99]⟩] ∧ GAgs wr w.heap.size A n c l ∧ n ≤ k ∧ ∀ a ∈ l, a.sn ≤ 2 ∧ a.pn ≤ 2 ∧ AgN a
def RaIn (wo : World) (sb ab : Nat) (m : Int) (t : Value) (wr : World) : Prop := ∃ (j : Nat) (a : AgV), j ≤ 2 ∧ t = .int .i64 j ∧ AgB wo sb ab (m + 2 * j) a wr ∧ Blk wr (ab + 1) 9 #[.string ⟨#[104, 101, 108, 112]⟩, .string ⟨#[115, 97, 108, 101]⟩] ∧ a.sn ≤ j ∧ a.pn ≤ 0 ∧ AgN a
set_option maxHeartbeats 8000000 in
set_option maxRecDepth 100000 in
theorem rightAgents_any (sb : Nat) (m : Int) (w : World) (hs : Str w sb m) (hm : m ≤ 100000000000) : Calls Tryz.prog 17 #[.pointer (some ⟨sb, 0, none⟩)] w (Drawn sb (m + 90) (IsGAgs w.heap.size 3) w) := by
  have hlt := hs.lt
  have HS := Lib.hid hs; clear hs
  go_enter Tryz.func17, Tryz.ntmps17
  go_wp2_with fail
  go_loopw [3, 5, 6, 8, 9, 12] (fun v _ _ _ _ t wr => RaRel w sb m v t wr) (fun _ _ _ _ _ t _ => 3 - (intOf t).toNat)
  case atStart => exact ⟨0, none, 0, 0, [], by omega, rfl, rfl, (HS.out.alloc _).mono (by omega), gr_alloc (gr_refl _ _) _, Blk.new _ _ _, GAgs.nil _ _, by omega, fun a ha => by cases ha⟩
  case round =>
    clear HS
    obtain ⟨k, A, n, c, l, hk, rfl, rfl, hs, hg, hkb, hga, hnk, hlb⟩ := hrel
    have HS := Lib.hid hs; have HG := Lib.hid hg; have HGA := Lib.hid hga; have HKB := Lib.hid hkb; have HLB := Lib.hid hlb
    have zr := hg.size
    have zk := hkb.lt
    clear hs hg hga hkb hlb
    by_cases hlt2 : k < 3
    · obtain ⟨ky, hky, hkc⟩ := names3 k hlt2 HKB.out
      obtain ⟨wo, rfl⟩ : ∃ wo : World, wo = wr := ⟨_, rfl⟩
      go_wp2_with fail
      refine (flip_any sb _ 5 _ HS.out (by omega) (by omega) (by omega)).mono ?_
      rintro e w1 ⟨v1, rfl, ⟨f1, rfl⟩, hs1, hg1⟩
      cases f1
      · have HG1 := Lib.hid hg1; have HS1 := Lib.hid hs1; clear hs1 hg1
        go_wp2_with fail
        refine (pick_new sb _ [0, 0, 0, 20] _ HS1.out (by omega) (by simp) rfl rfl (by simp) (by simp)).mono ?_
        rintro e w2 ⟨v2, rfl, ⟨r2, hr2, rfl⟩, hs2, hg2⟩
        have HG2 := Lib.hid (gr_same HG1.out hg2); have HS2 := Lib.hid hs2; have HR2 := Lib.hid hr2; clear hs2 hg2 hr2
        go_wp2_with fail
        refine (pick_new sb _ [60, 200, 1000] _ HS2.out (by omega) (by simp) rfl rfl (by simp) (by simp)).mono ?_
        rintro e w3 ⟨v3, rfl, ⟨r3, hr3, rfl⟩, hs3, hg3⟩
        have HG3 := Lib.hid (gr_same HG2.out hg3); have HS3 := Lib.hid hs3; have HR3 := Lib.hid hr3; clear hs3 hg3 hr3
        go_wp2_with fail
        refine (pick_new sb _ [0, 0, 5, 10] _ HS3.out (by omega) (by simp) rfl rfl (by simp) (by simp)).mono ?_
        rintro e w4 ⟨v4, rfl, ⟨r4, hr4, rfl⟩, hs4, hg4⟩
        have HG4 := Lib.hid (gr_same HG3.out hg4); have HS4 := Lib.hid hs4; have HR4 := Lib.hid hr4; clear hs4 hg4 hr4
        have z4 := HG4.out.size
        have HAN := Lib.hid (show AgN ⟨ky, none, 0, 0, r2, r3, none, 0, 0, r4, [], []⟩ from by
          have h2 := HR2.out; have h3 := HR3.out; have h4 := HR4.out
          simp only [List.mem_cons, List.not_mem_nil, or_false] at h2 h3 h4
          exact ⟨by dsimp only; omega, by dsimp only; omega, by dsimp only; omega, by dsimp only; omega, by dsimp only; omega, (fun p hp => by cases hp), (fun p hp => by cases hp)⟩)
        clear HR2 HR3 HR4 HG1 HG2 HG3 HS1 HS2 HS3
        have HAB := Lib.hid (show AgB wo sb w4.heap.size (m + 30 * k + 4) ⟨ky, none, 0, 0, r2, r3, none, 0, 0, r4, [], []⟩ ((w4.alloc (.cells #[.string ky, .slice none 0 0, .int .i64 r2, .int .i64 r3, .slice none 0 0, .int .i64 r4] 43)).alloc (.cells #[.string ⟨#[104, 101, 108, 112]⟩, .string ⟨#[115, 97, 108, 101]⟩] 9)) from
          ⟨((HS4.out.alloc _).alloc _).mono (by omega), gr_alloc (gr_alloc HG4.out _) _, by omega, (Blk.new w4 _ _).alloc _, ⟨Nat.le_trans hky (by decide), (fun s hs => by cases hs), Nat.zero_le _, Nat.zero_le _⟩, OwnR.nil _ _ _, OwnR.nil _ _ _⟩)
        have HNB := Lib.hid (blk_new (w4.alloc (.cells #[.string ky, .slice none 0 0, .int .i64 r2, .int .i64 r3, .slice none 0 0, .int .i64 r4] 43)) 9 #[.string ⟨#[104, 101, 108, 112]⟩, .string ⟨#[115, 97, 108, 101]⟩] (g := w4.heap.size + 1) (by simp))
        clear HS4 HG4
        go_wp2_with fail
        go_loopw [8, 32] (fun _ t wr => RaIn wo sb w4.heap.size (m + 30 * k + 4) t wr) (fun _ t _ => 2 - (intOf t).toNat)
        case atStart => exact ⟨0, _, by omega, rfl, by simpa using HAB.out, HNB.out, Nat.zero_le _, Nat.zero_le _, HAN.out⟩
        case round =>
          clear HAB HNB HAN
          obtain ⟨j, a, hj, rfl, hab, hnb, hsn, hpn, han⟩ := hrel
          have HAN := Lib.hid han; clear han
          have HAB := Lib.hid hab; have HNB := Lib.hid hnb
          have zab := hab.2.2.2.1.lt
          have znb := hnb.lt
          have zw := hab.2.1.size
          clear hab hnb
          by_cases hlt3 : j < 2
          · obtain ⟨nm, hnm, hnc⟩ := names2 j hlt3 HNB.out
            go_wp2_with fail
            refine (flip_any sb _ 3 _ HAB.out.1 (by omega) (by omega) (by omega)).mono ?_
            rintro e w5 ⟨v5, rfl, ⟨f5, rfl⟩, hs5, hg5⟩
            replace HAB := Lib.hid (HAB.out.step (by omega) hs5 hg5)
            replace HNB := Lib.hid (HNB.out.grown hg5 (by simp; omega))
            have z5 := hg5.size
            clear hs5 hg5 hnc
            cases f5
            · have cP := HAB.out.2.2.2.1.cell 1
              have zab5 : w4.heap.size < w5.heap.size := by omega
              go_wp2_with fail
              go_region_law (first
                | (refine step_app _ (by rfl) _ _ Tryz.sksT (by rfl) wo.heap.size a.sA a.sn a.sc (a.sk.flatMap skRow) (by rfl) (by exact HO7.out.alloc _) _ _ 1 1 [.string nm, .int .i64 r7] (by rfl) (by exact Reads.one _ _ _ _ rfl) (by simp [Value.oneCell']) (by unfold maxLen; omega) (by omega) (by simp; omega) ?_
                   intro A1 c1 w8 h8
                   have HB8 := Lib.hid ((HB7.out.alloc _).grown h8.2.1 (Ne.symm (HO7.out.blk_ne HB7.out (by decide))))
                   have H8 := Lib.hid h8
                   have c8 := HB8.out.cell 1
                   have f8 := HB8.out.frozen 1
                   clear h8)
                | (go_simp
                   go_at_call 10
                   refine (pick_newD sb _ [1, 1, 2, 5] _ (by exact HAB.out.1) (by omega) rfl rfl rfl (by simp) (by simp)).mono ?_
                   rintro e w7 ⟨v7, rfl, ⟨r7, hr7, rfl⟩, hs7, hg7⟩
                   have hgx : w5.grownBy w7 (some sb) := hg7
                   have HB7 := Lib.hid (HAB.out.2.2.2.1.grown hgx (by simp; omega))
                   have HO7 := Lib.hid (HAB.out.2.2.2.2.low hgx (fun g e => by injection e with e; omega)).2.1.1
                   have z7 := hgx.size
                   have y7 : w4.heap.size < w7.heap.size := by omega
                   have HG7 := Lib.hid hgx
                   have HS7 := Lib.hid hs7
                   have c7 := HB7.out.cell 1
                   have HR7 := Lib.hid hr7
                   clear hs7 hg7 hgx hr7)
                | fail)
              all_goals
                go_wp2_with fail
                go_roundw
                case rel => exact ⟨j + 1, _, by omega, by go_num, (HAB.out.skill (s := (nm, r7)) (by omega) (by dsimp only; omega) rfl (by omega) ((HS7.out.alloc _).mono (by omega)) (gr_alloc HG7.out _) H8.out), HAB.out.blk HNB.out (gr_alloc HG7.out _) (by omega) (by omega) (HO7.out.alloc _) (by decide) H8.out, by dsimp only; omega, hpn, HAN.out.skill (y := (nm, r7)) (by
                have h7 := HR7.out
                simp only [List.mem_cons, List.not_mem_nil, or_false] at h7
                dsimp only
                omega)⟩
                case measure => simp [intOf]; omega
            · go_wp2_with fail
              go_roundw
              case rel => exact ⟨j + 1, a, by omega, by go_num, ⟨HAB.out.1.mono (by omega), HAB.out.2⟩, HNB.out, by omega, hpn, HAN.out⟩
              case measure => simp [intOf]; omega
          · obtain rfl : j = 2 := by omega
            clear HNB
            go_wp2_with fail
            refine (flip_any sb _ 3 _ HAB.out.1 (by omega) (by omega) (by omega)).mono ?_
            rintro e w5 ⟨v5, rfl, ⟨f5, rfl⟩, hs5, hg5⟩
            replace HAB := Lib.hid (HAB.out.step (by omega) hs5 hg5)
            have z5 := hg5.size
            clear hs5 hg5
            cases f5
            · have hpn2 : a.pn ≤ 2 := by omega
              go_wp2_with fail
              refine (flip_any sb _ 6 _ HAB.out.1 (by omega) (by omega) (by omega)).mono ?_
              rintro e w9 ⟨v9, rfl, ⟨f9, rfl⟩, hs9, hg9⟩
              replace HAB := Lib.hid (HAB.out.step (by omega) hs9 hg9)
              clear hs9 hg9
              cases f9
              · go_wp2_with (first
                  | (refine wpl_load_all Tryz.agT rfl _ rfl _ rfl _ _ HAB.out.2.2.2.1 rfl ?_)
                  | (at_builtin
                     refine wpl_app _ rfl _ _ Tryz.agsT rfl w.heap.size A n c _ rfl (by exact (HGA.out.low HAB.out.2.1 (fun g e => by injection e with e; omega)).1.1.alloc _) _ _ 1 1 [.string a.key, .slice a.sA a.sn a.sc, .int .i64 a.fr, .int .i64 a.til, .slice a.pA a.pn a.pc, .int .i64 a.wrap] rfl (by exact reads_at _ _ _ _ rfl (by first | rfl | simp [World.setCell])) (by simp [Value.oneCell']) (by unfold maxLen; omega) (by omega) (by have hq := HAB.out.2.1.size; (try simp at hq); simp; omega) ?_
                     intro A11 c11 w11 h11
                     have H11 := Lib.hid h11; clear h11)
                  | fail)
                go_roundw
                case rel =>
                  have hgo := HAB.out.2.1
                  have zx := hgo.size; (try simp at zx)
                  have hax : w.grownBy _ (some sb) := gr_same HG.out hgo
                  have hGA := (HGA.out.low hgo (fun g e => by injection e with e; omega)).low (gr_alloc (gr_refl _ none) (.cells #[.string a.key, .slice a.sA a.sn a.sc, .int .i64 a.fr, .int .i64 a.til, .slice a.pA a.pn a.pc, .int .i64 a.wrap] 43)) (fun g e => by cases e)
                  have hAO := HAB.out.2.2.2.2.low (gr_alloc (gr_refl _ none) (.cells #[.string a.key, .slice a.sA a.sn a.sc, .int .i64 a.fr, .int .i64 a.til, .slice a.pA a.pn a.pc, .int .i64 a.wrap] 43)) (fun g e => by cases e)
                  refine ⟨k + 1, A11, n + 1, c11, l ++ [a], by omega, by go_num, rfl, (((HAB.out.1.alloc _).grown H11.out.2.1 (fun g e => by have := (HGA.out.1.1.lt e).1; omega)).mono (by omega)), H11.out.gr (gr_alloc hax _) hGA.1.1 (Nat.le_refl _), ((HKB.out.grown hgo (by simp; omega)).alloc _).grown H11.out.2.1 (Ne.symm (hGA.1.1.blk_ne ((HKB.out.grown hgo (by simp; omega)).alloc _) (by decide))), ?_, by omega, ?_⟩
                  · exact hGA.app hAO zr (fun b hb => ⟨fun g e => ((HGA.out.2.1 b hb).2.1.1.lt e).2, fun g e => ((HGA.out.2.1 b hb).2.2.1.lt e).2⟩) rfl H11.out
                  · intro b hb
                    rcases List.mem_append.1 hb with hb | hb
                    · exact HLB.out b hb
                    · rw [List.mem_singleton.1 hb]; exact ⟨hsn, ⟨(show a.pn ≤ 2 by omega), HAN.out⟩⟩
                case measure => simp [intOf]; omega
              · have kp := HAB.out.2.2.2.1.cell 4
                have zab := HAB.out.2.2.2.1.lt
                go_wp2_with (first
                  | (at_builtin
                     refine wpl_app _ rfl _ _ Tryz.winsT rfl wo.heap.size a.pA a.pn a.pc (a.ps.flatMap pwRow) rfl (by exact HAB.out.2.2.2.2.2.2.1.alloc _) _ _ 1 1 [.int .i64 60, .int .i64 90] rfl (by exact Reads.one _ _ _ _ rfl) (by simp [Value.oneCell']) (by unfold maxLen; omega) (by omega) (by have := HAB.out.2.1.size; simp; omega) ?_
                     intro A10 c10 w10 h10
                     have hb10 := (HAB.out.2.2.2.1.alloc (.cells #[.int .i64 60, .int .i64 90] 33)).grown h10.2.1 (Ne.symm (HAB.out.2.2.2.2.2.2.1.blk_ne HAB.out.2.2.2.1 (by decide)))
                     have c10c := hb10.cell 4
                     have c10f := hb10.frozen 4
                     have z10 := h10.2.1.size; simp at z10
                     have HAB0 := HAB
                     replace HAB := Lib.hid (HAB.out.pause (s := (60, 90)) (by omega) rfl (by omega) (HAB.out.1.alloc _) (gr_alloc (gr_refl _ _) _) h10)
                     clear h10 hb10)
                  | (refine wpl_load_all Tryz.agT rfl _ rfl _ rfl _ _ HAB.out.2.2.2.1 rfl ?_)
                  | (at_builtin
                     refine wpl_app _ rfl _ _ Tryz.agsT rfl w.heap.size A n c _ rfl (by exact (HGA.out.low HAB.out.2.1 (fun g e => by injection e with e; omega)).1.1.alloc _) _ _ 1 1 [.string a.key, .slice a.sA a.sn a.sc, .int .i64 a.fr, .int .i64 a.til, .slice A10 (a.pn + 1) c10, .int .i64 a.wrap] rfl (by exact reads_at _ _ _ _ rfl (by first | rfl | simp [World.setCell])) (by simp [Value.oneCell']) (by unfold maxLen; omega) (by omega) (by have hq := HAB.out.2.1.size; (try simp at hq); simp; omega) ?_
                     intro A11 c11 w11 h11
                     have H11 := Lib.hid h11; clear h11)
                  | fail)
                go_roundw
                case rel =>
                  have hgo := HAB.out.2.1
                  have zx := hgo.size; (try simp at zx)
                  have hax : w.grownBy _ (some sb) := gr_same HG.out hgo
                  have hGA := (HGA.out.low hgo (fun g e => by injection e with e; omega)).low (gr_alloc (gr_refl _ none) (.cells #[.string a.key, .slice a.sA a.sn a.sc, .int .i64 a.fr, .int .i64 a.til, .slice A10 (a.pn + 1) c10, .int .i64 a.wrap] 43)) (fun g e => by cases e)
                  have hAO := HAB.out.2.2.2.2.low (gr_alloc (gr_refl _ none) (.cells #[.string a.key, .slice a.sA a.sn a.sc, .int .i64 a.fr, .int .i64 a.til, .slice A10 (a.pn + 1) c10, .int .i64 a.wrap] 43)) (fun g e => by cases e)
                  refine ⟨k + 1, A11, n + 1, c11, l ++ [{ a with pA := A10, pn := a.pn + 1, pc := c10, ps := a.ps ++ [(60, 90)] }], by omega, by go_num, rfl, (((HAB.out.1.alloc _).grown H11.out.2.1 (fun g e => by have := (HGA.out.1.1.lt e).1; omega)).mono (by omega)), H11.out.gr (gr_alloc hax _) hGA.1.1 (Nat.le_refl _), ((HKB.out.grown hgo (by simp; omega)).alloc _).grown H11.out.2.1 (Ne.symm (hGA.1.1.blk_ne ((HKB.out.grown hgo (by simp; omega)).alloc _) (by decide))), ?_, by omega, ?_⟩
                  · exact hGA.app hAO zr (fun b hb => ⟨fun g e => ((HGA.out.2.1 b hb).2.1.1.lt e).2, fun g e => ((HGA.out.2.1 b hb).2.2.1.lt e).2⟩) rfl H11.out
                  · intro b hb
                    rcases List.mem_append.1 hb with hb | hb
                    · exact HLB.out b hb
                    · rw [List.mem_singleton.1 hb]; exact ⟨hsn, ⟨(show a.pn + 1 ≤ 2 by omega), HAN.out.pause (y := (60, 90)) (by decide)⟩⟩
                case measure => simp [intOf]; omega
            · go_wp2_with fail
              refine (pick_new sb _ [0, 10, 30] _ HAB.out.1 (by omega) (by simp) rfl rfl (by simp) (by simp)).mono ?_
              rintro e w6 ⟨v6, rfl, ⟨r6, hr6, rfl⟩, hs6, hg6⟩
              replace HAB := Lib.hid (HAB.out.step (by omega) hs6 hg6)
              have z6 := hg6.size
              have HR6 := Lib.hid hr6
              clear hs6 hg6 hr6
              have cP := HAB.out.2.2.2.1.cell 4
              have zab6 := HAB.out.2.2.2.1.lt
              go_wp2_with fail
              go_region_law (first
                | (refine step_app _ (by rfl) _ _ Tryz.winsT (by rfl) wo.heap.size a.pA a.pn a.pc (a.ps.flatMap pwRow) (by rfl) (by exact HO7.out.alloc _) _ _ 1 1 [.int .i64 r6, .int .i64 _] (by rfl) (by exact Reads.one _ _ _ _ rfl) (by simp [Value.oneCell']) (by unfold maxLen; omega) (by omega) (by simp; omega) ?_
                   intro A1 c1 w8 h8
                   have HB8 := Lib.hid ((HB7.out.alloc _).grown h8.2.1 (Ne.symm (HO7.out.blk_ne HB7.out (by decide))))
                   have H8 := Lib.hid h8
                   have c8 := HB8.out.cell 4
                   have f8 := HB8.out.frozen 4
                   clear h8)
                | (go_simp
                   go_at_call 10
                   refine (pick_newD sb _ [5, 20] _ (by exact HAB.out.1) (by omega) rfl rfl rfl (by simp) (by simp)).mono ?_
                   rintro e w7 ⟨v7, rfl, ⟨r7, hr7, rfl⟩, hs7, hg7⟩
                   have hgx : w6.grownBy w7 (some sb) := hg7
                   have HB7 := Lib.hid (HAB.out.2.2.2.1.grown hgx (by simp; omega))
                   have HO7 := Lib.hid (HAB.out.2.2.2.2.low hgx (fun g e => by injection e with e; omega)).2.2.1
                   have z7 := hgx.size
                   have y7 : w4.heap.size < w7.heap.size := by omega
                   have HG7 := Lib.hid hgx
                   have HS7 := Lib.hid hs7
                   have c7 := HB7.out.cell 4
                   have HR7 := Lib.hid hr7
                   clear hs7 hg7 hgx hr7)
                | fail)
              all_goals
                obtain ⟨y, hyn, hyab⟩ : ∃ y : Int × Int, (0 ≤ y.1 ∧ y.1 ≤ y.2 ∧ y.2 ≤ 345686400000) ∧ AgB wo sb w4.heap.size (m + 30 * k + 4 + 2 * (2 : Nat) + 3) { a with pA := A1, pn := a.pn + 1, pc := c1, ps := a.ps ++ [y] } (w8.setCell ⟨w4.heap.size, 4, none⟩ (.slice A1 (a.pn + 1) c1)) := ⟨_, (by
                  have h6 := HR6.out; have h7 := HR7.out
                  simp only [List.mem_cons, List.not_mem_nil, or_false] at h6 h7
                  have hw : IntKind.i64.wrap (r6 + r7) = r6 + r7 := IntWalk.i64_in _ (by omega)
                  rw [hw]
                  dsimp only
                  omega), HAB.out.pause (s := (r6, IntKind.i64.wrap (r6 + r7))) (by omega) rfl (by omega) ((HS7.out.alloc _).mono (by omega)) (gr_alloc HG7.out _) H8.out⟩
                replace HAB := Lib.hid hyab
                replace HAN := Lib.hid (show AgN { a with pA := A1, pn := a.pn + 1, pc := c1, ps := a.ps ++ [y] } from AgN.pause HAN.out hyn)
                clear hyab hyn
                obtain ⟨a, ha⟩ : ∃ a2 : AgV, { a with pA := A1, pn := a.pn + 1, pc := c1, ps := a.ps ++ [y] } = a2 := ⟨_, rfl⟩
                rw [ha] at HAB HAN
                have hsn : a.sn ≤ 2 := by rw [← ha]; exact hsn
                have hpn2 : a.pn ≤ 1 := by rw [← ha]; dsimp only; omega
                clear ha
                go_wp2_with fail
                refine (flip_any sb _ 6 _ HAB.out.1 (by omega) (by omega) (by omega)).mono ?_
                rintro e w9 ⟨v9, rfl, ⟨f9, rfl⟩, hs9, hg9⟩
                replace HAB := Lib.hid (HAB.out.step (by omega) hs9 hg9)
                clear hs9 hg9
                cases f9
                · go_wp2_with (first
                    | (refine wpl_load_all Tryz.agT rfl _ rfl _ rfl _ _ HAB.out.2.2.2.1 rfl ?_)
                    | (at_builtin
                       refine wpl_app _ rfl _ _ Tryz.agsT rfl w.heap.size A n c _ rfl (by exact (HGA.out.low HAB.out.2.1 (fun g e => by injection e with e; omega)).1.1.alloc _) _ _ 1 1 [.string a.key, .slice a.sA a.sn a.sc, .int .i64 a.fr, .int .i64 a.til, .slice a.pA a.pn a.pc, .int .i64 a.wrap] rfl (by exact reads_at _ _ _ _ rfl (by first | rfl | simp [World.setCell])) (by simp [Value.oneCell']) (by unfold maxLen; omega) (by omega) (by have hq := HAB.out.2.1.size; (try simp at hq); simp; omega) ?_
                       intro A11 c11 w11 h11
                       have H11 := Lib.hid h11; clear h11)
                    | fail)
                  go_roundw
                  case rel =>
                    have hgo := HAB.out.2.1
                    have zx := hgo.size; (try simp at zx)
                    have hax : w.grownBy _ (some sb) := gr_same HG.out hgo
                    have hGA := (HGA.out.low hgo (fun g e => by injection e with e; omega)).low (gr_alloc (gr_refl _ none) (.cells #[.string a.key, .slice a.sA a.sn a.sc, .int .i64 a.fr, .int .i64 a.til, .slice a.pA a.pn a.pc, .int .i64 a.wrap] 43)) (fun g e => by cases e)
                    have hAO := HAB.out.2.2.2.2.low (gr_alloc (gr_refl _ none) (.cells #[.string a.key, .slice a.sA a.sn a.sc, .int .i64 a.fr, .int .i64 a.til, .slice a.pA a.pn a.pc, .int .i64 a.wrap] 43)) (fun g e => by cases e)
                    refine ⟨k + 1, A11, n + 1, c11, l ++ [a], by omega, by go_num, rfl, (((HAB.out.1.alloc _).grown H11.out.2.1 (fun g e => by have := (HGA.out.1.1.lt e).1; omega)).mono (by omega)), H11.out.gr (gr_alloc hax _) hGA.1.1 (Nat.le_refl _), ((HKB.out.grown hgo (by simp; omega)).alloc _).grown H11.out.2.1 (Ne.symm (hGA.1.1.blk_ne ((HKB.out.grown hgo (by simp; omega)).alloc _) (by decide))), ?_, by omega, ?_⟩
                    · exact hGA.app hAO zr (fun b hb => ⟨fun g e => ((HGA.out.2.1 b hb).2.1.1.lt e).2, fun g e => ((HGA.out.2.1 b hb).2.2.1.lt e).2⟩) rfl H11.out
                    · intro b hb
                      rcases List.mem_append.1 hb with hb | hb
                      · exact HLB.out b hb
                      · rw [List.mem_singleton.1 hb]; exact ⟨hsn, ⟨(show a.pn ≤ 2 by omega), HAN.out⟩⟩
                  case measure => simp [intOf]; omega
                · have kp := HAB.out.2.2.2.1.cell 4
                  have zab := HAB.out.2.2.2.1.lt
                  go_wp2_with (first
                    | (at_builtin
                       refine wpl_app _ rfl _ _ Tryz.winsT rfl wo.heap.size a.pA a.pn a.pc (a.ps.flatMap pwRow) rfl (by exact HAB.out.2.2.2.2.2.2.1.alloc _) _ _ 1 1 [.int .i64 60, .int .i64 90] rfl (by exact Reads.one _ _ _ _ rfl) (by simp [Value.oneCell']) (by unfold maxLen; omega) (by omega) (by have := HAB.out.2.1.size; simp; omega) ?_
                       intro A10 c10 w10 h10
                       have hb10 := (HAB.out.2.2.2.1.alloc (.cells #[.int .i64 60, .int .i64 90] 33)).grown h10.2.1 (Ne.symm (HAB.out.2.2.2.2.2.2.1.blk_ne HAB.out.2.2.2.1 (by decide)))
                       have c10c := hb10.cell 4
                       have c10f := hb10.frozen 4
                       have z10 := h10.2.1.size; simp at z10
                       have HAB0 := HAB
                       replace HAB := Lib.hid (HAB.out.pause (s := (60, 90)) (by omega) rfl (by omega) (HAB.out.1.alloc _) (gr_alloc (gr_refl _ _) _) h10)
                       clear h10 hb10)
                    | (refine wpl_load_all Tryz.agT rfl _ rfl _ rfl _ _ HAB.out.2.2.2.1 rfl ?_)
                    | (at_builtin
                       refine wpl_app _ rfl _ _ Tryz.agsT rfl w.heap.size A n c _ rfl (by exact (HGA.out.low HAB.out.2.1 (fun g e => by injection e with e; omega)).1.1.alloc _) _ _ 1 1 [.string a.key, .slice a.sA a.sn a.sc, .int .i64 a.fr, .int .i64 a.til, .slice A10 (a.pn + 1) c10, .int .i64 a.wrap] rfl (by exact reads_at _ _ _ _ rfl (by first | rfl | simp [World.setCell])) (by simp [Value.oneCell']) (by unfold maxLen; omega) (by omega) (by have hq := HAB.out.2.1.size; (try simp at hq); simp; omega) ?_
                       intro A11 c11 w11 h11
                       have H11 := Lib.hid h11; clear h11)
                    | fail)
                  go_roundw
                  case rel =>
                    have hgo := HAB.out.2.1
                    have zx := hgo.size; (try simp at zx)
                    have hax : w.grownBy _ (some sb) := gr_same HG.out hgo
                    have hGA := (HGA.out.low hgo (fun g e => by injection e with e; omega)).low (gr_alloc (gr_refl _ none) (.cells #[.string a.key, .slice a.sA a.sn a.sc, .int .i64 a.fr, .int .i64 a.til, .slice A10 (a.pn + 1) c10, .int .i64 a.wrap] 43)) (fun g e => by cases e)
                    have hAO := HAB.out.2.2.2.2.low (gr_alloc (gr_refl _ none) (.cells #[.string a.key, .slice a.sA a.sn a.sc, .int .i64 a.fr, .int .i64 a.til, .slice A10 (a.pn + 1) c10, .int .i64 a.wrap] 43)) (fun g e => by cases e)
                    refine ⟨k + 1, A11, n + 1, c11, l ++ [{ a with pA := A10, pn := a.pn + 1, pc := c10, ps := a.ps ++ [(60, 90)] }], by omega, by go_num, rfl, (((HAB.out.1.alloc _).grown H11.out.2.1 (fun g e => by have := (HGA.out.1.1.lt e).1; omega)).mono (by omega)), H11.out.gr (gr_alloc hax _) hGA.1.1 (Nat.le_refl _), ((HKB.out.grown hgo (by simp; omega)).alloc _).grown H11.out.2.1 (Ne.symm (hGA.1.1.blk_ne ((HKB.out.grown hgo (by simp; omega)).alloc _) (by decide))), ?_, by omega, ?_⟩
                    · exact hGA.app hAO zr (fun b hb => ⟨fun g e => ((HGA.out.2.1 b hb).2.1.1.lt e).2, fun g e => ((HGA.out.2.1 b hb).2.2.1.lt e).2⟩) rfl H11.out
                    · intro b hb
                      rcases List.mem_append.1 hb with hb | hb
                      · exact HLB.out b hb
                      · rw [List.mem_singleton.1 hb]; exact ⟨hsn, ⟨(show a.pn + 1 ≤ 2 by omega), HAN.out.pause (y := (60, 90)) (by decide)⟩⟩
                  case measure => simp [intOf]; omega
      · replace HGA := Lib.hid (HGA.out.low hg1 (fun g e => by injection e with e; omega))
        replace HKB := Lib.hid (HKB.out.grown hg1 (by simp; omega))
        replace HG := Lib.hid (gr_same HG.out hg1); clear hg1
        replace HS := Lib.hid hs1; clear hs1
        go_wp2_with fail
        go_roundw
        case rel => exact ⟨k + 1, A, n, c, l, by omega, by go_num, rfl, HS.out.mono (by omega), HG.out, HKB.out, HGA.out, by omega, HLB.out⟩
        case measure => simp [intOf]; omega
    · obtain rfl : k = 3 := by omega
      go_wp2_with fail
      go_ret
      exact ⟨_, rfl, ⟨A, n, c, l, rfl, HGA.out, hnk, HLB.out⟩, HS.out.mono (by omega), HG.out⟩
end Go.Proofs.YtnmodobkennklaaGreatDoor

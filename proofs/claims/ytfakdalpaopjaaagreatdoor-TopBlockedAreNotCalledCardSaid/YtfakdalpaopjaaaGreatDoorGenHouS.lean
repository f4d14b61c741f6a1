/- RightHours gives right hours, with the keys ha and hb. Conditions: none. -/
import Derived.Test.YtfakdalpaopjaaaGreatDoorGenHouR
namespace Go.Proofs.YtfakdalpaopjaaaGreatDoor
open Go.RowKit

def hkN : Nat → ByteArray
  | 0 => ⟨#[104, 97]⟩
  | _ => ⟨#[104, 98]⟩
theorem hkN_ok (k : Nat) : keyOk (nb (hkN k)) = true := by
  match k with
  | 0 => decide +kernel
  | k + 1 => show keyOk (nb ⟨#[104, 98]⟩) = true; decide +kernel
theorem names2s (k : Nat) (hk : k < 2) {w : World} {g : Nat} (h : Blk w g 9 #[.string ⟨#[104, 97]⟩, .string ⟨#[104, 98]⟩]) : ∃ s : ByteArray, s.size ≤ 2 ∧ s = hkN k ∧ w.cell? ⟨g, k, none⟩ = some (.string s) := by
  rcases (by omega : k = 0 ∨ k = 1) with rfl | rfl
  · exact ⟨_, by decide, rfl, h.cell 0⟩
  · exact ⟨_, by decide, rfl, h.cell 1⟩
/-- Hours that are right, two of them, with the keys ha and hb. -/
def IsGHrS (lo most : Nat) (v : Value) (w : World) : Prop := ∃ (A : Option Addr) (c : Nat) (l : List HrV), v = .slice A most c ∧ GHrs w lo A most c l ∧ (∀ a ∈ l, a.rn ≤ 2 ∧ a.hn ≤ 3) ∧ (∀ a ∈ l, HrR a) ∧ l.map (·.key) = (List.range 2).map hkN
theorem HrR.at_ {a : HrV} (h : HrR a) (h1 : a.rn ≤ 2) (h2 : a.hn ≤ 3) : hrE a = 0 := by
  have hrw : fstE (rwAt a.rows) a.rn = 0 := fstE_nil _ fun i _ => by
    cases hr : a.rows[i]? with
    | none => unfold rwAt; rw [hr]; rfl
    | some z => exact rwAt_0 hr (h.2.2.1 z (List.mem_of_getElem? hr))
  have hho : fstE (hoAt a.hol) a.hn = 0 := fstE_nil _ fun i _ => h.2.2.2.1 i
  unfold hrE htE
  rw [if_neg (by omega), if_pos hrw, if_neg (by omega)]
  exact hho
theorem hrs_two {l : List HrV} (h1 : ∀ a ∈ l, a.rn ≤ 2 ∧ a.hn ≤ 3) (h2 : ∀ a ∈ l, HrR a) (h3 : l.map (·.key) = (List.range 2).map hkN) : hrsE l = 0 := by
  have hl : l.length = 2 := by have := congrArg List.length h3; simpa using this
  match l, hl, h1, h2, h3 with
  | [a, b], _, h1, h2, h3 =>
    have h3' : [a.key, b.key] = [hkN 0, hkN 1] := h3
    injection h3' with ka h4
    injection h4 with kb _
    have ea : hrE a = 0 := (h2 a (by simp)).at_ (h1 a (by simp)).1 (h1 a (by simp)).2
    have eb : hrE b = 0 := (h2 b (by simp)).at_ (h1 b (by simp)).1 (h1 b (by simp)).2
    unfold hrsE
    rw [if_neg (by simp)]
    refine fstE_nil _ fun i hi => ?_
    rcases (by simp at hi; omega : i = 0 ∨ i = 1) with rfl | rfl
    · rw [hrAt_z (z := a) rfl (by rw [ka]; exact hkN_ok 0) (by omega), (h2 a (by simp)).2.1, ea]; rfl
    · rw [hrAt_e (z := b) (b := a) rfl (by rw [kb]; exact hkN_ok 1) rfl (by rw [ka, kb]; decide +kernel), (h2 b (by simp)).2.1, eb]; rfl
/-- As the plans' hrsOk. -/
def hrsOk0 (hs : List HrV) (k : ByteArray) : Bool := decide (nb k = []) || hs.any (fun h => nb h.key == nb k)
theorem hrs_ha {l : List HrV} (h3 : l.map (·.key) = (List.range 2).map hkN) {k : ByteArray} (hk : nb k = [] ∨ k = ⟨#[104, 97]⟩) : hrsOk0 l k = true := by
  unfold hrsOk0
  rcases hk with hk | rfl
  · rw [hk]; rfl
  · have hl : l.length = 2 := by have := congrArg List.length h3; simpa using this
    match l, hl, h3 with
    | [a, b], _, h3 =>
      have h3' : [a.key, b.key] = [hkN 0, hkN 1] := h3
      injection h3' with ka h4
      simp only [List.any_cons]
      rw [ka]
      have e : (nb (hkN 0) == nb ⟨#[104, 97]⟩) = true := by decide +kernel
      rw [e]; simp
def RrRelS (w : World) (sb : Nat) (m : Int) (v t : Value) (wr : World) : Prop := ∃ (k : Nat) (A : Option Addr) (c : Nat) (l : List HrV), k ≤ 2 ∧ t = .int .i64 k ∧ v = .slice A k c ∧ Str wr sb (m + 60 * k) ∧ w.grownBy wr (some sb) ∧
  Blk wr w.heap.size 9 #[.string ⟨#[104, 97]⟩, .string ⟨#[104, 98]⟩] ∧ GHrs wr w.heap.size A k c l ∧ (∀ a ∈ l, a.rn ≤ 2 ∧ a.hn ≤ 3) ∧ (∀ a ∈ l, HrR a) ∧ l.map (·.key) = (List.range k).map hkN
def RrIn1S (ky : ByteArray) (wo : World) (sb ab N : Nat) (m : Int) (t : Value) (wr : World) : Prop := ∃ (j : Nat) (a : HrV), j ≤ N ∧ t = .int .i64 j ∧ HrB wo sb ab (m + 10 * j) a wr ∧ a.rn ≤ j ∧ a.hn ≤ 0 ∧ (a.key = ky ∧ inB a.zone (-1440) 1440 = true ∧ RwR a.rows ∧ a.hol = [])
def RrIn2S (ky : ByteArray) (wo : World) (sb ab db : Nat) (m : Int) (t : Value) (wr : World) : Prop := ∃ (j : Nat) (a : HrV), j ≤ 3 ∧ t = .int .i64 j ∧ HrB wo sb ab (m + 4 * j) a wr ∧ Blk wr db 3 #[.int .i64 0, .int .i64 2, .int .i64 3] ∧ a.rn ≤ 2 ∧ a.hn ≤ j ∧ (a.key = ky ∧ inB a.zone (-1440) 1440 = true ∧ RwR a.rows ∧ HoR a.hol (dyB j))
set_option maxHeartbeats 8000000 in
set_option maxRecDepth 100000 in
theorem rightHoursS_ok (sb : Nat) (m : Int) (w : World) (hs : Str w sb m) (hm : m ≤ 100000000000) : Calls Tryz.prog 31 #[.pointer (some ⟨sb, 0, none⟩)] w (Drawn sb (m + 120) (IsGHrS w.heap.size 2) w) := by
  have hlt := hs.lt
  have HS := Lib.hid hs; clear hs
  go_enter Tryz.func31, Tryz.ntmps31
  go_wp2_with fail
  go_loopw [3, 5, 6, 7, 9, 10, 13] (fun v _ _ _ _ _ t wr => RrRelS w sb m v t wr) (fun _ _ _ _ _ _ t _ => 2 - (intOf t).toNat)
  case atStart => exact ⟨0, none, 0, [], by omega, rfl, rfl, (HS.out.alloc _).mono (by omega), gr_alloc (gr_refl _ _) _, Blk.new _ _ _, GHrs.nil _ _, (fun a ha => by cases ha), (fun a ha => by cases ha), rfl⟩
  case round =>
    clear HS
    obtain ⟨k, A, c, l, hk, rfl, rfl, hs, hg, hkb, hga, hlb, hrr, hks⟩ := hrel
    have HRR := Lib.hid hrr; have HKS := Lib.hid hks; clear hrr hks
    have HS := Lib.hid hs; have HG := Lib.hid hg; have HGA := Lib.hid hga; have HKB := Lib.hid hkb; have HLB := Lib.hid hlb
    have zr := hg.size
    have zk := hkb.lt
    clear hs hg hga hkb hlb
    by_cases hlt2 : k < 2
    · obtain ⟨ky, hky, hkk0, hkc⟩ := names2s k hlt2 HKB.out
      have HKK := Lib.hid hkk0; clear hkk0
      obtain ⟨wo, rfl⟩ : ∃ wo : World, wo = wr := ⟨_, rfl⟩
      go_wp2_with fail
      refine (pick_new sb _ [0, 0, 60, -90, 1440] _ HS.out (by omega) (by simp) rfl rfl (by simp) (by simp)).mono ?_
      rintro e w4 ⟨v4, rfl, ⟨r4, hr4, rfl⟩, hs4, hg4⟩
      have HG4 := Lib.hid hg4; have HS4 := Lib.hid hs4
      have z4 := hg4.size
      have HZZ := Lib.hid (zone_ok r4 hr4)
      clear hs4 hg4 hr4 hkc
      have HAB := Lib.hid (show HrB wo sb w4.heap.size (m + 60 * k + 1) ⟨ky, r4, none, 0, 0, none, 0, 0, [], []⟩ (w4.alloc (.cells #[.string ky, .int .i64 r4, .slice none 0 0, .slice none 0 0] 154)) from
        ⟨(HS4.out.alloc _).mono (by omega), gr_alloc HG4.out _, by omega, Blk.new w4 _ _, ⟨Nat.le_trans hky (by decide), Nat.zero_le _, Nat.zero_le _⟩, OwnR.nil _ _ _, OwnR.nil _ _ _⟩)
      clear HS4 HG4
      go_wp2_with fail
      refine (range_any sb _ 0 2 _ HAB.out.1 (by omega) (by omega) (by omega) (by omega)).mono ?_
      rintro e w5 ⟨v5, rfl, ⟨r5, hlo5, hhi5, rfl⟩, hs5, hg5⟩
      replace HAB := Lib.hid (HAB.out.step (by omega) hs5 hg5)
      have z5 := hg5.size; simp at z5
      clear hs5 hg5
      obtain ⟨N, rfl⟩ : ∃ N : Nat, r5 = N := ⟨r5.toNat, by omega⟩
      have hN : N ≤ 2 := by omega
      go_wp2_with fail
      go_loopw [7, 24] (fun _ t wr => RrIn1S (hkN k) wo sb w4.heap.size N (m + 60 * k + 2) t wr) (fun _ t _ => N - (intOf t).toNat)
      case atStart => exact ⟨0, _, Nat.zero_le _, rfl, ⟨HAB.out.1.mono (by omega), HAB.out.2⟩, Nat.zero_le _, Nat.zero_le _, HKK.out, HZZ.out, (fun r hr => by cases hr), rfl⟩
      case round =>
        clear HAB z5
        obtain ⟨j, a, hj, rfl, hab, hrn, hhn, hq⟩ := hrel
        have HQ := Lib.hid hq; clear hq
        have HAB := Lib.hid hab
        have zab := hab.2.2.2.1.lt
        have zw := hab.2.1.size
        clear hab
        by_cases hlt3 : j < N
        · have d1 : decide ((j : Int) < (N : Int)) = true := decide_eq_true (by omega)
          have d1' : decide (j < N) = true := decide_eq_true hlt3
          go_wp2_with fail
          refine (pick_new sb _ [0, 60, 540, 720] _ HAB.out.1 (by omega) (by simp) rfl rfl (by simp) (by simp)).mono ?_
          rintro e w6 ⟨v6, rfl, ⟨r6, hr6, rfl⟩, hs6, hg6⟩
          replace HAB := Lib.hid (HAB.out.step (by omega) hs6 hg6)
          have z6 := hg6.size
          have HR6 := Lib.hid hr6
          clear hs6 hg6 hr6
          have kt := HAB.out.2.2.2.1.cell 2
          have zab6 : w4.heap.size < w6.heap.size := by omega
          go_wp2_with fail
          refine wp_region_E (fun w' => w'.cell? ⟨w4.heap.size, 2, none⟩ = some (.slice a.rA a.rn a.rc)) (by kernel_rfl) ?_
          have hHeld : w6.drew.cell? ⟨w4.heap.size, 2, none⟩ = some (.slice a.rA a.rn a.rc) := kt
          refine E_take (k := 0) (v := ?_) (by rfl) (by kernel_rfl) (by exact fun _ _ _ h => h) (by rfl) ?_ (by assumption) ?_
          rotate_left 1
          · intro w hSw
            (try dsimp only at hSw)
            go_simp
            (try with_reducible rfl)
          (try simp only [Act.put, List.setIfInBounds_toArray, List.set_cons_zero, List.set_cons_succ])
          refine E_take (k := 1) (v := ?_) (by rfl) (by kernel_rfl) (by exact fun _ _ _ h => h) (by rfl) ?_ (by assumption) ?_
          rotate_left 1
          · intro w hSw
            (try dsimp only at hSw)
            go_simp
            (try with_reducible rfl)
          (try simp only [Act.put, List.setIfInBounds_toArray, List.set_cons_zero, List.set_cons_succ])
          refine E_take (k := 2) (v := ?_) (by rfl) (by kernel_rfl) (by exact fun _ _ _ h => h) (by rfl) ?_ (by assumption) ?_
          rotate_left 1
          · intro w hSw
            (try dsimp only at hSw)
            go_simp
            (try with_reducible rfl)
          (try simp only [Act.put, List.setIfInBounds_toArray, List.set_cons_zero, List.set_cons_succ])
          refine E_take (k := 5) (v := ?_) (by rfl) (by kernel_rfl) (by exact fun _ _ _ h => h) (by rfl) ?_ (by assumption) ?_
          rotate_left 1
          · intro w hSw
            (try dsimp only at hSw)
            go_simp
            (try with_reducible rfl)
          (try simp only [Act.put, List.setIfInBounds_toArray, List.set_cons_zero, List.set_cons_succ])
          refine E_take (k := 6) (v := ?_) (by rfl) (by kernel_rfl) (by exact fun _ _ _ h => h) (by rfl) ?_ (by assumption) ?_
          rotate_left 1
          · intro w hSw
            (try dsimp only at hSw)
            go_simp
            (try with_reducible rfl)
          (try simp only [Act.put, List.setIfInBounds_toArray, List.set_cons_zero, List.set_cons_succ])
          refine E_take (k := 7) (v := ?_) (by rfl) (by kernel_rfl) (by exact fun _ _ _ h => h) (by rfl) ?_ (by assumption) ?_
          rotate_left 1
          · intro w hSw
            (try dsimp only at hSw)
            go_simp
            (try with_reducible rfl)
          (try simp only [Act.put, List.setIfInBounds_toArray, List.set_cons_zero, List.set_cons_succ])
          refine wpAnyE_calls (phase := [3, 4, 8, 9]) (T := 10) (fuel := 6) (n0 := 4) (fun k => k + 29) (RSpec (spRR sb)) (sb := sb) (m := m + 60 * k + 2 + 10 * j + 1) (by kernel_rfl) (by decide) ?hsz rfl HAB.out.1.drew ?hdst (fun k v w w' h hg => spRR_grown h hg) ?hS ?hlaw ?hend
          case hsz => intro k hk; simp only [List.mem_cons, List.not_mem_nil, or_false] at hk; rcases hk with rfl | rfl | rfl | rfl <;> simp
          case hdst => intro k hk; simp only [List.mem_cons, List.not_mem_nil, or_false] at hk; rcases hk with rfl | rfl | rfl | rfl <;> exact ⟨_, rfl, rfl, rfl⟩
          case hS => intro w' hg; exact (HAB.out.2.2.2.1.grown (gr_same (gr_drew (gr_refl _ _)) hg) (by simp; omega)).cell 2
          case hlaw =>
            intro q o a' w' m' K hq ho hsame hdeps hs hm' hg hK
            have h0 := hs.lt
            have hf : ∀ j, (∀ i ∈ [3, 4, 8, 9], i + 29 ≠ j) → a'.tmps[j]? = _ := fun j hj => hsame j hj
            simp only [List.mem_cons, List.not_mem_nil, or_false] at hq
            rcases hq with rfl | rfl | rfl | rfl
            · obtain rfl := Option.some.inj ho
              go_simp
              exact hK _ _ ⟨_, rfl, hs.lt, Blk.new _ _ _⟩ ((hs.alloc _).mono (by omega)) (gr_alloc (gr_refl _ _) _)
            · have e31 := hf 31 (by decide)
              obtain rfl := Option.some.inj ho
              obtain ⟨gq, hv, hgs, hbq⟩ : SlOf sb _ _ _ _ _ := hdeps ⟨3, .data⟩ (by simp) rfl (by simp)
              rw [Array.getD_eq_getD_getElem?] at hv
              go_simp
              refine (pick_any sb m' gq 6 [127, 31, 1, 64, 32, 5] w' hs (by omega) (by exact hbq) (by omega) rfl (by omega) (by omega)).mono ?_
              rintro e wq ⟨vq, rfl, ⟨rq, hrq, rfl⟩, hsq, hgq⟩
              exact hK _ wq ⟨rq, hrq, rfl⟩ (hsq.mono (by omega)) hgq
            · obtain rfl := Option.some.inj ho
              go_simp
              exact hK _ _ ⟨_, rfl, hs.lt, Blk.new _ _ _⟩ ((hs.alloc _).mono (by omega)) (gr_alloc (gr_refl _ _) _)
            · have e36 := hf 36 (by decide)
              obtain rfl := Option.some.inj ho
              obtain ⟨gq, hv, hgs, hbq⟩ : SlOf sb _ _ _ _ _ := hdeps ⟨8, .data⟩ (by simp) rfl (by simp)
              rw [Array.getD_eq_getD_getElem?] at hv
              go_simp
              refine (pick_any sb m' gq 4 [1, 60, 300, 720] w' hs (by omega) (by exact hbq) (by omega) rfl (by omega) (by omega)).mono ?_
              rintro e wq ⟨vq, rfl, ⟨rq, hrq, rfl⟩, hsq, hgq⟩
              exact hK _ wq ⟨rq, hrq, rfl⟩ (hsq.mono (by omega)) hgq
          case hend =>
            intro vs w7 hR hs7 hg7
            obtain ⟨y1, hm1, hy1⟩ : IntOf [127, 31, 1, 64, 32, 5] (vs 4) w7 := hR 4 (by simp)
            have HM1 := Lib.hid hm1; clear hm1
            obtain ⟨y2, hm2, hy2⟩ : IntOf [1, 60, 300, 720] (vs 9) w7 := hR 9 (by simp)
            have HM2 := Lib.hid hm2; clear hm2
            clear hR hHeld
            have hgx : w6.grownBy w7 (some sb) := gr_same (gr_drew (gr_refl _ _)) hg7
            have HB7 := Lib.hid (HAB.out.2.2.2.1.grown hgx (by simp; omega))
            have HO7 := Lib.hid (HAB.out.2.2.2.2.low hgx (fun g e => by injection e with e; omega)).2.1.1
            have HG7 := Lib.hid hgx
            have HS7 := Lib.hid hs7
            have z7 := hgx.size
            have zab7 : w4.heap.size < w7.heap.size := by omega
            have hHeld := HB7.out.cell 2
            clear hs7 hg7 hgx kt
            simp only [putAll, List.foldl_cons, List.foldl_nil, Act.put, Nat.reduceAdd, List.setIfInBounds_toArray, List.set_cons_zero, List.set_cons_succ, hy1, hy2]
            clear hy1 hy2
            obtain ⟨y3, hy3⟩ : ∃ y3, IntKind.i64.wrap (r6 + y2) = y3 := ⟨_, rfl⟩
            have HROW := Lib.hid (row_ok HM1.out HR6.out HM2.out hy3)
            refine E_take (k := 10) (v := ?_) (by rfl) (by kernel_rfl) (by exact fun _ _ _ h => h) (by rfl) ?_ (by assumption) ?_
            rotate_left 1
            · intro w hSw
              (try dsimp only at hSw)
              go_simp
              (try with_reducible rfl)
            (try simp only [Act.put, List.setIfInBounds_toArray, List.set_cons_zero, List.set_cons_succ])
            refine E_take (k := 11) (v := ?_) (by rfl) (by kernel_rfl) (by exact fun _ _ _ h => h) (by rfl) ?_ (by assumption) ?_
            rotate_left 1
            · intro w hSw
              (try dsimp only at hSw)
              go_simp
              (try with_reducible rfl)
            (try simp only [Act.put, List.setIfInBounds_toArray, List.set_cons_zero, List.set_cons_succ])
            refine E_run (k := 12) (by rfl) (by kernel_rfl) (by rfl) (fun K hK => ?_)
            go_simp
            refine hK _ _ (.inr (by go_keep)) ?_
            clear hK K hHeld
            have hHeld := (HB7.out.alloc (.cells #[.int .i64 y1, .int .i64 r6, .int .i64 y3] 156)).cell 2
            refine E_run (k := 13) (by rfl) (by kernel_rfl) (by rfl) (fun K hK => ?_)
            refine wp_app _ _ _ Tryz.rwsT (by rfl) wo.heap.size a.rA a.rn a.rc (a.rows.flatMap r3Row) (by rfl) (by exact HO7.out.alloc _) _ _ 1 1 [.int .i64 y1, .int .i64 r6, .int .i64 y3] (by rfl) (by exact Reads.one _ _ _ _ rfl) (by simp [Value.oneCell']) (by unfold maxLen; omega) (by omega) (by simp; omega) ?_
            intro A1 c1 w8 h8
            have hb8 := (HB7.out.alloc (.cells #[.int .i64 y1, .int .i64 r6, .int .i64 y3] 156)).grown h8.2.1 (Ne.symm (HO7.out.blk_ne HB7.out (by decide)))
            have c8 := hb8.cell 2
            have f8 := hb8.frozen 2
            have H8 := Lib.hid h8
            clear h8 hb8
            refine hK _ _ (.inr c8) ?_
            clear hK K hHeld
            have hHeld := c8
            refine E_take (k := 14) (v := ?_) (by rfl) (by kernel_rfl) (by exact fun _ _ _ h => h) (by rfl) ?_ (by assumption) ?_
            rotate_left 1
            · intro w hSw
              (try dsimp only at hSw)
              go_simp
              (try with_reducible rfl)
            (try simp only [Act.put, List.setIfInBounds_toArray, List.set_cons_zero, List.set_cons_succ])
            refine E_run (k := 15) (by rfl) (by kernel_rfl) (by rfl) (fun K hK => ?_)
            go_simp
            refine hK _ _ (.inl (by rfl)) ?_
            clear hK K hHeld
            refine E_done (by kernel_rfl) ?_
            go_wp2_with fail
            go_roundw
            case rel => exact ⟨j + 1, _, by omega, by go_num, (HAB.out.row1 (s := (y1, r6, y3)) (by omega) rfl (by omega) ((HS7.out.alloc _).mono (by omega)) (gr_alloc HG7.out _) H8.out), by dsimp only; omega, hhn, HQ.out.1, HQ.out.2.1, HQ.out.2.2.1.app HROW.out, HQ.out.2.2.2⟩
            case measure => simp [intOf]; omega
        · obtain rfl : j = N := by omega
          have d1 : decide ((j : Int) < (j : Int)) = false := decide_eq_false (by omega)
          obtain ⟨wp, rfl⟩ : ∃ wp : World, wp = wr := ⟨_, rfl⟩
          have HAB0 := Lib.hid (HAB.out.step (by omega) (HAB.out.1.alloc (.cells #[.int .i64 0, .int .i64 2, .int .i64 3] 3)) (gr_alloc (gr_refl _ _) _))
          have HNB0 := Lib.hid (Blk.new wp 3 #[.int .i64 0, .int .i64 2, .int .i64 3])
          have hdb : wp.heap.size ≠ sb ∧ wp.heap.size ≠ w4.heap.size := ⟨by omega, by omega⟩
          clear HAB
          go_wp2_with fail
          go_loopw [9, 10, 47] (fun _ _ t wr => RrIn2S (hkN k) wo sb w4.heap.size wp.heap.size (m + 60 * k + 22) t wr) (fun _ _ t _ => 3 - (intOf t).toNat)
          case atStart => exact ⟨0, a, by omega, rfl, ⟨HAB0.out.1.mono (by omega), HAB0.out.2⟩, HNB0.out, by omega, by omega, HQ.out.1, HQ.out.2.1, HQ.out.2.2.1, by rw [HQ.out.2.2.2]; exact HoR.nil _⟩
          case round =>
            clear HAB0 HNB0 hrn hhn
            clear HQ
            obtain ⟨i, a, hi, rfl, hab, hnb, hrn, hhn, hq2⟩ := hrel
            obtain ⟨q, rfl⟩ : ∃ q, q = j := ⟨_, rfl⟩
            clear d1
            obtain ⟨j, rfl⟩ : ∃ j, j = i := ⟨_, rfl⟩
            have HQ := Lib.hid hq2; clear hq2
            have HAB := Lib.hid hab; have HNB := Lib.hid hnb
            have zab := hab.2.2.2.1.lt
            have znb := hnb.lt
            have zw := hab.2.1.size
            clear hab hnb
            by_cases hlt3 : j < 3
            · obtain ⟨dy, hdy, hdc⟩ := days3r j hlt3 HNB.out
              have HDY := Lib.hid hdy; clear hdy
              go_wp2_with fail
              refine (flip_any sb _ 3 _ HAB.out.1 (by omega) (by omega) (by omega)).mono ?_
              rintro e w5 ⟨v5, rfl, ⟨f5, rfl⟩, hs5, hg5⟩
              replace HAB := Lib.hid (HAB.out.step (by omega) hs5 hg5)
              replace HNB := Lib.hid (HNB.out.grown hg5 (by simp; omega))
              have z5 := hg5.size
              clear hs5 hg5 hdc
              cases f5
              · go_wp2_with fail
                go_roundw
                case rel => exact ⟨j + 1, a, by omega, by go_num, ⟨HAB.out.1.mono (by omega), HAB.out.2⟩, HNB.out, hrn, by omega, HQ.out.1, HQ.out.2.1, HQ.out.2.2.1, HQ.out.2.2.2.mono (Int.le_of_lt (dyB_lt hlt3))⟩
                case measure => simp [intOf]; omega
              · go_wp2_with fail
                have HNE := Lib.hid (show blkOf a.hA ≠ some w5.heap.size from fun e => by have := (HAB.out.2.2.2.2.2.2.1.lt e).2; omega)
                have HXB0 := Lib.hid (Blk.new w5 158 #[.int .i64 dy, .int .i64 0, .int .i64 0])
                replace HAB := Lib.hid (HAB.out.step (by omega) (HAB.out.1.alloc (.cells #[.int .i64 dy, .int .i64 0, .int .i64 0] 158)) (gr_alloc (gr_refl _ _) _))
                replace HNB := Lib.hid (HNB.out.alloc (.cells #[.int .i64 dy, .int .i64 0, .int .i64 0] 158))
                refine (flip_any sb _ 2 _ HAB.out.1 (by omega) (by omega) (by omega)).mono ?_
                rintro e w6 ⟨v6, rfl, ⟨f6, rfl⟩, hs6, hg6⟩
                replace HAB := Lib.hid (HAB.out.step (by omega) hs6 hg6)
                replace HNB := Lib.hid (HNB.out.grown hg6 (by simp; omega))
                have HXB := Lib.hid (HXB0.out.grown hg6 (by simp; omega))
                have z6 := hg6.size; simp at z6
                clear hs6 hg6 HXB0
                cases f6
                · have kp := HAB.out.2.2.2.1.cell 3
                  have zab := HAB.out.2.2.2.1.lt
                  have zgw := HAB.out.2.1.size
                  have znb := HNB.out.lt
                  go_wp2_with (first
                    | (refine wpl_load_all Tryz.hoT rfl _ rfl _ rfl _ _ HXB.out rfl ?_)
                    | (at_builtin
                       refine wpl_app _ rfl _ _ Tryz.hosT rfl wo.heap.size a.hA a.hn a.hc (a.hol.flatMap r3Row) rfl (by exact HAB.out.2.2.2.2.2.2.1.alloc _) _ _ 1 1 [.int .i64 dy, .int .i64 0, .int .i64 0] rfl (by exact Reads.one _ _ _ _ rfl) (by simp [Value.oneCell']) (by unfold maxLen; omega) (by omega) (by simp; omega) ?_
                       intro A10 c10 w10 h10
                       have hb10 := (HAB.out.2.2.2.1.alloc (.cells #[.int .i64 dy, .int .i64 0, .int .i64 0] 158)).grown h10.2.1 (Ne.symm (HAB.out.2.2.2.2.2.2.1.blk_ne HAB.out.2.2.2.1 (by decide)))
                       have c10c := hb10.cell 3
                       have c10f := hb10.frozen 3
                       have z10 := h10.2.1.size; simp at z10
                       have H10 := Lib.hid h10
                       clear h10 hb10)
                    | fail)
                  go_roundw
                  case rel => exact ⟨j + 1, _, by omega, by go_num, (HAB.out.hol1 (s := (dy, 0, 0)) (by omega) rfl (by omega) ((HAB.out.1.alloc _).mono (by omega)) (gr_alloc (gr_refl _ _) _) H10.out), HAB.out.blk HNB.out (gr_alloc (gr_refl _ _) _) hdb.1 hdb.2 (HAB.out.2.2.2.2.2.2.1.alloc _) (by decide) H10.out, hrn, by dsimp only; omega, HQ.out.1, HQ.out.2.1, HQ.out.2.2.1, HQ.out.2.2.2.app (by rw [HDY.out]; exact ho_zero j) HDY.out (dyB_lt hlt3)⟩
                  case measure => simp [intOf]; omega
                · go_wp2_with fail
                  refine (pick_new sb _ [0, 540] _ HAB.out.1 (by omega) (by simp) rfl rfl (by simp) (by simp)).mono ?_
                  rintro e w7 ⟨v7, rfl, ⟨r7, hr7, rfl⟩, hs7, hg7⟩
                  replace HAB := Lib.hid (HAB.out.step (by omega) hs7 hg7)
                  replace HNB := Lib.hid (HNB.out.grown hg7 (by simp; omega))
                  replace HXB := Lib.hid (HXB.out.grown hg7 (by simp; omega))
                  have z7 := hg7.size
                  have HR7 := Lib.hid hr7
                  clear hs7 hg7 hr7
                  go_wp2_with fail
                  refine (pick_new sb _ [600, 1440] _ HAB.out.1 (by omega) (by simp) rfl rfl (by simp) (by simp)).mono ?_
                  rintro e w8 ⟨v8, rfl, ⟨r8, hr8, rfl⟩, hs8, hg8⟩
                  replace HAB := Lib.hid (HAB.out.step (by omega) hs8 hg8)
                  replace HNB := Lib.hid (HNB.out.grown hg8 (by simp; omega))
                  replace HXB := Lib.hid (HXB.out.grown hg8 (by simp; omega))
                  have z8 := hg8.size
                  have HR8 := Lib.hid hr8
                  clear hs8 hg8 hr8
                  have x1 := HXB.out.cell 1
                  have x2 := HXB.out.cell 2
                  have x1f := HXB.out.frozen 1
                  have x2f := HXB.out.frozen 2
                  have zx := HXB.out.lt
                  obtain ⟨w9, hw9⟩ : ∃ w9, (w8.setCell ⟨w5.heap.size, 1, none⟩ (.int .i64 r7)).setCell ⟨w5.heap.size, 2, none⟩ (.int .i64 r8) = w9 := ⟨_, rfl⟩
                  have HW9 := Lib.hid hw9
                  have hgy : w8.grownBy w9 (some w5.heap.size) := by rw [← hw9]; exact gr_setCell (p := ⟨w5.heap.size, 2, none⟩) (gr_setCell (p := ⟨w5.heap.size, 1, none⟩) (gr_refl _ _) (.inl rfl) _) (.inl rfl) _
                  have hgz : wo.grownBy w9 (some sb) := by rw [← hw9]; exact gr_setCell (gr_setCell HAB.out.2.1 (.inr (by simp; omega)) _) (.inr (by simp; omega)) _
                  have HXB9 := Lib.hid (show Blk w9 w5.heap.size 158 #[.int .i64 dy, .int .i64 r7, .int .i64 r8] by rw [← hw9]; exact (HXB.out.set_ 1 (.int .i64 r7)).set_ 2 (.int .i64 r8))
                  have HAB9 := Lib.hid (show HrB wo sb w4.heap.size (m + 60 * k + 22 + 4 * j + 4) a w9 from
                    ⟨by rw [← hw9]; exact ((HAB.out.1.setCell (by simp; omega) _).setCell (by simp; omega) _).mono (by omega), hgz, HAB.out.2.2.1, HAB.out.2.2.2.1.grown hgy (by simp; omega),
                      HAB.out.2.2.2.2.kept hgy (fun g e => by injection e with e; subst e; exact HAB.out.2.2.2.2.2.1.1.blk_ne HXB.out (by decide)) (fun g e => by injection e with e; subst e; exact HNE.out)⟩)
                  have HNB9 := Lib.hid (HNB.out.grown hgy (by simp; omega))
                  have z9 := hgy.size
                  clear hw9 hgy hgz
                  clear HXB HNB HAB
                  go_upto_region 18 with (fail)
                  rw [HW9.out]
                  clear x1 x2 x1f x2f HW9
                  have kp := HAB9.out.2.2.2.1.cell 3
                  have zab := HAB9.out.2.2.2.1.lt
                  have zgw := HAB9.out.2.1.size
                  have znb := HNB9.out.lt
                  go_wp2_with (first
                    | (refine wpl_load_all Tryz.hoT rfl _ rfl _ rfl _ _ HXB9.out rfl ?_)
                    | (at_builtin
                       refine wpl_app _ rfl _ _ Tryz.hosT rfl wo.heap.size a.hA a.hn a.hc (a.hol.flatMap r3Row) rfl (by exact HAB9.out.2.2.2.2.2.2.1.alloc _) _ _ 1 1 [.int .i64 dy, .int .i64 r7, .int .i64 r8] rfl (by exact Reads.one _ _ _ _ rfl) (by simp [Value.oneCell']) (by unfold maxLen; omega) (by omega) (by simp; omega) ?_
                       intro A10 c10 w10 h10
                       have hb10 := (HAB9.out.2.2.2.1.alloc (.cells #[.int .i64 dy, .int .i64 r7, .int .i64 r8] 158)).grown h10.2.1 (Ne.symm (HAB9.out.2.2.2.2.2.2.1.blk_ne HAB9.out.2.2.2.1 (by decide)))
                       have c10c := hb10.cell 3
                       have c10f := hb10.frozen 3
                       have z10 := h10.2.1.size; simp at z10
                       have H10 := Lib.hid h10
                       clear h10 hb10)
                    | fail)
                  go_roundw
                  case rel => exact ⟨j + 1, _, by omega, by go_num, (HAB9.out.hol1 (s := (dy, r7, r8)) (by omega) rfl (by omega) ((HAB9.out.1.alloc _).mono (by omega)) (gr_alloc (gr_refl _ _) _) H10.out), HAB9.out.blk HNB9.out (gr_alloc (gr_refl _ _) _) hdb.1 hdb.2 (HAB9.out.2.2.2.2.2.2.1.alloc _) (by decide) H10.out, hrn, by dsimp only; omega, HQ.out.1, HQ.out.2.1, HQ.out.2.2.1, HQ.out.2.2.2.app (by rw [HDY.out]; exact ho_some HR7.out HR8.out) HDY.out (dyB_lt hlt3)⟩
                  case measure => simp [intOf]; omega
            · obtain rfl : j = 3 := by omega
              clear HNB hdb
              have hrn2 : a.rn ≤ 2 := hrn
              have hhn3 : a.hn ≤ 3 := hhn
              go_wp2_with (first
                | (refine wpl_load_all Tryz.hrT rfl _ rfl _ rfl _ _ HAB.out.2.2.2.1 rfl ?_)
                | (at_builtin
                   refine wpl_app _ rfl _ _ Tryz.hrsT rfl w.heap.size A k c _ rfl (by exact (HGA.out.low HAB.out.2.1 (fun g e => by injection e with e; omega)).1.1.alloc _) _ _ 1 1 [.string a.key, .int .i64 a.zone, .slice a.rA a.rn a.rc, .slice a.hA a.hn a.hc] rfl (by exact reads_at _ _ _ _ rfl (by first | rfl | simp [World.setCell])) (by simp [Value.oneCell']) (by unfold maxLen; omega) (by omega) (by have hq := HAB.out.2.1.size; (try simp at hq); simp; omega) ?_
                   intro A11 c11 w11 h11
                   have H11 := Lib.hid h11; clear h11)
                | fail)
              go_roundw
              case rel =>
                have hgo := HAB.out.2.1
                have zx := hgo.size; (try simp at zx)
                have hax : w.grownBy _ (some sb) := gr_same HG.out hgo
                have hGA := (HGA.out.low hgo (fun g e => by injection e with e; omega)).low (gr_alloc (gr_refl _ none) (.cells #[.string a.key, .int .i64 a.zone, .slice a.rA a.rn a.rc, .slice a.hA a.hn a.hc] 154)) (fun g e => by cases e)
                have hAO := HAB.out.2.2.2.2.low (gr_alloc (gr_refl _ none) (.cells #[.string a.key, .int .i64 a.zone, .slice a.rA a.rn a.rc, .slice a.hA a.hn a.hc] 154)) (fun g e => by cases e)
                refine ⟨k + 1, A11, c11, l ++ [a], by omega, by go_num, rfl, (((HAB.out.1.alloc _).grown H11.out.2.1 (fun g e => by have := (HGA.out.1.1.lt e).1; omega)).mono (by omega)), H11.out.gr (gr_alloc hax _) hGA.1.1 (Nat.le_refl _), ((HKB.out.grown hgo (by simp; omega)).alloc _).grown H11.out.2.1 (Ne.symm (hGA.1.1.blk_ne ((HKB.out.grown hgo (by simp; omega)).alloc _) (by decide))), ?_, ?_, ?_, ?_⟩
                · exact hGA.app hAO zr (fun b hb => ⟨fun g e => ((HGA.out.2.1 b hb).2.1.1.lt e).2, fun g e => ((HGA.out.2.1 b hb).2.2.1.lt e).2⟩) rfl H11.out
                · intro b hb
                  rcases List.mem_append.1 hb with hb | hb
                  · exact HLB.out b hb
                  · rw [List.mem_singleton.1 hb]; exact ⟨hrn2, hhn3⟩
                · intro b hb
                  rcases List.mem_append.1 hb with hb | hb
                  · exact HRR.out b hb
                  · rw [List.mem_singleton.1 hb]; exact ⟨by rw [HQ.out.1]; exact hkN_ok k, HQ.out.2⟩
                · rw [List.map_append, HKS.out, List.range_succ, List.map_append, List.map_singleton, List.map_singleton, HQ.out.1]
              case measure => simp [intOf]; omega
    · obtain rfl : k = 2 := by omega
      go_wp2_with fail
      go_ret
      exact ⟨_, rfl, ⟨A, c, l, rfl, HGA.out, HLB.out, HRR.out, HKS.out⟩, HS.out.mono (by omega), HG.out⟩
end Go.Proofs.YtfakdalpaopjaaaGreatDoor

/- RightPlan(0) gives a right plan without rules. Conditions: none. -/
import Derived.Test.YtfakdalpaopjaaaGreatDoorGenPl2
import Derived.Test.YtfakdalpaopjaaaGreatDoorGenHouS
namespace Go.Proofs.YtfakdalpaopjaaaGreatDoor
open Go.RowKit

def ckN : Nat → ByteArray
  | 0 => ⟨#[99, 97]⟩
  | 1 => ⟨#[99, 98]⟩
  | _ => ⟨#[99, 99]⟩
theorem names3cR (k : Nat) (hk : k < 3) {w : World} {g : Nat} (h : Blk w g 9 #[.string ⟨#[99, 97]⟩, .string ⟨#[99, 98]⟩, .string ⟨#[99, 99]⟩]) : ∃ s : ByteArray, s = ckN k ∧ s.size ≤ 2 ∧ w.cell? ⟨g, k, none⟩ = some (.string s) := by
  rcases (by omega : k = 0 ∨ k = 1 ∨ k = 2) with rfl | rfl | rfl
  · exact ⟨_, rfl, by decide, h.cell 0⟩
  · exact ⟨_, rfl, by decide, h.cell 1⟩
  · exact ⟨_, rfl, by decide, h.cell 2⟩
/-- A context with nothing in it. -/
def CxZ (a : CxV) : Prop := a.rn = 0 ∧ a.rules = [] ∧ a.en = 0 ∧ a.incs = []
def QI0 (l : List ByteArray) : Prop := l = [] ∨ l = [⟨#[99, 98]⟩] ∨ l = [⟨#[99, 99]⟩, ⟨#[99, 98]⟩] ∨ l = [⟨#[99, 98]⟩, ⟨#[99, 99]⟩]
def QI1 (l : List ByteArray) : Prop := l = [] ∨ l = [⟨#[99, 99]⟩]
/-- A plan of three contexts without rules. -/
def PlanR (l : List CxV) : Prop := ∃ a b c : CxV, l = [a, b, c] ∧ (a.key = ckN 0 ∧ b.key = ckN 1 ∧ c.key = ckN 2) ∧ (a.rn = 0 ∧ a.rules = []) ∧ (b.rn = 0 ∧ b.rules = []) ∧ (c.rn = 0 ∧ c.rules = []) ∧ QI0 a.incs ∧ QI1 b.incs ∧ c.incs = []
theorem plan_two {l : List CxV} {a0 a1 : CxV} {iA0 iA1 : Option Addr} {en0 ic0 en1 ic1 : Nat} {ins0 ins1 : List ByteArray} (hk : l.map (·.key) = (List.range 3).map ckN) (hz : ∀ a ∈ l, CxZ a) (h0 : l[0]? = some a0)
    (h1 : (l.set 0 { a0 with iA := iA0, en := en0, ic := ic0, incs := ins0 })[1]? = some a1) (q0 : QI0 ins0) (q1 : QI1 ins1) :
    PlanR ((l.set 0 { a0 with iA := iA0, en := en0, ic := ic0, incs := ins0 }).set 1 { a1 with iA := iA1, en := en1, ic := ic1, incs := ins1 }) := by
  have hl : l.length = 3 := by have := congrArg List.length hk; simpa using this
  match l, hl, hk, hz, h0, h1 with
  | [x, y, z], _, hk, hz, h0, h1 =>
    have hk' : [x.key, y.key, z.key] = [ckN 0, ckN 1, ckN 2] := hk
    injection hk' with k0 hk'
    injection hk' with k1 hk'
    injection hk' with k2 _
    obtain rfl : x = a0 := by simpa using h0
    obtain rfl : y = a1 := by simpa using h1
    have hx := hz x (by simp); have hy := hz y (by simp); have hzz := hz z (by simp)
    exact ⟨_, _, _, rfl, ⟨k0, k1, k2⟩, ⟨hx.1, hx.2.1⟩, ⟨hy.1, hy.2.1⟩, ⟨hzz.1, hzz.2.1⟩, q0, q1, hzz.2.2.2⟩
def IsGPlR (lo : Nat) (v : Value) (w : World) : Prop := ∃ (A B : Option Addr) (c d : Nat) (l : List CxV) (hs : List HrV), v = .agg #[.slice A 3 c, .slice B 2 d] ∧ GCx w lo A 3 c l ∧ GHrs w lo B 2 d hs ∧ (∀ a ∈ l, a.rn ≤ 0 ∧ a.en ≤ 2) ∧ hrsE hs = 0 ∧ hs.map (·.key) = (List.range 2).map hkN ∧ PlanR l
def InSQ (Q : List ByteArray → Prop) (lo k : Nat) (v : Value) (w : World) : Prop := ∃ g ins, v = .slice (some ⟨g, 0, none⟩) k k ∧ OwnR srow 1 w lo 9 (some ⟨g, 0, none⟩) k k ins ∧ ((∀ s ∈ ins, s.size ≤ 1000) ∧ Q ins)
theorem InSQ.grown {Q : List ByteArray → Prop} {sb lo k : Nat} (hsb : sb < lo) {v : Value} {w w' : World} (h : InSQ Q lo k v w) (hg : w.grownBy w' (some sb)) : InSQ Q lo k v w' := by
  obtain ⟨g, ins, h1, h2, h3⟩ := h
  exact ⟨g, ins, h1, h2.low hg (fun g e => by injection e with e; omega), h3⟩
theorem InSQ.new (w : World) {lo : Nat} (hlo : lo ≤ w.heap.size) {k : Nat} (l : List ByteArray) (hk : l.length = k) (hm : k ≤ 1000) (hl : ∀ s ∈ l, s.size ≤ 1000) : InSQ (· = l) lo k (.slice (some ⟨w.heap.size, 0, none⟩) k k) (w.alloc (.cells (l.flatMap srow).toArray 9)) := by
  subst hk
  have hs : l.length = (l.flatMap srow).length := by rw [flat_len (row := srow) (k := 1) (fun _ => rfl)]; omega
  have h := (Own.lit w 9 1 (l.flatMap srow) l.length (by unfold maxLen; omega) (by omega)).lower hlo
  exact ⟨_, l, rfl, ⟨h, rfl⟩, hl, rfl⟩
/-- One of a list of lists of includes. -/
def InCQ (Q : List ByteArray → Prop) (w : World) (lo : Nat) (v : Value) : Prop := ∃ (iA : Option Addr) (en ic : Nat) (ins : List ByteArray), v = .slice iA en ic ∧ OwnR srow 1 w lo 9 iA en ic ins ∧ ((∀ s ∈ ins, s.size ≤ 1000) ∧ Q ins) ∧ en ≤ 2
theorem InCQ.nil {Q : List ByteArray → Prop} (hq : Q []) (w : World) (lo : Nat) : InCQ Q w lo (.slice none 0 0) := ⟨none, 0, 0, [], rfl, OwnR.nil _ _ _, ⟨(fun s hs => by cases hs), hq⟩, by omega⟩
theorem InCQ.ofL {L : List ByteArray} {Q2 : List ByteArray → Prop} (hq : Q2 L) {w : World} {lo k : Nat} {v : Value} (h : InSQ (· = L) lo k v w) (hk : k ≤ 2) : InCQ Q2 w lo v := by
  obtain ⟨g, ins, h1, h2, h3⟩ := h
  exact ⟨_, k, k, ins, h1, h2, ⟨h3.1, by rw [show ins = L from h3.2]; exact hq⟩, hk⟩
theorem InCQ.low {Q : List ByteArray → Prop} {w w' : World} {lo : Nat} {v : Value} (h : InCQ Q w lo v) {r : Option Nat} (hg : w.grownBy w' r) (hr : ∀ g, r = some g → g < lo) : InCQ Q w' lo v := by
  obtain ⟨iA, en, ic, ins, h1, h2, h3, h4⟩ := h
  exact ⟨iA, en, ic, ins, h1, h2.low hg hr, h3, h4⟩
def InLQ (Q : List ByteArray → Prop) (lo k : Nat) (v : Value) (w : World) : Prop := ∃ g cs, v = .slice (some ⟨g, 0, none⟩) k k ∧ lo ≤ g ∧ Blk w g 27 cs ∧ ∀ r : Nat, r < k → ∃ x, cs[r]? = some x ∧ InCQ Q w lo x
theorem InLQ.grown {Q : List ByteArray → Prop} {sb lo k : Nat} (hsb : sb < lo) {v : Value} {w w' : World} (h : InLQ Q lo k v w) (hg : w.grownBy w' (some sb)) : InLQ Q lo k v w' := by
  obtain ⟨g, cs, h1, h0, h2, h3⟩ := h
  refine ⟨g, cs, h1, h0, h2.grown hg (by simp; omega), fun r hr => ?_⟩
  obtain ⟨x, hx, hc⟩ := h3 r hr
  exact ⟨x, hx, hc.low hg (fun g e => by injection e with e; omega)⟩
/-- A place in a list of lists. -/
def InPtQ (Q : List ByteArray → Prop) (lo : Nat) (v : Value) (w : World) : Prop := ∃ g cs r x, v = .pointer (some ⟨g, r, none⟩) ∧ lo ≤ g ∧ Blk w g 27 cs ∧ cs[r]? = some x ∧ InCQ Q w lo x
theorem InPtQ.grown {Q : List ByteArray → Prop} {sb lo : Nat} (hsb : sb < lo) {v : Value} {w w' : World} (h : InPtQ Q lo v w) (hg : w.grownBy w' (some sb)) : InPtQ Q lo v w' := by
  obtain ⟨g, cs, r, x, h1, h0, h2, h3, h4⟩ := h
  exact ⟨g, cs, r, x, h1, h0, h2.grown hg (by simp; omega), h3, h4.low hg (fun g e => by injection e with e; omega)⟩
def InCVQ (Q : List ByteArray → Prop) (lo : Nat) (v : Value) (w : World) : Prop := InCQ Q w lo v
def spR14 (g lo : Nat) : List (Nat × (Value → World → Prop)) := [(2, InSQ (· = [⟨#[99, 98]⟩]) lo 1), (3, InSQ (· = [⟨#[99, 99]⟩, ⟨#[99, 98]⟩]) lo 2), (4, InSQ (· = [⟨#[99, 98]⟩, ⟨#[99, 99]⟩]) lo 2), (5, InLQ QI0 lo 4), (7, NatV 4), (8, InPtQ QI0 lo), (9, InCVQ QI0 lo), (10, PtV g 0), (11, PtV g 2)]
def spR15 (g lo : Nat) : List (Nat × (Value → World → Prop)) := [(2, InSQ (· = [⟨#[99, 99]⟩]) lo 1), (3, InLQ QI1 lo 2), (5, NatV 2), (6, InPtQ QI1 lo), (7, InCVQ QI1 lo), (8, PtV g 3), (9, PtV g 5)]
theorem spR14_grown {sb g lo k : Nat} (hsb : sb < lo) {v : Value} {w w' : World} (h : RSpec (spR14 g lo) k v w) (hg : w.grownBy w' (some sb)) : RSpec (spR14 g lo) k v w' := by
  refine RSpec.grown (fun p hp v w w' h1 hg => ?_) h hg
  simp only [spR14, List.mem_cons, List.not_mem_nil, or_false] at hp
  rcases hp with rfl | rfl | rfl | rfl | rfl | rfl | rfl | rfl | rfl
  all_goals first | exact InSQ.grown hsb h1 hg | exact InLQ.grown hsb h1 hg | exact InPtQ.grown hsb h1 hg | exact InCQ.low h1 hg (fun g e => by injection e with e; omega) | exact h1
theorem spR15_grown {sb g lo k : Nat} (hsb : sb < lo) {v : Value} {w w' : World} (h : RSpec (spR15 g lo) k v w) (hg : w.grownBy w' (some sb)) : RSpec (spR15 g lo) k v w' := by
  refine RSpec.grown (fun p hp v w w' h1 hg => ?_) h hg
  simp only [spR15, List.mem_cons, List.not_mem_nil, or_false] at hp
  rcases hp with rfl | rfl | rfl | rfl | rfl | rfl | rfl
  all_goals first | exact InSQ.grown hsb h1 hg | exact InLQ.grown hsb h1 hg | exact InPtQ.grown hsb h1 hg | exact InCQ.low h1 hg (fun g e => by injection e with e; omega) | exact h1
def RpRelR (w1 : World) (sb most : Nat) (B : Option Addr) (d : Nat) (m : Int) (t : Value) (wr : World) : Prop := ∃ (k : Nat) (A : Option Addr) (c : Nat) (l : List CxV), k ≤ 3 ∧ t = .int .i64 k ∧ Str wr sb (m + 2200 * k) ∧ w1.grownBy wr (some sb) ∧
  Blk wr w1.heap.size 48 #[.slice A k c, .slice B 2 d] ∧ Blk wr (w1.heap.size + 1) 9 #[.string ⟨#[99, 97]⟩, .string ⟨#[99, 98]⟩, .string ⟨#[99, 99]⟩] ∧ GCx wr (w1.heap.size + 2) A k c l ∧ (∀ a ∈ l, a.rn ≤ most ∧ a.en ≤ 2) ∧ (∀ a ∈ l, CxZ a) ∧ l.map (·.key) = (List.range k).map ckN
def RpInR (ky : ByteArray) (wo : World) (sb N : Nat) (m : Int) (t : Value) (wr : World) : Prop := ∃ (j : Nat) (a : CxV), j ≤ N ∧ t = .int .i64 j ∧ CxB wo sb wo.heap.size (m + 20 * j) a wr ∧ a.rn ≤ j ∧ a.en ≤ 0 ∧ (a.key = ky ∧ (j = 0 → CxZ a))
set_option maxHeartbeats 8000000 in
set_option maxRecDepth 100000 in
theorem rightPlanR_any (sb : Nat) (m : Int) (w : World) (hs : Str w sb m) (hm : m ≤ 90000000000) : Calls Tryz.prog 11 #[.pointer (some ⟨sb, 0, none⟩), .int .i64 0] w (Drawn sb (m + 7000) (IsGPlR w.heap.size) w) := by
  obtain ⟨most, hmost0⟩ : ∃ most : Nat, most = 0 := ⟨0, rfl⟩
  have hmost : most ≤ 100 := by omega
  have HM0 := Lib.hid hmost0
  rw [show (0 : Int) = (most : Int) by omega]
  clear hmost0
  have hlt := hs.lt
  have HR := Lib.hid (Blk.new w 48 #[.slice none 0 0, .slice none 0 0])
  have HGW := Lib.hid (gr_alloc (gr_refl w (some sb)) (.cells #[.slice none 0 0, .slice none 0 0] 48))
  have HS := Lib.hid (hs.alloc (.cells #[.slice none 0 0, .slice none 0 0] 48)); clear hs
  go_enter Tryz.func11, Tryz.ntmps11
  go_wp2_with fail
  refine (rightHoursS_ok sb _ _ HS.out (by omega)).mono ?_
  rintro e w1 ⟨v1, rfl, ⟨B, d, hh, rfl, hgh, hgb, hgr, hgk⟩, hs1, hg1⟩
  replace HR := Lib.hid (HR.out.grown hg1 (by simp; omega))
  have z1 := hg1.size; (try simp at z1)
  replace HGW := Lib.hid (gr_same (a := w) HGW.out hg1)
  have HGH := Lib.hid hgh
  have HGHE := Lib.hid (hrs_two hgb hgr hgk); have HGK := Lib.hid hgk; clear hgr hgk
  replace HS := Lib.hid hs1; clear hs1 hg1 hgh hgb
  go_wp2_with fail
  go_loopw [7, 8, 9, 15] (fun _ _ _ t wr => RpRelR w1 sb most B d (m + 120) t wr) (fun _ _ _ t _ => 3 - (intOf t).toNat)
  case atStart => exact ⟨0, none, 0, [], by omega, rfl, ((HS.out.alloc _).alloc _).mono (by omega), gr_alloc (gr_alloc (gr_refl _ _) _) _, (Blk.new w1 _ _).alloc _, blkNP _ _ _ (by simp), GCx.nil _ _, (fun a ha => by cases ha), (fun a ha => by cases ha), rfl⟩
  case round =>
    clear HS
    obtain ⟨k, A, c, l, hk, rfl, hs, hg, hp, hkb, hga, hlb, hcz, hck⟩ := hrel
    have HS := Lib.hid hs; have HG := Lib.hid hg; have HP := Lib.hid hp; have HKB := Lib.hid hkb; have HGA := Lib.hid hga; have HLB := Lib.hid hlb; have HCZ := Lib.hid hcz; have HCK := Lib.hid hck; clear hcz hck
    have zr := hg.size
    have zk := hkb.lt
    clear hs hg hp hkb hga hlb
    by_cases hlt3 : k < 3
    · obtain ⟨ky, hkp, hky, hkc⟩ := names3cR k hlt3 HKB.out
      have HKP := Lib.hid hkp; clear hkp
      obtain ⟨wo, rfl⟩ : ∃ wo : World, wo = wr := ⟨_, rfl⟩
      have HAB := Lib.hid (show CxB wo sb wo.heap.size (m + 120 + 2200 * k) ⟨ky, none, 0, 0, none, 0, 0, [], []⟩ (wo.alloc (.cells #[.string ky, .slice none 0 0, .slice none 0 0] 89)) from
        ⟨HS.out.alloc _, gr_alloc (gr_refl _ _) _, Nat.le_refl _, Blk.new wo _ _, ⟨⟨Nat.le_trans hky (by decide), Nat.zero_le _, Nat.zero_le _⟩, (fun r hr => by cases hr), (fun s hs => by cases hs)⟩, OwnR.nil _ _ _, OwnR.nil _ _ _⟩)
      go_wp2_with fail
      refine (range_any sb _ 0 most _ HAB.out.1 (by omega) (by omega) (by omega) (by omega)).mono ?_
      rintro e w5 ⟨v5, rfl, ⟨r5, hlo5, hhi5, rfl⟩, hs5, hg5⟩
      replace HAB := Lib.hid (HAB.out.step (by omega) hs5 hg5)
      have z5 := hg5.size; simp at z5
      clear hs5 hg5 hkc
      obtain ⟨N, rfl⟩ : ∃ N : Nat, r5 = N := ⟨r5.toNat, by omega⟩
      have hN : N ≤ most := by omega
      go_wp2_with fail
      go_loopw [9, 24] (fun _ t wr => RpInR ky wo sb N (m + 120 + 2200 * k + 1) t wr) (fun _ t _ => N - (intOf t).toNat)
      case atStart => exact ⟨0, _, Nat.zero_le _, rfl, ⟨HAB.out.1.mono (by omega), HAB.out.2⟩, Nat.zero_le _, Nat.zero_le _, rfl, fun _ => ⟨rfl, rfl, rfl, rfl⟩⟩
      case round =>
        clear HAB z5
        obtain ⟨j, a, hj, rfl, hab, hrn, hen, hcq⟩ := hrel
        have HCQ := Lib.hid hcq; clear hcq
        have HAB := Lib.hid hab
        have zab := hab.2.2.2.1.lt
        have zw := hab.2.1.size
        clear hab
        by_cases hltj : j < N
        · have d1 : decide ((j : Int) < (N : Int)) = true := decide_eq_true (by omega)
          have d1' : decide (j < N) = true := decide_eq_true hltj
          go_wp2_with fail
          refine (rightRule_any sb _ _ HAB.out.1 (by omega)).mono ?_
          rintro e w6 ⟨v6, rfl, ⟨r, rfl, hrb⟩, hs6, hg6⟩
          replace HAB := Lib.hid (HAB.out.step (by omega) hs6 hg6)
          have z6 := hg6.size
          have hrok := hrb.ok
          clear hs6 hg6
          have kt := (HAB.out.2.2.2.1.alloc (.cells #[.string r.pat, .int .i64 r.strip, .string r.pre, .int .i64 r.to_, .string r.nam, .string r.hrs] 92)).cell 1
          have hcw : wo.heap.size < w6.heap.size := by omega
          go_wp2_with fail
          refine (ruGHas_any wo.heap.size _ _ _ _ r w6.heap.size _ (HAB.out.2.2.2.2.2.1.recs.grown (gr_alloc (gr_refl _ none) _) (fun g e => by cases e)) (by omega) (Blk.new w6 _ _)).mono ?_
          rintro e w7 ⟨rfl, hg7⟩
          have hg7' : w6.grownBy w7 none := gr_none (gr_alloc (gr_refl _ _) _) hg7
          have hg7s : w6.grownBy w7 (some sb) := gr_none (gr_alloc (gr_refl _ _) _) hg7
          have HQ := Lib.hid ((Blk.new w6 92 #[.string r.pat, .int .i64 r.strip, .string r.pre, .int .i64 r.to_, .string r.nam, .string r.hrs]).grown hg7 (by simp))
          replace HAB := Lib.hid (HAB.out.step (by omega) (HAB.out.1.grown hg7' (fun g e => by cases e)) hg7s)
          have z7 := hg7.size; simp at z7
          clear hg7 hg7' hg7s kt
          obtain ⟨E, hE⟩ : ∃ E, a.rules.any (sameR r) = E := ⟨_, rfl⟩
          rw [hE]
          clear hE
          cases E
          · have kt := HAB.out.2.2.2.1.cell 1
            have hcw7 : wo.heap.size < w7.heap.size := by omega
            go_wp2_with (first
              | (refine wpl_load_all Tryz.ruT rfl _ rfl _ rfl _ _ HQ.out rfl ?_)
              | (at_builtin
                 refine wpl_app _ rfl _ _ Tryz.rusT rfl wo.heap.size a.rA a.rn a.rc (a.rules.flatMap RuV.row) rfl (by exact HAB.out.2.2.2.2.2.1.1.alloc _) _ _ 1 1 [.string r.pat, .int .i64 r.strip, .string r.pre, .int .i64 r.to_, .string r.nam, .string r.hrs] rfl (by exact Reads.one _ _ _ _ rfl) (by simp [Value.oneCell']) (by unfold maxLen; omega) (by omega) (by simp; omega) ?_
                 intro A10 c10 w10 h10
                 have hb10 := (HAB.out.2.2.2.1.alloc (.cells #[.string r.pat, .int .i64 r.strip, .string r.pre, .int .i64 r.to_, .string r.nam, .string r.hrs] 92)).grown h10.2.1 (Ne.symm (HAB.out.2.2.2.2.2.1.1.blk_ne HAB.out.2.2.2.1 (by decide)))
                 have c10c := hb10.cell 1
                 have c10f := hb10.frozen 1
                 have z10 := h10.2.1.size; simp at z10
                 have H10 := Lib.hid h10
                 clear h10 hb10)
              | fail)
            go_roundw
            case rel => exact ⟨j + 1, _, by omega, by go_num, HAB.out.rule1 (by omega) hrok rfl (by omega) ((HAB.out.1.alloc _).mono (by omega)) (gr_alloc (gr_refl _ _) _) H10.out, by dsimp only; omega, hen, HCQ.out.1, fun e => by omega⟩
            case measure => simp [intOf]; omega
          · go_wp2_with fail
            go_roundw
            case rel => exact ⟨j + 1, a, by omega, by go_num, ⟨HAB.out.1.mono (by omega), HAB.out.2⟩, by omega, hen, HCQ.out.1, fun e => by omega⟩
            case measure => simp [intOf]; omega
        · obtain rfl : j = N := by omega
          have d1 : decide ((j : Int) < (j : Int)) = false := decide_eq_false (by omega)
          have HPR := Lib.hid (HP.out.grown HAB.out.2.1 (by simp; omega))
          have HGR := Lib.hid (HGA.out.low HAB.out.2.1 (fun g e => by injection e with e; omega))
          have kp := HPR.out.cell 0
          have hpw : w1.heap.size < wr.heap.size := by omega
          go_wp2_with (first
            | (refine wpl_load_all Tryz.cxT rfl _ rfl _ rfl _ _ HAB.out.2.2.2.1 rfl ?_)
            | (at_builtin
               refine wpl_app _ rfl _ _ Tryz.cxsT rfl (w1.heap.size + 2) A k c (l.flatMap CxV.row) rfl (by exact HGR.out.1.1.alloc _) _ _ 1 1 [.string a.key, .slice a.rA a.rn a.rc, .slice a.iA a.en a.ic] rfl (by exact Reads.one _ _ _ _ rfl) (by simp [Value.oneCell']) (by unfold maxLen; omega) (by omega) (by simp; omega) ?_
               intro A11 c11 w11 h11
               have hb11 := (HPR.out.alloc (.cells #[.string a.key, .slice a.rA a.rn a.rc, .slice a.iA a.en a.ic] 89)).grown h11.2.1 (Ne.symm (HGR.out.1.1.blk_ne HPR.out (by decide)))
               have c11c := hb11.cell 0
               have c11f := hb11.frozen 0
               have HB11 := Lib.hid hb11
               have z11 := h11.2.1.size; simp at z11
               have H11 := Lib.hid h11
               clear h11 hb11)
            | fail)
          go_roundw
          case rel =>
            have ha := (HAB.out.2.2.2.2.low (gr_alloc (gr_refl _ none) (.cells #[.string a.key, .slice a.rA a.rn a.rc, .slice a.iA a.en a.ic] 89)) (fun g e => by cases e))
            have hga := HGR.out.low (gr_alloc (gr_refl _ none) (.cells #[.string a.key, .slice a.rA a.rn a.rc, .slice a.iA a.en a.ic] 89)) (fun g e => by cases e)
            have hn1 : ∀ g, blkOf A = some g → sb < g := fun g e => by have := (hga.1.1.lt e).1; omega
            refine ⟨k + 1, A11, c11, l ++ [a], by omega, by go_num, (((HAB.out.1.alloc _).grown H11.out.2.1 (fun g e => by have := hn1 g e; omega)).setCell (by simp; omega) _).mono (by omega), gr_setCell (H11.out.gr (gr_alloc (gr_same HG.out HAB.out.2.1) _) hga.1.1 (by omega)) (.inr (by simp)) _, HB11.out.set_ 0 _, ?_, ?_, ?_, ?_, ?_⟩
            · exact (((HKB.out.grown HAB.out.2.1 (by simp; omega)).alloc _).grown H11.out.2.1 (Ne.symm (hga.1.1.blk_ne ((HKB.out.grown HAB.out.2.1 (by simp; omega)).alloc _) (by decide)))).far (by simp) _
            · exact (hga.app (hi := wo.heap.size) (ha.lower (by omega)) (fun g e => (ha.2.1.1.lt e).1) (fun b hb g e => ((HGA.out.2.1 b hb).2.1.1.lt e).2) rfl H11.out).low (gr_setCell (gr_refl _ (some w1.heap.size)) (.inl rfl) _) (fun g e => by injection e with e; omega)
            · intro b hb
              rcases List.mem_append.1 hb with hb | hb
              · exact HLB.out b hb
              · rw [List.mem_singleton.1 hb]; exact ⟨by omega, by omega⟩
            · intro b hb
              rcases List.mem_append.1 hb with hb | hb
              · exact HCZ.out b hb
              · rw [List.mem_singleton.1 hb]; exact HCQ.out.2 (by have := HM0.out; omega)
            · rw [List.map_append, HCK.out, List.range_succ, List.map_append, List.map_singleton, List.map_singleton, HCQ.out.1, HKP.out]
          case measure => simp [intOf]; omega
    · obtain rfl : k = 3 := by omega
      obtain ⟨g, rfl, hgl, hgs⟩ := HGA.out.1.1.pos (by omega)
      have hl3 : l.length = 3 := HGA.out.1.2
      obtain ⟨a0, hx0⟩ : ∃ a, l[0]? = some a := ⟨_, List.getElem?_eq_getElem (by omega)⟩
      obtain ⟨a1, hx1⟩ : ∃ a, l[1]? = some a := ⟨_, List.getElem?_eq_getElem (by omega)⟩
      have HX0 := Lib.hid hx0; have HX1' := Lib.hid hx1; clear hx0 hx1
      have kt := HP.out.cell 0
      go_upto_region 14 with (fail)
      refine wp_region_E (fun w' => w'.cell? ⟨w1.heap.size, 0, none⟩ = some (.slice (some ⟨g, 0, none⟩) 3 c)) (by kernel_rfl) ?_
      have hHeld : wr.drew.cell? ⟨w1.heap.size, 0, none⟩ = some (.slice (some ⟨g, 0, none⟩) 3 c) := kt
      refine E_take (k := 0) (v := ?_) (by rfl) (by kernel_rfl) (by exact fun _ _ _ h => h) (by rfl) ?_ (by assumption) ?_
      rotate_left 1
      · intro w hSw
        (try dsimp only at hSw)
        go_simp
        (try with_reducible rfl)
      (try simp only [Act.put, List.setIfInBounds_toArray, List.set_cons_zero, List.set_cons_succ])
      refine E_take (k := 1) (v := ?_) (by rfl) (by kernel_rfl) (by exact fun _ _ _ h => h) (by rfl) ?_ (by assumption) ?_
      rotate_left 1
      · intro w hSw
        (try dsimp only at hSw)
        go_simp
        (try with_reducible rfl)
      (try simp only [Act.put, List.setIfInBounds_toArray, List.set_cons_zero, List.set_cons_succ])
      refine E_take (k := 6) (v := ?_) (by rfl) (by kernel_rfl) (by exact fun _ _ _ h => h) (by rfl) ?_ (by assumption) ?_
      rotate_left 1
      · intro w hSw
        (try dsimp only at hSw)
        go_simp
        (try with_reducible rfl)
      (try simp only [Act.put, List.setIfInBounds_toArray, List.set_cons_zero, List.set_cons_succ])
      refine wpAnyE_calls (phase := [2, 3, 4, 5, 7, 8, 9, 10, 11]) (T := 12) (fuel := 1) (n0 := 9) (fun k => k + 47) (RSpec (spR14 g (w1.heap.size + 2))) (sb := sb) (m := m + 120 + 2200 * 3) (by kernel_rfl) (by decide) ?hsz rfl HS.out.drew ?hdst (fun k v w w' h hg => spR14_grown (by omega) h hg) ?hS ?hlaw ?hend
      case hsz => intro k hk; simp only [List.mem_cons, List.not_mem_nil, or_false] at hk; rcases hk with rfl | rfl | rfl | rfl | rfl | rfl | rfl | rfl | rfl <;> simp
      case hdst => intro k hk; simp only [List.mem_cons, List.not_mem_nil, or_false] at hk; rcases hk with rfl | rfl | rfl | rfl | rfl | rfl | rfl | rfl | rfl <;> exact ⟨_, rfl, rfl, rfl⟩
      case hS => intro w' hg; exact (HP.out.grown (gr_same (gr_drew (gr_refl _ _)) hg) (by simp; omega)).cell 0
      case hlaw =>
        intro q o a' w' m' K hq ho hsame hdeps hs hm' hg hK
        have h0 := hs.lt
        have h1 := hg.size; simp at h1
        have hf : ∀ j, (∀ i ∈ [2, 3, 4, 5, 7, 8, 9, 10, 11], i + 47 ≠ j) → a'.tmps[j]? = _ := fun j hj => hsame j hj
        simp only [List.mem_cons, List.not_mem_nil, or_false] at hq
        rcases hq with rfl | rfl | rfl | rfl | rfl | rfl | rfl | rfl | rfl
        · obtain rfl := Option.some.inj ho
          go_simp
          exact hK _ _ (InSQ.new w' (by omega) [⟨#[99, 98]⟩] rfl (by decide) (by
            intro s hs; simp only [List.mem_cons, List.not_mem_nil, or_false] at hs
            skip
            rcases hs with rfl <;> decide)) ((hs.alloc _).mono (by omega)) (gr_alloc (gr_refl _ _) _)
        · obtain rfl := Option.some.inj ho
          go_simp
          exact hK _ _ (InSQ.new w' (by omega) [⟨#[99, 99]⟩, ⟨#[99, 98]⟩] rfl (by decide) (by
            intro s hs; simp only [List.mem_cons, List.not_mem_nil, or_false] at hs
            skip
            rcases hs with rfl | rfl <;> decide)) ((hs.alloc _).mono (by omega)) (gr_alloc (gr_refl _ _) _)
        · obtain rfl := Option.some.inj ho
          go_simp
          exact hK _ _ (InSQ.new w' (by omega) [⟨#[99, 98]⟩, ⟨#[99, 99]⟩] rfl (by decide) (by
            intro s hs; simp only [List.mem_cons, List.not_mem_nil, or_false] at hs
            skip
            rcases hs with rfl | rfl <;> decide)) ((hs.alloc _).mono (by omega)) (gr_alloc (gr_refl _ _) _)
        · obtain rfl := Option.some.inj ho
          obtain ⟨gq2, in2, hv2, ho2, hb2⟩ : InSQ _ (w1.heap.size + 2) 1 _ _ := hdeps ⟨2, .data⟩ (by simp) rfl (by simp)
          obtain ⟨gq3, in3, hv3, ho3, hb3⟩ : InSQ _ (w1.heap.size + 2) 2 _ _ := hdeps ⟨3, .data⟩ (by simp) rfl (by simp)
          obtain ⟨gq4, in4, hv4, ho4, hb4⟩ : InSQ _ (w1.heap.size + 2) 2 _ _ := hdeps ⟨4, .data⟩ (by simp) rfl (by simp)
          rw [Array.getD_eq_getD_getElem?] at hv2 hv3 hv4
          go_simp
          refine hK _ _ ⟨w'.heap.size, #[.slice none 0 0, .slice (some ⟨gq2, 0, none⟩) 1 1, .slice (some ⟨gq3, 0, none⟩) 2 2, .slice (some ⟨gq4, 0, none⟩) 2 2], rfl, by omega, Blk.new _ _ _, fun r hr => ?_⟩ ((hs.alloc _).mono (by omega)) (gr_alloc (gr_refl _ _) _)
          rcases (by omega : r = 0 ∨ r = 1 ∨ r = 2 ∨ r = 3) with rfl | rfl | rfl | rfl
          · exact ⟨_, rfl, InCQ.nil (.inl rfl) _ _⟩
          · exact ⟨_, rfl, (InCQ.ofL (by first | exact .inr (.inl rfl) | exact .inr (.inr (.inl rfl)) | exact .inr (.inr (.inr rfl)) | exact .inr rfl | fail) (k := 1) ⟨gq2, in2, rfl, ho2, hb2⟩ (by omega)).low (gr_alloc (gr_refl _ none) _) (fun g e => by cases e)⟩
          · exact ⟨_, rfl, (InCQ.ofL (by first | exact .inr (.inl rfl) | exact .inr (.inr (.inl rfl)) | exact .inr (.inr (.inr rfl)) | exact .inr rfl | fail) (k := 2) ⟨gq3, in3, rfl, ho3, hb3⟩ (by omega)).low (gr_alloc (gr_refl _ none) _) (fun g e => by cases e)⟩
          · exact ⟨_, rfl, (InCQ.ofL (by first | exact .inr (.inl rfl) | exact .inr (.inr (.inl rfl)) | exact .inr (.inr (.inr rfl)) | exact .inr rfl | fail) (k := 2) ⟨gq4, in4, rfl, ho4, hb4⟩ (by omega)).low (gr_alloc (gr_refl _ none) _) (fun g e => by cases e)⟩
        · obtain rfl := Option.some.inj ho
          have eS := hf 53 (by decide)
          go_simp
          refine (next_any sb m' 4 w' hs (by omega) (by omega) (by omega)).mono ?_
          rintro e wq ⟨vq, rfl, ⟨rq, h0q, h1q, rfl⟩, hsq, hgq⟩
          exact hK _ wq ⟨rq.toNat, by omega, by rw [Int.toNat_of_nonneg h0q]⟩ (hsq.mono (by omega)) hgq
        · obtain rfl := Option.some.inj ho
          obtain ⟨gq, cs, hv5, hl5, hb5, hc5⟩ : InLQ _ (w1.heap.size + 2) 4 _ _ := hdeps ⟨5, .data⟩ (by simp) rfl (by simp)
          obtain ⟨rq, hrq, hv7⟩ : NatV 4 _ w' := hdeps ⟨7, .data⟩ (by simp) rfl (by simp)
          rw [Array.getD_eq_getD_getElem?] at hv5 hv7
          have hrq' : (rq : Int) < 4 := by omega
          obtain ⟨x, hx, hxc⟩ := hc5 rq hrq
          go_simp
          exact hK _ _ ⟨gq, cs, rq, x, rfl, hl5, hb5, hx, hxc⟩ (hs.mono (by omega)) (gr_refl _ _)
        · obtain rfl := Option.some.inj ho
          obtain ⟨gq, cs, rq, x, hv8, hlq, hb8, hx, hxc⟩ : InPtQ _ (w1.heap.size + 2) _ _ := hdeps ⟨8, .data⟩ (by simp) rfl (by simp)
          rw [Array.getD_eq_getD_getElem?] at hv8
          have hcc : w'.cell? ⟨gq, rq, none⟩ = some x := by rw [← hx]; exact hb8.cell rq
          go_simp
          exact hK _ _ hxc (hs.mono (by omega)) (gr_refl _ _)
        · obtain rfl := Option.some.inj ho
          have eC := hf 48 (by decide)
          go_simp
          exact hK _ _ rfl (hs.mono (by omega)) (gr_refl _ _)
        · obtain rfl := Option.some.inj ho
          have hv10 : PtV g 0 _ w' := hdeps ⟨10, .data⟩ (by simp) rfl (by simp)
          unfold PtV at hv10
          rw [Array.getD_eq_getD_getElem?] at hv10
          go_simp
          exact hK _ _ rfl (hs.mono (by omega)) (gr_refl _ _)

      case hend =>
        intro vs w7 hR hs7 hg7
        obtain ⟨iA, en, ic, ins, hv9, hio, ⟨hib, hiq⟩, hie⟩ : InCVQ _ (w1.heap.size + 2) (vs 9) w7 := hR 9 (by simp)
        have hv11 : PtV g 2 (vs 11) w7 := hR 11 (by simp)
        unfold PtV at hv11
        clear hR hHeld
        have hgx : wr.grownBy w7 (some sb) := gr_same (gr_drew (gr_refl _ _)) hg7
        have HB7 := Lib.hid (HP.out.grown hgx (by simp; omega))
        have HGA7 := Lib.hid (HGA.out.low hgx (fun g e => by injection e with e; omega))
        have HIO := Lib.hid hio; have HIB := Lib.hid hib; have HIQ0 := Lib.hid hiq; clear hiq
        have HG7 := Lib.hid (gr_same HG.out hgx)
        have HS7 := Lib.hid hs7
        have z7 := hgx.size
        have hHeld := HB7.out.cell 0
        have c7 := (HGA7.out.1.recs.at_ CxV.row_len HX0.out 2 _ rfl)
        have f7 := HGA7.out.1.1.frozen 2
        simp only [Nat.zero_add, Nat.reduceMul, Nat.reduceAdd] at c7 f7
        clear hs7 hg7 hgx kt hio hib
        simp only [putAll, List.foldl_cons, List.foldl_nil, Act.put, Nat.reduceAdd, List.setIfInBounds_toArray, List.set_cons_zero, List.set_cons_succ, hv9, hv11]
        clear hv9 hv11
        refine E_run (k := 12) (by rfl) (by kernel_rfl) (by rfl) (fun K hK => ?_)
        go_simp
        refine hK _ _ (.inl (by rfl)) ?_
        clear hK K hHeld
        refine E_done (by kernel_rfl) ?_
        obtain ⟨wr6, hwr⟩ : ∃ wz, w7.setCell ⟨g, 2, none⟩ (.slice iA en ic) = wz := ⟨_, rfl⟩
        replace HP := Lib.hid (show Blk wr6 w1.heap.size 48 #[.slice (some ⟨g, 0, none⟩) 3 c, .slice B 2 d] by rw [← hwr]; exact HB7.out.far (by simp; omega) _)
        replace HGA := Lib.hid (show GCx wr6 (w1.heap.size + 2) (some ⟨g, 0, none⟩) 3 c _ by rw [← hwr]; exact HGA7.out.inc HX0.out (HIO.out.lower (by omega)) (by omega) (fun s hs => Nat.le_trans (HIB.out s hs) (by decide)) (by omega))
        replace HS := Lib.hid ((show Str wr6 sb _ by rw [← hwr]; exact HS7.out.setCell (by simp; omega) _).mono (show _ ≤ m + 6800 by omega))
        replace HG := Lib.hid (show w1.grownBy wr6 (some sb) by rw [← hwr]; exact gr_setCell HG7.out (.inr (by simp; omega)) _)
        have hlb := setIn HLB.out HX0.out (iA := iA) (ic := ic) (ins := ins) hie
        replace HLB := Lib.hid hlb
        have HX1 := Lib.hid (show (l.set 0 { a0 with iA := iA, en := en, ic := ic, incs := ins })[1]? = some a1 by rw [List.getElem?_set_ne (by omega)]; exact HX1'.out)
        have zr6 := HG.out.size
        have zg6 : g < wr6.heap.size := by rw [← hwr]; simp; omega
        have zs6 : wr.heap.size ≤ wr6.heap.size := by rw [← hwr]; simp; omega
        have zp6 : w1.heap.size < wr6.heap.size := HP.out.lt
        clear HB7 HGA7 HIO HIB HG7 HS7 hlb HX1' c7 f7 z7
        rw [hwr]
        clear hwr hie
        have kt := HP.out.cell 0
        go_upto_region 15 with (fail)
        refine wp_region_E (fun w' => w'.cell? ⟨w1.heap.size, 0, none⟩ = some (.slice (some ⟨g, 0, none⟩) 3 c)) (by kernel_rfl) ?_
        have hHeld : wr6.drew.cell? ⟨w1.heap.size, 0, none⟩ = some (.slice (some ⟨g, 0, none⟩) 3 c) := kt
        refine E_take (k := 0) (v := ?_) (by rfl) (by kernel_rfl) (by exact fun _ _ _ h => h) (by rfl) ?_ (by assumption) ?_
        rotate_left 1
        · intro w hSw
          (try dsimp only at hSw)
          go_simp
          (try with_reducible rfl)
        (try simp only [Act.put, List.setIfInBounds_toArray, List.set_cons_zero, List.set_cons_succ])
        refine E_take (k := 1) (v := ?_) (by rfl) (by kernel_rfl) (by exact fun _ _ _ h => h) (by rfl) ?_ (by assumption) ?_
        rotate_left 1
        · intro w hSw
          (try dsimp only at hSw)
          go_simp
          (try with_reducible rfl)
        (try simp only [Act.put, List.setIfInBounds_toArray, List.set_cons_zero, List.set_cons_succ])
        refine E_take (k := 4) (v := ?_) (by rfl) (by kernel_rfl) (by exact fun _ _ _ h => h) (by rfl) ?_ (by assumption) ?_
        rotate_left 1
        · intro w hSw
          (try dsimp only at hSw)
          go_simp
          (try with_reducible rfl)
        (try simp only [Act.put, List.setIfInBounds_toArray, List.set_cons_zero, List.set_cons_succ])
        refine wpAnyE_calls (phase := [2, 3, 5, 6, 7, 8, 9]) (T := 10) (fuel := 1) (n0 := 7) (fun k => k + 59) (RSpec (spR15 g (w1.heap.size + 2))) (sb := sb) (m := m + 6800) (by kernel_rfl) (by decide) ?hsz rfl HS.out.drew ?hdst (fun k v w w' h hg => spR15_grown (by omega) h hg) ?hS ?hlaw ?hend
        case hsz => intro k hk; simp only [List.mem_cons, List.not_mem_nil, or_false] at hk; rcases hk with rfl | rfl | rfl | rfl | rfl | rfl | rfl <;> simp
        case hdst => intro k hk; simp only [List.mem_cons, List.not_mem_nil, or_false] at hk; rcases hk with rfl | rfl | rfl | rfl | rfl | rfl | rfl <;> exact ⟨_, rfl, rfl, rfl⟩
        case hS => intro w' hg; exact (HP.out.grown (gr_same (gr_drew (gr_refl _ _)) hg) (by simp; omega)).cell 0
        case hlaw =>
          intro q o a' w' m' K hq ho hsame hdeps hs hm' hg hK
          have h0 := hs.lt
          have h1 := hg.size; simp at h1
          have hf : ∀ j, (∀ i ∈ [2, 3, 5, 6, 7, 8, 9], i + 59 ≠ j) → a'.tmps[j]? = _ := fun j hj => hsame j hj
          simp only [List.mem_cons, List.not_mem_nil, or_false] at hq
          rcases hq with rfl | rfl | rfl | rfl | rfl | rfl | rfl
          · obtain rfl := Option.some.inj ho
            go_simp
            exact hK _ _ (InSQ.new w' (by omega) [⟨#[99, 99]⟩] rfl (by decide) (by
              intro s hs; simp only [List.mem_cons, List.not_mem_nil, or_false] at hs
              skip
              rcases hs with rfl <;> decide)) ((hs.alloc _).mono (by omega)) (gr_alloc (gr_refl _ _) _)
          · obtain rfl := Option.some.inj ho
            obtain ⟨gq2, in2, hv2, ho2, hb2⟩ : InSQ _ (w1.heap.size + 2) 1 _ _ := hdeps ⟨2, .data⟩ (by simp) rfl (by simp)
            rw [Array.getD_eq_getD_getElem?] at hv2
            go_simp
            refine hK _ _ ⟨w'.heap.size, #[.slice none 0 0, .slice (some ⟨gq2, 0, none⟩) 1 1], rfl, by omega, Blk.new _ _ _, fun r hr => ?_⟩ ((hs.alloc _).mono (by omega)) (gr_alloc (gr_refl _ _) _)
            rcases (by omega : r = 0 ∨ r = 1) with rfl | rfl
            · exact ⟨_, rfl, InCQ.nil (.inl rfl) _ _⟩
            · exact ⟨_, rfl, (InCQ.ofL (by first | exact .inr (.inl rfl) | exact .inr (.inr (.inl rfl)) | exact .inr (.inr (.inr rfl)) | exact .inr rfl | fail) (k := 1) ⟨gq2, in2, rfl, ho2, hb2⟩ (by omega)).low (gr_alloc (gr_refl _ none) _) (fun g e => by cases e)⟩
          · obtain rfl := Option.some.inj ho
            have eS := hf 63 (by decide)
            go_simp
            refine (next_any sb m' 2 w' hs (by omega) (by omega) (by omega)).mono ?_
            rintro e wq ⟨vq, rfl, ⟨rq, h0q, h1q, rfl⟩, hsq, hgq⟩
            exact hK _ wq ⟨rq.toNat, by omega, by rw [Int.toNat_of_nonneg h0q]⟩ (hsq.mono (by omega)) hgq
          · obtain rfl := Option.some.inj ho
            obtain ⟨gq, cs, hv5, hl5, hb5, hc5⟩ : InLQ _ (w1.heap.size + 2) 2 _ _ := hdeps ⟨3, .data⟩ (by simp) rfl (by simp)
            obtain ⟨rq, hrq, hv7⟩ : NatV 2 _ w' := hdeps ⟨5, .data⟩ (by simp) rfl (by simp)
            rw [Array.getD_eq_getD_getElem?] at hv5 hv7
            have hrq' : (rq : Int) < 2 := by omega
            obtain ⟨x, hx, hxc⟩ := hc5 rq hrq
            go_simp
            exact hK _ _ ⟨gq, cs, rq, x, rfl, hl5, hb5, hx, hxc⟩ (hs.mono (by omega)) (gr_refl _ _)
          · obtain rfl := Option.some.inj ho
            obtain ⟨gq, cs, rq, x, hv8, hlq, hb8, hx, hxc⟩ : InPtQ _ (w1.heap.size + 2) _ _ := hdeps ⟨6, .data⟩ (by simp) rfl (by simp)
            rw [Array.getD_eq_getD_getElem?] at hv8
            have hcc : w'.cell? ⟨gq, rq, none⟩ = some x := by rw [← hx]; exact hb8.cell rq
            go_simp
            exact hK _ _ hxc (hs.mono (by omega)) (gr_refl _ _)
          · obtain rfl := Option.some.inj ho
            have eC := hf 60 (by decide)
            go_simp
            exact hK _ _ rfl (hs.mono (by omega)) (gr_refl _ _)
          · obtain rfl := Option.some.inj ho
            have hv10 : PtV g 3 _ w' := hdeps ⟨8, .data⟩ (by simp) rfl (by simp)
            unfold PtV at hv10
            rw [Array.getD_eq_getD_getElem?] at hv10
            go_simp
            exact hK _ _ rfl (hs.mono (by omega)) (gr_refl _ _)

        case hend =>
          intro vs w7 hR hs7 hg7
          obtain ⟨iA, en, ic, ins, hv9, hio, ⟨hib, hiq⟩, hie⟩ : InCVQ _ (w1.heap.size + 2) (vs 7) w7 := hR 7 (by simp)
          have hv11 : PtV g 5 (vs 9) w7 := hR 9 (by simp)
          unfold PtV at hv11
          clear hR hHeld
          have hgx : wr6.grownBy w7 (some sb) := gr_same (gr_drew (gr_refl _ _)) hg7
          have HB7 := Lib.hid (HP.out.grown hgx (by simp; omega))
          have HGA7 := Lib.hid (HGA.out.low hgx (fun g e => by injection e with e; omega))
          have HIO := Lib.hid hio; have HIB := Lib.hid hib; have HIQ1 := Lib.hid hiq; clear hiq
          have HG7 := Lib.hid (gr_same HG.out hgx)
          have HS7 := Lib.hid hs7
          have z7 := hgx.size
          have hHeld := HB7.out.cell 0
          have c7 := (HGA7.out.1.recs.at_ CxV.row_len HX1.out 2 _ rfl)
          have f7 := HGA7.out.1.1.frozen 5
          simp only [Nat.zero_add, Nat.reduceMul, Nat.reduceAdd] at c7 f7
          clear hs7 hg7 hgx kt hio hib
          simp only [putAll, List.foldl_cons, List.foldl_nil, Act.put, Nat.reduceAdd, List.setIfInBounds_toArray, List.set_cons_zero, List.set_cons_succ, hv9, hv11]
          clear hv9 hv11
          refine E_run (k := 10) (by rfl) (by kernel_rfl) (by rfl) (fun K hK => ?_)
          go_simp
          refine hK _ _ (.inl (by rfl)) ?_
          clear hK K hHeld
          refine E_done (by kernel_rfl) ?_
          obtain ⟨wr7, hwr⟩ : ∃ wz, w7.setCell ⟨g, 5, none⟩ (.slice iA en ic) = wz := ⟨_, rfl⟩
          replace HP := Lib.hid (show Blk wr7 w1.heap.size 48 #[.slice (some ⟨g, 0, none⟩) 3 c, .slice B 2 d] by rw [← hwr]; exact HB7.out.far (by simp; omega) _)
          replace HGA := Lib.hid (show GCx wr7 (w1.heap.size + 2) (some ⟨g, 0, none⟩) 3 c _ by rw [← hwr]; exact HGA7.out.inc HX1.out (HIO.out.lower (by omega)) (by omega) (fun s hs => Nat.le_trans (HIB.out s hs) (by decide)) (by omega))
          replace HS := Lib.hid (show Str wr7 sb _ by rw [← hwr]; exact HS7.out.setCell (by simp; omega) _)
          replace HG := Lib.hid (show w1.grownBy wr7 (some sb) by rw [← hwr]; exact gr_setCell HG7.out (.inr (by simp; omega)) _)
          replace HR := Lib.hid (HR.out.grown HG.out (by simp; omega))
          have hlb := setIn HLB.out HX1.out (iA := iA) (ic := ic) (ins := ins) hie
          replace HLB := Lib.hid hlb
          clear HB7 HGA7 HIO HIB HG7 HS7 hlb
          rw [hwr]
          clear hwr
          go_wp2_with (first
            | (refine wpl_load_all Tryz.plT rfl _ rfl _ rfl _ _ HP.out rfl ?_)
            | (refine wpl_store_all Tryz.plT rfl _ _ rfl _ rfl _ _ _ rfl HR.out rfl rfl (by simp [Value.oneCell']) ?_
               intro w9 h9
               have H9 := Lib.hid h9; clear h9)
            | fail)
          have hst := H9.out
          have gz := gr_same HGW.out HG.out
          refine ret_cell (p := 4) (ty := 48) Tryz.plT (by kernel_rfl) w.heap.size 48 #[.slice (some ⟨g, 0, none⟩) 3 c, .slice B 2 d] (by rfl) hst.1 rfl rfl ?_
          exact ⟨_, rfl, ⟨_, B, c, d, _, hh, rfl, (HGA.out.low hst.2.1 (fun g e => by injection e with e; omega)).lower (by omega), ((HGH.out.low HG.out (fun g e => by injection e with e; simp; omega)).low hst.2.1 (fun g e => by injection e with e; simp; omega)).lower (by simp), (fun a ha => ⟨by have := (HLB.out a ha).1; have := HM0.out; omega, (HLB.out a ha).2⟩), HGHE.out, HGK.out, plan_two HCK.out HCZ.out HX0.out HX1.out HIQ0.out HIQ1.out⟩, (HS.out.grown hst.2.1 (fun g e => by injection e with e; omega)).mono (by omega), gr_trans gz hst.2.1 (fun g e => .inr (by injection e with e; omega))⟩
end Go.Proofs.YtfakdalpaopjaaaGreatDoor

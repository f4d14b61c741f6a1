/- Contracts of floor, there, isOpen and OpenOf. Conditions: hours that are right. -/
import Derived.Test.YtfakdalpaopjaaaGreatDoorHou1
import Derived.Test.YtfakdalpaopjaaaGreatDoorBun1
import Derived.Test.YtfakdalpaopjaaaGreatDoorBun5
import Derived.Test.YtfakdalpaopjaaaGreatDoorBun3
namespace Go.Proofs.YtfakdalpaopjaaaGreatDoor
section
open Go.RowKit

theorem fl_neg {a b : Int} (hb : 0 < b) (h : a.tmod b < 0) : a.tdiv b - 1 = a / b := by
  rw [Int.tmod_eq_emod] at h
  rw [Int.tdiv_eq_ediv]
  have h0 := Int.emod_nonneg a (show b ≠ 0 by omega)
  split at h
  · omega
  · rename_i hc
    rw [if_neg hc, Int.sign_eq_one_of_pos hb]; omega
theorem fl_pos {a b : Int} (hb : 0 < b) (h : 0 ≤ a.tmod b) : a.tdiv b = a / b := by
  rw [Int.tmod_eq_emod] at h
  rw [Int.tdiv_eq_ediv]
  have h1 := Int.emod_lt_of_pos a hb
  split at h
  · rename_i hc
    rw [if_pos hc]; omega
  · exfalso; omega
theorem fl_bd {a b : Int} (ha : -1000000000000 ≤ a) (ha2 : a ≤ 1000000000000) (hb : 0 < b) : -1000000000001 ≤ a / b ∧ a / b ≤ 1000000000000 := by
  constructor
  · rw [Int.le_ediv_iff_mul_le hb]
    have : -1000000000001 * b ≤ -1000000000001 * 1 := Int.mul_le_mul_of_nonpos_left (by omega) (by omega)
    omega
  · rcases Int.lt_or_le a 0 with h | h
    · have := Int.ediv_neg_of_neg_of_pos h hb; omega
    · have := Int.ediv_le_self b h; omega
set_option maxHeartbeats 1000000 in
theorem floorD_any (a b : Int) (w : World) (ha : -1000000000000 ≤ a) (ha2 : a ≤ 1000000000000) (hb : 0 < b) (hb2 : b ≤ 100000000) : Calls Tryz.prog 137 #[.int .i64 a, .int .i64 b] w (Same (.int .i64 (a / b)) w) := by
  obtain ⟨k1, k2⟩ := fl_bd ha ha2 hb
  by_cases h : a.tmod b < 0
  · have e := fl_neg hb h
    have d1 : decide (a.tmod b < 0) = true := decide_eq_true h
    have k3 : -1000000000002 ≤ a.tdiv b := by omega
    have k4 : a.tdiv b ≤ 1000000000002 := by omega
    have E2 := Lib.hid e; clear e
    go_enter Tryz.func137, Tryz.ntmps137
    go_wp2_with fail
    go_ret
    exact ⟨by rw [← E2.out]; rfl, rfl⟩
  · have e := fl_pos (a := a) hb (by omega)
    have d1 : decide (a.tmod b < 0) = false := decide_eq_false h
    have E2 := Lib.hid e; clear e
    go_enter Tryz.func137, Tryz.ntmps137
    go_wp2_with fail
    go_ret
    exact ⟨by rw [← E2.out]; rfl, rfl⟩

/-! Bits of days. -/
theorem bits_one : ∀ x : Fin 128, bits BinOp.and IntKind.i64 (x.val : Int) 1 = (x.val : Int) % 2 := by decide +kernel
theorem bits_day {d wk : Int} (g0 : 0 ≤ d) (g1 : d ≤ 127) : bits BinOp.and IntKind.i64 (d / 2 ^ wk.toNat) 1 = if dayB d wk then 1 else 0 := by
  obtain ⟨x, hx⟩ : ∃ x, d / 2 ^ wk.toNat = x := ⟨_, rfl⟩
  have hp : (0 : Int) < 2 ^ wk.toNat := Int.pow_pos (by omega)
  have x0 : 0 ≤ x := by rw [← hx]; exact Int.ediv_nonneg g0 (by omega)
  have x1 : x ≤ 127 := by rw [← hx]; have := Int.ediv_le_self (2 ^ wk.toNat) g0; omega
  have h := bits_one ⟨x.toNat, by omega⟩
  have e : ((x.toNat : Nat) : Int) = x := Int.toNat_of_nonneg x0
  dsimp only at h
  rw [e] at h
  unfold dayB
  rw [hx, h]
  by_cases c : x % 2 = 1
  · rw [c]; rfl
  · have : x % 2 = 0 := by omega
    rw [this]; rfl
theorem pow_day {d wk : Int} (g0 : 0 ≤ d) (g1 : d ≤ 127) : 0 ≤ d / 2 ^ wk.toNat ∧ d / 2 ^ wk.toNat ≤ 127 :=
  ⟨Int.ediv_nonneg g0 (by have : (0 : Int) < 2 ^ wk.toNat := Int.pow_pos (by omega); omega), by have := Int.ediv_le_self (2 ^ wk.toNat) g0; omega⟩

/-! Open or closed, place by place. -/
def winM (m : Int) (p : Int × Int × Int) : Bool := decide (p.2.1 ≤ m) && decide (m < p.2.2)
def rowM (wk m : Int) (r : Int × Int × Int) : Bool := dayB r.1 wk && winM m r
def isDay (D : Int) (d : Int × Int × Int) : Bool := d.1 == D
theorem find_at {α : Type} {p : α → Bool} {l : List α} {i : Nat} {z : α} (h : (l.take i).all (fun x => !p x) = true) (hz : l[i]? = some z) (hp : p z = true) : l.find? p = some z := by
  induction l generalizing i with
  | nil => cases hz
  | cons a l ih =>
    cases i with
    | zero => simp only [List.getElem?_cons_zero, Option.some.injEq] at hz; subst hz; rw [List.find?_cons, hp]
    | succ i =>
      rw [List.take_succ_cons, List.all_cons, Bool.and_eq_true] at h
      have ha : p a = false := by simpa using h.1
      rw [List.find?_cons, ha]
      exact ih h.2 (by simpa using hz)
theorem find_no {α : Type} {p : α → Bool} {l : List α} (h : l.all (fun x => !p x) = true) : l.find? p = none := by
  rw [List.find?_eq_none]
  intro x hx
  have := List.all_eq_true.1 h x hx
  simpa using this
theorem any_at {α : Type} {p : α → Bool} {l : List α} {i : Nat} {z : α} (hz : l[i]? = some z) (hp : p z = true) : l.any p = true := List.any_eq_true.2 ⟨z, mem_of_get hz, hp⟩
theorem any_no {α : Type} {p : α → Bool} {l : List α} (h : l.all (fun x => !p x) = true) : l.any p = false := by
  rw [Bool.eq_false_iff]; intro h2
  obtain ⟨x, hx, hp⟩ := List.any_eq_true.1 h2
  have := List.all_eq_true.1 h x hx
  simp [hp] at this
theorem openM_at {rows hol : List (Int × Int × Int)} {M : Int} {i : Nat} {z : Int × Int × Int} (h : (hol.take i).all (fun x => !(isDay (M / 1440) x)) = true) (hz : hol[i]? = some z) (hp : isDay (M / 1440) z = true) : openM rows hol M = winM (M % 1440) z := by
  unfold openM
  rw [show hol.find? (fun d => d.1 == M / 1440) = some z from find_at (p := isDay (M / 1440)) h hz hp]; rfl
theorem openM_no {rows hol : List (Int × Int × Int)} {M : Int} (h : hol.all (fun x => !(isDay (M / 1440) x)) = true) : openM rows hol M = rows.any (rowM (M / 1440 % 7) (M % 1440)) := by
  unfold openM
  rw [show hol.find? (fun d => d.1 == M / 1440) = none from find_no (p := isDay (M / 1440)) h]; rfl
def HrRight (a : HrV) : Prop := RightH a.zone a.rows a.hol
set_option maxHeartbeats 4000000 in
theorem isOpen_any (lo : Nat) (a : HrV) (t : Int) (w : World) (h : HrOk w lo a) (hr : HrRight a) (t0 : -1 ≤ t) (t1 : t ≤ 345686400000) :
    Calls Tryz.prog 112 #[.agg #[.string a.key, .int .i64 a.zone, .slice a.rA a.rn a.rc, .slice a.hA a.hn a.hc], .int .i64 t] w (RetV (.bool (openAt a.zone a.rows a.hol t)) w) := by
  obtain ⟨key, zone, rA, rn, rc, qA, qn, qc, rows, hol⟩ := a
  obtain ⟨⟨b1, b2, b3⟩, hrr, hhh⟩ := h
  obtain ⟨⟨z0, z1⟩, _, hr1, hr2⟩ := hr
  dsimp only at b1 b2 b3 hrr hhh z0 z1 hr1 hr2 ⊢
  obtain ⟨M, hM⟩ : ∃ M, t / 60000 + zone = M := ⟨_, rfl⟩
  have HV := Lib.hid (show openAt zone rows hol t = openM rows hol M by unfold openAt; rw [hM])
  obtain ⟨D, hD⟩ : ∃ D, M / 1440 = D := ⟨_, rfl⟩
  obtain ⟨m, hm⟩ : ∃ m, M % 1440 = m := ⟨_, rfl⟩
  obtain ⟨wk, hwk⟩ : ∃ wk, D % 7 = wk := ⟨_, rfl⟩
  obtain ⟨q, hq⟩ : ∃ q, D / 7 = q := ⟨_, rfl⟩
  have e1 : (t + zone * 60000) / 86400000 = D := by rw [← hD, ← hM]; exact day_of zone t
  have e2 : (t + zone * 60000 - D * 86400000) / 60000 = m := by rw [← hm, ← hM, ← e1]; exact min_of zone t
  have w0 : 0 ≤ wk := by omega
  have w1 : wk ≤ 6 := by omega
  have m0 : 0 ≤ m := by omega
  have m1 : m ≤ 1439 := by omega
  have D0 : -1000000 ≤ D := by omega
  have D1 : D ≤ 1000000 := by omega
  have q0 : -1000000 ≤ q := by omega
  have q1 : q ≤ 1000000 := by omega
  have p0 : 0 ≤ t + zone * 60000 - D * 86400000 := by omega
  have p1 : t + zone * 60000 - D * 86400000 ≤ 86400000 := by omega
  have e3 : D - 7 * q = wk := by omega
  have HR := Lib.hid hrr; have HH := Lib.hid hhh; have HR1 := Lib.hid hr1; have HR2 := Lib.hid hr2
  have HM := Lib.hid hM; have HD := Lib.hid hD; have Hm := Lib.hid hm; have HW := Lib.hid hwk; have HQ := Lib.hid hq; have E1 := Lib.hid e1; have E2 := Lib.hid e2; have E3 := Lib.hid e3
  clear hrr hhh hr1 hr2 hM hD hm hwk hq e1 e2 e3 b1
  go_enter Tryz.func112, Tryz.ntmps112
  go_wp2_with (first
    | (go_at_call 137; refine (floorD_any _ _ _ (by omega) (by omega) (by omega) (by omega)).mono ?_; rintro e w' ⟨rfl, rfl⟩; rw [E1.out])
    | fail)
  rw [E2.out]
  go_loopw [9, 28] (fun _ t wr => ∃ i : Nat, i ≤ qn ∧ t = .int .i64 i ∧ w.grownBy wr none ∧ Blk wr w.heap.size 154 #[.string key, .int .i64 zone, .slice rA rn rc, .slice qA qn qc] ∧ (hol.take i).all (fun x => !(isDay (M / 1440) x)) = true) (fun _ t _ => qn - (intOf t).toNat)
  case atStart => exact ⟨0, Nat.zero_le _, rfl, gr_alloc (gr_refl _ _) _, Blk.new _ _ _, by simp⟩
  case round =>
    obtain ⟨i, hi, rfl, hg, hbl, ha⟩ := hrel
    have zr := hg.size
    have hbl1 := hbl.lt
    have HA := Lib.hid ha; have HG := Lib.hid hg; have HB := Lib.hid hbl; clear ha hg hbl
    by_cases hlt : i < qn
    · obtain ⟨g, o, ⟨dy, df, dt⟩, rfl, _, hgl, hz, hc⟩ := (HH.out.grown HG.out (fun g e => by cases e)).get r3Row_len hlt
      have HZ := Lib.hid hz; have HC := Lib.hid hc; clear hz hc
      by_cases hdy : dy = D
      · subst hdy
        have HFIN := Lib.hid (show openAt zone rows hol t = (decide (df ≤ m) && decide (m < dt)) by rw [HV.out, openM_at HA.out HZ.out (by rw [HD.out]; simp [isDay]), Hm.out]; rfl)
        cases c1 : decide (df ≤ m)
        · go_wp2_with (first
            | (refine wpl_load_at Tryz.hoT rfl _ rfl _ rfl [.int .i64 dy, .int .i64 df, .int .i64 dt] rfl (fun j u hu => by rw [add_mk]; exact HC.out j u hu) ?_)
            | fail)
          go_ret
          exact ⟨by rw [HFIN.out, c1]; try rfl, gr_alloc HG.out _⟩
        · cases c2 : decide (m < dt)
          all_goals
            go_wp2_with (first
              | (refine wpl_load_at Tryz.hoT rfl _ rfl _ rfl [.int .i64 dy, .int .i64 df, .int .i64 dt] rfl (fun j u hu => by rw [add_mk]; exact HC.out j u hu) ?_)
              | fail)
            go_ret
            exact ⟨by rw [HFIN.out, c1, c2]; try rfl, gr_alloc HG.out _⟩
      · have hne : (dy == D) = false := by simpa using hdy
        have HN := Lib.hid (show isDay (M / 1440) (dy, df, dt) = false by rw [HD.out]; exact hne)
        clear hdy
        go_wp2_with (first
          | (refine wpl_load_at Tryz.hoT rfl _ rfl _ rfl [.int .i64 dy, .int .i64 df, .int .i64 dt] rfl (fun j u hu => by rw [add_mk]; exact HC.out j u hu) ?_)
          | fail)
        go_roundw
        case rel => exact ⟨i + 1, by omega, by go_num, gr_alloc HG.out _, HB.out.alloc _, allP_succ HA.out HZ.out HN.out⟩
        case measure => simp [intOf]; omega
    · obtain rfl : i = qn := by omega
      obtain ⟨wo, rfl⟩ : ∃ wo : World, wo = wr := ⟨_, rfl⟩
      have HV2 := Lib.hid (show openAt zone rows hol t = rows.any (rowM wk m) by
        have h := HA.out
        rw [List.take_of_length_le (by rw [HH.out.len]; exact Nat.le_refl _)] at h
        rw [HV.out, openM_no h, HD.out, Hm.out, HW.out])
      have HG0 := HG; have HB0 := HB
      have ka2 := HB.out.cell 2
      clear HA HG HB HV
      go_wp2_with (first
        | (go_at_call 137; refine (floorD_any _ _ _ (by omega) (by omega) (by omega) (by omega)).mono ?_; rintro e w' ⟨rfl, rfl⟩; rw [HQ.out])
        | fail)
      rw [E3.out]
      clear ka2
      go_loopw [12, 55] (fun _ t wr => ∃ i : Nat, i ≤ rn ∧ t = .int .i64 i ∧ w.grownBy wr none ∧ (rows.take i).all (fun x => !(rowM wk m x)) = true) (fun _ t _ => rn - (intOf t).toNat)
      case atStart => exact ⟨0, Nat.zero_le _, rfl, HG0.out, by simp⟩
      case round =>
        clear HG0 HB0
        obtain ⟨i, hi, rfl, hg, ha⟩ := hrel
        have zr := hg.size
        have HA := Lib.hid ha; have HG := Lib.hid hg; clear ha hg
        by_cases hlt : i < rn
        · obtain ⟨g, o, ⟨dy, df, dt⟩, rfl, _, hgl, hz, hc⟩ := (HR.out.grown HG.out (fun g e => by cases e)).get r3Row_len hlt
          obtain ⟨⟨y1, y2⟩, y3, y4, y5, y6⟩ := HR1.out _ (mem_of_get hz)
          dsimp only at y1 y2 y3 y4 y5 y6
          have HZ := Lib.hid hz; have HC := Lib.hid hc; clear hz hc
          have hbt := bits_day (wk := wk) (show 0 ≤ dy by omega) y2
          obtain ⟨x0, x1⟩ := pow_day (wk := wk) (show 0 ≤ dy by omega) y2
          obtain ⟨B, hB⟩ : ∃ B, dayB dy wk = B := ⟨_, rfl⟩
          rw [hB] at hbt
          have HRM := Lib.hid (show rowM wk m (dy, df, dt) = (B && (decide (df ≤ m) && decide (m < dt))) by rw [← hB]; rfl)
          clear hB
          cases B
          · have hb0 : bits BinOp.and IntKind.i64 (dy / 2 ^ wk.toNat) 1 = 0 := hbt
            clear hbt
            go_wp2_with (first
              | (refine wpl_load_at Tryz.rwT rfl _ rfl _ rfl [.int .i64 dy, .int .i64 df, .int .i64 dt] rfl (fun j u hu => by rw [add_mk]; exact HC.out j u hu) ?_)
              | fail)
            go_roundw
            case rel => exact ⟨i + 1, by omega, by go_num, gr_alloc HG.out _, allP_succ HA.out HZ.out (by rw [HRM.out]; rfl)⟩
            case measure => simp [intOf]; omega
          · have hb0 : bits BinOp.and IntKind.i64 (dy / 2 ^ wk.toNat) 1 = 1 := hbt
            clear hbt
            cases c1 : decide (df ≤ m)
            · go_wp2_with (first
                | (refine wpl_load_at Tryz.rwT rfl _ rfl _ rfl [.int .i64 dy, .int .i64 df, .int .i64 dt] rfl (fun j u hu => by rw [add_mk]; exact HC.out j u hu) ?_)
                | fail)
              go_roundw
              case rel => exact ⟨i + 1, by omega, by go_num, gr_alloc HG.out _, allP_succ HA.out HZ.out (by rw [HRM.out, c1]; rfl)⟩
              case measure => simp [intOf]; omega
            · cases c2 : decide (m < dt)
              · go_wp2_with (first
                  | (refine wpl_load_at Tryz.rwT rfl _ rfl _ rfl [.int .i64 dy, .int .i64 df, .int .i64 dt] rfl (fun j u hu => by rw [add_mk]; exact HC.out j u hu) ?_)
                  | fail)
                go_roundw
                case rel => exact ⟨i + 1, by omega, by go_num, gr_alloc HG.out _, allP_succ HA.out HZ.out (by rw [HRM.out, c1, c2]; rfl)⟩
                case measure => simp [intOf]; omega
              · have HFIN := Lib.hid (show rows.any (rowM wk m) = true from any_at HZ.out (by rw [HRM.out, c1, c2]; rfl))
                go_wp2_with (first
                  | (refine wpl_load_at Tryz.rwT rfl _ rfl _ rfl [.int .i64 dy, .int .i64 df, .int .i64 dt] rfl (fun j u hu => by rw [add_mk]; exact HC.out j u hu) ?_)
                  | fail)
                go_ret
                exact ⟨by rw [HV2.out, HFIN.out]; try rfl, gr_alloc HG.out _⟩
        · obtain rfl : i = rn := by omega
          have HFIN := Lib.hid (show rows.any (rowM wk m) = false by
            have h := HA.out
            rw [List.take_of_length_le (by rw [HR.out.len]; exact Nat.le_refl _)] at h
            exact any_no h)
          go_wp2_with fail
          go_ret
          exact ⟨by rw [HV2.out, HFIN.out]; try rfl, HG.out⟩

/-! The document. -/
theorem blk_newH (w : World) (t : TypeId) (cs : Array Value) {g : Nat} (hg : w.heap.size = g) : Blk (w.alloc (.cells cs t)) g t cs := by subst hg; exact Blk.new _ _ _
end
end Go.Proofs.YtfakdalpaopjaaaGreatDoor
/- Contracts of CheckHours and of the document's HoursFault. Conditions: none. -/
namespace Go.Proofs.YtfakdalpaopjaaaGreatDoor
section
open Go.RowKit

set_option maxHeartbeats 8000000 in
theorem checkHours_any (lo : Nat) (A : Option Addr) (n c : Nat) (l : List HrV) (w : World) (h : Hrs w lo A n c l) (hn : n ≤ 1000000000000) :
    Calls Tryz.prog 97 #[.slice A n c] w (RetV (.int .i64 (hrsE l)) w) := by
  have H := Lib.hid h; clear h
  by_cases hb : n > 50
  · have HF := Lib.hid (show hrsE l = 2 by unfold hrsE; rw [if_pos (by rw [H.out.1.len]; exact hb)])
    have hb' : decide ((50 : Int) < (n : Int)) = true := decide_eq_true (by omega)
    go_enter Tryz.func97, Tryz.ntmps97
    go_wp2_with fail
    go_ret
    exact ⟨by rw [HF.out]; try rfl, gr_refl _ _⟩
  · have hb' : decide ((50 : Int) < (n : Int)) = false := decide_eq_false (by omega)
    have HF := Lib.hid (show hrsE l = fstE (hrAt l) n by unfold hrsE; rw [if_neg (by rw [H.out.1.len]; exact hb), H.out.1.len])
    go_enter Tryz.func97, Tryz.ntmps97
    go_wp2_with fail
    go_loopw [3, 4, 5, 11] (fun _ _ _ t wr => ∃ k : Nat, k ≤ n ∧ t = .int .i64 k ∧ w.grownBy wr none ∧ fstE (hrAt l) k = 0) (fun _ _ _ t _ => n - (intOf t).toNat)
    case atStart => exact ⟨0, Nat.zero_le _, rfl, gr_refl _ _, rfl⟩
    case round =>
      obtain ⟨k, hk, rfl, hg, ha⟩ := hrel
      have HA := Lib.hid ha; have HG := Lib.hid hg; clear ha hg
      by_cases hlt : k < n
      · obtain ⟨g, o, ⟨key, zone, rA, rn, rc, qA, qn, qc, rows, hol⟩, rfl, _, hgl, hz, hc⟩ := (H.out.1.grown HG.out (fun g e => by cases e)).get HrV.row_len hlt
        have hok := H.out.2 _ (mem_of_get hz)
        have hkey : key.size ≤ 1000 := hok.1.1
        have hrn1 : rn ≤ 1000 := hok.1.2.1
        have hqn1 : qn ≤ 1000 := hok.1.2.2
        obtain ⟨E, hE⟩ : ∃ E, hrE ⟨key, zone, rA, rn, rc, qA, qn, qc, rows, hol⟩ = E := ⟨_, rfl⟩
        have HEV := Lib.hid hE; have HZ := Lib.hid hz; have HC := Lib.hid hc; have HOK := Lib.hid hok; clear hz hc hok hE
        go_wp2_with (first
          | (refine wpl_load_at Tryz.hrT rfl _ rfl _ rfl [.string key, .int .i64 zone, .slice rA rn rc, .slice qA qn qc] rfl (fun j u hu => by rw [add_mk]; exact HC.out j u hu) ?_)
          | fail)
        refine (isKey_any key _ (by omega)).mono ?_
        rintro e w2 ⟨rfl, hg2⟩
        have hsB := (Blk.new wr 154 #[.string key, .int .i64 zone, .slice rA rn rc, .slice qA qn qc]).grown hg2 (by simp)
        have k0 := hsB.cell 0
        have k1 := hsB.cell 1
        have HG2 := Lib.hid (gr_none (gr_alloc HG.out _) hg2)
        have HB2 := Lib.hid hsB
        have z2 := hg2.size; simp at z2
        clear hg2
        clear hsB
        cases hB1 : keyOk (nb key)
        · have e := hrAt_5 HZ.out hB1
          have HFIN := Lib.hid (show hrsE l = 5 by rw [HF.out, fstE_stop HA.out (by rw [e]; decide) hlt, e])
          clear e
          go_wp2_with fail
          go_ret
          exact ⟨by rw [HFIN.out]; try rfl, HG2.out⟩
        · by_cases h0 : 0 < k
          · obtain ⟨⟨key', zone', rA', rn', rc', qA', qn', qc', rows', hol'⟩, hb⟩ : ∃ b, l[k - 1]? = some b := ⟨_, List.getElem?_eq_getElem (by rw [H.out.1.len]; omega)⟩
            have kb := (H.out.1.grown HG2.out (fun g e => by cases e)).at_ HrV.row_len hb 0 _ rfl
            simp only [Nat.add_zero] at kb
            have HB1 := Lib.hid hb; clear hb
            have hi0 : decide ((0 : Int) < (k : Int)) = true := by simpa using h0
            cases h7 : (Op.bytesLess key.toList key'.toList || key.toList == key'.toList)
            · have s2 : (0 : Int) ≤ (k : Int) - 1 := by omega
              have s5 : (1 : Int) ≤ (k : Int) := by omega
              have s3 : (k : Int) - 1 < (n : Int) := by omega
              have s6 : (0 : Int) < (n : Int) := by omega
              have s1 : IntKind.i64.wrap ((k : Int) - 1) = (k : Int) - 1 := IntWalk.i64_in _ (by omega)
              have s4 : ((k : Int) - 1).toNat = k - 1 := by omega
              go_wp2_with fail
              go_quiet (fail)
              clear s1 s4
              have HAT := Lib.hid (hrAt_e HZ.out hB1 HB1.out h7)
              obtain ⟨Bz, hBz⟩ : ∃ B, inB zone (-1440) 1440 = B := ⟨_, rfl⟩
              have NZ := Lib.hid hBz; clear hBz
              cases Bz
              · have HE := Lib.hid (show hrAt l k = 1 by rw [HAT.out]; show (if inB zone (-1440) 1440 then hrE ⟨key, zone, rA, rn, rc, qA, qn, qc, rows, hol⟩ else 1) = 1; rw [NZ.out]; rfl)
                have HFIN := Lib.hid (show hrsE l = 1 by rw [HF.out, fstE_stop HA.out (by rw [HE.out]; decide) hlt, HE.out])
                go_wp2_with (first
                  | (go_at_call 64; refine (withinD_any _ _ _ _).mono ?_; rintro e w' ⟨rfl, rfl⟩; rw [NZ.out])
                  | fail)
                go_ret
                exact ⟨by rw [HFIN.out]; try rfl, gr_drewN HG2.out _⟩
              · have HE := Lib.hid (show hrAt l k = E by rw [HAT.out]; show (if inB zone (-1440) 1440 then hrE ⟨key, zone, rA, rn, rc, qA, qn, qc, rows, hol⟩ else 1) = E; rw [NZ.out]; exact HEV.out)
                go_wp2_with (first
                  | (go_at_call 64; refine (withinD_any _ _ _ _).mono ?_; rintro e w' ⟨rfl, rfl⟩; rw [NZ.out])
                  | (refine wpl_load_all Tryz.hrT rfl _ rfl _ rfl _ _ (HB2.out.drewN _) rfl ?_)
                  | fail)
                refine (checkTimes_any lo ⟨key, zone, rA, rn, rc, qA, qn, qc, rows, hol⟩ _ (HOK.out.grown (gr_drewN HG2.out _) (fun g e => by cases e))).mono ?_
                rintro e w3 ⟨rfl, hg3⟩
                have HG3 := Lib.hid (gr_none (gr_drewN HG2.out _) hg3); clear hg3
                rw [HEV.out]
                by_cases h9 : E = 0
                · have h9' : (E != 0) = false := by simpa using h9
                  have HE0 := Lib.hid (show hrAt l k = 0 by rw [HE.out, h9])
                  clear h9
                  go_wp2_with fail
                  go_roundw
                  case rel => exact ⟨k + 1, by omega, by go_num, HG3.out, fstE_zero HA.out HE0.out⟩
                  case measure => simp [intOf]; omega
                · have h9' : (E != 0) = true := by simpa using h9
                  have HFIN := Lib.hid (show hrsE l = E by rw [HF.out, fstE_stop HA.out (by rw [HE.out]; exact h9) hlt, HE.out])
                  go_wp2_with fail
                  go_ret
                  exact ⟨by rw [HFIN.out]; try rfl, HG3.out⟩
            · have e := hrAt_7 HZ.out hB1 h0 HB1.out h7
              have HFIN := Lib.hid (show hrsE l = 7 by rw [HF.out, fstE_stop HA.out (by rw [e]; decide) hlt, e])
              clear e
              have s2 : (0 : Int) ≤ (k : Int) - 1 := by omega
              have s5 : (1 : Int) ≤ (k : Int) := by omega
              have s3 : (k : Int) - 1 < (n : Int) := by omega
              have s6 : (0 : Int) < (n : Int) := by omega
              have s1 : IntKind.i64.wrap ((k : Int) - 1) = (k : Int) - 1 := IntWalk.i64_in _ (by omega)
              have s4 : ((k : Int) - 1).toNat = k - 1 := by omega
              go_wp2_with fail
              go_quiet (fail)
              go_wp2_with fail
              go_ret
              exact ⟨by rw [HFIN.out]; try rfl, gr_drewN HG2.out _⟩
          · have hi0 : decide ((0 : Int) < (k : Int)) = false := decide_eq_false (by omega)
            go_wp2_with fail
            go_quiet (fail)
            have HAT := Lib.hid (hrAt_z HZ.out hB1 h0)
            obtain ⟨Bz, hBz⟩ : ∃ B, inB zone (-1440) 1440 = B := ⟨_, rfl⟩
            have NZ := Lib.hid hBz; clear hBz
            cases Bz
            · have HE := Lib.hid (show hrAt l k = 1 by rw [HAT.out]; show (if inB zone (-1440) 1440 then hrE ⟨key, zone, rA, rn, rc, qA, qn, qc, rows, hol⟩ else 1) = 1; rw [NZ.out]; rfl)
              have HFIN := Lib.hid (show hrsE l = 1 by rw [HF.out, fstE_stop HA.out (by rw [HE.out]; decide) hlt, HE.out])
              go_wp2_with (first
                | (go_at_call 64; refine (withinD_any _ _ _ _).mono ?_; rintro e w' ⟨rfl, rfl⟩; rw [NZ.out])
                | fail)
              go_ret
              exact ⟨by rw [HFIN.out]; try rfl, gr_drewN HG2.out _⟩
            · have HE := Lib.hid (show hrAt l k = E by rw [HAT.out]; show (if inB zone (-1440) 1440 then hrE ⟨key, zone, rA, rn, rc, qA, qn, qc, rows, hol⟩ else 1) = E; rw [NZ.out]; exact HEV.out)
              go_wp2_with (first
                | (go_at_call 64; refine (withinD_any _ _ _ _).mono ?_; rintro e w' ⟨rfl, rfl⟩; rw [NZ.out])
                | (refine wpl_load_all Tryz.hrT rfl _ rfl _ rfl _ _ (HB2.out.drewN _) rfl ?_)
                | fail)
              refine (checkTimes_any lo ⟨key, zone, rA, rn, rc, qA, qn, qc, rows, hol⟩ _ (HOK.out.grown (gr_drewN HG2.out _) (fun g e => by cases e))).mono ?_
              rintro e w3 ⟨rfl, hg3⟩
              have HG3 := Lib.hid (gr_none (gr_drewN HG2.out _) hg3); clear hg3
              rw [HEV.out]
              by_cases h9 : E = 0
              · have h9' : (E != 0) = false := by simpa using h9
                have HE0 := Lib.hid (show hrAt l k = 0 by rw [HE.out, h9])
                clear h9
                go_wp2_with fail
                go_roundw
                case rel => exact ⟨k + 1, by omega, by go_num, HG3.out, fstE_zero HA.out HE0.out⟩
                case measure => simp [intOf]; omega
              · have h9' : (E != 0) = true := by simpa using h9
                have HFIN := Lib.hid (show hrsE l = E by rw [HF.out, fstE_stop HA.out (by rw [HE.out]; exact h9) hlt, HE.out])
                go_wp2_with fail
                go_ret
                exact ⟨by rw [HFIN.out]; try rfl, HG3.out⟩
      · obtain rfl : k = n := by omega
        go_wp2_with fail
        go_ret
        exact ⟨by rw [HF.out, HA.out]; try rfl, HG.out⟩
end
end Go.Proofs.YtfakdalpaopjaaaGreatDoor
/- How a plan decides, in plain Lean. Conditions: none. -/
namespace Go.Proofs.YtfakdalpaopjaaaGreatDoor
section

theorem find_idx {α : Type} {p : α → Bool} : ∀ {l : List α}, l.find? p = l[l.findIdx p]?
  | [] => rfl
  | a :: l => by
    rw [List.find?_cons, List.findIdx_cons]
    cases p a
    · simpa using find_idx (p := p) (l := l)
    · rfl
theorem idx_find {α : Type} {p : α → Bool} {l : List α} (h : l.any p = true) : ∃ (i : Nat) (z : α), idxP p l = i ∧ l[i]? = some z ∧ p z = true ∧ l.find? p = some z := by
  obtain ⟨x, hx, hp⟩ := List.any_eq_true.1 h
  have hlt : l.findIdx p < l.length := List.findIdx_lt_length_of_exists ⟨x, hx, hp⟩
  have hg := List.getElem?_eq_getElem hlt
  refine ⟨l.findIdx p, l[l.findIdx p], ?_, hg, List.findIdx_getElem (w := hlt), by rw [find_idx, hg]⟩
  unfold idxP; rw [if_pos h]

/-! Hours. -/
/-- Do hours count at a moment? -/
def cntB (hs : List HrV) (k : ByteArray) (t : Int) : Bool := decide (nb k = []) || (hs.find? (fun h : HrV => nb h.key == nb k)).elim false (fun h => openAt h.zone h.rows h.hol t)
theorem hrs_one_of {l : List HrV} (h : hrsE l = 0) {a : HrV} (ha : a ∈ l) : hrsE [a] = 0 := by
  unfold hrsE at h
  split at h
  · omega
  · obtain ⟨i, hi⟩ := List.mem_iff_getElem?.1 ha
    have h1 := fstE_alh h (List.getElem?_eq_some_iff.1 hi).1
    cases hk : keyOk (nb a.key)
    · rw [hrAt_5 hi hk] at h1; omega
    · rw [hrAt_last hi hk] at h1
      split at h1
      · omega
      · show fstE (hrAt [a]) 1 = 0
        show (if fstE (hrAt [a]) 0 = 0 then hrAt [a] 0 else fstE (hrAt [a]) 0) = 0
        rw [show fstE (hrAt [a]) 0 = 0 from rfl, if_pos rfl, hrAt_z (z := a) rfl hk (by omega)]
        exact h1

/-! Rules. -/
structure RuRight (hs : List HrV) (r : RuV) : Prop where
  pat : ∃ x, patX (nb r.pat) = some x
  strip : 0 ≤ r.strip ∧ r.strip ≤ 30
  pre : r.pre.size ≤ 30
  hrs : hrsOk hs r.hrs = true
section
variable {hs : List HrV} {d : List Nat} {t : Int} {rules : List RuV}
end
/-! What Decide answers. -/
/-- What holds of a plan that is right. -/
structure PlRight (p : PlV) : Prop where
  hours : ∀ a ∈ p.hours, hrsE [a] = 0
  cn : p.cn ≤ 50
  mis : misB p.ctxs = false
  cx : ∀ (i : Nat) (c : CxV), p.ctxs[i]? = some c → CxRight p.hours c
  cxs : fstE (cxAt p.hours p.ctxs) p.cn = 0
end
end Go.Proofs.YtfakdalpaopjaaaGreatDoor
/- Forwards as they lie in memory, what is wrong with them and with states, chains, circles, in plain Lean. Conditions: none. -/
namespace Go.Proofs.YtfakdalpaopjaaaGreatDoor
section
open Go.RowKit Classical

/-- A forward. -/
structure FwV where
  line : ByteArray
  when_ : Int
  to_ : ByteArray
  hrs : ByteArray
def FwV.row (f : FwV) : List Value := [.string f.line, .int .i64 f.when_, .string f.to_, .string f.hrs]
theorem FwV.row_len (f : FwV) : f.row.length = 4 := rfl
def FwOk (f : FwV) : Prop := f.line.size ≤ 1000000 ∧ f.to_.size ≤ 1000000 ∧ f.hrs.size ≤ 1000000
def Fws (w : World) (lo : Nat) (A : Option Addr) (n c : Nat) (l : List FwV) : Prop := Recs FwV.row 4 w lo A n c l ∧ ∀ f ∈ l, FwOk f
theorem Fws.grown {w w' : World} {lo n c : Nat} {A : Option Addr} {l : List FwV} {r : Option Nat} (h : Fws w lo A n c l) (hg : w.grownBy w' r) (hr : ∀ g, r = some g → g < lo) : Fws w' lo A n c l := ⟨h.1.grown hg hr, h.2⟩
/-- A state of a line. -/
structure PrV where
  nam : ByteArray
  val : ByteArray
def PrV.row (f : PrV) : List Value := [.string f.nam, .string f.val]
theorem PrV.row_len (f : PrV) : f.row.length = 2 := rfl
def PrOk (f : PrV) : Prop := f.nam.size ≤ 1000000 ∧ f.val.size ≤ 1000000
def Prs (w : World) (lo : Nat) (A : Option Addr) (n c : Nat) (l : List PrV) : Prop := Recs PrV.row 2 w lo A n c l ∧ ∀ f ∈ l, PrOk f
theorem Prs.grown {w w' : World} {lo n c : Nat} {A : Option Addr} {l : List PrV} {r : Option Nat} (h : Prs w lo A n c l) (hg : w.grownBy w' r) (hr : ∀ g, r = some g → g < lo) : Prs w' lo A n c l := ⟨h.1.grown hg hr, h.2⟩

/-! What is wrong with forwards. -/
def fwCmp (a b : FwV) : Int := if cmpS a.line b.line = 0 then (if a.when_ = b.when_ then cmpS a.hrs b.hrs else a.when_ - b.when_) else cmpS a.line b.line
def fwF (hs : List HrV) (f : FwV) : Int :=
  if (keyOk (nb f.line) && keyOk (nb f.to_)) = true then (if inB f.when_ 1 3 = true then (if hrsOk hs f.hrs = true then (if (nb f.to_ == nb f.line) = true then 14 else 0) else 8) else 4) else 5
def fwAt (hs : List HrV) (l : List FwV) (i : Nat) : Int := (l[i]?).elim 0 fun f =>
  if fwF hs f = 0 then (if decide (0 < i) && (l[i - 1]?).elim false (fun b => decide (0 ≤ fwCmp b f)) then 7 else 0) else fwF hs f
def fwE (hs : List HrV) (l : List FwV) : Int := if 1000 < l.length then 2 else fstE (fwAt hs l) l.length
section
variable {hs : List HrV} {f b : FwV} {l : List FwV} {i : Nat}
theorem fwF_5 (h : (keyOk (nb f.line) && keyOk (nb f.to_)) = false) : fwF hs f = 5 := by unfold fwF; rw [h]; rfl
theorem fwF_4 (h : (keyOk (nb f.line) && keyOk (nb f.to_)) = true) (h1 : inB f.when_ 1 3 = false) : fwF hs f = 4 := by unfold fwF; rw [h, h1]; rfl
theorem fwF_8 (h : (keyOk (nb f.line) && keyOk (nb f.to_)) = true) (h1 : inB f.when_ 1 3 = true) (h2 : hrsOk hs f.hrs = false) : fwF hs f = 8 := by unfold fwF; rw [h, h1, h2]; rfl
theorem fwF_14 (h : (keyOk (nb f.line) && keyOk (nb f.to_)) = true) (h1 : inB f.when_ 1 3 = true) (h2 : hrsOk hs f.hrs = true) (h3 : (nb f.to_ == nb f.line) = true) : fwF hs f = 14 := by unfold fwF; rw [h, h1, h2, h3]; rfl
theorem fwF_0 (h : (keyOk (nb f.line) && keyOk (nb f.to_)) = true) (h1 : inB f.when_ 1 3 = true) (h2 : hrsOk hs f.hrs = true) (h3 : (nb f.to_ == nb f.line) = false) : fwF hs f = 0 := by unfold fwF; rw [h, h1, h2, h3]; rfl
theorem fwF_right (h : fwF hs f = 0) : keyOk (nb f.line) = true ∧ keyOk (nb f.to_) = true ∧ inB f.when_ 1 3 = true ∧ hrsOk hs f.hrs = true ∧ (nb f.to_ == nb f.line) = false := by
  cases h1 : (keyOk (nb f.line) && keyOk (nb f.to_))
  · rw [fwF_5 h1] at h; omega
  · cases h2 : inB f.when_ 1 3
    · rw [fwF_4 h1 h2] at h; omega
    · cases h3 : hrsOk hs f.hrs
      · rw [fwF_8 h1 h2 h3] at h; omega
      · cases h4 : (nb f.to_ == nb f.line)
        · simp only [Bool.and_eq_true] at h1
          exact ⟨h1.1, h1.2, rfl, rfl, rfl⟩
        · rw [fwF_14 h1 h2 h3 h4] at h; omega
theorem fwAt_f (h : l[i]? = some f) (h1 : fwF hs f ≠ 0) : fwAt hs l i = fwF hs f := by simp only [fwAt, h, Option.elim]; rw [if_neg h1]
theorem fwAt_z (h : l[i]? = some f) (h1 : fwF hs f = 0) (h0 : ¬ 0 < i) : fwAt hs l i = 0 := by simp only [fwAt, h, Option.elim, decide_eq_false h0, Bool.false_and]; rw [if_pos h1]; rfl
theorem fwAt_7 (h : l[i]? = some f) (h1 : fwF hs f = 0) (h0 : 0 < i) (hb : l[i - 1]? = some b) (hc : 0 ≤ fwCmp b f) : fwAt hs l i = 7 := by simp only [fwAt, h, Option.elim, decide_eq_true h0, hb, decide_eq_true hc]; rw [if_pos h1]; rfl
theorem fwAt_e (h : l[i]? = some f) (h1 : fwF hs f = 0) (hb : l[i - 1]? = some b) (hc : ¬ 0 ≤ fwCmp b f) : fwAt hs l i = 0 := by simp only [fwAt, h, Option.elim, hb, decide_eq_false hc, Bool.and_false]; rw [if_pos h1]; rfl
end

/-- What is wrong with a plan and forwards. -/
def chP (p : PlV) (LB : Bool) (l : List FwV) : Int := if plE p LB = 0 then fwE p.hours l else plE p LB
theorem chP_no {p : PlV} {LB : Bool} {l : List FwV} (h : plE p LB ≠ 0) : chP p LB l = plE p LB := if_neg h
theorem chP_yes {p : PlV} {LB : Bool} {l : List FwV} (h : plE p LB = 0) : chP p LB l = fwE p.hours l := if_pos h

/-! The order of forwards. -/
theorem fwCmp_trans {a b c : FwV} (h1 : fwCmp a b < 0) (h2 : fwCmp b c < 0) : fwCmp a c < 0 := by
  unfold fwCmp at *
  by_cases e1 : cmpS a.line b.line = 0
  · rw [if_pos e1] at h1
    have q1 : cmpS a.line c.line = cmpS b.line c.line := cmpS_eql (cmpS_zero.1 e1)
    rw [q1]
    by_cases e2 : cmpS b.line c.line = 0
    · rw [if_pos e2] at h2 ⊢
      by_cases e3 : a.when_ = b.when_
      · rw [if_pos e3] at h1
        by_cases e4 : b.when_ = c.when_
        · rw [if_pos e4] at h2
          rw [if_pos (e3.trans e4)]
          exact cmpS_trans h1 h2
        · rw [if_neg e4] at h2
          rw [if_neg (by omega)]; omega
      · rw [if_neg e3] at h1
        by_cases e4 : b.when_ = c.when_
        · rw [if_neg (by omega)]; omega
        · rw [if_neg e4] at h2
          rw [if_neg (by omega)]; omega
    · rw [if_neg e2] at h2 ⊢
      exact h2
  · rw [if_neg e1] at h1
    by_cases e2 : cmpS b.line c.line = 0
    · have q1 : cmpS a.line c.line = cmpS a.line b.line := (cmpS_eqr (cmpS_zero.1 e2)).symm
      rw [q1, if_neg e1]; exact h1
    · rw [if_neg e2] at h2
      have h3 := cmpS_trans h1 h2
      rw [if_neg (by omega)]; exact h3
/-- What holds of forwards that are right. -/
structure FwsRight (hs : List HrV) (l : List FwV) : Prop where
  len : l.length ≤ 1000
  all : ∀ f ∈ l, fwF hs f = 0
  adj : ∀ (i : Nat) (a b : FwV), l[i]? = some a → l[i + 1]? = some b → fwCmp a b < 0
theorem fws_right {hs : List HrV} {l : List FwV} (h : fwE hs l = 0) : FwsRight hs l := by
  unfold fwE at h
  split at h
  · omega
  · have hev := fstE_ev h
    have hall : ∀ (i : Nat) (f : FwV), l[i]? = some f → fwF hs f = 0 := by
      intro i f hf
      have h1 := hev i (List.getElem?_eq_some_iff.1 hf).1
      by_cases h2 : fwF hs f = 0
      · exact h2
      · rw [fwAt_f hf h2] at h1; exact absurd h1 h2
    refine ⟨by omega, fun f hf => ?_, fun i a b ha hb => ?_⟩
    · obtain ⟨i, hi⟩ := List.mem_iff_getElem?.1 hf
      exact hall i f hi
    · have h1 := hev (i + 1) (List.getElem?_eq_some_iff.1 hb).1
      by_cases h2 : 0 ≤ fwCmp a b
      · rw [fwAt_7 hb (hall _ _ hb) (by omega) (by rw [Nat.add_sub_cancel]; exact ha) h2] at h1; omega
      · omega
theorem FwsRight.lt {hs : List HrV} {l : List FwV} (h : FwsRight hs l) {i : Nat} {a : FwV} (ha : l[i]? = some a) : ∀ (d : Nat) (b : FwV), l[i + 1 + d]? = some b → fwCmp a b < 0
  | 0, b, hb => h.adj i a b ha hb
  | d + 1, b, hb => by
    obtain ⟨c, hc⟩ : ∃ c, l[i + 1 + d]? = some c := ⟨_, List.getElem?_eq_getElem (by have := (List.getElem?_eq_some_iff.1 hb).1; omega)⟩
    exact fwCmp_trans (h.lt ha d c hc) (h.adj (i + 1 + d) c b hc hb)

theorem chP_right {p : PlV} {LB : Bool} {l : List FwV} (h : chP p LB l = 0) : plE p LB = 0 ∧ FwsRight p.hours l := by
  by_cases e : plE p LB = 0
  · rw [chP_yes e] at h; exact ⟨e, fws_right h⟩
  · rw [chP_no e] at h; exact absurd h e

/-! States. -/
def bsy : List Nat := [98, 117, 115, 121]
def sil : List Nat := [115, 105, 108, 101, 110, 116]
def stV (v : List Nat) : Int := if v = bsy then 1 else if v = sil then 2 else 0
def stAt (l : List PrV) (i : Nat) : Int := (l[i]?).elim 0 fun s =>
  if keyOk (nb s.nam) = true then (if stV (nb s.val) = 0 then 3 else if (l.take i).any (fun o => nb o.nam == nb s.nam) = true then 6 else 0) else 5
def stE (l : List PrV) : Int := if 500 < l.length then 2 else fstE (stAt l) l.length
/-- How a line is, by the states. -/
def stH (l : List PrV) (k : ByteArray) : Int := l.foldl (fun h s => if nb s.nam = nb k then stV (nb s.val) else h) 0
section
variable {l : List PrV} {i : Nat} {s : PrV}
theorem stAt_5 (h : l[i]? = some s) (h1 : keyOk (nb s.nam) = false) : stAt l i = 5 := by unfold stAt; rw [h]; dsimp only [Option.elim]; rw [if_neg (by rw [h1]; decide)]
theorem stAt_3 (h : l[i]? = some s) (h1 : keyOk (nb s.nam) = true) (h2 : stV (nb s.val) = 0) : stAt l i = 3 := by unfold stAt; rw [h]; dsimp only [Option.elim]; rw [if_pos h1, if_pos h2]
theorem stAt_6 (h : l[i]? = some s) (h1 : keyOk (nb s.nam) = true) (h2 : stV (nb s.val) ≠ 0) (h3 : (l.take i).any (fun o => nb o.nam == nb s.nam) = true) : stAt l i = 6 := by unfold stAt; rw [h]; dsimp only [Option.elim]; rw [if_pos h1, if_neg h2, if_pos h3]
theorem stAt_0 (h : l[i]? = some s) (h1 : keyOk (nb s.nam) = true) (h2 : stV (nb s.val) ≠ 0) (h3 : (l.take i).any (fun o => nb o.nam == nb s.nam) = false) : stAt l i = 0 := by unfold stAt; rw [h]; dsimp only [Option.elim]; rw [if_pos h1, if_neg h2, if_neg (by rw [h3]; decide)]
theorem take_get1 {α : Type} {l : List α} {i : Nat} {s : α} (h : l[i]? = some s) : l.take (i + 1) = l.take i ++ [s] := by
  obtain ⟨h1, rfl⟩ := List.getElem?_eq_some_iff.1 h
  rw [List.take_succ_eq_append_getElem h1]
theorem stH_succ (h : l[i]? = some s) (k : ByteArray) : stH (l.take (i + 1)) k = if nb s.nam = nb k then stV (nb s.val) else stH (l.take i) k := by
  rw [take_get1 h]; unfold stH; rw [List.foldl_append]; rfl
theorem stV_cases (v : List Nat) : stV v = 0 ∨ stV v = 1 ∨ stV v = 2 := by
  unfold stV; split
  · exact .inr (.inl rfl)
  · split
    · exact .inr (.inr rfl)
    · exact .inl rfl
theorem stH_cases (l : List PrV) (k : ByteArray) : stH l k = 0 ∨ stH l k = 1 ∨ stH l k = 2 := by
  unfold stH
  suffices ∀ (l : List PrV) (h : Int), (h = 0 ∨ h = 1 ∨ h = 2) → (l.foldl (fun h s => if nb s.nam = nb k then stV (nb s.val) else h) h = 0 ∨ l.foldl (fun h s => if nb s.nam = nb k then stV (nb s.val) else h) h = 1 ∨ l.foldl (fun h s => if nb s.nam = nb k then stV (nb s.val) else h) h = 2) from this l 0 (.inl rfl)
  intro l
  induction l with
  | nil => exact fun h hh => hh
  | cons a l ih =>
    intro h hh
    rw [List.foldl_cons]
    apply ih
    split
    · exact stV_cases _
    · exact hh
/-- Where the states so far are right, a line is known just if it is among them. -/
theorem stH_known : ∀ {i : Nat}, i ≤ l.length → fstE (stAt l) i = 0 → ∀ k : ByteArray, (l.take i).any (fun o => nb o.nam == nb k) = decide (stH (l.take i) k ≠ 0)
  | 0, _, _, k => by simp [stH]
  | i + 1, hi, h, k => by
    obtain ⟨s, hs⟩ : ∃ s, l[i]? = some s := ⟨_, List.getElem?_eq_getElem (by omega)⟩
    have h0 : fstE (stAt l) i = 0 := by
      by_cases e : fstE (stAt l) i = 0
      · exact e
      · unfold fstE at h; rw [if_neg e] at h; exact absurd h e
    have h1 : stAt l i = 0 := fstE_ev h i (by omega)
    have ih := stH_known (by omega) h0 k
    have hv : stV (nb s.val) ≠ 0 := by
      intro e
      cases hk : keyOk (nb s.nam)
      · rw [stAt_5 hs hk] at h1; omega
      · rw [stAt_3 hs hk e] at h1; omega
    rw [stH_succ hs, take_get1 hs, List.any_append, ih]
    by_cases e : nb s.nam = nb k
    · rw [if_pos e]; simp [e, hv]
    · rw [if_neg e]; simp [e]
end
/-- Which forwards count for a line that is so. -/
def wantF (h : Int) : Int := if h = 1 then 2 else if h = 2 then 3 else 0

/-! Chains. -/
def nxP (hs : List HrV) (line : ByteArray) (t want : Int) (f : FwV) : Bool := (nb f.line == nb line) && (decide (f.when_ = 1) || decide (f.when_ = want)) && cntB hs f.hrs t
def nxF (hs : List HrV) (l : List FwV) (t : Int) (sts : List PrV) (line : ByteArray) : Option ByteArray := (l.find? (nxP hs line t (wantF (stH sts line)))).map (·.to_)
/-- The chain from a line: m lines more can be in it. -/
def chn (nx : ByteArray → Option ByteArray) : Nat → List ByteArray → ByteArray → List ByteArray × Int
  | 0, out, line => (nx line).elim (out, 0) fun t => if memS out t = true then ([], 14) else ([], 2)
  | m + 1, out, line => (nx line).elim (out, 0) fun t => if memS out t = true then ([], 14) else chn nx m (out ++ [t]) t
section
variable {nx : ByteArray → Option ByteArray} {m : Nat} {out : List ByteArray} {line t : ByteArray}
theorem chn_end (h : nx line = none) : chn nx m out line = (out, 0) := by cases m <;> simp [chn, h]
theorem chn_loop (h : nx line = some t) (h1 : memS out t = true) : chn nx m out line = ([], 14) := by cases m <;> simp [chn, h, h1]
theorem chn_large (h : nx line = some t) (h1 : memS out t = false) : chn nx 0 out line = ([], 2) := by simp [chn, h, h1]
theorem chn_more (h : nx line = some t) (h1 : memS out t = false) : chn nx (m + 1) out line = chn nx m (out ++ [t]) t := by simp [chn, h, h1]
end
/-! Circles. -/
/-- One forward leads from a to b. -/
def Edge (l : List FwV) (a b : ByteArray) : Prop := ∃ f ∈ l, f.line = a ∧ f.to_ = b
inductive Lds (l : List FwV) : ByteArray → ByteArray → Prop
  | here (a : ByteArray) : Lds l a a
  | more {a b c : ByteArray} : Lds l a b → Edge l b c → Lds l a c
/-- What is looked at, one line after the other: S those that were, Q those still to come; the search began with those of D. -/
structure Bf (l : List FwV) (D S Q : List ByteArray) : Prop where
  snd : ∀ x, (x ∈ S ∨ x ∈ Q) → ∃ d ∈ D, Lds l d x
  st : ∀ d ∈ D, d ∈ S ∨ d ∈ Q
  clo : ∀ x y, x ∈ S → Edge l x y → y ∈ S ∨ y ∈ Q
theorem memS_iff {L : List ByteArray} {k : ByteArray} : memS L k = true ↔ k ∈ L := by
  unfold memS
  rw [List.any_eq_true]
  constructor
  · rintro ⟨x, hx, h⟩; rw [beq_iff_eq] at h; rw [← nb_inj h]; exact hx
  · exact fun h => ⟨k, h, by simp⟩
section
variable {l : List FwV} {D S Q : List ByteArray} {x : ByteArray}
theorem Bf.new (l : List FwV) (D : List ByteArray) : Bf l D [] D := ⟨fun x h => h.elim (fun h => by cases h) (fun h => ⟨x, h, .here x⟩), fun d h => .inr h, fun x y h => by cases h⟩
theorem Bf.skip (h : Bf l D S (x :: Q)) (hx : memS S x = true) : Bf l D S Q := by
  have hx := memS_iff.1 hx
  have go : ∀ y, y ∈ S ∨ y ∈ x :: Q → y ∈ S ∨ y ∈ Q := by
    rintro y (h1 | h1)
    · exact .inl h1
    · rcases List.mem_cons.1 h1 with rfl | h1
      · exact .inl hx
      · exact .inr h1
  exact ⟨fun y hy => h.snd y (hy.imp id (List.mem_cons_of_mem _)), fun d hd => go d (h.st d hd), fun a b ha he => go b (h.clo a b ha he)⟩
end
/-- How much is still to be looked at. -/
def left (l : List FwV) (S : List ByteArray) : Nat := (l.filter fun f => !memS S f.line).length
end
end Go.Proofs.YtfakdalpaopjaaaGreatDoor

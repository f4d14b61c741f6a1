/- Contracts of floor, there, isOpen and OpenOf. Conditions: hours that are right. -/
import Derived.Test.YtpjheibkacbbcaaGreatDoorHou1
import Derived.Test.YtpjheibkacbbcaaGreatDoorBun1
namespace Go.Proofs.YtpjheibkacbbcaaGreatDoor
open Go.RowKit

theorem fl_neg {a b : Int} (hb : 0 < b) (h : a.tmod b < 0) : a.tdiv b - 1 = a / b := by
  rw [Int.tmod_eq_emod] at h
  rw [Int.tdiv_eq_ediv]
  have h0 := Int.emod_nonneg a (show b ≠ 0 by omega)
  split at h
  · omega
  · rename_i hc
    rw [if_neg hc, Int.sign_eq_one_of_pos hb]; omega
theorem fl_pos {a b : Int} (hb : 0 < b) (h : 0 ≤ a.tmod b) : a.tdiv b = a / b := by
  rw [Int.tmod_eq_emod] at h
  rw [Int.tdiv_eq_ediv]
  have h1 := Int.emod_lt_of_pos a hb
  split at h
  · rename_i hc
    rw [if_pos hc]; omega
  · exfalso; omega
theorem fl_bd {a b : Int} (ha : -1000000000000 ≤ a) (ha2 : a ≤ 1000000000000) (hb : 0 < b) : -1000000000001 ≤ a / b ∧ a / b ≤ 1000000000000 := by
  constructor
  · rw [Int.le_ediv_iff_mul_le hb]
    have : -1000000000001 * b ≤ -1000000000001 * 1 := Int.mul_le_mul_of_nonpos_left (by omega) (by omega)
    omega
  · rcases Int.lt_or_le a 0 with h | h
    · have := Int.ediv_neg_of_neg_of_pos h hb; omega
    · have := Int.ediv_le_self b h; omega
set_option maxHeartbeats 1000000 in
theorem floorD_any (a b : Int) (w : World) (ha : -1000000000000 ≤ a) (ha2 : a ≤ 1000000000000) (hb : 0 < b) (hb2 : b ≤ 100000000) : Calls Tryz.prog 254 #[.int .i64 a, .int .i64 b] w (Same (.int .i64 (a / b)) w) := by
  obtain ⟨k1, k2⟩ := fl_bd ha ha2 hb
  by_cases h : a.tmod b < 0
  · have e := fl_neg hb h
    have d1 : decide (a.tmod b < 0) = true := decide_eq_true h
    have k3 : -1000000000002 ≤ a.tdiv b := by omega
    have k4 : a.tdiv b ≤ 1000000000002 := by omega
    have E2 := Lib.hid e; clear e
    go_enter Tryz.func254, Tryz.ntmps254
    go_wp2_with fail
    go_ret
    exact ⟨by rw [← E2.out]; rfl, rfl⟩
  · have e := fl_pos (a := a) hb (by omega)
    have d1 : decide (a.tmod b < 0) = false := decide_eq_false h
    have E2 := Lib.hid e; clear e
    go_enter Tryz.func254, Tryz.ntmps254
    go_wp2_with fail
    go_ret
    exact ⟨by rw [← E2.out]; rfl, rfl⟩
set_option maxHeartbeats 1000000 in
theorem floorR_any (a b : Int) (w : World) (ha : -1000000000000 ≤ a) (ha2 : a ≤ 1000000000000) (hb : 0 < b) (hb2 : b ≤ 100000000) : Calls Tryz.prog 243 #[.int .i64 a, .int .i64 b] w (Same (.int .i64 (a / b)) w) := by
  obtain ⟨k1, k2⟩ := fl_bd ha ha2 hb
  by_cases h : a.tmod b < 0
  · have e := fl_neg hb h
    have d1 : decide (a.tmod b < 0) = true := decide_eq_true h
    have k3 : -1000000000002 ≤ a.tdiv b := by omega
    have k4 : a.tdiv b ≤ 1000000000002 := by omega
    have E2 := Lib.hid e; clear e
    go_enter Tryz.func243, Tryz.ntmps243
    go_wp2_with fail
    go_ret
    exact ⟨by rw [← E2.out]; rfl, rfl⟩
  · have e := fl_pos (a := a) hb (by omega)
    have d1 : decide (a.tmod b < 0) = false := decide_eq_false h
    have E2 := Lib.hid e; clear e
    go_enter Tryz.func243, Tryz.ntmps243
    go_wp2_with fail
    go_ret
    exact ⟨by rw [← E2.out]; rfl, rfl⟩

/-! Bits of days. -/
theorem bits_one : ∀ x : Fin 128, bits BinOp.and IntKind.i64 (x.val : Int) 1 = (x.val : Int) % 2 := by decide +kernel
theorem bits_day {d wk : Int} (g0 : 0 ≤ d) (g1 : d ≤ 127) : bits BinOp.and IntKind.i64 (d / 2 ^ wk.toNat) 1 = if dayB d wk then 1 else 0 := by
  obtain ⟨x, hx⟩ : ∃ x, d / 2 ^ wk.toNat = x := ⟨_, rfl⟩
  have hp : (0 : Int) < 2 ^ wk.toNat := Int.pow_pos (by omega)
  have x0 : 0 ≤ x := by rw [← hx]; exact Int.ediv_nonneg g0 (by omega)
  have x1 : x ≤ 127 := by rw [← hx]; have := Int.ediv_le_self (2 ^ wk.toNat) g0; omega
  have h := bits_one ⟨x.toNat, by omega⟩
  have e : ((x.toNat : Nat) : Int) = x := Int.toNat_of_nonneg x0
  dsimp only at h
  rw [e] at h
  unfold dayB
  rw [hx, h]
  by_cases c : x % 2 = 1
  · rw [c]; rfl
  · have : x % 2 = 0 := by omega
    rw [this]; rfl
theorem pow_day {d wk : Int} (g0 : 0 ≤ d) (g1 : d ≤ 127) : 0 ≤ d / 2 ^ wk.toNat ∧ d / 2 ^ wk.toNat ≤ 127 :=
  ⟨Int.ediv_nonneg g0 (by have : (0 : Int) < 2 ^ wk.toNat := Int.pow_pos (by omega); omega), by have := Int.ediv_le_self (2 ^ wk.toNat) g0; omega⟩

/-! Open or closed, place by place. -/
def winM (m : Int) (p : Int × Int × Int) : Bool := decide (p.2.1 ≤ m) && decide (m < p.2.2)
def rowM (wk m : Int) (r : Int × Int × Int) : Bool := dayB r.1 wk && winM m r
def isDay (D : Int) (d : Int × Int × Int) : Bool := d.1 == D
theorem find_at {α : Type} {p : α → Bool} {l : List α} {i : Nat} {z : α} (h : (l.take i).all (fun x => !p x) = true) (hz : l[i]? = some z) (hp : p z = true) : l.find? p = some z := by
  induction l generalizing i with
  | nil => cases hz
  | cons a l ih =>
    cases i with
    | zero => simp only [List.getElem?_cons_zero, Option.some.injEq] at hz; subst hz; rw [List.find?_cons, hp]
    | succ i =>
      rw [List.take_succ_cons, List.all_cons, Bool.and_eq_true] at h
      have ha : p a = false := by simpa using h.1
      rw [List.find?_cons, ha]
      exact ih h.2 (by simpa using hz)
theorem find_no {α : Type} {p : α → Bool} {l : List α} (h : l.all (fun x => !p x) = true) : l.find? p = none := by
  rw [List.find?_eq_none]
  intro x hx
  have := List.all_eq_true.1 h x hx
  simpa using this
theorem any_at {α : Type} {p : α → Bool} {l : List α} {i : Nat} {z : α} (hz : l[i]? = some z) (hp : p z = true) : l.any p = true := List.any_eq_true.2 ⟨z, mem_of_get hz, hp⟩
theorem any_no {α : Type} {p : α → Bool} {l : List α} (h : l.all (fun x => !p x) = true) : l.any p = false := by
  rw [Bool.eq_false_iff]; intro h2
  obtain ⟨x, hx, hp⟩ := List.any_eq_true.1 h2
  have := List.all_eq_true.1 h x hx
  simp [hp] at this
theorem openM_at {rows hol : List (Int × Int × Int)} {M : Int} {i : Nat} {z : Int × Int × Int} (h : (hol.take i).all (fun x => !(isDay (M / 1440) x)) = true) (hz : hol[i]? = some z) (hp : isDay (M / 1440) z = true) : openM rows hol M = winM (M % 1440) z := by
  unfold openM
  rw [show hol.find? (fun d => d.1 == M / 1440) = some z from find_at (p := isDay (M / 1440)) h hz hp]; rfl
theorem openM_no {rows hol : List (Int × Int × Int)} {M : Int} (h : hol.all (fun x => !(isDay (M / 1440) x)) = true) : openM rows hol M = rows.any (rowM (M / 1440 % 7) (M % 1440)) := by
  unfold openM
  rw [show hol.find? (fun d => d.1 == M / 1440) = none from find_no (p := isDay (M / 1440)) h]; rfl
def HrRight (a : HrV) : Prop := RightH a.zone a.rows a.hol
set_option maxHeartbeats 4000000 in
theorem isOpen_any (lo : Nat) (a : HrV) (t : Int) (w : World) (h : HrOk w lo a) (hr : HrRight a) (t0 : -1 ≤ t) (t1 : t ≤ 345686400000) :
    Calls Tryz.prog 200 #[.agg #[.string a.key, .int .i64 a.zone, .slice a.rA a.rn a.rc, .slice a.hA a.hn a.hc], .int .i64 t] w (RetV (.bool (openAt a.zone a.rows a.hol t)) w) := by
  obtain ⟨key, zone, rA, rn, rc, qA, qn, qc, rows, hol⟩ := a
  obtain ⟨⟨b1, b2, b3⟩, hrr, hhh⟩ := h
  obtain ⟨⟨z0, z1⟩, _, hr1, hr2⟩ := hr
  dsimp only at b1 b2 b3 hrr hhh z0 z1 hr1 hr2 ⊢
  obtain ⟨M, hM⟩ : ∃ M, t / 60000 + zone = M := ⟨_, rfl⟩
  have HV := Lib.hid (show openAt zone rows hol t = openM rows hol M by unfold openAt; rw [hM])
  obtain ⟨D, hD⟩ : ∃ D, M / 1440 = D := ⟨_, rfl⟩
  obtain ⟨m, hm⟩ : ∃ m, M % 1440 = m := ⟨_, rfl⟩
  obtain ⟨wk, hwk⟩ : ∃ wk, D % 7 = wk := ⟨_, rfl⟩
  obtain ⟨q, hq⟩ : ∃ q, D / 7 = q := ⟨_, rfl⟩
  have e1 : (t + zone * 60000) / 86400000 = D := by rw [← hD, ← hM]; exact day_of zone t
  have e2 : (t + zone * 60000 - D * 86400000) / 60000 = m := by rw [← hm, ← hM, ← e1]; exact min_of zone t
  have w0 : 0 ≤ wk := by omega
  have w1 : wk ≤ 6 := by omega
  have m0 : 0 ≤ m := by omega
  have m1 : m ≤ 1439 := by omega
  have D0 : -1000000 ≤ D := by omega
  have D1 : D ≤ 1000000 := by omega
  have q0 : -1000000 ≤ q := by omega
  have q1 : q ≤ 1000000 := by omega
  have p0 : 0 ≤ t + zone * 60000 - D * 86400000 := by omega
  have p1 : t + zone * 60000 - D * 86400000 ≤ 86400000 := by omega
  have e3 : D - 7 * q = wk := by omega
  have HR := Lib.hid hrr; have HH := Lib.hid hhh; have HR1 := Lib.hid hr1; have HR2 := Lib.hid hr2
  have HM := Lib.hid hM; have HD := Lib.hid hD; have Hm := Lib.hid hm; have HW := Lib.hid hwk; have HQ := Lib.hid hq; have E1 := Lib.hid e1; have E2 := Lib.hid e2; have E3 := Lib.hid e3
  clear hrr hhh hr1 hr2 hM hD hm hwk hq e1 e2 e3 b1
  go_enter Tryz.func200, Tryz.ntmps200
  go_wp2_with (first
    | (go_at_call 254; refine (floorD_any _ _ _ (by omega) (by omega) (by omega) (by omega)).mono ?_; rintro e w' ⟨rfl, rfl⟩; rw [E1.out])
    | fail)
  rw [E2.out]
  go_loopw [9, 28] (fun _ t wr => ∃ i : Nat, i ≤ qn ∧ t = .int .i64 i ∧ w.grownBy wr none ∧ Blk wr w.heap.size 157 #[.string key, .int .i64 zone, .slice rA rn rc, .slice qA qn qc] ∧ (hol.take i).all (fun x => !(isDay (M / 1440) x)) = true) (fun _ t _ => qn - (intOf t).toNat)
  case atStart => exact ⟨0, Nat.zero_le _, rfl, gr_alloc (gr_refl _ _) _, Blk.new _ _ _, by simp⟩
  case round =>
    obtain ⟨i, hi, rfl, hg, hbl, ha⟩ := hrel
    have zr := hg.size
    have hbl1 := hbl.lt
    have HA := Lib.hid ha; have HG := Lib.hid hg; have HB := Lib.hid hbl; clear ha hg hbl
    by_cases hlt : i < qn
    · obtain ⟨g, o, ⟨dy, df, dt⟩, rfl, _, hgl, hz, hc⟩ := (HH.out.grown HG.out (fun g e => by cases e)).get r3Row_len hlt
      have HZ := Lib.hid hz; have HC := Lib.hid hc; clear hz hc
      by_cases hdy : dy = D
      · subst hdy
        have HFIN := Lib.hid (show openAt zone rows hol t = (decide (df ≤ m) && decide (m < dt)) by rw [HV.out, openM_at HA.out HZ.out (by rw [HD.out]; simp [isDay]), Hm.out]; rfl)
        cases c1 : decide (df ≤ m)
        · go_wp2_with (first
            | (refine wpl_load_at Tryz.hoT rfl _ rfl _ rfl [.int .i64 dy, .int .i64 df, .int .i64 dt] rfl (fun j u hu => by rw [add_mk]; exact HC.out j u hu) ?_)
            | fail)
          go_ret
          exact ⟨by rw [HFIN.out, c1]; try rfl, gr_alloc HG.out _⟩
        · cases c2 : decide (m < dt)
          all_goals
            go_wp2_with (first
              | (refine wpl_load_at Tryz.hoT rfl _ rfl _ rfl [.int .i64 dy, .int .i64 df, .int .i64 dt] rfl (fun j u hu => by rw [add_mk]; exact HC.out j u hu) ?_)
              | fail)
            go_ret
            exact ⟨by rw [HFIN.out, c1, c2]; try rfl, gr_alloc HG.out _⟩
      · have hne : (dy == D) = false := by simpa using hdy
        have HN := Lib.hid (show isDay (M / 1440) (dy, df, dt) = false by rw [HD.out]; exact hne)
        clear hdy
        go_wp2_with (first
          | (refine wpl_load_at Tryz.hoT rfl _ rfl _ rfl [.int .i64 dy, .int .i64 df, .int .i64 dt] rfl (fun j u hu => by rw [add_mk]; exact HC.out j u hu) ?_)
          | fail)
        go_roundw
        case rel => exact ⟨i + 1, by omega, by go_num, gr_alloc HG.out _, HB.out.alloc _, allP_succ HA.out HZ.out HN.out⟩
        case measure => simp [intOf]; omega
    · obtain rfl : i = qn := by omega
      obtain ⟨wo, rfl⟩ : ∃ wo : World, wo = wr := ⟨_, rfl⟩
      have HV2 := Lib.hid (show openAt zone rows hol t = rows.any (rowM wk m) by
        have h := HA.out
        rw [List.take_of_length_le (by rw [HH.out.len]; exact Nat.le_refl _)] at h
        rw [HV.out, openM_no h, HD.out, Hm.out, HW.out])
      have HG0 := HG; have HB0 := HB
      have ka2 := HB.out.cell 2
      clear HA HG HB HV
      go_wp2_with (first
        | (go_at_call 254; refine (floorD_any _ _ _ (by omega) (by omega) (by omega) (by omega)).mono ?_; rintro e w' ⟨rfl, rfl⟩; rw [HQ.out])
        | fail)
      rw [E3.out]
      clear ka2
      go_loopw [12, 55] (fun _ t wr => ∃ i : Nat, i ≤ rn ∧ t = .int .i64 i ∧ w.grownBy wr none ∧ (rows.take i).all (fun x => !(rowM wk m x)) = true) (fun _ t _ => rn - (intOf t).toNat)
      case atStart => exact ⟨0, Nat.zero_le _, rfl, HG0.out, by simp⟩
      case round =>
        clear HG0 HB0
        obtain ⟨i, hi, rfl, hg, ha⟩ := hrel
        have zr := hg.size
        have HA := Lib.hid ha; have HG := Lib.hid hg; clear ha hg
        by_cases hlt : i < rn
        · obtain ⟨g, o, ⟨dy, df, dt⟩, rfl, _, hgl, hz, hc⟩ := (HR.out.grown HG.out (fun g e => by cases e)).get r3Row_len hlt
          obtain ⟨⟨y1, y2⟩, y3, y4, y5, y6⟩ := HR1.out _ (mem_of_get hz)
          dsimp only at y1 y2 y3 y4 y5 y6
          have HZ := Lib.hid hz; have HC := Lib.hid hc; clear hz hc
          have hbt := bits_day (wk := wk) (show 0 ≤ dy by omega) y2
          obtain ⟨x0, x1⟩ := pow_day (wk := wk) (show 0 ≤ dy by omega) y2
          obtain ⟨B, hB⟩ : ∃ B, dayB dy wk = B := ⟨_, rfl⟩
          rw [hB] at hbt
          have HRM := Lib.hid (show rowM wk m (dy, df, dt) = (B && (decide (df ≤ m) && decide (m < dt))) by rw [← hB]; rfl)
          clear hB
          cases B
          · have hb0 : bits BinOp.and IntKind.i64 (dy / 2 ^ wk.toNat) 1 = 0 := hbt
            clear hbt
            go_wp2_with (first
              | (refine wpl_load_at Tryz.rwT rfl _ rfl _ rfl [.int .i64 dy, .int .i64 df, .int .i64 dt] rfl (fun j u hu => by rw [add_mk]; exact HC.out j u hu) ?_)
              | fail)
            go_roundw
            case rel => exact ⟨i + 1, by omega, by go_num, gr_alloc HG.out _, allP_succ HA.out HZ.out (by rw [HRM.out]; rfl)⟩
            case measure => simp [intOf]; omega
          · have hb0 : bits BinOp.and IntKind.i64 (dy / 2 ^ wk.toNat) 1 = 1 := hbt
            clear hbt
            cases c1 : decide (df ≤ m)
            · go_wp2_with (first
                | (refine wpl_load_at Tryz.rwT rfl _ rfl _ rfl [.int .i64 dy, .int .i64 df, .int .i64 dt] rfl (fun j u hu => by rw [add_mk]; exact HC.out j u hu) ?_)
                | fail)
              go_roundw
              case rel => exact ⟨i + 1, by omega, by go_num, gr_alloc HG.out _, allP_succ HA.out HZ.out (by rw [HRM.out, c1]; rfl)⟩
              case measure => simp [intOf]; omega
            · cases c2 : decide (m < dt)
              · go_wp2_with (first
                  | (refine wpl_load_at Tryz.rwT rfl _ rfl _ rfl [.int .i64 dy, .int .i64 df, .int .i64 dt] rfl (fun j u hu => by rw [add_mk]; exact HC.out j u hu) ?_)
                  | fail)
                go_roundw
                case rel => exact ⟨i + 1, by omega, by go_num, gr_alloc HG.out _, allP_succ HA.out HZ.out (by rw [HRM.out, c1, c2]; rfl)⟩
                case measure => simp [intOf]; omega
              · have HFIN := Lib.hid (show rows.any (rowM wk m) = true from any_at HZ.out (by rw [HRM.out, c1, c2]; rfl))
                go_wp2_with (first
                  | (refine wpl_load_at Tryz.rwT rfl _ rfl _ rfl [.int .i64 dy, .int .i64 df, .int .i64 dt] rfl (fun j u hu => by rw [add_mk]; exact HC.out j u hu) ?_)
                  | fail)
                go_ret
                exact ⟨by rw [HV2.out, HFIN.out]; try rfl, gr_alloc HG.out _⟩
        · obtain rfl : i = rn := by omega
          have HFIN := Lib.hid (show rows.any (rowM wk m) = false by
            have h := HA.out
            rw [List.take_of_length_le (by rw [HR.out.len]; exact Nat.le_refl _)] at h
            exact any_no h)
          go_wp2_with fail
          go_ret
          exact ⟨by rw [HV2.out, HFIN.out]; try rfl, HG.out⟩

/-! The document. -/
theorem blk_newH (w : World) (t : TypeId) (cs : Array Value) {g : Nat} (hg : w.heap.size = g) : Blk (w.alloc (.cells cs t)) g t cs := by subst hg; exact Blk.new _ _ _
set_option maxHeartbeats 1000000 in
theorem there_any (zone t : Int) (w : World) (z0 : -1440 ≤ zone) (z1 : zone ≤ 1440) (t0 : -1 ≤ t) (t1 : t ≤ 345686400000) :
    Calls Tryz.prog 242 #[.int .i64 zone, .int .i64 t] w (Same (.tuple #[.int .i64 ((t + zone * 60000) / 86400000), .int .i64 ((t / 60000 + zone) % 1440)]) w) := by
  obtain ⟨D, hD⟩ : ∃ D, (t + zone * 60000) / 86400000 = D := ⟨_, rfl⟩
  obtain ⟨m, hm⟩ : ∃ m, (t / 60000 + zone) % 1440 = m := ⟨_, rfl⟩
  have e2 : (t + zone * 60000 - D * 86400000) / 60000 = m := by rw [← hm, ← hD]; exact min_of zone t
  have D0 : -1000000 ≤ D := by omega
  have D1 : D ≤ 1000000 := by omega
  have p0 : 0 ≤ t + zone * 60000 - D * 86400000 := by omega
  have p1 : t + zone * 60000 - D * 86400000 ≤ 86400000 := by omega
  rw [hD, hm]
  have E1 := Lib.hid hD; have E2 := Lib.hid e2
  clear hD hm e2
  go_enter Tryz.func242, Tryz.ntmps242
  go_wp2_with (first
    | (go_at_call 243; refine (floorR_any _ _ _ (by omega) (by omega) (by omega) (by omega)).mono ?_; rintro e w' ⟨rfl, rfl⟩; rw [E1.out])
    | fail)
  rw [E2.out]
  go_ret2
  exact ⟨rfl, rfl⟩
theorem inB_win (m : Int) (p : Int × Int × Int) : inB m p.2.1 (p.2.2 - 1) = winM m p := by
  unfold inB winM
  rw [Bool.eq_iff_iff]; simp only [Bool.and_eq_true, decide_eq_true_eq]; omega
set_option maxHeartbeats 1000000 in
theorem openFn_any (r : Int × Int × Int) (wk m : Int) (tb mb : Nat) (w : World) (hb : Blk w tb 3 #[.int .i64 wk]) (hm : Blk w mb 3 #[.int .i64 m]) (h0 : 0 ≤ wk) (h6 : wk ≤ 6) (g0 : 0 ≤ r.1) (g1 : r.1 ≤ 127) (g2 : 0 ≤ r.2.2) (g3 : r.2.2 ≤ 1440) :
    Calls Tryz.prog 245 #[.agg #[.int .i64 r.1, .int .i64 r.2.1, .int .i64 r.2.2], .pointer (some ⟨tb, 0, none⟩), .pointer (some ⟨mb, 0, none⟩)] w (RetV (.bool (rowM wk m r)) w) := by
  obtain ⟨dy, df, dt⟩ := r
  dsimp only at g0 g1 g2 g3 ⊢
  have hl1 := hb.lt
  have hl2 := hm.lt
  have kb := (hb.alloc (.cells #[.int .i64 dy, .int .i64 df, .int .i64 dt] 159)).cell 0
  have km := (hm.alloc (.cells #[.int .i64 dy, .int .i64 df, .int .i64 dt] 159)).cell 0
  have hbt := bits_day (wk := wk) g0 g1
  obtain ⟨x0, x1⟩ := pow_day (wk := wk) g0 g1
  obtain ⟨B, hB⟩ : ∃ B, dayB dy wk = B := ⟨_, rfl⟩
  rw [hB] at hbt
  have HRM := Lib.hid (show rowM wk m (dy, df, dt) = (B && winM m (dy, df, dt)) by rw [← hB]; rfl)
  have HIN := Lib.hid (inB_win m (dy, df, dt))
  clear hb hm hB
  cases B
  · have hb0 : bits BinOp.and IntKind.i64 (dy / 2 ^ wk.toNat) 1 = 0 := hbt
    clear hbt
    go_enter Tryz.func245, Tryz.ntmps245
    go_wp2_with fail
    go_ret
    exact ⟨by rw [HRM.out]; rfl, gr_alloc (gr_refl _ _) _⟩
  · have hb0 : bits BinOp.and IntKind.i64 (dy / 2 ^ wk.toNat) 1 = 1 := hbt
    clear hbt
    obtain ⟨C, hC⟩ : ∃ C, winM m (dy, df, dt) = C := ⟨_, rfl⟩
    have HC := Lib.hid hC; clear hC
    go_enter Tryz.func245, Tryz.ntmps245
    go_wp2_with (first
      | (go_at_call 105; refine (in_any _ _ _ _).mono ?_; rintro e w' ⟨rfl, rfl⟩; rw [show inB m df (dt - 1) = C from HIN.out.trans HC.out])
      | fail)
    go_ret
    exact ⟨by rw [HRM.out, HC.out]; rfl, gr_alloc (gr_refl _ _) _⟩
def RowsIn (l : List (Int × Int × Int)) : Prop := ∀ r ∈ l, 0 ≤ r.1 ∧ r.1 ≤ 127 ∧ 0 ≤ r.2.2 ∧ r.2.2 ≤ 1440
set_option maxHeartbeats 2000000 in
theorem openIdx_any (lo : Nat) (A : Option Addr) (n c : Nat) (l : List (Int × Int × Int)) (wk m : Int) (tb mb : Nat) (w : World) (h : Recs r3Row 3 w lo A n c l) (hl : RowsIn l) (hn : n ≤ 1000000000000) (hb : Blk w tb 3 #[.int .i64 wk]) (hm : Blk w mb 3 #[.int .i64 m]) (h0 : 0 ≤ wk) (h6 : wk ≤ 6) :
    Calls Tryz.prog 287 #[.slice A n c, .func (.func 245) #[] #[.pointer (some ⟨tb, 0, none⟩), .pointer (some ⟨mb, 0, none⟩)]] w (RetV (.int .i64 (idxP (rowM wk m) l)) w) := by
  have H := Lib.hid h; have HB := Lib.hid hb; have HM := Lib.hid hm; have HL := Lib.hid hl; clear h hb hm hl
  go_enter Tryz.func287, Tryz.ntmps287
  go_wp2_with fail
  go_loopw [5, 8] (fun _ t' wr => ∃ i : Nat, i ≤ n ∧ t' = .int .i64 i ∧ w.grownBy wr none ∧ (l.take i).all (fun x => !(rowM wk m x)) = true) (fun _ t' _ => n - (intOf t').toNat)
  case atStart => exact ⟨0, Nat.zero_le _, rfl, gr_refl _ _, by simp⟩
  case round =>
    obtain ⟨i, hi, rfl, hg, ha⟩ := hrel
    have HA := Lib.hid ha; have HG := Lib.hid hg; clear ha hg
    by_cases hlt : i < n
    · obtain ⟨g, o, ⟨dy, df, dt⟩, rfl, _, hgl, hz, hc⟩ := (H.out.grown HG.out (fun g e => by cases e)).get r3Row_len hlt
      obtain ⟨y1, y2, y3, y4⟩ := HL.out _ (mem_of_get hz)
      have HZ := Lib.hid hz; have HC := Lib.hid hc; clear hz hc
      obtain ⟨B, hB⟩ : ∃ B, rowM wk m (dy, df, dt) = B := ⟨_, rfl⟩
      have HE := Lib.hid hB; clear hB
      cases B
      all_goals
        go_wp2_with (first
          | (refine wpl_load_at Tryz.rwT rfl _ rfl _ rfl [.int .i64 dy, .int .i64 df, .int .i64 dt] rfl (fun j u hu => by rw [add_mk]; exact HC.out j u hu) ?_)
          | (go_at_call 245; refine (openFn_any (dy, df, dt) wk m tb mb _ (HB.out.grown HG.out (by simp)) (HM.out.grown HG.out (by simp)) h0 h6 y1 y2 y3 y4).mono ?_; rintro e w2 ⟨rfl, hg2⟩; rw [HE.out]; have HG2 := Lib.hid (gr_none HG.out hg2); clear hg2)
          | fail)
      · go_roundw
        case rel => exact ⟨i + 1, by omega, by go_num, HG2.out, allP_succ HA.out HZ.out HE.out⟩
        case measure => simp [intOf]; omega
      · go_ret
        exact ⟨by rw [idxP_some (p := rowM wk m) HA.out HZ.out HE.out]; rfl, HG2.out⟩
    · obtain rfl : i = n := by omega
      go_wp2_with fail
      go_ret
      have h := HA.out
      rw [List.take_of_length_le (by rw [H.out.len]; exact Nat.le_refl _)] at h
      exact ⟨by rw [idxP_none (p := rowM wk m) h]; rfl, HG.out⟩
set_option maxHeartbeats 1000000 in
theorem openHas_any (lo : Nat) (A : Option Addr) (n c : Nat) (l : List (Int × Int × Int)) (wk m : Int) (tb mb : Nat) (w : World) (h : Recs r3Row 3 w lo A n c l) (hl : RowsIn l) (hn : n ≤ 1000000000000) (hb : Blk w tb 3 #[.int .i64 wk]) (hm : Blk w mb 3 #[.int .i64 m]) (h0 : 0 ≤ wk) (h6 : wk ≤ 6) :
    Calls Tryz.prog 244 #[.slice A n c, .func (.func 245) #[] #[.pointer (some ⟨tb, 0, none⟩), .pointer (some ⟨mb, 0, none⟩)]] w (RetV (.bool (l.any (rowM wk m))) w) := by
  have H := Lib.hid h; have HB := Lib.hid hb; have HM := Lib.hid hm; have HL := Lib.hid hl; clear h hb hm hl
  have HI := Lib.hid (idxP_any (p := rowM wk m) (l := l))
  obtain ⟨I, hI⟩ : ∃ I, idxP (rowM wk m) l = I := ⟨_, rfl⟩
  rw [hI] at HI
  have HI2 := Lib.hid hI; clear hI
  go_enter Tryz.func244, Tryz.ntmps244
  go_wp2_with (first
    | (go_at_call 287; refine (openIdx_any lo _ _ _ l wk m tb mb _ H.out HL.out hn HB.out HM.out h0 h6).mono ?_; rintro e w2 ⟨rfl, hg2⟩; rw [HI2.out]; have HG2 := Lib.hid hg2; clear hg2)
    | fail)
  go_ret
  exact ⟨by rw [← HI.out]; rfl, HG2.out⟩
set_option maxHeartbeats 4000000 in
theorem openOf_any (lo : Nat) (a : HrV) (t : Int) (w : World) (h : HrOk w lo a) (hr : HrRight a) (t0 : -1 ≤ t) (t1 : t ≤ 345686400000) :
    Calls Tryz.prog 182 #[.agg #[.string a.key, .int .i64 a.zone, .slice a.rA a.rn a.rc, .slice a.hA a.hn a.hc], .int .i64 t] w (RetV (.bool (openAt a.zone a.rows a.hol t)) w) := by
  obtain ⟨key, zone, rA, rn, rc, qA, qn, qc, rows, hol⟩ := a
  obtain ⟨⟨b1, b2, b3⟩, hrr, hhh⟩ := h
  obtain ⟨⟨z0, z1⟩, _, hr1, hr2⟩ := hr
  dsimp only at b1 b2 b3 hrr hhh z0 z1 hr1 hr2 ⊢
  obtain ⟨M, hM⟩ : ∃ M, t / 60000 + zone = M := ⟨_, rfl⟩
  have HV := Lib.hid (show openAt zone rows hol t = openM rows hol M by unfold openAt; rw [hM])
  obtain ⟨D, hD⟩ : ∃ D, M / 1440 = D := ⟨_, rfl⟩
  obtain ⟨m, hm⟩ : ∃ m, M % 1440 = m := ⟨_, rfl⟩
  obtain ⟨wk, hwk⟩ : ∃ wk, D % 7 = wk := ⟨_, rfl⟩
  obtain ⟨q, hq⟩ : ∃ q, D / 7 = q := ⟨_, rfl⟩
  have e1 : (t + zone * 60000) / 86400000 = D := by rw [← hD, ← hM]; exact day_of zone t
  have w0 : 0 ≤ wk := by omega
  have w1 : wk ≤ 6 := by omega
  have m0 : 0 ≤ m := by omega
  have m1 : m ≤ 1439 := by omega
  have D0 : -1000000 ≤ D := by omega
  have D1 : D ≤ 1000000 := by omega
  have q0 : -1000000 ≤ q := by omega
  have q1 : q ≤ 1000000 := by omega
  have e3 : D - 7 * q = wk := by omega
  have HRI := Lib.hid (show RowsIn rows from fun r hr => by obtain ⟨⟨y1, y2⟩, y3, y4, y5, y6⟩ := hr1 r hr; exact ⟨by omega, y2, y5, y6⟩)
  have HR := Lib.hid hrr; have HH := Lib.hid hhh; have HR2 := Lib.hid hr2
  have HM := Lib.hid hM; have HD := Lib.hid hD; have Hm := Lib.hid hm; have HW := Lib.hid hwk; have HQ := Lib.hid hq; have E1 := Lib.hid e1; have E3 := Lib.hid e3
  clear hrr hhh hr1 hr2 hM hD hm hwk hq e1 e3 b1
  go_enter Tryz.func182, Tryz.ntmps182
  go_wp2_with fail
  refine (there_any _ _ _ z0 z1 t0 t1).mono ?_
  rintro e w' ⟨rfl, rfl⟩
  rw [E1.out, HM.out, Hm.out]
  have HB1 := Lib.hid ((Blk.new w 157 #[.string key, .int .i64 zone, .slice rA rn rc, .slice qA qn qc]).alloc (.cells #[.int .i64 m] 3))
  have HB2 := Lib.hid (blk_newH (w.alloc (.cells #[.string key, .int .i64 zone, .slice rA rn rc, .slice qA qn qc] 157)) 3 #[.int .i64 m] (g := w.heap.size + 1) (by simp))
  go_wp2_with fail
  go_loopw [8, 20] (fun _ t wr => ∃ i : Nat, i ≤ qn ∧ t = .int .i64 i ∧ w.grownBy wr none ∧ Blk wr w.heap.size 157 #[.string key, .int .i64 zone, .slice rA rn rc, .slice qA qn qc] ∧ Blk wr (w.heap.size + 1) 3 #[.int .i64 m] ∧ (hol.take i).all (fun x => !(isDay (M / 1440) x)) = true) (fun _ t _ => qn - (intOf t).toNat)
  case atStart => exact ⟨0, Nat.zero_le _, rfl, gr_alloc (gr_alloc (gr_refl _ _) _) _, HB1.out, HB2.out, by simp⟩
  case round =>
    clear HB1 HB2
    obtain ⟨i, hi, rfl, hg, hbl, hbm, ha⟩ := hrel
    have zr := hg.size
    have hbl1 := hbm.lt
    have HA := Lib.hid ha; have HG := Lib.hid hg; have HB := Lib.hid hbl; have HB2 := Lib.hid hbm; clear ha hg hbl hbm
    by_cases hlt : i < qn
    · obtain ⟨g, o, ⟨dy, df, dt⟩, rfl, _, hgl, hz, hc⟩ := (HH.out.grown HG.out (fun g e => by cases e)).get r3Row_len hlt
      obtain ⟨y3, y4, y5, y6⟩ := HR2.out _ (mem_of_get hz)
      dsimp only at y3 y4 y5 y6
      have HZ := Lib.hid hz; have HC := Lib.hid hc; clear hz hc
      by_cases hdy : dy = D
      · subst hdy
        have HFIN := Lib.hid (show openAt zone rows hol t = winM m (dy, df, dt) by rw [HV.out, openM_at HA.out HZ.out (by rw [HD.out]; simp [isDay]), Hm.out])
        have HIN := Lib.hid (inB_win m (dy, df, dt))
        have km := (HB2.out.alloc (.cells #[.int .i64 dy, .int .i64 df, .int .i64 dt] 161)).cell 0
        go_wp2_with (first
          | (refine wpl_load_at Tryz.hoT rfl _ rfl _ rfl [.int .i64 dy, .int .i64 df, .int .i64 dt] rfl (fun j u hu => by rw [add_mk]; exact HC.out j u hu) ?_)
          | fail)
        refine (in_any _ _ _ _).mono ?_
        rintro e w' ⟨rfl, rfl⟩
        rw [show inB m df (dt - 1) = winM m (dy, df, dt) from HIN.out]
        go_wp2_with fail
        go_ret
        exact ⟨by rw [HFIN.out]; try rfl, gr_alloc HG.out _⟩
      · have hne : (dy == D) = false := by simpa using hdy
        have HN := Lib.hid (show isDay (M / 1440) (dy, df, dt) = false by rw [HD.out]; exact hne)
        clear hdy
        go_wp2_with (first
          | (refine wpl_load_at Tryz.hoT rfl _ rfl _ rfl [.int .i64 dy, .int .i64 df, .int .i64 dt] rfl (fun j u hu => by rw [add_mk]; exact HC.out j u hu) ?_)
          | fail)
        go_roundw
        case rel => exact ⟨i + 1, by omega, by go_num, gr_alloc HG.out _, HB.out.alloc _, HB2.out.alloc _, allP_succ HA.out HZ.out HN.out⟩
        case measure => simp [intOf]; omega
    · obtain rfl : i = qn := by omega
      obtain ⟨wo, rfl⟩ : ∃ wo : World, wo = wr := ⟨_, rfl⟩
      have HV2 := Lib.hid (show openAt zone rows hol t = rows.any (rowM wk m) by
        have h := HA.out
        rw [List.take_of_length_le (by rw [HH.out.len]; exact Nat.le_refl _)] at h
        rw [HV.out, openM_no h, HD.out, Hm.out, HW.out])
      have HBW := Lib.hid (Blk.new wo 3 #[.int .i64 wk])
      have HG1 := Lib.hid (gr_alloc HG.out (.cells #[.int .i64 wk] 3))
      have HB3 := Lib.hid (HB2.out.alloc (.cells #[.int .i64 wk] 3))
      have ka2 := (HB.out.alloc (.cells #[.int .i64 wk] 3)).cell 2
      clear HA HV
      go_wp2_with (first
        | (go_at_call 243; refine (floorR_any _ _ _ (by omega) (by omega) (by omega) (by omega)).mono ?_; rintro e w' ⟨rfl, rfl⟩; rw [HQ.out]; have e3 := E3.out)
        | fail)
      refine (openHas_any lo _ _ _ rows wk m wo.heap.size (w.heap.size + 1) _ (HR.out.grown HG1.out (fun g e => by cases e)) HRI.out (by omega) HBW.out HB3.out w0 w1).mono ?_
      rintro e w3 ⟨rfl, hg3⟩
      have HG3 := Lib.hid (gr_none HG1.out hg3); clear hg3
      go_wp2_with fail
      go_ret
      exact ⟨by rw [HV2.out]; try rfl, HG3.out⟩
end Go.Proofs.YtpjheibkacbbcaaGreatDoor

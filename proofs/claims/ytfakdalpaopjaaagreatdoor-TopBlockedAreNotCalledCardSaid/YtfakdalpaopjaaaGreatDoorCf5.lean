/- Contracts of next and Chain. Conditions: none. -/
import Derived.Test.YtfakdalpaopjaaaGreatDoorBun10
import Derived.Test.YtfakdalpaopjaaaGreatDoorBun9
import Derived.Test.YtfakdalpaopjaaaGreatDoorBun5
namespace Go.Proofs.YtfakdalpaopjaaaGreatDoor
open Go.RowKit

/-- Where a line is forwarded. -/
def nxV (hs : List HrV) (l : List FwV) (line : ByteArray) (t want : Int) : ByteArray × Bool := (l.find? (nxP hs line t want)).elim (⟨#[]⟩, false) fun f => (f.to_, true)
theorem find_take {α : Type} {p : α → Bool} {l : List α} {i : Nat} {z : α} (ha : (l.take i).all (fun x => !p x) = true) (hz : l[i]? = some z) (h : p z = true) : l.find? p = some z := by
  obtain ⟨hi, rfl⟩ := List.getElem?_eq_some_iff.1 hz
  exact List.find?_eq_some_iff_append.2 ⟨h, l.take i, l.drop (i + 1), by rw [← List.drop_eq_getElem_cons hi, List.take_append_drop], fun a ha' => by have := List.all_eq_true.1 ha a ha'; simpa using this⟩
theorem find_all {α : Type} {p : α → Bool} {l : List α} (ha : l.all (fun x => !p x) = true) : l.find? p = none := List.find?_eq_none.2 (fun x hx => by have := List.all_eq_true.1 ha x hx; simpa using this)
theorem all_snoc {α : Type} {p : α → Bool} {l : List α} {i : Nat} {z : α} (ha : (l.take i).all (fun x => !p x) = true) (hz : l[i]? = some z) (h : p z = false) : (l.take (i + 1)).all (fun x => !p x) = true := by
  rw [take_get1 hz, List.all_append, ha]; simp [h]
set_option maxHeartbeats 16000000 in
set_option maxRecDepth 100000 in
theorem nextF_any (lo lo' : Nat) (p : PlV) (A : Option Addr) (n c : Nat) (l : List FwV) (line : ByteArray) (t how : Int) (w : World) (hpl : PlOk w lo p) (hr : ∀ a ∈ p.hours, HrRight a) (h : Fws w lo' A n c l) (hl : FwsRight p.hours l) (t0 : -1 ≤ t) (t1 : t ≤ 345686400000) (hh : how = 0 ∨ how = 1 ∨ how = 2) :
    Calls Tryz.prog 29 #[.agg #[.slice p.cA p.cn p.cc, .slice p.hA p.hn p.hc], .slice A n c, .string line, .int .i64 t, .int .i64 how] w (RetV (.tuple #[.string (nxV p.hours l line t (wantF how)).1, .bool (nxV p.hours l line t (wantF how)).2]) w) := by
  have H := Lib.hid h; have HPL := Lib.hid hpl; have HHR := Lib.hid hr; have HL := Lib.hid hl
  have hn : n ≤ 1000 := by rw [← h.1.len]; exact hl.len
  clear h hpl hr hl
  obtain ⟨W1, hW⟩ : ∃ W1, w.alloc (.cells #[.slice p.cA p.cn p.cc, .slice p.hA p.hn p.hc] 48) = W1 := ⟨_, rfl⟩
  obtain ⟨pb, hpb⟩ : ∃ b, w.heap.size = b := ⟨_, rfl⟩
  have HP := Lib.hid (show Blk W1 pb 48 #[.slice p.cA p.cn p.cc, .slice p.hA p.hn p.hc] by rw [← hW, ← hpb]; exact Blk.new _ _ _)
  have HG := Lib.hid (show w.grownBy W1 none by rw [← hW]; exact gr_alloc (gr_refl _ _) _)
  have HW := Lib.hid hW; have HPB := Lib.hid hpb; clear hW hpb
  rcases hh with rfl | rfl | rfl
  · go_enter Tryz.func29, Tryz.ntmps29
    go_upto_region 1 with (fail)
    rw [HW.out, HPB.out]
    clear HW HPB
    go_wp2_with fail
    go_loopw [14, 22] (fun _ t' wr => ∃ k : Nat, k ≤ n ∧ t' = .int .i64 k ∧ w.grownBy wr none ∧ Blk wr pb 48 #[.slice p.cA p.cn p.cc, .slice p.hA p.hn p.hc] ∧ (l.take k).all (fun x => !nxP p.hours line t 0 x) = true) (fun _ t' _ => n - (intOf t').toNat)
    case atStart => exact ⟨0, Nat.zero_le _, rfl, HG.out, HP.out, by simp⟩
    case round =>
      clear HG HP
      obtain ⟨k, hk, rfl, hg, hp, ha⟩ := hrel
      have HA := Lib.hid ha; have HG := Lib.hid hg; have HP := Lib.hid hp; clear ha hg hp
      by_cases hlt : k < n
      · obtain ⟨g, o, ⟨ln, wh, too, hr⟩, rfl, _, hgl, hz, hc⟩ := (H.out.1.grown HG.out (fun g e => by cases e)).get FwV.row_len hlt
        have HHK := Lib.hid (show hrsOk p.hours hr = true from (fwF_right (HL.out.all _ (mem_of_get hz))).2.2.2.1)
        have HZ := Lib.hid hz; have HC := Lib.hid hc; clear hz hc
        obtain ⟨w1, hw1⟩ : ∃ v, wr.alloc (.cells #[.string ln, .int .i64 wh, .string too, .string hr] 97) = v := ⟨_, rfl⟩
        obtain ⟨zb, hzb⟩ : ∃ b, wr.heap.size = b := ⟨_, rfl⟩
        have HB := Lib.hid (show Blk w1 zb 97 #[.string ln, .int .i64 wh, .string too, .string hr] by rw [← hw1, ← hzb]; exact Blk.new _ _ _)
        have hg1 : wr.grownBy w1 none := by rw [← hw1]; exact gr_alloc (gr_refl _ _) _
        replace HG := Lib.hid (gr_none HG.out hg1)
        replace HP := Lib.hid (HP.out.grown hg1 (by simp))
        have HW1 := Lib.hid hw1; have HZB := Lib.hid hzb
        clear hw1 hzb hg1
        go_upto_region 10 with (first
          | (refine wpl_load_at Tryz.fwT rfl _ rfl _ rfl [.string ln, .int .i64 wh, .string too, .string hr] rfl (fun j u hu => by rw [add_mk]; exact HC.out j u hu) ?_)
          | fail)
        rw [HW1.out]
        (try rw [HZB.out])
        clear HW1 HZB HC
        have k0 := HB.out.cell 0; have k1 := HB.out.cell 1; have k2 := HB.out.cell 2; have k3 := HB.out.cell 3
        obtain ⟨EQ, hEQ⟩ : ∃ V, (nb ln == nb line) = V := ⟨_, rfl⟩
        have HEQ := Lib.hid hEQ
        have hEQ2 : (ln.toList == line.toList) = EQ := by rw [eqS_nb]; exact hEQ
        clear hEQ
        cases EQ
        · have HE := Lib.hid (show nxP p.hours line t 0 ⟨ln, wh, too, hr⟩ = false by show ((nb ln == nb line) && _ && _) = false; rw [HEQ.out]; rfl)
          go_wp2_with fail
          go_roundw
          case rel => exact ⟨k + 1, by omega, by go_num, HG.out, HP.out, all_snoc HA.out HZ.out HE.out⟩
          case measure => simp [intOf]; omega
        · by_cases h1 : wh = 1
          · have d1 : (wh == 1) = true := by simp [h1]
            have d1' : decide (wh = 1) = true := decide_eq_true h1
            have HWW := Lib.hid (show (decide (wh = 1) || decide (wh = 0)) = true by rw [d1']; rfl)
            clear h1
            have cP := HP.out.cell
            go_wp2_with fail
            refine (counts_any lo p hr t _ (HPL.out.grown HG.out (fun g e => by cases e)) HHR.out HHK.out (by omega) (by omega)).mono ?_
            rintro e w5 ⟨rfl, hg5⟩
            obtain ⟨VC, hVC⟩ : ∃ V, cntB p.hours hr t = V := ⟨_, rfl⟩
            have HVC := Lib.hid hVC
            rw [hVC]
            clear hVC k0 k1 k2 k3 cP
            replace HB := Lib.hid (HB.out.grown hg5 (by simp))
            replace HP := Lib.hid (HP.out.grown hg5 (by simp))
            replace HG := Lib.hid (gr_none HG.out hg5)
            clear hg5
            have k2 := HB.out.cell 2
            cases VC
            · have HE := Lib.hid (show nxP p.hours line t 0 ⟨ln, wh, too, hr⟩ = false by show ((nb ln == nb line) && (decide (wh = 1) || decide (wh = 0)) && cntB p.hours hr t) = false; rw [HVC.out, Bool.and_false])
              go_wp2_with fail
              go_roundw
              case rel => exact ⟨k + 1, by omega, by go_num, HG.out, HP.out, all_snoc HA.out HZ.out HE.out⟩
              case measure => simp [intOf]; omega
            · have HE := Lib.hid (show nxP p.hours line t 0 ⟨ln, wh, too, hr⟩ = true by show ((nb ln == nb line) && (decide (wh = 1) || decide (wh = 0)) && cntB p.hours hr t) = true; rw [HEQ.out, HWW.out, HVC.out]; rfl)
              have HFIN := Lib.hid (show nxV p.hours l line t (wantF 0) = (too, true) by show (l.find? (nxP p.hours line t 0)).elim (⟨#[]⟩, false) (fun f => (f.to_, true)) = _; rw [find_take HA.out HZ.out HE.out]; rfl)
              go_wp2_with fail
              go_ret2
              exact ⟨by rw [HFIN.out]; try rfl, HG.out⟩
          · have d1 : (wh == 1) = false := by simp [h1]
            have d1' : decide (wh = 1) = false := decide_eq_false h1
            by_cases h2 : wh = 0
            · have d2 : (wh == 0) = true := by simp [h2]
              have d2' : decide (wh = 0) = true := decide_eq_true h2
              have HWW := Lib.hid (show (decide (wh = 1) || decide (wh = 0)) = true by rw [d2', Bool.or_true])
              clear h1 h2
              have cP := HP.out.cell
              go_wp2_with fail
              refine (counts_any lo p hr t _ (HPL.out.grown HG.out (fun g e => by cases e)) HHR.out HHK.out (by omega) (by omega)).mono ?_
              rintro e w5 ⟨rfl, hg5⟩
              obtain ⟨VC, hVC⟩ : ∃ V, cntB p.hours hr t = V := ⟨_, rfl⟩
              have HVC := Lib.hid hVC
              rw [hVC]
              clear hVC k0 k1 k2 k3 cP
              replace HB := Lib.hid (HB.out.grown hg5 (by simp))
              replace HP := Lib.hid (HP.out.grown hg5 (by simp))
              replace HG := Lib.hid (gr_none HG.out hg5)
              clear hg5
              have k2 := HB.out.cell 2
              cases VC
              · have HE := Lib.hid (show nxP p.hours line t 0 ⟨ln, wh, too, hr⟩ = false by show ((nb ln == nb line) && (decide (wh = 1) || decide (wh = 0)) && cntB p.hours hr t) = false; rw [HVC.out, Bool.and_false])
                go_wp2_with fail
                go_roundw
                case rel => exact ⟨k + 1, by omega, by go_num, HG.out, HP.out, all_snoc HA.out HZ.out HE.out⟩
                case measure => simp [intOf]; omega
              · have HE := Lib.hid (show nxP p.hours line t 0 ⟨ln, wh, too, hr⟩ = true by show ((nb ln == nb line) && (decide (wh = 1) || decide (wh = 0)) && cntB p.hours hr t) = true; rw [HEQ.out, HWW.out, HVC.out]; rfl)
                have HFIN := Lib.hid (show nxV p.hours l line t (wantF 0) = (too, true) by show (l.find? (nxP p.hours line t 0)).elim (⟨#[]⟩, false) (fun f => (f.to_, true)) = _; rw [find_take HA.out HZ.out HE.out]; rfl)
                go_wp2_with fail
                go_ret2
                exact ⟨by rw [HFIN.out]; try rfl, HG.out⟩
            · have d2 : (wh == 0) = false := by simp [h2]
              have d2' : decide (wh = 0) = false := decide_eq_false h2
              have HE := Lib.hid (show nxP p.hours line t 0 ⟨ln, wh, too, hr⟩ = false by show ((nb ln == nb line) && (decide (wh = 1) || decide (wh = 0)) && _) = false; rw [d1', d2', Bool.or_false, Bool.and_false]; rfl)
              clear h1 h2
              go_wp2_with fail
              go_roundw
              case rel => exact ⟨k + 1, by omega, by go_num, HG.out, HP.out, all_snoc HA.out HZ.out HE.out⟩
              case measure => simp [intOf]; omega
      · obtain rfl : k = n := by omega
        have h := HA.out
        rw [List.take_of_length_le (by rw [H.out.1.len]; exact Nat.le_refl _)] at h
        have HFIN := Lib.hid (show nxV p.hours l line t (wantF 0) = (⟨#[]⟩, false) by show (l.find? (nxP p.hours line t 0)).elim (⟨#[]⟩, false) (fun f => (f.to_, true)) = _; rw [find_all h]; rfl)
        clear h
        go_wp2_with fail
        go_ret2
        exact ⟨by rw [HFIN.out]; try rfl, HG.out⟩
  · go_enter Tryz.func29, Tryz.ntmps29
    go_upto_region 1 with (fail)
    rw [HW.out, HPB.out]
    clear HW HPB
    go_wp2_with fail
    go_loopw [14, 22] (fun _ t' wr => ∃ k : Nat, k ≤ n ∧ t' = .int .i64 k ∧ w.grownBy wr none ∧ Blk wr pb 48 #[.slice p.cA p.cn p.cc, .slice p.hA p.hn p.hc] ∧ (l.take k).all (fun x => !nxP p.hours line t 2 x) = true) (fun _ t' _ => n - (intOf t').toNat)
    case atStart => exact ⟨0, Nat.zero_le _, rfl, HG.out, HP.out, by simp⟩
    case round =>
      clear HG HP
      obtain ⟨k, hk, rfl, hg, hp, ha⟩ := hrel
      have HA := Lib.hid ha; have HG := Lib.hid hg; have HP := Lib.hid hp; clear ha hg hp
      by_cases hlt : k < n
      · obtain ⟨g, o, ⟨ln, wh, too, hr⟩, rfl, _, hgl, hz, hc⟩ := (H.out.1.grown HG.out (fun g e => by cases e)).get FwV.row_len hlt
        have HHK := Lib.hid (show hrsOk p.hours hr = true from (fwF_right (HL.out.all _ (mem_of_get hz))).2.2.2.1)
        have HZ := Lib.hid hz; have HC := Lib.hid hc; clear hz hc
        obtain ⟨w1, hw1⟩ : ∃ v, wr.alloc (.cells #[.string ln, .int .i64 wh, .string too, .string hr] 97) = v := ⟨_, rfl⟩
        obtain ⟨zb, hzb⟩ : ∃ b, wr.heap.size = b := ⟨_, rfl⟩
        have HB := Lib.hid (show Blk w1 zb 97 #[.string ln, .int .i64 wh, .string too, .string hr] by rw [← hw1, ← hzb]; exact Blk.new _ _ _)
        have hg1 : wr.grownBy w1 none := by rw [← hw1]; exact gr_alloc (gr_refl _ _) _
        replace HG := Lib.hid (gr_none HG.out hg1)
        replace HP := Lib.hid (HP.out.grown hg1 (by simp))
        have HW1 := Lib.hid hw1; have HZB := Lib.hid hzb
        clear hw1 hzb hg1
        go_upto_region 10 with (first
          | (refine wpl_load_at Tryz.fwT rfl _ rfl _ rfl [.string ln, .int .i64 wh, .string too, .string hr] rfl (fun j u hu => by rw [add_mk]; exact HC.out j u hu) ?_)
          | fail)
        rw [HW1.out]
        (try rw [HZB.out])
        clear HW1 HZB HC
        have k0 := HB.out.cell 0; have k1 := HB.out.cell 1; have k2 := HB.out.cell 2; have k3 := HB.out.cell 3
        obtain ⟨EQ, hEQ⟩ : ∃ V, (nb ln == nb line) = V := ⟨_, rfl⟩
        have HEQ := Lib.hid hEQ
        have hEQ2 : (ln.toList == line.toList) = EQ := by rw [eqS_nb]; exact hEQ
        clear hEQ
        cases EQ
        · have HE := Lib.hid (show nxP p.hours line t 2 ⟨ln, wh, too, hr⟩ = false by show ((nb ln == nb line) && _ && _) = false; rw [HEQ.out]; rfl)
          go_wp2_with fail
          go_roundw
          case rel => exact ⟨k + 1, by omega, by go_num, HG.out, HP.out, all_snoc HA.out HZ.out HE.out⟩
          case measure => simp [intOf]; omega
        · by_cases h1 : wh = 1
          · have d1 : (wh == 1) = true := by simp [h1]
            have d1' : decide (wh = 1) = true := decide_eq_true h1
            have HWW := Lib.hid (show (decide (wh = 1) || decide (wh = 2)) = true by rw [d1']; rfl)
            clear h1
            have cP := HP.out.cell
            go_wp2_with fail
            refine (counts_any lo p hr t _ (HPL.out.grown HG.out (fun g e => by cases e)) HHR.out HHK.out (by omega) (by omega)).mono ?_
            rintro e w5 ⟨rfl, hg5⟩
            obtain ⟨VC, hVC⟩ : ∃ V, cntB p.hours hr t = V := ⟨_, rfl⟩
            have HVC := Lib.hid hVC
            rw [hVC]
            clear hVC k0 k1 k2 k3 cP
            replace HB := Lib.hid (HB.out.grown hg5 (by simp))
            replace HP := Lib.hid (HP.out.grown hg5 (by simp))
            replace HG := Lib.hid (gr_none HG.out hg5)
            clear hg5
            have k2 := HB.out.cell 2
            cases VC
            · have HE := Lib.hid (show nxP p.hours line t 2 ⟨ln, wh, too, hr⟩ = false by show ((nb ln == nb line) && (decide (wh = 1) || decide (wh = 2)) && cntB p.hours hr t) = false; rw [HVC.out, Bool.and_false])
              go_wp2_with fail
              go_roundw
              case rel => exact ⟨k + 1, by omega, by go_num, HG.out, HP.out, all_snoc HA.out HZ.out HE.out⟩
              case measure => simp [intOf]; omega
            · have HE := Lib.hid (show nxP p.hours line t 2 ⟨ln, wh, too, hr⟩ = true by show ((nb ln == nb line) && (decide (wh = 1) || decide (wh = 2)) && cntB p.hours hr t) = true; rw [HEQ.out, HWW.out, HVC.out]; rfl)
              have HFIN := Lib.hid (show nxV p.hours l line t (wantF 1) = (too, true) by show (l.find? (nxP p.hours line t 2)).elim (⟨#[]⟩, false) (fun f => (f.to_, true)) = _; rw [find_take HA.out HZ.out HE.out]; rfl)
              go_wp2_with fail
              go_ret2
              exact ⟨by rw [HFIN.out]; try rfl, HG.out⟩
          · have d1 : (wh == 1) = false := by simp [h1]
            have d1' : decide (wh = 1) = false := decide_eq_false h1
            by_cases h2 : wh = 2
            · have d2 : (wh == 2) = true := by simp [h2]
              have d2' : decide (wh = 2) = true := decide_eq_true h2
              have HWW := Lib.hid (show (decide (wh = 1) || decide (wh = 2)) = true by rw [d2', Bool.or_true])
              clear h1 h2
              have cP := HP.out.cell
              go_wp2_with fail
              refine (counts_any lo p hr t _ (HPL.out.grown HG.out (fun g e => by cases e)) HHR.out HHK.out (by omega) (by omega)).mono ?_
              rintro e w5 ⟨rfl, hg5⟩
              obtain ⟨VC, hVC⟩ : ∃ V, cntB p.hours hr t = V := ⟨_, rfl⟩
              have HVC := Lib.hid hVC
              rw [hVC]
              clear hVC k0 k1 k2 k3 cP
              replace HB := Lib.hid (HB.out.grown hg5 (by simp))
              replace HP := Lib.hid (HP.out.grown hg5 (by simp))
              replace HG := Lib.hid (gr_none HG.out hg5)
              clear hg5
              have k2 := HB.out.cell 2
              cases VC
              · have HE := Lib.hid (show nxP p.hours line t 2 ⟨ln, wh, too, hr⟩ = false by show ((nb ln == nb line) && (decide (wh = 1) || decide (wh = 2)) && cntB p.hours hr t) = false; rw [HVC.out, Bool.and_false])
                go_wp2_with fail
                go_roundw
                case rel => exact ⟨k + 1, by omega, by go_num, HG.out, HP.out, all_snoc HA.out HZ.out HE.out⟩
                case measure => simp [intOf]; omega
              · have HE := Lib.hid (show nxP p.hours line t 2 ⟨ln, wh, too, hr⟩ = true by show ((nb ln == nb line) && (decide (wh = 1) || decide (wh = 2)) && cntB p.hours hr t) = true; rw [HEQ.out, HWW.out, HVC.out]; rfl)
                have HFIN := Lib.hid (show nxV p.hours l line t (wantF 1) = (too, true) by show (l.find? (nxP p.hours line t 2)).elim (⟨#[]⟩, false) (fun f => (f.to_, true)) = _; rw [find_take HA.out HZ.out HE.out]; rfl)
                go_wp2_with fail
                go_ret2
                exact ⟨by rw [HFIN.out]; try rfl, HG.out⟩
            · have d2 : (wh == 2) = false := by simp [h2]
              have d2' : decide (wh = 2) = false := decide_eq_false h2
              have HE := Lib.hid (show nxP p.hours line t 2 ⟨ln, wh, too, hr⟩ = false by show ((nb ln == nb line) && (decide (wh = 1) || decide (wh = 2)) && _) = false; rw [d1', d2', Bool.or_false, Bool.and_false]; rfl)
              clear h1 h2
              go_wp2_with fail
              go_roundw
              case rel => exact ⟨k + 1, by omega, by go_num, HG.out, HP.out, all_snoc HA.out HZ.out HE.out⟩
              case measure => simp [intOf]; omega
      · obtain rfl : k = n := by omega
        have h := HA.out
        rw [List.take_of_length_le (by rw [H.out.1.len]; exact Nat.le_refl _)] at h
        have HFIN := Lib.hid (show nxV p.hours l line t (wantF 1) = (⟨#[]⟩, false) by show (l.find? (nxP p.hours line t 2)).elim (⟨#[]⟩, false) (fun f => (f.to_, true)) = _; rw [find_all h]; rfl)
        clear h
        go_wp2_with fail
        go_ret2
        exact ⟨by rw [HFIN.out]; try rfl, HG.out⟩
  · go_enter Tryz.func29, Tryz.ntmps29
    go_upto_region 1 with (fail)
    rw [HW.out, HPB.out]
    clear HW HPB
    go_wp2_with fail
    go_loopw [14, 22] (fun _ t' wr => ∃ k : Nat, k ≤ n ∧ t' = .int .i64 k ∧ w.grownBy wr none ∧ Blk wr pb 48 #[.slice p.cA p.cn p.cc, .slice p.hA p.hn p.hc] ∧ (l.take k).all (fun x => !nxP p.hours line t 3 x) = true) (fun _ t' _ => n - (intOf t').toNat)
    case atStart => exact ⟨0, Nat.zero_le _, rfl, HG.out, HP.out, by simp⟩
    case round =>
      clear HG HP
      obtain ⟨k, hk, rfl, hg, hp, ha⟩ := hrel
      have HA := Lib.hid ha; have HG := Lib.hid hg; have HP := Lib.hid hp; clear ha hg hp
      by_cases hlt : k < n
      · obtain ⟨g, o, ⟨ln, wh, too, hr⟩, rfl, _, hgl, hz, hc⟩ := (H.out.1.grown HG.out (fun g e => by cases e)).get FwV.row_len hlt
        have HHK := Lib.hid (show hrsOk p.hours hr = true from (fwF_right (HL.out.all _ (mem_of_get hz))).2.2.2.1)
        have HZ := Lib.hid hz; have HC := Lib.hid hc; clear hz hc
        obtain ⟨w1, hw1⟩ : ∃ v, wr.alloc (.cells #[.string ln, .int .i64 wh, .string too, .string hr] 97) = v := ⟨_, rfl⟩
        obtain ⟨zb, hzb⟩ : ∃ b, wr.heap.size = b := ⟨_, rfl⟩
        have HB := Lib.hid (show Blk w1 zb 97 #[.string ln, .int .i64 wh, .string too, .string hr] by rw [← hw1, ← hzb]; exact Blk.new _ _ _)
        have hg1 : wr.grownBy w1 none := by rw [← hw1]; exact gr_alloc (gr_refl _ _) _
        replace HG := Lib.hid (gr_none HG.out hg1)
        replace HP := Lib.hid (HP.out.grown hg1 (by simp))
        have HW1 := Lib.hid hw1; have HZB := Lib.hid hzb
        clear hw1 hzb hg1
        go_upto_region 10 with (first
          | (refine wpl_load_at Tryz.fwT rfl _ rfl _ rfl [.string ln, .int .i64 wh, .string too, .string hr] rfl (fun j u hu => by rw [add_mk]; exact HC.out j u hu) ?_)
          | fail)
        rw [HW1.out]
        (try rw [HZB.out])
        clear HW1 HZB HC
        have k0 := HB.out.cell 0; have k1 := HB.out.cell 1; have k2 := HB.out.cell 2; have k3 := HB.out.cell 3
        obtain ⟨EQ, hEQ⟩ : ∃ V, (nb ln == nb line) = V := ⟨_, rfl⟩
        have HEQ := Lib.hid hEQ
        have hEQ2 : (ln.toList == line.toList) = EQ := by rw [eqS_nb]; exact hEQ
        clear hEQ
        cases EQ
        · have HE := Lib.hid (show nxP p.hours line t 3 ⟨ln, wh, too, hr⟩ = false by show ((nb ln == nb line) && _ && _) = false; rw [HEQ.out]; rfl)
          go_wp2_with fail
          go_roundw
          case rel => exact ⟨k + 1, by omega, by go_num, HG.out, HP.out, all_snoc HA.out HZ.out HE.out⟩
          case measure => simp [intOf]; omega
        · by_cases h1 : wh = 1
          · have d1 : (wh == 1) = true := by simp [h1]
            have d1' : decide (wh = 1) = true := decide_eq_true h1
            have HWW := Lib.hid (show (decide (wh = 1) || decide (wh = 3)) = true by rw [d1']; rfl)
            clear h1
            have cP := HP.out.cell
            go_wp2_with fail
            refine (counts_any lo p hr t _ (HPL.out.grown HG.out (fun g e => by cases e)) HHR.out HHK.out (by omega) (by omega)).mono ?_
            rintro e w5 ⟨rfl, hg5⟩
            obtain ⟨VC, hVC⟩ : ∃ V, cntB p.hours hr t = V := ⟨_, rfl⟩
            have HVC := Lib.hid hVC
            rw [hVC]
            clear hVC k0 k1 k2 k3 cP
            replace HB := Lib.hid (HB.out.grown hg5 (by simp))
            replace HP := Lib.hid (HP.out.grown hg5 (by simp))
            replace HG := Lib.hid (gr_none HG.out hg5)
            clear hg5
            have k2 := HB.out.cell 2
            cases VC
            · have HE := Lib.hid (show nxP p.hours line t 3 ⟨ln, wh, too, hr⟩ = false by show ((nb ln == nb line) && (decide (wh = 1) || decide (wh = 3)) && cntB p.hours hr t) = false; rw [HVC.out, Bool.and_false])
              go_wp2_with fail
              go_roundw
              case rel => exact ⟨k + 1, by omega, by go_num, HG.out, HP.out, all_snoc HA.out HZ.out HE.out⟩
              case measure => simp [intOf]; omega
            · have HE := Lib.hid (show nxP p.hours line t 3 ⟨ln, wh, too, hr⟩ = true by show ((nb ln == nb line) && (decide (wh = 1) || decide (wh = 3)) && cntB p.hours hr t) = true; rw [HEQ.out, HWW.out, HVC.out]; rfl)
              have HFIN := Lib.hid (show nxV p.hours l line t (wantF 2) = (too, true) by show (l.find? (nxP p.hours line t 3)).elim (⟨#[]⟩, false) (fun f => (f.to_, true)) = _; rw [find_take HA.out HZ.out HE.out]; rfl)
              go_wp2_with fail
              go_ret2
              exact ⟨by rw [HFIN.out]; try rfl, HG.out⟩
          · have d1 : (wh == 1) = false := by simp [h1]
            have d1' : decide (wh = 1) = false := decide_eq_false h1
            by_cases h2 : wh = 3
            · have d2 : (wh == 3) = true := by simp [h2]
              have d2' : decide (wh = 3) = true := decide_eq_true h2
              have HWW := Lib.hid (show (decide (wh = 1) || decide (wh = 3)) = true by rw [d2', Bool.or_true])
              clear h1 h2
              have cP := HP.out.cell
              go_wp2_with fail
              refine (counts_any lo p hr t _ (HPL.out.grown HG.out (fun g e => by cases e)) HHR.out HHK.out (by omega) (by omega)).mono ?_
              rintro e w5 ⟨rfl, hg5⟩
              obtain ⟨VC, hVC⟩ : ∃ V, cntB p.hours hr t = V := ⟨_, rfl⟩
              have HVC := Lib.hid hVC
              rw [hVC]
              clear hVC k0 k1 k2 k3 cP
              replace HB := Lib.hid (HB.out.grown hg5 (by simp))
              replace HP := Lib.hid (HP.out.grown hg5 (by simp))
              replace HG := Lib.hid (gr_none HG.out hg5)
              clear hg5
              have k2 := HB.out.cell 2
              cases VC
              · have HE := Lib.hid (show nxP p.hours line t 3 ⟨ln, wh, too, hr⟩ = false by show ((nb ln == nb line) && (decide (wh = 1) || decide (wh = 3)) && cntB p.hours hr t) = false; rw [HVC.out, Bool.and_false])
                go_wp2_with fail
                go_roundw
                case rel => exact ⟨k + 1, by omega, by go_num, HG.out, HP.out, all_snoc HA.out HZ.out HE.out⟩
                case measure => simp [intOf]; omega
              · have HE := Lib.hid (show nxP p.hours line t 3 ⟨ln, wh, too, hr⟩ = true by show ((nb ln == nb line) && (decide (wh = 1) || decide (wh = 3)) && cntB p.hours hr t) = true; rw [HEQ.out, HWW.out, HVC.out]; rfl)
                have HFIN := Lib.hid (show nxV p.hours l line t (wantF 2) = (too, true) by show (l.find? (nxP p.hours line t 3)).elim (⟨#[]⟩, false) (fun f => (f.to_, true)) = _; rw [find_take HA.out HZ.out HE.out]; rfl)
                go_wp2_with fail
                go_ret2
                exact ⟨by rw [HFIN.out]; try rfl, HG.out⟩
            · have d2 : (wh == 3) = false := by simp [h2]
              have d2' : decide (wh = 3) = false := decide_eq_false h2
              have HE := Lib.hid (show nxP p.hours line t 3 ⟨ln, wh, too, hr⟩ = false by show ((nb ln == nb line) && (decide (wh = 1) || decide (wh = 3)) && _) = false; rw [d1', d2', Bool.or_false, Bool.and_false]; rfl)
              clear h1 h2
              go_wp2_with fail
              go_roundw
              case rel => exact ⟨k + 1, by omega, by go_num, HG.out, HP.out, all_snoc HA.out HZ.out HE.out⟩
              case measure => simp [intOf]; omega
      · obtain rfl : k = n := by omega
        have h := HA.out
        rw [List.take_of_length_le (by rw [H.out.1.len]; exact Nat.le_refl _)] at h
        have HFIN := Lib.hid (show nxV p.hours l line t (wantF 2) = (⟨#[]⟩, false) by show (l.find? (nxP p.hours line t 3)).elim (⟨#[]⟩, false) (fun f => (f.to_, true)) = _; rw [find_all h]; rfl)
        clear h
        go_wp2_with fail
        go_ret2
        exact ⟨by rw [HFIN.out]; try rfl, HG.out⟩
/-- What is wrong with what Chain is given. -/
def chA (line : ByteArray) (t : Int) (sts : List PrV) : Int := if keyOk (nb line) = true then (if momB t = true then stE sts else 1) else 5
noncomputable def chV (p : PlV) (LB : Bool) (l : List FwV) (line : ByteArray) (t : Int) (sts : List PrV) : List ByteArray × Int :=
  if chP p LB l = 0 then (if chA line t sts = 0 then chn (nxF p.hours l t sts) 9 [line] line else ([], chA line t sts)) else ([], chP p LB l)
/-- A slice of strings and an error. -/
def ChainV (v : List ByteArray × Int) (w : World) (e : Ending) (w' : World) : Prop := ∃ A n c, e = .returned (.tuple #[.slice A n c, .int .i64 v.2]) ∧ OwnR srow 1 w' w.heap.size 9 A n c v.1 ∧ w.grownBy w' none
theorem nxV_none {hs : List HrV} {l : List FwV} {t : Int} {sts : List PrV} {line : ByteArray} (h : (nxV hs l line t (wantF (stH sts line))).2 = false) : nxF hs l t sts line = none := by
  unfold nxV at h; unfold nxF
  cases hf : l.find? (nxP hs line t (wantF (stH sts line))) with
  | none => rfl
  | some f => rw [hf] at h; cases h
theorem nxV_some {hs : List HrV} {l : List FwV} {t : Int} {sts : List PrV} {line dst : ByteArray} (h : nxV hs l line t (wantF (stH sts line)) = (dst, true)) : nxF hs l t sts line = some dst ∧ ∃ f ∈ l, f.to_ = dst := by
  unfold nxV at h; unfold nxF
  cases hf : l.find? (nxP hs line t (wantF (stH sts line))) with
  | none => rw [hf] at h; cases h
  | some f =>
    rw [hf] at h
    injection h with h1 h2
    exact ⟨by rw [← h1]; rfl, f, List.mem_of_find?_eq_some hf, h1⟩
set_option maxHeartbeats 16000000 in
set_option maxRecDepth 100000 in
theorem chain_any (lo : Nat) (p : PlV) (LB : Bool) (A : Option Addr) (n c : Nat) (l : List FwV) (line : ByteArray) (t : Int) (B : Option Addr) (m d : Nat) (sts : List PrV) (w : World) (hpl : PlOk w lo p) (hLB : LB = true ↔ Loops p.ctxs) (h : Fws w lo A n c l) (hn : n ≤ 1000000000) (hs : Prs w lo B m d sts) (hm : m ≤ 1000000000) (hls : line.size ≤ 1000000) :
    Calls Tryz.prog 10 #[.agg #[.slice p.cA p.cn p.cc, .slice p.hA p.hn p.hc], .slice A n c, .string line, .int .i64 t, .slice B m d] w (ChainV (chV p LB l line t sts) w) := by
  have H := Lib.hid h; have HPL := Lib.hid hpl; have HST := Lib.hid hs
  clear h hpl hs
  obtain ⟨W1, hW⟩ : ∃ W1, w.alloc (.cells #[.slice p.cA p.cn p.cc, .slice p.hA p.hn p.hc] 48) = W1 := ⟨_, rfl⟩
  obtain ⟨pb, hpb⟩ : ∃ b, w.heap.size = b := ⟨_, rfl⟩
  have HP := Lib.hid (show Blk W1 pb 48 #[.slice p.cA p.cn p.cc, .slice p.hA p.hn p.hc] by rw [← hW, ← hpb]; exact Blk.new _ _ _)
  have HG := Lib.hid (show w.grownBy W1 none by rw [← hW]; exact gr_alloc (gr_refl _ _) _)
  have HW := Lib.hid hW; have HPB := Lib.hid hpb; clear hW hpb
  go_enter Tryz.func10, Tryz.ntmps10
  go_upto_region 1 with (fail)
  rw [HW.out, HPB.out]
  clear HW HPB
  obtain ⟨E, hE⟩ : ∃ E, chP p LB l = E := ⟨_, rfl⟩
  have HE := Lib.hid hE
  clear hE
  go_wp2_with (first
    | (refine wpl_load_all Tryz.plT rfl _ rfl _ rfl _ _ HP.out rfl ?_)
    | fail)
  refine (checkForwards_any lo p LB A n c l _ (HPL.out.grown HG.out (fun g e => by cases e)) hLB (H.out.grown HG.out (fun g e => by cases e)) hn).mono ?_
  rintro e w2 ⟨rfl, hg2⟩
  rw [HE.out]
  replace HP := Lib.hid (HP.out.grown hg2 (by simp))
  replace HG := Lib.hid (gr_none HG.out hg2)
  clear hg2
  by_cases e0 : E = 0
  rotate_left 1
  · have dE : (E != 0) = true := by simpa using e0
    have HV := Lib.hid (show chV p LB l line t sts = ([], E) by unfold chV; rw [HE.out, if_neg e0])
    clear e0
    go_wp2_with fail
    go_ret2
    exact ⟨none, 0, 0, by rw [HV.out]; try rfl, by rw [HV.out]; exact OwnR.nil _ _ _, HG.out⟩
  · subst e0
    obtain ⟨hpe, hfr⟩ := chP_right HE.out
    have HFR := Lib.hid hfr
    have HHR := Lib.hid (show ∀ a ∈ p.hours, HrRight a from fun a ha => right_of (HPL.out.hours.2 a ha).2.1.len (HPL.out.hours.2 a ha).2.2.len (hrs_one_of (plE_right hpe).1 ha))
    clear hfr hpe
    have dE : ((0 : Int) != 0) = false := by decide
    have HV0 := Lib.hid (show chV p LB l line t sts = if chA line t sts = 0 then chn (nxF p.hours l t sts) 9 [line] line else ([], chA line t sts) by unfold chV; rw [HE.out, if_pos rfl])
    go_wp2_with fail
    refine (isKey_any line _ (by omega)).mono ?_
    rintro e w3 ⟨rfl, hg3⟩
    replace HP := Lib.hid (HP.out.grown hg3 (by simp))
    replace HG := Lib.hid (gr_none HG.out hg3)
    clear hg3
    obtain ⟨K1, hK1⟩ : ∃ V, keyOk (nb line) = V := ⟨_, rfl⟩
    have HK := Lib.hid hK1
    rw [hK1]
    clear hK1
    cases K1
    · have hca : chA line t sts = 5 := by unfold chA; rw [HK.out]; rfl
      have HV := Lib.hid (show chV p LB l line t sts = ([], 5) by rw [HV0.out, hca, if_neg (by decide)])
      clear hca
      go_wp2_with fail
      go_ret2
      exact ⟨none, 0, 0, by rw [HV.out]; try rfl, by rw [HV.out]; exact OwnR.nil _ _ _, HG.out⟩
    · obtain ⟨VM, hVM⟩ : ∃ V, momB t = V := ⟨_, rfl⟩
      have HM := Lib.hid hVM
      clear hVM
      cases VM
      · have hca : chA line t sts = 1 := by unfold chA; rw [HK.out, HM.out]; rfl
        have HV := Lib.hid (show chV p LB l line t sts = ([], 1) by rw [HV0.out, hca, if_neg (by decide)])
        clear hca
        go_wp2_with (first
          | (go_at_call 27; refine (isMomB_any _ _).mono ?_; rintro e w4 ⟨rfl, rfl⟩; rw [HM.out])
          | fail)
        go_ret2
        exact ⟨none, 0, 0, by rw [HV.out]; try rfl, by rw [HV.out]; exact OwnR.nil _ _ _, HG.out⟩
      · have HCA := Lib.hid (show chA line t sts = stE sts by unfold chA; rw [HK.out, HM.out]; rfl)
        have htb := HM.out
        unfold momB inB at htb
        simp only [Bool.and_eq_true, decide_eq_true_eq] at htb
        obtain ⟨tb0, tb1⟩ := htb
        go_wp2_with (first
          | (go_at_call 27; refine (isMomB_any _ _).mono ?_; rintro e w4 ⟨rfl, rfl⟩; rw [HM.out])
          | fail)
        refine (checkStates_any lo B m d sts _ (HST.out.grown HG.out (fun g e => by cases e)) hm).mono ?_
        rintro e w5 ⟨MV, rfl, hg5, hmv⟩
        replace HP := Lib.hid (HP.out.grown hg5 (by simp))
        replace HG := Lib.hid (gr_none HG.out hg5)
        clear hg5
        obtain ⟨S, hS⟩ : ∃ S, stE sts = S := ⟨_, rfl⟩
        rw [hS] at hmv ⊢
        have HS := Lib.hid hS
        clear hS
        by_cases s0 : S = 0
        rotate_left 1
        · have dS : (S != 0) = true := by simpa using s0
          have HV := Lib.hid (show chV p LB l line t sts = ([], S) by rw [HV0.out, HCA.out, HS.out, if_neg s0])
          clear s0 hmv
          go_wp2_with fail
          go_ret2
          exact ⟨none, 0, 0, by rw [HV.out]; try rfl, by rw [HV.out]; exact OwnR.nil _ _ _, HG.out⟩
        · subst s0
          have dS : ((0 : Int) != 0) = false := by decide
          obtain ⟨b, rfl, hbl, mn, hmm⟩ := hmv rfl
          have HV := Lib.hid (show chV p LB l line t sts = chn (nxF p.hours l t sts) 9 [line] line by rw [HV0.out, HCA.out, HS.out, if_pos rfl])
          have HMM := Lib.hid hmm
          clear hmv hmm HV0
          obtain ⟨NXT, hNXT⟩ : ∃ f, nxF p.hours l t sts = f := ⟨_, rfl⟩
          rw [hNXT] at HV
          have HNXT := Lib.hid hNXT
          clear hNXT
          obtain ⟨wb, hwb⟩ : ∃ v, w5.alloc (.cells #[.string line] 9) = v := ⟨_, rfl⟩
          obtain ⟨ob, hob⟩ : ∃ v, w5.heap.size = v := ⟨_, rfl⟩
          have hgb : w5.grownBy wb none := by rw [← hwb]; exact gr_alloc (gr_refl _ _) _
          have HO := Lib.hid (show OwnR srow 1 wb ob 9 (some ⟨ob, 0, none⟩) 1 1 [line] from ⟨by rw [← hwb, ← hob]; exact Own.lit w5 9 1 [.string line] 1 (by unfold maxLen; omega) rfl, rfl⟩)
          have ob1 : w.heap.size ≤ ob := by rw [← hob]; exact HG.out.size
          have ob2 : pb < ob := by rw [← hob]; exact HP.out.lt
          have ob3 : b < ob := by rw [← hob]; exact HMM.out.lt
          replace HP := Lib.hid (HP.out.grown hgb (by simp))
          replace HG := Lib.hid (gr_none HG.out hgb)
          replace HMM := Lib.hid (HMM.out.kept hgb (by simp))
          have HWB := Lib.hid hwb; have HOB := Lib.hid hob
          clear hwb hob hgb
          go_upto_region 12 with (fail)
          rw [HWB.out, HOB.out]
          clear HWB HOB
          go_loopw [15, 16, 17] (fun s _ _ wr => ∃ (X : Option Addr) (k kc : Nat) (out : List ByteArray) (last : ByteArray), s = .slice X k kc ∧ 1 ≤ k ∧ k ≤ 10 ∧ w.grownBy wr none ∧ Blk wr pb 48 #[.slice p.cA p.cn p.cc, .slice p.hA p.hn p.hc] ∧ MapSI wr b mn (stH sts) ∧ OwnR srow 1 wr ob 9 X k kc out ∧ out[k - 1]? = some last ∧ last.size ≤ 1000000 ∧ chn NXT 9 [line] line = chn NXT (10 - k) out last) (fun s _ _ _ => 10 - lenV s)
          case atStart => exact ⟨_, 1, 1, [line], line, rfl, by omega, by omega, HG.out, HP.out, HMM.out, HO.out, rfl, hls, rfl⟩
          case round =>
            clear HG HP HMM HO
            obtain ⟨X, k, kc, out, last, rfl, hk1, hk2, hg, hp, hmm, hown, hlast, hlz, hch⟩ := hrel
            have HG := Lib.hid hg; have HP := Lib.hid hp; have HMM := Lib.hid hmm; have HO := Lib.hid hown; have HLAST := Lib.hid hlast; have HCH := Lib.hid hch
            clear hg hp hmm hown hlast hch
            obtain ⟨g, rfl, hglo, hgl⟩ := HO.out.1.pos (by omega)
            obtain ⟨q, rfl⟩ : ∃ q, k = q + 1 := ⟨k - 1, by omega⟩
            have zr := HG.out.size
            have q1 : IntKind.i64.wrap ((((q + 1 : Nat) : Int)) - 1) = (q : Int) := by rw [show ((((q + 1 : Nat) : Int)) - 1) = (q : Int) by omega]; exact IntWalk.i64_in _ (by omega)
            have q2 : IntKind.i64.wrap (q : Int) = (q : Int) := IntWalk.i64_in _ (by omega)
            have q3 : (0 : Int) ≤ (q : Int) := by omega
            have q4 : (q : Int) < (q : Int) + 1 := by omega
            have q5 : (q : Int) < ((q + 1 : Nat) : Int) := by omega
            have HKC := Lib.hid (show ∀ w', wr.grownBy w' none → w'.cell? ⟨g, q, none⟩ = some (.string last) from fun w' hSw => by
              have kc := (HO.out.recs.grown hSw (fun g e => by cases e)).at_ srow_len (i := q) HLAST.out 0 _ rfl
              simp only [Nat.mul_one, Nat.add_zero, Nat.zero_add] at kc
              exact kc)
            obtain ⟨HW0, hHW0⟩ : ∃ x, stH sts last = x := ⟨_, rfl⟩
            have HHW := Lib.hid hHW0
            have hhc := stH_cases sts last
            rw [hHW0] at hhc
            obtain ⟨NS, NB, hNV⟩ : ∃ a b, nxV p.hours l last t (wantF HW0) = (a, b) := ⟨_, _, rfl⟩
            have HNV := Lib.hid hNV
            clear hHW0 hNV
            go_wp2_with fail
            refine H_begin (fun w' => wr.grownBy w' none) (by kernel_rfl) ?_
            have hHeld : wr.grownBy wr.drew none := gr_drew (gr_refl _ _)
            generalize wr.drew = wd at hHeld ⊢
            refine H_take (k := 0) (v := .agg #[.slice p.cA p.cn p.cc, .slice p.hA p.hn p.hc]) (by rfl) (by kernel_rfl) (by kernel_rfl) (by kernel_rfl) (by exact fun _ _ _ h => h) (by rfl) (fun w' hSw => exec_ldb Tryz.plT _ rfl _ rfl 48 [.slice p.cA p.cn p.cc, .slice p.hA p.hn p.hc] (HP.out.grown hSw (by simp)) rfl) (by assumption) ?_
            (try simp only [Act.put, List.setIfInBounds_toArray, List.set_cons_zero, List.set_cons_succ])
            refine H_take (k := 1) (v := ?_) (by rfl) (by kernel_rfl) (by kernel_rfl) (by kernel_rfl) (by exact fun _ _ _ h => h) (by rfl) ?_ (by assumption) ?_
            rotate_left 1
            · intro w hSw
              (try dsimp only at hSw)
              go_simp
              (try with_reducible rfl)
            (try simp only [Act.put, List.setIfInBounds_toArray, List.set_cons_zero, List.set_cons_succ])
            refine H_take (k := 2) (v := ?_) (by rfl) (by kernel_rfl) (by kernel_rfl) (by kernel_rfl) (by exact fun _ _ _ h => h) (by rfl) ?_ (by assumption) ?_
            rotate_left 1
            · intro w hSw
              (try dsimp only at hSw)
              go_simp
              (try with_reducible rfl)
            (try simp only [Act.put, List.setIfInBounds_toArray, List.set_cons_zero, List.set_cons_succ])
            refine H_take (k := 3) (v := ?_) (by rfl) (by kernel_rfl) (by kernel_rfl) (by kernel_rfl) (by exact fun _ _ _ h => h) (by rfl) ?_ (by assumption) ?_
            rotate_left 1
            · intro w hSw
              (try dsimp only at hSw)
              go_simp
              (try with_reducible rfl)
            (try simp only [Act.put, List.setIfInBounds_toArray, List.set_cons_zero, List.set_cons_succ])
            refine H_take (k := 4) (v := ?_) (by rfl) (by kernel_rfl) (by kernel_rfl) (by kernel_rfl) (by exact fun _ _ _ h => h) (by rfl) ?_ (by assumption) ?_
            rotate_left 1
            · intro w hSw
              (try dsimp only at hSw)
              go_simp
              (try with_reducible rfl)
            (try simp only [Act.put, List.setIfInBounds_toArray, List.set_cons_zero, List.set_cons_succ])
            refine H_take (k := 5) (v := ?_) (by rfl) (by kernel_rfl) (by kernel_rfl) (by kernel_rfl) (by exact fun _ _ _ h => h) (by rfl) ?_ (by assumption) ?_
            rotate_left 1
            · intro w hSw
              (try dsimp only at hSw)
              go_simp
              (try with_reducible rfl)
            (try simp only [Act.put, List.setIfInBounds_toArray, List.set_cons_zero, List.set_cons_succ])
            refine H_take (k := 6) (v := ?_) (by rfl) (by kernel_rfl) (by kernel_rfl) (by kernel_rfl) (by exact fun _ _ _ h => h) (by rfl) ?_ (by assumption) ?_
            rotate_left 1
            · intro w hSw
              (try dsimp only at hSw)
              go_simp
              (try with_reducible rfl)
            (try simp only [Act.put, List.setIfInBounds_toArray, List.set_cons_zero, List.set_cons_succ])
            refine H_take (k := 7) (v := ?_) (by rfl) (by kernel_rfl) (by kernel_rfl) (by kernel_rfl) (by exact fun _ _ _ h => h) (by rfl) ?_ (by assumption) ?_
            rotate_left 1
            · intro w' hSw
              have kc := HKC.out w' hSw
              go_simp
              (try with_reducible rfl)
            (try simp only [Act.put, List.setIfInBounds_toArray, List.set_cons_zero, List.set_cons_succ])
            refine H_take (k := 8) (v := ?_) (by rfl) (by kernel_rfl) (by kernel_rfl) (by kernel_rfl) (by exact fun _ _ _ h => h) (by rfl) ?_ (by assumption) ?_
            rotate_left 1
            · intro w hSw
              (try dsimp only at hSw)
              go_simp
              (try with_reducible rfl)
            (try simp only [Act.put, List.setIfInBounds_toArray, List.set_cons_zero, List.set_cons_succ])
            refine H_take (k := 9) (v := ?_) (by rfl) (by kernel_rfl) (by kernel_rfl) (by kernel_rfl) (by exact fun _ _ _ h => h) (by rfl) ?_ (by assumption) ?_
            rotate_left 1
            · intro w hSw
              (try dsimp only at hSw)
              go_simp
              (try with_reducible rfl)
            (try simp only [Act.put, List.setIfInBounds_toArray, List.set_cons_zero, List.set_cons_succ])
            refine H_take (k := 10) (v := ?_) (by rfl) (by kernel_rfl) (by kernel_rfl) (by kernel_rfl) (by exact fun _ _ _ h => h) (by rfl) ?_ (by assumption) ?_
            rotate_left 1
            · intro w hSw
              (try dsimp only at hSw)
              go_simp
              (try with_reducible rfl)
            (try simp only [Act.put, List.setIfInBounds_toArray, List.set_cons_zero, List.set_cons_succ])
            refine H_take (k := 11) (v := ?_) (by rfl) (by kernel_rfl) (by kernel_rfl) (by kernel_rfl) (by exact fun _ _ _ h => h) (by rfl) ?_ (by assumption) ?_
            rotate_left 1
            · intro w hSw
              (try dsimp only at hSw)
              go_simp
              (try with_reducible rfl)
            (try simp only [Act.put, List.setIfInBounds_toArray, List.set_cons_zero, List.set_cons_succ])
            refine H_take (k := 12) (v := ?_) (by rfl) (by kernel_rfl) (by kernel_rfl) (by kernel_rfl) (by exact fun _ _ _ h => h) (by rfl) ?_ (by assumption) ?_
            rotate_left 1
            · intro w hSw
              (try dsimp only at hSw)
              go_simp
              (try with_reducible rfl)
            (try simp only [Act.put, List.setIfInBounds_toArray, List.set_cons_zero, List.set_cons_succ])
            refine H_take (k := 13) (v := ?_) (by rfl) (by kernel_rfl) (by kernel_rfl) (by kernel_rfl) (by exact fun _ _ _ h => h) (by rfl) ?_ (by assumption) ?_
            rotate_left 1
            · intro w hSw
              (try dsimp only at hSw)
              go_simp
              (try with_reducible rfl)
            (try simp only [Act.put, List.setIfInBounds_toArray, List.set_cons_zero, List.set_cons_succ])
            refine H_take (k := 14) (v := ?_) (by rfl) (by kernel_rfl) (by kernel_rfl) (by kernel_rfl) (by exact fun _ _ _ h => h) (by rfl) ?_ (by assumption) ?_
            rotate_left 1
            · intro w hSw
              (try dsimp only at hSw)
              go_simp
              (try with_reducible rfl)
            (try simp only [Act.put, List.setIfInBounds_toArray, List.set_cons_zero, List.set_cons_succ])
            refine H_take (k := 15) (v := ?_) (by rfl) (by kernel_rfl) (by kernel_rfl) (by kernel_rfl) (by exact fun _ _ _ h => h) (by rfl) ?_ (by assumption) ?_
            rotate_left 1
            · intro w' hSw
              have kc := HKC.out w' hSw
              go_simp
              (try with_reducible rfl)
            (try simp only [Act.put, List.setIfInBounds_toArray, List.set_cons_zero, List.set_cons_succ])
            refine H_take (k := 16) (v := ?_) (by rfl) (by kernel_rfl) (by kernel_rfl) (by kernel_rfl) (by exact fun _ _ _ h => h) (by rfl) ?_ (by assumption) ?_
            rotate_left 1
            · intro w' hSw
              have kl := (HMM.out.kept hSw (by simp)).look (k := last) (by unfold maxLen; omega)
              rw [HHW.out] at kl
              go_simp
              (try with_reducible rfl)
            (try simp only [Act.put, List.setIfInBounds_toArray, List.set_cons_zero, List.set_cons_succ])
            refine H_run (k := 17) (by rfl) (by kernel_rfl) (by rfl) (fun K hK => ?_)
            go_simp
            refine (nextF_any lo lo p A n c l last t HW0 _ (HPL.out.grown (gr_none HG.out hHeld) (fun g e => by cases e)) HHR.out (H.out.grown (gr_none HG.out hHeld) (fun g e => by cases e)) HFR.out (by omega) (by omega) hhc).mono ?_
            rintro e w6 ⟨rfl, hg6⟩
            rw [HNV.out]
            have hgz := gr_none hHeld hg6
            refine hK _ _ hgz ?_
            clear hK K hHeld hg6
            have hHeld := hgz
            clear hgz
            (try simp only [Act.put, List.setIfInBounds_toArray, List.set_cons_zero, List.set_cons_succ])
            refine H_take (k := 18) (v := ?_) (by rfl) (by kernel_rfl) (by kernel_rfl) (by kernel_rfl) (by exact fun _ _ _ h => h) (by rfl) ?_ (by assumption) ?_
            rotate_left 1
            · intro w hSw
              (try dsimp only at hSw)
              go_simp
              (try with_reducible rfl)
            (try simp only [Act.put, List.setIfInBounds_toArray, List.set_cons_zero, List.set_cons_succ])
            refine H_take (k := 19) (v := ?_) (by rfl) (by kernel_rfl) (by kernel_rfl) (by kernel_rfl) (by exact fun _ _ _ h => h) (by rfl) ?_ (by assumption) ?_
            rotate_left 1
            · intro w hSw
              (try dsimp only at hSw)
              go_simp
              (try with_reducible rfl)
            (try simp only [Act.put, List.setIfInBounds_toArray, List.set_cons_zero, List.set_cons_succ])
            refine H_take (k := 20) (v := ?_) (by rfl) (by kernel_rfl) (by kernel_rfl) (by kernel_rfl) (by exact fun _ _ _ h => h) (by rfl) ?_ (by assumption) ?_
            rotate_left 1
            · intro w hSw
              (try dsimp only at hSw)
              go_simp
              (try with_reducible rfl)
            (try simp only [Act.put, List.setIfInBounds_toArray, List.set_cons_zero, List.set_cons_succ])
            refine H_take (k := 21) (v := ?_) (by rfl) (by kernel_rfl) (by kernel_rfl) (by kernel_rfl) (by exact fun _ _ _ h => h) (by rfl) ?_ (by assumption) ?_
            rotate_left 1
            · intro w hSw
              (try dsimp only at hSw)
              go_simp
              (try with_reducible rfl)
            (try simp only [Act.put, List.setIfInBounds_toArray, List.set_cons_zero, List.set_cons_succ])
            refine H_take (k := 22) (v := ?_) (by rfl) (by kernel_rfl) (by kernel_rfl) (by kernel_rfl) (by exact fun _ _ _ h => h) (by rfl) ?_ (by assumption) ?_
            rotate_left 1
            · intro w hSw
              (try dsimp only at hSw)
              go_simp
              (try with_reducible rfl)
            (try simp only [Act.put, List.setIfInBounds_toArray, List.set_cons_zero, List.set_cons_succ])
            refine H_done (by kernel_rfl) ?_
            clear q1 q2 q3 q4 q5 hhc
            replace HP := Lib.hid (HP.out.grown hHeld (by simp))
            replace HG := Lib.hid (gr_none HG.out hHeld)
            replace HMM := Lib.hid (HMM.out.kept hHeld (by simp))
            replace HO := Lib.hid (HO.out.kept hHeld (fun g e => by cases e))
            clear hHeld
            cases NB
            · have hnx : NXT last = none := by rw [← HNXT.out]; exact nxV_none (by rw [HHW.out, HNV.out])
              have HFIN := Lib.hid (show chV p LB l line t sts = (out, 0) by rw [HV.out, HCH.out, chn_end hnx])
              clear hnx
              go_wp2_with fail
              go_ret2
              exact ⟨_, _, _, by rw [HFIN.out]; try rfl, by rw [HFIN.out]; exact HO.out.lower ob1, HG.out⟩
            · obtain ⟨hnx0, f, hf, hft⟩ := nxV_some (sts := sts) (line := last) (dst := NS) (by rw [HHW.out]; exact HNV.out)
              have hnx : NXT last = some NS := by rw [← HNXT.out]; exact hnx0
              have HNX := Lib.hid hnx
              have hnz : NS.size ≤ 1000000 := by rw [← hft]; exact (H.out.2 f hf).2.1
              clear hnx0 hf hft hnx
              obtain ⟨VC, hVC⟩ : ∃ V, memS out NS = V := ⟨_, rfl⟩
              have HVC := Lib.hid hVC
              clear hVC
              cases VC
              rotate_left 1
              · have HFIN := Lib.hid (show chV p LB l line t sts = ([], 14) by rw [HV.out, HCH.out, chn_loop HNX.out HVC.out])
                go_wp2_with (first
                  | (go_at_call 30; refine (containsS_any _ _ _ _ out NS _ (by exact HO.out.recs) (by omega)).mono ?_; rintro e w' ⟨rfl, rfl⟩; rw [show out.any (fun x => nb x == nb NS) = _ from HVC.out])
                  | fail)
                go_ret2
                exact ⟨none, 0, 0, by rw [HFIN.out]; try rfl, by rw [HFIN.out]; exact OwnR.nil _ _ _, HG.out⟩
              · by_cases h10 : q = 9
                · subst h10
                  have HFIN := Lib.hid (show chV p LB l line t sts = ([], 2) by rw [HV.out, HCH.out]; exact chn_large HNX.out HVC.out)
                  go_wp2_with (first
                    | (go_at_call 30; refine (containsS_any _ _ _ _ out NS _ (by exact HO.out.recs) (by omega)).mono ?_; rintro e w' ⟨rfl, rfl⟩; rw [show out.any (fun x => nb x == nb NS) = _ from HVC.out])
                    | fail)
                  go_ret2
                  exact ⟨none, 0, 0, by rw [HFIN.out]; try rfl, by rw [HFIN.out]; exact OwnR.nil _ _ _, HG.out⟩
                · have d10 : ((((q + 1 : Nat) : Int)) == 10) = false := by simp; omega
                  have d11 : ((q : Int) + 1 == 10) = false := by simp; omega
                  have HN := Lib.hid (show chn NXT 9 [line] line = chn NXT (10 - (q + 1 + 1)) (out ++ [NS]) NS by rw [HCH.out, show 10 - (q + 1) = (10 - (q + 1 + 1)) + 1 by omega]; exact chn_more HNX.out HVC.out)
                  have hq8 : q ≤ 8 := by omega
                  have zo := HO.out.1.lt (g := g) rfl
                  have h11 : ¬ (q : Int) + 1 = 10 := by omega
                  have h12 : ¬ (q : Int) = 9 := by omega
                  go_wp2_with (first
                    | (go_at_call 30; refine (containsS_any _ _ _ _ out NS _ (by exact HO.out.recs) (by omega)).mono ?_; rintro e w' ⟨rfl, rfl⟩; rw [show out.any (fun x => nb x == nb NS) = _ from HVC.out])
                    | (at_builtin
                       refine wpl_app _ rfl _ _ Tryz.stT rfl ob (some ⟨g, 0, none⟩) (q + 1) kc _ rfl (by exact HO.out.1.alloc _) _ _ 1 1 [.string NS] rfl (by exact Reads.one _ _ _ _ rfl) (by simp [Value.oneCell']) (by unfold maxLen; omega) (by omega) (by simp; omega) ?_
                       intro A9 c9 w9 h9
                       have H9 := Lib.hid h9; clear h9)
                    | fail)
                  go_roundw
                  case rel => exact ⟨A9, q + 1 + 1, c9, out ++ [NS], NS, rfl, by omega, by omega, gr_own (gr_alloc HG.out _) (HO.out.1.alloc _) ob1 H9.out.2.1, (HP.out.alloc _).grown H9.out.2.1 (show some pb ≠ some g from fun e => by injection e with e; omega), (HMM.out.kept (gr_alloc (gr_refl _ none) _) (by simp)).kept H9.out.2.1 (show some b ≠ some g from fun e => by injection e with e; omega), (HO.out.alloc _).app rfl H9.out, by rw [List.getElem?_append_right (by rw [HO.out.2]; omega), HO.out.2]; simp, hnz, HN.out⟩
                  case measure => simp [lenV]; omega
end Go.Proofs.YtfakdalpaopjaaaGreatDoor

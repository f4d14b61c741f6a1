/- Contract of the document's ChainOf. Conditions: a right plan, right forwards, right states. -/
import Derived.Test.YtpjheibkacbbcaaGreatDoorCf5
namespace Go.Proofs.YtpjheibkacbbcaaGreatDoor
open Go.RowKit

/-- The first of some forwards that counts, if there was none before. -/
def acF (hs : List HrV) (line : ByteArray) (t kind : Int) (cur : ByteArray) (l : List FwV) : ByteArray := l.foldl (fun cur f => if (decide (nb cur = []) && nxK hs line t kind f) = true then f.to_ else cur) cur
section
variable {hs : List HrV} {line cur : ByteArray} {t kind : Int} {l : List FwV} {i : Nat} {f : FwV}
theorem acF_succ (h : l[i]? = some f) : acF hs line t kind cur (l.take (i + 1)) = if (decide (nb (acF hs line t kind cur (l.take i)) = []) && nxK hs line t kind f) = true then f.to_ else acF hs line t kind cur (l.take i) := by
  rw [take_get1 h]; unfold acF; rw [List.foldl_append]; rfl
theorem acF_full (h : nb cur ≠ []) : acF hs line t kind cur l = cur := by
  unfold acF
  induction l with
  | nil => rfl
  | cons a l ih => rw [List.foldl_cons, if_neg (by rw [decide_eq_false h]; simp)]; exact ih
theorem acF_find (hk : ∀ f ∈ l, nb f.to_ ≠ []) (h : nb cur = []) : acF hs line t kind cur l = (l.find? (nxK hs line t kind)).elim cur (·.to_) := by
  induction l with
  | nil => rfl
  | cons a l ih =>
    rw [List.find?_cons]
    cases hn : nxK hs line t kind a
    · show acF hs line t kind (if _ then _ else cur) l = _
      rw [if_neg (by rw [hn]; simp)]
      exact ih (fun f hf => hk f (List.mem_cons_of_mem _ hf))
    · show acF hs line t kind (if _ then _ else cur) l = _
      rw [if_pos (by rw [hn, decide_eq_true h]; rfl)]
      exact acF_full (hk a (by simp))
end
theorem fw_full {hs : List HrV} {l : List FwV} (h : FwsRight hs l) : ∀ f ∈ l, nb f.to_ ≠ [] := fun f hf e => by
  have h1 := (fwF_right (h.all f hf)).2.1
  rw [e] at h1
  exact absurd h1 (by decide)
theorem wantF_ok (h : Int) (hh : h = 0 ∨ h = 1 ∨ h = 2) : wantF h = 0 ∨ 1 < wantF h := by rcases hh with rfl | rfl | rfl <;> decide
theorem ac_two {hs : List HrV} {l : List FwV} (hr : FwsRight hs l) (t : Int) (sts : List PrV) (line : ByteArray) :
    acF hs line t (wantF (stH sts line)) (acF hs line t 1 ⟨#[]⟩ l) l = (nxF hs l t sts line).elim ⟨#[]⟩ id := by
  unfold nxF
  rw [nx_two hr line t _ (wantF_ok _ (stH_cases sts line)), acF_find (fw_full hr) (show nb ⟨#[]⟩ = [] from rfl)]
  cases h1 : l.find? (nxK hs line t 1) with
  | some f => exact acF_full (fw_full hr f (List.mem_of_find?_eq_some h1))
  | none =>
    show acF hs line t _ ⟨#[]⟩ l = _
    rw [acF_find (fw_full hr) (show nb ⟨#[]⟩ = [] from rfl)]
    cases l.find? (nxK hs line t (wantF (stH sts line))) <;> rfl
theorem nxF_mem {hs : List HrV} {l : List FwV} {t : Int} {sts : List PrV} {line x : ByteArray} (h : nxF hs l t sts line = some x) : ∃ f ∈ l, f.to_ = x := by
  unfold nxF at h
  cases hf : l.find? (nxP hs line t (wantF (stH sts line))) with
  | none => rw [hf] at h; cases h
  | some f => rw [hf] at h; injection h with h; exact ⟨f, List.mem_of_find?_eq_some hf, h⟩
theorem want_of (v : List Nat) : (if sil = v then 3 else if bsy = v then 2 else 0) = wantF (stV v) := by
  unfold stV wantF
  by_cases h1 : v = bsy
  · subst h1; decide
  · by_cases h2 : v = sil
    · subst h2; decide
    · rw [if_neg h1, if_neg h2, if_neg (fun e => h2 e.symm), if_neg (fun e => h1 e.symm)]; decide
set_option maxHeartbeats 32000000 in
set_option maxRecDepth 100000 in
theorem chainOf_any (lo : Nat) (p : PlV) (A : Option Addr) (n c : Nat) (l : List FwV) (line : ByteArray) (t : Int) (B : Option Addr) (m d : Nat) (sts : List PrV) (w : World) (hpl : PlOk w lo p) (hr : ∀ a ∈ p.hours, HrRight a) (h : Fws w lo A n c l) (hl : FwsRight p.hours l) (hs : Prs w lo B m d sts) (hm : m ≤ 1000000000) (hls : line.size ≤ 1000000) (t0 : -1 ≤ t) (t1 : t ≤ 345686400000) :
    Calls Tryz.prog 41 #[.agg #[.slice p.cA p.cn p.cc, .slice p.hA p.hn p.hc], .slice A n c, .string line, .int .i64 t, .slice B m d] w (ChainV (chn (nxF p.hours l t sts) 9 [line] line) w) := by
  have H := Lib.hid h; have HPL := Lib.hid hpl; have HHR := Lib.hid hr; have HL := Lib.hid hl; have HST := Lib.hid hs
  have hn : n ≤ 1000 := by rw [← h.1.len]; exact hl.len
  clear h hpl hr hl hs
  obtain ⟨W1, hW⟩ : ∃ W1, w.alloc (.cells #[.slice p.cA p.cn p.cc, .slice p.hA p.hn p.hc] 48) = W1 := ⟨_, rfl⟩
  obtain ⟨pb, hpb⟩ : ∃ b, w.heap.size = b := ⟨_, rfl⟩
  obtain ⟨W2, hW2⟩ : ∃ W2, W1.alloc (.cells #[.string line] 9) = W2 := ⟨_, rfl⟩
  obtain ⟨ob, hob⟩ : ∃ b, W1.heap.size = b := ⟨_, rfl⟩
  have ob0 : ob = pb + 1 := by rw [← hob, ← hW, ← hpb]; simp
  have HP := Lib.hid (show Blk W2 pb 48 #[.slice p.cA p.cn p.cc, .slice p.hA p.hn p.hc] by rw [← hW2, ← hW, ← hpb]; exact (Blk.new _ _ _).alloc _)
  have HG := Lib.hid (show w.grownBy W2 none by rw [← hW2, ← hW]; exact gr_alloc (gr_alloc (gr_refl _ _) _) _)
  have HO := Lib.hid (show OwnR srow 1 W2 ob 9 (some ⟨ob, 0, none⟩) 1 1 [line] from ⟨by rw [← hW2, ← hob]; exact Own.lit W1 9 1 [.string line] 1 (by unfold maxLen; omega) rfl, rfl⟩)
  have ob1 : w.heap.size ≤ ob := by omega
  have ob2 : pb < ob := by omega
  clear ob0
  have HW := Lib.hid hW; have HPB := Lib.hid hpb; have HW2 := Lib.hid hW2; have HOB := Lib.hid hob
  clear hW hpb hW2 hob
  obtain ⟨NXT, hNXT⟩ : ∃ f, nxF p.hours l t sts = f := ⟨_, rfl⟩
  rw [hNXT]
  have HNXT := Lib.hid hNXT
  clear hNXT
  go_enter Tryz.func41, Tryz.ntmps41
  go_upto_region 1 with (fail)
  rw [HW.out, HPB.out]
  go_upto_region 2 with (fail)
  rw [HW2.out, HOB.out]
  clear HW HPB HW2 HOB
  go_loopw [2, 12, 13, 15, 16, 18, 20] (fun v2 v12 _ _ _ _ _ wr => ∃ (X : Option Addr) (k kc : Nat) (out : List ByteArray) (last : ByteArray), v12 = .slice X k kc ∧ v2 = .string last ∧ 1 ≤ k ∧ k ≤ 10 ∧ w.grownBy wr none ∧ Blk wr pb 48 #[.slice p.cA p.cn p.cc, .slice p.hA p.hn p.hc] ∧ OwnR srow 1 wr ob 9 X k kc out ∧ last.size ≤ 1000000 ∧ chn NXT 9 [line] line = chn NXT (10 - k) out last) (fun _ v12 _ _ _ _ _ _ => 10 - lenV v12)
  case atStart => exact ⟨_, 1, 1, [line], line, rfl, rfl, by omega, by omega, HG.out, HP.out, HO.out, hls, rfl⟩
  case round =>
    clear HG HP HO
    obtain ⟨X, k, kc, out, last, rfl, rfl, hk1, hk2, hg, hp, hown, hlz, hch⟩ := hrel
    have HG := Lib.hid hg; have HP := Lib.hid hp; have HO := Lib.hid hown; have HCH := Lib.hid hch
    clear hg hp hown hch
    obtain ⟨wo, rfl⟩ : ∃ wo : World, wo = wr := ⟨_, rfl⟩
    go_wp2_with fail
    go_loopw [13, 15, 25] (fun v13 _ t25 wr => ∃ i : Nat, i ≤ m ∧ t25 = .int .i64 i ∧ v13 = .int .i64 (wantF (stH (sts.take i) last)) ∧ wo.grownBy wr none) (fun _ _ t25 _ => m - (intOf t25).toNat)
    case atStart => exact ⟨0, Nat.zero_le _, rfl, rfl, gr_refl _ _⟩
    case round =>
      obtain ⟨i, hi, rfl, rfl, hrr⟩ := hrel
      have HR := Lib.hid hrr; clear hrr
      obtain ⟨WI, hWI⟩ : ∃ x, wantF (stH (sts.take i) last) = x := ⟨_, rfl⟩
      have HWI := Lib.hid hWI
      rw [hWI]
      clear hWI
      by_cases hlt : i < m
      · obtain ⟨g4, o4, ⟨nm, vl⟩, rfl, _, hgl4, hz, hc⟩ := (HST.out.1.grown (gr_none HG.out HR.out) (fun g e => by cases e)).get PrV.row_len hlt
        have hvl : vl.size ≤ 1000000 := (HST.out.2 _ (mem_of_get hz)).2
        have HZ := Lib.hid hz; have HC := Lib.hid hc; clear hz hc hgl4
        obtain ⟨w1, hw1⟩ : ∃ v, wr.alloc (.cells #[.string nm, .string vl] 186) = v := ⟨_, rfl⟩
        obtain ⟨zb, hzb⟩ : ∃ b, wr.heap.size = b := ⟨_, rfl⟩
        have HB := Lib.hid (show Blk w1 zb 186 #[.string nm, .string vl] by rw [← hw1, ← hzb]; exact Blk.new _ _ _)
        have hg1 : wr.grownBy w1 none := by rw [← hw1]; exact gr_alloc (gr_refl _ _) _
        replace HR := Lib.hid (gr_none HR.out hg1)
        have HW1 := Lib.hid hw1; have HZB := Lib.hid hzb
        clear hw1 hzb hg1
        go_upto_region 6 with (first
          | (refine wpl_load_at Tryz.prT rfl _ rfl _ rfl [.string nm, .string vl] rfl (fun j u hu => by rw [add_mk]; exact HC.out j u hu) ?_)
          | fail)
        rw [HW1.out]
        (try rw [HZB.out])
        clear HW1 HZB HC
        have k0 := HB.out.cell 0; have k1 := HB.out.cell 1
        obtain ⟨EQ, hEQ⟩ : ∃ V, (nb nm == nb last) = V := ⟨_, rfl⟩
        have HEQ := Lib.hid hEQ
        have hEQ2 : (nm.toList == last.toList) = EQ := by rw [eqS_nb]; exact hEQ
        clear hEQ
        cases EQ
        · have HE := Lib.hid (show wantF (stH (sts.take (i + 1)) last) = WI by rw [stH_succ HZ.out, if_neg (by have := HEQ.out; simpa using this)]; exact HWI.out)
          go_wp2_with fail
          go_roundw
          case rel =>
            first
            | exact ⟨i + 1, by omega, by go_num, by rw [HE.out], HR.out⟩
            | (repeat (refine Exists.intro ?_ ?_; rotate_left 1)
               refine And.intro ?_ ?_
               rotate_left 1
               · rfl
               · exact ⟨i + 1, by omega, by go_num, by rw [HE.out], HR.out⟩)
            | fail
          case measure => simp [intOf]; omega
        · have hmm := @run_makeMap Tryz.prog
          obtain ⟨bs, hbs⟩ : ∃ x, (⟨#[98, 117, 115, 121]⟩ : ByteArray) = x := ⟨_, rfl⟩
          obtain ⟨ss, hss⟩ : ∃ x, (⟨#[115, 105, 108, 101, 110, 116]⟩ : ByteArray) = x := ⟨_, rfl⟩
          have hb1 : nb bs = bsy := by rw [← hbs]; rfl
          have hs1 : nb ss = sil := by rw [← hss]; rfl
          have hbz : bs.size = 4 := by rw [← hbs]; rfl
          have hsz : ss.size = 6 := by rw [← hss]; rfl
          obtain ⟨u1, hrun1, hm1, hgu1⟩ := (MapSI.new w1).put (k := bs) (v := 2) (by unfold maxLen; omega) (by unfold maxLen; omega) (int_wf (by omega) (by omega))
          obtain ⟨u2, hrun2, hm2, hgu2⟩ := hm1.put (k := ss) (v := 3) (by unfold maxLen; omega) (by unfold maxLen; omega) (int_wf (by omega) (by omega))
          have hlook := hm2.look (k := vl) (by unfold maxLen; omega)
          obtain ⟨WV, hWV⟩ : ∃ x, wantF (stV (nb vl)) = x := ⟨_, rfl⟩
          have hww : (if nb ss = nb vl then (3 : Int) else if nb bs = nb vl then 2 else 0) = WV := by rw [hb1, hs1, ← hWV]; exact want_of _
          rw [hww] at hlook
          have hgm : w1.grownBy u2 none := gr_trans (gr_trans (gr_alloc (gr_refl w1 none) (.map #[] 0)) hgu1 (fun g e => .inr (by injection e with e; omega))) hgu2 (fun g e => .inr (by injection e with e; omega))
          have HE := Lib.hid (show wantF (stH (sts.take (i + 1)) last) = WV by rw [stH_succ HZ.out, if_pos (by have := HEQ.out; simpa using this)]; exact hWV)
          have k1' := (HB.out.grown hgm (by simp)).cell 1
          replace HR := Lib.hid (gr_none HR.out hgm)
          clear hm1 hm2 hgu1 hgu2 hww hWV hb1 hs1 hbz hsz hgm
          go_wp2_with fail
          go_roundw
          case rel => exact ⟨i + 1, by omega, by go_num, by rw [HE.out], HR.out⟩
          case measure => simp [intOf]; omega
      · obtain rfl : i = m := by omega
        rw [List.take_of_length_le (by rw [HST.out.1.len]; exact Nat.le_refl _)] at HWI
        obtain ⟨WN, hWN⟩ : ∃ x, WI = x := ⟨_, rfl⟩
        subst hWN
        obtain ⟨wk, hwk⟩ : ∃ v, wr.alloc (.cells #[.int .i64 1, .int .i64 WI] 3) = v := ⟨_, rfl⟩
        obtain ⟨kb, hkb⟩ : ∃ v, wr.heap.size = v := ⟨_, rfl⟩
        have HKB := Lib.hid (show Blk wk kb 3 #[.int .i64 1, .int .i64 WI] by rw [← hwk, ← hkb]; exact Blk.new _ _ _)
        have hgk : wr.grownBy wk none := by rw [← hwk]; exact gr_alloc (gr_refl _ _) _
        replace HR := Lib.hid (gr_none HR.out hgk)
        have HWK := Lib.hid hwk; have HKBE := Lib.hid hkb
        clear hwk hkb hgk
        go_upto_region 11 with (fail)
        rw [HWK.out, HKBE.out]
        clear HWK HKBE
        obtain ⟨N1, hN1⟩ : ∃ x, acF p.hours last t 1 ⟨#[]⟩ l = x := ⟨_, rfl⟩
        obtain ⟨N2, hN2⟩ : ∃ x, acF p.hours last t WI N1 l = x := ⟨_, rfl⟩
        have HN1 := Lib.hid hN1; have HN2 := Lib.hid hN2
        have HNN := Lib.hid (show N2 = (NXT last).elim ⟨#[]⟩ id by rw [← hN2, ← hN1, ← HWI.out, ← HNXT.out]; exact ac_two HL.out t sts last)
        clear hN1 hN2
        go_loopw [16, 18, 20, 42] (fun v16 _ _ t42 wr => wo.grownBy wr none ∧ Blk wr kb 3 #[.int .i64 1, .int .i64 WI] ∧ ((t42 = .int .i64 0 ∧ v16 = .string ⟨#[]⟩) ∨ (t42 = .int .i64 1 ∧ v16 = .string N1) ∨ (t42 = .int .i64 2 ∧ v16 = .string N2))) (fun _ _ _ t42 _ => 2 - (intOf t42).toNat)
        case atStart => exact ⟨HR.out, HKB.out, .inl ⟨rfl, rfl⟩⟩
        case round =>
          clear HR HKB
          obtain ⟨hrr, hkb, hrel⟩ := hrel
          have HR := Lib.hid hrr; have HKB := Lib.hid hkb; clear hrr hkb
          have c0 := HKB.out.cell 0; have c1 := HKB.out.cell 1
          rcases hrel with ⟨rfl, rfl⟩ | ⟨rfl, rfl⟩ | ⟨rfl, rfl⟩
          · obtain ⟨wo2, rfl⟩ : ∃ wo2 : World, wo2 = wr := ⟨_, rfl⟩
            have HR0 := HR
            have HKB0 := HKB
            go_wp2_with fail
            go_loopw [16, 20, 48] (fun v16 _ t48 wr => ∃ i : Nat, i ≤ n ∧ t48 = .int .i64 i ∧ v16 = .string (acF p.hours last t 1 ⟨#[]⟩ (l.take i)) ∧ wo.grownBy wr none ∧ Blk wr kb 3 #[.int .i64 1, .int .i64 WI]) (fun _ _ t48 _ => n - (intOf t48).toNat)
            case atStart => exact ⟨0, Nat.zero_le _, rfl, by rfl, HR0.out, HKB0.out⟩
            case round =>
              clear HR HKB HR0 HKB0
              obtain ⟨i, hi, rfl, rfl, hrr, hkb⟩ := hrel
              have HR := Lib.hid hrr; have HKB := Lib.hid hkb; clear hrr hkb
              obtain ⟨AC, hAC⟩ : ∃ x, acF p.hours last t 1 ⟨#[]⟩ (l.take i) = x := ⟨_, rfl⟩
              have HAC := Lib.hid hAC
              rw [hAC]
              clear hAC
              by_cases hlt : i < n
              · obtain ⟨g4, o4, ⟨ln, wh, too, hr⟩, rfl, _, hgl4, hz, hc⟩ := (H.out.1.grown (gr_none HG.out HR.out) (fun g e => by cases e)).get FwV.row_len hlt
                have HHK := Lib.hid (show hrsOk p.hours hr = true from (fwF_right (HL.out.all _ (mem_of_get hz))).2.2.2.1)
                have HZ := Lib.hid hz; have HC := Lib.hid hc; clear hz hc hgl4
                obtain ⟨w1, hw1⟩ : ∃ v, wr.alloc (.cells #[.string ln, .int .i64 wh, .string too, .string hr] 114) = v := ⟨_, rfl⟩
                obtain ⟨zb, hzb⟩ : ∃ b, wr.heap.size = b := ⟨_, rfl⟩
                have HB := Lib.hid (show Blk w1 zb 114 #[.string ln, .int .i64 wh, .string too, .string hr] by rw [← hw1, ← hzb]; exact Blk.new _ _ _)
                have hg1 : wr.grownBy w1 none := by rw [← hw1]; exact gr_alloc (gr_refl _ _) _
                replace HR := Lib.hid (gr_none HR.out hg1)
                replace HKB := Lib.hid (HKB.out.grown hg1 (by simp))
                have HW1 := Lib.hid hw1; have HZB := Lib.hid hzb
                clear hw1 hzb hg1
                go_upto_region 16 with (first
                  | (refine wpl_load_at Tryz.fwT rfl _ rfl _ rfl [.string ln, .int .i64 wh, .string too, .string hr] rfl (fun j u hu => by rw [add_mk]; exact HC.out j u hu) ?_)
                  | fail)
                rw [HW1.out]
                (try rw [HZB.out])
                clear HW1 HZB HC
                have k0 := HB.out.cell 0; have k1 := HB.out.cell 1; have k2 := HB.out.cell 2; have k3 := HB.out.cell 3
                by_cases hae : nb AC = []
                rotate_left 1
                · obtain ⟨e1, e2, e3⟩ := str_full hae
                  have HE := Lib.hid (show acF p.hours last t 1 ⟨#[]⟩ (l.take (i + 1)) = AC by rw [acF_succ HZ.out, HAC.out]; exact if_neg (by rw [decide_eq_false hae, Bool.false_and]; decide))
                  clear hae
                  go_wp2_with fail
                  go_roundw
                  case rel =>
                    first
                    | exact ⟨i + 1, by omega, by go_num, by rw [HE.out], HR.out, HKB.out⟩
                    | (repeat (refine Exists.intro ?_ ?_; rotate_left 1)
                       refine And.intro ?_ ?_
                       rotate_left 1
                       · rfl
                       · exact ⟨i + 1, by omega, by go_num, by rw [HE.out], HR.out, HKB.out⟩)
                    | fail
                  case measure => simp [intOf]; omega
                · have e1 : (AC.toList == []) = true := by rw [str_nil hae]; rfl
                  obtain ⟨EQ, hEQ⟩ : ∃ V, (nb ln == nb last) = V := ⟨_, rfl⟩
                  have HEQ := Lib.hid hEQ
                  have hEQ2 : (ln.toList == last.toList) = EQ := by rw [eqS_nb]; exact hEQ
                  clear hEQ
                  have HAE := Lib.hid hae
                  clear hae
                  cases EQ
                  · have HE := Lib.hid (show acF p.hours last t 1 ⟨#[]⟩ (l.take (i + 1)) = AC by rw [acF_succ HZ.out, HAC.out]; exact if_neg (by rw [show nxK p.hours last t 1 ⟨ln, wh, too, hr⟩ = false by show ((nb ln == nb last) && _ && _) = false; rw [HEQ.out]; rfl, Bool.and_false]; decide))
                    go_wp2_with fail
                    go_roundw
                    case rel =>
                      first
                      | exact ⟨i + 1, by omega, by go_num, by rw [HE.out], HR.out, HKB.out⟩
                      | (repeat (refine Exists.intro ?_ ?_; rotate_left 1)
                         refine And.intro ?_ ?_
                         rotate_left 1
                         · rfl
                         · exact ⟨i + 1, by omega, by go_num, by rw [HE.out], HR.out, HKB.out⟩)
                      | fail
                    case measure => simp [intOf]; omega
                  · by_cases h2 : wh = 1
                    rotate_left 1
                    · have d2 : (wh == 1) = false := by simp [h2]
                      have d2' : decide (wh = 1) = false := decide_eq_false h2
                      have HE := Lib.hid (show acF p.hours last t 1 ⟨#[]⟩ (l.take (i + 1)) = AC by rw [acF_succ HZ.out, HAC.out]; exact if_neg (by rw [show nxK p.hours last t 1 ⟨ln, wh, too, hr⟩ = false by show (_ && decide (wh = 1) && _) = false; rw [d2', Bool.and_false]; rfl, Bool.and_false]; decide))
                      clear h2
                      go_wp2_with fail
                      go_roundw
                      case rel =>
                        first
                        | exact ⟨i + 1, by omega, by go_num, by rw [HE.out], HR.out, HKB.out⟩
                        | (repeat (refine Exists.intro ?_ ?_; rotate_left 1)
                           refine And.intro ?_ ?_
                           rotate_left 1
                           · rfl
                           · exact ⟨i + 1, by omega, by go_num, by rw [HE.out], HR.out, HKB.out⟩)
                        | fail
                      case measure => simp [intOf]; omega
                    · have d2 : (wh == 1) = true := by simp [h2]
                      have HD2 := Lib.hid (show decide (wh = 1) = true from decide_eq_true h2)
                      clear h2
                      have cP := (HP.out.grown HR.out (by simp)).cell
                      go_wp2_with fail
                      refine (countsR_any lo p hr t _ (HPL.out.grown (gr_none HG.out HR.out) (fun g e => by cases e)) HHR.out HHK.out (by omega) (by omega)).mono ?_
                      rintro e w5 ⟨rfl, hg5⟩
                      obtain ⟨VC, hVC⟩ : ∃ V, cntB p.hours hr t = V := ⟨_, rfl⟩
                      have HVC := Lib.hid hVC
                      rw [hVC]
                      clear hVC k0 k1 k2 k3 cP
                      replace HB := Lib.hid (HB.out.grown hg5 (by simp))
                      replace HKB := Lib.hid (HKB.out.grown hg5 (by simp))
                      replace HR := Lib.hid (gr_none HR.out hg5)
                      clear hg5
                      have k2 := HB.out.cell 2
                      cases VC
                      · have HE := Lib.hid (show acF p.hours last t 1 ⟨#[]⟩ (l.take (i + 1)) = AC by rw [acF_succ HZ.out, HAC.out]; exact if_neg (by rw [show nxK p.hours last t 1 ⟨ln, wh, too, hr⟩ = false by show (_ && _ && cntB p.hours hr t) = false; rw [HVC.out, Bool.and_false], Bool.and_false]; decide))
                        go_wp2_with fail
                        go_roundw
                        case rel =>
                          first
                          | exact ⟨i + 1, by omega, by go_num, by rw [HE.out], HR.out, HKB.out⟩
                          | (repeat (refine Exists.intro ?_ ?_; rotate_left 1)
                             refine And.intro ?_ ?_
                             rotate_left 1
                             · rfl
                             · exact ⟨i + 1, by omega, by go_num, by rw [HE.out], HR.out, HKB.out⟩)
                          | fail
                        case measure => simp [intOf]; omega
                      · have HE := Lib.hid (show acF p.hours last t 1 ⟨#[]⟩ (l.take (i + 1)) = too by
                          rw [acF_succ HZ.out, HAC.out]
                          exact if_pos (by rw [decide_eq_true HAE.out, show nxK p.hours last t 1 ⟨ln, wh, too, hr⟩ = true by show ((nb ln == nb last) && decide (wh = 1) && cntB p.hours hr t) = true; rw [HEQ.out, HD2.out, HVC.out]; rfl]; rfl))
                        go_wp2_with fail
                        go_roundw
                        case rel =>
                          first
                          | exact ⟨i + 1, by omega, by go_num, by rw [HE.out], HR.out, HKB.out⟩
                          | (repeat (refine Exists.intro ?_ ?_; rotate_left 1)
                             refine And.intro ?_ ?_
                             rotate_left 1
                             · rfl
                             · exact ⟨i + 1, by omega, by go_num, by rw [HE.out], HR.out, HKB.out⟩)
                          | fail
                        case measure => simp [intOf]; omega
              · obtain rfl : i = n := by omega
                rw [List.take_of_length_le (by rw [H.out.1.len]; exact Nat.le_refl _)] at HAC
                go_wp2_with fail
                go_roundw
                case rel => exact ⟨HR.out, HKB.out, .inr (.inl ⟨rfl, by rw [← HAC.out, HN1.out]⟩)⟩
                case measure => simp [intOf]
          · obtain ⟨wo2, rfl⟩ : ∃ wo2 : World, wo2 = wr := ⟨_, rfl⟩
            have HR0 := HR
            have HKB0 := HKB
            go_wp2_with fail
            go_loopw [16, 20, 48] (fun v16 _ t48 wr => ∃ i : Nat, i ≤ n ∧ t48 = .int .i64 i ∧ v16 = .string (acF p.hours last t WI N1 (l.take i)) ∧ wo.grownBy wr none ∧ Blk wr kb 3 #[.int .i64 1, .int .i64 WI]) (fun _ _ t48 _ => n - (intOf t48).toNat)
            case atStart => exact ⟨0, Nat.zero_le _, rfl, by rfl, HR0.out, HKB0.out⟩
            case round =>
              clear HR HKB HR0 HKB0
              obtain ⟨i, hi, rfl, rfl, hrr, hkb⟩ := hrel
              have HR := Lib.hid hrr; have HKB := Lib.hid hkb; clear hrr hkb
              obtain ⟨AC, hAC⟩ : ∃ x, acF p.hours last t WI N1 (l.take i) = x := ⟨_, rfl⟩
              have HAC := Lib.hid hAC
              rw [hAC]
              clear hAC
              by_cases hlt : i < n
              · obtain ⟨g4, o4, ⟨ln, wh, too, hr⟩, rfl, _, hgl4, hz, hc⟩ := (H.out.1.grown (gr_none HG.out HR.out) (fun g e => by cases e)).get FwV.row_len hlt
                have HHK := Lib.hid (show hrsOk p.hours hr = true from (fwF_right (HL.out.all _ (mem_of_get hz))).2.2.2.1)
                have HZ := Lib.hid hz; have HC := Lib.hid hc; clear hz hc hgl4
                obtain ⟨w1, hw1⟩ : ∃ v, wr.alloc (.cells #[.string ln, .int .i64 wh, .string too, .string hr] 114) = v := ⟨_, rfl⟩
                obtain ⟨zb, hzb⟩ : ∃ b, wr.heap.size = b := ⟨_, rfl⟩
                have HB := Lib.hid (show Blk w1 zb 114 #[.string ln, .int .i64 wh, .string too, .string hr] by rw [← hw1, ← hzb]; exact Blk.new _ _ _)
                have hg1 : wr.grownBy w1 none := by rw [← hw1]; exact gr_alloc (gr_refl _ _) _
                replace HR := Lib.hid (gr_none HR.out hg1)
                replace HKB := Lib.hid (HKB.out.grown hg1 (by simp))
                have HW1 := Lib.hid hw1; have HZB := Lib.hid hzb
                clear hw1 hzb hg1
                go_upto_region 16 with (first
                  | (refine wpl_load_at Tryz.fwT rfl _ rfl _ rfl [.string ln, .int .i64 wh, .string too, .string hr] rfl (fun j u hu => by rw [add_mk]; exact HC.out j u hu) ?_)
                  | fail)
                rw [HW1.out]
                (try rw [HZB.out])
                clear HW1 HZB HC
                have k0 := HB.out.cell 0; have k1 := HB.out.cell 1; have k2 := HB.out.cell 2; have k3 := HB.out.cell 3
                by_cases hae : nb AC = []
                rotate_left 1
                · obtain ⟨e1, e2, e3⟩ := str_full hae
                  have HE := Lib.hid (show acF p.hours last t WI N1 (l.take (i + 1)) = AC by rw [acF_succ HZ.out, HAC.out]; exact if_neg (by rw [decide_eq_false hae, Bool.false_and]; decide))
                  clear hae
                  go_wp2_with fail
                  go_roundw
                  case rel =>
                    first
                    | exact ⟨i + 1, by omega, by go_num, by rw [HE.out], HR.out, HKB.out⟩
                    | (repeat (refine Exists.intro ?_ ?_; rotate_left 1)
                       refine And.intro ?_ ?_
                       rotate_left 1
                       · rfl
                       · exact ⟨i + 1, by omega, by go_num, by rw [HE.out], HR.out, HKB.out⟩)
                    | fail
                  case measure => simp [intOf]; omega
                · have e1 : (AC.toList == []) = true := by rw [str_nil hae]; rfl
                  obtain ⟨EQ, hEQ⟩ : ∃ V, (nb ln == nb last) = V := ⟨_, rfl⟩
                  have HEQ := Lib.hid hEQ
                  have hEQ2 : (ln.toList == last.toList) = EQ := by rw [eqS_nb]; exact hEQ
                  clear hEQ
                  have HAE := Lib.hid hae
                  clear hae
                  cases EQ
                  · have HE := Lib.hid (show acF p.hours last t WI N1 (l.take (i + 1)) = AC by rw [acF_succ HZ.out, HAC.out]; exact if_neg (by rw [show nxK p.hours last t WI ⟨ln, wh, too, hr⟩ = false by show ((nb ln == nb last) && _ && _) = false; rw [HEQ.out]; rfl, Bool.and_false]; decide))
                    go_wp2_with fail
                    go_roundw
                    case rel =>
                      first
                      | exact ⟨i + 1, by omega, by go_num, by rw [HE.out], HR.out, HKB.out⟩
                      | (repeat (refine Exists.intro ?_ ?_; rotate_left 1)
                         refine And.intro ?_ ?_
                         rotate_left 1
                         · rfl
                         · exact ⟨i + 1, by omega, by go_num, by rw [HE.out], HR.out, HKB.out⟩)
                      | fail
                    case measure => simp [intOf]; omega
                  · by_cases h2 : wh = WI
                    rotate_left 1
                    · have d2 : (wh == WI) = false := by simp [h2]
                      have d2' : decide (wh = WI) = false := decide_eq_false h2
                      have HE := Lib.hid (show acF p.hours last t WI N1 (l.take (i + 1)) = AC by rw [acF_succ HZ.out, HAC.out]; exact if_neg (by rw [show nxK p.hours last t WI ⟨ln, wh, too, hr⟩ = false by show (_ && decide (wh = WI) && _) = false; rw [d2', Bool.and_false]; rfl, Bool.and_false]; decide))
                      clear h2
                      go_wp2_with fail
                      go_roundw
                      case rel =>
                        first
                        | exact ⟨i + 1, by omega, by go_num, by rw [HE.out], HR.out, HKB.out⟩
                        | (repeat (refine Exists.intro ?_ ?_; rotate_left 1)
                           refine And.intro ?_ ?_
                           rotate_left 1
                           · rfl
                           · exact ⟨i + 1, by omega, by go_num, by rw [HE.out], HR.out, HKB.out⟩)
                        | fail
                      case measure => simp [intOf]; omega
                    · have d2 : (wh == WI) = true := by simp [h2]
                      have HD2 := Lib.hid (show decide (wh = WI) = true from decide_eq_true h2)
                      clear h2
                      have cP := (HP.out.grown HR.out (by simp)).cell
                      go_wp2_with fail
                      refine (countsR_any lo p hr t _ (HPL.out.grown (gr_none HG.out HR.out) (fun g e => by cases e)) HHR.out HHK.out (by omega) (by omega)).mono ?_
                      rintro e w5 ⟨rfl, hg5⟩
                      obtain ⟨VC, hVC⟩ : ∃ V, cntB p.hours hr t = V := ⟨_, rfl⟩
                      have HVC := Lib.hid hVC
                      rw [hVC]
                      clear hVC k0 k1 k2 k3 cP
                      replace HB := Lib.hid (HB.out.grown hg5 (by simp))
                      replace HKB := Lib.hid (HKB.out.grown hg5 (by simp))
                      replace HR := Lib.hid (gr_none HR.out hg5)
                      clear hg5
                      have k2 := HB.out.cell 2
                      cases VC
                      · have HE := Lib.hid (show acF p.hours last t WI N1 (l.take (i + 1)) = AC by rw [acF_succ HZ.out, HAC.out]; exact if_neg (by rw [show nxK p.hours last t WI ⟨ln, wh, too, hr⟩ = false by show (_ && _ && cntB p.hours hr t) = false; rw [HVC.out, Bool.and_false], Bool.and_false]; decide))
                        go_wp2_with fail
                        go_roundw
                        case rel =>
                          first
                          | exact ⟨i + 1, by omega, by go_num, by rw [HE.out], HR.out, HKB.out⟩
                          | (repeat (refine Exists.intro ?_ ?_; rotate_left 1)
                             refine And.intro ?_ ?_
                             rotate_left 1
                             · rfl
                             · exact ⟨i + 1, by omega, by go_num, by rw [HE.out], HR.out, HKB.out⟩)
                          | fail
                        case measure => simp [intOf]; omega
                      · have HE := Lib.hid (show acF p.hours last t WI N1 (l.take (i + 1)) = too by
                          rw [acF_succ HZ.out, HAC.out]
                          exact if_pos (by rw [decide_eq_true HAE.out, show nxK p.hours last t WI ⟨ln, wh, too, hr⟩ = true by show ((nb ln == nb last) && decide (wh = WI) && cntB p.hours hr t) = true; rw [HEQ.out, HD2.out, HVC.out]; rfl]; rfl))
                        go_wp2_with fail
                        go_roundw
                        case rel =>
                          first
                          | exact ⟨i + 1, by omega, by go_num, by rw [HE.out], HR.out, HKB.out⟩
                          | (repeat (refine Exists.intro ?_ ?_; rotate_left 1)
                             refine And.intro ?_ ?_
                             rotate_left 1
                             · rfl
                             · exact ⟨i + 1, by omega, by go_num, by rw [HE.out], HR.out, HKB.out⟩)
                          | fail
                        case measure => simp [intOf]; omega
              · obtain rfl : i = n := by omega
                rw [List.take_of_length_le (by rw [H.out.1.len]; exact Nat.le_refl _)] at HAC
                go_wp2_with fail
                go_roundw
                case rel => exact ⟨HR.out, HKB.out, .inr (.inr ⟨rfl, by rw [← HAC.out, HN2.out]⟩)⟩
                case measure => simp [intOf]
          · clear c0 c1 HKB
            have hgo := HR.out
            replace HP := Lib.hid (HP.out.grown hgo (by simp))
            replace HG := Lib.hid (gr_none HG.out hgo)
            replace HO := Lib.hid (HO.out.kept hgo (fun g e => by cases e))
            clear hgo
            by_cases hne : nb N2 = []
            · have e1 : (N2.toList == []) = true := by rw [str_nil hne]; rfl
              have hnx : NXT last = none := by
                have h := HNN.out
                cases hx : NXT last with
                | none => rfl
                | some x =>
                  exfalso
                  rw [hx] at h
                  obtain ⟨f, hf, hft⟩ := nxF_mem (hs := p.hours) (l := l) (t := t) (sts := sts) (line := last) (x := x) (by rw [HNXT.out]; exact hx)
                  exact fw_full HL.out f hf (by rw [hft, ← (show N2 = x from h)]; exact hne)
              have HFIN := Lib.hid (show chn NXT 9 [line] line = (out, 0) by rw [HCH.out, chn_end hnx])
              clear hne hnx
              go_wp2_with fail
              go_ret2
              exact ⟨_, _, _, by rw [HFIN.out]; try rfl, by rw [HFIN.out]; exact HO.out.lower ob1, HG.out⟩
            · obtain ⟨e1, e2, e3⟩ := str_full hne
              have hnx : NXT last = some N2 := by
                have h := HNN.out
                cases hx : NXT last with
                | none => rw [hx] at h; rw [h] at hne; exact absurd rfl hne
                | some x => rw [hx] at h; rw [h]; rfl
              obtain ⟨f, hf, hft⟩ := nxF_mem (hs := p.hours) (l := l) (t := t) (sts := sts) (line := last) (x := N2) (by rw [HNXT.out]; exact hnx)
              have hnz : N2.size ≤ 1000000 := by rw [← hft]; exact (H.out.2 f hf).2.1
              have HNX := Lib.hid hnx
              clear hne hnx hf hft
              obtain ⟨VC, hVC⟩ : ∃ V, memS out N2 = V := ⟨_, rfl⟩
              have HVC := Lib.hid hVC
              clear hVC
              obtain ⟨q, rfl⟩ : ∃ q, k = q + 1 := ⟨k - 1, by omega⟩
              cases VC
              rotate_left 1
              · have HFIN := Lib.hid (show chn NXT 9 [line] line = ([], 14) by rw [HCH.out, chn_loop HNX.out HVC.out])
                go_wp2_with (first
                  | (go_at_call 54; refine (containsS_any _ _ _ _ out N2 _ (by exact HO.out.recs) (by omega)).mono ?_; rintro e w' ⟨rfl, rfl⟩; rw [show out.any (fun x => nb x == nb N2) = _ from HVC.out])
                  | fail)
                go_ret2
                exact ⟨none, 0, 0, by rw [HFIN.out]; try rfl, by rw [HFIN.out]; exact OwnR.nil _ _ _, HG.out⟩
              · by_cases h10 : q = 9
                · subst h10
                  have HFIN := Lib.hid (show chn NXT 9 [line] line = ([], 2) by rw [HCH.out]; exact chn_large HNX.out HVC.out)
                  go_wp2_with (first
                    | (go_at_call 54; refine (containsS_any _ _ _ _ out N2 _ (by exact HO.out.recs) (by omega)).mono ?_; rintro e w' ⟨rfl, rfl⟩; rw [show out.any (fun x => nb x == nb N2) = _ from HVC.out])
                    | fail)
                  go_ret2
                  exact ⟨none, 0, 0, by rw [HFIN.out]; try rfl, by rw [HFIN.out]; exact OwnR.nil _ _ _, HG.out⟩
                · have d10 : ((((q + 1 : Nat) : Int)) == 10) = false := by simp; omega
                  have d11 : ((q : Int) + 1 == 10) = false := by simp; omega
                  have HN := Lib.hid (show chn NXT 9 [line] line = chn NXT (10 - (q + 1 + 1)) (out ++ [N2]) N2 by rw [HCH.out, show 10 - (q + 1) = (10 - (q + 1 + 1)) + 1 by omega]; exact chn_more HNX.out HVC.out)
                  have hq8 : q ≤ 8 := by omega
                  have h11 : ¬ (q : Int) + 1 = 10 := by omega
                  have h12 : ¬ (q : Int) = 9 := by omega
                  obtain ⟨g, rfl, hglo, hgl⟩ := HO.out.1.pos (by omega)
                  have zo := HO.out.1.lt (g := g) rfl
                  go_wp2_with (first
                    | (go_at_call 54; refine (containsS_any _ _ _ _ out N2 _ (by exact HO.out.recs) (by omega)).mono ?_; rintro e w' ⟨rfl, rfl⟩; rw [show out.any (fun x => nb x == nb N2) = _ from HVC.out])
                    | (at_builtin
                       refine wpl_app _ rfl _ _ Tryz.stT rfl ob (some ⟨g, 0, none⟩) (q + 1) kc _ rfl (by exact HO.out.1.alloc _) _ _ 1 1 [.string N2] rfl (by exact Reads.one _ _ _ _ rfl) (by simp [Value.oneCell']) (by unfold maxLen; omega) (by omega) (by simp; omega) ?_
                       intro A9 c9 w9 h9
                       have H9 := Lib.hid h9; clear h9)
                    | fail)
                  go_roundw
                  case rel => exact ⟨A9, q + 1 + 1, c9, out ++ [N2], N2, rfl, rfl, by omega, by omega, gr_own (gr_alloc HG.out _) (HO.out.1.alloc _) ob1 H9.out.2.1, (HP.out.alloc _).grown H9.out.2.1 (show some pb ≠ some g from fun e => by injection e with e; omega), (HO.out.alloc _).app rfl H9.out, hnz, HN.out⟩
                  case measure => simp [lenV]; omega
end Go.Proofs.YtpjheibkacbbcaaGreatDoor

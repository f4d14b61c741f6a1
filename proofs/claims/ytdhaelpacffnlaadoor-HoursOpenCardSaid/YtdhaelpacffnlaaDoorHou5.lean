/- Contract of the document's TurnsOf. Conditions: hours that are right, a window that is right. -/
import Derived.Test.YtdhaelpacffnlaaDoorHou4
import Derived.Test.YtdhaelpacffnlaaDoorSortI
import Derived.Test.YtdhaelpacffnlaaDoorFloat
import Derived.Deep.CutBlock
namespace Go.Proofs.YtdhaelpacffnlaaDoor
open Go.RowKit

theorem exec_load_blk {P : Program} {w : World} {o : Oper} {ev : Operand → Value} {ty : TypeId} {n : Nat} (T : StructT P ty n) (x : Operand) (ho : o.op = .load ty x) (g : Nat) (hx : ev x = .pointer (some ⟨g, 0, none⟩)) (t : TypeId) (cs : List Value) (hb : Blk w g t cs.toArray) (hn : cs.length = n) :
    (execOp ev o).run P w = .ok (.value (.agg cs.toArray)) w := by
  unfold execOp
  simp only [ho, hx, Instr.loadAt, Instr.sureAddr, Sem.run_bind, Sem.run_pure, Result.andThen_ok, run_load_at T hn (fun j u hu => by rw [add_mk, Nat.zero_add, hb.cell]; simpa using hu)]
theorem reads_two (w : World) (t : TypeId) (cs : List Value) (n : Nat) (h : cs.length = n) {g : Nat} (hg : w.heap.size = g) : Reads (w.alloc (.cells cs.toArray t)) g 1 (some ⟨g, 0, none⟩) n n cs := by
  subst hg; exact Reads.blk (Blk.new _ _ _) 1 n (by omega)
/-- The bounds of rows. -/
def minsL (l : List (Int × Int × Int)) : List Int := l.flatMap fun r => [r.2.1, r.2.2]
theorem minsL_snoc {l : List (Int × Int × Int)} {k : Nat} {z : Int × Int × Int} (h : l[k]? = some z) : minsL (l.take (k + 1)) = minsL (l.take k) ++ [z.2.1, z.2.2] := by
  unfold minsL; rw [take_snoc' h, List.flatMap_append]; simp
theorem minsL_mem {l : List (Int × Int × Int)} {x : Int} : x ∈ minsL l ↔ ∃ r, r ∈ l ∧ (x = r.2.1 ∨ x = r.2.2) := by
  unfold minsL; rw [List.mem_flatMap]; simp
theorem minsL_len (l : List (Int × Int × Int)) : (minsL l).length = 2 * l.length := by
  unfold minsL
  induction l with
  | nil => rfl
  | cons a l ih => rw [List.flatMap_cons, List.length_append, ih]; simp; omega
def allMin (rows hol : List (Int × Int × Int)) : List Int := minsL rows ++ minsL hol ++ [0]
def msL (rows hol : List (Int × Int × Int)) : List Int := Lib.compact (sortI (allMin rows hol))
theorem msL_rise (rows hol : List (Int × Int × Int)) : (msL rows hol).Pairwise (· < ·) := (compact_rise (sortI_rise _)).1
theorem msL_mem {rows hol : List (Int × Int × Int)} {x : Int} : x ∈ msL rows hol ↔ x = 0 ∨ (∃ r, r ∈ rows ∧ (x = r.2.1 ∨ x = r.2.2)) ∨ (∃ r, r ∈ hol ∧ (x = r.2.1 ∨ x = r.2.2)) := by
  unfold msL
  rw [(compact_rise (sortI_rise _)).2, sortI_mem]
  unfold allMin
  rw [List.mem_append, List.mem_append, minsL_mem, minsL_mem, List.mem_singleton]
  constructor
  · rintro ((h | h) | h)
    · exact .inr (.inl h)
    · exact .inr (.inr h)
    · exact .inl h
  · rintro (h | h | h)
    · exact .inr h
    · exact .inl (.inl h)
    · exact .inl (.inr h)
theorem bndDays_succ (op : Int → Bool) (fr til zone : Int) (ms : List Int) (first : Int) (d : Nat) : bndDays op fr til zone ms first (d + 1) = bndDays op fr til zone ms first d ++ bndDay op fr til zone (first + d) ms := rfl
/-- One more bound of a day. -/
theorem bndDay_snoc {op : Int → Bool} {fr til zone day : Int} {ms : List Int} {j : Nat} {m : Int} (h : ms[j]? = some m) : bndDay op fr til zone day (ms.take (j + 1)) = bndDay op fr til zone day (ms.take j) ++ (if bndB op fr til zone day m then [bndAt zone day m] else []) := by
  unfold bndDay
  rw [take_snoc' h, List.filter_append, List.map_append]
  congr 1
  by_cases c : bndB op fr til zone day m = true
  · rw [if_pos c, List.filter_cons_of_pos c]; rfl
  · rw [if_neg c, List.filter_cons_of_neg c]; rfl
theorem bndDay_len (op : Int → Bool) (fr til zone day : Int) (ms : List Int) : (bndDay op fr til zone day ms).length ≤ ms.length := by
  unfold bndDay; rw [List.length_map]; exact List.length_filter_le _ _
theorem OwnR.cut {w : World} {lo : Nat} {A : Option Addr} {n c : Nat} {l : List Int} (h : OwnR nrow 1 w lo 3 A n c l) : l.length = n := h.2
set_option maxHeartbeats 8000000 in
set_option maxRecDepth 100000 in
theorem turnsOf_any (lo : Nat) (a : HrV) (fr til : Int) (w : World) (h : HrOk w lo a) (hr : HrRight a) (f0 : 0 ≤ fr) (f1 : fr ≤ til) (t1 : til ≤ 345686400000) (t2 : til - fr ≤ 34560000000) :
    Calls Tryd.prog 15 #[.agg #[.string a.key, .int .i64 a.zone, .slice a.rA a.rn a.rc, .slice a.hA a.hn a.hc], .agg #[.int .i64 fr, .int .i64 til]] w
      (fun e w' => ∃ A n c, e = .returned (.slice A n c) ∧ OwnR nrow 1 w' w.heap.size 3 A n c (bndDays (openAt a.zone a.rows a.hol) fr til a.zone (msL a.rows a.hol) ((fr + a.zone * 60000) / 86400000) ((til + a.zone * 60000) / 86400000 - (fr + a.zone * 60000) / 86400000 + 1).toNat) ∧ w.grownBy w' none) := by
  obtain ⟨key, zone, rA, rn, rc, qA, qn, qc, rows, hol⟩ := a
  have HOK := Lib.hid h; have HRI := Lib.hid hr
  obtain ⟨⟨b1, b2, b3⟩, hrr, hhh⟩ := h
  obtain ⟨⟨z0, z1⟩, ⟨l1, l2⟩, hr1, hr2⟩ := hr
  dsimp only at b1 b2 b3 hrr hhh z0 z1 l1 l2 hr1 hr2 ⊢
  have hrn : rn ≤ 50 := by rw [← hrr.len]; exact l1
  have hqn : qn ≤ 200 := by rw [← hhh.len]; exact l2
  have HR := Lib.hid hrr; have HH := Lib.hid hhh
  have HM0 := Lib.hid (show ∀ m ∈ msL rows hol, 0 ≤ m ∧ m ≤ 1440 from fun m hm => by
    rcases msL_mem.1 hm with e | ⟨r, hr, e⟩ | ⟨r, hr, e⟩
    · omega
    · have := hr1 r hr; omega
    · have := hr2 r hr; omega)
  clear hrr hhh hr1 hr2 l1 l2 b1 b2 b3
  obtain ⟨OP, hOP⟩ : ∃ OP, openAt zone rows hol = OP := ⟨_, rfl⟩
  obtain ⟨MS, hMS⟩ : ∃ MS, msL rows hol = MS := ⟨_, rfl⟩
  obtain ⟨first, hfi⟩ : ∃ x, (fr + zone * 60000) / 86400000 = x := ⟨_, rfl⟩
  obtain ⟨last, hla⟩ : ∃ x, (til + zone * 60000) / 86400000 = x := ⟨_, rfl⟩
  obtain ⟨ND, hND⟩ : ∃ x, (last - first + 1).toNat = x := ⟨_, rfl⟩
  have i0 : -2 ≤ first := by omega
  have i1 : first ≤ last := by omega
  have i2 : last ≤ 4010 := by omega
  have i3 : last - first ≤ 402 := by omega
  have hND2 : (ND : Int) = last - first + 1 := by omega
  have hlm : MS.length ≤ 501 := by
    rw [← hMS]
    have h1 := compact_len (sortI (allMin rows hol))
    rw [sortI_len] at h1
    have h2 : (allMin rows hol).length = 2 * rn + 2 * qn + 1 := by
      unfold allMin; rw [List.length_append, List.length_append, minsL_len, minsL_len, HR.out.len, HH.out.len]; rfl
    unfold msL; omega
  rw [hOP, hMS, hfi, hla, hND]
  rw [hMS] at HM0
  have HOP := Lib.hid hOP; have HMS := Lib.hid hMS; have HFI := Lib.hid hfi; have HLA := Lib.hid hla
  clear hOP hMS hfi hla hND
  have HB0 := Lib.hid ((Blk.new w 37 #[.string key, .int .i64 zone, .slice rA rn rc, .slice qA qn qc]).alloc (.cells #[.int .i64 fr, .int .i64 til] 30))
  have HW0 := Lib.hid (blk_newH (w.alloc (.cells #[.string key, .int .i64 zone, .slice rA rn rc, .slice qA qn qc] 37)) 30 #[.int .i64 fr, .int .i64 til] (g := w.heap.size + 1) (by simp))
  have HG0 := Lib.hid (gr_alloc (gr_alloc (gr_refl w none) (.cells #[.string key, .int .i64 zone, .slice rA rn rc, .slice qA qn qc] 37)) (.cells #[.int .i64 fr, .int .i64 til] 30))
  go_enter Tryd.func15, Tryd.ntmps15
  go_upto_region 2 with (fail)
  go_cut [29] (fun v wx => ∃ B : Bool, v = .bool B ∧ B = (decide (fr < til) && OP fr) ∧ w.grownBy wx none ∧ Blk wx w.heap.size 37 #[.string key, .int .i64 zone, .slice rA rn rc, .slice qA qn qc] ∧ Blk wx (w.heap.size + 1) 30 #[.int .i64 fr, .int .i64 til])
  case first =>
    have kw0 := HW0.out.cell 0
    have kw1 := HW0.out.cell 1
    by_cases c1 : fr < til
    · have d1 : decide (fr < til) = true := decide_eq_true c1
      obtain ⟨B, hB⟩ : ∃ B, OP fr = B := ⟨_, rfl⟩
      have HBB := Lib.hid hB
      go_wp2_with (first
        | (refine wpl_load_all Tryd.hrT rfl _ rfl _ rfl _ _ HB0.out rfl ?_)
        | fail)
      refine (openOf_any lo ⟨key, zone, rA, rn, rc, qA, qn, qc, rows, hol⟩ fr _ (HOK.out.grown HG0.out (fun g e => by cases e)) HRI.out (by omega) (by omega)).mono ?_
      rintro e w2 ⟨rfl, hg2⟩
      rw [show openAt zone rows hol fr = B from by rw [HOP.out]; exact HBB.out]
      have HG2 := Lib.hid (gr_none HG0.out hg2)
      have HB2 := Lib.hid (HB0.out.grown hg2 (by simp))
      have HW2 := Lib.hid (HW0.out.grown hg2 (by simp))
      clear hg2
      go_wp2_with fail
      go_meet
      exact ⟨B, rfl, by rw [hB, d1]; rfl, HG2.out, HB2.out, HW2.out⟩
    · have d1 : decide (fr < til) = false := decide_eq_false c1
      go_wp2_with fail
      go_meet
      exact ⟨false, rfl, by rw [d1]; rfl, HG0.out, HB0.out, HW0.out⟩
  case rest =>
    obtain ⟨B, rfl, hBv, hg, hb, hw⟩ := hcut
    clear HB0 HW0 HG0
    have HG1 := Lib.hid hg; have HB1 := Lib.hid hb; have HW1 := Lib.hid hw; have HBV := Lib.hid hBv
    clear hg hb hw hBv
    go_upto_if 29 with (fail)
    go_cut [5] (fun v wx => ∃ (A : Option Addr) (n c : Nat), v = .slice A n c ∧ n ≤ 1 ∧ OwnR nrow 1 wx w.heap.size 3 A n c (bndHead OP fr til) ∧ w.grownBy wx none ∧ Blk wx w.heap.size 37 #[.string key, .int .i64 zone, .slice rA rn rc, .slice qA qn qc] ∧ Blk wx (w.heap.size + 1) 30 #[.int .i64 fr, .int .i64 til])
    case first =>
      have zz := HG1.out.size
      have kw0 := HW1.out.cell 0
      cases B
      · have HHD := Lib.hid (show bndHead OP fr til = [] by
          have := HBV.out
          unfold bndHead
          by_cases c1 : fr < til
          · rw [if_pos c1]
            rw [decide_eq_true c1, Bool.true_and] at this
            rw [← this]; rfl
          · rw [if_neg c1])
        go_wp2_with fail
        go_meet
        exact ⟨none, 0, 0, rfl, by omega, by rw [HHD.out]; exact OwnR.nil _ _ _, HG1.out, HB1.out, HW1.out⟩
      · have HHD := Lib.hid (show bndHead OP fr til = [fr] by
          have := HBV.out
          unfold bndHead
          by_cases c1 : fr < til
          · rw [if_pos c1]
            rw [decide_eq_true c1, Bool.true_and] at this
            rw [← this]; rfl
          · rw [decide_eq_false c1] at this; cases this)
        go_wp2_with (first
          | (at_builtin
             refine wpl_app _ rfl _ _ Tryd.inT rfl w.heap.size none 0 0 _ rfl (by exact Own.nil _ _ _ _) _ _ 1 1 [.int .i64 fr] rfl (by exact Reads.one _ _ _ _ rfl) (by simp [Value.oneCell']) (by unfold maxLen; omega) (by omega) (by simp; omega) ?_
             intro A5 c5 w6 h5
             have H5 := Lib.hid h5; clear h5)
          | fail)
        go_meet
        have gx := gr_alloc HG1.out (.cells #[.int .i64 fr] 3)
        exact ⟨A5, 1, c5, rfl, by omega, by rw [HHD.out]; exact (OwnR.nil _ _ _ : OwnR nrow 1 _ w.heap.size 3 none 0 0 []).app rfl H5.out, H5.out.gr gx (Own.nil _ _ _ _) (Nat.le_refl _), (HB1.out.alloc _).grown H5.out.2.1 (by simp [blkOf]), (HW1.out.alloc _).grown H5.out.2.1 (by simp [blkOf])⟩
    case rest =>
      obtain ⟨A0, n0, c0, rfl, hn0, ho, hg, hb, hw⟩ := hcut
      clear HG1 HB1 HW1 HBV
      obtain ⟨wo, rfl⟩ : ∃ wo : World, wo = wc := ⟨_, rfl⟩
      have HO := Lib.hid ho; have HG1 := Lib.hid hg; have HB1 := Lib.hid hb; have HW1 := Lib.hid hw
      have zo := hg.size
      have zb := hb.lt
      have zw := hw.lt
      clear ho hg hb hw B
      have kb2 := HB1.out.cell 2
      go_wp2_with fail
      clear kb2
      go_loopw [6, 8, 38] (fun ms _ t wr => ∃ (k c : Nat) (A : Option Addr), k ≤ rn ∧ t = .int .i64 k ∧ ms = .slice A (2 * k) c ∧ wo.grownBy wr none ∧ OwnR nrow 1 wr wo.heap.size 3 A (2 * k) c (minsL (rows.take k))) (fun _ _ t _ => rn - (intOf t).toNat)
      case atStart => exact ⟨0, 0, none, Nat.zero_le _, rfl, rfl, gr_refl _ _, OwnR.nil _ _ _⟩
      case round =>
        obtain ⟨k, c, A, hk, rfl, rfl, hgb, hown⟩ := hrel
        have zr := hgb.size
        have HM := Lib.hid hown; have HGB := Lib.hid hgb
        have HG := Lib.hid (gr_none HG1.out hgb)
        clear hgb hown
        by_cases hlt : k < rn
        · obtain ⟨g, o, ⟨dy, df, dt⟩, rfl, _, hgl, hz, hc⟩ := (HR.out.grown HG.out (fun g e => by cases e)).get r3Row_len hlt
          have HZ := Lib.hid hz; have HC := Lib.hid hc; clear hz hc
          go_wp2_with (first
            | (refine wpl_load_at Tryd.rwT rfl _ rfl _ rfl [.int .i64 dy, .int .i64 df, .int .i64 dt] rfl (fun j u hu => by rw [add_mk]; exact HC.out j u hu) ?_)
            | (at_builtin
               refine wpl_app _ rfl _ _ Tryd.inT rfl wo.heap.size A (2 * k) c _ rfl (by exact (HM.out.1.alloc _).alloc _) _ _ 2 2 [.int .i64 df, .int .i64 dt] rfl (by exact reads_two _ _ _ _ rfl (by simp)) (by simp [Value.oneCell']) (by unfold maxLen; omega) (by omega) (by simp; omega) ?_
               intro A5 c5 w6 h5
               have H5 := Lib.hid h5; clear h5)
            | fail)
          go_roundw
          case rel => exact ⟨k + 1, c5, A5, by omega, by go_num, rfl, H5.out.gr (gr_alloc (gr_alloc HGB.out _) _) ((HM.out.1.alloc _).alloc _) (Nat.le_refl _), by rw [minsL_snoc HZ.out]; exact ⟨by have h := H5.out.1; rw [List.flatMap_append]; exact h, by rw [List.length_append, HM.out.2]; rfl⟩⟩
          case measure => simp [intOf]; omega
        · obtain rfl : rn = k := by omega
          have HML := Lib.hid (show minsL (rows.take rn) = minsL rows by rw [List.take_of_length_le (by rw [HR.out.len]; exact Nat.le_refl _)])
          rw [HML.out] at HM
          obtain ⟨wp, rfl⟩ : ∃ wp : World, wp = wr := ⟨_, rfl⟩
          have HBp := Lib.hid (HB1.out.grown HGB.out (by simp))
          have HGp := HGB; have HMp := HM
          have zp := zr
          clear HGB HM zr HG HML
          have kb3 := HBp.out.cell 3
          go_wp2_with fail
          clear kb3
          go_loopw [6, 10, 53] (fun ms _ t wr => ∃ (j c : Nat) (A : Option Addr), j ≤ qn ∧ t = .int .i64 j ∧ ms = .slice A (2 * rn + 2 * j) c ∧ wo.grownBy wr none ∧ OwnR nrow 1 wr wo.heap.size 3 A (2 * rn + 2 * j) c (minsL rows ++ minsL (hol.take j))) (fun _ _ t _ => qn - (intOf t).toNat)
          case atStart => exact ⟨0, c, A, Nat.zero_le _, rfl, rfl, HGp.out, by simpa [minsL] using HMp.out⟩
          case round =>
            clear HGp HMp
            obtain ⟨j, c, A, hj, rfl, rfl, hgb, hown⟩ := hrel
            have zr := hgb.size
            have HM := Lib.hid hown; have HGB := Lib.hid hgb
            have HG := Lib.hid (gr_none HG1.out hgb)
            clear hgb hown
            by_cases hlt : j < qn
            · obtain ⟨g, o, ⟨dy, df, dt⟩, rfl, _, hgl, hz, hc⟩ := (HH.out.grown HG.out (fun g e => by cases e)).get r3Row_len hlt
              have HZ := Lib.hid hz; have HC := Lib.hid hc; clear hz hc
              go_wp2_with (first
                | (refine wpl_load_at Tryd.hoT rfl _ rfl _ rfl [.int .i64 dy, .int .i64 df, .int .i64 dt] rfl (fun j u hu => by rw [add_mk]; exact HC.out j u hu) ?_)
                | (at_builtin
                   refine wpl_app _ rfl _ _ Tryd.inT rfl wo.heap.size A (2 * rn + 2 * j) c _ rfl (by exact (HM.out.1.alloc _).alloc _) _ _ 2 2 [.int .i64 df, .int .i64 dt] rfl (by exact reads_two _ _ _ _ rfl (by simp)) (by simp [Value.oneCell']) (by unfold maxLen; omega) (by omega) (by simp; omega) ?_
                   intro A5 c5 w6 h5
                   have H5 := Lib.hid h5; clear h5)
                | fail)
              go_roundw
              case rel => exact ⟨j + 1, c5, A5, by omega, by go_num, rfl, H5.out.gr (gr_alloc (gr_alloc HGB.out _) _) ((HM.out.1.alloc _).alloc _) (Nat.le_refl _), by rw [minsL_snoc HZ.out, ← List.append_assoc]; exact ⟨by have h := H5.out.1; rw [List.flatMap_append]; exact h, by rw [List.length_append, HM.out.2]; rfl⟩⟩
              case measure => simp [intOf]; omega
            · obtain rfl : qn = j := by omega
              have HML := Lib.hid (show minsL (hol.take qn) = minsL hol by rw [List.take_of_length_le (by rw [HH.out.len]; exact Nat.le_refl _)])
              rw [HML.out] at HM
              obtain ⟨wq, rfl⟩ : ∃ wq : World, wq = wr := ⟨_, rfl⟩
              clear HML
              go_wp2_with (first
                | (at_builtin
                   refine wpl_app _ rfl _ _ Tryd.inT rfl wo.heap.size A (2 * rn + 2 * qn) c _ rfl (by exact HM.out.1.alloc _) _ _ 1 1 [.int .i64 0] rfl (by exact Reads.one _ _ _ _ rfl) (by simp [Value.oneCell']) (by unfold maxLen; omega) (by omega) (by simp; omega) ?_
                   intro A5 c5 w6 h5
                   have H5 := Lib.hid h5; clear h5)
                | fail)
              have HA6 := Lib.hid (show OwnR nrow 1 w6 wo.heap.size 3 A5 (2 * rn + 2 * qn + 1) c5 (allMin rows hol) from ⟨by have h := H5.out.1; unfold allMin; rw [List.flatMap_append]; exact h, by unfold allMin; rw [List.length_append, HM.out.2]; rfl⟩)
              have HG6 := Lib.hid (show wo.grownBy w6 none from H5.out.gr (gr_alloc HGB.out _) (HM.out.1.alloc _) (Nat.le_refl _))
              clear H5 HM HGB HG
              refine (sortI_any _ _ _ _ _ _ HA6.out (by omega)).mono ?_
              rintro e w7 ⟨rfl, ho7, hg7⟩
              have HA7 := Lib.hid ho7
              have HG7 := Lib.hid (gr_own (row := none) HG6.out HA6.out.1 (Nat.le_refl _) hg7)
              clear ho7 hg7 HA6
              go_wp2_with fail
              refine (compactI_any _ _ _ _ _ _ HA7.out (by omega)).mono ?_
              rintro e w8 ⟨rfl, ho8, hg8⟩
              have HG8 := Lib.hid (gr_own (row := none) HG7.out HA7.out.1 (Nat.le_refl _) hg8)
              have HA8 := Lib.hid (show OwnR nrow 1 w8 wo.heap.size 3 A5 MS.length c5 MS by rw [← HMS.out]; exact ho8)
              rw [show (Lib.compact (sortI (allMin rows hol))).length = MS.length by rw [← HMS.out]; rfl]
              clear ho8 hg8 HA7 HG6 HG7
              have HB8 := Lib.hid (HB1.out.grown HG8.out (by simp))
              have HW8 := Lib.hid (HW1.out.grown HG8.out (by simp))
              have z8 := HG8.out.size
              have kb1 := HB8.out.cell 1
              have kw0 := HW8.out.cell 0
              have kw1 := HW8.out.cell 1
              go_wp2_with fail
              refine (there_any _ _ _ z0 z1 (by omega) (by omega)).mono ?_
              rintro e w' ⟨rfl, rfl⟩
              rw [HFI.out]
              go_wp2_with fail
              refine (there_any _ _ _ z0 z1 (by omega) (by omega)).mono ?_
              rintro e w' ⟨rfl, rfl⟩
              rw [HLA.out]
              go_wp2_with fail
              clear kb1 kw0 kw1
              go_loopw [5, 15, 17, 18, 96] (fun out day _ _ _ wr => ∃ (d n c : Nat) (A : Option Addr), d ≤ ND ∧ day = .int .i64 (first + d) ∧ out = .slice A n c ∧ n ≤ 1 + 600 * d ∧ OwnR nrow 1 wr w.heap.size 3 A n c (bndDays OP fr til zone MS first d) ∧ w.grownBy wr none ∧ Blk wr w.heap.size 37 #[.string key, .int .i64 zone, .slice rA rn rc, .slice qA qn qc] ∧ Blk wr (w.heap.size + 1) 30 #[.int .i64 fr, .int .i64 til] ∧ OwnR nrow 1 wr wo.heap.size 3 A5 MS.length c5 MS ∧ (∀ g, blkOf A = some g → blkOf A5 ≠ some g)) (fun _ day _ _ _ _ => (last + 1 - intOf day).toNat)
              case atStart => exact ⟨0, n0, c0, A0, Nat.zero_le _, by simp, rfl, by omega, HO.out.low HG8.out (fun g e => by cases e), gr_none HG1.out HG8.out, HB8.out, HW8.out, HA8.out, fun g e e' => by have := (HO.out.1.lt e).2; have := (HA8.out.1.lt e').1; omega⟩
              case round =>
                clear HO HG8 HB8 HW8 HA8 hn0
                obtain ⟨d, n, c, A, hd, rfl, rfl, hnd, ho, hg, hb, hw, hms, hne⟩ := hrel
                have HO := Lib.hid ho; have HG := Lib.hid hg; have HB := Lib.hid hb; have HW := Lib.hid hw; have HMs := Lib.hid hms; have HNE := Lib.hid hne
                have zr := hg.size
                have zb := hb.lt
                have zw := hw.lt
                clear ho hg hb hw hms hne
                by_cases hdl : d < ND
                · obtain ⟨day, hday⟩ : ∃ x, first + (d : Int) = x := ⟨_, rfl⟩
                  have y0 : -2 ≤ day := by omega
                  have y1 : day ≤ last := by omega
                  have y2 : day ≤ 4010 := by omega
                  have dy : decide (day ≤ last) = true := decide_eq_true y1
                  have HDAY := Lib.hid hday
                  rw [hday]
                  clear hday
                  go_wp2_with fail
                  obtain ⟨wv, rfl⟩ : ∃ wv : World, wv = wr := ⟨_, rfl⟩
                  go_loopw [5, 17, 18, 96] (fun out _ _ t wr => ∃ (j n c : Nat) (A : Option Addr), j ≤ MS.length ∧ t = .int .i64 j ∧ out = .slice A n c ∧ n ≤ 1 + 600 * d + j ∧ OwnR nrow 1 wr w.heap.size 3 A n c (bndDays OP fr til zone MS first d ++ bndDay OP fr til zone day (MS.take j)) ∧ w.grownBy wr none ∧ Blk wr w.heap.size 37 #[.string key, .int .i64 zone, .slice rA rn rc, .slice qA qn qc] ∧ Blk wr (w.heap.size + 1) 30 #[.int .i64 fr, .int .i64 til] ∧ OwnR nrow 1 wr wo.heap.size 3 A5 MS.length c5 MS ∧ (∀ g, blkOf A = some g → blkOf A5 ≠ some g)) (fun _ _ _ t _ => MS.length - (intOf t).toNat)
                  case atStart => exact ⟨0, n, c, A, Nat.zero_le _, rfl, rfl, by omega, by rw [show bndDays OP fr til zone MS first d ++ bndDay OP fr til zone day (MS.take 0) = bndDays OP fr til zone MS first d by simp [bndDay]]; exact HO.out, HG.out, HB.out, HW.out, HMs.out, HNE.out⟩
                  case round =>
                    clear HO HG HB HW HMs HNE
                    obtain ⟨j, n, c, A, hj, rfl, rfl, hnj, ho, hg, hb, hw, hms, hne⟩ := hrel
                    have HO := Lib.hid ho; have HG := Lib.hid hg; have HB := Lib.hid hb; have HW := Lib.hid hw; have HMs := Lib.hid hms; have HNE := Lib.hid hne
                    have zr := hg.size
                    have zb := hb.lt
                    have zw := hw.lt
                    clear ho hg hb hw hms hne
                    by_cases hlt : j < MS.length
                    · obtain ⟨g, o, m, rfl, _, hgl, hz, hc⟩ := HMs.out.recs.get nrow_len hlt
                      obtain ⟨m0, m1⟩ := HM0.out m (mem_of_get hz)
                      have hcm := hc 0 _ rfl
                      simp only [Nat.add_zero, Nat.mul_one] at hcm
                      have kb1 := HB.out.cell 1
                      have HZ := Lib.hid hz
                      have hd1 : decide (j < MS.length) = true := decide_eq_true hlt
                      clear hz hc
                      obtain ⟨AT, hAT⟩ : ∃ x, day * 86400000 + (m - zone) * 60000 = x := ⟨_, rfl⟩
                      have a0 : -300000000 ≤ AT := by omega
                      have a1 : AT ≤ 347000000000 := by omega
                      have HAT := Lib.hid hAT
                      have HBN := Lib.hid (show bndB OP fr til zone day m = (decide (m < 1440) && (decide (fr < AT) && (decide (AT < til) && (OP AT != OP (AT - 1))))) by unfold bndB bndAt; rw [hAT])
                      clear hAT
                      go_upto_region 27 with (fail)
                      rw [HAT.out]
                      clear hcm kb1
                      go_cut [96, 131] from 96 to 136 (fun t v wx => t = .int .i64 j ∧ ∃ B : Bool, v = .bool B ∧ B = bndB OP fr til zone day m ∧ wr.grownBy wx none)
                      case first =>
                        have kw0 := HW.out.cell 0
                        have kw1 := HW.out.cell 1
                        by_cases p1 : m < 1440
                        · have e1 : decide (m < 1440) = true := decide_eq_true p1
                          by_cases p2 : fr < AT
                          · have e2 : decide (fr < AT) = true := decide_eq_true p2
                            by_cases p3 : AT < til
                            · have e3 : decide (AT < til) = true := decide_eq_true p3
                              clear kw0 kw1
                              obtain ⟨X, hX⟩ : ∃ X, OP AT = X := ⟨_, rfl⟩
                              obtain ⟨Y, hY⟩ : ∃ Y, OP (AT - 1) = Y := ⟨_, rfl⟩
                              have HX := Lib.hid hX; have HY := Lib.hid hY
                              clear hX hY
                              refine H_begin (fun w' => wr.grownBy w' none) (by kernel_rfl) ?_
                              have hHeld : wr.grownBy wr.drew none := gr_drew (gr_refl _ _)
                              refine H_take (k := 0) (v := ?_) (by rfl) (by kernel_rfl) (by kernel_rfl) (by kernel_rfl) (by exact fun _ _ _ h => h) (by rfl) ?_ (by assumption) ?_
                              rotate_left 1
                              · intro w hSw
                                (try dsimp only at hSw)
                                go_simp
                                (try with_reducible rfl)
                              (try simp only [Act.put, List.setIfInBounds_toArray, List.set_cons_zero, List.set_cons_succ])
                              refine H_take (k := 1) (v := ?_) (by rfl) (by kernel_rfl) (by kernel_rfl) (by kernel_rfl) (by exact fun _ _ _ h => h) (by rfl) ?_ (by assumption) ?_
                              rotate_left 1
                              · intro w hSw
                                (try dsimp only at hSw)
                                go_simp
                                (try with_reducible rfl)
                              (try simp only [Act.put, List.setIfInBounds_toArray, List.set_cons_zero, List.set_cons_succ])
                              refine H_take (k := 2) (v := ?_) (by rfl) (by kernel_rfl) (by kernel_rfl) (by kernel_rfl) (by exact fun _ _ _ h => h) (by rfl) ?_ (by assumption) ?_
                              rotate_left 1
                              · intro w hSw
                                (try dsimp only at hSw)
                                go_simp
                                (try with_reducible rfl)
                              (try simp only [Act.put, List.setIfInBounds_toArray, List.set_cons_zero, List.set_cons_succ])
                              refine H_take (k := 3) (v := ?_) (by rfl) (by kernel_rfl) (by kernel_rfl) (by kernel_rfl) (by exact fun _ _ _ h => h) (by rfl) ?_ (by assumption) ?_
                              rotate_left 1
                              · intro w hSw
                                (try dsimp only at hSw)
                                go_simp
                                (try with_reducible rfl)
                              (try simp only [Act.put, List.setIfInBounds_toArray, List.set_cons_zero, List.set_cons_succ])
                              refine H_take (k := 4) (v := ?_) (by rfl) (by kernel_rfl) (by kernel_rfl) (by kernel_rfl) (by exact fun _ _ _ h => h) (by rfl) ?_ (by assumption) ?_
                              rotate_left 1
                              · intro w' hSw
                                have kc := (HW.out.grown hSw (by simp)).cell 0
                                go_simp
                                (try with_reducible rfl)
                              (try simp only [Act.put, List.setIfInBounds_toArray, List.set_cons_zero, List.set_cons_succ])
                              refine H_take (k := 5) (v := ?_) (by rfl) (by kernel_rfl) (by kernel_rfl) (by kernel_rfl) (by exact fun _ _ _ h => h) (by rfl) ?_ (by assumption) ?_
                              rotate_left 1
                              · intro w hSw
                                (try dsimp only at hSw)
                                go_simp
                                (try with_reducible rfl)
                              (try simp only [Act.put, List.setIfInBounds_toArray, List.set_cons_zero, List.set_cons_succ])
                              refine H_take (k := 6) (v := ?_) (by rfl) (by kernel_rfl) (by kernel_rfl) (by kernel_rfl) (by exact fun _ _ _ h => h) (by rfl) ?_ (by assumption) ?_
                              rotate_left 1
                              · intro w hSw
                                (try dsimp only at hSw)
                                go_simp
                                (try with_reducible rfl)
                              (try simp only [Act.put, List.setIfInBounds_toArray, List.set_cons_zero, List.set_cons_succ])
                              refine H_take (k := 7) (v := ?_) (by rfl) (by kernel_rfl) (by kernel_rfl) (by kernel_rfl) (by exact fun _ _ _ h => h) (by rfl) ?_ (by assumption) ?_
                              rotate_left 1
                              · intro w hSw
                                (try dsimp only at hSw)
                                go_simp
                                (try with_reducible rfl)
                              (try simp only [Act.put, List.setIfInBounds_toArray, List.set_cons_zero, List.set_cons_succ])
                              refine H_take (k := 8) (v := ?_) (by rfl) (by kernel_rfl) (by kernel_rfl) (by kernel_rfl) (by exact fun _ _ _ h => h) (by rfl) ?_ (by assumption) ?_
                              rotate_left 1
                              · intro w hSw
                                (try dsimp only at hSw)
                                go_simp
                                (try with_reducible rfl)
                              (try simp only [Act.put, List.setIfInBounds_toArray, List.set_cons_zero, List.set_cons_succ])
                              refine H_take (k := 9) (v := ?_) (by rfl) (by kernel_rfl) (by kernel_rfl) (by kernel_rfl) (by exact fun _ _ _ h => h) (by rfl) ?_ (by assumption) ?_
                              rotate_left 1
                              · intro w hSw
                                (try dsimp only at hSw)
                                go_simp
                                (try with_reducible rfl)
                              (try simp only [Act.put, List.setIfInBounds_toArray, List.set_cons_zero, List.set_cons_succ])
                              refine H_take (k := 10) (v := ?_) (by rfl) (by kernel_rfl) (by kernel_rfl) (by kernel_rfl) (by exact fun _ _ _ h => h) (by rfl) ?_ (by assumption) ?_
                              rotate_left 1
                              · intro w hSw
                                (try dsimp only at hSw)
                                go_simp
                                (try with_reducible rfl)
                              (try simp only [Act.put, List.setIfInBounds_toArray, List.set_cons_zero, List.set_cons_succ])
                              refine H_take (k := 11) (v := ?_) (by rfl) (by kernel_rfl) (by kernel_rfl) (by kernel_rfl) (by exact fun _ _ _ h => h) (by rfl) ?_ (by assumption) ?_
                              rotate_left 1
                              · intro w' hSw
                                have kc := (HW.out.grown hSw (by simp)).cell 1
                                go_simp
                                (try with_reducible rfl)
                              (try simp only [Act.put, List.setIfInBounds_toArray, List.set_cons_zero, List.set_cons_succ])
                              refine H_take (k := 12) (v := ?_) (by rfl) (by kernel_rfl) (by kernel_rfl) (by kernel_rfl) (by exact fun _ _ _ h => h) (by rfl) ?_ (by assumption) ?_
                              rotate_left 1
                              · intro w hSw
                                (try dsimp only at hSw)
                                go_simp
                                (try with_reducible rfl)
                              (try simp only [Act.put, List.setIfInBounds_toArray, List.set_cons_zero, List.set_cons_succ])
                              refine H_take (k := 13) (v := ?_) (by rfl) (by kernel_rfl) (by kernel_rfl) (by kernel_rfl) (by exact fun _ _ _ h => h) (by rfl) ?_ (by assumption) ?_
                              rotate_left 1
                              · intro w hSw
                                (try dsimp only at hSw)
                                go_simp
                                (try with_reducible rfl)
                              (try simp only [Act.put, List.setIfInBounds_toArray, List.set_cons_zero, List.set_cons_succ])
                              refine H_take (k := 14) (v := ?_) (by rfl) (by kernel_rfl) (by kernel_rfl) (by kernel_rfl) (by exact fun _ _ _ h => h) (by rfl) ?_ (by assumption) ?_
                              rotate_left 1
                              · intro w hSw
                                (try dsimp only at hSw)
                                go_simp
                                (try with_reducible rfl)
                              (try simp only [Act.put, List.setIfInBounds_toArray, List.set_cons_zero, List.set_cons_succ])
                              refine H_take (k := 15) (v := .agg #[.string key, .int .i64 zone, .slice rA rn rc, .slice qA qn qc]) (by rfl) (by kernel_rfl) (by kernel_rfl) (by kernel_rfl) (by exact fun _ _ _ h => h) (by rfl) (fun w' hSw => exec_load_blk Tryd.hrT _ rfl _ rfl 37 [.string key, .int .i64 zone, .slice rA rn rc, .slice qA qn qc] (HB.out.grown hSw (by simp)) rfl) hHeld ?_
                              (try simp only [Act.put, List.setIfInBounds_toArray, List.set_cons_zero, List.set_cons_succ])
                              refine H_take (k := 16) (v := ?_) (by rfl) (by kernel_rfl) (by kernel_rfl) (by kernel_rfl) (by exact fun _ _ _ h => h) (by rfl) ?_ (by assumption) ?_
                              rotate_left 1
                              · intro w hSw
                                (try dsimp only at hSw)
                                go_simp
                                (try with_reducible rfl)
                              (try simp only [Act.put, List.setIfInBounds_toArray, List.set_cons_zero, List.set_cons_succ])
                              refine H_take (k := 18) (v := .agg #[.string key, .int .i64 zone, .slice rA rn rc, .slice qA qn qc]) (by rfl) (by kernel_rfl) (by kernel_rfl) (by kernel_rfl) (by exact fun _ _ _ h => h) (by rfl) (fun w' hSw => exec_load_blk Tryd.hrT _ rfl _ rfl 37 [.string key, .int .i64 zone, .slice rA rn rc, .slice qA qn qc] (HB.out.grown hSw (by simp)) rfl) hHeld ?_
                              (try simp only [Act.put, List.setIfInBounds_toArray, List.set_cons_zero, List.set_cons_succ])
                              refine H_take (k := 19) (v := ?_) (by rfl) (by kernel_rfl) (by kernel_rfl) (by kernel_rfl) (by exact fun _ _ _ h => h) (by rfl) ?_ (by assumption) ?_
                              rotate_left 1
                              · intro w hSw
                                (try dsimp only at hSw)
                                go_simp
                                (try with_reducible rfl)
                              (try simp only [Act.put, List.setIfInBounds_toArray, List.set_cons_zero, List.set_cons_succ])
                              refine H_take (k := 20) (v := ?_) (by rfl) (by kernel_rfl) (by kernel_rfl) (by kernel_rfl) (by exact fun _ _ _ h => h) (by rfl) ?_ (by assumption) ?_
                              rotate_left 1
                              · intro w hSw
                                (try dsimp only at hSw)
                                go_simp
                                (try with_reducible rfl)
                              (try simp only [Act.put, List.setIfInBounds_toArray, List.set_cons_zero, List.set_cons_succ])
                              refine H_run (k := 17) (by rfl) (by kernel_rfl) (by rfl) (fun K hK => ?_)
                              go_simp
                              refine (openOf_any lo ⟨key, zone, rA, rn, rc, qA, qn, qc, rows, hol⟩ AT _ (by exact HOK.out.grown (gr_drew HG.out) (fun g e => by cases e)) HRI.out (by omega) (by omega)).mono ?_
                              rintro e w5 ⟨rfl, hg5⟩
                              rw [show openAt zone rows hol AT = X from by rw [HOP.out]; exact HX.out]
                              have HG5 := Lib.hid (gr_none (gr_drew (gr_refl wr none)) hg5)
                              clear hg5
                              refine hK _ _ HG5.out ?_
                              clear hK K hHeld
                              have hHeld := HG5.out
                              refine H_run (k := 21) (by rfl) (by kernel_rfl) (by rfl) (fun K hK => ?_)
                              go_simp
                              rw [show IntKind.i64.wrap (AT - 1) = AT - 1 from IntWalk.i64_in _ (by omega)]
                              refine (openOf_any lo ⟨key, zone, rA, rn, rc, qA, qn, qc, rows, hol⟩ (AT - 1) _ (by exact HOK.out.grown (gr_none HG.out HG5.out) (fun g e => by cases e)) HRI.out (by omega) (by omega)).mono ?_
                              rintro e w6 ⟨rfl, hg6⟩
                              rw [show openAt zone rows hol (AT - 1) = Y from by rw [HOP.out]; exact HY.out]
                              have HG6 := Lib.hid (gr_none HG5.out hg6)
                              clear hg6
                              refine hK _ _ HG6.out ?_
                              clear hK K hHeld
                              have hHeld := HG6.out
                              refine H_take (k := 22) (v := ?_) (by rfl) (by kernel_rfl) (by kernel_rfl) (by kernel_rfl) (by exact fun _ _ _ h => h) (by rfl) ?_ (by assumption) ?_
                              rotate_left 1
                              · intro w hSw
                                (try dsimp only at hSw)
                                go_simp
                                (try with_reducible rfl)
                              (try simp only [Act.put, List.setIfInBounds_toArray, List.set_cons_zero, List.set_cons_succ])
                              refine H_take (k := 23) (v := ?_) (by rfl) (by kernel_rfl) (by kernel_rfl) (by kernel_rfl) (by exact fun _ _ _ h => h) (by rfl) ?_ (by assumption) ?_
                              rotate_left 1
                              · intro w hSw
                                (try dsimp only at hSw)
                                go_simp
                                (try with_reducible rfl)
                              (try simp only [Act.put, List.setIfInBounds_toArray, List.set_cons_zero, List.set_cons_succ])
                              refine H_done (by kernel_rfl) ?_
                              go_wp2_with fail
                              go_meet
                              exact ⟨rfl, _, rfl, by rw [HBN.out, e1, e2, e3, HX.out, HY.out]; cases X <;> cases Y <;> rfl, HG6.out⟩
                            · have e3 : decide (AT < til) = false := decide_eq_false p3
                              go_quiet (fail)
                              go_wp2_with fail
                              go_meet
                              exact ⟨rfl, false, rfl, by rw [HBN.out, e1, e2, e3]; rfl, gr_drewN (gr_refl _ _) _⟩
                          · have e2 : decide (fr < AT) = false := decide_eq_false p2
                            go_quiet (fail)
                            go_wp2_with fail
                            go_meet
                            exact ⟨rfl, false, rfl, by rw [HBN.out, e1, e2]; rfl, gr_drewN (gr_refl _ _) _⟩
                        · have e1 : decide (m < 1440) = false := decide_eq_false p1
                          go_quiet (fail)
                          go_wp2_with fail
                          go_meet
                          exact ⟨rfl, false, rfl, by rw [HBN.out, e1]; rfl, gr_drewN (gr_refl _ _) _⟩
                      case rest =>
                        obtain ⟨rfl, B, rfl, hBv, hgc⟩ := hcut
                        have HGC := Lib.hid (gr_none HG.out hgc)
                        have HBC := Lib.hid (HB.out.grown hgc (by simp))
                        have HWC := Lib.hid (HW.out.grown hgc (by simp))
                        have HMC := Lib.hid (HMs.out.low hgc (fun g e => by cases e))
                        have HOC := Lib.hid (HO.out.low hgc (fun g e => by cases e))
                        have zc := hgc.size
                        have HSN := Lib.hid (show bndDays OP fr til zone MS first d ++ bndDay OP fr til zone day (MS.take (j + 1)) = (bndDays OP fr til zone MS first d ++ bndDay OP fr til zone day (MS.take j)) ++ (if B then [AT] else []) by
                          rw [bndDay_snoc HZ.out, ← hBv, ← List.append_assoc]; unfold bndAt; rw [HAT.out])
                        clear hgc HG HB HW HMs HO hBv
                        cases B
                        · go_wp2_with fail
                          go_roundw
                          case rel => exact ⟨j + 1, n, c, A, by omega, by go_num, rfl, by omega, by rw [HSN.out]; simpa using HOC.out, HGC.out, HBC.out, HWC.out, HMC.out, HNE.out⟩
                          case measure => simp [intOf]; omega
                        · go_wp2_with (first
                            | (at_builtin
                               refine wpl_app _ rfl _ _ Tryd.inT rfl w.heap.size A n c _ rfl (by exact HOC.out.1.alloc _) _ _ 1 1 [.int .i64 AT] rfl (by exact Reads.one _ _ _ _ rfl) (by simp [Value.oneCell']) (by unfold maxLen; omega) (by omega) (by simp; omega) ?_
                               intro A9 c9 w9 h9
                               have H9 := Lib.hid h9; clear h9)
                            | fail)
                          go_roundw
                          case rel =>
                            have hA1 := HOC.out.1.alloc (.cells #[.int .i64 AT] 3)
                            have hB1 := HBC.out.alloc (.cells #[.int .i64 AT] 3)
                            have hW1 := HWC.out.alloc (.cells #[.int .i64 AT] 3)
                            have hM1 := HMC.out.alloc (.cells #[.int .i64 AT] 3)
                            exact ⟨j + 1, n + 1, c9, A9, by omega, by go_num, rfl, by omega, by rw [HSN.out]; exact (HOC.out.alloc _).app rfl H9.out, H9.out.gr (gr_alloc HGC.out _) hA1 (Nat.le_refl _), hB1.grown H9.out.2.1 (Ne.symm (hA1.blk_ne hB1 (by decide))), hW1.grown H9.out.2.1 (Ne.symm (hA1.blk_ne hW1 (by decide))), hM1.kept H9.out.2.1 (fun g' e => HNE.out g' e), fun g' e e' => by
                              rcases H9.out.2.2 g' e with q | q
                              · exact HNE.out g' q e'
                              · have := (hM1.1.lt e').2; omega⟩
                          case measure => simp [intOf]; omega
                    · obtain rfl : j = MS.length := by omega
                      have hd1 : decide (MS.length < MS.length) = false := decide_eq_false (by omega)
                      have HSN := Lib.hid (show bndDays OP fr til zone MS first (d + 1) = bndDays OP fr til zone MS first d ++ bndDay OP fr til zone day (MS.take MS.length) by rw [bndDays_succ, HDAY.out, List.take_of_length_le (Nat.le_refl _)])
                      go_wp2_with fail
                      go_roundw
                      case rel => exact ⟨d + 1, n, c, A, by omega, congrArg (Value.int .i64) (by have := HDAY.out; omega), rfl, by omega, by rw [HSN.out]; exact HO.out, HG.out, HB.out, HW.out, HMs.out, HNE.out⟩
                      case measure => simp [intOf]; omega
                · obtain rfl : d = ND := by omega
                  have dy : decide (first + (d : Int) ≤ last) = false := decide_eq_false (by omega)
                  go_wp2_with fail
                  go_ret
                  exact ⟨A, n, c, rfl, HO.out, HG.out⟩
end Go.Proofs.YtdhaelpacffnlaaDoor

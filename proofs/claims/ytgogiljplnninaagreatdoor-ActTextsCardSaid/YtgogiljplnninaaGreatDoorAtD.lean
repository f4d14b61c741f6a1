/- Contracts of Lines over the closures that read acts, of Read and ActsRead. Conditions: bytealg.MaxLen holds some number; the table of powers of ten. -/
import Derived.Test.YtgogiljplnninaaGreatDoorAtC
import Derived.Test.YtgogiljplnninaaGreatDoorAt2
import Derived.Test.YtgogiljplnninaaGreatDoorAt3
namespace Go.Proofs.YtgogiljplnninaaGreatDoor
open Go.RowKit

set_option maxHeartbeats 4000000 in
theorem pLinesA_any (t : ByteArray) (ok : Nat → Bool) (St : Nat → World → Prop) (base : World) (K1 : Value) (w : World) (h0 : St 0 w) (ht : t.size ≤ 1000000)
    (hb : ∀ k w1, St k w1 → base.grownBy w1 none ∧ MxT w1) (hd : ∀ k w1 n, St k w1 → St k (w1.drewN n))
    (hstep : ∀ k (line : ByteArray) w1, St k w1 → line.data.toList = lineN t.data.toList k → line.size ≤ t.size → k < t.size → endN t.data.toList k = true → Calls Tryz.prog 89 #[.string line, K1] w1 (fun e w' => e = .returned (.bool (ok k)) ∧ base.grownBy w' none ∧ (ok k = true → St (k + 1) w'))) :
    Calls Tryz.prog 88 #[.string t, .func (.func 89) #[] #[K1]] w (fun e w' => ∃ (i : Nat) (b : Bool), LnRes t.data.toList ok i b ∧ e = .returned (.tuple #[.int .i64 (if b then 0 else (i : Int)), .bool b]) ∧ base.grownBy w' none ∧ (b = true → St i w')) := by
  have H0 := Lib.hid h0; have HBS := Lib.hid hb; have HDS := Lib.hid hd; have HST := Lib.hid hstep
  clear h0 hb hd hstep
  go_enter Tryz.func88, Tryz.ntmps88
  go_wp2_with fail
  go_loopw [0, 6, 7, 8, 9] (fun tv iv _ _ _ wr => ∃ (i : Nat) (u : ByteArray), tv = .string u ∧ iv = .int .i64 i ∧ u.data.toList = restN t.data.toList i ∧ i + u.size ≤ t.size ∧ St i wr ∧ ∀ j, j < i → restN t.data.toList j ≠ [] ∧ endN t.data.toList j = true ∧ ok j = true) (fun tv _ _ _ _ _ => match tv with | .string u => u.size | _ => 0)
  case atStart => exact ⟨0, t, rfl, rfl, rfl, by omega, H0.out, fun j h => by omega⟩
  case round =>
    obtain ⟨i, u, rfl, rfl, hu, hiu, hst, hall⟩ := hrel
    have HU := Lib.hid hu; have HS := Lib.hid hst; have HALL := Lib.hid hall
    clear hu hst hall
    by_cases hz : u.data.toList = []
    · have e1 : u.toList = [] := by rw [ByteArray.toList_eq]; exact hz
      have HR := Lib.hid (show LnRes t.data.toList ok i true from ⟨HALL.out, .inl ⟨rfl, by rw [← HU.out]; exact hz⟩⟩)
      clear hz
      go_wp2_with fail
      go_ret2
      exact ⟨i, true, HR.out, rfl, (HBS.out _ _ HS.out).1, fun _ => HS.out⟩
    · have e1 : (u.toList == []) = false := by rw [ByteArray.toList_eq, beq_eq_false_iff_ne]; exact hz
      have e1b : u.toList.isEmpty = false := by rw [ByteArray.toList_eq, List.isEmpty_eq_false_iff]; exact hz
      have HMX := Lib.hid (HBS.out _ _ HS.out).2
      have hcl := cutL_len u.data.toList
      have hul : u.data.toList.length = u.size := rfl
      obtain ⟨line, hln⟩ : ∃ x : ByteArray, (⟨(cutL u.data.toList).1.toArray⟩ : ByteArray) = x := ⟨_, rfl⟩
      obtain ⟨rest, hrs⟩ : ∃ x : ByteArray, (⟨(cutL u.data.toList).2.1.toArray⟩ : ByteArray) = x := ⟨_, rfl⟩
      obtain ⟨fd, hfd⟩ : ∃ x, (cutL u.data.toList).2.2 = x := ⟨_, rfl⟩
      have l1 : line.size ≤ u.size := by rw [← hln]; show (cutL u.data.toList).1.toArray.size ≤ _; rw [List.size_toArray]; omega
      have l2 : fd = true → rest.size < u.size := fun h => by
        rw [← hrs]; show (cutL u.data.toList).2.1.toArray.size < _; rw [List.size_toArray]
        rcases hcl.2.1 hz with h2 | h2
        · omega
        · rw [hfd, h] at h2; cases h2
      have HLL := Lib.hid (show line.data.toList = lineN t.data.toList i by rw [← hln]; unfold lineN; rw [← HU.out])
      have HRL := Lib.hid (show rest.data.toList = restN t.data.toList (i + 1) by rw [← hrs]; show _ = (cutL (restN t.data.toList i)).2.1; rw [← HU.out])
      have HEN := Lib.hid (show endN t.data.toList i = fd by unfold endN; rw [← HU.out]; exact hfd)
      have HNE := Lib.hid (show restN t.data.toList i ≠ [] by rw [← HU.out]; exact hz)
      have HLN := Lib.hid hln; have HRS := Lib.hid hrs; have HFD := Lib.hid hfd
      clear hln hrs hfd hcl hz hul
      cases fd
      · have HR := Lib.hid (show LnRes t.data.toList ok i false from ⟨HALL.out, .inr ⟨rfl, HNE.out, .inl HEN.out⟩⟩)
        clear l2
        go_wp2_with (first
          | (go_at_call 139; refine (cut_any u _ (by omega) (HMX.out)).mono ?_; rintro e w' ⟨rfl, n, rfl⟩; rw [HLN.out, HRS.out, HFD.out])
          | fail)
        go_ret2
        exact ⟨i, false, HR.out, rfl, gr_drewN (HBS.out _ _ HS.out).1 _, fun h => by cases h⟩
      · have l3 := l2 rfl
        obtain ⟨B, hB⟩ : ∃ B, ok i = B := ⟨_, rfl⟩
        have HOK := Lib.hid hB
        clear l2 hB
        cases B
        · have HR := Lib.hid (show LnRes t.data.toList ok i false from ⟨HALL.out, .inr ⟨rfl, HNE.out, .inr HOK.out⟩⟩)
          go_wp2_with (first
            | (go_at_call 139; refine (cut_any u _ (by omega) (HMX.out)).mono ?_; rintro e w' ⟨rfl, n, rfl⟩; rw [HLN.out, HRS.out, HFD.out])
            | (go_at_call 89; refine (HST.out i line _ (HDS.out _ _ _ HS.out) HLL.out (by omega) (by omega) HEN.out).mono ?_; rintro e w2 ⟨rfl, hg2, hs2⟩; have HG2 := Lib.hid hg2; have HS2 := Lib.hid hs2; clear hg2 hs2; rw [HOK.out])
            | fail)
          go_ret2
          exact ⟨i, false, HR.out, rfl, HG2.out, fun h => by cases h⟩
        · go_wp2_with (first
            | (go_at_call 139; refine (cut_any u _ (by omega) (HMX.out)).mono ?_; rintro e w' ⟨rfl, n, rfl⟩; rw [HLN.out, HRS.out, HFD.out])
            | (go_at_call 89; refine (HST.out i line _ (HDS.out _ _ _ HS.out) HLL.out (by omega) (by omega) HEN.out).mono ?_; rintro e w2 ⟨rfl, hg2, hs2⟩; have HG2 := Lib.hid hg2; have HS2 := Lib.hid hs2; clear hg2 hs2; rw [HOK.out])
            | fail)
          go_roundw
          case rel =>
            refine ⟨i + 1, rest, rfl, by go_num, HRL.out, by omega, HS2.out HOK.out, fun j hj => ?_⟩
            by_cases e : j = i
            · subst e; exact ⟨HNE.out, HEN.out, HOK.out⟩
            · exact HALL.out j (by omega)
          case measure => exact l3
set_option maxHeartbeats 4000000 in
theorem dLinesA_any (t : ByteArray) (ok : Nat → Bool) (St : Nat → World → Prop) (base : World) (K1 : Value) (w : World) (h0 : St 0 w) (ht : t.size ≤ 1000000)
    (hb : ∀ k w1, St k w1 → base.grownBy w1 none ∧ MxT w1) (hd : ∀ k w1 n, St k w1 → St k (w1.drewN n))
    (hstep : ∀ k (line : ByteArray) w1, St k w1 → line.data.toList = lineN t.data.toList k → line.size ≤ t.size → k < t.size → endN t.data.toList k = true → Calls Tryz.prog 92 #[.string line, K1] w1 (fun e w' => e = .returned (.bool (ok k)) ∧ base.grownBy w' none ∧ (ok k = true → St (k + 1) w'))) :
    Calls Tryz.prog 91 #[.string t, .func (.func 92) #[] #[K1]] w (fun e w' => ∃ (i : Nat) (b : Bool), LnRes t.data.toList ok i b ∧ e = .returned (.tuple #[.int .i64 (if b then 0 else (i : Int)), .bool b]) ∧ base.grownBy w' none ∧ (b = true → St i w')) := by
  have H0 := Lib.hid h0; have HBS := Lib.hid hb; have HDS := Lib.hid hd; have HST := Lib.hid hstep
  clear h0 hb hd hstep
  go_enter Tryz.func91, Tryz.ntmps91
  go_wp2_with fail
  go_loopw [0, 6, 7, 8, 9] (fun tv iv _ _ _ wr => ∃ (i : Nat) (u : ByteArray), tv = .string u ∧ iv = .int .i64 i ∧ u.data.toList = restN t.data.toList i ∧ i + u.size ≤ t.size ∧ St i wr ∧ ∀ j, j < i → restN t.data.toList j ≠ [] ∧ endN t.data.toList j = true ∧ ok j = true) (fun tv _ _ _ _ _ => match tv with | .string u => u.size | _ => 0)
  case atStart => exact ⟨0, t, rfl, rfl, rfl, by omega, H0.out, fun j h => by omega⟩
  case round =>
    obtain ⟨i, u, rfl, rfl, hu, hiu, hst, hall⟩ := hrel
    have HU := Lib.hid hu; have HS := Lib.hid hst; have HALL := Lib.hid hall
    clear hu hst hall
    by_cases hz : u.data.toList = []
    · have e1 : u.toList = [] := by rw [ByteArray.toList_eq]; exact hz
      have HR := Lib.hid (show LnRes t.data.toList ok i true from ⟨HALL.out, .inl ⟨rfl, by rw [← HU.out]; exact hz⟩⟩)
      clear hz
      go_wp2_with fail
      go_ret2
      exact ⟨i, true, HR.out, rfl, (HBS.out _ _ HS.out).1, fun _ => HS.out⟩
    · have e1 : (u.toList == []) = false := by rw [ByteArray.toList_eq, beq_eq_false_iff_ne]; exact hz
      have e1b : u.toList.isEmpty = false := by rw [ByteArray.toList_eq, List.isEmpty_eq_false_iff]; exact hz
      have HMX := Lib.hid (HBS.out _ _ HS.out).2
      have hcl := cutL_len u.data.toList
      have hul : u.data.toList.length = u.size := rfl
      obtain ⟨line, hln⟩ : ∃ x : ByteArray, (⟨(cutL u.data.toList).1.toArray⟩ : ByteArray) = x := ⟨_, rfl⟩
      obtain ⟨rest, hrs⟩ : ∃ x : ByteArray, (⟨(cutL u.data.toList).2.1.toArray⟩ : ByteArray) = x := ⟨_, rfl⟩
      obtain ⟨fd, hfd⟩ : ∃ x, (cutL u.data.toList).2.2 = x := ⟨_, rfl⟩
      have l1 : line.size ≤ u.size := by rw [← hln]; show (cutL u.data.toList).1.toArray.size ≤ _; rw [List.size_toArray]; omega
      have l2 : fd = true → rest.size < u.size := fun h => by
        rw [← hrs]; show (cutL u.data.toList).2.1.toArray.size < _; rw [List.size_toArray]
        rcases hcl.2.1 hz with h2 | h2
        · omega
        · rw [hfd, h] at h2; cases h2
      have HLL := Lib.hid (show line.data.toList = lineN t.data.toList i by rw [← hln]; unfold lineN; rw [← HU.out])
      have HRL := Lib.hid (show rest.data.toList = restN t.data.toList (i + 1) by rw [← hrs]; show _ = (cutL (restN t.data.toList i)).2.1; rw [← HU.out])
      have HEN := Lib.hid (show endN t.data.toList i = fd by unfold endN; rw [← HU.out]; exact hfd)
      have HNE := Lib.hid (show restN t.data.toList i ≠ [] by rw [← HU.out]; exact hz)
      have HLN := Lib.hid hln; have HRS := Lib.hid hrs; have HFD := Lib.hid hfd
      clear hln hrs hfd hcl hz hul
      cases fd
      · have HR := Lib.hid (show LnRes t.data.toList ok i false from ⟨HALL.out, .inr ⟨rfl, HNE.out, .inl HEN.out⟩⟩)
        clear l2
        go_wp2_with (first
          | (go_at_call 139; refine (cut_any u _ (by omega) (HMX.out)).mono ?_; rintro e w' ⟨rfl, n, rfl⟩; rw [HLN.out, HRS.out, HFD.out])
          | fail)
        go_ret2
        exact ⟨i, false, HR.out, rfl, gr_drewN (HBS.out _ _ HS.out).1 _, fun h => by cases h⟩
      · have l3 := l2 rfl
        obtain ⟨B, hB⟩ : ∃ B, ok i = B := ⟨_, rfl⟩
        have HOK := Lib.hid hB
        clear l2 hB
        cases B
        · have HR := Lib.hid (show LnRes t.data.toList ok i false from ⟨HALL.out, .inr ⟨rfl, HNE.out, .inr HOK.out⟩⟩)
          go_wp2_with (first
            | (go_at_call 139; refine (cut_any u _ (by omega) (HMX.out)).mono ?_; rintro e w' ⟨rfl, n, rfl⟩; rw [HLN.out, HRS.out, HFD.out])
            | (go_at_call 92; refine (HST.out i line _ (HDS.out _ _ _ HS.out) HLL.out (by omega) (by omega) HEN.out).mono ?_; rintro e w2 ⟨rfl, hg2, hs2⟩; have HG2 := Lib.hid hg2; have HS2 := Lib.hid hs2; clear hg2 hs2; rw [HOK.out])
            | fail)
          go_ret2
          exact ⟨i, false, HR.out, rfl, HG2.out, fun h => by cases h⟩
        · go_wp2_with (first
            | (go_at_call 139; refine (cut_any u _ (by omega) (HMX.out)).mono ?_; rintro e w' ⟨rfl, n, rfl⟩; rw [HLN.out, HRS.out, HFD.out])
            | (go_at_call 92; refine (HST.out i line _ (HDS.out _ _ _ HS.out) HLL.out (by omega) (by omega) HEN.out).mono ?_; rintro e w2 ⟨rfl, hg2, hs2⟩; have HG2 := Lib.hid hg2; have HS2 := Lib.hid hs2; clear hg2 hs2; rw [HOK.out])
            | fail)
          go_roundw
          case rel =>
            refine ⟨i + 1, rest, rfl, by go_num, HRL.out, by omega, HS2.out HOK.out, fun j hj => ?_⟩
            by_cases e : j = i
            · subst e; exact ⟨HNE.out, HEN.out, HOK.out⟩
            · exact HALL.out j (by omega)
          case measure => exact l3
theorem numN_bd {l : List UInt8} (h : numB l 15 = true) : -1152921504606846976 ≤ numN l ∧ numN l ≤ 1152921504606846976 := by
  unfold numB at h
  rw [Bool.and_eq_true] at h
  obtain ⟨_, h1, h2, _⟩ := num_bd (by decide) h.1
  omega
theorem aOut_sz (t : List UInt8) (ht : t.length ≤ 1000000) : ∀ k, (∀ j, j < k → aOk t j = true) → ∀ z ∈ aOut t k, AcOkL z := by
  intro k
  induction k with
  | zero => intro _ z hz; cases hz
  | succ k ih =>
    intro hok z hz
    rcases List.mem_append.1 hz with hz | hz
    · exact ih (fun j hj => hok j (by omega)) z hz
    · rw [List.mem_singleton.1 hz]
      have h1 := lnB_size t k
      have q1 := pc_size (s := lnB t k) 1
      have q2 := pc_size (s := lnB t k) 2
      have q5 := pc_size (s := lnB t k) 5
      have q6 := undS_size (pcAt (lnB t k) 5)
      have hb : acB (lnB t k) = true := hok k (by omega)
      have hn : numB (pcAt (lnB t k) 0).data.toList 15 = true := by
        unfold acB at hb
        simp only [Bool.and_eq_true] at hb
        exact hb.2.2.1
      obtain ⟨b1, b2⟩ := numN_bd hn
      obtain ⟨k1, k2, _⟩ := wd_cases W5a (pcAt (lnB t k) 3)
      have k3 : W5a.length = 5 := rfl
      have hf : (acV (lnB t k)).frm.size ≤ 1000000 := by
        show (if wdN W5a (pcAt (lnB t k) 3) = 1 then undS (pcAt (lnB t k) 5) else ⟨#[]⟩).size ≤ _
        split
        · omega
        · decide
      exact ⟨⟨by show (pcAt (lnB t k) 1).size ≤ _; omega, by show (pcAt (lnB t k) 2).size ≤ _; omega, hf⟩, ⟨by show _ ≤ numN _; omega, by show numN _ ≤ _; omega⟩, ⟨by show _ ≤ wdN _ _; omega, by show wdN _ _ ≤ _; omega⟩⟩
theorem aOut_len (t : List UInt8) (k : Nat) : (aOut t k).length = k := by
  induction k with
  | zero => rfl
  | succ k ih => show (aOut t k ++ _).length = _; rw [List.length_append, ih]; rfl
/-- What is read of a text: acts, or where and why not. -/
def RdA (s : ByteArray) (w : World) (e : Ending) (w' : World) : Prop :=
  w.grownBy w' none ∧ ((200000 < s.size ∧ e = .returned (.tuple #[.slice none 0 0, .int .i64 0, .int .i64 2])) ∨
    (s.size ≤ 200000 ∧ ∃ (i : Nat) (b : Bool), LnRes s.data.toList (aOk s.data.toList) i b ∧
      ((b = false ∧ e = .returned (.tuple #[.slice none 0 0, .int .i64 i, .int .i64 9])) ∨
       (b = true ∧ acsE (aOut s.data.toList i) ≠ 0 ∧ e = .returned (.tuple #[.slice none 0 0, .int .i64 0, .int .i64 (acsE (aOut s.data.toList i))])) ∨
       (b = true ∧ acsE (aOut s.data.toList i) = 0 ∧ ∃ B c, e = .returned (.tuple #[.slice B i c, .int .i64 0, .int .i64 0]) ∧ Recs ActV.row 6 w' 0 B i c (aOut s.data.toList i)))))
set_option maxHeartbeats 4000000 in
theorem actsReadP_any (s : ByteArray) (w : World) (hs : s.size ≤ 1000000) (hm : MxT w) (hp : PwT w) : Calls Tryz.prog 26 #[.string s] w (RdA s w) := by
  by_cases hbig : 200000 < s.size
  · have e1 : decide ((200000 : Int) < (s.size : Int)) = true := decide_eq_true (by omega)
    have HB := Lib.hid hbig
    go_enter Tryz.func26, Tryz.ntmps26
    go_wp2_with fail
    go_ret3
    exact ⟨gr_refl _ _, .inl ⟨HB.out, rfl⟩⟩
  · have e1 : decide ((200000 : Int) < (s.size : Int)) = false := decide_eq_false (by omega)
    have hs2 : s.size ≤ 200000 := by omega
    obtain ⟨w1, hw1⟩ : ∃ v, w.alloc (.cells #[.slice none 0 0] 45) = v := ⟨_, rfl⟩
    obtain ⟨ob, hob⟩ : ∃ b, w.heap.size = b := ⟨_, rfl⟩
    have hg1 : w.grownBy w1 none := by rw [← hw1]; exact gr_alloc (gr_refl _ _) _
    have H0 := Lib.hid (show StA s.data.toList w ob 0 w1 from ⟨hg1, hm.grown hg1, hp.grown hg1, by omega, hm.lt, hp.lt, none, 0, by rw [← hw1, ← hob]; exact Blk.new _ _ _, OwnR.nil _ _ _⟩)
    have HW1 := Lib.hid hw1; have HZ1 := Lib.hid hob
    clear hw1 hob hg1 hm hp
    go_enter Tryz.func26, Tryz.ntmps26
    go_upto_region 4 with (fail)
    rw [HW1.out]
    (try rw [HZ1.out])
    clear HW1 HZ1 e1
    go_wp2_with fail
    refine (pLinesA_any s (aOk s.data.toList) (StA s.data.toList w ob) w (.pointer (some ⟨ob, 0, none⟩)) _ H0.out hs (fun k w1 h => ⟨h.g, h.mx⟩) (fun k w1 n h => h.kept (gr_drewN (gr_refl _ _) n)) (fun k line w1 h hl hls hk _ => pAcLine_any s.data.toList w ob k line w1 h hl (by omega) (by omega))).mono ?_
    rintro e w2 ⟨i, b, hres, rfl, hg2, hst⟩
    have HRES := Lib.hid hres; have HG := Lib.hid hg2
    cases b
    · clear hst hg2 hres
      go_wp2_with fail
      go_ret3
      exact ⟨HG.out, .inr ⟨hs2, i, false, HRES.out, .inl ⟨rfl, rfl⟩⟩⟩
    · obtain ⟨B, c, hob, hown⟩ := (hst rfl).out
      have hi := HRES.out.le
      have hls : s.data.toList.length = s.size := rfl
      have HOB := Lib.hid hob; have HO := Lib.hid hown
      have o0 := hob.cell 0
      obtain ⟨E, hE⟩ : ∃ E, acsE (aOut s.data.toList i) = E := ⟨_, rfl⟩
      have HE := Lib.hid hE
      have HSZ := Lib.hid (aOut_sz s.data.toList (by omega) i (fun j hj => (HRES.out.1 j hj).2.2))
      clear hst hg2 hres hob hown hE
      go_wp2_with fail
      refine (checkActs_anyL (ob + 1) B i c (aOut s.data.toList i) _ ⟨HO.out.recs, HSZ.out⟩ (by omega)).mono ?_
      rintro e w3 ⟨rfl, hg3⟩
      rw [HE.out]
      replace HOB := Lib.hid (HOB.out.grown hg3 (by simp))
      replace HO := Lib.hid (HO.out.kept hg3 (fun g e => by cases e))
      replace HG := Lib.hid (gr_none HG.out hg3)
      clear hg3 o0
      have o0 := HOB.out.cell 0
      by_cases hz : E = 0
      · have dz : (E != 0) = false := by simpa using hz
        have HE0 := Lib.hid (HE.out.trans hz)
        clear hz
        go_wp2_with fail
        go_ret3
        exact ⟨HG.out, .inr ⟨hs2, i, true, HRES.out, .inr (.inr ⟨rfl, HE0.out, B, c, rfl, HO.out.recs.lower (Nat.zero_le _)⟩)⟩⟩
      · have dz : (E != 0) = true := by simpa using hz
        have HNZ := Lib.hid hz
        clear hz
        go_wp2_with fail
        go_ret3
        exact ⟨HG.out, .inr ⟨hs2, i, true, HRES.out, .inr (.inl ⟨rfl, by rw [HE.out]; exact HNZ.out, by rw [HE.out]; try rfl⟩)⟩⟩
set_option maxHeartbeats 4000000 in
theorem actsReadD_any (s : ByteArray) (w : World) (hs : s.size ≤ 1000000) (hm : MxT w) (hp : PwT w) : Calls Tryz.prog 27 #[.string s] w (RdA s w) := by
  by_cases hbig : 200000 < s.size
  · have e1 : decide ((200000 : Int) < (s.size : Int)) = true := decide_eq_true (by omega)
    have HB := Lib.hid hbig
    go_enter Tryz.func27, Tryz.ntmps27
    go_wp2_with fail
    go_ret3
    exact ⟨gr_refl _ _, .inl ⟨HB.out, rfl⟩⟩
  · have e1 : decide ((200000 : Int) < (s.size : Int)) = false := decide_eq_false (by omega)
    have hs2 : s.size ≤ 200000 := by omega
    obtain ⟨w1, hw1⟩ : ∃ v, w.alloc (.cells #[.slice none 0 0] 45) = v := ⟨_, rfl⟩
    obtain ⟨ob, hob⟩ : ∃ b, w.heap.size = b := ⟨_, rfl⟩
    have hg1 : w.grownBy w1 none := by rw [← hw1]; exact gr_alloc (gr_refl _ _) _
    have H0 := Lib.hid (show StA s.data.toList w ob 0 w1 from ⟨hg1, hm.grown hg1, hp.grown hg1, by omega, hm.lt, hp.lt, none, 0, by rw [← hw1, ← hob]; exact Blk.new _ _ _, OwnR.nil _ _ _⟩)
    have HW1 := Lib.hid hw1; have HZ1 := Lib.hid hob
    clear hw1 hob hg1 hm hp
    go_enter Tryz.func27, Tryz.ntmps27
    go_upto_region 4 with (fail)
    rw [HW1.out]
    (try rw [HZ1.out])
    clear HW1 HZ1 e1
    go_wp2_with fail
    refine (dLinesA_any s (aOk s.data.toList) (StA s.data.toList w ob) w (.pointer (some ⟨ob, 0, none⟩)) _ H0.out hs (fun k w1 h => ⟨h.g, h.mx⟩) (fun k w1 n h => h.kept (gr_drewN (gr_refl _ _) n)) (fun k line w1 h hl hls hk _ => dAcLine_any s.data.toList w ob k line w1 h hl (by omega) (by omega))).mono ?_
    rintro e w2 ⟨i, b, hres, rfl, hg2, hst⟩
    have HRES := Lib.hid hres; have HG := Lib.hid hg2
    cases b
    · clear hst hg2 hres
      go_wp2_with fail
      go_ret3
      exact ⟨HG.out, .inr ⟨hs2, i, false, HRES.out, .inl ⟨rfl, rfl⟩⟩⟩
    · obtain ⟨B, c, hob, hown⟩ := (hst rfl).out
      have hi := HRES.out.le
      have hls : s.data.toList.length = s.size := rfl
      have HOB := Lib.hid hob; have HO := Lib.hid hown
      have o0 := hob.cell 0
      obtain ⟨E, hE⟩ : ∃ E, acsE (aOut s.data.toList i) = E := ⟨_, rfl⟩
      have HE := Lib.hid hE
      have HSZ := Lib.hid (aOut_sz s.data.toList (by omega) i (fun j hj => (HRES.out.1 j hj).2.2))
      clear hst hg2 hres hob hown hE
      go_wp2_with fail
      refine (actsFault_anyL (ob + 1) B i c (aOut s.data.toList i) _ ⟨HO.out.recs, HSZ.out⟩ (by omega)).mono ?_
      rintro e w3 ⟨rfl, hg3⟩
      rw [HE.out]
      replace HOB := Lib.hid (HOB.out.grown hg3 (by simp))
      replace HO := Lib.hid (HO.out.kept hg3 (fun g e => by cases e))
      replace HG := Lib.hid (gr_none HG.out hg3)
      clear hg3 o0
      have o0 := HOB.out.cell 0
      by_cases hz : E = 0
      · have dz : (E != 0) = false := by simpa using hz
        have HE0 := Lib.hid (HE.out.trans hz)
        clear hz
        go_wp2_with fail
        go_ret3
        exact ⟨HG.out, .inr ⟨hs2, i, true, HRES.out, .inr (.inr ⟨rfl, HE0.out, B, c, rfl, HO.out.recs.lower (Nat.zero_le _)⟩)⟩⟩
      · have dz : (E != 0) = true := by simpa using hz
        have HNZ := Lib.hid hz
        clear hz
        go_wp2_with fail
        go_ret3
        exact ⟨HG.out, .inr ⟨hs2, i, true, HRES.out, .inr (.inl ⟨rfl, by rw [HE.out]; exact HNZ.out, by rw [HE.out]; try rfl⟩)⟩⟩
/-- Both ways read the same. -/
theorem RdA.same {s : ByteArray} {w1 w1' w2 w2' : World} {e1 e2 : Ending} (h1 : RdA s w1 e1 w1') (h2 : RdA s w2 e2 w2') : ∃ (i E : Int) (n : Nat) (l : List ActV) (B1 B2 : Option Addr) (c1 c2 : Nat), e1 = .returned (.tuple #[.slice B1 n c1, .int .i64 i, .int .i64 E]) ∧ e2 = .returned (.tuple #[.slice B2 n c2, .int .i64 i, .int .i64 E]) ∧ n ≤ 1000000 ∧ Recs ActV.row 6 w1' 0 B1 n c1 l ∧ Recs ActV.row 6 w2' 0 B2 n c2 l := by
  have hnil : ∀ w : World, Recs ActV.row 6 w 0 none 0 0 [] := fun w => (OwnR.nil (row := ActV.row) (k := 6) w 0 0).recs
  rcases h1.2 with ⟨q1, rfl⟩ | ⟨q1, i, b, r1, hc1⟩
  · rcases h2.2 with ⟨q2, rfl⟩ | ⟨q2, _⟩
    · exact ⟨0, 2, 0, [], none, none, 0, 0, rfl, rfl, by omega, hnil _, hnil _⟩
    · omega
  · rcases h2.2 with ⟨q2, rfl⟩ | ⟨q2, i', b', r2, hc2⟩
    · omega
    · obtain ⟨rfl, rfl⟩ := r1.same r2
      have hi := r1.le
      have hls : s.data.toList.length = s.size := rfl
      rcases hc1 with ⟨rfl, rfl⟩ | ⟨rfl, hn, rfl⟩ | ⟨rfl, hz, B, c, rfl, hr⟩
      · rcases hc2 with ⟨_, rfl⟩ | ⟨h, _⟩ | ⟨h, _⟩
        · exact ⟨i, 9, 0, [], none, none, 0, 0, rfl, rfl, by omega, hnil _, hnil _⟩
        · cases h
        · cases h
      · rcases hc2 with ⟨h, _⟩ | ⟨_, hn2, rfl⟩ | ⟨_, hz2, _⟩
        · cases h
        · exact ⟨0, _, 0, [], none, none, 0, 0, rfl, rfl, by omega, hnil _, hnil _⟩
        · exact absurd hz2 hn
      · rcases hc2 with ⟨h, _⟩ | ⟨_, hn2, _⟩ | ⟨_, _, B2, c2, rfl, hr2⟩
        · cases h
        · exact absurd hz hn2
        · exact ⟨0, 0, i, _, B, B2, c, c2, rfl, rfl, by omega, hr, hr2⟩
end Go.Proofs.YtgogiljplnninaaGreatDoor

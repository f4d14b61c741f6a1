/- Contracts of dialplan.Number and the document's Number; what the shelf says of a leading '-', of Atoi and Itoa. Conditions: strings of bounded length; at the document's Number the table of powers of ten. -/
import Derived.Test.YtgogiljplnninaaGreatDoorBun1
import Derived.Test.YtgogiljplnninaaGreatDoorBun2
import Derived.Test.YtgogiljplnninaaGreatDoorShelfTx
import Derived.Test.YtgogiljplnninaaGreatDoorShelfCut
import Derived.Deep.QuietTactic
import Derived.BigQuiet
import Derived.Lib.AtoiErrMem
import Derived.Lib.SplitLaws
import Derived.Lib.ItoaLen
import Derived.Lib.Join
namespace Go.Proofs.YtgogiljplnninaaGreatDoor
section
open Go.RowKit

theorem gr_ahead (w : World) (k : Nat) (os : Array Obj) : w.grownBy (Sort.grow (w.drewN k) os) none := by
  refine ⟨rfl, rfl, rfl, ?_, fun i hi _ => ?_⟩
  · show w.heap.size ≤ (w.heap ++ os).size
    rw [Array.size_append]; omega
  · show (w.heap ++ os)[i]? = w.heap[i]?
    exact Array.getElem?_append_left hi
/-- What CutPrefix gives at a minus. -/
theorem minus_cut (s : ByteArray) : ∃ (d : ByteArray) (b : Bool), (⟨(Lib.trimPrefix s.data.toList [45]).toArray⟩ : ByteArray) = d ∧ Lib.hasPrefix s.data.toList [45] = b ∧ d.data.toList = magL s.data.toList ∧ b = negB s.data.toList ∧ d.size ≤ s.size := by
  refine ⟨_, _, rfl, rfl, ?_⟩
  have h : Lib.trimPrefix s.data.toList [45] = magL s.data.toList ∧ Lib.hasPrefix s.data.toList [45] = negB s.data.toList := by
    cases s.data.toList with
    | nil => exact ⟨rfl, rfl⟩
    | cons a l =>
      by_cases e : a = 45
      · subst e
        exact ⟨by simp [Lib.trimPrefix, Lib.hasPrefix, magL, negB], by simp [Lib.hasPrefix, negB]⟩
      · have e3 : ((45 : UInt8) == a) = false := by rw [beq_eq_false_iff_ne]; exact fun h => e h.symm
        have e4 : Lib.hasPrefix (a :: l) [45] = false := by simp [Lib.hasPrefix, List.isPrefixOf, e3]
        have e5 : negB (a :: l) = false := by simp [negB, e]
        exact ⟨by unfold Lib.trimPrefix magL; rw [e4, e5]; rfl, by rw [e4, e5]⟩
  refine ⟨by rw [← h.1], h.2, ?_⟩
  show (Lib.trimPrefix s.data.toList [45]).toArray.size ≤ s.data.size
  rw [List.size_toArray, ← Array.length_toList]
  unfold Lib.trimPrefix
  split
  · rw [List.length_drop]; omega
  · exact Nat.le_refl _
theorem cutMinus_any (s d : ByteArray) (b : Bool) (w : World) (hd : (⟨(Lib.trimPrefix s.data.toList [45]).toArray⟩ : ByteArray) = d) (hb : Lib.hasPrefix s.data.toList [45] = b) :
    Calls Tryz.prog 125 #[.string s, .string ⟨#[45]⟩] w (Same (.tuple #[.string d, .bool b]) w) := by
  refine (Tryz.strings_CutPrefix s ⟨#[45]⟩ w).mono ?_
  rintro e w' ⟨rfl, rfl⟩
  refine ⟨?_, rfl⟩
  show Ending.returned (.tuple #[.string ⟨(Lib.trimPrefix s.data.toList [45]).toArray⟩, .bool (Lib.hasPrefix s.data.toList [45])]) = _
  rw [hd, hb]
theorem trimMinus_any (s d : ByteArray) (w : World) (hd : (⟨(Lib.trimPrefix s.data.toList [45]).toArray⟩ : ByteArray) = d) :
    Calls Tryz.prog 144 #[.string s, .string ⟨#[45]⟩] w (Same (.string d) w) := by
  refine (Tryz.strings_TrimPrefix s ⟨#[45]⟩ w).mono ?_
  rintro e w' ⟨rfl, rfl⟩
  refine ⟨?_, rfl⟩
  show Ending.returned (.string ⟨(Lib.trimPrefix s.data.toList [45]).toArray⟩) = _
  rw [hd]
theorem ten_sig : Lib.trimS [] [48, 49, 50, 51, 52, 53, 54, 55, 56, 57] = [] := by decide
theorem all_dig (l : List UInt8) : l.all dgB = (l.map UInt8.toNat).all (fun b => decide (b ∈ [48, 49, 50, 51, 52, 53, 54, 55, 56, 57])) := by
  rw [List.all_map]
  congr 1
  funext b
  show dgB b = decide (b.toNat ∈ _)
  unfold dgB
  rw [Bool.eq_iff_iff]
  simp only [Bool.and_eq_true, decide_eq_true_eq, List.mem_cons, List.not_mem_nil, or_false]
  omega
set_option maxRecDepth 100000 in
theorem trimTen_any (s : ByteArray) (w : World) (hs : s.size ≤ 1000000) : Calls Tryz.prog 126 #[.string s, .string ⟨#[48, 49, 50, 51, 52, 53, 54, 55, 56, 57]⟩] w
    (RetV (.string ⟨(Lib.trimS s.data.toList [48, 49, 50, 51, 52, 53, 54, 55, 56, 57]).toArray⟩) w) := by
  refine (Any.strings_Trim_laid Tryz.lays160 (by kernel_rfl) s ⟨#[48, 49, 50, 51, 52, 53, 54, 55, 56, 57]⟩ w (by omega) (by decide) (ascii_of_all (by decide))).mono ?_
  rintro e w' ⟨rfl, hb⟩
  exact ⟨rfl, gr_below hb none⟩
theorem trimTen_eq (s : ByteArray) : ∃ u : ByteArray, (⟨(Lib.trimS s.data.toList [48, 49, 50, 51, 52, 53, 54, 55, 56, 57]).toArray⟩ : ByteArray) = u ∧ ((s.data.toList.all dgB = true ∧ u.toList = []) ∨ (s.data.toList.all dgB = false ∧ (u.toList == []) = false ∧ u.toList.isEmpty = false)) := by
  refine ⟨_, rfl, ?_⟩
  rw [ByteArray.toList_mk]
  have key : Lib.trimS s.data.toList [48, 49, 50, 51, 52, 53, 54, 55, 56, 57] = [] ↔ s.data.toList.all dgB = true := by
    rw [tr_only, all_dig]; rfl
  cases hd : s.data.toList.all dgB
  · right
    have : ¬ Lib.trimS s.data.toList [48, 49, 50, 51, 52, 53, 54, 55, 56, 57] = [] := fun h => by
      have := key.1 h
      rw [hd] at this; cases this
    exact ⟨rfl, by rw [beq_eq_false_iff_ne]; exact this, by rw [List.isEmpty_eq_false_iff]; exact this⟩
  · exact .inl ⟨rfl, key.2 hd⟩
theorem atoi_any (s : ByteArray) (n : Int) (w : World) (hl : s.size ≤ 18) (h : Lib.atoi s.data.toList = some n) : Calls Tryz.prog 145 #[.string s] w (RetV (.tuple #[.int .i64 n, .nilIface]) w) := by
  refine (Tryz.strconv_Atoi s n hl h w).mono ?_
  rintro e w' ⟨rfl, t, rfl⟩
  exact ⟨rfl, gr_below (Lib.bytesWorld_below w _ t) none⟩
/-- The table of the powers of ten, as it lies. -/
def PwT (w : World) : Prop := Lib.TabIs Tryz.prog w "internal/strconv.uint64pow10" .u64 Lib.pow10Tab
theorem PwT.low {w w' : World} {r : Option Nat} (h : PwT w) (hg : w.grownBy w' r) (hr : ∀ g, r = some g → g ≠ 3) : PwT w' := by
  unfold PwT Lib.TabIs World.var? at h ⊢
  rw [show Tryz.prog.globalNamed "internal/strconv.uint64pow10" = some 3 by kernel_rfl] at h ⊢
  change (match w.heap[3]? with | some (.cells cs _ _) => some cs | _ => none) = _ at h
  show (match w'.heap[3]? with | some (.cells cs _ _) => some cs | _ => none) = _
  have hlt : 3 < w.heap.size := by
    cases e : w.heap[3]? with
    | none => rw [e] at h; cases h
    | some o => exact (Array.getElem?_eq_some_iff.1 e).1
  rw [hg.block 3 hlt (fun e => hr _ e.symm rfl)]
  exact h
theorem PwT.grown {w w' : World} (h : PwT w) (hg : w.grownBy w' none) : PwT w' := h.low hg fun g e => by cases e
theorem itoa_any (n : Int) (w : World) (h0 : -9000000000000000000 ≤ n) (h1 : n ≤ 9000000000000000000) (ht : PwT w) : Calls Tryz.prog 78 #[.int .i64 n] w (RetV (.string ⟨(Lib.itoa n).toArray⟩) w) := by
  refine (Tryz.strconv_Itoa n (by omega) (by omega) w ht).mono ?_
  rintro e w' ⟨rfl, k, os, rfl⟩
  exact ⟨rfl, gr_ahead w k os⟩
def numV (l : List UInt8) (most : Nat) : Int := if numB l most then numN l else 0
/-- The parts of a number that is read. -/
theorem num_parts (s d : ByteArray) (most : Nat) (hd : d.data.toList = magL s.data.toList) : numB s.data.toList most = (!d.data.toList.isEmpty && decide (d.size ≤ most) && d.data.toList.all dgB && (!(d.data.toList.head? == some 48) || (decide (d.data.toList = [48]) && !negB s.data.toList))) := by
  unfold numB rawB canB
  rw [← hd]
  rfl
theorem bytes_nil {d : ByteArray} (h : d.data.toList = []) : d.toList = [] := by rw [ByteArray.toList_eq]; exact h
set_option maxHeartbeats 4000000 in
theorem pNumber_any (s : ByteArray) (most : Nat) (w : World) (hs : s.size ≤ 1000000) (hm : most ≤ 17) : Calls Tryz.prog 141 #[.string s, .int .i64 most] w (RetV (.tuple #[.int .i64 (numV s.data.toList most), .bool (numB s.data.toList most)]) w) := by
  obtain ⟨d, B, hd, hb, hmag, hB, hsz⟩ := minus_cut s
  have hnum := num_parts s d most hmag
  rw [← hB] at hnum
  have hds : d.data.toList.length = d.size := rfl
  have HD := Lib.hid hd; have HB := Lib.hid hb
  clear hd hb hB
  by_cases h0 : d.data.toList = []
  · have HV := Lib.hid (show (Value.tuple #[.int .i64 (numV s.data.toList most), .bool (numB s.data.toList most)]) = .tuple #[.int .i64 0, .bool false] by unfold numV; rw [show numB s.data.toList most = false by rw [hnum]; rw [h0]; rfl]; rfl)
    have e1 := bytes_nil h0
    clear h0 hnum hmag hds
    go_enter Tryz.func141, Tryz.ntmps141
    go_wp2_with (first
      | (go_at_call 125; refine (cutMinus_any s d _ _ HD.out HB.out).mono ?_; rintro e w' ⟨rfl, rfl⟩)
      | (go_at_call 126; refine (trimTen_any d _ (by omega)).mono ?_; rintro e w' ⟨rfl, hg⟩; rw [HU.out]; have HG := Lib.hid hg; clear hg)
      | (go_at_call 145; refine (atoi_any s (numN s.data.toList) _ (by omega) HAT.out).mono ?_; rintro e w' ⟨rfl, hg⟩; have HG2 := Lib.hid hg; clear hg)
      | fail)
    go_ret2
    exact ⟨by rw [HV.out]; try rfl, gr_refl _ _⟩
  · have e0 : d.data.toList.isEmpty = false := by rw [List.isEmpty_eq_false_iff]; exact h0
    have e1 : (d.toList == []) = false := by rw [ByteArray.toList_eq, beq_eq_false_iff_ne]; exact h0
    have e1b : d.toList.isEmpty = false := by rw [ByteArray.toList_eq]; exact e0
    have hpos : 1 ≤ d.size := by
      have := List.length_pos_iff.2 h0
      omega
    by_cases h1 : d.size ≤ most
    · have e2 : decide ((most : Int) < (d.size : Int)) = false := decide_eq_false (by omega)
      have e2n : decide (most < d.size) = false := decide_eq_false (by omega)
      rw [e0, decide_eq_true h1] at hnum
      obtain ⟨u, hu, hcase⟩ := trimTen_eq d
      have HU := Lib.hid hu; clear hu
      rcases hcase with ⟨h2, h3⟩ | ⟨h2, h3, h4⟩
      · rw [h2] at hnum
        have hraw : rawB s.data.toList most = true := by
          unfold rawB
          rw [← hmag, e0, h2, hds, decide_eq_true h1]; rfl
        obtain ⟨hat, _, _, hln⟩ := num_bd hm hraw
        have hln2 : s.size ≤ 18 := hln
        have HAT := Lib.hid hat
        obtain ⟨q, hq⟩ : ∃ q, d[0].toNat = q := ⟨_, rfl⟩
        have hhd : (d.data.toList.head? == some 48) = decide (q = 48) := by
          have e : d.data.toList.head? = some d[0] := by
            rw [List.head?_eq_getElem?, Array.getElem?_toList, Array.getElem?_eq_getElem (by exact hpos)]; rfl
          rw [e, Bool.eq_iff_iff, beq_iff_eq, decide_eq_true_eq, ← hq]
          constructor
          · intro h; injection h with h; rw [h]; rfl
          · intro h; exact congrArg some (UInt8.toNat_inj.1 h)
        rw [hhd] at hnum
        clear e0 h0 hmag hat hraw h1 h2 hhd
        by_cases h48 : q = 48
        · have e3 : ((q : Int) == 48) = true := by rw [h48]; rfl
          rw [decide_eq_true h48] at hnum
          by_cases hz : d.data.toList = [48]
          · have e4 : d.toList = [48] := by rw [ByteArray.toList_eq]; exact hz
            rw [decide_eq_true hz] at hnum
            cases B
            · have HV := Lib.hid (show (Value.tuple #[.int .i64 (numV s.data.toList most), .bool (numB s.data.toList most)]) = .tuple #[.int .i64 (numN s.data.toList), .bool true] by unfold numV; rw [show numB s.data.toList most = true from hnum]; rfl)
              clear hnum hz h48 hds
              go_enter Tryz.func141, Tryz.ntmps141
              go_wp2_with (first
                | (go_at_call 125; refine (cutMinus_any s d _ _ HD.out HB.out).mono ?_; rintro e w' ⟨rfl, rfl⟩)
                | (go_at_call 126; refine (trimTen_any d _ (by omega)).mono ?_; rintro e w' ⟨rfl, hg⟩; rw [HU.out]; have HG := Lib.hid hg; clear hg)
                | (go_at_call 145; refine (atoi_any s (numN s.data.toList) _ (by omega) HAT.out).mono ?_; rintro e w' ⟨rfl, hg⟩; have HG2 := Lib.hid hg; clear hg)
                | fail)
              go_quiet (fail)
              go_wp2_with fail
              go_ret2
              exact ⟨by rw [HV.out]; try rfl, gr_drewN (gr_none HG.out HG2.out) _⟩
            · have HV := Lib.hid (show (Value.tuple #[.int .i64 (numV s.data.toList most), .bool (numB s.data.toList most)]) = .tuple #[.int .i64 0, .bool false] by unfold numV; rw [show numB s.data.toList most = false by rw [hnum]; rfl]; rfl)
              clear hnum hz h48 hds
              go_enter Tryz.func141, Tryz.ntmps141
              go_wp2_with (first
                | (go_at_call 125; refine (cutMinus_any s d _ _ HD.out HB.out).mono ?_; rintro e w' ⟨rfl, rfl⟩)
                | (go_at_call 126; refine (trimTen_any d _ (by omega)).mono ?_; rintro e w' ⟨rfl, hg⟩; rw [HU.out]; have HG := Lib.hid hg; clear hg)
                | (go_at_call 145; refine (atoi_any s (numN s.data.toList) _ (by omega) HAT.out).mono ?_; rintro e w' ⟨rfl, hg⟩; have HG2 := Lib.hid hg; clear hg)
                | fail)
              go_ret2
              exact ⟨by rw [HV.out]; try rfl, HG.out⟩
          · have e4 : (d.toList == [48]) = false := by rw [ByteArray.toList_eq, beq_eq_false_iff_ne]; exact hz
            rw [decide_eq_false hz] at hnum
            have HV := Lib.hid (show (Value.tuple #[.int .i64 (numV s.data.toList most), .bool (numB s.data.toList most)]) = .tuple #[.int .i64 0, .bool false] by unfold numV; rw [show numB s.data.toList most = false by rw [hnum]; cases B <;> rfl]; rfl)
            clear hnum hz h48 hds
            go_enter Tryz.func141, Tryz.ntmps141
            go_wp2_with (first
              | (go_at_call 125; refine (cutMinus_any s d _ _ HD.out HB.out).mono ?_; rintro e w' ⟨rfl, rfl⟩)
              | (go_at_call 126; refine (trimTen_any d _ (by omega)).mono ?_; rintro e w' ⟨rfl, hg⟩; rw [HU.out]; have HG := Lib.hid hg; clear hg)
              | (go_at_call 145; refine (atoi_any s (numN s.data.toList) _ (by omega) HAT.out).mono ?_; rintro e w' ⟨rfl, hg⟩; have HG2 := Lib.hid hg; clear hg)
              | fail)
            go_ret2
            exact ⟨by rw [HV.out]; try rfl, HG.out⟩
        · have e3 : ((q : Int) == 48) = false := by rw [beq_eq_false_iff_ne]; omega
          rw [decide_eq_false h48] at hnum
          have HV := Lib.hid (show (Value.tuple #[.int .i64 (numV s.data.toList most), .bool (numB s.data.toList most)]) = .tuple #[.int .i64 (numN s.data.toList), .bool true] by unfold numV; rw [show numB s.data.toList most = true from hnum]; rfl)
          clear hnum h48 hds
          go_enter Tryz.func141, Tryz.ntmps141
          go_wp2_with (first
            | (go_at_call 125; refine (cutMinus_any s d _ _ HD.out HB.out).mono ?_; rintro e w' ⟨rfl, rfl⟩)
            | (go_at_call 126; refine (trimTen_any d _ (by omega)).mono ?_; rintro e w' ⟨rfl, hg⟩; rw [HU.out]; have HG := Lib.hid hg; clear hg)
            | (go_at_call 145; refine (atoi_any s (numN s.data.toList) _ (by omega) HAT.out).mono ?_; rintro e w' ⟨rfl, hg⟩; have HG2 := Lib.hid hg; clear hg)
            | fail)
          go_quiet (fail)
          go_wp2_with fail
          go_ret2
          exact ⟨by rw [HV.out]; try rfl, gr_drewN (gr_none HG.out HG2.out) _⟩
      · have HV := Lib.hid (show (Value.tuple #[.int .i64 (numV s.data.toList most), .bool (numB s.data.toList most)]) = .tuple #[.int .i64 0, .bool false] by unfold numV; rw [show numB s.data.toList most = false by rw [hnum]; rw [h2]; rfl]; rfl)
        clear hnum h2 hmag hds e0 h0 h1
        go_enter Tryz.func141, Tryz.ntmps141
        go_wp2_with (first
          | (go_at_call 125; refine (cutMinus_any s d _ _ HD.out HB.out).mono ?_; rintro e w' ⟨rfl, rfl⟩)
          | (go_at_call 126; refine (trimTen_any d _ (by omega)).mono ?_; rintro e w' ⟨rfl, hg⟩; rw [HU.out]; have HG := Lib.hid hg; clear hg)
          | (go_at_call 145; refine (atoi_any s (numN s.data.toList) _ (by omega) HAT.out).mono ?_; rintro e w' ⟨rfl, hg⟩; have HG2 := Lib.hid hg; clear hg)
          | fail)
        go_ret2
        exact ⟨by rw [HV.out]; try rfl, HG.out⟩
    · have e2 : decide ((most : Int) < (d.size : Int)) = true := decide_eq_true (by omega)
      have e2n : decide (most < d.size) = true := decide_eq_true (by omega)
      have HV := Lib.hid (show (Value.tuple #[.int .i64 (numV s.data.toList most), .bool (numB s.data.toList most)]) = .tuple #[.int .i64 0, .bool false] by unfold numV; rw [show numB s.data.toList most = false by rw [hnum]; rw [decide_eq_false h1, Bool.and_false]; rfl]; rfl)
      clear hnum h1 hmag hds e0 h0
      go_enter Tryz.func141, Tryz.ntmps141
      go_wp2_with (first
        | (go_at_call 125; refine (cutMinus_any s d _ _ HD.out HB.out).mono ?_; rintro e w' ⟨rfl, rfl⟩)
        | (go_at_call 126; refine (trimTen_any d _ (by omega)).mono ?_; rintro e w' ⟨rfl, hg⟩; rw [HU.out]; have HG := Lib.hid hg; clear hg)
        | (go_at_call 145; refine (atoi_any s (numN s.data.toList) _ (by omega) HAT.out).mono ?_; rintro e w' ⟨rfl, hg⟩; have HG2 := Lib.hid hg; clear hg)
        | fail)
      go_ret2
      exact ⟨by rw [HV.out]; try rfl, gr_refl _ _⟩
/-- The document's: the number, or any if there is none. -/
def DocNum (l : List UInt8) (most : Nat) (w : World) (e : Ending) (w' : World) : Prop := ∃ x : Int, e = .returned (.tuple #[.int .i64 x, .bool (numB l most)]) ∧ -1000000000000000000 < x ∧ x < 1000000000000000000 ∧ (numB l most = true → x = numN l) ∧ w.grownBy w' none
set_option maxHeartbeats 4000000 in
theorem dNumber_any (s : ByteArray) (most : Nat) (w : World) (hs : s.size ≤ 1000000) (hm : most ≤ 17) (hpw : PwT w) : Calls Tryz.prog 94 #[.string s, .int .i64 most] w (DocNum s.data.toList most w) := by
  obtain ⟨d, B, hd, hb, hmag, hB, hsz⟩ := minus_cut s
  have hnum := num_parts s d most hmag
  rw [← hB] at hnum
  have hds : d.data.toList.length = d.size := rfl
  have HD := Lib.hid hd; have HB := Lib.hid hb
  clear hd hb hB
  obtain ⟨dg, hdg, hon⟩ : ∃ dg : ByteArray, (⟨#[48, 49, 50, 51, 52, 53, 54, 55, 56, 57]⟩ : ByteArray) = dg ∧ (nb d).all (fun b => decide (b ∈ nb dg)) = d.data.toList.all dgB := ⟨_, rfl, by rw [all_dig]; rfl⟩
  have HDG := Lib.hid hdg
  have HPW := Lib.hid hpw
  clear hdg hpw
  by_cases h0 : d.data.toList = []
  · have hz : numB s.data.toList most = false := by rw [hnum, h0]; rfl
    have HZ := Lib.hid hz
    have e1 := bytes_nil h0
    clear h0 hnum hmag hds hz hon
    go_enter Tryz.func94, Tryz.ntmps94
    go_wp2_with (first
      | (go_at_call 144; refine (trimMinus_any s d _ HD.out).mono ?_; rintro e w' ⟨rfl, rfl⟩)
      | (go_at_call 110; rw [HDG.out]; refine (onlyS_any d dg _ (by omega)).mono ?_; rintro e w' ⟨rfl, rfl⟩; rw [HON.out])
      | (go_at_call 145; refine (atoi_any s _ _ (by omega) HAT.out).mono ?_; rintro e w' ⟨rfl, hg⟩; have HG2 := Lib.hid hg; clear hg)
      | (go_at_call 78; refine (itoa_any X _ (by omega) (by omega) (HPW.out.grown HG2.out)).mono ?_; rintro e w' ⟨rfl, hg⟩; rw [HIT.out]; have HG3 := Lib.hid hg; clear hg)
      | fail)
    go_ret2
    exact ⟨0, by rw [HZ.out]; try rfl, by omega, by omega, (fun h => by rw [HZ.out] at h; cases h), gr_refl _ _⟩
  · have e0 : d.data.toList.isEmpty = false := by rw [List.isEmpty_eq_false_iff]; exact h0
    have e1 : (d.toList == []) = false := by rw [ByteArray.toList_eq, beq_eq_false_iff_ne]; exact h0
    have e1b : d.toList.isEmpty = false := by rw [ByteArray.toList_eq]; exact e0
    by_cases h1 : d.size ≤ most
    · have e2 : decide ((most : Int) < (d.size : Int)) = false := decide_eq_false (by omega)
      have e2n : decide (most < d.size) = false := decide_eq_false (by omega)
      rw [e0, decide_eq_true h1] at hnum
      cases h2 : d.data.toList.all dgB
      · rw [h2] at hon hnum
        have HON := Lib.hid hon
        have HZ := Lib.hid (show numB s.data.toList most = false by rw [hnum]; rfl)
        clear hnum hmag hds e0 h0 h1 h2 hon
        go_enter Tryz.func94, Tryz.ntmps94
        go_wp2_with (first
          | (go_at_call 144; refine (trimMinus_any s d _ HD.out).mono ?_; rintro e w' ⟨rfl, rfl⟩)
          | (go_at_call 110; rw [HDG.out]; refine (onlyS_any d dg _ (by omega)).mono ?_; rintro e w' ⟨rfl, rfl⟩; rw [HON.out])
          | (go_at_call 145; refine (atoi_any s _ _ (by omega) HAT.out).mono ?_; rintro e w' ⟨rfl, hg⟩; have HG2 := Lib.hid hg; clear hg)
          | (go_at_call 78; refine (itoa_any X _ (by omega) (by omega) (HPW.out.grown HG2.out)).mono ?_; rintro e w' ⟨rfl, hg⟩; rw [HIT.out]; have HG3 := Lib.hid hg; clear hg)
          | fail)
        go_ret2
        exact ⟨0, by rw [HZ.out]; try rfl, by omega, by omega, (fun h => by rw [HZ.out] at h; cases h), gr_refl _ _⟩
      · rw [h2] at hon
        have HON := Lib.hid hon
        have hraw : rawB s.data.toList most = true := by
          unfold rawB
          rw [← hmag, e0, h2, hds, decide_eq_true h1]; rfl
        obtain ⟨hat, b1, b2, hln⟩ := num_bd hm hraw
        have hln2 : s.size ≤ 18 := hln
        have hback := itoa_back hraw
        obtain ⟨X, hX⟩ : ∃ X, numN s.data.toList = X := ⟨_, rfl⟩
        rw [hX] at hat b1 b2 hback
        have HAT := Lib.hid hat
        have HXX := Lib.hid hX
        have hn2 : numB s.data.toList most = canB s.data.toList := by unfold numB; rw [hraw]; rfl
        obtain ⟨it, hit⟩ : ∃ it : ByteArray, (⟨(Lib.itoa X).toArray⟩ : ByteArray) = it := ⟨_, rfl⟩
        have HIT := Lib.hid hit
        have heq : (it.toList == s.toList) = canB s.data.toList := by
          rw [← hit, ByteArray.toList_eq, ByteArray.toList_eq, Bool.eq_iff_iff, beq_iff_eq, ← hback]
        cases hc : canB s.data.toList
        all_goals
          rw [hc] at heq hn2
          have HZ := Lib.hid hn2
          clear hn2 hback hnum hmag hds e0 h0 h1 h2 hon hraw hat hit hc hX
          go_enter Tryz.func94, Tryz.ntmps94
          go_wp2_with (first
            | (go_at_call 144; refine (trimMinus_any s d _ HD.out).mono ?_; rintro e w' ⟨rfl, rfl⟩)
            | (go_at_call 110; rw [HDG.out]; refine (onlyS_any d dg _ (by omega)).mono ?_; rintro e w' ⟨rfl, rfl⟩; rw [HON.out])
            | (go_at_call 145; refine (atoi_any s _ _ (by omega) HAT.out).mono ?_; rintro e w' ⟨rfl, hg⟩; have HG2 := Lib.hid hg; clear hg)
            | (go_at_call 78; refine (itoa_any X _ (by omega) (by omega) (HPW.out.grown HG2.out)).mono ?_; rintro e w' ⟨rfl, hg⟩; rw [HIT.out]; have HG3 := Lib.hid hg; clear hg)
            | fail)
          go_ret2
          exact ⟨X, by rw [HZ.out]; try rfl, b1, b2, (fun _ => HXX.out.symm), gr_none HG2.out HG3.out⟩
    · have e2 : decide ((most : Int) < (d.size : Int)) = true := decide_eq_true (by omega)
      have e2n : decide (most < d.size) = true := decide_eq_true (by omega)
      have HZ := Lib.hid (show numB s.data.toList most = false by rw [hnum, decide_eq_false h1, Bool.and_false]; rfl)
      clear hnum h1 hmag hds e0 h0 hon
      go_enter Tryz.func94, Tryz.ntmps94
      go_wp2_with (first
        | (go_at_call 144; refine (trimMinus_any s d _ HD.out).mono ?_; rintro e w' ⟨rfl, rfl⟩)
        | (go_at_call 110; rw [HDG.out]; refine (onlyS_any d dg _ (by omega)).mono ?_; rintro e w' ⟨rfl, rfl⟩; rw [HON.out])
        | (go_at_call 145; refine (atoi_any s _ _ (by omega) HAT.out).mono ?_; rintro e w' ⟨rfl, hg⟩; have HG2 := Lib.hid hg; clear hg)
        | (go_at_call 78; refine (itoa_any X _ (by omega) (by omega) (HPW.out.grown HG2.out)).mono ?_; rintro e w' ⟨rfl, hg⟩; rw [HIT.out]; have HG3 := Lib.hid hg; clear hg)
        | fail)
      go_ret2
      exact ⟨0, by rw [HZ.out]; try rfl, by omega, by omega, (fun h => by rw [HZ.out] at h; cases h), gr_refl _ _⟩
end
end Go.Proofs.YtgogiljplnninaaGreatDoor
/- Contracts of strings.Split at a blank, of strings.Cut at a line's end, of Words both ways; lines in plain Lean. Conditions: bytealg.MaxLen holds some number. -/
namespace Go.Proofs.YtgogiljplnninaaGreatDoor
section
open Go.RowKit

/-- The variable that holds some number. -/
def MxT (w : World) : Prop := ∃ m : Int, w.cell? ⟨2, 0, none⟩ = some (.int .i64 m)
theorem MxT.low {w w' : World} {r : Option Nat} (h : MxT w) (hg : w.grownBy w' r) (hr : ∀ g, r = some g → g ≠ 2) : MxT w' := by
  obtain ⟨m, hm⟩ := h
  refine ⟨m, ?_⟩
  have hlt : 2 < w.heap.size := by
    unfold World.cell? at hm
    cases e : w.heap[2]? with
    | none => simp [e] at hm
    | some o => exact (Array.getElem?_eq_some_iff.1 e).1
  rw [World.cell?_of_block (show w'.heap[(⟨2, 0, none⟩ : Addr).block]? = w.heap[(⟨2, 0, none⟩ : Addr).block]? from hg.block 2 hlt (fun e => hr _ e.symm rfl))]
  exact hm
theorem MxT.grown {w w' : World} (h : MxT w) (hg : w.grownBy w' none) : MxT w' := h.low hg fun g e => by cases e
/-! Pieces between blanks. -/
def pieces (s : ByteArray) : List ByteArray := Lib.splitB ⟨#[32]⟩ 0 (Lib.countB s ⟨#[32]⟩) s
theorem splitB_size (sep : ByteArray) (k : Nat) : ∀ (s : ByteArray), ∀ x ∈ Lib.splitB sep 0 k s, x.size ≤ s.size := by
  induction k with
  | zero =>
    intro s x hx
    rw [Lib.splitB_zero] at hx
    rw [List.mem_singleton.1 hx]; exact Nat.le_refl _
  | succ k ih =>
    intro s x hx
    unfold Lib.splitB at hx
    split at hx
    · rw [List.mem_singleton.1 hx]; exact Nat.le_refl _
    · rcases List.mem_cons.1 hx with rfl | hx
      · rw [ByteArray.size_extract]; omega
      · have := ih _ x hx
        rw [ByteArray.size_extract] at this; omega
theorem pieces_size {s x : ByteArray} (h : x ∈ pieces s) : x.size ≤ s.size := splitB_size _ _ s x h
theorem pieces_len (s : ByteArray) : (pieces s).length = Lib.countB s ⟨#[32]⟩ + 1 := Lib.splitB_all ⟨#[32]⟩ (by decide) 0 _ s rfl
theorem flat_srow (l : List ByteArray) : l.flatMap srow = l.map Value.string := by
  induction l with
  | nil => rfl
  | cons a l ih => rw [List.flatMap_cons, List.map_cons, ih]; rfl
def Pieces (s : ByteArray) (w : World) (w' : World) : Prop := Recs srow 1 w' w.heap.size (some ⟨w.heap.size, 0, none⟩) (pieces s).length (pieces s).length (pieces s) ∧ w.grownBy w' none
theorem split_any (s : ByteArray) (w : World) (hs : s.size ≤ 1000000) (hm : MxT w) :
    Calls Tryz.prog 142 #[.string s, .string ⟨#[32]⟩] w (fun e w' => e = .returned (.slice (some ⟨w.heap.size, 0, none⟩) (pieces s).length (pieces s).length) ∧ Pieces s w w') := by
  obtain ⟨m, hm⟩ := hm
  refine (Tryz.strings_Split s ⟨#[32]⟩ m w (by omega) hm (by decide)).mono ?_
  rintro e w' ⟨rfl, rfl⟩
  refine ⟨by rw [pieces_len], ⟨?_, rfl⟩, gr_alloc (gr_refl _ _) _⟩
  rw [flat_srow]
  exact Reads.blk (Blk.new w _ _) 1 _ (by simp [pieces])
theorem pieces_ne (s : ByteArray) : 1 ≤ (pieces s).length := by rw [pieces_len]; omega
def okW (s : ByteArray) : Bool := (pieces s).all fun x => !x.toList.isEmpty
def WordsP (s : ByteArray) (w : World) (e : Ending) (w' : World) : Prop :=
  w.grownBy w' none ∧ ((okW s = true ∧ ∃ B : Addr, e = .returned (.tuple #[.slice (some B) (pieces s).length (pieces s).length, .bool true]) ∧ Recs srow 1 w' w.heap.size (some B) (pieces s).length (pieces s).length (pieces s)) ∨ (okW s = false ∧ e = .returned (.tuple #[.slice none 0 0, .bool false])))
def WordsD (s : ByteArray) (w : World) (e : Ending) (w' : World) : Prop :=
  w.grownBy w' none ∧ ∃ B : Addr, e = .returned (.tuple #[.slice (some B) (pieces s).length (pieces s).length, .bool (okW s)]) ∧ Recs srow 1 w' w.heap.size (some B) (pieces s).length (pieces s).length (pieces s)
theorem okW_none {s : ByteArray} (h : (pieces s).all (fun x => !(x.toList.isEmpty)) = true) : okW s = true := h
set_option maxHeartbeats 2000000 in
theorem pWords_any (s : ByteArray) (w : World) (hs : s.size ≤ 1000000) (hm : MxT w) : Calls Tryz.prog 140 #[.string s] w (WordsP s w) := by
  have HM := Lib.hid hm; clear hm
  have hcnt : (pieces s).length ≤ 1000001 := by
    rw [pieces_len]
    have := Lib.countB_le ⟨#[32]⟩ (by decide) s.size s (Nat.le_refl _)
    omega
  obtain ⟨L, hL⟩ : ∃ L, pieces s = L := ⟨_, rfl⟩
  have HL := Lib.hid hL
  rw [hL] at hcnt
  go_enter Tryz.func140, Tryz.ntmps140
  go_wp2_with fail
  refine (split_any s _ hs HM.out).mono ?_
  rintro e w1 ⟨rfl, hp⟩
  unfold Pieces at hp
  rw [hL] at hp ⊢
  obtain ⟨hrec, hg⟩ := hp
  have HR := Lib.hid hrec; have HG := Lib.hid hg
  obtain ⟨b, hb⟩ : ∃ b, w.heap.size = b := ⟨_, rfl⟩
  have HB := Lib.hid hb
  rw [hb] at HR ⊢
  obtain ⟨n, hn⟩ : ∃ n, L.length = n := ⟨_, rfl⟩
  have HN0 := Lib.hid hn
  rw [hn] at HR hcnt ⊢
  clear hL hrec hg hb hn
  go_wp2_with fail
  go_loopw [6, 11] (fun _ t wr => ∃ i : Nat, i ≤ n ∧ t = .int .i64 i ∧ wr = w1 ∧ (L.take i).all (fun x => !x.toList.isEmpty) = true) (fun _ t _ => n - (intOf t).toNat)
  case atStart => exact ⟨0, Nat.zero_le _, rfl, rfl, by simp⟩
  case round =>
    obtain ⟨i, hi, rfl, rfl, ha⟩ := hrel
    have HA := Lib.hid ha; clear ha
    by_cases hlt : i < n
    · obtain ⟨x, hx⟩ : ∃ x, L[i]? = some x := ⟨_, List.getElem?_eq_getElem (by rw [HN0.out]; exact hlt)⟩
      have hc := HR.out.at_ srow_len hx 0 _ rfl
      simp only [Nat.mul_one, Nat.add_zero, Nat.zero_add] at hc
      have HX := Lib.hid hx
      clear hx
      cases hz : x.toList.isEmpty
      · have e1 : (x.toList == []) = false := by rw [beq_eq_false_iff_ne]; exact List.isEmpty_eq_false_iff.1 hz
        go_wp2_with fail
        go_roundw
        case rel => exact ⟨i + 1, by omega, by go_num, by first | rfl | trivial, by rw [take_snoc' HX.out, List.all_append, HA.out]; simp [hz]⟩
        case measure => simp [intOf]; omega
      · have e1 : x.toList = [] := List.isEmpty_iff.1 hz
        have HN := Lib.hid (show okW s = false by
          unfold okW
          rw [HL.out]
          cases h : L.all (fun x => !x.toList.isEmpty) with
          | false => rfl
          | true =>
            have := List.all_eq_true.1 h x (mem_of_get HX.out)
            rw [hz] at this; cases this)
        clear hz
        go_wp2_with fail
        go_ret2
        exact ⟨HG.out, .inr ⟨HN.out, rfl⟩⟩
    · obtain rfl : i = n := by omega
      have HN := Lib.hid (show okW s = true by
        unfold okW
        rw [HL.out]
        have h := HA.out
        rwa [← HN0.out, List.take_length] at h)
      go_wp2_with fail
      go_ret2
      exact ⟨HG.out, .inl ⟨HN.out, ⟨b, 0, none⟩, by rw [HL.out, HN0.out]; try rfl, by rw [HL.out, HB.out, HN0.out]; exact HR.out⟩⟩
theorem contains_empty (l : List ByteArray) : (!(Lib.containsS l ⟨#[]⟩)) = l.all fun x => !x.toList.isEmpty := by
  rw [Bool.eq_iff_iff, Bool.not_eq_true', List.all_eq_true]
  have he : ∀ x : ByteArray, x.toList.isEmpty = true ↔ x = ⟨#[]⟩ := fun x => by
    rw [ByteArray.toList_eq, List.isEmpty_iff]
    constructor
    · intro h
      obtain ⟨⟨d⟩⟩ := x
      change d = [] at h
      rw [h]
    · rintro rfl; rfl
  constructor
  · intro h x hx
    rw [Bool.not_eq_true']
    cases e : x.toList.isEmpty with
    | false => rfl
    | true =>
      rw [he] at e
      subst e
      rw [(Lib.containsS_iff l _).2 hx] at h
      cases h
  · intro h
    cases e : Lib.containsS l ⟨#[]⟩ with
    | false => rfl
    | true =>
      have h1 := h _ ((Lib.containsS_iff l _).1 e)
      rw [ByteArray.toList_eq] at h1
      exact absurd h1 (by decide)
theorem getD_some' {l : List ByteArray} {j : Nat} {x : ByteArray} (h : l[j]? = some x) : l.getD j ByteArray.empty = x := by rw [List.getD_eq_getElem?_getD, h]; rfl
theorem containsE_any (B n : Nat) (L : List ByteArray) (lo : Nat) (w : World) (h : Recs srow 1 w lo (some ⟨B, 0, none⟩) n n L) (hb : n ≤ 1000000000) :
    Calls Tryz.prog 143 #[.slice (some ⟨B, 0, none⟩) n n, .string ⟨#[]⟩] w (Same (.bool (Lib.containsS L ⟨#[]⟩)) w) := by
  refine (Tryz.slices_Contains_string B 0 n n L ⟨#[]⟩ w (by rw [h.len]; exact Nat.le_refl _) (by omega) (fun j hj => ?_)).mono ?_
  · have hx : L[j]? = some L[j] := List.getElem?_eq_getElem hj
    have hc := h.at_ srow_len hx 0 _ rfl
    rw [getD_some' hx]
    simpa only [Nat.mul_one, Nat.add_zero, Nat.zero_add] using hc
  · rintro e w' ⟨rfl, rfl⟩
    exact ⟨by rw [← h.len, List.take_length], rfl⟩
set_option maxHeartbeats 2000000 in
theorem dWords_any (s : ByteArray) (w : World) (hs : s.size ≤ 1000000) (hm : MxT w) : Calls Tryz.prog 93 #[.string s] w (WordsD s w) := by
  have HM := Lib.hid hm; clear hm
  have hcnt : (pieces s).length ≤ 1000001 := by
    rw [pieces_len]
    have := Lib.countB_le ⟨#[32]⟩ (by decide) s.size s (Nat.le_refl _)
    omega
  obtain ⟨L, hL⟩ : ∃ L, pieces s = L := ⟨_, rfl⟩
  have HL := Lib.hid hL
  rw [hL] at hcnt
  have hv := contains_empty L
  have HV := Lib.hid (show okW s = !(Lib.containsS L ⟨#[]⟩) by unfold okW; rw [HL.out]; exact hv.symm)
  clear hv
  go_enter Tryz.func93, Tryz.ntmps93
  go_wp2_with fail
  refine (split_any s _ hs HM.out).mono ?_
  rintro e w1 ⟨rfl, hp⟩
  unfold Pieces at hp
  rw [hL] at hp ⊢
  obtain ⟨hrec, hg⟩ := hp
  have HR := Lib.hid hrec; have HG := Lib.hid hg
  obtain ⟨b, hb⟩ : ∃ b, w.heap.size = b := ⟨_, rfl⟩
  have HB := Lib.hid hb
  rw [hb] at HR ⊢
  obtain ⟨C, hC⟩ : ∃ C, Lib.containsS L ⟨#[]⟩ = C := ⟨_, rfl⟩
  have HC := Lib.hid hC
  clear hL hrec hg hb hC
  go_wp2_with (first
    | (go_at_call 143; refine (containsE_any b L.length L b _ HR.out (by omega)).mono ?_; rintro e w' ⟨rfl, rfl⟩; rw [HC.out])
    | fail)
  go_ret2
  exact ⟨HG.out, ⟨b, 0, none⟩, by rw [HV.out, HL.out, HC.out]; try rfl, by rw [HL.out, HB.out]; exact HR.out⟩
/-! Lines. -/
def cutL (l : List UInt8) : List UInt8 × List UInt8 × Bool := Lib.cut l [10]
def restN (t : List UInt8) : Nat → List UInt8
  | 0 => t
  | k + 1 => (cutL (restN t k)).2.1
def lineN (t : List UInt8) (k : Nat) : List UInt8 := (cutL (restN t k)).1
def endN (t : List UInt8) (k : Nat) : Bool := (cutL (restN t k)).2.2
/-- Where reading lines ends: at the end of the text, or at the first line that does not end or is not taken. -/
def LnRes (t : List UInt8) (ok : Nat → Bool) (i : Nat) (b : Bool) : Prop :=
  (∀ j, j < i → restN t j ≠ [] ∧ endN t j = true ∧ ok j = true) ∧ ((b = true ∧ restN t i = []) ∨ (b = false ∧ restN t i ≠ [] ∧ (endN t i = false ∨ ok i = false)))
theorem LnRes.same {t : List UInt8} {ok : Nat → Bool} {i i' : Nat} {b b' : Bool} (h : LnRes t ok i b) (h' : LnRes t ok i' b') : i = i' ∧ b = b' := by
  have key : ∀ {i i' : Nat} {b b' : Bool}, LnRes t ok i b → LnRes t ok i' b' → ¬ i < i' := by
    intro i i' b b' h h' hlt
    obtain ⟨q1, q2, q3⟩ := h'.1 i hlt
    rcases h.2 with ⟨_, e⟩ | ⟨_, _, e | e⟩
    · exact q1 e
    · rw [q2] at e; cases e
    · rw [q3] at e; cases e
  have e : i = i' := by
    have h1 := key h h'
    have h2 := key h' h
    omega
  subst e
  refine ⟨rfl, ?_⟩
  rcases h.2 with ⟨rfl, e⟩ | ⟨rfl, e, _⟩ <;> rcases h'.2 with ⟨rfl, e'⟩ | ⟨rfl, e', _⟩
  · rfl
  · exact absurd e e'
  · exact absurd e' e
  · rfl
theorem cutL_len (l : List UInt8) : (cutL l).1.length ≤ l.length ∧ (l ≠ [] → (cutL l).2.1.length < l.length ∨ (cutL l).2.2 = false) ∧ (cutL l).2.1.length ≤ l.length := by
  unfold cutL Lib.cut
  split
  · refine ⟨by rw [List.length_take]; omega, fun h => .inl ?_, by rw [List.length_drop]; omega⟩
    have := List.length_pos_iff.2 h
    show (List.drop _ l).length < l.length
    rw [List.length_drop]
    show l.length - (_ + 1) < l.length
    omega
  · exact ⟨Nat.le_refl _, fun _ => .inr rfl, Nat.zero_le _⟩
/-- What Cut gives at a line's end. -/
theorem cut_any (s : ByteArray) (w : World) (hs : s.size ≤ 1000000) (hm : MxT w) :
    Calls Tryz.prog 139 #[.string s, .string ⟨#[10]⟩] w (fun e w' => e = .returned (.tuple #[.string ⟨(cutL s.data.toList).1.toArray⟩, .string ⟨(cutL s.data.toList).2.1.toArray⟩, .bool (cutL s.data.toList).2.2]) ∧ ∃ n, w' = w.drewN n) := by
  obtain ⟨m, hm⟩ := hm
  exact Tryz.strings_Cut s ⟨#[10]⟩ m w (by omega) hm
end
end Go.Proofs.YtgogiljplnninaaGreatDoor
/- What texts that read and write lines share: numbers, words, joins. Conditions: strings of bounded length; the table of powers of ten where numbers are read or written. -/
namespace Go.Proofs.YtgogiljplnninaaGreatDoor
section
open Go.RowKit

def numsB (most : Nat) (l : List ByteArray) : Bool := l.all fun x => numB x.data.toList most
def numsL (l : List ByteArray) : List Int := l.map fun x => numN x.data.toList
def NumsP (most : Nat) (l : List ByteArray) (w : World) (e : Ending) (w' : World) : Prop :=
  w.grownBy w' none ∧ ((numsB most l = true ∧ ∃ B cB, e = .returned (.tuple #[.slice B l.length cB, .bool true]) ∧ OwnR nrow 1 w' w.heap.size 3 B l.length cB (numsL l)) ∨ (numsB most l = false ∧ e = .returned (.tuple #[.slice none 0 0, .bool false])))
theorem index_any (B n : Nat) (L : List ByteArray) (x : ByteArray) (lo : Nat) (w : World) (h : Recs srow 1 w lo (some ⟨B, 0, none⟩) n n L) (hb : n ≤ 1000000000) :
    Calls Tryz.prog 95 #[.slice (some ⟨B, 0, none⟩) n n, .string x] w (Same (.int .i64 (Lib.idxOfS L x)) w) := by
  refine (Tryz.slices_Index_string B 0 n n L x w (by rw [h.len]; exact Nat.le_refl _) (by omega) (fun j hj => ?_)).mono ?_
  · have hx : L[j]? = some L[j] := List.getElem?_eq_getElem hj
    have hc := h.at_ srow_len hx 0 _ rfl
    rw [getD_some' hx]
    simpa only [Nat.mul_one, Nat.add_zero, Nat.zero_add] using hc
  · rintro e w' ⟨rfl, rfl⟩
    exact ⟨by rw [← h.len, List.take_length], rfl⟩
def undS (x : ByteArray) : ByteArray := if x.toList = [45] then ⟨#[]⟩ else x
theorem undash_any (x : ByteArray) (w : World) : Calls Tryz.prog 96 #[.string x] w (Same (.string (undS x)) w) := by
  by_cases h : x.toList = [45]
  · have HV := Lib.hid (show undS x = ⟨#[]⟩ from if_pos h)
    go_enter Tryz.func96, Tryz.ntmps96
    go_wp2_with fail
    go_ret
    exact ⟨by rw [HV.out]; try rfl, rfl⟩
  · have HV := Lib.hid (show undS x = x from if_neg h)
    have e1 : (x.toList == [45]) = false := by rw [beq_eq_false_iff_ne]; exact h
    clear h
    go_enter Tryz.func96, Tryz.ntmps96
    go_wp2_with fail
    go_ret
    exact ⟨by rw [HV.out]; try rfl, rfl⟩
def pcAt (s : ByteArray) (i : Nat) : ByteArray := (pieces s).getD i ⟨#[]⟩
theorem pc_size {s : ByteArray} (i : Nat) : (pcAt s i).size ≤ s.size := by
  unfold pcAt
  rw [List.getD_eq_getElem?_getD]
  cases h : (pieces s)[i]? with
  | none => exact Nat.zero_le _
  | some x => exact pieces_size (mem_of_get h)
theorem pc_get {s : ByteArray} {i : Nat} (h : i < (pieces s).length) : (pieces s)[i]? = some (pcAt s i) := by
  unfold pcAt
  rw [List.getD_eq_getElem?_getD, List.getElem?_eq_getElem h]; rfl
theorem Recs.drop1 {w : World} {lo n c g o k : Nat} {L : List ByteArray} (h : Recs srow 1 w lo (some ⟨g, o, none⟩) n c L) (hk : k < n) : Recs srow 1 w lo (some ⟨g, o + k, none⟩) (n - k) (c - k) (L.drop k) := by
  obtain ⟨⟨h1, h2, h3⟩, h4⟩ := h
  obtain ⟨g', o', e, q1, q2, q3⟩ := h3 (by omega)
  injection e with e
  injection e with e1 e2
  subst e1; subst e2
  rw [flat_srow] at q3
  refine ⟨⟨?_, by omega, fun _ => ⟨g, o + k, rfl, q1, q2, fun j u hu => ?_⟩⟩, by rw [List.length_drop, h4]⟩
  · rw [flat_srow, List.length_map, List.length_drop, h4]; omega
  · rw [flat_srow, List.map_drop, List.getElem?_drop] at hu
    rw [Nat.add_assoc]
    exact q3 _ _ hu
theorem MxT.lt {w : World} (h : MxT w) : 2 < w.heap.size := by
  obtain ⟨m, hm⟩ := h
  unfold World.cell? at hm
  cases e : w.heap[2]? with
  | none => simp [e] at hm
  | some o => exact (Array.getElem?_eq_some_iff.1 e).1
theorem PwT.lt {w : World} (h : PwT w) : 3 < w.heap.size := by
  unfold PwT Lib.TabIs World.var? at h
  rw [show Tryz.prog.globalNamed "internal/strconv.uint64pow10" = some 3 by kernel_rfl] at h
  change (match w.heap[3]? with | some (.cells cs _ _) => some cs | _ => none) = _ at h
  cases e : w.heap[3]? with
  | none => rw [e] at h; cases h
  | some o => exact (Array.getElem?_eq_some_iff.1 e).1
theorem restN_len (t : List UInt8) (k : Nat) : (restN t k).length ≤ t.length := by
  induction k with
  | zero => exact Nat.le_refl _
  | succ k ih => exact Nat.le_trans (cutL_len _).2.2 ih
theorem LnRes.le {t : List UInt8} {ok : Nat → Bool} {i : Nat} {b : Bool} (h : LnRes t ok i b) : i ≤ t.length := by
  have key : ∀ j, j ≤ i → (restN t j).length + j ≤ t.length := by
    intro j
    induction j with
    | zero => intro _; exact Nat.le_refl _
    | succ j ih =>
      intro hj
      have h1 := ih (by omega)
      obtain ⟨q1, q2, _⟩ := h.1 j (by omega)
      rcases (cutL_len (restN t j)).2.1 q1 with h2 | h2
      · show (cutL (restN t j)).2.1.length + (j + 1) ≤ _
        omega
      · rw [show (cutL (restN t j)).2.2 = true from q2] at h2; cases h2
  have := key i (Nat.le_refl _)
  omega
theorem undS_size (x : ByteArray) : (undS x).size ≤ x.size := by
  unfold undS
  split
  · exact Nat.zero_le _
  · exact Nat.le_refl _
def dashS (x : ByteArray) : ByteArray := if x.toList = [] then ⟨#[45]⟩ else x
theorem dash_any (x : ByteArray) (w : World) : Calls Tryz.prog 87 #[.string x] w (Same (.string (dashS x)) w) := by
  by_cases h : x.toList = []
  · have HV := Lib.hid (show dashS x = ⟨#[45]⟩ from if_pos h)
    go_enter Tryz.func87, Tryz.ntmps87
    go_wp2_with fail
    go_ret
    exact ⟨by rw [HV.out]; try rfl, rfl⟩
  · have HV := Lib.hid (show dashS x = x from if_neg h)
    have e1 : (x.toList == []) = false := by rw [beq_eq_false_iff_ne]; exact h
    have e2 : x.toList.isEmpty = false := List.isEmpty_eq_false_iff.2 h
    clear h
    go_enter Tryz.func87, Tryz.ntmps87
    go_wp2_with fail
    go_ret
    exact ⟨by rw [HV.out]; try rfl, rfl⟩
def itS (n : Int) : ByteArray := ⟨(Lib.itoa n).toArray⟩
def jnS (xs : List ByteArray) : ByteArray := ⟨(Lib.join (xs.map (·.data.toList)) [32]).toArray⟩
theorem itS_size {n : Int} (h0 : -9000000000000000000 ≤ n) (h1 : n ≤ 9000000000000000000) : (itS n).size ≤ 21 := by
  show (Lib.itoa n).toArray.size ≤ 21
  rw [List.size_toArray]
  exact Lib.itoa_length_le n (by omega) (by omega)
theorem dashS_size (x : ByteArray) : (dashS x).size ≤ x.size + 1 := by
  unfold dashS
  split
  · show 1 ≤ _; omega
  · omega
theorem join_any (g : Nat) (xs : List ByteArray) (n : Nat) (lo : Nat) (w : World) (h : Recs srow 1 w lo (some ⟨g, 0, none⟩) n n xs) (hn : n ≤ 1000) (h0 : 0 < n) (hlen : (jnS xs).size ≤ 1000000000) :
    Calls Tryz.prog 81 #[.slice (some ⟨g, 0, none⟩) n n, .string ⟨#[32]⟩] w (RetV (.string (jnS xs)) w) := by
  obtain ⟨rfl⟩ : xs.length = n := h.len
  obtain ⟨g', o', a, e, _, hlt, _, _⟩ := h.get srow_len h0
  injection e with e
  injection e with e1 e2
  subst e1
  refine (Tryz.strings_Join g 0 xs.length xs ⟨#[32]⟩ w (fun j x hx => ?_) hlt (by omega) (Nat.le_refl _) ?_).mono ?_
  · have hc := h.at_ srow_len hx 0 _ rfl
    simpa only [Nat.mul_one, Nat.add_zero, Nat.zero_add] using hc
  · have : (Lib.join (xs.map (·.data.toList)) [32]).length = (jnS xs).size := by
      show _ = (List.toArray _).size
      rw [List.size_toArray]
    show (Lib.join (xs.map (·.data.toList)) [32]).length ≤ _
    omega
  · rintro e w' ⟨rfl, hb⟩
    exact ⟨rfl, gr_below hb none⟩
theorem data_app (a b : ByteArray) : (a ++ b).data.toList = a.data.toList ++ b.data.toList := by
  rw [ByteArray.data_append, Array.toList_append]
theorem appS2 (s t : ByteArray) : (s ++ t).size = s.size + t.size := by
  show (s ++ t).data.size = _
  rw [ByteArray.data_append, Array.size_append]; rfl
theorem itoaS_any (n : Int) (w : World) (h0 : -9000000000000000000 ≤ n) (h1 : n ≤ 9000000000000000000) (ht : PwT w) : Calls Tryz.prog 78 #[.int .i64 n] w (RetV (.string (itS n)) w) := itoa_any n w h0 h1 ht
def lnB (t : List UInt8) (k : Nat) : ByteArray := ⟨(lineN t k).toArray⟩
theorem lnB_eq {t : List UInt8} {k : Nat} {line : ByteArray} (h : line.data.toList = lineN t k) : line = lnB t k := by
  unfold lnB
  rw [← h]
theorem lnB_size (t : List UInt8) (k : Nat) : (lnB t k).size ≤ t.length := by
  show (lineN t k).toArray.size ≤ _
  rw [List.size_toArray]
  exact Nat.le_trans (cutL_len _).1 (restN_len t k)
theorem idxS_up (x : ByteArray) : ∀ (L : List ByteArray) (i : Nat), (Lib.idxFromS L x i = -1 ∧ Lib.idxFromS L x (i + 1) = -1) ∨ (0 ≤ Lib.idxFromS L x i ∧ Lib.idxFromS L x i < i + L.length ∧ Lib.idxFromS L x (i + 1) = Lib.idxFromS L x i + 1)
  | [], i => .inl ⟨rfl, rfl⟩
  | z :: zs, i => by
    unfold Lib.idxFromS
    by_cases h : z = x
    · rw [if_pos h, if_pos h]
      refine .inr ⟨by omega, by simp only [List.length_cons]; omega, by omega⟩
    · rw [if_neg h, if_neg h]
      rcases idxS_up x zs (i + 1) with h1 | h1
      · exact .inl h1
      · refine .inr ⟨h1.1, ?_, h1.2.2⟩
        simp only [List.length_cons]
        omega
/-- A word's number in a row, from 1 on; 0: it is none of them. -/
def wdN (W : List ByteArray) (x : ByteArray) : Int := Lib.idxOfS W x + 1
theorem wd_cases (W : List ByteArray) (x : ByteArray) : 0 ≤ wdN W x ∧ wdN W x ≤ W.length ∧ (x ≠ ⟨#[]⟩ → Lib.idxOfS (⟨#[]⟩ :: W) x = if wdN W x = 0 then -1 else wdN W x) := by
  unfold wdN
  have h := idxS_up x W 0
  have e : Lib.idxOfS W x = Lib.idxFromS W x 0 := rfl
  rcases h with ⟨h1, h2⟩ | ⟨h1, h2, h3⟩
  · refine ⟨by omega, by omega, fun hne => ?_⟩
    show (if (⟨#[]⟩ : ByteArray) = x then _ else Lib.idxFromS W x (0 + 1)) = _
    rw [if_neg (fun e => hne e.symm), if_pos (by omega), h2]
  · refine ⟨by omega, by omega, fun hne => ?_⟩
    show (if (⟨#[]⟩ : ByteArray) = x then _ else Lib.idxFromS W x (0 + 1)) = _
    rw [if_neg (fun e => hne e.symm), if_neg (by omega), h3, e]
end
end Go.Proofs.YtgogiljplnninaaGreatDoor
/- Joins of few strings; the document's numbers. Conditions: the table of powers of ten where numbers are written. -/
namespace Go.Proofs.YtgogiljplnninaaGreatDoor
section
open Go.RowKit

theorem jn_len (x : ByteArray) (r : List ByteArray) : (jnS (x :: r)).size = x.size + (r.map fun y => y.size + 1).sum := by
  show (Lib.join _ _).toArray.size = _
  rw [List.size_toArray, List.map_cons, Lib.join_cons, List.length_append]
  congr 1
  unfold Lib.joinTail
  rw [List.length_flatten, List.map_map, List.map_map]
  refine congrArg List.sum (List.map_congr_left fun y _ => ?_)
  show ([32] ++ y.data.toList).length = _
  rw [List.length_append]
  show 1 + y.size = _
  omega
/-- Three numbers, joined. -/
theorem joinC_any (g : Nat) (xs : List ByteArray) (n c : Nat) (lo : Nat) (w : World) (h : Recs srow 1 w lo (some ⟨g, 0, none⟩) n c xs) (hn : n ≤ 1000) (h0 : 0 < n) (hlen : (jnS xs).size ≤ 1000000000) :
    Calls Tryz.prog 81 #[.slice (some ⟨g, 0, none⟩) n c, .string ⟨#[32]⟩] w (RetV (.string (jnS xs)) w) := by
  obtain ⟨rfl⟩ : xs.length = n := h.len
  obtain ⟨g', o', a, e, _, hlt, _, _⟩ := h.get srow_len h0
  injection e with e
  injection e with e1 e2
  subst e1
  refine (Tryz.strings_Join g 0 c xs ⟨#[32]⟩ w (fun j x hx => ?_) hlt (by omega) h.cap ?_).mono ?_
  · have hc := h.at_ srow_len hx 0 _ rfl
    simpa only [Nat.mul_one, Nat.add_zero, Nat.zero_add] using hc
  · have : (Lib.join (xs.map (·.data.toList)) [32]).length = (jnS xs).size := by
      show _ = (List.toArray _).size
      rw [List.size_toArray]
    show (Lib.join (xs.map (·.data.toList)) [32]).length ≤ _
    omega
  · rintro e w' ⟨rfl, hb⟩
    exact ⟨rfl, gr_below hb none⟩
theorem Tryz.stT : ElemT Tryz.prog 35 9 1 16 (.string ⟨#[]⟩) := elemT_of Tryz.underlying35 (by kernel_rfl) rfl (by decide)
theorem srow_one (x : ByteArray) : ∀ u ∈ srow x, u.oneCell' = true := fun u hu => by
  rw [List.mem_singleton.1 hu]; rfl
set_option maxHeartbeats 4000000 in
theorem numbers_any (lo : Nat) (A : Option Addr) (n c : Nat) (l : List Int) (w : World) (h : Recs nrow 1 w lo A n c l) (hn : n ≤ 20) (h0 : 0 < n) (hb : ∀ x ∈ l, -1000000000000000 ≤ x ∧ x ≤ 1000000000000000) (hp : PwT w) (hsz : (jnS (l.map itS)).size ≤ 1000000) :
    Calls Tryz.prog 85 #[.slice A n c] w (RetV (.string (jnS (l.map itS))) w) := by
  have H := Lib.hid h; have HBN := Lib.hid hb; have HPW := Lib.hid hp
  have HLN := Lib.hid h.len
  clear h hb hp
  go_enter Tryz.func85, Tryz.ntmps85
  go_wp2_with fail
  go_loopw [3, 5, 8] (fun v _ t wr => ∃ (k : Nat) (B : Option Addr) (cB : Nat), k ≤ n ∧ t = .int .i64 k ∧ v = .slice B k cB ∧ w.grownBy wr none ∧ OwnR srow 1 wr w.heap.size 9 B k cB ((l.take k).map itS)) (fun _ _ t _ => n - (intOf t).toNat)
  case atStart => exact ⟨0, none, 0, Nat.zero_le _, rfl, rfl, gr_refl _ _, OwnR.nil _ _ _⟩
  case round =>
    obtain ⟨k, B, cB, hk, rfl, rfl, hg, hown⟩ := hrel
    have HG := Lib.hid hg; have HO := Lib.hid hown
    have zr := hg.size
    clear hg hown
    by_cases hlt : k < n
    · obtain ⟨g, o, x, rfl, _, _, hx, hc⟩ := (H.out.grown HG.out (fun g e => by cases e)).get nrow_len hlt
      have hc0 := hc 0 _ rfl
      simp only [Nat.mul_one, Nat.add_zero] at hc0
      obtain ⟨b1, b2⟩ := HBN.out x (mem_of_get hx)
      have HX := Lib.hid (show (l.take (k + 1)).map itS = (l.take k).map itS ++ [itS x] by rw [take_snoc' hx, List.map_append]; rfl)
      obtain ⟨I, hI⟩ : ∃ I, itS x = I := ⟨_, rfl⟩
      have HI := Lib.hid hI
      rw [hI] at HX
      clear hx hc hI
      go_wp2_with fail
      refine (itoaS_any x _ (by omega) (by omega) (HPW.out.grown HG.out)).mono ?_
      rintro e w2 ⟨rfl, hg2⟩
      rw [HI.out]
      replace HG := Lib.hid (gr_none HG.out hg2)
      replace HO := Lib.hid (HO.out.kept hg2 (fun g e => by cases e))
      have z2 := hg2.size
      clear hg2 hc0
      go_wp2_with (first
        | (at_builtin
           refine wpl_app _ rfl _ _ Tryz.stT rfl w.heap.size B k cB _ rfl (by exact HO.out.1.alloc _) _ _ 1 1 [.string I] rfl (by exact Reads.one _ _ _ _ rfl) (by simp [Value.oneCell']) (by unfold maxLen; omega) (by omega) (by simp; omega) ?_
           intro A5 c5 w5 h5
           have H5 := Lib.hid h5; clear h5)
        | fail)
      go_roundw
      case rel => exact ⟨k + 1, A5, c5, by omega, by go_num, rfl, H5.out.gr (gr_alloc HG.out _) (HO.out.1.alloc _) (Nat.le_refl _), by rw [HX.out]; exact (HO.out.alloc _).app rfl H5.out⟩
      case measure => simp [intOf]; omega
    · obtain rfl : k = n := by omega
      obtain ⟨g, rfl, _, _⟩ := HO.out.1.pos h0
      have hfin : (l.take k).map itS = l.map itS := by rw [List.take_of_length_le (by rw [HLN.out]; exact Nat.le_refl _)]
      have HR := Lib.hid (show Recs srow 1 wr w.heap.size (some ⟨g, 0, none⟩) k cB (l.map itS) by rw [← hfin]; exact HO.out.recs)
      clear hfin
      go_wp2_with fail
      refine (joinC_any g (l.map itS) k cB _ _ HR.out (by omega) h0 (by omega)).mono ?_
      rintro e w2 ⟨rfl, hg2⟩
      have HG2 := Lib.hid (gr_none HG.out hg2)
      clear hg2
      go_wp2_with fail
      go_ret
      exact ⟨rfl, HG2.out⟩
end
end Go.Proofs.YtgogiljplnninaaGreatDoor

/- Contracts of Numbers, of the words of how callers ended, of undash, and of readSeat. Conditions: strings of bounded length. -/
import Derived.Test.YtnmodobkennklaaGreatDoorTx3
import Derived.Test.YtnmodobkennklaaGreatDoorBun2
import Derived.Test.YtnmodobkennklaaGreatDoorRo3
import Derived.Test.YtnmodobkennklaaGreatDoorBun1
import Derived.Test.YtnmodobkennklaaGreatDoorRo7
namespace Go.Proofs.YtnmodobkennklaaGreatDoor
section
open Go.RowKit

def numsB (most : Nat) (l : List ByteArray) : Bool := l.all fun x => numB x.data.toList most
def numsL (l : List ByteArray) : List Int := l.map fun x => numN x.data.toList
def NumsP (most : Nat) (l : List ByteArray) (w : World) (e : Ending) (w' : World) : Prop :=
  w.grownBy w' none ∧ ((numsB most l = true ∧ ∃ B cB, e = .returned (.tuple #[.slice B l.length cB, .bool true]) ∧ OwnR nrow 1 w' w.heap.size 3 B l.length cB (numsL l)) ∨ (numsB most l = false ∧ e = .returned (.tuple #[.slice none 0 0, .bool false])))
set_option maxHeartbeats 4000000 in
theorem pNumbers_any (most : Nat) (lo : Nat) (A : Option Addr) (n c : Nat) (l : List ByteArray) (w : World) (h : Recs srow 1 w lo A n c l) (hsz : ∀ x ∈ l, x.size ≤ 1000000) (hm : most ≤ 17) (hn : n ≤ 1000000) :
    Calls Tryz.prog 122 #[.slice A n c, .int .i64 most] w (NumsP most l w) := by
  have H := Lib.hid h; have HSZ := Lib.hid hsz
  have hls := h.len
  clear h hsz
  have HLS := Lib.hid hls
  go_enter Tryz.func122, Tryz.ntmps122
  go_wp2_with fail
  go_loopw [6, 8, 9, 10, 13] (fun v _ _ _ t wr => ∃ (i : Nat) (B : Option Addr) (cB : Nat), i ≤ n ∧ t = .int .i64 i ∧ v = .slice B i cB ∧ w.grownBy wr none ∧ OwnR nrow 1 wr w.heap.size 3 B i cB (numsL (l.take i)) ∧ numsB most (l.take i) = true) (fun _ _ _ _ t _ => n - (intOf t).toNat)
  case atStart => exact ⟨0, none, 0, Nat.zero_le _, rfl, rfl, gr_refl _ _, OwnR.nil _ _ _, rfl⟩
  case round =>
    obtain ⟨i, B, cB, hi, rfl, rfl, hg, hown, hall⟩ := hrel
    have HG := Lib.hid hg; have HO := Lib.hid hown; have HA := Lib.hid hall
    have zr := hg.size
    clear hg hown hall hls
    by_cases hlt : i < n
    · obtain ⟨g, o, x, rfl, _, _, hx, hc⟩ := (H.out.grown HG.out (fun g e => by cases e)).get srow_len hlt
      have hc0 := hc 0 _ rfl
      simp only [Nat.mul_one, Nat.add_zero] at hc0
      have HX := Lib.hid hx
      have hxs := HSZ.out x (mem_of_get hx)
      clear hx hc
      obtain ⟨NB, hNB⟩ : ∃ b, numB x.data.toList most = b := ⟨_, rfl⟩
      obtain ⟨V, hV⟩ : ∃ b, numV x.data.toList most = b := ⟨_, rfl⟩
      have HNB := Lib.hid hNB; have HV := Lib.hid hV
      clear hNB hV
      go_wp2_with fail
      refine (pNumber_any x most _ hxs hm).mono ?_
      rintro e w2 ⟨rfl, hg2⟩
      rw [HNB.out, HV.out]
      replace HG := Lib.hid (gr_none HG.out hg2)
      replace HO := Lib.hid (HO.out.kept hg2 (fun g e => by cases e))
      clear hg2 hc0
      have zr2 := HG.out.size
      cases NB
      · have HF := Lib.hid (show numsB most l = false by
          unfold numsB
          cases h : l.all (fun x => numB x.data.toList most) with
          | false => rfl
          | true =>
            have := List.all_eq_true.1 h x (mem_of_get HX.out)
            rw [HNB.out] at this; cases this)
        go_wp2_with fail
        go_ret2
        exact ⟨HG.out, .inr ⟨HF.out, rfl⟩⟩
      · have HVV := Lib.hid (show V = numN x.data.toList by rw [← HV.out]; unfold numV; rw [HNB.out]; rfl)
        go_wp2_with (first
          | (at_builtin
             refine wpl_app _ rfl _ _ Tryz.inT rfl w.heap.size B i cB _ rfl (by exact HO.out.1.alloc _) _ _ 1 1 [.int .i64 V] rfl (by exact Reads.one _ _ _ _ rfl) (by simp [Value.oneCell']) (by unfold maxLen; omega) (by omega) (by simp; omega) ?_
             intro A9 c9 w9 h9
             have H9 := Lib.hid h9; clear h9)
          | fail)
        go_roundw
        case rel =>
          refine ⟨i + 1, A9, c9, by omega, by go_num, rfl, H9.out.gr (gr_alloc HG.out _) (HO.out.1.alloc _) (Nat.le_refl _), ?_, ?_⟩
          · have h1 := (HO.out.alloc _).app rfl H9.out (a := V)
            have e1 : numsL (l.take (i + 1)) = numsL (l.take i) ++ [V] := by
              rw [take_snoc' HX.out]; unfold numsL; rw [List.map_append, HVV.out]; rfl
            rw [e1]; exact h1
          · rw [take_snoc' HX.out]
            unfold numsB
            rw [List.all_append, show (l.take i).all (fun x => numB x.data.toList most) = true from HA.out]
            simp [HNB.out]
        case measure => simp [intOf]; omega
    · obtain rfl : i = n := by omega
      have e1 : l.take i = l := List.take_of_length_le (by rw [HLS.out]; exact Nat.le_refl _)
      have HT := Lib.hid (show numsB most l = true by have h := HA.out; rwa [e1] at h)
      rw [e1] at HO
      clear HA e1
      go_wp2_with fail
      go_ret2
      exact ⟨HG.out, .inl ⟨HT.out, B, cB, by rw [HLS.out]; try rfl, by rw [HLS.out]; exact HO.out⟩⟩
/-! The words. -/
def W4 : List ByteArray := [(⟨#[97, 110, 115, 119, 101, 114, 101, 100]⟩ : ByteArray), (⟨#[103, 111, 110, 101]⟩ : ByteArray), (⟨#[98, 97, 99, 107]⟩ : ByteArray), (⟨#[117, 110, 115, 101, 114, 118, 101, 100]⟩ : ByteArray)]
def W5 : List ByteArray := [(⟨#[]⟩ : ByteArray), (⟨#[97, 110, 115, 119, 101, 114, 101, 100]⟩ : ByteArray), (⟨#[103, 111, 110, 101]⟩ : ByteArray), (⟨#[98, 97, 99, 107]⟩ : ByteArray), (⟨#[117, 110, 115, 101, 114, 118, 101, 100]⟩ : ByteArray)]
theorem pWordsOf_any (w : World) : Calls Tryz.prog 59 #[] w (fun e w' => e = .returned (.slice (some ⟨w.heap.size, 0, none⟩) 4 4) ∧ Recs srow 1 w' w.heap.size (some ⟨w.heap.size, 0, none⟩) 4 4 W4 ∧ w.grownBy w' none) := by
  have HR := Lib.hid (show Recs srow 1 (w.alloc (.cells (W4.flatMap srow).toArray 9)) w.heap.size (some ⟨w.heap.size, 0, none⟩) 4 4 W4 from ⟨Reads.blk (Blk.new w _ _) 1 4 rfl, rfl⟩)
  go_enter Tryz.func59, Tryz.ntmps59
  go_wp2_with fail
  go_ret
  exact ⟨rfl, HR.out, gr_alloc (gr_refl _ _) _⟩
theorem dWordsOf_any (w : World) : Calls Tryz.prog 64 #[] w (fun e w' => e = .returned (.slice (some ⟨w.heap.size, 0, none⟩) 5 5) ∧ Recs srow 1 w' w.heap.size (some ⟨w.heap.size, 0, none⟩) 5 5 W5 ∧ w.grownBy w' none) := by
  have HR := Lib.hid (show Recs srow 1 (w.alloc (.cells (W5.flatMap srow).toArray 9)) w.heap.size (some ⟨w.heap.size, 0, none⟩) 5 5 W5 from ⟨Reads.blk (Blk.new w _ _) 1 5 rfl, rfl⟩)
  go_enter Tryz.func64, Tryz.ntmps64
  go_wp2_with fail
  go_ret
  exact ⟨rfl, HR.out, gr_alloc (gr_refl _ _) _⟩
theorem index_any (B n : Nat) (L : List ByteArray) (x : ByteArray) (lo : Nat) (w : World) (h : Recs srow 1 w lo (some ⟨B, 0, none⟩) n n L) (hb : n ≤ 1000000000) :
    Calls Tryz.prog 72 #[.slice (some ⟨B, 0, none⟩) n n, .string x] w (Same (.int .i64 (Lib.idxOfS L x)) w) := by
  refine (Tryz.slices_Index_string B 0 n n L x w (by rw [h.len]; exact Nat.le_refl _) (by omega) (fun j hj => ?_)).mono ?_
  · have hx : L[j]? = some L[j] := List.getElem?_eq_getElem hj
    have hc := h.at_ srow_len hx 0 _ rfl
    rw [getD_some' hx]
    simpa only [Nat.mul_one, Nat.add_zero, Nat.zero_add] using hc
  · rintro e w' ⟨rfl, rfl⟩
    exact ⟨by rw [← h.len, List.take_length], rfl⟩
def hwN (x : ByteArray) : Int := Lib.idxOfS W4 x + 1
theorem hw_cases (x : ByteArray) : 0 ≤ hwN x ∧ hwN x ≤ 4 ∧ (x ≠ ⟨#[]⟩ → Lib.idxOfS W5 x = if hwN x = 0 then -1 else hwN x) := by
  unfold hwN W4 W5 Lib.idxOfS Lib.idxFromS Lib.idxFromS Lib.idxFromS Lib.idxFromS Lib.idxFromS Lib.idxFromS
  by_cases h1 : ((⟨#[97, 110, 115, 119, 101, 114, 101, 100]⟩ : ByteArray)) = x
  · rw [if_pos h1]
    refine ⟨by decide, by decide, fun hne => ?_⟩
    rw [if_neg (fun e => hne e.symm), if_pos h1]; rfl
  · rw [if_neg h1]
    by_cases h2 : ((⟨#[103, 111, 110, 101]⟩ : ByteArray)) = x
    · rw [if_pos h2]
      refine ⟨by decide, by decide, fun hne => ?_⟩
      rw [if_neg (fun e => hne e.symm), if_neg h1, if_pos h2]; rfl
    · rw [if_neg h2]
      by_cases h3 : ((⟨#[98, 97, 99, 107]⟩ : ByteArray)) = x
      · rw [if_pos h3]
        refine ⟨by decide, by decide, fun hne => ?_⟩
        rw [if_neg (fun e => hne e.symm), if_neg h1, if_neg h2, if_pos h3]; rfl
      · rw [if_neg h3]
        by_cases h4 : ((⟨#[117, 110, 115, 101, 114, 118, 101, 100]⟩ : ByteArray)) = x
        · rw [if_pos h4]
          refine ⟨by decide, by decide, fun hne => ?_⟩
          rw [if_neg (fun e => hne e.symm), if_neg h1, if_neg h2, if_neg h3, if_pos h4]; rfl
        · rw [if_neg h4]
          refine ⟨by decide, by decide, fun hne => ?_⟩
          rw [if_neg (fun e => hne e.symm), if_neg h1, if_neg h2, if_neg h3, if_neg h4]; rfl
def undS (x : ByteArray) : ByteArray := if x.toList = [45] then ⟨#[]⟩ else x
theorem undash_any (x : ByteArray) (w : World) : Calls Tryz.prog 74 #[.string x] w (Same (.string (undS x)) w) := by
  by_cases h : x.toList = [45]
  · have HV := Lib.hid (show undS x = ⟨#[]⟩ from if_pos h)
    go_enter Tryz.func74, Tryz.ntmps74
    go_wp2_with fail
    go_ret
    exact ⟨by rw [HV.out]; try rfl, rfl⟩
  · have HV := Lib.hid (show undS x = x from if_neg h)
    have e1 : (x.toList == [45]) = false := by rw [beq_eq_false_iff_ne]; exact h
    clear h
    go_enter Tryz.func74, Tryz.ntmps74
    go_wp2_with fail
    go_ret
    exact ⟨by rw [HV.out]; try rfl, rfl⟩
/-! The line of a seat. -/
def pcAt (s : ByteArray) (i : Nat) : ByteArray := (pieces s).getD i ⟨#[]⟩
def rdN (s : ByteArray) : Bool := numB (pcAt s 3).data.toList 15 && numB (pcAt s 4).data.toList 15
def rdB (s : ByteArray) : Bool := okW s && (decide ((pieces s).length = 5) && (rdN s && decide (hwN (pcAt s 1) ≠ 0)))
def rdV (s : ByteArray) : SeV := ⟨pcAt s 0, undS (pcAt s 2), hwN (pcAt s 1), numN (pcAt s 3).data.toList, numN (pcAt s 4).data.toList⟩
def zSe : SeV := ⟨⟨#[]⟩, ⟨#[]⟩, 0, 0, 0⟩
def rdR (s : ByteArray) : SeV := if rdB s then rdV s else zSe
theorem pc_size {s : ByteArray} (i : Nat) : (pcAt s i).size ≤ s.size := by
  unfold pcAt
  rw [List.getD_eq_getElem?_getD]
  cases h : (pieces s)[i]? with
  | none => exact Nat.zero_le _
  | some x => exact pieces_size (mem_of_get h)
theorem pc_get {s : ByteArray} {i : Nat} (h : i < (pieces s).length) : (pieces s)[i]? = some (pcAt s i) := by
  unfold pcAt
  rw [List.getD_eq_getElem?_getD, List.getElem?_eq_getElem h]; rfl
end
end Go.Proofs.YtnmodobkennklaaGreatDoor
/- Contract of readSeat. Conditions: a line of bounded length; bytealg.MaxLen holds some number. -/
namespace Go.Proofs.YtnmodobkennklaaGreatDoor
section
open Go.RowKit

theorem Recs.drop1 {w : World} {lo n c g o k : Nat} {L : List ByteArray} (h : Recs srow 1 w lo (some ⟨g, o, none⟩) n c L) (hk : k < n) : Recs srow 1 w lo (some ⟨g, o + k, none⟩) (n - k) (c - k) (L.drop k) := by
  obtain ⟨⟨h1, h2, h3⟩, h4⟩ := h
  obtain ⟨g', o', e, q1, q2, q3⟩ := h3 (by omega)
  injection e with e
  injection e with e1 e2
  subst e1; subst e2
  rw [flat_srow] at q3
  refine ⟨⟨?_, by omega, fun _ => ⟨g, o + k, rfl, q1, q2, fun j u hu => ?_⟩⟩, by rw [List.length_drop, h4]⟩
  · rw [flat_srow, List.length_map, List.length_drop, h4]; omega
  · rw [flat_srow, List.map_drop, List.getElem?_drop] at hu
    rw [Nat.add_assoc]
    exact q3 _ _ hu
theorem five {L : List ByteArray} (h : L.length = 5) : ∃ a b c d e, L = [a, b, c, d, e] := by
  match L, h with
  | [a, b, c, d, e], _ => exact ⟨a, b, c, d, e, rfl⟩
set_option maxHeartbeats 8000000 in
set_option maxRecDepth 100000 in
theorem readSeat_any (s : ByteArray) (w : World) (hs : s.size ≤ 1000000) (hm : MxT w) :
    Calls Tryz.prog 68 #[.string s] w (RetV (.tuple #[.agg #[.string (rdR s).ca, .string (rdR s).ag, .int .i64 (rdR s).how, .int .i64 (rdR s).beg, .int .i64 (rdR s).fin], .bool (rdB s)]) w) := by
  obtain ⟨w0, hw0⟩ : ∃ v, w.alloc (.cells #[.string ⟨#[]⟩, .string ⟨#[]⟩, .int .i64 0, .int .i64 0, .int .i64 0] 58) = v := ⟨_, rfl⟩
  obtain ⟨rb, hrb⟩ : ∃ b, w.heap.size = b := ⟨_, rfl⟩
  have HR0 := Lib.hid (show Blk w0 rb 58 #[.string ⟨#[]⟩, .string ⟨#[]⟩, .int .i64 0, .int .i64 0, .int .i64 0] by rw [← hw0, ← hrb]; exact Blk.new _ _ _)
  have HG := Lib.hid (show w.grownBy w0 none by rw [← hw0]; exact gr_alloc (gr_refl _ _) _)
  have HRB := Lib.hid (show w.heap.size ≤ rb by rw [hrb]; exact Nat.le_refl _)
  have HW0 := Lib.hid hw0; have HZ0 := Lib.hid hrb
  have HM := Lib.hid hm
  clear hw0 hrb hm
  go_enter Tryz.func68, Tryz.ntmps68
  go_upto_region 1 with (fail)
  rw [HW0.out]
  (try rw [HZ0.out])
  clear HW0 HZ0
  go_wp2_with fail
  refine (pWords_any s _ hs (HM.out.grown HG.out)).mono ?_
  rintro e w1 ⟨hg1, hcase⟩
  replace HG := Lib.hid (gr_none HG.out hg1)
  replace HR0 := Lib.hid (HR0.out.grown hg1 (by simp))
  (try replace HRX := Lib.hid (HRX.out.grown hg1 (fun g e => by cases e)))
  (try replace HNO := Lib.hid (HNO.out.grown hg1 (fun g e => by cases e)))
  (try replace HSB := Lib.hid (HSB.out.grown hg1 (by simp)))
  obtain ⟨L, hL⟩ : ∃ L, pieces s = L := ⟨_, rfl⟩
  obtain ⟨lo, hlo⟩ : ∃ b, w0.heap.size = b := ⟨_, rfl⟩
  rw [hL, hlo] at hcase
  have HL := Lib.hid hL
  clear hg1 hL hlo
  rcases hcase with ⟨hok, B, rfl, hrec⟩ | ⟨hno, rfl⟩
  · have HOK := Lib.hid hok
    clear hok
    by_cases h5 : L.length = 5
    · obtain ⟨x0, x1, x2, x3, x4, rfl⟩ := five h5
      change Recs srow 1 w1 lo (some B) 5 5 [x0, x1, x2, x3, x4] at hrec
      obtain ⟨bg, bo, _, hB, _, hbg, _⟩ := hrec.get srow_len (show 0 < 5 by omega)
      injection hB with hB
      subst hB
      have HRX := Lib.hid hrec
      have p0 : pcAt s 0 = x0 := by unfold pcAt; rw [HL.out]; rfl
      have p1 : pcAt s 1 = x1 := by unfold pcAt; rw [HL.out]; rfl
      have p2 : pcAt s 2 = x2 := by unfold pcAt; rw [HL.out]; rfl
      have p3 : pcAt s 3 = x3 := by unfold pcAt; rw [HL.out]; rfl
      have p4 : pcAt s 4 = x4 := by unfold pcAt; rw [HL.out]; rfl
      have hsz : ∀ x ∈ [x3, x4], x.size ≤ 1000000 := fun x hx => by
        have : x ∈ pieces s := by rw [HL.out]; simp at hx ⊢; rcases hx with rfl | rfl <;> simp
        have := pieces_size this
        omega
      have HB0 := Lib.hid (show rdB s = (rdN s && decide (hwN x1 ≠ 0)) by unfold rdB; rw [HOK.out, HL.out, p1]; rfl)
      have HN0 := Lib.hid (show rdN s = numsB 15 [x3, x4] by unfold rdN numsB; rw [p3, p4]; simp)
      have HVV := Lib.hid (show rdV s = ⟨x0, undS x2, hwN x1, numN x3.data.toList, numN x4.data.toList⟩ by unfold rdV; rw [p0, p1, p2, p3, p4])
      have hdr := Recs.drop1 (k := 3) hrec (by omega)
      have HDR := Lib.hid (show Recs srow 1 w1 lo (some ⟨bg, bo + 3, none⟩) 2 2 [x3, x4] from hdr)
      clear hrec hbg p0 p1 p2 p3 p4 hdr h5
      go_wp2_with fail
      refine (pNumbers_any 15 lo (some ⟨bg, bo + 3, none⟩) 2 2 [x3, x4] _ HDR.out hsz (by omega) (by omega)).mono ?_
      rintro e w2 ⟨hg2, hcase⟩
      replace HG := Lib.hid (gr_none HG.out hg2)
      replace HR0 := Lib.hid (HR0.out.grown hg2 (by simp))
      (try replace HRX := Lib.hid (HRX.out.grown hg2 (fun g e => by cases e)))
      (try replace HNO := Lib.hid (HNO.out.grown hg2 (fun g e => by cases e)))
      (try replace HSB := Lib.hid (HSB.out.grown hg2 (by simp)))
      clear hg2 HDR hsz
      obtain ⟨lo2, hlo2⟩ : ∃ b, w1.heap.size = b := ⟨_, rfl⟩
      rw [hlo2] at hcase
      clear hlo2
      obtain ⟨NS, cB, NB, hNB, he, hno⟩ : ∃ (NS : Option Addr) (cB : Nat) (NB : Bool), numsB 15 [x3, x4] = NB ∧ e = .returned (.tuple #[.slice NS (if NB then 2 else 0) cB, .bool NB]) ∧ (NB = true → OwnR nrow 1 w2 lo2 3 NS 2 cB [numN x3.data.toList, numN x4.data.toList]) := by
        rcases hcase with ⟨h1, NS, cB, h2, h3⟩ | ⟨h1, h2⟩
        · exact ⟨NS, cB, true, h1, h2, fun _ => h3⟩
        · exact ⟨none, 0, false, h1, h2, fun h => by cases h⟩
      subst he
      have HNB := Lib.hid hNB; have HNO0 := Lib.hid hno
      obtain ⟨J, hJ⟩ : ∃ J, Lib.idxOfS W4 x1 = J := ⟨_, rfl⟩
      obtain ⟨H, hH⟩ : ∃ H, hwN x1 = H := ⟨_, rfl⟩
      have hjb := (hw_cases x1).2.1
      have hjb0 := (hw_cases x1).1
      have hJH : J + 1 = H := by rw [← hJ, ← hH]; rfl
      rw [hH] at hjb hjb0
      have HJ := Lib.hid hJ; have HH := Lib.hid hH
      have qj : IntKind.i64.wrap (J + 1) = H := by rw [IntWalk.i64_in _ (by omega)]; exact hJH
      clear hcase hNB hno hJ hH hJH
      go_upto_region 5 with (fail)
      refine H_begin (fun w' => w2.grownBy w' none) (by kernel_rfl) ?_
      have hHeld : w2.grownBy w2.drew none := gr_drew (gr_refl _ _)
      refine H_take (k := 1) (v := ?_) (by rfl) (by kernel_rfl) (by kernel_rfl) (by kernel_rfl) (by exact fun _ _ _ h => h) (by rfl) ?_ (by assumption) ?_
      rotate_left 1
      · intro w hSw
        (try dsimp only at hSw)
        go_simp
        (try with_reducible rfl)
      (try simp only [Act.put, List.setIfInBounds_toArray, List.set_cons_zero, List.set_cons_succ])
      refine H_take (k := 2) (v := ?_) (by rfl) (by kernel_rfl) (by kernel_rfl) (by kernel_rfl) (by exact fun _ _ _ h => h) (by rfl) ?_ (by assumption) ?_
      rotate_left 1
      · intro w hSw
        (try dsimp only at hSw)
        go_simp
        (try with_reducible rfl)
      (try simp only [Act.put, List.setIfInBounds_toArray, List.set_cons_zero, List.set_cons_succ])
      refine H_take (k := 3) (v := ?_) (by rfl) (by kernel_rfl) (by kernel_rfl) (by kernel_rfl) (by exact fun _ _ _ h => h) (by rfl) ?_ (by assumption) ?_
      rotate_left 1
      · intro w' hSw
        have kc := (HRX.out.grown hSw (fun g e => by cases e)).at_ srow_len (i := 1) (a := x1) rfl 0 _ rfl
        simp only [Nat.mul_one, Nat.add_zero, Nat.zero_add, Nat.one_mul] at kc
        go_simp
        (try with_reducible rfl)
      (try simp only [Act.put, List.setIfInBounds_toArray, List.set_cons_zero, List.set_cons_succ])
      refine H_run (k := 0) (by rfl) (by kernel_rfl) (by rfl) (fun K hK => ?_)
      go_simp
      refine (pWordsOf_any _).mono ?_
      rintro e w3 ⟨rfl, hr3, hg3⟩
      have hgz : w2.grownBy w3 none := gr_none hHeld hg3
      refine hK _ _ hgz ?_
      clear hK K hHeld
      have hHeld := hgz
      have HW3 := Lib.hid hr3
      clear hr3 hg3
      (try simp only [Act.put, List.setIfInBounds_toArray, List.set_cons_zero, List.set_cons_succ])
      refine H_run (k := 4) (by rfl) (by kernel_rfl) (by rfl) (fun K hK => ?_)
      go_simp
      refine (index_any _ 4 W4 x1 _ _ HW3.out (by omega)).mono ?_
      rintro e w4 ⟨rfl, rfl⟩
      rw [HJ.out]
      refine hK _ _ hgz ?_
      clear hK K
      (try simp only [Act.put, List.setIfInBounds_toArray, List.set_cons_zero, List.set_cons_succ])
      refine H_take (k := 5) (v := ?_) (by rfl) (by kernel_rfl) (by kernel_rfl) (by kernel_rfl) (by exact fun _ _ _ h => h) (by rfl) ?_ (by assumption) ?_
      rotate_left 1
      · intro w hSw
        (try dsimp only at hSw)
        go_simp
        (try with_reducible rfl)
      (try simp only [Act.put, List.setIfInBounds_toArray, List.set_cons_zero, List.set_cons_succ])
      refine H_take (k := 6) (v := ?_) (by rfl) (by kernel_rfl) (by kernel_rfl) (by kernel_rfl) (by exact fun _ _ _ h => h) (by rfl) ?_ (by assumption) ?_
      rotate_left 1
      · intro w hSw
        (try dsimp only at hSw)
        go_simp
        (try with_reducible rfl)
      (try simp only [Act.put, List.setIfInBounds_toArray, List.set_cons_zero, List.set_cons_succ])
      refine H_done (by kernel_rfl) ?_
      replace HG := Lib.hid (gr_none HG.out hgz)
      replace HR0 := Lib.hid (HR0.out.grown hgz (by simp))
      (try replace HRX := Lib.hid (HRX.out.grown hgz (fun g e => by cases e)))
      (try replace HNO := Lib.hid (HNO.out.grown hgz (fun g e => by cases e)))
      (try replace HSB := Lib.hid (HSB.out.grown hgz (by simp)))
      have HNO1 := Lib.hid (fun h => (HNO0.out h).kept hgz (fun g e => by cases e))
      clear hHeld hgz HW3 qj HNO0
      cases NB
      · have HV := Lib.hid (show (Value.tuple #[.agg #[.string (rdR s).ca, .string (rdR s).ag, .int .i64 (rdR s).how, .int .i64 (rdR s).beg, .int .i64 (rdR s).fin], .bool (rdB s)]) = .tuple #[.agg #[.string ⟨#[]⟩, .string ⟨#[]⟩, .int .i64 0, .int .i64 0, .int .i64 0], .bool false] by
          have h : rdB s = false := by rw [HB0.out, HN0.out, HNB.out]; rfl
          unfold rdR; rw [h]; rfl)
        clear HNO1
        go_wp2_with (first
          | (refine wpl_store_all Tryz.seT rfl _ _ rfl _ rfl _ _ _ rfl HR0.out rfl rfl (by simp [Value.oneCell']) ?_; intro wz hst; have HST := Lib.hid hst; clear hst)
          | fail)
        refine ret_cell_tmp Tryz.seT rfl rb 58 #[.string ⟨#[]⟩, .string ⟨#[]⟩, .int .i64 0, .int .i64 0, .int .i64 0] _ rfl rfl HST.out.1 rfl rfl ?_
        exact ⟨by rw [HV.out]; try rfl, gr_trans HG.out HST.out.2.1 (fun g e => .inr (by injection e with e; rw [← e]; exact HRB.out))⟩
      · have HNO := Lib.hid (HNO1.out rfl).recs
        clear HNO1
        by_cases h0 : H = 0
        · have d0 : (H == 0) = true := by simpa using h0
          have HV := Lib.hid (show (Value.tuple #[.agg #[.string (rdR s).ca, .string (rdR s).ag, .int .i64 (rdR s).how, .int .i64 (rdR s).beg, .int .i64 (rdR s).fin], .bool (rdB s)]) = .tuple #[.agg #[.string ⟨#[]⟩, .string ⟨#[]⟩, .int .i64 0, .int .i64 0, .int .i64 0], .bool false] by
            have h : rdB s = false := by rw [HB0.out, HH.out, h0]; exact Bool.and_false _
            unfold rdR; rw [h]; rfl)
          clear h0
          go_wp2_with (first
            | (refine wpl_store_all Tryz.seT rfl _ _ rfl _ rfl _ _ _ rfl HR0.out rfl rfl (by simp [Value.oneCell']) ?_; intro wz hst; have HST := Lib.hid hst; clear hst)
            | fail)
          refine ret_cell_tmp Tryz.seT rfl rb 58 #[.string ⟨#[]⟩, .string ⟨#[]⟩, .int .i64 0, .int .i64 0, .int .i64 0] _ rfl rfl HST.out.1 rfl rfl ?_
          exact ⟨by rw [HV.out]; try rfl, gr_trans HG.out HST.out.2.1 (fun g e => .inr (by injection e with e; rw [← e]; exact HRB.out))⟩
        · have d0 : (H == 0) = false := by simpa using h0
          have hB1 : rdB s = true := by rw [HB0.out, HN0.out, HNB.out, HH.out, decide_eq_true h0]; rfl
          have HV := Lib.hid (show (Value.tuple #[.agg #[.string (rdR s).ca, .string (rdR s).ag, .int .i64 (rdR s).how, .int .i64 (rdR s).beg, .int .i64 (rdR s).fin], .bool (rdB s)]) = .tuple #[.agg #[.string x0, .string (undS x2), .int .i64 H, .int .i64 (numN x3.data.toList), .int .i64 (numN x4.data.toList)], .bool true] by
            have e1 : rdR s = ⟨x0, undS x2, H, numN x3.data.toList, numN x4.data.toList⟩ := by unfold rdR; rw [hB1, HVV.out, HH.out]; rfl
            rw [e1, hB1])
          obtain ⟨N3, hN3⟩ : ∃ N, numN x3.data.toList = N := ⟨_, rfl⟩
          obtain ⟨N4, hN4⟩ : ∃ N, numN x4.data.toList = N := ⟨_, rfl⟩
          rw [hN3, hN4] at HV HNO
          obtain ⟨ng, no, _, rfl, _, _, _, _⟩ := HNO.out.get nrow_len (show 0 < 2 by omega)
          clear h0 hB1 hN3 hN4 HVV HB0 HN0
          go_upto_region 8 with (fail)
          obtain ⟨w5, rfl⟩ : ∃ w5 : World, w5 = w3 := ⟨_, rfl⟩
          refine H_begin (fun w' => w5.grownBy w' none) (by kernel_rfl) ?_
          have hHeld : w5.grownBy w5.drew none := gr_drew (gr_refl _ _)
          refine H_take (k := 0) (v := ?_) (by rfl) (by kernel_rfl) (by kernel_rfl) (by kernel_rfl) (by exact fun _ _ _ h => h) (by rfl) ?_ (by assumption) ?_
          rotate_left 1
          · intro w hSw
            (try dsimp only at hSw)
            go_simp
            (try with_reducible rfl)
          (try simp only [Act.put, List.setIfInBounds_toArray, List.set_cons_zero, List.set_cons_succ])
          refine H_take (k := 1) (v := ?_) (by rfl) (by kernel_rfl) (by kernel_rfl) (by kernel_rfl) (by exact fun _ _ _ h => h) (by rfl) ?_ (by assumption) ?_
          rotate_left 1
          · intro w hSw
            (try dsimp only at hSw)
            go_simp
            (try with_reducible rfl)
          (try simp only [Act.put, List.setIfInBounds_toArray, List.set_cons_zero, List.set_cons_succ])
          refine H_take (k := 2) (v := ?_) (by rfl) (by kernel_rfl) (by kernel_rfl) (by kernel_rfl) (by exact fun _ _ _ h => h) (by rfl) ?_ (by assumption) ?_
          rotate_left 1
          · intro w' hSw
            have kc := (HRX.out.grown hSw (fun g e => by cases e)).at_ srow_len (i := 0) (a := x0) rfl 0 _ rfl
            simp only [Nat.mul_one, Nat.add_zero, Nat.zero_add, Nat.one_mul] at kc
            go_simp
            (try with_reducible rfl)
          (try simp only [Act.put, List.setIfInBounds_toArray, List.set_cons_zero, List.set_cons_succ])
          refine H_take (k := 3) (v := ?_) (by rfl) (by kernel_rfl) (by kernel_rfl) (by kernel_rfl) (by exact fun _ _ _ h => h) (by rfl) ?_ (by assumption) ?_
          rotate_left 1
          · intro w hSw
            (try dsimp only at hSw)
            go_simp
            (try with_reducible rfl)
          (try simp only [Act.put, List.setIfInBounds_toArray, List.set_cons_zero, List.set_cons_succ])
          refine H_take (k := 4) (v := ?_) (by rfl) (by kernel_rfl) (by kernel_rfl) (by kernel_rfl) (by exact fun _ _ _ h => h) (by rfl) ?_ (by assumption) ?_
          rotate_left 1
          · intro w hSw
            (try dsimp only at hSw)
            go_simp
            (try with_reducible rfl)
          (try simp only [Act.put, List.setIfInBounds_toArray, List.set_cons_zero, List.set_cons_succ])
          refine H_take (k := 5) (v := ?_) (by rfl) (by kernel_rfl) (by kernel_rfl) (by kernel_rfl) (by exact fun _ _ _ h => h) (by rfl) ?_ (by assumption) ?_
          rotate_left 1
          · intro w hSw
            (try dsimp only at hSw)
            go_simp
            (try with_reducible rfl)
          (try simp only [Act.put, List.setIfInBounds_toArray, List.set_cons_zero, List.set_cons_succ])
          refine H_take (k := 6) (v := ?_) (by rfl) (by kernel_rfl) (by kernel_rfl) (by kernel_rfl) (by exact fun _ _ _ h => h) (by rfl) ?_ (by assumption) ?_
          rotate_left 1
          · intro w' hSw
            have kc := (HRX.out.grown hSw (fun g e => by cases e)).at_ srow_len (i := 2) (a := x2) rfl 0 _ rfl
            simp only [Nat.mul_one, Nat.add_zero, Nat.zero_add, Nat.one_mul] at kc
            go_simp
            (try with_reducible rfl)
          (try simp only [Act.put, List.setIfInBounds_toArray, List.set_cons_zero, List.set_cons_succ])
          refine H_take (k := 7) (v := ?_) (by rfl) (by kernel_rfl) (by kernel_rfl) (by kernel_rfl) (by exact fun _ _ _ h => h) (by rfl) ?_ (by assumption) ?_
          rotate_left 1
          · intro w hSw
            (try dsimp only at hSw)
            go_simp
            (try with_reducible rfl)
          (try simp only [Act.put, List.setIfInBounds_toArray, List.set_cons_zero, List.set_cons_succ])
          refine H_take (k := 8) (v := ?_) (by rfl) (by kernel_rfl) (by kernel_rfl) (by kernel_rfl) (by exact fun _ _ _ h => h) (by rfl) ?_ (by assumption) ?_
          rotate_left 1
          · intro w hSw
            (try dsimp only at hSw)
            go_simp
            (try with_reducible rfl)
          (try simp only [Act.put, List.setIfInBounds_toArray, List.set_cons_zero, List.set_cons_succ])
          refine H_take (k := 9) (v := ?_) (by rfl) (by kernel_rfl) (by kernel_rfl) (by kernel_rfl) (by exact fun _ _ _ h => h) (by rfl) ?_ (by assumption) ?_
          rotate_left 1
          · intro w' hSw
            have kc := (HNO.out.grown hSw (fun g e => by cases e)).at_ nrow_len (i := 0) (a := N3) rfl 0 _ rfl
            simp only [Nat.mul_one, Nat.add_zero, Nat.zero_add, Nat.one_mul] at kc
            go_simp
            (try with_reducible rfl)
          (try simp only [Act.put, List.setIfInBounds_toArray, List.set_cons_zero, List.set_cons_succ])
          refine H_take (k := 10) (v := ?_) (by rfl) (by kernel_rfl) (by kernel_rfl) (by kernel_rfl) (by exact fun _ _ _ h => h) (by rfl) ?_ (by assumption) ?_
          rotate_left 1
          · intro w hSw
            (try dsimp only at hSw)
            go_simp
            (try with_reducible rfl)
          (try simp only [Act.put, List.setIfInBounds_toArray, List.set_cons_zero, List.set_cons_succ])
          refine H_take (k := 11) (v := ?_) (by rfl) (by kernel_rfl) (by kernel_rfl) (by kernel_rfl) (by exact fun _ _ _ h => h) (by rfl) ?_ (by assumption) ?_
          rotate_left 1
          · intro w hSw
            (try dsimp only at hSw)
            go_simp
            (try with_reducible rfl)
          (try simp only [Act.put, List.setIfInBounds_toArray, List.set_cons_zero, List.set_cons_succ])
          refine H_take (k := 12) (v := ?_) (by rfl) (by kernel_rfl) (by kernel_rfl) (by kernel_rfl) (by exact fun _ _ _ h => h) (by rfl) ?_ (by assumption) ?_
          rotate_left 1
          · intro w' hSw
            have kc := (HNO.out.grown hSw (fun g e => by cases e)).at_ nrow_len (i := 1) (a := N4) rfl 0 _ rfl
            simp only [Nat.mul_one, Nat.add_zero, Nat.zero_add, Nat.one_mul] at kc
            go_simp
            (try with_reducible rfl)
          (try simp only [Act.put, List.setIfInBounds_toArray, List.set_cons_zero, List.set_cons_succ])
          refine H_take (k := 13) (v := ?_) (by rfl) (by kernel_rfl) (by kernel_rfl) (by kernel_rfl) (by exact fun _ _ _ h => h) (by rfl) ?_ (by assumption) ?_
          rotate_left 1
          · intro w hSw
            (try dsimp only at hSw)
            go_simp
            (try with_reducible rfl)
          (try simp only [Act.put, List.setIfInBounds_toArray, List.set_cons_zero, List.set_cons_succ])
          obtain ⟨wa, hwa⟩ : ∃ v, w5.drew.alloc (.cells #[.string ⟨#[]⟩, .string ⟨#[]⟩, .int .i64 0, .int .i64 0, .int .i64 0] 58) = v := ⟨_, rfl⟩
          obtain ⟨sb, hsb⟩ : ∃ b, w5.drew.heap.size = b := ⟨_, rfl⟩
          have YZ := Lib.hid (show Blk wa sb 58 #[.string ⟨#[]⟩, .string ⟨#[]⟩, .int .i64 0, .int .i64 0, .int .i64 0] by rw [← hwa, ← hsb]; exact Blk.new _ _ _)
          have hga : w5.grownBy wa none := by rw [← hwa]; exact gr_alloc hHeld _
          have hlsb : w5.heap.size ≤ sb := by rw [← hsb]; exact Nat.le_refl _
          refine H_run (k := 14) (by rfl) (by kernel_rfl) (by rfl) (fun K hK => ?_)
          go_simp
          (try rw [hwa])
          (try rw [hsb])
          refine hK _ _ hga ?_
          clear hK K hHeld hwa hsb
          (try simp only [Act.put, List.setIfInBounds_toArray, List.set_cons_zero, List.set_cons_succ])
          refine H_run (k := 15) (by rfl) (by kernel_rfl) (by rfl) (fun K hK => ?_)
          refine wp_store_all Tryz.seT _ _ (by rfl) sb (by rfl) 58 _ #[.string x0, .string x2, .int .i64 H, .int .i64 N3, .int .i64 N4] (by rfl) YZ.out rfl rfl (by simp [Value.oneCell']) ?_
          intro wg hwg
          have hgg : w5.grownBy wg none := gr_trans hga hwg.2.1 (fun g e => .inr (by injection e with e; omega))
          refine hK _ _ hgg ?_
          have HSB := Lib.hid hwg.1
          clear hK K hwg YZ hga
          (try simp only [Act.put, List.setIfInBounds_toArray, List.set_cons_zero, List.set_cons_succ])
          refine H_done (by kernel_rfl) ?_
          have hrlt := HR0.out.lt
          have hne : rb ≠ sb := by omega
          replace HG := Lib.hid (gr_none HG.out hgg)
          replace HR0 := Lib.hid (HR0.out.grown hgg (by simp))
          (try replace HRX := Lib.hid (HRX.out.grown hgg (fun g e => by cases e)))
          (try replace HNO := Lib.hid (HNO.out.grown hgg (fun g e => by cases e)))

          clear hgg
          have c1 := HSB.out.cell 1
          have f1 := HSB.out.frozen 1
          by_cases h45 : x2.toList = [45]
          · have e1 : undS x2 = ⟨#[]⟩ := if_pos h45
            rw [e1] at HV
            have HS2 := Lib.hid (HSB.out.set_ 1 (.string ⟨#[]⟩))
            have hg9 : wg.grownBy (wg.setCell ⟨sb, 1, none⟩ (.string ⟨#[]⟩)) (some sb) := gr_setCell (gr_refl _ _) (.inl rfl) _
            replace HR0 := Lib.hid (HR0.out.grown hg9 (by simp; omega))
            have HGS := Lib.hid (show w.grownBy (wg.setCell ⟨sb, 1, none⟩ (.string ⟨#[]⟩)) none from gr_trans HG.out hg9 (fun g e => .inr (by injection e with e; have := HRB.out; omega)))
            clear hg9 e1
            go_wp2_with (first
              | (refine wpl_load_all Tryz.seT rfl _ rfl _ rfl _ _ HS2.out rfl ?_)
              | (refine wpl_store_all Tryz.seT rfl _ _ rfl _ rfl _ _ _ rfl HR0.out rfl rfl (by simp [Value.oneCell']) ?_; intro wz hst; have HST := Lib.hid hst; clear hst)
              | fail)
            refine ret_cell_tmp Tryz.seT rfl rb 58 #[.string x0, .string ⟨#[]⟩, .int .i64 H, .int .i64 N3, .int .i64 N4] _ rfl rfl HST.out.1 rfl rfl ?_
            exact ⟨by rw [HV.out]; try rfl, gr_trans HGS.out HST.out.2.1 (fun g e => .inr (by injection e with e; rw [← e]; exact HRB.out))⟩
          · have e1 : undS x2 = x2 := if_neg h45
            rw [e1] at HV
            have e2 : (x2.toList == [45]) = false := by rw [beq_eq_false_iff_ne]; exact h45
            clear h45 e1
            go_wp2_with (first
              | (refine wpl_load_all Tryz.seT rfl _ rfl _ rfl _ _ HSB.out rfl ?_)
              | (refine wpl_store_all Tryz.seT rfl _ _ rfl _ rfl _ _ _ rfl HR0.out rfl rfl (by simp [Value.oneCell']) ?_; intro wz hst; have HST := Lib.hid hst; clear hst)
              | fail)
            refine ret_cell_tmp Tryz.seT rfl rb 58 #[.string x0, .string x2, .int .i64 H, .int .i64 N3, .int .i64 N4] _ rfl rfl HST.out.1 rfl rfl ?_
            exact ⟨by rw [HV.out]; try rfl, gr_trans HG.out HST.out.2.1 (fun g e => .inr (by injection e with e; rw [← e]; exact HRB.out))⟩
    · have hl1 := hrec.len
      obtain ⟨n, hn⟩ : ∃ n, L.length = n := ⟨_, rfl⟩
      rw [hn] at h5 ⊢
      have d5 : ((n : Int) != 5) = true := by rw [bne_iff_ne]; omega
      have HV := Lib.hid (show (Value.tuple #[.agg #[.string (rdR s).ca, .string (rdR s).ag, .int .i64 (rdR s).how, .int .i64 (rdR s).beg, .int .i64 (rdR s).fin], .bool (rdB s)]) = .tuple #[.agg #[.string ⟨#[]⟩, .string ⟨#[]⟩, .int .i64 0, .int .i64 0, .int .i64 0], .bool false] by
        have h : rdB s = false := by unfold rdB; rw [HL.out, hn, decide_eq_false h5]; cases okW s <;> rfl
        unfold rdR; rw [h]; rfl)
      clear h5 hl1 hrec hn
      go_wp2_with (first
        | (refine wpl_store_all Tryz.seT rfl _ _ rfl _ rfl _ _ _ rfl HR0.out rfl rfl (by simp [Value.oneCell']) ?_; intro wz hst; have HST := Lib.hid hst; clear hst)
        | fail)
      refine ret_cell_tmp Tryz.seT rfl rb 58 #[.string ⟨#[]⟩, .string ⟨#[]⟩, .int .i64 0, .int .i64 0, .int .i64 0] _ rfl rfl HST.out.1 rfl rfl ?_
      exact ⟨by rw [HV.out]; try rfl, gr_trans HG.out HST.out.2.1 (fun g e => .inr (by injection e with e; rw [← e]; exact HRB.out))⟩
  · have HV := Lib.hid (show (Value.tuple #[.agg #[.string (rdR s).ca, .string (rdR s).ag, .int .i64 (rdR s).how, .int .i64 (rdR s).beg, .int .i64 (rdR s).fin], .bool (rdB s)]) = .tuple #[.agg #[.string ⟨#[]⟩, .string ⟨#[]⟩, .int .i64 0, .int .i64 0, .int .i64 0], .bool false] by
      have h : rdB s = false := by unfold rdB; rw [hno]; rfl
      unfold rdR; rw [h]; rfl)
    clear hno
    go_wp2_with (first
      | (refine wpl_store_all Tryz.seT rfl _ _ rfl _ rfl _ _ _ rfl HR0.out rfl rfl (by simp [Value.oneCell']) ?_; intro wz hst; have HST := Lib.hid hst; clear hst)
      | fail)
    refine ret_cell_tmp Tryz.seT rfl rb 58 #[.string ⟨#[]⟩, .string ⟨#[]⟩, .int .i64 0, .int .i64 0, .int .i64 0] _ rfl rfl HST.out.1 rfl rfl ?_
    exact ⟨by rw [HV.out]; try rfl, gr_trans HG.out HST.out.2.1 (fun g e => .inr (by injection e with e; rw [← e]; exact HRB.out))⟩
end
end Go.Proofs.YtnmodobkennklaaGreatDoor
/- Contracts of the closures that read a line of seats, of Read and SeatsRead. Conditions: a text of bounded length; bytealg.MaxLen holds some number; the table of powers of ten. -/
namespace Go.Proofs.YtnmodobkennklaaGreatDoor
section
open Go.RowKit

def lnB (t : List UInt8) (k : Nat) : ByteArray := ⟨(lineN t k).toArray⟩
theorem lnB_eq {t : List UInt8} {k : Nat} {line : ByteArray} (h : line.data.toList = lineN t k) : line = lnB t k := by
  unfold lnB
  rw [← h]
def sOk (t : List UInt8) (k : Nat) : Bool := rdB (lnB t k)
def sOut (t : List UInt8) : Nat → List SeV
  | 0 => []
  | k + 1 => sOut t k ++ [rdV (lnB t k)]
/-- Behind k lines that were taken: what was read lies in a slice of its own behind the captured variable. -/
structure StS (t : List UInt8) (base : World) (ob k : Nat) (w : World) : Prop where
  g : base.grownBy w none
  mx : MxT w
  pw : PwT w
  hob : base.heap.size ≤ ob
  hm : 1 < base.heap.size
  hp : 2 < base.heap.size
  out : ∃ B c, Blk w ob 52 #[.slice B k c] ∧ OwnR SeV.row 5 w (ob + 1) 58 B k c (sOut t k)
theorem StS.kept {t : List UInt8} {base w w' : World} {ob k : Nat} (h : StS t base ob k w) (hg : w.grownBy w' none) : StS t base ob k w' := by
  obtain ⟨B, c, h1, h2⟩ := h.out
  exact ⟨gr_none h.g hg, h.mx.grown hg, h.pw.grown hg, h.hob, h.hm, h.hp, B, c, h1.grown hg (by simp), h2.kept hg (fun g e => by cases e)⟩
set_option maxHeartbeats 4000000 in
theorem pSeatLine_any (t : List UInt8) (base : World) (ob k : Nat) (line : ByteArray) (w : World) (h : StS t base ob k w) (hl : line.data.toList = lineN t k) (hs : line.size ≤ 1000000) (hk : k < 1000000) :
    Calls Tryz.prog 67 #[.string line, .pointer (some ⟨ob, 0, none⟩)] w (fun e w' => e = .returned (.bool (sOk t k)) ∧ base.grownBy w' none ∧ (sOk t k = true → StS t base ob (k + 1) w')) := by
  have hln := lnB_eq hl
  obtain ⟨B, c, hob, hown⟩ := h.out
  have H := Lib.hid h; have HOB := Lib.hid hob; have HO := Lib.hid hown
  have HOKB := Lib.hid (show sOk t k = rdB line by unfold sOk; rw [← hln])
  have HRV := Lib.hid (show rdB line = true → sOut t (k + 1) = sOut t k ++ [rdR line] from fun e => by
    show sOut t k ++ [rdV (lnB t k)] = _
    rw [← hln]; unfold rdR; rw [e]; rfl)
  clear hl hln h hob hown
  go_enter Tryz.func67, Tryz.ntmps67
  go_wp2_with fail
  refine (readSeat_any line _ hs H.out.mx).mono ?_
  rintro e w1 ⟨rfl, hg1⟩
  obtain ⟨RB, hRB⟩ : ∃ b, rdB line = b := ⟨_, rfl⟩
  have HRB := Lib.hid hRB
  rw [hRB]
  obtain ⟨w2, hw2⟩ : ∃ v, w1.alloc (.cells #[.string (rdR line).ca, .string (rdR line).ag, .int .i64 (rdR line).how, .int .i64 (rdR line).beg, .int .i64 (rdR line).fin] 58) = v := ⟨_, rfl⟩
  obtain ⟨sb, hsb⟩ : ∃ b, w1.heap.size = b := ⟨_, rfl⟩
  have HSB := Lib.hid (show Blk w2 sb 58 #[.string (rdR line).ca, .string (rdR line).ag, .int .i64 (rdR line).how, .int .i64 (rdR line).beg, .int .i64 (rdR line).fin] by rw [← hw2, ← hsb]; exact Blk.new _ _ _)
  have hg2 : w.grownBy w2 none := by rw [← hw2]; exact gr_alloc hg1 _
  have HW2 := Lib.hid hw2; have HZ2 := Lib.hid hsb
  replace H := Lib.hid (H.out.kept hg2)
  replace HOB := Lib.hid (HOB.out.grown hg2 (by simp))
  replace HO := Lib.hid (HO.out.kept hg2 (fun g e => by cases e))
  have zob := HOB.out.lt
  have zb := H.out.hob
  have hb1 : base.heap.size ≤ ob + 1 := by omega
  have hob2 : ob + 1 ≤ w2.heap.size := by omega
  clear hw2 hsb hg1 hg2 hRB
  go_upto_region 2 with (fail)
  rw [HW2.out]
  (try rw [HZ2.out])
  clear HW2 HZ2
  have o0 := HOB.out.cell 0
  obtain ⟨RC, hRC⟩ : ∃ x, rdR line = x := ⟨_, rfl⟩
  rw [hRC] at HSB HRV
  clear hRC
  go_wp2_with (first
    | (refine wpl_load_all Tryz.seT rfl _ rfl _ rfl _ _ HSB.out rfl ?_)
    | (at_builtin; refine wpl_app _ rfl _ _ Tryz.sesT rfl (ob + 1) B k c _ rfl (by exact HO.out.1.alloc _) _ _ 1 1 [.string RC.ca, .string RC.ag, .int .i64 RC.how, .int .i64 RC.beg, .int .i64 RC.fin] rfl (by exact Reads.one _ _ _ _ rfl) (by simp [Value.oneCell']) (by unfold maxLen; omega) (by omega) (by simp; omega) ?_; intro A9 c9 w9 h9; have HB9 := Lib.hid ((HOB.out.alloc _).grown h9.2.1 (by intro e; have := (HO.out.1.lt e.symm).1; omega)); have f9 := HB9.out.frozen 0; have o9 := HB9.out.cell 0; have H9 := Lib.hid h9; clear h9 o0)
    | fail)
  go_ret
  have hgA := gr_alloc (gr_refl w2 none) (.cells #[.string RC.ca, .string RC.ag, .int .i64 RC.how, .int .i64 RC.beg, .int .i64 RC.fin] 58)
  have hg9 := H9.out.2.1
  have hgb : base.grownBy w9 none := gr_trans (gr_none H.out.g hgA) hg9 (fun g e => .inr (by have := (HO.out.1.lt e).1; omega))
  have hgs : w9.grownBy (w9.setCell ⟨ob, 0, none⟩ (.slice A9 (k + 1) c9)) (some ob) := gr_setCell (gr_refl _ _) (.inl rfl) _
  have hgf : base.grownBy (w9.setCell ⟨ob, 0, none⟩ (.slice A9 (k + 1) c9)) none := gr_trans hgb hgs (fun g e => .inr (by injection e with e; omega))
  refine ⟨by rw [HOKB.out, HRB.out]; try rfl, hgf, fun e => ?_⟩
  have e2 : rdB line = true := by rw [← HOKB.out]; exact e
  refine ⟨hgf, ?_, ?_, H.out.hob, H.out.hm, H.out.hp, A9, c9, HB9.out.set_ 0 _, ?_⟩
  · exact ((H.out.mx.grown hgA).low hg9 (fun g e => by have := (HO.out.1.lt e).1; have := H.out.hm; omega)).low hgs (fun g e => by injection e with e; have := H.out.hm; omega)
  · exact ((H.out.pw.grown hgA).low hg9 (fun g e => by have := (HO.out.1.lt e).1; have := H.out.hp; omega)).low hgs (fun g e => by injection e with e; have := H.out.hp; omega)
  · rw [HRV.out e2]
    exact ((HO.out.alloc _).app rfl H9.out).kept hgs (fun g e2 e3 => by injection e2 with e2; have := (H9.out.1.lt e3).1; omega)
end
end Go.Proofs.YtnmodobkennklaaGreatDoor
/- Contract of the document's closure that reads a line of seats. Conditions: a line of bounded length; bytealg.MaxLen holds some number; the table of powers of ten. -/
namespace Go.Proofs.YtnmodobkennklaaGreatDoor
section
open Go.RowKit

set_option maxHeartbeats 8000000 in
set_option maxRecDepth 100000 in
theorem dSeatLine_any (t : List UInt8) (base : World) (ob k : Nat) (line : ByteArray) (w : World) (h : StS t base ob k w) (hl : line.data.toList = lineN t k) (hs : line.size ≤ 1000000) (hk : k < 1000000) :
    Calls Tryz.prog 70 #[.string line, .pointer (some ⟨ob, 0, none⟩)] w (fun e w' => e = .returned (.bool (sOk t k)) ∧ base.grownBy w' none ∧ (sOk t k = true → StS t base ob (k + 1) w')) := by
  have hln := lnB_eq hl
  obtain ⟨B, c, hob, hown⟩ := h.out
  have H := Lib.hid h; have HOB := Lib.hid hob; have HO := Lib.hid hown
  have HOKB := Lib.hid (show sOk t k = rdB line by unfold sOk; rw [← hln])
  have HRV := Lib.hid (show sOut t (k + 1) = sOut t k ++ [rdV line] by
    show sOut t k ++ [rdV (lnB t k)] = _
    rw [← hln])
  clear hl hln h hob hown
  go_enter Tryz.func70, Tryz.ntmps70
  go_wp2_with fail
  refine (dWords_any line _ hs H.out.mx).mono ?_
  rintro e w1 ⟨hg1, B0, rfl, hrec⟩
  replace H := Lib.hid (H.out.kept hg1)
  replace HOB := Lib.hid (HOB.out.grown hg1 (by simp))
  replace HO := Lib.hid (HO.out.kept hg1 (fun g e => by cases e))
  (try replace HRX := Lib.hid (HRX.out.grown hg1 (fun g e => by cases e)))
  obtain ⟨L, hL⟩ : ∃ L, pieces line = L := ⟨_, rfl⟩
  obtain ⟨lo, hlo⟩ : ∃ b, w.heap.size = b := ⟨_, rfl⟩
  obtain ⟨OK, hOK⟩ : ∃ b, okW line = b := ⟨_, rfl⟩
  rw [hL, hlo] at hrec
  rw [hL, hOK]
  have HL := Lib.hid hL; have HOK := Lib.hid hOK
  clear hg1 hL hlo hOK
  cases OK
  · clear hrec
    have HF := Lib.hid (show sOk t k = false by rw [HOKB.out]; unfold rdB; rw [HOK.out]; rfl)
    go_wp2_with fail
    go_ret
    exact ⟨by rw [HF.out]; try rfl, H.out.g, fun e => by rw [HF.out] at e; cases e⟩
  · by_cases h5 : L.length = 5
    · obtain ⟨x0, x1, x2, x3, x4, rfl⟩ := five h5
      change Recs srow 1 w1 lo (some B0) 5 5 [x0, x1, x2, x3, x4] at hrec
      obtain ⟨bg, bo, _, hB, _, hbg, _⟩ := hrec.get srow_len (show 0 < 5 by omega)
      injection hB with hB
      subst hB
      have HRX := Lib.hid hrec
      have p0 : pcAt line 0 = x0 := by unfold pcAt; rw [HL.out]; rfl
      have p1 : pcAt line 1 = x1 := by unfold pcAt; rw [HL.out]; rfl
      have p2 : pcAt line 2 = x2 := by unfold pcAt; rw [HL.out]; rfl
      have p3 : pcAt line 3 = x3 := by unfold pcAt; rw [HL.out]; rfl
      have p4 : pcAt line 4 = x4 := by unfold pcAt; rw [HL.out]; rfl
      have hs3 : x3.size ≤ 1000000 := by rw [← p3]; have := pc_size (s := line) 3; omega
      have hs4 : x4.size ≤ 1000000 := by rw [← p4]; have := pc_size (s := line) 4; omega
      have hx1 : x1 ≠ ⟨#[]⟩ := by
        intro e
        have h := List.all_eq_true.1 (show (pieces line).all (fun x => !x.toList.isEmpty) = true from HOK.out) x1 (by rw [HL.out]; simp)
        rw [e, ByteArray.toList_eq] at h
        exact absurd h (by decide)
      obtain ⟨j0, j1, j2⟩ := hw_cases x1
      obtain ⟨NB3, hNB3⟩ : ∃ b, numB x3.data.toList 15 = b := ⟨_, rfl⟩
      obtain ⟨NB4, hNB4⟩ : ∃ b, numB x4.data.toList 15 = b := ⟨_, rfl⟩
      obtain ⟨HW, hHW⟩ : ∃ H, hwN x1 = H := ⟨_, rfl⟩
      obtain ⟨J, hJ⟩ : ∃ J, Lib.idxOfS W5 x1 = J := ⟨_, rfl⟩
      have hjj := j2 hx1
      rw [hHW, hJ] at hjj
      rw [hHW] at j0
      have HJ0 := Lib.hid j0
      have HB0 := Lib.hid (show rdB line = (NB3 && NB4 && decide (HW ≠ 0)) by unfold rdB rdN; rw [HOK.out, HL.out, p1, p3, p4, hNB3, hNB4, hHW]; rfl)
      have HVV := Lib.hid (show rdV line = ⟨x0, undS x2, HW, numN x3.data.toList, numN x4.data.toList⟩ by unfold rdV; rw [p0, p1, p2, p3, p4, hHW])
      have HN3 := Lib.hid hNB3; have HN4 := Lib.hid hNB4; have HJ := Lib.hid hJ; have HJJ := Lib.hid hjj
      clear hrec hbg p0 p1 p2 p3 p4 h5 hx1 j0 j1 j2 hNB3 hNB4 hHW hJ hjj
      go_upto_region 4 with (fail)
      refine H_begin (fun w' => w1.grownBy w' none) (by kernel_rfl) ?_
      have hHeld : w1.grownBy w1.drew none := gr_drew (gr_refl _ _)
      refine H_take (k := 1) (v := ?_) (by rfl) (by kernel_rfl) (by kernel_rfl) (by kernel_rfl) (by exact fun _ _ _ h => h) (by rfl) ?_ (by assumption) ?_
      rotate_left 1
      · intro w hSw
        (try dsimp only at hSw)
        go_simp
        (try with_reducible rfl)
      (try simp only [Act.put, List.setIfInBounds_toArray, List.set_cons_zero, List.set_cons_succ])
      refine H_take (k := 2) (v := ?_) (by rfl) (by kernel_rfl) (by kernel_rfl) (by kernel_rfl) (by exact fun _ _ _ h => h) (by rfl) ?_ (by assumption) ?_
      rotate_left 1
      · intro w hSw
        (try dsimp only at hSw)
        go_simp
        (try with_reducible rfl)
      (try simp only [Act.put, List.setIfInBounds_toArray, List.set_cons_zero, List.set_cons_succ])
      refine H_take (k := 3) (v := ?_) (by rfl) (by kernel_rfl) (by kernel_rfl) (by kernel_rfl) (by exact fun _ _ _ h => h) (by rfl) ?_ (by assumption) ?_
      rotate_left 1
      · intro w' hSw
        have kc := (HRX.out.grown hSw (fun g e => by cases e)).at_ srow_len (i := 1) (a := x1) rfl 0 _ rfl
        simp only [Nat.mul_one, Nat.add_zero, Nat.zero_add, Nat.one_mul] at kc
        go_simp
        (try with_reducible rfl)
      (try simp only [Act.put, List.setIfInBounds_toArray, List.set_cons_zero, List.set_cons_succ])
      refine H_run (k := 0) (by rfl) (by kernel_rfl) (by rfl) (fun K hK => ?_)
      go_simp
      refine (dWordsOf_any _).mono ?_
      rintro e w3 ⟨rfl, hr3, hg3⟩
      have hgz : w1.grownBy w3 none := gr_none hHeld hg3
      refine hK _ _ hgz ?_
      clear hK K hHeld
      have hHeld := hgz
      have HW3 := Lib.hid hr3
      clear hr3 hg3
      (try simp only [Act.put, List.setIfInBounds_toArray, List.set_cons_zero, List.set_cons_succ])
      refine H_run (k := 4) (by rfl) (by kernel_rfl) (by rfl) (fun K hK => ?_)
      go_simp
      refine (index_any _ 5 W5 x1 _ _ HW3.out (by omega)).mono ?_
      rintro e w4 ⟨rfl, rfl⟩
      rw [HJ.out]
      refine hK _ _ hgz ?_
      clear hK K
      (try simp only [Act.put, List.setIfInBounds_toArray, List.set_cons_zero, List.set_cons_succ])
      refine H_take (k := 5) (v := ?_) (by rfl) (by kernel_rfl) (by kernel_rfl) (by kernel_rfl) (by exact fun _ _ _ h => h) (by rfl) ?_ (by assumption) ?_
      rotate_left 1
      · intro w hSw
        (try dsimp only at hSw)
        go_simp
        (try with_reducible rfl)
      (try simp only [Act.put, List.setIfInBounds_toArray, List.set_cons_zero, List.set_cons_succ])
      refine H_done (by kernel_rfl) ?_
      replace H := Lib.hid (H.out.kept hgz)
      replace HOB := Lib.hid (HOB.out.grown hgz (by simp))
      replace HO := Lib.hid (HO.out.kept hgz (fun g e => by cases e))
      (try replace HRX := Lib.hid (HRX.out.grown hgz (fun g e => by cases e)))
      clear hHeld hgz HW3
      have c3 := HRX.out.at_ srow_len (i := 3) (a := x3) rfl 0 _ rfl
      simp only [Nat.mul_one, Nat.add_zero, Nat.zero_add, Nat.one_mul] at c3
      go_wp2_with fail
      refine (dNumber_any x3 15 _ hs3 (by omega) H.out.pw).mono ?_
      rintro e w5 ⟨X3, rfl, b1, b2, hx3, hg5⟩
      rw [HN3.out] at hx3 ⊢
      replace H := Lib.hid (H.out.kept hg5)
      replace HOB := Lib.hid (HOB.out.grown hg5 (by simp))
      replace HO := Lib.hid (HO.out.kept hg5 (fun g e => by cases e))
      (try replace HRX := Lib.hid (HRX.out.grown hg5 (fun g e => by cases e)))
      have HX3 := Lib.hid hx3
      clear hg5 c3 hx3
      have c4 := HRX.out.at_ srow_len (i := 4) (a := x4) rfl 0 _ rfl
      simp only [Nat.mul_one, Nat.add_zero, Nat.zero_add, Nat.one_mul] at c4
      go_wp2_with fail
      refine (dNumber_any x4 15 _ hs4 (by omega) H.out.pw).mono ?_
      rintro e w6 ⟨X4, rfl, b3, b4, hx4, hg6⟩
      rw [HN4.out] at hx4 ⊢
      replace H := Lib.hid (H.out.kept hg6)
      replace HOB := Lib.hid (HOB.out.grown hg6 (by simp))
      replace HO := Lib.hid (HO.out.kept hg6 (fun g e => by cases e))
      (try replace HRX := Lib.hid (HRX.out.grown hg6 (fun g e => by cases e)))
      have HX4 := Lib.hid hx4
      clear hg6 c4 hx4
      have zob := HOB.out.lt
      have zb := H.out.hob
      have hb1 : base.heap.size ≤ ob + 1 := by omega
      have hob2 : ob + 1 ≤ w6.heap.size := by omega
      go_upto_region 7 with (fail)
      refine wp_region_B (fun w' => w6.grownBy w' none) 13 (by kernel_rfl) ?_
      have hHeld : w6.grownBy w6.drew none := gr_drew (gr_refl _ _)
      generalize w6.drew = wd at hHeld ⊢
      refine B_take (k := 1) false (v := ?_) (by rfl) (by kernel_rfl) (by exact fun _ _ _ h => h) (by rfl) ?_ (by first | exact .inr hHeld | exact .inl (by rfl)) ?_
      rotate_left 1
      · intro w hSw
        clear hSw
        go_simp
        (try with_reducible rfl)
      (try simp only [Act.put, List.setIfInBounds_toArray, List.set_cons_zero, List.set_cons_succ])
      refine B_take (k := 2) false (v := ?_) (by rfl) (by kernel_rfl) (by exact fun _ _ _ h => h) (by rfl) ?_ (by first | exact .inr hHeld | exact .inl (by rfl)) ?_
      rotate_left 1
      · intro w hSw
        clear hSw
        go_simp
        (try with_reducible rfl)
      (try simp only [Act.put, List.setIfInBounds_toArray, List.set_cons_zero, List.set_cons_succ])
      refine B_take (k := 4) false (v := ?_) (by rfl) (by kernel_rfl) (by exact fun _ _ _ h => h) (by rfl) ?_ (by first | exact .inr hHeld | exact .inl (by rfl)) ?_
      rotate_left 1
      · intro w hSw
        clear hSw
        go_simp
        (try with_reducible rfl)
      (try simp only [Act.put, List.setIfInBounds_toArray, List.set_cons_zero, List.set_cons_succ])
      refine B_take (k := 5) false (v := ?_) (by rfl) (by kernel_rfl) (by exact fun _ _ _ h => h) (by rfl) ?_ (by first | exact .inr hHeld | exact .inl (by rfl)) ?_
      rotate_left 1
      · intro w hSw
        clear hSw
        go_simp
        (try with_reducible rfl)
      (try simp only [Act.put, List.setIfInBounds_toArray, List.set_cons_zero, List.set_cons_succ])
      refine B_take (k := 8) false (v := ?_) (by rfl) (by kernel_rfl) (by exact fun _ _ _ h => h) (by rfl) ?_ (by first | exact .inr hHeld | exact .inl (by rfl)) ?_
      rotate_left 1
      · intro w hSw
        clear hSw
        go_simp
        (try with_reducible rfl)
      (try simp only [Act.put, List.setIfInBounds_toArray, List.set_cons_zero, List.set_cons_succ])
      refine B_take (k := 9) false (v := ?_) (by rfl) (by kernel_rfl) (by exact fun _ _ _ h => h) (by rfl) ?_ (by first | exact .inr hHeld | exact .inl (by rfl)) ?_
      rotate_left 1
      · intro w hSw
        clear hSw
        go_simp
        (try with_reducible rfl)
      (try simp only [Act.put, List.setIfInBounds_toArray, List.set_cons_zero, List.set_cons_succ])
      refine B_take (k := 10) false (v := ?_) (by rfl) (by kernel_rfl) (by exact fun _ _ _ h => h) (by rfl) ?_ (by first | exact .inr hHeld | exact .inl (by rfl)) ?_
      rotate_left 1
      · intro w hSw
        clear hSw
        go_simp
        (try with_reducible rfl)
      (try simp only [Act.put, List.setIfInBounds_toArray, List.set_cons_zero, List.set_cons_succ])
      refine B_take (k := 0) true (v := ?_) (by rfl) (by kernel_rfl) (by exact fun _ _ _ h => h) (by rfl) ?_ (.inr hHeld) ?_
      rotate_left 1
      · intro w' hSw
        have kc := (HOB.out.grown hSw (by simp)).cell 0
        go_simp
        (try with_reducible rfl)
      (try simp only [Act.put, List.setIfInBounds_toArray, List.set_cons_zero, List.set_cons_succ])
      refine B_take (k := 3) true (v := ?_) (by rfl) (by kernel_rfl) (by exact fun _ _ _ h => h) (by rfl) ?_ (.inr hHeld) ?_
      rotate_left 1
      · intro w' hSw
        have kc := (HRX.out.grown hSw (fun g e => by cases e)).at_ srow_len (i := 0) (a := x0) rfl 0 _ rfl
        simp only [Nat.mul_one, Nat.add_zero, Nat.zero_add, Nat.one_mul] at kc
        go_simp
        (try with_reducible rfl)
      (try simp only [Act.put, List.setIfInBounds_toArray, List.set_cons_zero, List.set_cons_succ])
      refine B_take (k := 6) true (v := ?_) (by rfl) (by kernel_rfl) (by exact fun _ _ _ h => h) (by rfl) ?_ (.inr hHeld) ?_
      rotate_left 1
      · intro w' hSw
        have kc := (HRX.out.grown hSw (fun g e => by cases e)).at_ srow_len (i := 2) (a := x2) rfl 0 _ rfl
        simp only [Nat.mul_one, Nat.add_zero, Nat.zero_add, Nat.one_mul] at kc
        go_simp
        (try with_reducible rfl)
      (try simp only [Act.put, List.setIfInBounds_toArray, List.set_cons_zero, List.set_cons_succ])
      refine B_run (k := 7) (by rfl) (by kernel_rfl) (by rfl) (fun K hK => ?_)
      go_simp
      refine (undash_any x2 _).mono ?_
      rintro e we ⟨rfl, rfl⟩
      refine hK _ _ (.inr hHeld) ?_
      clear hK K
      (try simp only [Act.put, List.setIfInBounds_toArray, List.set_cons_zero, List.set_cons_succ])
      refine B_take (k := 11) false (v := ?_) (by rfl) (by kernel_rfl) (by exact fun _ _ _ h => h) (by rfl) ?_ (by first | exact .inr hHeld | exact .inl (by rfl)) ?_
      rotate_left 1
      · intro w hSw
        clear hSw
        go_simp
        (try with_reducible rfl)
      (try simp only [Act.put, List.setIfInBounds_toArray, List.set_cons_zero, List.set_cons_succ])
      refine B_run (k := 12) (by rfl) (by kernel_rfl) (by rfl) (fun K hK => ?_)
      go_simp
      obtain ⟨UD, hUD⟩ : ∃ u, undS x2 = u := ⟨_, rfl⟩
      rw [hUD] at HVV ⊢
      obtain ⟨wa, hwa⟩ : ∃ v, wd.alloc (.cells #[.string x0, .string UD, .int .i64 J, .int .i64 X3, .int .i64 X4] 58) = v := ⟨_, rfl⟩
      have hga : wd.grownBy wa none := by rw [← hwa]; exact gr_alloc (gr_refl _ _) _
      have hgA : w6.grownBy wa none := gr_none hHeld hga
      have HRD := Lib.hid (show Reads wa wd.heap.size 5 (some ⟨wd.heap.size, 0, none⟩) 1 1 [.string x0, .string UD, .int .i64 J, .int .i64 X3, .int .i64 X4] by rw [← hwa]; exact Reads.one _ _ _ _ rfl)
      (try rw [hwa])
      refine hK _ _ (.inr hgA) ?_
      clear hK K hHeld hUD hwa
      have hHeld := hgA
      (try simp only [Act.put, List.setIfInBounds_toArray, List.set_cons_zero, List.set_cons_succ])
      have HOA := Lib.hid (HO.out.kept hgA (fun g e => by cases e))
      have HOBA := Lib.hid (HOB.out.grown hgA (by simp))
      have hsz := hgA.size
      refine B_run (k := 13) (by rfl) (by kernel_rfl) (by rfl) (fun K hK => ?_)
      refine wp_app _ _ _ Tryz.sesT (by rfl) (ob + 1) B k c _ (by rfl) (by exact HOA.out.1) _ _ 1 1 [.string x0, .string UD, .int .i64 J, .int .i64 X3, .int .i64 X4] (by rfl) (by exact HRD.out) (by simp [Value.oneCell']) (by unfold maxLen; omega) (by omega) (by omega) ?_
      intro A9 c9 w9 h9
      have HB9 := Lib.hid (HOBA.out.grown h9.2.1 (by intro e; have := (HOA.out.1.lt e.symm).1; omega))
      have f9 := HB9.out.frozen 0
      have o9 := HB9.out.cell 0
      have H9 := Lib.hid h9
      refine hK _ _ (.inl (by rfl)) ?_
      clear hK K hHeld h9
      (try simp only [Act.put, List.setIfInBounds_toArray, List.set_cons_zero, List.set_cons_succ])
      refine B_run (k := 14) (by rfl) (by kernel_rfl) (by rfl) (fun K hK => ?_)
      go_simp
      refine hK _ _ (.inl (by rfl)) ?_
      clear hK K
      (try simp only [Act.put, List.setIfInBounds_toArray, List.set_cons_zero, List.set_cons_succ])
      refine B_done (by kernel_rfl) ?_
      have hg9 := H9.out.2.1
      have hgb : base.grownBy w9 none := gr_trans (gr_none H.out.g hgA) hg9 (fun g e => .inr (by have := (HOA.out.1.lt e).1; omega))
      have hgs : w9.grownBy (w9.setCell ⟨ob, 0, none⟩ (.slice A9 (k + 1) c9)) (some ob) := gr_setCell (gr_refl _ _) (.inl rfl) _
      have HGF := Lib.hid (show base.grownBy (w9.setCell ⟨ob, 0, none⟩ (.slice A9 (k + 1) c9)) none from gr_trans hgb hgs (fun g e => .inr (by injection e with e; omega)))
      have HST := Lib.hid (show (⟨x0, UD, J, X3, X4⟩ : SeV) = rdV line → StS t base ob (k + 1) (w9.setCell ⟨ob, 0, none⟩ (.slice A9 (k + 1) c9)) from fun eq => by
        refine ⟨HGF.out, ?_, ?_, H.out.hob, H.out.hm, H.out.hp, A9, c9, HB9.out.set_ 0 _, ?_⟩
        · exact ((H.out.mx.grown hgA).low hg9 (fun g e => by have := (HOA.out.1.lt e).1; have := H.out.hm; omega)).low hgs (fun g e => by injection e with e; have := H.out.hm; omega)
        · exact ((H.out.pw.grown hgA).low hg9 (fun g e => by have := (HOA.out.1.lt e).1; have := H.out.hp; omega)).low hgs (fun g e => by injection e with e; have := H.out.hp; omega)
        · rw [HRV.out, ← eq]
          exact (HOA.out.app rfl (by exact H9.out)).kept hgs (fun g e2 e3 => by injection e2 with e2; have := (H9.out.1.lt e3).1; omega))
      clear hg9 hgb hgs hgA hga o9 f9
      by_cases h0 : HW = 0
      · have hj : J = -1 := by rw [HJJ.out, if_pos h0]
        subst hj
        have HF := Lib.hid (show sOk t k = false by rw [HOKB.out, HB0.out, h0]; exact Bool.and_false _)
        clear h0
        go_wp2_with fail
        go_ret
        exact ⟨by rw [HF.out]; try rfl, HGF.out, fun e => by rw [HF.out] at e; cases e⟩
      · have hj : J = HW := by rw [HJJ.out, if_neg h0]
        have hpos : 0 < J := by have := HJ0.out; omega
        have d0 : decide (0 < J) = true := decide_eq_true hpos
        cases NB3
        · have HF := Lib.hid (show sOk t k = false by rw [HOKB.out, HB0.out]; rfl)
          clear h0 hj
          go_wp2_with fail
          go_ret
          exact ⟨by rw [HF.out]; try rfl, HGF.out, fun e => by rw [HF.out] at e; cases e⟩
        · cases NB4
          · have HF := Lib.hid (show sOk t k = false by rw [HOKB.out, HB0.out]; rfl)
            clear h0 hj
            go_wp2_with fail
            go_ret
            exact ⟨by rw [HF.out]; try rfl, HGF.out, fun e => by rw [HF.out] at e; cases e⟩
          · have HF := Lib.hid (show sOk t k = true by rw [HOKB.out, HB0.out, decide_eq_true h0]; rfl)
            have HEQ := Lib.hid (show (⟨x0, UD, J, X3, X4⟩ : SeV) = rdV line by rw [HVV.out, hj, HX3.out rfl, HX4.out rfl])
            clear h0 hj
            go_wp2_with fail
            go_ret
            exact ⟨by rw [HF.out]; try rfl, HGF.out, fun _ => HST.out HEQ.out⟩
    · obtain ⟨n, hn⟩ : ∃ n, L.length = n := ⟨_, rfl⟩
      rw [hn] at h5 ⊢
      have d5 : ((n : Int) != 5) = true := by rw [bne_iff_ne]; omega
      have hF0 : rdB line = false := by unfold rdB; rw [HL.out, hn, decide_eq_false h5]; cases okW line <;> rfl
      have HF0 := Lib.hid hF0
      clear h5 hrec hn hF0
      have HF := Lib.hid (show sOk t k = false by rw [HOKB.out]; exact HF0.out)
      go_wp2_with fail
      go_ret
      exact ⟨by rw [HF.out]; try rfl, H.out.g, fun e => by rw [HF.out] at e; cases e⟩
end
end Go.Proofs.YtnmodobkennklaaGreatDoor

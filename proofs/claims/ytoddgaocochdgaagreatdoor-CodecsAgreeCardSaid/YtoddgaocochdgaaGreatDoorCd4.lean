/- Contracts of the closures that read a line of codecs, of Lines over them, of ReadOffer and OfferRead. Conditions: bytealg.MaxLen holds some number; the table of powers of ten. -/
import Derived.Test.YtoddgaocochdgaaGreatDoorCd3
namespace Go.Proofs.YtoddgaocochdgaaGreatDoor
open Go.RowKit

def lnC (t : List UInt8) (k : Nat) : ByteArray := ⟨(lineN t k).toArray⟩
theorem lnC_eq {t : List UInt8} {k : Nat} {line : ByteArray} (h : line.data.toList = lineN t k) : line = lnC t k := by
  unfold lnC
  rw [← h]
def pcC (s : ByteArray) (i : Nat) : ByteArray := (pieces s).getD i ⟨#[]⟩
theorem pcC_size {s : ByteArray} (i : Nat) : (pcC s i).size ≤ s.size := by
  unfold pcC
  rw [List.getD_eq_getElem?_getD]
  cases h : (pieces s)[i]? with
  | none => exact Nat.zero_le _
  | some x => exact splitB_size _ _ s x (List.mem_of_getElem? h)
def cdB (s : ByteArray) : Bool := okW s && (decide ((pieces s).length = 3) && (numB (pcC s 0).data.toList 9 && numB (pcC s 2).data.toList 9))
def cdV (s : ByteArray) : CdV := ⟨numN (pcC s 0).data.toList, numN (pcC s 2).data.toList, pcC s 1⟩
def cOk (t : List UInt8) (k : Nat) : Bool := cdB (lnC t k)
def cOut (t : List UInt8) : Nat → List CdV
  | 0 => []
  | k + 1 => cOut t k ++ [cdV (lnC t k)]
theorem three {α : Type} {L : List α} (h : L.length = 3) : ∃ a b c, L = [a, b, c] := by
  match L, h with
  | [a, b, c], _ => exact ⟨a, b, c, rfl⟩
/-- Words, both ways. -/
def WordsX (s : ByteArray) (w : World) (e : Ending) (w' : World) : Prop :=
  w.grownBy w' none ∧ ((okW s = true ∧ ∃ B : Addr, e = .returned (.tuple #[.slice (some B) (pieces s).length (pieces s).length, .bool true]) ∧ Recs srow 1 w' w.heap.size (some B) (pieces s).length (pieces s).length (pieces s)) ∨ (okW s = false ∧ ∃ A n c, e = .returned (.tuple #[.slice A n c, .bool false])))
theorem pWordsX_any (s : ByteArray) (w : World) (hs : s.size ≤ 1000000) (hm : MxT w) : Calls Tryz.prog 73 #[.string s] w (WordsX s w) :=
  (pWords_any s w hs hm).mono fun e w' h => ⟨h.1, by
    rcases h.2 with h | ⟨h1, h2⟩
    · exact .inl h
    · exact .inr ⟨h1, _, _, _, h2⟩⟩
theorem dWordsX_any (s : ByteArray) (w : World) (hs : s.size ≤ 1000000) (hm : MxT w) : Calls Tryz.prog 77 #[.string s] w (WordsX s w) :=
  (dWords_any s w hs hm).mono fun e w' h => ⟨h.1, by
    obtain ⟨_, B, h2, h3⟩ := h
    cases hk : okW s
    · rw [hk] at h2; exact .inr ⟨rfl, _, _, _, h2⟩
    · rw [hk] at h2; exact .inl ⟨rfl, B, h2, h3⟩⟩
def NumX (l : List UInt8) (most : Nat) (w : World) (e : Ending) (w' : World) : Prop := ∃ x : Int, e = .returned (.tuple #[.int .i64 x, .bool (numB l most)]) ∧ (numB l most = true → x = numN l) ∧ w.grownBy w' none
theorem pNumX_any (s : ByteArray) (most : Nat) (w : World) (hs : s.size ≤ 1000000) (hm : most ≤ 17) (_hp : PwT w) : Calls Tryz.prog 74 #[.string s, .int .i64 most] w (NumX s.data.toList most w) :=
  (pNumber_any s most w hs hm).mono fun e w' h => ⟨_, h.1, fun q => if_pos q, h.2⟩
theorem dNumX_any (s : ByteArray) (most : Nat) (w : World) (hs : s.size ≤ 1000000) (hm : most ≤ 17) (hp : PwT w) : Calls Tryz.prog 78 #[.string s, .int .i64 most] w (NumX s.data.toList most w) :=
  (dNumber_any s most w hs hm hp).mono fun e w' h => by
    obtain ⟨x, h1, _, _, h2, h3⟩ := h
    exact ⟨x, h1, h2, h3⟩
/-- Behind k lines that were taken: what was read lies in a slice of its own behind the captured variable. -/
structure StC (t : List UInt8) (base : World) (ob k : Nat) (w : World) : Prop where
  g : base.grownBy w none
  mx : MxT w
  pw : PwT w
  hob : base.heap.size ≤ ob
  hm : 0 < base.heap.size
  hp : 2 < base.heap.size
  out : ∃ B c, Blk w ob 26 #[.slice B k c] ∧ OwnR CdV.row 3 w (ob + 1) 43 B k c (cOut t k)
theorem StC.kept {t : List UInt8} {base w w' : World} {ob k : Nat} (h : StC t base ob k w) (hg : w.grownBy w' none) : StC t base ob k w' := by
  obtain ⟨B, c, h1, h2⟩ := h.out
  exact ⟨gr_none h.g hg, h.mx.grown hg, h.pw.grown hg, h.hob, h.hm, h.hp, B, c, h1.grown hg (by simp), h2.kept hg (fun g e => by cases e)⟩
set_option maxHeartbeats 8000000 in
set_option maxRecDepth 100000 in
theorem pCdLine_any (t : List UInt8) (base : World) (ob k : Nat) (line : ByteArray) (w : World) (h : StC t base ob k w) (hl : line.data.toList = lineN t k) (hs : line.size ≤ 1000000) (hk : k < 1000000) :
    Calls Tryz.prog 72 #[.string line, .pointer (some ⟨ob, 0, none⟩)] w (fun e w' => e = .returned (.bool (cOk t k)) ∧ base.grownBy w' none ∧ (cOk t k = true → StC t base ob (k + 1) w')) := by
  have hln := lnC_eq hl
  obtain ⟨B, c, hob, hown⟩ := h.out
  have H := Lib.hid h; have HOB := Lib.hid hob; have HO := Lib.hid hown
  have HOKB := Lib.hid (show cOk t k = cdB line by unfold cOk; rw [← hln])
  have HRV := Lib.hid (show cOut t (k + 1) = cOut t k ++ [cdV line] by
    show cOut t k ++ [cdV (lnC t k)] = _
    rw [← hln])
  clear hl hln h hob hown
  go_enter Tryz.func72, Tryz.ntmps72
  go_wp2_with fail
  refine (pWordsX_any line _ hs H.out.mx).mono ?_
  rintro e w1 ⟨hg1, hcase⟩
  replace H := Lib.hid (H.out.kept hg1)
  replace HOB := Lib.hid (HOB.out.grown hg1 (by simp))
  replace HO := Lib.hid (HO.out.kept hg1 (fun g e => by cases e))
  (try replace HRX := Lib.hid (HRX.out.grown hg1 (fun g e => by cases e)))
  clear hg1
  obtain ⟨L, hL⟩ : ∃ L, pieces line = L := ⟨_, rfl⟩
  obtain ⟨lo, hlo⟩ : ∃ b, w.heap.size = b := ⟨_, rfl⟩
  rw [hL, hlo] at hcase
  have HL := Lib.hid hL
  clear hL hlo
  rcases hcase with ⟨hok, B0, rfl, hrec⟩ | ⟨hok, A1, n1, c1, rfl⟩
  rotate_left 1
  · have HOK := Lib.hid hok
    clear hok
    have HF := Lib.hid (show cOk t k = false by rw [HOKB.out]; unfold cdB; rw [HOK.out]; rfl)
    go_wp2_with fail
    go_ret
    exact ⟨by rw [HF.out]; try rfl, H.out.g, fun e => by rw [HF.out] at e; cases e⟩
  have HOK := Lib.hid hok
  clear hok
  by_cases h3 : L.length = 3
  rotate_left 1
  · obtain ⟨n, hn⟩ : ∃ n, L.length = n := ⟨_, rfl⟩
    rw [hn] at h3 hrec ⊢
    have HF0 := Lib.hid (show cdB line = false by unfold cdB; rw [HOK.out, HL.out, hn, decide_eq_false h3]; rfl)
    have d3 : ((n : Int) != 3) = true := by rw [bne_iff_ne]; omega
    clear hrec h3 hn
    have HF := Lib.hid (show cOk t k = false by rw [HOKB.out]; exact HF0.out)
    go_wp2_with fail
    go_ret
    exact ⟨by rw [HF.out]; try rfl, H.out.g, fun e => by rw [HF.out] at e; cases e⟩
  obtain ⟨x0, x1, x2, rfl⟩ := three h3
  change Recs srow 1 w1 lo (some B0) 3 3 [x0, x1, x2] at hrec
  obtain ⟨bg, bo, _, hB, _, hbg, _⟩ := hrec.get srow_len (show 0 < 3 by omega)
  injection hB with hB
  subst hB
  have HRX := Lib.hid hrec
  have p0 : pcC line 0 = x0 := by unfold pcC; rw [HL.out]; rfl
  have p1 : pcC line 1 = x1 := by unfold pcC; rw [HL.out]; rfl
  have p2 : pcC line 2 = x2 := by unfold pcC; rw [HL.out]; rfl
  have hs0 : x0.size ≤ 1000000 := by rw [← p0]; have := pcC_size (s := line) 0; omega
  have hs2 : x2.size ≤ 1000000 := by rw [← p2]; have := pcC_size (s := line) 2; omega
  obtain ⟨NB0, hNB0⟩ : ∃ b, numB x0.data.toList 9 = b := ⟨_, rfl⟩
  obtain ⟨NB2, hNB2⟩ : ∃ b, numB x2.data.toList 9 = b := ⟨_, rfl⟩
  have HB0 := Lib.hid (show cdB line = (NB0 && NB2) by unfold cdB; rw [HOK.out, HL.out, p0, p2, hNB0, hNB2]; rfl)
  have HVV := Lib.hid (show cdV line = ⟨numN x0.data.toList, numN x2.data.toList, x1⟩ by unfold cdV; rw [p0, p1, p2])
  have HN0 := Lib.hid hNB0; have HN2 := Lib.hid hNB2
  clear hrec hbg p0 p1 p2 h3 hNB0 hNB2
  have c0 := HRX.out.at_ srow_len (i := 0) (a := x0) rfl 0 _ rfl
  simp only [Nat.mul_one, Nat.add_zero, Nat.zero_add, Nat.one_mul] at c0
  go_wp2_with fail
  refine (pNumX_any x0 9 _ hs0 (by omega) H.out.pw).mono ?_
  rintro e w5 ⟨X0, rfl, hx0, hg5⟩
  rw [HN0.out] at hx0 ⊢
  replace H := Lib.hid (H.out.kept hg5)
  replace HOB := Lib.hid (HOB.out.grown hg5 (by simp))
  replace HO := Lib.hid (HO.out.kept hg5 (fun g e => by cases e))
  (try replace HRX := Lib.hid (HRX.out.grown hg5 (fun g e => by cases e)))
  have HX0 := Lib.hid hx0
  clear hg5 c0 hx0
  have c2 := HRX.out.at_ srow_len (i := 2) (a := x2) rfl 0 _ rfl
  simp only [Nat.mul_one, Nat.add_zero, Nat.zero_add, Nat.one_mul] at c2
  go_wp2_with fail
  refine (pNumX_any x2 9 _ hs2 (by omega) H.out.pw).mono ?_
  rintro e w6 ⟨X2, rfl, hx2, hg6⟩
  rw [HN2.out] at hx2 ⊢
  replace H := Lib.hid (H.out.kept hg6)
  replace HOB := Lib.hid (HOB.out.grown hg6 (by simp))
  replace HO := Lib.hid (HO.out.kept hg6 (fun g e => by cases e))
  (try replace HRX := Lib.hid (HRX.out.grown hg6 (fun g e => by cases e)))
  have HX2 := Lib.hid hx2
  clear hg6 c2 hx2
  have zob := HOB.out.lt
  have zb := H.out.hob
  have hb1 : base.heap.size ≤ ob + 1 := by omega
  have hob2 : ob + 1 ≤ w6.heap.size := by omega
  go_upto_region 6 with (fail)
  refine wp_region_B (fun w' => w6.grownBy w' none) 8 (by kernel_rfl) ?_
  have hHeld : w6.grownBy w6.drew none := gr_drew (gr_refl _ _)
  generalize w6.drew = wd at hHeld ⊢
  refine B_take (k := 1) false (v := ?_) (by rfl) (by kernel_rfl) (by exact fun _ _ _ h => h) (by rfl) ?_ (by first | exact .inr hHeld | exact .inl (by rfl)) ?_
  rotate_left 1
  · intro w hSw
    clear hSw
    go_simp
    (try with_reducible rfl)
  (try simp only [Act.put, List.setIfInBounds_toArray, List.set_cons_zero, List.set_cons_succ])
  refine B_take (k := 2) false (v := ?_) (by rfl) (by kernel_rfl) (by exact fun _ _ _ h => h) (by rfl) ?_ (by first | exact .inr hHeld | exact .inl (by rfl)) ?_
  rotate_left 1
  · intro w hSw
    clear hSw
    go_simp
    (try with_reducible rfl)
  (try simp only [Act.put, List.setIfInBounds_toArray, List.set_cons_zero, List.set_cons_succ])
  refine B_take (k := 3) false (v := ?_) (by rfl) (by kernel_rfl) (by exact fun _ _ _ h => h) (by rfl) ?_ (by first | exact .inr hHeld | exact .inl (by rfl)) ?_
  rotate_left 1
  · intro w hSw
    clear hSw
    go_simp
    (try with_reducible rfl)
  (try simp only [Act.put, List.setIfInBounds_toArray, List.set_cons_zero, List.set_cons_succ])
  refine B_take (k := 5) false (v := ?_) (by rfl) (by kernel_rfl) (by exact fun _ _ _ h => h) (by rfl) ?_ (by first | exact .inr hHeld | exact .inl (by rfl)) ?_
  rotate_left 1
  · intro w hSw
    clear hSw
    go_simp
    (try with_reducible rfl)
  (try simp only [Act.put, List.setIfInBounds_toArray, List.set_cons_zero, List.set_cons_succ])
  refine B_take (k := 0) true (v := ?_) (by rfl) (by kernel_rfl) (by exact fun _ _ _ h => h) (by rfl) ?_ (.inr hHeld) ?_
  rotate_left 1
  · intro w' hSw
    have kc := (HOB.out.grown hSw (by simp)).cell 0
    go_simp
    (try with_reducible rfl)
  (try simp only [Act.put, List.setIfInBounds_toArray, List.set_cons_zero, List.set_cons_succ])
  refine B_take (k := 4) true (v := ?_) (by rfl) (by kernel_rfl) (by exact fun _ _ _ h => h) (by rfl) ?_ (.inr hHeld) ?_
  rotate_left 1
  · intro w' hSw
    have kc := (HRX.out.grown hSw (fun g e => by cases e)).at_ srow_len (i := 1) (a := x1) rfl 0 _ rfl
    simp only [Nat.mul_one, Nat.add_zero, Nat.zero_add, Nat.one_mul] at kc
    go_simp
    (try with_reducible rfl)
  (try simp only [Act.put, List.setIfInBounds_toArray, List.set_cons_zero, List.set_cons_succ])
  refine B_take (k := 6) false (v := ?_) (by rfl) (by kernel_rfl) (by exact fun _ _ _ h => h) (by rfl) ?_ (by first | exact .inr hHeld | exact .inl (by rfl)) ?_
  rotate_left 1
  · intro w hSw
    clear hSw
    go_simp
    (try with_reducible rfl)
  (try simp only [Act.put, List.setIfInBounds_toArray, List.set_cons_zero, List.set_cons_succ])
  refine B_run (k := 7) (by rfl) (by kernel_rfl) (by rfl) (fun K hK => ?_)
  go_simp
  obtain ⟨wa, hwa⟩ : ∃ v, wd.alloc (.cells #[.int .i64 X0, .int .i64 X2, .string x1] 43) = v := ⟨_, rfl⟩
  have hga : wd.grownBy wa none := by rw [← hwa]; exact gr_alloc (gr_refl _ _) _
  have hgA : w6.grownBy wa none := gr_none hHeld hga
  have HRD := Lib.hid (show Reads wa wd.heap.size 3 (some ⟨wd.heap.size, 0, none⟩) 1 1 [.int .i64 X0, .int .i64 X2, .string x1] by rw [← hwa]; exact Reads.one _ _ _ _ rfl)
  (try rw [hwa])
  refine hK _ _ (.inr hgA) ?_
  clear hK K hHeld hwa
  have hHeld := hgA
  (try simp only [Act.put, List.setIfInBounds_toArray, List.set_cons_zero, List.set_cons_succ])
  have HOA := Lib.hid (HO.out.kept hgA (fun g e => by cases e))
  have HOBA := Lib.hid (HOB.out.grown hgA (by simp))
  have hsz := hgA.size
  refine B_run (k := 8) (by rfl) (by kernel_rfl) (by rfl) (fun K hK => ?_)
  refine wp_app _ _ _ Tryz.cdsT (by rfl) (ob + 1) B k c _ (by rfl) (by exact HOA.out.1) _ _ 1 1 [.int .i64 X0, .int .i64 X2, .string x1] (by rfl) (by exact HRD.out) (by simp [Value.oneCell']) (by unfold maxLen; omega) (by omega) (by omega) ?_
  intro A9 c9 w9 h9
  have HB9 := Lib.hid (HOBA.out.grown h9.2.1 (by intro e; have := (HOA.out.1.lt e.symm).1; omega))
  have f9 := HB9.out.frozen 0
  have o9 := HB9.out.cell 0
  have H9 := Lib.hid h9
  refine hK _ _ (.inl (by rfl)) ?_
  clear hK K hHeld h9
  (try simp only [Act.put, List.setIfInBounds_toArray, List.set_cons_zero, List.set_cons_succ])
  refine B_run (k := 9) (by rfl) (by kernel_rfl) (by rfl) (fun K hK => ?_)
  go_simp
  refine hK _ _ (.inl (by rfl)) ?_
  clear hK K
  (try simp only [Act.put, List.setIfInBounds_toArray, List.set_cons_zero, List.set_cons_succ])
  refine B_done (by kernel_rfl) ?_
  have hg9 := H9.out.2.1
  have hgb : base.grownBy w9 none := gr_trans (gr_none H.out.g hgA) hg9 (fun g e => .inr (by have := (HOA.out.1.lt e).1; omega))
  have hgs : w9.grownBy (w9.setCell ⟨ob, 0, none⟩ (.slice A9 (k + 1) c9)) (some ob) := gr_setCell (gr_refl _ _) (.inl rfl) _
  have HGF := Lib.hid (show base.grownBy (w9.setCell ⟨ob, 0, none⟩ (.slice A9 (k + 1) c9)) none from gr_trans hgb hgs (fun g e => .inr (by injection e with e; omega)))
  have HST := Lib.hid (show (⟨X0, X2, x1⟩ : CdV) = cdV line → StC t base ob (k + 1) (w9.setCell ⟨ob, 0, none⟩ (.slice A9 (k + 1) c9)) from fun eq => by
    refine ⟨HGF.out, ?_, ?_, H.out.hob, H.out.hm, H.out.hp, A9, c9, HB9.out.set_ 0 _, ?_⟩
    · exact ((H.out.mx.grown hgA).low hg9 (fun g e => by have := (HOA.out.1.lt e).1; have := H.out.hm; omega)).low hgs (fun g e => by injection e with e; have := H.out.hm; omega)
    · exact ((H.out.pw.grown hgA).low hg9 (fun g e => by have := (HOA.out.1.lt e).1; have := H.out.hp; omega)).low hgs (fun g e => by injection e with e; have := H.out.hp; omega)
    · rw [HRV.out, ← eq]
      exact (HOA.out.app rfl (by exact H9.out)).kept hgs (fun g e2 e3 => by injection e2 with e2; have := (H9.out.1.lt e3).1; omega))
  clear hg9 hgb hgs hgA hga o9 f9
  cases NB0
  · have HF := Lib.hid (show cOk t k = false by rw [HOKB.out, HB0.out]; rfl)
    go_wp2_with fail
    go_ret
    exact ⟨by rw [HF.out]; try rfl, HGF.out, fun e => by rw [HF.out] at e; cases e⟩
  · cases NB2
    · have HF := Lib.hid (show cOk t k = false by rw [HOKB.out, HB0.out]; rfl)
      go_wp2_with fail
      go_ret
      exact ⟨by rw [HF.out]; try rfl, HGF.out, fun e => by rw [HF.out] at e; cases e⟩
    · have HF := Lib.hid (show cOk t k = true by rw [HOKB.out, HB0.out]; rfl)
      have HEQ := Lib.hid (show (⟨X0, X2, x1⟩ : CdV) = cdV line by rw [HVV.out, HX0.out rfl, HX2.out rfl])
      go_wp2_with fail
      go_ret
      exact ⟨by rw [HF.out]; try rfl, HGF.out, fun _ => HST.out HEQ.out⟩
set_option maxHeartbeats 8000000 in
set_option maxRecDepth 100000 in
theorem dCdLine_any (t : List UInt8) (base : World) (ob k : Nat) (line : ByteArray) (w : World) (h : StC t base ob k w) (hl : line.data.toList = lineN t k) (hs : line.size ≤ 1000000) (hk : k < 1000000) :
    Calls Tryz.prog 76 #[.string line, .pointer (some ⟨ob, 0, none⟩)] w (fun e w' => e = .returned (.bool (cOk t k)) ∧ base.grownBy w' none ∧ (cOk t k = true → StC t base ob (k + 1) w')) := by
  have hln := lnC_eq hl
  obtain ⟨B, c, hob, hown⟩ := h.out
  have H := Lib.hid h; have HOB := Lib.hid hob; have HO := Lib.hid hown
  have HOKB := Lib.hid (show cOk t k = cdB line by unfold cOk; rw [← hln])
  have HRV := Lib.hid (show cOut t (k + 1) = cOut t k ++ [cdV line] by
    show cOut t k ++ [cdV (lnC t k)] = _
    rw [← hln])
  clear hl hln h hob hown
  go_enter Tryz.func76, Tryz.ntmps76
  go_wp2_with fail
  refine (dWordsX_any line _ hs H.out.mx).mono ?_
  rintro e w1 ⟨hg1, hcase⟩
  replace H := Lib.hid (H.out.kept hg1)
  replace HOB := Lib.hid (HOB.out.grown hg1 (by simp))
  replace HO := Lib.hid (HO.out.kept hg1 (fun g e => by cases e))
  (try replace HRX := Lib.hid (HRX.out.grown hg1 (fun g e => by cases e)))
  clear hg1
  obtain ⟨L, hL⟩ : ∃ L, pieces line = L := ⟨_, rfl⟩
  obtain ⟨lo, hlo⟩ : ∃ b, w.heap.size = b := ⟨_, rfl⟩
  rw [hL, hlo] at hcase
  have HL := Lib.hid hL
  clear hL hlo
  rcases hcase with ⟨hok, B0, rfl, hrec⟩ | ⟨hok, A1, n1, c1, rfl⟩
  rotate_left 1
  · have HOK := Lib.hid hok
    clear hok
    have HF := Lib.hid (show cOk t k = false by rw [HOKB.out]; unfold cdB; rw [HOK.out]; rfl)
    go_wp2_with fail
    go_ret
    exact ⟨by rw [HF.out]; try rfl, H.out.g, fun e => by rw [HF.out] at e; cases e⟩
  have HOK := Lib.hid hok
  clear hok
  by_cases h3 : L.length = 3
  rotate_left 1
  · obtain ⟨n, hn⟩ : ∃ n, L.length = n := ⟨_, rfl⟩
    rw [hn] at h3 hrec ⊢
    have HF0 := Lib.hid (show cdB line = false by unfold cdB; rw [HOK.out, HL.out, hn, decide_eq_false h3]; rfl)
    have d3 : ((n : Int) != 3) = true := by rw [bne_iff_ne]; omega
    clear hrec h3 hn
    have HF := Lib.hid (show cOk t k = false by rw [HOKB.out]; exact HF0.out)
    go_wp2_with fail
    go_ret
    exact ⟨by rw [HF.out]; try rfl, H.out.g, fun e => by rw [HF.out] at e; cases e⟩
  obtain ⟨x0, x1, x2, rfl⟩ := three h3
  change Recs srow 1 w1 lo (some B0) 3 3 [x0, x1, x2] at hrec
  obtain ⟨bg, bo, _, hB, _, hbg, _⟩ := hrec.get srow_len (show 0 < 3 by omega)
  injection hB with hB
  subst hB
  have HRX := Lib.hid hrec
  have p0 : pcC line 0 = x0 := by unfold pcC; rw [HL.out]; rfl
  have p1 : pcC line 1 = x1 := by unfold pcC; rw [HL.out]; rfl
  have p2 : pcC line 2 = x2 := by unfold pcC; rw [HL.out]; rfl
  have hs0 : x0.size ≤ 1000000 := by rw [← p0]; have := pcC_size (s := line) 0; omega
  have hs2 : x2.size ≤ 1000000 := by rw [← p2]; have := pcC_size (s := line) 2; omega
  obtain ⟨NB0, hNB0⟩ : ∃ b, numB x0.data.toList 9 = b := ⟨_, rfl⟩
  obtain ⟨NB2, hNB2⟩ : ∃ b, numB x2.data.toList 9 = b := ⟨_, rfl⟩
  have HB0 := Lib.hid (show cdB line = (NB0 && NB2) by unfold cdB; rw [HOK.out, HL.out, p0, p2, hNB0, hNB2]; rfl)
  have HVV := Lib.hid (show cdV line = ⟨numN x0.data.toList, numN x2.data.toList, x1⟩ by unfold cdV; rw [p0, p1, p2])
  have HN0 := Lib.hid hNB0; have HN2 := Lib.hid hNB2
  clear hrec hbg p0 p1 p2 h3 hNB0 hNB2
  have c0 := HRX.out.at_ srow_len (i := 0) (a := x0) rfl 0 _ rfl
  simp only [Nat.mul_one, Nat.add_zero, Nat.zero_add, Nat.one_mul] at c0
  go_wp2_with fail
  refine (dNumX_any x0 9 _ hs0 (by omega) H.out.pw).mono ?_
  rintro e w5 ⟨X0, rfl, hx0, hg5⟩
  rw [HN0.out] at hx0 ⊢
  replace H := Lib.hid (H.out.kept hg5)
  replace HOB := Lib.hid (HOB.out.grown hg5 (by simp))
  replace HO := Lib.hid (HO.out.kept hg5 (fun g e => by cases e))
  (try replace HRX := Lib.hid (HRX.out.grown hg5 (fun g e => by cases e)))
  have HX0 := Lib.hid hx0
  clear hg5 c0 hx0
  have c2 := HRX.out.at_ srow_len (i := 2) (a := x2) rfl 0 _ rfl
  simp only [Nat.mul_one, Nat.add_zero, Nat.zero_add, Nat.one_mul] at c2
  go_wp2_with fail
  refine (dNumX_any x2 9 _ hs2 (by omega) H.out.pw).mono ?_
  rintro e w6 ⟨X2, rfl, hx2, hg6⟩
  rw [HN2.out] at hx2 ⊢
  replace H := Lib.hid (H.out.kept hg6)
  replace HOB := Lib.hid (HOB.out.grown hg6 (by simp))
  replace HO := Lib.hid (HO.out.kept hg6 (fun g e => by cases e))
  (try replace HRX := Lib.hid (HRX.out.grown hg6 (fun g e => by cases e)))
  have HX2 := Lib.hid hx2
  clear hg6 c2 hx2
  have zob := HOB.out.lt
  have zb := H.out.hob
  have hb1 : base.heap.size ≤ ob + 1 := by omega
  have hob2 : ob + 1 ≤ w6.heap.size := by omega
  go_upto_region 6 with (fail)
  refine wp_region_B (fun w' => w6.grownBy w' none) 8 (by kernel_rfl) ?_
  have hHeld : w6.grownBy w6.drew none := gr_drew (gr_refl _ _)
  generalize w6.drew = wd at hHeld ⊢
  refine B_take (k := 1) false (v := ?_) (by rfl) (by kernel_rfl) (by exact fun _ _ _ h => h) (by rfl) ?_ (by first | exact .inr hHeld | exact .inl (by rfl)) ?_
  rotate_left 1
  · intro w hSw
    clear hSw
    go_simp
    (try with_reducible rfl)
  (try simp only [Act.put, List.setIfInBounds_toArray, List.set_cons_zero, List.set_cons_succ])
  refine B_take (k := 2) false (v := ?_) (by rfl) (by kernel_rfl) (by exact fun _ _ _ h => h) (by rfl) ?_ (by first | exact .inr hHeld | exact .inl (by rfl)) ?_
  rotate_left 1
  · intro w hSw
    clear hSw
    go_simp
    (try with_reducible rfl)
  (try simp only [Act.put, List.setIfInBounds_toArray, List.set_cons_zero, List.set_cons_succ])
  refine B_take (k := 3) false (v := ?_) (by rfl) (by kernel_rfl) (by exact fun _ _ _ h => h) (by rfl) ?_ (by first | exact .inr hHeld | exact .inl (by rfl)) ?_
  rotate_left 1
  · intro w hSw
    clear hSw
    go_simp
    (try with_reducible rfl)
  (try simp only [Act.put, List.setIfInBounds_toArray, List.set_cons_zero, List.set_cons_succ])
  refine B_take (k := 5) false (v := ?_) (by rfl) (by kernel_rfl) (by exact fun _ _ _ h => h) (by rfl) ?_ (by first | exact .inr hHeld | exact .inl (by rfl)) ?_
  rotate_left 1
  · intro w hSw
    clear hSw
    go_simp
    (try with_reducible rfl)
  (try simp only [Act.put, List.setIfInBounds_toArray, List.set_cons_zero, List.set_cons_succ])
  refine B_take (k := 0) true (v := ?_) (by rfl) (by kernel_rfl) (by exact fun _ _ _ h => h) (by rfl) ?_ (.inr hHeld) ?_
  rotate_left 1
  · intro w' hSw
    have kc := (HOB.out.grown hSw (by simp)).cell 0
    go_simp
    (try with_reducible rfl)
  (try simp only [Act.put, List.setIfInBounds_toArray, List.set_cons_zero, List.set_cons_succ])
  refine B_take (k := 4) true (v := ?_) (by rfl) (by kernel_rfl) (by exact fun _ _ _ h => h) (by rfl) ?_ (.inr hHeld) ?_
  rotate_left 1
  · intro w' hSw
    have kc := (HRX.out.grown hSw (fun g e => by cases e)).at_ srow_len (i := 1) (a := x1) rfl 0 _ rfl
    simp only [Nat.mul_one, Nat.add_zero, Nat.zero_add, Nat.one_mul] at kc
    go_simp
    (try with_reducible rfl)
  (try simp only [Act.put, List.setIfInBounds_toArray, List.set_cons_zero, List.set_cons_succ])
  refine B_take (k := 6) false (v := ?_) (by rfl) (by kernel_rfl) (by exact fun _ _ _ h => h) (by rfl) ?_ (by first | exact .inr hHeld | exact .inl (by rfl)) ?_
  rotate_left 1
  · intro w hSw
    clear hSw
    go_simp
    (try with_reducible rfl)
  (try simp only [Act.put, List.setIfInBounds_toArray, List.set_cons_zero, List.set_cons_succ])
  refine B_run (k := 7) (by rfl) (by kernel_rfl) (by rfl) (fun K hK => ?_)
  go_simp
  obtain ⟨wa, hwa⟩ : ∃ v, wd.alloc (.cells #[.int .i64 X0, .int .i64 X2, .string x1] 43) = v := ⟨_, rfl⟩
  have hga : wd.grownBy wa none := by rw [← hwa]; exact gr_alloc (gr_refl _ _) _
  have hgA : w6.grownBy wa none := gr_none hHeld hga
  have HRD := Lib.hid (show Reads wa wd.heap.size 3 (some ⟨wd.heap.size, 0, none⟩) 1 1 [.int .i64 X0, .int .i64 X2, .string x1] by rw [← hwa]; exact Reads.one _ _ _ _ rfl)
  (try rw [hwa])
  refine hK _ _ (.inr hgA) ?_
  clear hK K hHeld hwa
  have hHeld := hgA
  (try simp only [Act.put, List.setIfInBounds_toArray, List.set_cons_zero, List.set_cons_succ])
  have HOA := Lib.hid (HO.out.kept hgA (fun g e => by cases e))
  have HOBA := Lib.hid (HOB.out.grown hgA (by simp))
  have hsz := hgA.size
  refine B_run (k := 8) (by rfl) (by kernel_rfl) (by rfl) (fun K hK => ?_)
  refine wp_app _ _ _ Tryz.cdsT (by rfl) (ob + 1) B k c _ (by rfl) (by exact HOA.out.1) _ _ 1 1 [.int .i64 X0, .int .i64 X2, .string x1] (by rfl) (by exact HRD.out) (by simp [Value.oneCell']) (by unfold maxLen; omega) (by omega) (by omega) ?_
  intro A9 c9 w9 h9
  have HB9 := Lib.hid (HOBA.out.grown h9.2.1 (by intro e; have := (HOA.out.1.lt e.symm).1; omega))
  have f9 := HB9.out.frozen 0
  have o9 := HB9.out.cell 0
  have H9 := Lib.hid h9
  refine hK _ _ (.inl (by rfl)) ?_
  clear hK K hHeld h9
  (try simp only [Act.put, List.setIfInBounds_toArray, List.set_cons_zero, List.set_cons_succ])
  refine B_run (k := 9) (by rfl) (by kernel_rfl) (by rfl) (fun K hK => ?_)
  go_simp
  refine hK _ _ (.inl (by rfl)) ?_
  clear hK K
  (try simp only [Act.put, List.setIfInBounds_toArray, List.set_cons_zero, List.set_cons_succ])
  refine B_done (by kernel_rfl) ?_
  have hg9 := H9.out.2.1
  have hgb : base.grownBy w9 none := gr_trans (gr_none H.out.g hgA) hg9 (fun g e => .inr (by have := (HOA.out.1.lt e).1; omega))
  have hgs : w9.grownBy (w9.setCell ⟨ob, 0, none⟩ (.slice A9 (k + 1) c9)) (some ob) := gr_setCell (gr_refl _ _) (.inl rfl) _
  have HGF := Lib.hid (show base.grownBy (w9.setCell ⟨ob, 0, none⟩ (.slice A9 (k + 1) c9)) none from gr_trans hgb hgs (fun g e => .inr (by injection e with e; omega)))
  have HST := Lib.hid (show (⟨X0, X2, x1⟩ : CdV) = cdV line → StC t base ob (k + 1) (w9.setCell ⟨ob, 0, none⟩ (.slice A9 (k + 1) c9)) from fun eq => by
    refine ⟨HGF.out, ?_, ?_, H.out.hob, H.out.hm, H.out.hp, A9, c9, HB9.out.set_ 0 _, ?_⟩
    · exact ((H.out.mx.grown hgA).low hg9 (fun g e => by have := (HOA.out.1.lt e).1; have := H.out.hm; omega)).low hgs (fun g e => by injection e with e; have := H.out.hm; omega)
    · exact ((H.out.pw.grown hgA).low hg9 (fun g e => by have := (HOA.out.1.lt e).1; have := H.out.hp; omega)).low hgs (fun g e => by injection e with e; have := H.out.hp; omega)
    · rw [HRV.out, ← eq]
      exact (HOA.out.app rfl (by exact H9.out)).kept hgs (fun g e2 e3 => by injection e2 with e2; have := (H9.out.1.lt e3).1; omega))
  clear hg9 hgb hgs hgA hga o9 f9
  cases NB0
  · have HF := Lib.hid (show cOk t k = false by rw [HOKB.out, HB0.out]; rfl)
    go_wp2_with fail
    go_ret
    exact ⟨by rw [HF.out]; try rfl, HGF.out, fun e => by rw [HF.out] at e; cases e⟩
  · cases NB2
    · have HF := Lib.hid (show cOk t k = false by rw [HOKB.out, HB0.out]; rfl)
      go_wp2_with fail
      go_ret
      exact ⟨by rw [HF.out]; try rfl, HGF.out, fun e => by rw [HF.out] at e; cases e⟩
    · have HF := Lib.hid (show cOk t k = true by rw [HOKB.out, HB0.out]; rfl)
      have HEQ := Lib.hid (show (⟨X0, X2, x1⟩ : CdV) = cdV line by rw [HVV.out, HX0.out rfl, HX2.out rfl])
      go_wp2_with fail
      go_ret
      exact ⟨by rw [HF.out]; try rfl, HGF.out, fun _ => HST.out HEQ.out⟩
end Go.Proofs.YtoddgaocochdgaaGreatDoor

/- Contracts of isDialled, begins, Matches and CheckPattern. Conditions: none. -/
import Derived.Test.YtkkpioinccoinaaDoorPat8
import Derived.Test.YtkkpioinccoinaaDoorRefPat6
import Derived.Test.YtkkpioinccoinaaDoorPatC
import Derived.Test.YtkkpioinccoinaaDoorShelfTrim
namespace Go.Proofs.YtkkpioinccoinaaDoor
open Go.RowKit

/-- What can be dialled. -/
def dialOk (l : List Nat) : Bool := decide (1 ≤ l.length) && decide (l.length ≤ 30) && l.all (fun b => decide (b ∈ sgn))
theorem head_drop {p : UInt8 → Bool} {l : List UInt8} {a : UInt8} {r : List UInt8} (h : l.dropWhile p = a :: r) : p a = false := by
  induction l with
  | nil => cases h
  | cons b l ih =>
    rw [List.dropWhile_cons] at h
    split at h
    · exact ih h
    · rename_i hp
      injection h with h1 h2
      subst h1
      simpa using hp
theorem drop_all {p : UInt8 → Bool} {l : List UInt8} : l.dropWhile p = [] ↔ ∀ a ∈ l, p a = true := by
  induction l with
  | nil => simp
  | cons b l ih =>
    rw [List.dropWhile_cons]
    by_cases hp : p b = true
    · rw [if_pos hp, ih]; simp [hp]
    · rw [if_neg hp]; simp [hp]
theorem trim_nil (l cs : List UInt8) : Lib.trimS l cs = [] ↔ ∀ b ∈ l, cs.contains b = true := by
  unfold Lib.trimS Lib.trimLeftS Lib.trimRightS
  rw [drop_all]
  constructor
  · intro h
    cases hd : l.reverse.dropWhile (cs.contains ·) with
    | nil =>
      have := drop_all.1 hd
      intro b hb
      exact this b (by simpa using hb)
    | cons a r =>
      exfalso
      have h1 := head_drop hd
      have h2 := h a (by rw [hd]; simp)
      rw [h1] at h2
      cases h2
  · intro h
    have : l.reverse.dropWhile (cs.contains ·) = [] := drop_all.2 (fun a ha => h a (by simpa using ha))
    rw [this]
    simp
theorem sgn_contains : ∀ c : Fin 256, ([35, 42, 48, 49, 50, 51, 52, 53, 54, 55, 56, 57] : List UInt8).contains c.val.toUInt8 = decide (c.val ∈ sgn) := by decide +kernel
theorem trim_signs (s : ByteArray) : (Lib.trimS s.data.toList [35, 42, 48, 49, 50, 51, 52, 53, 54, 55, 56, 57] = []) ↔ ∀ b ∈ nb s, b ∈ sgn := by
  rw [trim_nil]
  unfold nb
  constructor
  · intro h b hb
    obtain ⟨u, hu, rfl⟩ := List.mem_map.1 hb
    have h1 := h u hu
    have h2 := sgn_contains ⟨u.toNat, u.toNat_lt⟩
    dsimp only at h2
    rw [show u.toNat.toUInt8 = u by simp, h1] at h2
    exact of_decide_eq_true h2.symm
  · intro h u hu
    have h2 := sgn_contains ⟨u.toNat, u.toNat_lt⟩
    dsimp only at h2
    rw [show u.toNat.toUInt8 = u by simp, decide_eq_true (h _ (List.mem_map.2 ⟨u, hu, rfl⟩))] at h2
    exact h2
theorem trim_any (s : ByteArray) (w : World) (hs : s.size ≤ 1000000) : Calls Tryd.prog 116 #[.string s, .string ⟨#[35, 42, 48, 49, 50, 51, 52, 53, 54, 55, 56, 57]⟩] w
    (RetV (.string ⟨(Lib.trimS s.data.toList [35, 42, 48, 49, 50, 51, 52, 53, 54, 55, 56, 57]).toArray⟩) w) := by
  refine (Any.strings_Trim_laid Tryd.lays160 (by kernel_rfl) s ⟨#[35, 42, 48, 49, 50, 51, 52, 53, 54, 55, 56, 57]⟩ w (by omega) (by decide) (ascii_of_all (by decide))).mono ?_
  rintro e w' ⟨rfl, hb⟩
  exact ⟨rfl, gr_below hb none⟩
set_option maxHeartbeats 2000000 in
theorem isDialled_any (s : ByteArray) (w : World) (hs : s.size ≤ 1000000) : Calls Tryd.prog 96 #[.string s, .int .i64 1] w (RetV (.bool (dialOk (nb s))) w) := by
  have hlen := nb_len s
  have HD := Lib.hid (show dialOk (nb s) = (decide (1 ≤ s.size) && decide (s.size ≤ 30) && (nb s).all (fun b => decide (b ∈ sgn))) by unfold dialOk; rw [hlen])
  clear hlen
  by_cases h1 : 1 ≤ s.size
  · have q1 : decide ((1 : Int) ≤ (s.size : Int)) = true := decide_eq_true (by omega)
    by_cases h2 : s.size ≤ 30
    · have q2 : decide ((s.size : Int) ≤ 30) = true := decide_eq_true (by omega)
      obtain ⟨u, hu⟩ : ∃ u : ByteArray, (⟨(Lib.trimS s.data.toList [35, 42, 48, 49, 50, 51, 52, 53, 54, 55, 56, 57]).toArray⟩ : ByteArray) = u := ⟨_, rfl⟩
      have HU := Lib.hid hu
      obtain ⟨B, hB⟩ : ∃ B, (nb s).all (fun b => decide (b ∈ sgn)) = B := ⟨_, rfl⟩
      have HB := Lib.hid (show dialOk (nb s) = B by rw [HD.out, decide_eq_true h1, decide_eq_true h2, hB]; rfl)
      have hul : u.toList = Lib.trimS s.data.toList [35, 42, 48, 49, 50, 51, 52, 53, 54, 55, 56, 57] := by rw [← hu]; exact ByteArray.toList_mk _
      cases B
      · have q3 : ¬ u.toList = [] := fun h => by
          rw [hul, trim_signs] at h
          have : (nb s).all (fun b => decide (b ∈ sgn)) = true := List.all_eq_true.2 (fun b hb => decide_eq_true (h b hb))
          rw [hB] at this; cases this
        have q4 : (u.toList == []) = false := by rw [beq_eq_false_iff_ne]; exact q3
        have q5 : u.toList.isEmpty = false := by rw [List.isEmpty_eq_false_iff]; exact q3
        clear hu hB hul q3
        go_enter Tryd.func96, Tryd.ntmps96
        go_wp2_with (first
          | (go_at_call 116; refine (trim_any s _ hs).mono ?_; rintro e w' ⟨rfl, hg⟩; rw [HU.out]; have HG := Lib.hid hg; clear hg)
          | fail)
        go_ret
        exact ⟨by rw [HB.out]; rfl, HG.out⟩
      · have q3 : u.toList = [] := by
          rw [hul, trim_signs]
          intro b hb
          exact of_decide_eq_true (List.all_eq_true.1 hB b hb)
        clear hu hB hul
        go_enter Tryd.func96, Tryd.ntmps96
        go_wp2_with (first
          | (go_at_call 116; refine (trim_any s _ hs).mono ?_; rintro e w' ⟨rfl, hg⟩; rw [HU.out]; have HG := Lib.hid hg; clear hg)
          | fail)
        go_ret
        exact ⟨by rw [HB.out]; rfl, HG.out⟩
    · have q2 : decide ((s.size : Int) ≤ 30) = false := decide_eq_false (by omega)
      have HB := Lib.hid (show dialOk (nb s) = false by rw [HD.out, decide_eq_false h2]; simp)
      go_enter Tryd.func96, Tryd.ntmps96
      go_wp2_with fail
      go_ret
      exact ⟨by rw [HB.out]; rfl, gr_refl _ _⟩
  · have q1 : decide ((1 : Int) ≤ (s.size : Int)) = false := decide_eq_false (by omega)
    have HB := Lib.hid (show dialOk (nb s) = false by rw [HD.out, decide_eq_false h1]; simp)
    go_enter Tryd.func96, Tryd.ntmps96
    go_wp2_with fail
    go_ret
    exact ⟨by rw [HB.out]; rfl, gr_refl _ _⟩
/-- A byte that a pattern cannot have at its place. -/
theorem match_bad {x : List Nat × Nat} {d : List Nat} {i : Nat} (hr : Right x) (hi : i < d.length) (hs : d.getD i 0 ∈ sgn) (h : hasM (takesL x i).1 (d.getD i 0) = false) : matchL x d = false := by
  rw [takes_fst hr] at h
  by_cases ho : over x i = true
  · exact over_no ho hi
  · rw [if_neg ho] at h
    unfold mAt at h
    by_cases hl : i < x.1.length
    · rw [if_pos hl] at h
      unfold matchL
      split
      · rfl
      · rw [ins_false (i := i) (fun hm => by rw [(mem_setStr.1 hm).2] at h; cases h) hl]; rfl
    · rw [if_neg hl] at h
      have : d.getD i 0 ∈ setStr 4095 := by rw [setStr_all]; exact hs
      rw [(mem_setStr.1 this).2] at h; cases h
theorem match_good {x : List Nat × Nat} {d : List Nat} (hr : Right x) (hs : ∀ b ∈ d, b ∈ sgn) (h : ∀ i, i < d.length → hasM (takesL x i).1 (d.getD i 0) = true) : matchL x d = (takesL x d.length).2 := by
  refine match_eq hr (fun i hi => ?_)
  have h1 := h i hi
  have hmem : d.getD i 0 ∈ sgn := hs _ (by rw [List.getD_eq_getElem?_getD, List.getElem?_eq_getElem hi]; exact List.getElem_mem _)
  rw [takes_fst hr] at h1
  split at h1
  · simp [hasM] at h1
  · exact of_decide_eq_true (by rw [mem_setAt hmem]; exact h1)
set_option maxRecDepth 100000 in
set_option maxHeartbeats 4000000 in
theorem begins_any (A : Option Addr) (n c : Nat) (x : List Nat × Nat) (s : ByteArray) (w : World) (h : Ints .u16 w 0 A n c (u16L x.1)) (hr : Right x) (hn : n ≤ 30) (hs : s.size ≤ 30) (hd : ∀ b ∈ nb s, b ∈ sgn) :
    Calls Tryd.prog 97 #[.agg #[.slice A n c, .int .u8 x.2], .string s] w (RetP (fun v _ => ∃ B, v = .tuple #[.bool B, .bool (matchL x (nb s))]) w) := by
  have H := Lib.hid h; have HR := Lib.hid hr; have HD := Lib.hid hd
  have HB := Lib.hid (Blk.new w 95 #[.slice A n c, .int .u8 x.2])
  clear h hr hd
  go_enter Tryd.func97, Tryd.ntmps97
  go_wp2_with fail
  have HG0 := Lib.hid (gr_alloc (gr_refl w none) (.cells #[.slice A n c, .int .u8 x.2] 95))
  generalize w.alloc (.cells #[.slice A n c, .int .u8 x.2] 95) = wb at *
  go_loopw [6, 7, 8, 12] (fun _ _ _ t wr => ∃ i : Nat, i ≤ s.size ∧ t = .int .i64 i ∧ (∀ j, j < i → hasM (takesL x j).1 ((nb s).getD j 0) = true) ∧ wb.grownBy wr none) (fun _ _ _ t _ => s.size - (intOf t).toNat)
  case atStart => exact ⟨0, Nat.zero_le _, rfl, fun j hj => by omega, gr_refl _ _⟩
  case round =>
    obtain ⟨i, hi, rfl, hin, hg⟩ := hrel
    have HIN := Lib.hid hin; have HG := Lib.hid hg
    clear hin hg
    by_cases hil : i < s.size
    · obtain ⟨b, hb⟩ : ∃ b, s[i].toNat = b := ⟨_, rfl⟩
      have hgb : (nb s).getD i 0 = b := by rw [← nb_get hil, hb]
      have hmem : b ∈ sgn := HD.out b (by rw [← hgb, List.getD_eq_getElem?_getD, List.getElem?_eq_getElem (by rw [nb_len]; exact hil)]; exact List.getElem_mem _)
      have HMEM := Lib.hid hmem
      have HGB := Lib.hid hgb
      obtain ⟨M, E, hT⟩ : ∃ M E, takesL x i = (M, E) := ⟨_, _, rfl⟩
      have HTK := Lib.hid hT
      have hM : M < 4096 := by
        have := congrArg Prod.fst hT
        dsimp only at this
        rw [← this, takes_fst HR.out]
        split
        · omega
        · exact mAt_bd HR.out i
      have hz := and_has hM hmem
      clear hmem hgb hT
      cases hh : hasM M b
      · have hz1 : (bits .and .u16 (M : Int) (onlyM b : Nat) == 0) = true := by rw [hz.1, hh]; rfl
        have HV := Lib.hid (show matchL x (nb s) = false from match_bad HR.out (i := i) (by rw [nb_len]; exact hil) (by rw [HGB.out]; exact HMEM.out) (by rw [HGB.out, HTK.out]; exact hh))
        clear hz hh
        go_wp2_with (first
          | (refine wpl_load_all Tryd.patT rfl _ rfl _ rfl _ _ (HB.out.grown HG.out (by simp)) rfl ?_)
          | (go_at_call 111
             refine (takes_any A n c i x _ ((H.out.grown HG0.out (fun g e => by cases e)).grown HG.out (fun g e => by cases e)) (by omega) (by omega)).mono ?_
             rintro e w3 ⟨rfl, hg3⟩
             rw [HTK.out]
             have HG3 := Lib.hid hg3
             clear hg3)
          | (go_at_call 126; refine (only_any b _ HMEM.out).mono ?_; rintro e w' ⟨rfl, rfl⟩)
          | fail)
        go_ret2
        exact ⟨_, rfl, ⟨_, by rw [HV.out]; rfl⟩, gr_none HG0.out (gr_none HG.out HG3.out)⟩
      · have hz1 : (bits .and .u16 (M : Int) (onlyM b : Nat) == 0) = false := by rw [hz.1, hh]; rfl
        have HHH := Lib.hid hh
        clear hz hh
        go_wp2_with (first
          | (refine wpl_load_all Tryd.patT rfl _ rfl _ rfl _ _ (HB.out.grown HG.out (by simp)) rfl ?_)
          | (go_at_call 111
             refine (takes_any A n c i x _ ((H.out.grown HG0.out (fun g e => by cases e)).grown HG.out (fun g e => by cases e)) (by omega) (by omega)).mono ?_
             rintro e w3 ⟨rfl, hg3⟩
             rw [HTK.out]
             have HG3 := Lib.hid hg3
             clear hg3)
          | (go_at_call 126; refine (only_any b _ HMEM.out).mono ?_; rintro e w' ⟨rfl, rfl⟩)
          | fail)
        go_roundw
        case rel => exact ⟨i + 1, by omega, by go_num, fun j hj => by
          rcases Nat.lt_succ_iff_lt_or_eq.1 hj with h1 | h1
          · exact HIN.out j h1
          · subst h1; rw [HGB.out, HTK.out]; exact HHH.out, gr_none HG.out HG3.out⟩
        case measure => simp [intOf]; omega
    · obtain rfl : i = s.size := by omega
      obtain ⟨M, E, hT⟩ : ∃ M E, takesL x s.size = (M, E) := ⟨_, _, rfl⟩
      have HTK := Lib.hid hT
      have HV := Lib.hid (show matchL x (nb s) = E by
        rw [match_good HR.out HD.out (fun j hj => HIN.out j (by rw [nb_len] at hj; exact hj)), nb_len, hT])
      have d0 : decide ((s.size : Int) < (s.size : Int)) = false := decide_eq_false (by omega)
      obtain ⟨Z, hZ⟩ : ∃ Z, ((M : Int) != 0) = Z := ⟨_, rfl⟩
      clear hT
      cases Z
      all_goals
        go_wp2_with (first
          | (refine wpl_load_all Tryd.patT rfl _ rfl _ rfl _ _ (HB.out.grown HG.out (by simp)) rfl ?_)
          | (go_at_call 111
             refine (takes_any A n c s.size x _ ((H.out.grown HG0.out (fun g e => by cases e)).grown HG.out (fun g e => by cases e)) (by omega) (by omega)).mono ?_
             rintro e w3 ⟨rfl, hg3⟩
             rw [HTK.out]
             have HG3 := Lib.hid hg3
             clear hg3)
          | fail)
        go_ret2
        exact ⟨_, rfl, ⟨_, by rw [HV.out]; rfl⟩, gr_none HG0.out (gr_none HG.out HG3.out)⟩
end Go.Proofs.YtkkpioinccoinaaDoor

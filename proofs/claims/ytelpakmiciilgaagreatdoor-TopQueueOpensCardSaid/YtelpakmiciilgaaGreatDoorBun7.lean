/- Contract of cmp.Or at some ints. Conditions: none. -/
import Derived.Test.YtelpakmiciilgaaGreatDoorBun6
import Derived.Test.YtelpakmiciilgaaGreatDoorBun5
import Derived.Test.YtelpakmiciilgaaGreatDoorBun1
import Derived.Test.YtelpakmiciilgaaGreatDoorBun3
import Derived.Test.YtelpakmiciilgaaGreatDoorShelfTrim
import Derived.WalkKit
namespace Go.Proofs.YtelpakmiciilgaaGreatDoor
section
open Go.RowKit

/-- The first of some numbers that is not 0. -/
def orL : List Int → Int
  | [] => 0
  | a :: l => if a = 0 then orL l else a
theorem orL_at {l : List Int} {i : Nat} {a : Int} (h : l[i]? = some a) : orL (l.drop i) = if a = 0 then orL (l.drop (i + 1)) else a := by
  obtain ⟨h1, rfl⟩ := List.getElem?_eq_some_iff.1 h
  rw [List.drop_eq_getElem_cons h1]; rfl
/-- Two lists, place by place. -/
def cmpLL {α : Type} (f : α → α → Int) : List α → List α → Int
  | [], [] => 0
  | [], _ :: _ => -1
  | _ :: _, [] => 1
  | a :: l, b :: m => if f a b = 0 then cmpLL f l m else f a b
section
variable {α : Type} {f : α → α → Int}
theorem cmpLL_drop {l m : List α} {i : Nat} {a b : α} (hl : l[i]? = some a) (hm : m[i]? = some b) : cmpLL f (l.drop i) (m.drop i) = if f a b = 0 then cmpLL f (l.drop (i + 1)) (m.drop (i + 1)) else f a b := by
  obtain ⟨h1, rfl⟩ := List.getElem?_eq_some_iff.1 hl
  obtain ⟨h2, rfl⟩ := List.getElem?_eq_some_iff.1 hm
  rw [List.drop_eq_getElem_cons h1, List.drop_eq_getElem_cons h2, cmpLL]
theorem cmpLL_gt {l m : List α} {i : Nat} (hl : i < l.length) (hm : m.length ≤ i) : cmpLL f (l.drop i) (m.drop i) = 1 := by
  rw [List.drop_eq_nil_of_le hm, List.drop_eq_getElem_cons hl]; rfl
theorem cmpLL_end {l m : List α} {i : Nat} (hl : l.length = i) : cmpLL f (l.drop i) (m.drop i) = if i < m.length then -1 else 0 := by
  rw [List.drop_eq_nil_of_le (by omega)]
  by_cases h : i < m.length
  · rw [if_pos h, List.drop_eq_getElem_cons h]; rfl
  · rw [if_neg h, List.drop_eq_nil_of_le (by omega)]; rfl
end
end
end Go.Proofs.YtelpakmiciilgaaGreatDoor
/- Acts as they lie in memory, and what is wrong with them, in plain Lean. Conditions: none. -/
namespace Go.Proofs.YtelpakmiciilgaaGreatDoor
section
open Go.RowKit

/-- An act. -/
structure ActV where
  at_ : Int
  bx : ByteArray
  id : ByteArray
  kd : Int
  lg : Int
  frm : ByteArray
def ActV.row (a : ActV) : List Value := [.int .i64 a.at_, .string a.bx, .string a.id, .int .i64 a.kd, .int .i64 a.lg, .string a.frm]
theorem ActV.row_len (a : ActV) : a.row.length = 6 := rfl
theorem ActV.one (z : ActV) : ∀ u ∈ z.row, u.oneCell' = true := fun u hu => by
  unfold ActV.row at hu
  simp only [List.mem_cons, List.not_mem_nil, or_false] at hu
  rcases hu with rfl | rfl | rfl | rfl | rfl | rfl <;> rfl
/-- What is known of an act that was read. -/
def AcOkL (a : ActV) : Prop := (a.bx.size ≤ 1000000 ∧ a.id.size ≤ 1000000 ∧ a.frm.size ≤ 1000000) ∧ (-1152921504606846976 ≤ a.at_ ∧ a.at_ ≤ 1152921504606846976) ∧ (-1152921504606846976 ≤ a.kd ∧ a.kd ≤ 1152921504606846976)
/-- What is known of an act that was drawn. -/
def AcOk (a : ActV) : Prop := (a.bx.size ≤ 1000 ∧ a.id.size ≤ 1000 ∧ a.frm.size ≤ 1000) ∧ (-1152921504606846976 ≤ a.at_ ∧ a.at_ ≤ 1152921504606846976) ∧ (-1152921504606846976 ≤ a.kd ∧ a.kd ≤ 1152921504606846976)
theorem AcOk.l {a : ActV} (h : AcOk a) : AcOkL a := ⟨⟨Nat.le_trans h.1.1 (by decide), Nat.le_trans h.1.2.1 (by decide), Nat.le_trans h.1.2.2 (by decide)⟩, h.2⟩
def AcsL (w : World) (lo : Nat) (A : Option Addr) (n c : Nat) (l : List ActV) : Prop := Recs ActV.row 6 w lo A n c l ∧ ∀ a ∈ l, AcOkL a
def Acs (w : World) (lo : Nat) (A : Option Addr) (n c : Nat) (l : List ActV) : Prop := Recs ActV.row 6 w lo A n c l ∧ ∀ a ∈ l, AcOk a
theorem Acs.l {w : World} {lo : Nat} {A : Option Addr} {n c : Nat} {l : List ActV} (h : Acs w lo A n c l) : AcsL w lo A n c l := ⟨h.1, fun a ha => (h.2 a ha).l⟩
theorem Acs.grown {w w' : World} {lo : Nat} {A : Option Addr} {n c : Nat} {l : List ActV} (h : Acs w lo A n c l) {r : Option Nat} (hg : w.grownBy w' r) (hr : ∀ g, r = some g → g < lo) : Acs w' lo A n c l := ⟨h.1.grown hg hr, h.2⟩
/-- The order of acts. -/
def acCmp (a b : ActV) : Int := orL [cmpZ a.at_ b.at_, cmpS a.bx b.bx, cmpS a.id b.id, cmpZ a.kd b.kd]
/-- Empty, or + with 4 to 15 digits behind it. -/
def fromOk (l : List Nat) : Bool := decide (l = []) || (plusOf l).elim false (fun d => decide (4 ≤ d.length) && decide (d.length ≤ 15) && digB d)
/-- What is wrong with an act by itself. -/
def acF (a : ActV) : Int :=
  if momB a.at_ then (if keyOk (nb a.bx) && keyOk (nb a.id) then (if inB a.kd 1 5 then
    (if a.kd == 1 then (if inB a.lg 1 86400000 then (if fromOk (nb a.frm) then 0 else 3) else 1) else (if a.lg == 0 then (if decide (nb a.frm = []) then 0 else 3) else 3)) else 4) else 5) else 1
def acAt (l : List ActV) (i : Nat) : Int := (l[i]?).elim 0 fun a => if acF a = 0 then (if decide (0 < i) && (l[i - 1]?).elim false (fun b => decide (0 ≤ acCmp b a)) then 7 else 0) else acF a
def acsE (l : List ActV) : Int := if 1000 < l.length then 2 else fstE (acAt l) l.length
section
variable {l : List ActV} {i : Nat} {z b : ActV}
theorem acAt_f (h : l[i]? = some z) (h1 : acF z ≠ 0) : acAt l i = acF z := by unfold acAt; rw [h]; exact if_neg h1
theorem acAt_7 (h : l[i]? = some z) (h1 : acF z = 0) (hi : 0 < i) (hb : l[i - 1]? = some b) (h7 : 0 ≤ acCmp b z) : acAt l i = 7 := by
  unfold acAt; rw [h]
  show (if acF z = 0 then _ else _) = _
  rw [if_pos h1, hb]
  simp only [Option.elim, decide_eq_true hi, decide_eq_true h7]; rfl
theorem acAt_e (h : l[i]? = some z) (h1 : acF z = 0) (hb : l[i - 1]? = some b) (h7 : ¬ 0 ≤ acCmp b z) : acAt l i = 0 := by
  unfold acAt; rw [h]
  show (if acF z = 0 then _ else _) = _
  rw [if_pos h1, hb]
  simp only [Option.elim, decide_eq_false h7, Bool.and_false]; rfl
theorem acAt_z (h : l[i]? = some z) (h1 : acF z = 0) (hi : ¬ 0 < i) : acAt l i = 0 := by
  unfold acAt; rw [h]
  show (if acF z = 0 then _ else _) = _
  rw [if_pos h1, decide_eq_false hi]; rfl
theorem acF_1 (h1 : momB z.at_ = false) : acF z = 1 := by unfold acF; rw [h1]; rfl
theorem acF_5 (h1 : momB z.at_ = true) (h2 : (keyOk (nb z.bx) && keyOk (nb z.id)) = false) : acF z = 5 := by unfold acF; rw [h1, h2]; rfl
theorem acF_4 (h1 : momB z.at_ = true) (h2 : (keyOk (nb z.bx) && keyOk (nb z.id)) = true) (h3 : inB z.kd 1 5 = false) : acF z = 4 := by unfold acF; rw [h1, h2, h3]; rfl
theorem acF_l (h1 : momB z.at_ = true) (h2 : (keyOk (nb z.bx) && keyOk (nb z.id)) = true) (h3 : inB z.kd 1 5 = true) (h4 : (z.kd == 1) = true) : acF z = if inB z.lg 1 86400000 then (if fromOk (nb z.frm) then 0 else 3) else 1 := by unfold acF; rw [h1, h2, h3, h4]; rfl
theorem acF_o (h1 : momB z.at_ = true) (h2 : (keyOk (nb z.bx) && keyOk (nb z.id)) = true) (h3 : inB z.kd 1 5 = true) (h4 : (z.kd == 1) = false) : acF z = if z.lg == 0 then (if decide (nb z.frm = []) then 0 else 3) else 3 := by unfold acF; rw [h1, h2, h3, h4]; rfl
end
/-- What is known of right acts. -/
def AcRg (z : ActV) : Prop := (0 ≤ z.at_ ∧ z.at_ ≤ 1000000000000000) ∧ (1 ≤ z.kd ∧ z.kd ≤ 5) ∧ (0 ≤ z.lg ∧ z.lg ≤ 86400000) ∧ (z.kd ≠ 1 → z.lg = 0 ∧ nb z.frm = [])
theorem acF_rg {z : ActV} (h : acF z = 0) : AcRg z := by
  cases h1 : momB z.at_
  · rw [acF_1 h1] at h; exact absurd h (by decide)
  · cases h2 : (keyOk (nb z.bx) && keyOk (nb z.id))
    · rw [acF_5 h1 h2] at h; exact absurd h (by decide)
    · cases h3 : inB z.kd 1 5
      · rw [acF_4 h1 h2 h3] at h; exact absurd h (by decide)
      · have b1 := h1; have b3 := h3
        unfold momB inB at b1
        unfold inB at b3
        simp only [Bool.and_eq_true, decide_eq_true_eq] at b1 b3
        cases h4 : (z.kd == 1)
        · rw [acF_o h1 h2 h3 h4] at h
          by_cases h5 : (z.lg == 0) = true
          · rw [if_pos h5] at h
            by_cases h6 : decide (nb z.frm = []) = true
            · have e5 : z.lg = 0 := by simpa using h5
              exact ⟨by omega, b3, by omega, fun _ => ⟨e5, of_decide_eq_true h6⟩⟩
            · rw [if_neg h6] at h; exact absurd h (by decide)
          · rw [if_neg h5] at h; exact absurd h (by decide)
        · rw [acF_l h1 h2 h3 h4] at h
          by_cases h5 : inB z.lg 1 86400000 = true
          · have b5 := h5
            unfold inB at b5
            simp only [Bool.and_eq_true, decide_eq_true_eq] at b5
            have e4 : z.kd = 1 := by simpa using h4
            exact ⟨by omega, b3, by omega, fun q => absurd e4 q⟩
          · rw [if_neg h5] at h; exact absurd h (by decide)
theorem acs_all {l : List ActV} (h : acsE l = 0) : l.length ≤ 1000 ∧ ∀ z ∈ l, AcRg z := by
  unfold acsE at h
  split at h
  · cases h
  · refine ⟨by omega, fun z hz => ?_⟩
    obtain ⟨i, hi⟩ := List.mem_iff_getElem?.1 hz
    have h0 := fstE_ev h i (List.getElem?_eq_some_iff.1 hi).1
    by_cases hf : acF z = 0
    · exact acF_rg hf
    · rw [acAt_f hi hf] at h0
      exact absurd h0 hf
/-- The document's way to the same order. -/
theorem acCmp_doc (a b : ActV) : acCmp a b = if a.at_ = b.at_ then (if cmpLL cmpS [a.bx, a.id] [b.bx, b.id] = 0 then cmpZ a.kd b.kd else cmpLL cmpS [a.bx, a.id] [b.bx, b.id]) else cmpZ a.at_ b.at_ := by
  unfold acCmp cmpLL cmpLL cmpLL orL orL orL orL orL
  have hz : cmpZ a.at_ b.at_ = 0 ↔ a.at_ = b.at_ := by
    unfold cmpZ
    by_cases h1 : a.at_ < b.at_
    · rw [if_pos h1]; constructor
      · intro h; exact absurd h (by decide)
      · intro h; omega
    · rw [if_neg h1]
      by_cases h2 : b.at_ < a.at_
      · rw [if_pos h2]; constructor
        · intro h; exact absurd h (by decide)
        · intro h; omega
      · rw [if_neg h2]; constructor
        · intro _; omega
        · intro _; rfl
  by_cases h : a.at_ = b.at_
  · rw [if_pos h, if_pos (hz.2 h)]
    by_cases h1 : cmpS a.bx b.bx = 0
    · simp only [h1, if_true]
      by_cases h2 : cmpS a.id b.id = 0
      · simp only [h2, if_true]
        by_cases h3 : cmpZ a.kd b.kd = 0
        · simp only [h3, if_true]
        · simp only [if_neg h3]
      · simp only [if_neg h2]
    · simp only [if_neg h1]
  · rw [if_neg h, if_neg (fun q => h (hz.1 q))]
end
end Go.Proofs.YtelpakmiciilgaaGreatDoor
/- strings.Compare as a call that leaves the world as it is; an order of strings. Conditions: none. -/
namespace Go.Proofs.YtelpakmiciilgaaGreatDoor
section
open Go.RowKit
theorem cmpS_ntrans {a b c : ByteArray} (h1 : ¬ cmpS a b < 0) (h2 : ¬ cmpS b c < 0) : ¬ cmpS a c < 0 := by
  intro h3
  have n1 := cmpS_neg a b; have n2 := cmpS_neg b c
  have r1 := cmpS_range a b; have r2 := cmpS_range b c
  by_cases e1 : cmpS a b = 0
  · rw [cmpS_eql (cmpS_zero.1 e1)] at h3; exact h2 h3
  · by_cases e2 : cmpS b c = 0
    · rw [← cmpS_eqr (cmpS_zero.1 e2)] at h3; exact h1 h3
    · have h4 : cmpS c a < 0 := cmpS_trans (b := b) (by omega) (by omega)
      have n3 := cmpS_neg a c
      omega
end
end Go.Proofs.YtelpakmiciilgaaGreatDoor
/- Contracts of cmp.Compare and slices.Compare at strings. Conditions: none. -/
namespace Go.Proofs.YtelpakmiciilgaaGreatDoor
section
open Go.RowKit
end
end Go.Proofs.YtelpakmiciilgaaGreatDoor
/- Contract of the document's sign. Conditions: none. -/
namespace Go.Proofs.YtelpakmiciilgaaGreatDoor
section
open Go.RowKit

def sgnZ (n : Int) : Int := if n < 0 then -1 else if 0 < n then 1 else 0
end
end Go.Proofs.YtelpakmiciilgaaGreatDoor
/- Strings of digits, prefixes and numbers: number.IsNumber, account.isPrefix and the document's PhoneNumber. Conditions: none. -/
namespace Go.Proofs.YtelpakmiciilgaaGreatDoor
section
open Go.RowKit

theorem retR {v : Value} {w : World} {e : Ending} {w' : World} (h : Same v w e w') : RetV v w e w' := by
  obtain ⟨h1, rfl⟩ := h
  exact ⟨h1, gr_refl _ _⟩
/-- What CutPrefix gives at a plus. -/
theorem plus_cut (s : ByteArray) : ∃ (d : ByteArray) (b : Bool), (⟨(Lib.trimPrefix s.data.toList [43]).toArray⟩ : ByteArray) = d ∧ Lib.hasPrefix s.data.toList [43] = b ∧ d.size ≤ s.size ∧ ((b = false ∧ plusOf (nb s) = none) ∨ (b = true ∧ plusOf (nb s) = some (nb d))) := by
  refine ⟨_, _, rfl, rfl, ?_, ?_⟩
  · show (Lib.trimPrefix s.data.toList [43]).toArray.size ≤ s.data.size
    rw [List.size_toArray, ← Array.length_toList]
    unfold Lib.trimPrefix
    split
    · rw [List.length_drop]; omega
    · exact Nat.le_refl _
  · unfold nb
    cases h : s.data.toList with
    | nil => left; simp [plusOf, Lib.hasPrefix]
    | cons a l =>
      by_cases e : a = 43
      · subst e
        right
        simp [plusOf, Lib.hasPrefix, Lib.trimPrefix]
      · left
        have e2 : a.toNat ≠ 43 := fun h2 => e (UInt8.toNat_inj.1 h2)
        have e3 : ((43 : UInt8) == a) = false := by rw [beq_eq_false_iff_ne]; exact fun h => e h.symm
        refine ⟨by simp [Lib.hasPrefix, List.isPrefixOf, e3], ?_⟩
        rw [List.map_cons]
        unfold plusOf
        split
        · rename_i h3
          injection h3 with h4
          exact absurd h4 e2
        · rfl
set_option maxRecDepth 100000 in
theorem trimDig_any (s : ByteArray) (w : World) (hs : s.size ≤ 1000000) : Calls Tryz.prog 46 #[.string s, .string ⟨#[48, 49, 50, 51, 52, 53, 54, 55, 56, 57]⟩] w
    (RetV (.string ⟨(Lib.trimS s.data.toList [48, 49, 50, 51, 52, 53, 54, 55, 56, 57]).toArray⟩) w) := by
  refine (Any.strings_Trim_laid Tryz.lays160 (by kernel_rfl) s ⟨#[48, 49, 50, 51, 52, 53, 54, 55, 56, 57]⟩ w (by omega) (by decide) (ascii_of_all (by decide))).mono ?_
  rintro e w' ⟨rfl, hb⟩
  exact ⟨rfl, gr_below hb none⟩
theorem trimDig_eq (s : ByteArray) : ∃ u : ByteArray, (⟨(Lib.trimS s.data.toList [48, 49, 50, 51, 52, 53, 54, 55, 56, 57]).toArray⟩ : ByteArray) = u ∧ ((digB (nb s) = true ∧ u.toList = []) ∨ (digB (nb s) = false ∧ (u.toList == []) = false ∧ u.toList.isEmpty = false)) := by
  refine ⟨_, rfl, ?_⟩
  rw [ByteArray.toList_mk]
  cases hd : digB (nb s)
  · right
    have : ¬ Lib.trimS s.data.toList [48, 49, 50, 51, 52, 53, 54, 55, 56, 57] = [] := fun h => by
      rw [tr_only] at h
      have : digB (nb s) = true := h
      rw [hd] at this; cases this
    exact ⟨rfl, by rw [beq_eq_false_iff_ne]; exact this, by rw [List.isEmpty_eq_false_iff]; exact this⟩
  · exact .inl ⟨rfl, (tr_only s _).2 hd⟩
/-- From lo to hi digits, and nothing else. -/
def digN (l : List Nat) (lo hi : Int) : Bool := decide (lo ≤ l.length) && decide ((l.length : Int) ≤ hi) && digB l
theorem phOk_none {l : List Nat} (h : plusOf l = none) : phOk l = false := by unfold phOk; rw [h]; rfl
theorem phOk_some {l d : List Nat} (h : plusOf l = some d) : phOk l = (digN d 4 15 && decide (d.getD 0 0 ≠ 48)) := by
  unfold phOk digN
  rw [h]
  show (decide (4 ≤ d.length) && decide (d.length ≤ 15) && digB d && decide (d.getD 0 0 ≠ 48)) = _
  congr 3
  all_goals
    rw [Bool.eq_iff_iff]
    simp only [Bool.and_eq_true, decide_eq_true_eq]
    omega
theorem nb_digS : nb ⟨#[48, 49, 50, 51, 52, 53, 54, 55, 56, 57]⟩ = digSigns := by decide +kernel
theorem digits_str : ∃ dg : ByteArray, (⟨#[48, 49, 50, 51, 52, 53, 54, 55, 56, 57]⟩ : ByteArray) = dg ∧ ∀ s : ByteArray, (nb s).all (fun b => decide (b ∈ nb dg)) = digB (nb s) := ⟨_, rfl, fun s => by rw [nb_digS]; rfl⟩
theorem pfOk_none {l : List Nat} (h : plusOf l = none) (h1 : l ≠ []) : pfOk l = false := by unfold pfOk; rw [h, decide_eq_false h1]; rfl
theorem pfOk_nil : pfOk [] = true := rfl
theorem pfOk_some {l d : List Nat} (h : plusOf l = some d) : pfOk l = (decide (d.length ≤ 15) && digB d) := by
  unfold pfOk
  rw [h]
  cases l with
  | nil => cases h
  | cons a l => rfl
end
end Go.Proofs.YtelpakmiciilgaaGreatDoor
/- Contracts of the orders of acts, of isFrom and callerId. Conditions: acts of bounded numbers for the document's order. -/
namespace Go.Proofs.YtelpakmiciilgaaGreatDoor
section
open Go.RowKit

theorem sgn_cmp (x y : Int) : sgnZ (x - y) = cmpZ x y := by
  unfold sgnZ cmpZ
  by_cases h1 : x < y
  · rw [if_pos h1, if_pos (by omega)]
  · by_cases h2 : y < x
    · rw [if_neg h1, if_pos h2, if_neg (by omega), if_pos (by omega)]
    · rw [if_neg h1, if_neg h2, if_neg (by omega), if_neg (by omega)]
theorem withinV_any (n lo hi : Int) (w : World) : Calls Tryz.prog 37 #[.int .i64 n, .int .i64 lo, .int .i64 hi] w (Same (.bool (inB n lo hi)) w) := by
  have hfin : inB n lo hi = (decide (lo ≤ n) && decide (n ≤ hi)) := rfl
  have H := Lib.hid hfin; clear hfin
  by_cases h1 : lo ≤ n <;> by_cases h2 : n ≤ hi
  all_goals
    go_enter Tryz.func37, Tryz.ntmps37
    go_wp2
    go_ret
    exact ⟨by rw [H.out]; simp [h1, h2], rfl⟩
theorem from_nil {l : List Nat} (h : l = []) : fromOk l = true := by unfold fromOk; rw [decide_eq_true h]; rfl
theorem from_none {l : List Nat} (h0 : l ≠ []) (h : plusOf l = none) : fromOk l = false := by unfold fromOk; rw [decide_eq_false h0, h]; rfl
theorem from_some {l d : List Nat} (h0 : l ≠ []) (h : plusOf l = some d) : fromOk l = (inB (d.length : Int) 4 15 && digB d) := by
  unfold fromOk inB
  rw [decide_eq_false h0, h, Bool.false_or]
  show (decide (4 ≤ d.length) && decide (d.length ≤ 15) && digB d) = _
  congr 2
  all_goals
    rw [Bool.eq_iff_iff]
    simp only [decide_eq_true_eq]
    omega
end
end Go.Proofs.YtelpakmiciilgaaGreatDoor
/- voiced() answers true. Conditions: none. -/
namespace Go.Proofs.YtelpakmiciilgaaGreatDoor
section
open Go.RowKit

theorem Tryz.boxT : StructT Tryz.prog 80 9 := ⟨_, Tryz.underlying80, rfl, by kernel_rfl⟩
theorem Tryz.msgT : StructT Tryz.prog 82 6 := ⟨_, Tryz.underlying82, rfl, by kernel_rfl⟩
set_option maxRecDepth 100000 in
set_option maxHeartbeats 4000000 in
theorem checkBox0_any (w : World) : Calls Tryz.prog 54 #[.agg #[.string ⟨#[98]⟩, .int .i64 1, .int .i64 1, .int .i64 0, .int .i64 0, .slice none 0 0, .bool false, .int .i64 0, .int .i64 0]] w (RetV (.int .i64 0) w) := by
  have i1 : inB 1 1 1000 = true := by decide
  have i2 : inB 1 0 4000 = true := by decide
  have i3 : inB 0 0 4000 = true := by decide
  have i4 : inB 0 0 1439 = true := by decide
  have i5 : inB 0 (-1440) 1440 = true := by decide
  obtain ⟨w1, hw1⟩ : ∃ v, w.alloc (.cells #[.string ⟨#[98]⟩, .int .i64 1, .int .i64 1, .int .i64 0, .int .i64 0, .slice none 0 0, .bool false, .int .i64 0, .int .i64 0] 80) = v := ⟨_, rfl⟩
  obtain ⟨b, hb⟩ : ∃ b, w.heap.size = b := ⟨_, rfl⟩
  have HB := Lib.hid (show Blk w1 b 80 #[.string ⟨#[98]⟩, .int .i64 1, .int .i64 1, .int .i64 0, .int .i64 0, .slice none 0 0, .bool false, .int .i64 0, .int .i64 0] by rw [← hw1, ← hb]; exact Blk.new _ _ _)
  have HG := Lib.hid (show w.grownBy w1 none by rw [← hw1]; exact gr_alloc (gr_refl _ _) _)
  have HW := Lib.hid hw1; have HZ := Lib.hid hb
  clear hw1 hb
  go_enter Tryz.func54, Tryz.ntmps54
  go_upto_region 1 with (fail)
  rw [HW.out]
  (try rw [HZ.out])
  have c1 := HB.out.cell 1
  have c2 := HB.out.cell 2
  have c3 := HB.out.cell 3
  have c4 := HB.out.cell 4
  have c5 := HB.out.cell 5
  have c6 := HB.out.cell 6
  have c7 := HB.out.cell 7
  have c8 := HB.out.cell 8
  go_wp2_with (first
    | (go_at_call 37; refine same_calls (withinV_any _ _ _ _) ?_; first | rw [i1] | rw [i2] | rw [i3] | rw [i4] | rw [i5])
    | fail)
  go_loopw [4, 34] (fun _ t wr => t = .int .i64 0 ∧ w1 = wr) (fun _ _ _ => 0)
  case atStart => exact ⟨rfl, rfl⟩
  case round =>
    obtain ⟨rfl, rfl⟩ := hrel
    go_wp2_with (first
      | (go_at_call 37; refine same_calls (withinV_any _ _ _ _) ?_; first | rw [i1] | rw [i2] | rw [i3] | rw [i4] | rw [i5])
      | fail)
    go_ret
    exact ⟨rfl, HG.out⟩
set_option maxRecDepth 100000 in
set_option maxHeartbeats 4000000 in
theorem checkBoxes0_any (g : Nat) (w : World) (h : Blk w g 80 #[.string ⟨#[98]⟩, .int .i64 1, .int .i64 1, .int .i64 0, .int .i64 0, .slice none 0 0, .bool false, .int .i64 0, .int .i64 0]) : Calls Tryz.prog 36 #[.slice (some ⟨g, 0, none⟩) 1 1] w (RetV (.int .i64 0) w) := by
  have k1 : keyOk (nb ⟨#[98]⟩) = true := by decide
  have H := Lib.hid h
  clear h
  go_enter Tryz.func36, Tryz.ntmps36
  go_wp2_with fail
  go_loopw [3, 4, 5, 11] (fun _ _ _ t wr => ∃ i : Nat, i ≤ 1 ∧ t = .int .i64 i ∧ w.grownBy wr none) (fun _ _ _ t _ => 1 - (intOf t).toNat)
  case atStart => exact ⟨0, by omega, rfl, gr_refl _ _⟩
  case round =>
    obtain ⟨i, hi, rfl, hg⟩ := hrel
    have HG := Lib.hid hg
    have HB := Lib.hid (H.out.grown hg (by simp))
    clear hg
    have hi2 : i = 0 ∨ i = 1 := by omega
    rcases hi2 with rfl | rfl
    · clear hi
      go_upto_region 6 with (first
        | (refine wpl_load_all Tryz.boxT rfl _ rfl g rfl 80 _ HB.out rfl ?_)
        | (refine wpl_store_all Tryz.boxT rfl _ _ rfl _ rfl _ _ _ rfl (Blk.new _ _ _) rfl rfl (by simp [Value.oneCell']) ?_; intro wz hst; have HST := Lib.hid hst; clear hst)
        | fail)
      obtain ⟨sb, hsb⟩ : ∃ b, wr.heap.size = b := ⟨_, rfl⟩
      have HS := Lib.hid (show Blk wz sb 80 #[.string ⟨#[98]⟩, .int .i64 1, .int .i64 1, .int .i64 0, .int .i64 0, .slice none 0 0, .bool false, .int .i64 0, .int .i64 0] by rw [← hsb]; exact HST.out.1)
      have hg2 : w.grownBy wz none := gr_trans (gr_alloc HG.out _) HST.out.2.1 (fun g e => .inr (by injection e with e; have := HG.out.size; omega))
      have HG2 := Lib.hid hg2
      (try rw [hsb])
      have c0 := HS.out.cell 0
      clear hsb HST HG hg2
      go_wp2_with (first
        | (go_at_call 28; refine (isKey_any _ _ (by decide)).mono ?_; rintro e wk ⟨rfl, hgk⟩; first | rw [k1] | rw [k2])
        | fail)
      have HS2 := Lib.hid (HS.out.grown hgk (by simp))
      replace HG2 := Lib.hid (gr_none HG2.out hgk)
      clear HS hgk c0
      have c0 := HS2.out.cell 0
      go_wp2_with fail
      go_quiet (fail)
      go_wp2_with (first
        | (refine wpl_load_all Tryz.boxT rfl _ rfl sb rfl 80 _ HS2.out rfl ?_)
        | (go_at_call 54; refine (checkBox0_any _).mono ?_; rintro e wc ⟨rfl, hgc⟩; have HGC := Lib.hid hgc; clear hgc)
        | fail)
      go_roundw
      case rel => exact ⟨1, by omega, by go_num, gr_none (gr_drewN HG2.out _) HGC.out⟩
      case measure => simp [intOf]
    · go_wp2_with fail
      go_ret
      exact ⟨rfl, HG.out⟩
set_option maxRecDepth 100000 in
set_option maxHeartbeats 4000000 in
theorem ends0_any (w : World) : Calls Tryz.prog 38 #[.agg #[.string ⟨#[98]⟩, .int .i64 1, .int .i64 1, .int .i64 0, .int .i64 0, .slice none 0 0, .bool false, .int .i64 0, .int .i64 0], .agg #[.string ⟨#[109]⟩, .string ⟨#[]⟩, .int .i64 0, .int .i64 1, .int .i64 1, .int .i64 0]] w (RetV (.int .i64 86400000) w) := by
  obtain ⟨w1, hw1⟩ : ∃ v, w.alloc (.cells #[.string ⟨#[98]⟩, .int .i64 1, .int .i64 1, .int .i64 0, .int .i64 0, .slice none 0 0, .bool false, .int .i64 0, .int .i64 0] 80) = v := ⟨_, rfl⟩
  obtain ⟨w2, hw2⟩ : ∃ v, w1.alloc (.cells #[.string ⟨#[109]⟩, .string ⟨#[]⟩, .int .i64 0, .int .i64 1, .int .i64 1, .int .i64 0] 82) = v := ⟨_, rfl⟩
  have HB := Lib.hid (show Blk w2 w.heap.size 80 #[.string ⟨#[98]⟩, .int .i64 1, .int .i64 1, .int .i64 0, .int .i64 0, .slice none 0 0, .bool false, .int .i64 0, .int .i64 0] by rw [← hw2, ← hw1]; exact (Blk.new _ _ _).alloc _)
  have HM := Lib.hid (show Blk w2 (w.heap.size + 1) 82 #[.string ⟨#[109]⟩, .string ⟨#[]⟩, .int .i64 0, .int .i64 1, .int .i64 1, .int .i64 0] by
    rw [← hw2, ← hw1]
    have h := Blk.new (w.alloc (.cells #[.string ⟨#[98]⟩, .int .i64 1, .int .i64 1, .int .i64 0, .int .i64 0, .slice none 0 0, .bool false, .int .i64 0, .int .i64 0] 80)) 82 #[.string ⟨#[109]⟩, .string ⟨#[]⟩, .int .i64 0, .int .i64 1, .int .i64 1, .int .i64 0]
    simpa using h)
  have HG := Lib.hid (show w.grownBy w2 none by rw [← hw2, ← hw1]; exact gr_alloc (gr_alloc (gr_refl _ _) _) _)
  have HW := Lib.hid hw2; have HW1 := Lib.hid hw1
  clear hw1 hw2
  go_enter Tryz.func38, Tryz.ntmps38
  go_upto_region 1 with (fail)
  (try rw [HW1.out])
  (try rw [HW.out])
  have c2 := HB.out.cell 2
  have c3 := HB.out.cell 3
  have c4 := HB.out.cell 4
  have m4 := HM.out.cell 4
  have m5 := HM.out.cell 5
  go_wp2_with fail
  go_ret
  exact ⟨rfl, HG.out⟩
set_option maxRecDepth 100000 in
set_option maxHeartbeats 4000000 in
theorem voicedEnds_any (w : World) : Calls Tryz.prog 19 #[.agg #[.string ⟨#[98]⟩, .int .i64 1, .int .i64 1, .int .i64 0, .int .i64 0, .slice none 0 0, .bool false, .int .i64 0, .int .i64 0], .agg #[.string ⟨#[109]⟩, .string ⟨#[]⟩, .int .i64 0, .int .i64 1, .int .i64 1, .int .i64 0]] w (RetV (.tuple #[.int .i64 86400000, .int .i64 0]) w) := by
  have k2 : keyOk (nb ⟨#[109]⟩) = true := by decide
  have i1 : inB 1 1 86400000 = true := by decide
  have i2 : inB 1 1 4 = true := by decide
  obtain ⟨w1, hw1⟩ : ∃ v, w.alloc (.cells #[.string ⟨#[98]⟩, .int .i64 1, .int .i64 1, .int .i64 0, .int .i64 0, .slice none 0 0, .bool false, .int .i64 0, .int .i64 0] 80) = v := ⟨_, rfl⟩
  obtain ⟨w2, hw2⟩ : ∃ v, w1.alloc (.cells #[.string ⟨#[109]⟩, .string ⟨#[]⟩, .int .i64 0, .int .i64 1, .int .i64 1, .int .i64 0] 82) = v := ⟨_, rfl⟩
  have HB := Lib.hid (show Blk w2 w.heap.size 80 #[.string ⟨#[98]⟩, .int .i64 1, .int .i64 1, .int .i64 0, .int .i64 0, .slice none 0 0, .bool false, .int .i64 0, .int .i64 0] by rw [← hw2, ← hw1]; exact (Blk.new _ _ _).alloc _)
  have HM := Lib.hid (show Blk w2 (w.heap.size + 1) 82 #[.string ⟨#[109]⟩, .string ⟨#[]⟩, .int .i64 0, .int .i64 1, .int .i64 1, .int .i64 0] by
    rw [← hw2, ← hw1]
    have h := Blk.new (w.alloc (.cells #[.string ⟨#[98]⟩, .int .i64 1, .int .i64 1, .int .i64 0, .int .i64 0, .slice none 0 0, .bool false, .int .i64 0, .int .i64 0] 80)) 82 #[.string ⟨#[109]⟩, .string ⟨#[]⟩, .int .i64 0, .int .i64 1, .int .i64 1, .int .i64 0]
    simpa using h)
  have HG := Lib.hid (show w.grownBy w2 none by rw [← hw2, ← hw1]; exact gr_alloc (gr_alloc (gr_refl _ _) _) _)
  have HW := Lib.hid hw2; have HW1 := Lib.hid hw1
  clear hw1 hw2
  go_enter Tryz.func19, Tryz.ntmps19
  go_upto_region 1 with (fail)
  (try rw [HW1.out])
  (try rw [HW.out])
  go_wp2_with (first
    | (refine wpl_load_all Tryz.boxT rfl _ rfl _ rfl 80 _ HB.out rfl ?_)
    | fail)
  refine (checkBoxes0_any _ _ (Blk.new _ _ _)).mono ?_
  rintro e w3 ⟨rfl, hg3⟩
  have hg4 := gr_trans (gr_alloc (gr_refl w2 none) (.cells #[.string ⟨#[98]⟩, .int .i64 1, .int .i64 1, .int .i64 0, .int .i64 0, .slice none 0 0, .bool false, .int .i64 0, .int .i64 0] 80)) hg3 (fun g e => by cases e)
  replace HB := Lib.hid (HB.out.grown hg4 (by simp))
  replace HM := Lib.hid (HM.out.grown hg4 (by simp))
  replace HG := Lib.hid (gr_none HG.out hg4)
  clear hg3 hg4
  have m0 := HM.out.cell 0
  go_upto_region 6 with (first
    | (go_at_call 28; refine (isKey_any _ _ (by decide)).mono ?_; rintro e wk ⟨rfl, hgk⟩; first | rw [k1] | rw [k2])
    | fail)
  replace HB := Lib.hid (HB.out.grown hgk (by simp))
  replace HM := Lib.hid (HM.out.grown hgk (by simp))
  replace HG := Lib.hid (gr_none HG.out hgk)
  clear hgk m0
  have m2 := HM.out.cell 2
  have m3 := HM.out.cell 3
  have m4 := HM.out.cell 4
  have m5 := HM.out.cell 5
  have q1 : momB 0 = true := by decide
  go_wp2_with (first
    | (go_at_call 27; refine same_calls (isMomB_any _ _) ?_)
    | (go_at_call 37; refine same_calls (withinV_any _ _ _ _) ?_; first | rw [i1] | rw [i2] | rw [i3] | rw [i4] | rw [i5])
    | (refine wpl_load_all Tryz.boxT rfl _ rfl _ rfl 80 _ HB.out rfl ?_)
    | (refine wpl_load_all Tryz.msgT rfl _ rfl _ rfl 82 _ HM.out rfl ?_)
    | (go_at_call 38; refine (ends0_any _).mono ?_; rintro e wc ⟨rfl, hgc⟩; have HGC := Lib.hid hgc; clear hgc)
    | fail)
  go_ret2
  exact ⟨rfl, gr_none HG.out HGC.out⟩
end
end Go.Proofs.YtelpakmiciilgaaGreatDoor
/- Plain Lean: bounds hold at the end of a play. Conditions: none. -/
namespace Go.Proofs.YtelpakmiciilgaaGreatDoor
section
open Go.RowKit

theorem playR_ok {s : StyV} {A : List AgV} {C : List CaV} (hC : ∀ c ∈ C, CaN c ∧ CaOk c) (hA : ∀ a ∈ A, AgN a ∧ a.key.size ≤ 1000) : ∀ (f : Nat) (r : RoS) (t : Int), RoOk A C r → DsB r.ds → RoOk A C (playR s A C f r t) := by
  intro f
  induction f with
  | zero => intro r t h _; exact h
  | succ f ih =>
    intro r t hok hb
    cases hx : (nextsR A C r.ds t)[0]? with
    | none => rw [playR_none hx]; exact hok
    | some x =>
      have hbd := timesR_bd hok hb hC hA x (nexts_some hx).1
      rw [playR_some hx]
      obtain ⟨o1, o2⟩ := stepR_ok (s := s) hok hb hC hA (show -1 ≤ x by omega) (show x ≤ 2000000000000 by omega)
      exact ih _ _ o1 o2
theorem playOf_ok {s : StyV} {A : List AgV} {C : List CaV} (hC : ∀ c ∈ C, CaN c ∧ CaOk c) (hA : ∀ a ∈ A, AgN a ∧ a.key.size ≤ 1000) : RoOk A C (playOf s A C) := playR_ok hC hA _ _ _ (RoOk.new fun c hc => (hC c hc).2) (fun d hd => by
    have := List.eq_of_mem_replicate (show d ∈ List.replicate A.length ((0 : Int), (0 : Int)) from hd)
    rw [this]; show (0 : Int) ≤ _; omega)
theorem playOf_se {s : StyV} {A : List AgV} {C : List CaV} (hC : ∀ c ∈ C, CaN c ∧ CaOk c) (hA : ∀ a ∈ A, AgN a ∧ a.key.size ≤ 1000) : ∀ z ∈ (playOf s A C).se, SeOk z := fun z hz => by
  obtain ⟨h1, h2, h3, h4, h5, h6⟩ := (playOf_ok hC hA).sv z hz
  exact ⟨h1, h2, by omega, by omega, by omega, by omega⟩
end
end Go.Proofs.YtelpakmiciilgaaGreatDoor

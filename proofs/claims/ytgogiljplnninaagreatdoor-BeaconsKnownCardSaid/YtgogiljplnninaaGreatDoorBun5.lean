/- Beacons as they lie in memory, and what is wrong with them, in plain Lean. Conditions: none. -/
import Derived.Test.YtgogiljplnninaaGreatDoorBun4
import Derived.Test.YtgogiljplnninaaGreatDoorBun1
import Derived.Lib.TrimByte
import Derived.Lib.IndexMore
import Derived.Shelf.GgClosure.StringsIndexFunc
import Derived.Laws.RangeString
import Derived.Test.YtgogiljplnninaaGreatDoorBun2
import Derived.Test.YtgogiljplnninaaGreatDoorShelfTrim
import Derived.Test.YtgogiljplnninaaGreatDoorLex
import Derived.Test.YtgogiljplnninaaGreatDoorFloat
namespace Go.Proofs.YtgogiljplnninaaGreatDoor
section
open Go.RowKit

/-- A string of small bytes. -/
def ascB (s : ByteArray) : Prop := ∀ b ∈ s.data.toList, b.toNat < 128
/-- A byte that nobody prints. -/
def ctl1 (b : Nat) : Bool := decide (b < 32) || b == 127
def ctlB (l : List UInt8) : Bool := l.any fun b => ctl1 b.toNat
/-- A plain string, of small bytes. -/
def plB (s : ByteArray) : Bool := !Lib.hasPrefix s.data.toList [32] && !Lib.hasSuffix s.data.toList [32] && !Lib.contains s.data.toList [32, 32] && !ctlB s.data.toList
theorem sz_len (s : ByteArray) : s.data.toList.length = s.size := Array.length_toList
/-- The document's word for the same. -/
theorem idxFrom_ctl (s : ByteArray) (ha : ascB s) : ∀ (f pos : Nat), s.size ≤ pos + f → decide (0 ≤ Lib.idxFuncFrom ctl1 true s f pos) = ctlB (s.data.toList.drop pos)
  | 0, pos, h => by
    rw [List.drop_eq_nil_of_le (by rw [sz_len]; exact h)]
    rfl
  | f + 1, pos, h => by
    unfold Lib.idxFuncFrom
    by_cases hp : pos < s.size
    · have hl : pos < s.data.toList.length := by rw [sz_len]; exact hp
      have hb : s[pos].toNat < 128 := ha _ (by
        have : s[pos] = s.data.toList[pos] := rfl
        rw [this]; exact List.getElem_mem hl)
      rw [if_pos hp, decode_ascii s pos hp hb, List.drop_eq_getElem_cons hl]
      have hc : ctlB (s.data.toList[pos] :: s.data.toList.drop (pos + 1)) = (ctl1 s[pos].toNat || ctlB (s.data.toList.drop (pos + 1))) := rfl
      rw [hc]
      dsimp only
      cases hq : ctl1 s[pos].toNat
      · rw [if_neg (by decide), idxFrom_ctl s ha f (pos + 1) (by omega)]; rfl
      · rw [if_pos rfl]
        simp
    · rw [if_neg hp, List.drop_eq_nil_of_le (by rw [sz_len]; exact Nat.le_of_not_lt hp)]
      rfl
theorem idx_ctl (s : ByteArray) (ha : ascB s) : decide (0 ≤ Lib.idxFunc ctl1 true s) = ctlB s.data.toList := by
  unfold Lib.idxFunc
  exact idxFrom_ctl s ha s.size 0 (by omega)
theorem dropWhile_len {α : Type} (p : α → Bool) : ∀ l : List α, (l.dropWhile p).length ≤ l.length
  | [] => Nat.le_refl _
  | a :: l => by
    rw [List.dropWhile_cons]
    cases p a
    · exact Nat.le_refl _
    · simp only [if_true]
      have := dropWhile_len p l
      simp only [List.length_cons]; omega
theorem dropWhile_self {α : Type} (p : α → Bool) (a : α) (l : List α) : (a :: l).dropWhile p = a :: l ↔ p a = false := by
  rw [List.dropWhile_cons]
  cases h : p a
  · simp
  · simp only [if_true]
    constructor
    · intro e
      have := dropWhile_len p l
      rw [e] at this
      simp only [List.length_cons] at this; omega
    · intro e; cases e
theorem pre_one (l : List UInt8) (c : UInt8) : l.dropWhile (· == c) = l ↔ Lib.hasPrefix l [c] = false := by
  cases l with
  | nil => simp [Lib.hasPrefix]
  | cons a l =>
    rw [dropWhile_self]
    simp only [Lib.hasPrefix, List.isPrefixOf, Bool.and_true]
    constructor
    · intro h; rw [beq_eq_false_iff_ne] at h ⊢; exact fun e => h e.symm
    · intro h; rw [beq_eq_false_iff_ne] at h ⊢; exact fun e => h e.symm
theorem suf_one (l : List UInt8) (c : UInt8) : Lib.trimRightB l c = l ↔ Lib.hasSuffix l [c] = false := by
  have h1 : Lib.trimRightB l c = l ↔ l.reverse.dropWhile (· == c) = l.reverse := by
    unfold Lib.trimRightB
    constructor
    · intro h
      have := congrArg List.reverse h
      rwa [List.reverse_reverse] at this
    · intro h; rw [h, List.reverse_reverse]
  rw [h1, pre_one]
  have : Lib.hasSuffix l [c] = Lib.hasPrefix l.reverse [c] := by simp [Lib.hasSuffix, Lib.hasPrefix, List.isSuffixOf]
  rw [this]
theorem trim_one_iff (l : List UInt8) (c : UInt8) : Lib.trimB l c = l ↔ (Lib.hasPrefix l [c] = false ∧ Lib.hasSuffix l [c] = false) := by
  unfold Lib.trimB Lib.trimLeftB
  constructor
  · intro h
    have hl := congrArg List.length h
    have h1 := dropWhile_len (· == c) (Lib.trimRightB l c)
    have h2 : (Lib.trimRightB l c).length ≤ l.length := by
      unfold Lib.trimRightB
      have := dropWhile_len (· == c) l.reverse
      simpa using this
    have hr : Lib.trimRightB l c = l := by
      unfold Lib.trimRightB at *
      have h3 : (l.reverse.dropWhile (· == c)).length = l.reverse.length := by simp at h1 h2 hl ⊢; omega
      have h4 : l.reverse.dropWhile (· == c) = l.reverse := by
        have hsuf := List.dropWhile_suffix (p := (· == c)) (l := l.reverse)
        exact hsuf.eq_of_length h3
      rw [h4, List.reverse_reverse]
    rw [hr] at h
    exact ⟨(pre_one l c).1 h, (suf_one l c).1 hr⟩
  · rintro ⟨h1, h2⟩
    rw [(suf_one l c).2 h2]
    exact (pre_one l c).2 h1
/-- Both words for 'plain'. -/
theorem plain_doc (s : ByteArray) (ha : ascB s) : (!decide (0 ≤ Lib.idxFunc ctl1 true s) && ((⟨(Lib.trimB s.data.toList 32).toArray⟩ : ByteArray).toList == s.toList) && !Lib.contains s.data.toList [32, 32]) = plB s := by
  rw [idx_ctl s ha]
  have ht : ((⟨(Lib.trimB s.data.toList 32).toArray⟩ : ByteArray).toList == s.toList) = (!Lib.hasPrefix s.data.toList [32] && !Lib.hasSuffix s.data.toList [32]) := by
    rw [ByteArray.toList_eq, ByteArray.toList_eq, Bool.eq_iff_iff, beq_iff_eq]
    show Lib.trimB s.data.toList 32 = s.data.toList ↔ _
    rw [trim_one_iff, Bool.and_eq_true, Bool.not_eq_true', Bool.not_eq_true']
  rw [ht]
  unfold plB
  cases Lib.hasPrefix s.data.toList [32] <;> cases Lib.hasSuffix s.data.toList [32] <;> cases Lib.contains s.data.toList [32, 32] <;> cases ctlB s.data.toList <;> rfl

/-- A beacon. -/
structure BcV where
  psn : ByteArray
  dev : ByteArray
  st : Int
  at_ : Int
  un : Int
  note : ByteArray
deriving instance DecidableEq for BcV
def BcV.row (a : BcV) : List Value := [.string a.psn, .string a.dev, .int .i64 a.st, .int .i64 a.at_, .int .i64 a.un, .string a.note]
theorem BcV.row_len (a : BcV) : a.row.length = 6 := rfl
theorem BcV.one (z : BcV) : ∀ u ∈ z.row, u.oneCell' = true := fun u hu => by
  unfold BcV.row at hu
  simp only [List.mem_cons, List.not_mem_nil, or_false] at hu
  rcases hu with rfl | rfl | rfl | rfl | rfl | rfl <;> rfl
/-- What is known of a beacon that was drawn. -/
def BcOk (a : BcV) : Prop := (a.psn.size ≤ 1000 ∧ a.dev.size ≤ 1000 ∧ a.note.size ≤ 1000) ∧ (-1152921504606846976 ≤ a.at_ ∧ a.at_ ≤ 1152921504606846976) ∧ ascB a.note
def Bcs (w : World) (lo : Nat) (A : Option Addr) (n c : Nat) (l : List BcV) : Prop := Recs BcV.row 6 w lo A n c l ∧ ∀ a ∈ l, BcOk a
theorem Bcs.grown {w w' : World} {lo : Nat} {A : Option Addr} {n c : Nat} {l : List BcV} (h : Bcs w lo A n c l) {r : Option Nat} (hg : w.grownBy w' r) (hr : ∀ g, r = some g → g < lo) : Bcs w' lo A n c l := ⟨h.1.grown hg hr, h.2⟩
/-- The order of beacons. -/
def bcCmp (a b : BcV) : Int := orL [cmpS a.psn b.psn, cmpS a.dev b.dev, cmpZ a.at_ b.at_]
theorem bcCmp_doc (a b : BcV) : bcCmp a b = if cmpLL cmpS [a.psn, a.dev] [b.psn, b.dev] = 0 then cmpZ a.at_ b.at_ else cmpLL cmpS [a.psn, a.dev] [b.psn, b.dev] := by
  unfold bcCmp cmpLL cmpLL cmpLL orL orL orL orL
  by_cases h1 : cmpS a.psn b.psn = 0
  · simp only [h1, if_true]
    by_cases h2 : cmpS a.dev b.dev = 0
    · simp only [h2, if_true]
      by_cases h3 : cmpZ a.at_ b.at_ = 0
      · simp only [h3, if_true]
      · simp only [if_neg h3]
    · simp only [if_neg h2]
  · simp only [if_neg h1]
/-- What is wrong with a beacon by itself. -/
def bcF (a : BcV) : Int :=
  if keyOk (nb a.psn) && keyOk (nb a.dev) then (if inB a.st 0 4 then (if momB a.at_ && inB a.un a.at_ 345686400000 then (if plB a.note && decide (a.note.size ≤ 100) then 0 else 3) else 1) else 4) else 5
def bcAt (l : List BcV) (i : Nat) : Int := (l[i]?).elim 0 fun a => if bcF a = 0 then (if decide (0 < i) && (l[i - 1]?).elim false (fun b => decide (0 ≤ bcCmp b a)) then 7 else 0) else bcF a
def bcsE (l : List BcV) : Int := if 1000 < l.length then 2 else fstE (bcAt l) l.length
section
variable {l : List BcV} {i : Nat} {z b : BcV}
theorem bcAt_f (h : l[i]? = some z) (h1 : bcF z ≠ 0) : bcAt l i = bcF z := by unfold bcAt; rw [h]; exact if_neg h1
theorem bcAt_7 (h : l[i]? = some z) (h1 : bcF z = 0) (hi : 0 < i) (hb : l[i - 1]? = some b) (h7 : 0 ≤ bcCmp b z) : bcAt l i = 7 := by
  unfold bcAt; rw [h]
  show (if bcF z = 0 then _ else _) = _
  rw [if_pos h1, hb]
  simp only [Option.elim, decide_eq_true hi, decide_eq_true h7]; rfl
theorem bcAt_e (h : l[i]? = some z) (h1 : bcF z = 0) (hb : l[i - 1]? = some b) (h7 : ¬ 0 ≤ bcCmp b z) : bcAt l i = 0 := by
  unfold bcAt; rw [h]
  show (if bcF z = 0 then _ else _) = _
  rw [if_pos h1, hb]
  simp only [Option.elim, decide_eq_false h7, Bool.and_false]; rfl
theorem bcAt_z (h : l[i]? = some z) (h1 : bcF z = 0) (hi : ¬ 0 < i) : bcAt l i = 0 := by
  unfold bcAt; rw [h]
  show (if bcF z = 0 then _ else _) = _
  rw [if_pos h1, decide_eq_false hi]; rfl
theorem bcF_5 (h2 : (keyOk (nb z.psn) && keyOk (nb z.dev)) = false) : bcF z = 5 := by unfold bcF; rw [h2]; rfl
theorem bcF_4 (h2 : (keyOk (nb z.psn) && keyOk (nb z.dev)) = true) (h3 : inB z.st 0 4 = false) : bcF z = 4 := by unfold bcF; rw [h2, h3]; rfl
theorem bcF_1 (h2 : (keyOk (nb z.psn) && keyOk (nb z.dev)) = true) (h3 : inB z.st 0 4 = true) (h4 : (momB z.at_ && inB z.un z.at_ 345686400000) = false) : bcF z = 1 := by unfold bcF; rw [h2, h3, h4]; rfl
theorem bcF_3 (h2 : (keyOk (nb z.psn) && keyOk (nb z.dev)) = true) (h3 : inB z.st 0 4 = true) (h4 : (momB z.at_ && inB z.un z.at_ 345686400000) = true) (h5 : (plB z.note && decide (z.note.size ≤ 100)) = false) : bcF z = 3 := by unfold bcF; rw [h2, h3, h4, h5]; rfl
theorem bcF_0 (h2 : (keyOk (nb z.psn) && keyOk (nb z.dev)) = true) (h3 : inB z.st 0 4 = true) (h4 : (momB z.at_ && inB z.un z.at_ 345686400000) = true) (h5 : (plB z.note && decide (z.note.size ≤ 100)) = true) : bcF z = 0 := by unfold bcF; rw [h2, h3, h4, h5]; rfl
end
/-- What is known of a right beacon. -/
def BcRg (z : BcV) : Prop := keyOk (nb z.psn) = true ∧ keyOk (nb z.dev) = true ∧ (0 ≤ z.st ∧ z.st ≤ 4) ∧ (0 ≤ z.at_ ∧ z.at_ < 345686400000) ∧ (z.at_ ≤ z.un ∧ z.un ≤ 345686400000)
theorem bcF_rg {z : BcV} (h : bcF z = 0) : BcRg z := by
  cases h2 : (keyOk (nb z.psn) && keyOk (nb z.dev))
  · rw [bcF_5 h2] at h; exact absurd h (by decide)
  · cases h3 : inB z.st 0 4
    · rw [bcF_4 h2 h3] at h; exact absurd h (by decide)
    · cases h4 : (momB z.at_ && inB z.un z.at_ 345686400000)
      · rw [bcF_1 h2 h3 h4] at h; exact absurd h (by decide)
      · rw [Bool.and_eq_true] at h2 h4
        obtain ⟨h4, h5⟩ := h4
        unfold inB at h3 h5
        unfold momB inB at h4
        simp only [Bool.and_eq_true, decide_eq_true_eq] at h3 h4 h5
        exact ⟨h2.1, h2.2, h3, by omega, h5⟩
theorem bcs_all {l : List BcV} (h : bcsE l = 0) : l.length ≤ 1000 ∧ (∀ z ∈ l, BcRg z) ∧ ∀ i, 0 < i → ∀ z b, l[i]? = some z → l[i - 1]? = some b → bcCmp b z < 0 := by
  unfold bcsE at h
  split at h
  · cases h
  · refine ⟨by omega, fun z hz => ?_, fun i hi z b hz hb => ?_⟩
    · obtain ⟨i, hi⟩ := List.mem_iff_getElem?.1 hz
      have h0 := fstE_ev h i (List.getElem?_eq_some_iff.1 hi).1
      by_cases hf : bcF z = 0
      · exact bcF_rg hf
      · rw [bcAt_f hi hf] at h0
        exact absurd h0 hf
    · have h0 := fstE_ev h i (List.getElem?_eq_some_iff.1 hz).1
      by_cases hf : bcF z = 0
      · rcases Int.lt_or_le (bcCmp b z) 0 with h1 | h1
        · exact h1
        · rw [bcAt_7 hz hf hi hb h1] at h0
          exact absurd h0 (by decide)
      · rw [bcAt_f hz hf] at h0
        exact absurd h0 hf
end
end Go.Proofs.YtgogiljplnninaaGreatDoor
/- strings.Compare as a call that leaves the world as it is; an order of strings. Conditions: none. -/
namespace Go.Proofs.YtgogiljplnninaaGreatDoor
section
open Go.RowKit
theorem strCmp_any (a b : ByteArray) (w : World) : Calls Tryz.prog 119 #[.string a, .string b] w (Same (.int .i64 (cmpS a b)) w) := by
  refine (Tryz.strings_Compare a b w).mono ?_
  rintro e w' ⟨rfl, rfl⟩
  exact ⟨rfl, rfl⟩
theorem cmpS_ntrans {a b c : ByteArray} (h1 : ¬ cmpS a b < 0) (h2 : ¬ cmpS b c < 0) : ¬ cmpS a c < 0 := by
  intro h3
  have n1 := cmpS_neg a b; have n2 := cmpS_neg b c
  have r1 := cmpS_range a b; have r2 := cmpS_range b c
  by_cases e1 : cmpS a b = 0
  · rw [cmpS_eql (cmpS_zero.1 e1)] at h3; exact h2 h3
  · by_cases e2 : cmpS b c = 0
    · rw [← cmpS_eqr (cmpS_zero.1 e2)] at h3; exact h1 h3
    · have h4 : cmpS c a < 0 := cmpS_trans (b := b) (by omega) (by omega)
      have n3 := cmpS_neg a c
      omega
end
end Go.Proofs.YtgogiljplnninaaGreatDoor
/- Contract of the document's sign. Conditions: none. -/
namespace Go.Proofs.YtgogiljplnninaaGreatDoor
section
open Go.RowKit

def sgnZ (n : Int) : Int := if n < 0 then -1 else if 0 < n then 1 else 0
theorem sgnZ_any (n : Int) (w : World) : Calls Tryz.prog 118 #[.int .i64 n] w (Same (.int .i64 (sgnZ n)) w) := by
  by_cases h : n < 0
  · have d : decide (n < 0) = true := decide_eq_true h
    have HR := Lib.hid (show sgnZ n = -1 by unfold sgnZ; rw [if_pos h])
    clear h
    go_enter Tryz.func118, Tryz.ntmps118
    go_wp2_with fail
    go_ret
    exact ⟨by rw [HR.out]; rfl, rfl⟩
  · have d : decide (n < 0) = false := decide_eq_false h
    by_cases h2 : 0 < n
    · have d2 : decide (0 < n) = true := decide_eq_true h2
      have d3 : decide (n > 0) = true := decide_eq_true h2
      have HR := Lib.hid (show sgnZ n = 1 by unfold sgnZ; rw [if_neg h, if_pos h2])
      clear h h2
      go_enter Tryz.func118, Tryz.ntmps118
      go_wp2_with fail
      go_ret
      exact ⟨by rw [HR.out]; rfl, rfl⟩
    · have d2 : decide (0 < n) = false := decide_eq_false h2
      have d3 : decide (n > 0) = false := decide_eq_false h2
      have HR := Lib.hid (show sgnZ n = 0 by unfold sgnZ; rw [if_neg h, if_neg h2])
      clear h h2
      go_enter Tryz.func118, Tryz.ntmps118
      go_wp2_with fail
      go_ret
      exact ⟨by rw [HR.out]; rfl, rfl⟩
end
end Go.Proofs.YtgogiljplnninaaGreatDoor
/- A region that draws its order and stores at its end: loads are taken first while the first store (number b) has not come up. Over any program. Conditions: none. -/
namespace Go.Proofs.YtgogiljplnninaaGreatDoor
section
section
open Go.RowKit

theorem set_take_drop {xs : List Value} {p : Nat} (hp : p < xs.length) (v : Value) (r : List Value) : (xs.set p v).take (p + 1) ++ r ++ (xs.set p v).drop (p + 1 + r.length) = xs.take p ++ (v :: r) ++ xs.drop (p + (v :: r).length) := by
  have h : (xs.set p v)[p]? = some v := by simp [hp]
  have e1 : (xs.set p v).take (p + 1) = xs.take p ++ [v] := by
    rw [take_snoc' h, List.take_set, List.set_eq_of_length_le (by rw [List.length_take]; omega)]
  have e2 : (xs.set p v).drop (p + 1 + r.length) = xs.drop (p + 1 + r.length) := List.drop_set_of_lt (by omega)
  rw [e1, e2, List.length_cons, show p + (r.length + 1) = p + 1 + r.length by omega]
  simp
section
variable {P : Program} {lo size n c g : Nat} {e : TypeId}
theorem run_storeCells_own : ∀ (vs : List Value) (s j : Nat) (w : World) (xs : List Value), Own w lo e size (some ⟨g, 0, none⟩) n c xs → (∀ v ∈ vs, v.oneCell' = true) → s + j + vs.length ≤ n * size →
    ∃ w', (storeCells ⟨g, s, none⟩ vs j).run P w = .ok () w' ∧ Own w' lo e size (some ⟨g, 0, none⟩) n c (xs.take (s + j) ++ vs ++ xs.drop (s + j + vs.length)) ∧ w.grownBy w' (some g)
  | [], s, j, w, xs, h, _, _ => ⟨w, rfl, by simpa using h, gr_refl _ _⟩
  | v :: rest, s, j, w, xs, h, h1, hl => by
    have hlen := h.len
    have hp : s + j < n * size := by simp at hl; omega
    have hcell := h.cell hp
    rw [List.getElem?_eq_getElem (by omega)] at hcell
    have hfro := h.frozen (s + j)
    have hst : (store ((⟨g, s, none⟩ : Addr).add j) v).run P w = .ok () (w.setCell ⟨g, s + j, none⟩ v) := by
      rw [add_mk, run_store P w _ v _ (h1 v (by simp)), hcell]
      simp [hfro]
    have h2 := h.stored (s + j) v
    obtain ⟨w', hrun, h3, hg⟩ := run_storeCells_own rest s (j + 1) (w.setCell ⟨g, s + j, none⟩ v) _ h2 (fun x hx => h1 x (by simp [hx])) (by simp at hl; omega)
    refine ⟨w', ?_, ?_, gr_same (gr_setCell (gr_refl w (some g)) (.inl rfl) v) hg⟩
    · simp only [storeCells, Sem.run_bind, hst, Result.andThen_ok, hrun]
    · rw [← Nat.add_assoc, set_take_drop (by omega)] at h3
      exact h3
variable {w : World} {o : Oper} {a : Act} {K : Act → World → Prop} {Q : Exit → Act → World → Prop} {α : Type} {row : α → List Value} {k : Nat} {l : List α}
theorem wp_store_rec {ty : TypeId} (T : StructT P ty k) (hrow : ∀ a, (row a).length = k) (hk : 0 < k) (x y : Operand) (ho : o.op = .store ty x y) (i p : Nat) (hp : p = i * k) (hx : a.eval x = .pointer (some ⟨g, p, none⟩)) (z : α) (hy : a.eval y = .agg (row z).toArray)
    (h : OwnR row k w lo e (some ⟨g, 0, none⟩) n c l) (hi : i < n) (h1 : ∀ u ∈ row z, u.oneCell' = true)
    (hK : ∀ w', OwnR row k w' lo e (some ⟨g, 0, none⟩) n c (l.set i z) → w.grownBy w' (some g) → K (a.put o.dst undef) w') : o.wp P a w K Q := by
  subst hp
  obtain ⟨d, hd1, hd2, hd3⟩ := T
  have hle : i * k + k ≤ n * k := by have := Nat.mul_le_mul_right k (show i + 1 ≤ n by omega); rw [Nat.succ_mul] at this; exact this
  obtain ⟨w', hrun, h2, hg⟩ := run_storeCells_own (P := P) (row z) (i * k) 0 w _ h.1 h1 (by rw [hrow]; omega)
  obtain ⟨b, hb⟩ : ∃ b, l[i]? = some b := ⟨_, List.getElem?_eq_getElem (by rw [h.2]; exact hi)⟩
  have hf := flat_set hrow hk hb (a' := z) (ys := row z) 0 (by rw [hrow]; omega) (by rw [List.take_zero, List.nil_append, List.drop_of_length_le (by rw [hrow, hrow]; omega), List.append_nil])
  rw [hf] at h2
  cases hq : P.info? ty with
  | none => simp [hq] at hd3
  | some inf =>
    have hs : inf.size = k := by simpa [hq] using hd3
    unfold Oper.wp execOp
    have hst : (Instr.storeAt ty (.pointer (some ⟨g, i * k, none⟩)) (.agg (row z).toArray)).run P w = .ok () w' := by
      simp [Instr.storeAt, Instr.sureAddr, storeVar, sizeOf, typeInfo, hq, hs, Value.cells, hrow, hrun]
    simp only [ho, hx, hy, Sem.run_bind, Sem.run_pure, Result.andThen_ok, hst]
    exact hK w' ⟨h2, by rw [List.length_set]; exact h.2⟩ hg
end
end
section
variable {P : Program} {ops : Array Oper} {Q : Exit → Act → World → Prop} {md : Region.Mode} {S : World → Prop} {b : Nat}

/-- Whatever order is picked from here on; S holds behind every operation till number b has come up. -/
def wpAnyB (P : Program) (md : Region.Mode) (ops : Array Oper) (Q : Exit → Act → World → Prop) (S : World → Prop) (b : Nat) : Nat → Array Bool → Act → World → Prop
  | 0, listed, a, w => Region.ready md ops listed = [] ∧ Q .normal a w
  | fuel + 1, listed, a, w =>
    (Region.ready md ops listed = [] → Q .normal a w) ∧
    ∀ i ∈ Region.ready md ops listed, wpOp P ops Q i (fun a' w' => ((listed.setIfInBounds i true).getD b false = true ∨ S w') ∧ wpAnyB P md ops Q S b fuel (listed.setIfInBounds i true) a' w') a w
theorem wpAny_of_B : ∀ (fuel : Nat) (listed : Array Bool) (a : Act) (w : World), wpAnyB P md ops Q S b fuel listed a w → wpAny P md ops Q fuel listed a w
  | 0, _, _, _, h => h
  | fuel + 1, _, _, _, h => ⟨h.1, fun i hi => wpOp_mono (fun a' w' h' => wpAny_of_B fuel _ a' w' h'.2) (h.2 i hi)⟩
theorem wp_region_B {id : Nat} {a : Act} {w : World} (S : World → Prop) (b : Nat) (hm : P.follows .mixedOrders = true)
    (h : wpAnyB P .any ops Q S b ops.size (Array.replicate ops.size false) a w.drew) : (Code.region id ops true).wp P Q a w :=
  wp_region_any hm (wpAny_of_B (S := S) (b := b) _ _ _ _ h)
/-- Number b waits for number i, over at most f others. -/
def waitsT (md : Region.Mode) (ops : Array Oper) : Nat → Nat → Nat → Bool
  | 0, b, i => Region.waitsFor md ops b i
  | f + 1, b, i => Region.waitsFor md ops b i || (List.range ops.size).any fun j => Region.waitsFor md ops b j && waitsT md ops f j i
theorem waitsT_spec {listed : Array Bool} (inv : HeadInv md ops ops.size listed) : ∀ (f b i : Nat), waitsT md ops f b i = true → listed.getD b false = true → listed.getD i false = true := by
  have one : ∀ b i, Region.waitsFor md ops b i = true → listed.getD b false = true → listed.getD i false = true := fun b i h hl => by
    obtain ⟨ob, hob, e, he, hb, hon⟩ := Region.waitsFor_spec h
    have := inv.closed b ob hob hl e he hb
    rwa [hon] at this
  intro f
  induction f with
  | zero => exact one
  | succ f ih =>
    intro b i h hl
    unfold waitsT at h
    rw [Bool.or_eq_true] at h
    rcases h with h | h
    · exact one b i h hl
    · obtain ⟨j, _, hj⟩ := List.any_eq_true.1 h
      rw [Bool.and_eq_true] at hj
      exact ih j i hj.2 (one b j hj.1 hl)
/-- S where the operation looks at memory, else nothing. -/
def memS0 (S : World → Prop) : Bool → World → Prop
  | true => S
  | false => fun _ => True
theorem wpAnyB_first {i : Nat} {oi : Oper} {v : Value} (mem : Bool) (hi : ops[i]? = some oi) (hsel : ∀ (j : Nat) (o : Oper) cs b, ops[j]? = some o → o.op ≠ .select cs b)
    (hQ : ∀ c a w, Q (.panic c) (a.put oi.dst v) w → Q (.panic c) a w) (hib : i ≠ b) (hwait : mem = true → waitsT md ops 4 b i = true) :
    ∀ (fuel : Nat) (listed : Array Bool) (a : Act) (w : World), HeadInv md ops ops.size listed →
      (∀ j oj, ops[j]? = some oj → j ≠ i → listed.getD j true = false → (∀ e ∈ oj.after, Region.binds md e = true → e.on ≠ i) → oi.apart ops oj = true) →
      i ∈ Region.ready md ops listed → YieldsIf P ops (memS0 S mem) oi v a → (listed.getD b false = true ∨ S w) →
      wpAnyB P md ops Q S b fuel (listed.setIfInBounds i true) (a.put oi.dst v) w → wpAnyB P md ops Q S b (fuel + 1) listed a w := by
  have hm : ∀ (listed : Array Bool) (w : World), HeadInv md ops ops.size listed → listed.getD i true = false → (listed.getD b false = true ∨ S w) → memS0 S mem w := by
    intro listed w inv hun hS
    cases mem with
    | false => trivial
    | true =>
      rcases hS with h | h
      · have := waitsT_spec inv 4 b i (hwait rfl) h
        rw [getD_both hun] at this
        cases this
      · exact h
  intro fuel
  induction fuel with
  | zero =>
    intro listed a w inv _ hr hy hS H
    have hun := (mem_ready.1 hr).1
    refine ⟨fun h => (by rw [h] at hr; cases hr), fun j hj => ?_⟩
    by_cases hji : j = i
    · subst hji; exact hy.wpOp hi (hm _ _ inv hun hS) ⟨by rw [getD_set_ne false hib]; exact hS, H⟩
    · have := ready_mono hj hji
      rw [H.1] at this
      cases this
  | succ fuel ih =>
    intro listed a w inv hfree hr hy hS H
    have hun := (mem_ready.1 hr).1
    refine ⟨fun h => (by rw [h] at hr; cases hr), fun j hj => ?_⟩
    by_cases hji : j = i
    · subst hji; exact hy.wpOp hi (hm _ _ inv hun hS) ⟨by rw [getD_set_ne false hib]; exact hS, H⟩
    · have h1 := H.2 j (ready_mono hj hji)
      obtain ⟨hjun, oj, hoj, hall⟩ := mem_ready.1 hj
      have hjn : j < ops.size := (Array.getElem?_eq_some_iff.1 hoj).1
      have hnot : ∀ e ∈ oj.after, Region.binds md e = true → e.on ≠ i := fun e he hb heq => by
        have h1 := hall e he hb
        rw [heq, getD_both hun] at h1
        cases h1
      have h2 := wpOp_putIf hoj (hfree j oj hoj hji hjun hnot) (fun cs b => hsel i oi cs b hi) (fun cs b => hsel j oj cs b hoj) hQ hy h1
      have hfree' : ∀ k ok, ops[k]? = some ok → k ≠ i → (listed.setIfInBounds j true).getD k true = false →
          (∀ e ∈ ok.after, Region.binds md e = true → e.on ≠ i) → oi.apart ops ok = true := fun k ok hk hki hkun hno => by
        refine hfree k ok hk hki ?_ hno
        by_cases hjk : j = k
        · subst hjk; exact hjun
        · rw [getD_set_ne true hjk] at hkun; exact hkun
      refine wpOp_mono (fun a' w' h3 => ?_) h2
      have hS' : (listed.setIfInBounds j true).getD b false = true ∨ S w' := by
        rcases h3.2.1 with h | h
        · left
          rw [Array.setIfInBounds_comm _ _ (Ne.symm hji), getD_set_ne false hib] at h
          exact h
        · exact .inr h
      refine ⟨hS', ih (listed.setIfInBounds j true) a' w' (inv.set hj hjn) hfree' (ready_mono hr (Ne.symm hji)) h3.1 hS' ?_⟩
      rw [Array.setIfInBounds_comm _ _ hji]
      exact h3.2.2
/-- What has come up is closed. -/
def closedB (md : Region.Mode) (ops : Array Oper) (listed : Array Bool) : Bool :=
  decide (listed.size = ops.size) && (List.range ops.size).all fun j => !listed.getD j false || (match ops[j]? with | some o => o.after.all fun e => !Region.binds md e || listed.getD e.on false | none => true)
theorem closedB_spec {listed : Array Bool} (h : closedB md ops listed = true) : HeadInv md ops ops.size listed := by
  unfold closedB at h
  simp only [Bool.and_eq_true, decide_eq_true_eq] at h
  obtain ⟨h1, h4⟩ := h
  refine ⟨h1, fun j oj hj hl e he hb => ?_, fun t ht ht2 => by omega⟩
  have hj2 := (Array.getElem?_eq_some_iff.1 hj).1
  have := List.all_eq_true.1 h4 j (List.mem_range.2 hj2)
  rw [hl, hj] at this
  simp only [Bool.not_true, Bool.false_or] at this
  have := Array.all_eq_true_iff_forall_mem.1 this e he
  rw [hb] at this
  simpa using this
def btakeB (md : Region.Mode) (ops : Array Oper) (b : Nat) (mem : Bool) (listed : Array Bool) (k : Nat) : Bool :=
  Region.noSelect ops && decide (k ≠ b) && (!mem || waitsT md ops 4 b k) && closedB md ops listed && (Region.ready md ops listed).contains k && Region.free md ops listed k
variable {ls : List Oper}
/-- One that reckons (mem = false) or loads (mem = true). -/
theorem B_take {fuel k : Nat} {listed : Array Bool} {o : Oper} {a : Act} {w : World} (mem : Bool) (v : Value) (ho : opAt ls k = some o) (hB : btakeB md ls.toArray b mem listed k = true)
    (hQ : ∀ c a w, Q (.panic c) (a.put o.dst v) w → Q (.panic c) a w) (hw : Region.wanted o (yielded ls.toArray a.tmps) = true) (hy : ∀ w, memS0 S mem w → (execOp a.eval o).run P w = .ok (.value v) w) (hS : listed.getD b false = true ∨ S w)
    (h : wpAnyB P md ls.toArray Q S b fuel (listed.setIfInBounds k true) (a.put o.dst v) w) : wpAnyB P md ls.toArray Q S b (fuel + 1) listed a w := by
  unfold btakeB at hB
  simp only [Bool.and_eq_true, decide_eq_true_eq, Bool.or_eq_true, Bool.not_eq_true'] at hB
  obtain ⟨⟨⟨⟨⟨h1, h2⟩, h3⟩, h4⟩, h5⟩, h6⟩ := hB
  rw [opAt_eq] at ho
  exact wpAnyB_first mem ho (Region.noSelect_spec h1) hQ h2 (fun e => h3.resolve_left (by rw [e]; decide)) fuel listed a w (closedB_spec h4) (Region.free_spec ho h6) (by simpa using h5) (.inl ⟨hw, hy⟩) hS h
/-- One whose guard keeps it from running. -/
theorem B_skip {fuel k : Nat} {listed : Array Bool} {o : Oper} {a : Act} {w : World} (ho : opAt ls k = some o) (hB : btakeB md ls.toArray b false listed k = true)
    (hQ : ∀ c a w, Q (.panic c) (a.put o.dst undef) w → Q (.panic c) a w) (hw : Region.wanted o (yielded ls.toArray a.tmps) = false) (hS : listed.getD b false = true ∨ S w)
    (h : wpAnyB P md ls.toArray Q S b fuel (listed.setIfInBounds k true) (a.put o.dst undef) w) : wpAnyB P md ls.toArray Q S b (fuel + 1) listed a w := by
  unfold btakeB at hB
  simp only [Bool.and_eq_true, decide_eq_true_eq, Bool.or_eq_true, Bool.not_eq_true'] at hB
  obtain ⟨⟨⟨⟨⟨h1, h2⟩, h3⟩, h4⟩, h5⟩, h6⟩ := hB
  rw [opAt_eq] at ho
  exact wpAnyB_first false ho (Region.noSelect_spec h1) hQ h2 (fun e => by cases e) fuel listed a w (closedB_spec h4) (Region.free_spec ho h6) (by simpa using h5) (.inr ⟨hw, rfl⟩) hS h
/-- One that comes up alone. -/
theorem B_run {fuel k : Nat} {listed : Array Bool} {o : Oper} {a : Act} {w : World} (ho : opAt ls k = some o) (hr : Region.ready md ls.toArray listed = [k]) (hw : Region.wanted o (yielded ls.toArray a.tmps) = true)
    (h : ∀ K : Act → World → Prop, (∀ a' w', ((listed.setIfInBounds k true).getD b false = true ∨ S w') → wpAnyB P md ls.toArray Q S b fuel (listed.setIfInBounds k true) a' w' → K a' w') → o.wp P a w K Q) : wpAnyB P md ls.toArray Q S b (fuel + 1) listed a w := by
  refine ⟨fun h1 => (by rw [hr] at h1; cases h1), fun i hi => ?_⟩
  rw [hr] at hi
  have hik : i = k := by simpa using hi
  subst hik
  rw [opAt_eq] at ho
  unfold wpOp
  simp only [ho, hw, if_true]
  exact .inl (h _ fun a' w' h1 h2 => ⟨h1, h2⟩)
theorem B_done {listed : Array Bool} {a : Act} {w : World} (hr : Region.ready md ops listed = []) (h : Q .normal a w) : wpAnyB P md ops Q S b 0 listed a w := ⟨hr, h⟩
end
end
end Go.Proofs.YtgogiljplnninaaGreatDoor
/- Moves in drawn regions: two or three operations that come up in any order; whole loads. Conditions: none. -/
namespace Go.Proofs.YtgogiljplnninaaGreatDoor
section
open Go.RowKit

theorem exec_ldr {P : Program} {w : World} {o : Oper} {ev : Operand → Value} {ty : TypeId} {n : Nat} (T : StructT P ty n) (x : Operand) (ho : o.op = .load ty x) (a : Addr) (hx : ev x = .pointer (some a)) (cs : List Value) (hb : ∀ (j : Nat) (u : Value), cs[j]? = some u → w.cell? (a.add j) = some u) (hn : cs.length = n) :
    (execOp ev o).run P w = .ok (.value (.agg cs.toArray)) w := by
  unfold execOp
  simp only [ho, hx, Instr.loadAt, Instr.sureAddr, Sem.run_bind, Sem.run_pure, Result.andThen_ok, run_load_at T hn hb]
theorem exec_ldb {P : Program} {w : World} {o : Oper} {ev : Operand → Value} {ty : TypeId} {n : Nat} (T : StructT P ty n) (x : Operand) (ho : o.op = .load ty x) (g : Nat) (hx : ev x = .pointer (some ⟨g, 0, none⟩)) (t : TypeId) (cs : List Value) (hb : Blk w g t cs.toArray) (hn : cs.length = n) :
    (execOp ev o).run P w = .ok (.value (.agg cs.toArray)) w := by
  unfold execOp
  simp only [ho, hx, Instr.loadAt, Instr.sureAddr, Sem.run_bind, Sem.run_pure, Result.andThen_ok, run_load_at T hn (fun j u hu => by rw [add_mk, Nat.zero_add, hb.cell]; simpa using hu)]
theorem H_runTwo {P : Program} {ls : List Oper} {md : Region.Mode} {Q : Exit → Act → World → Prop} {S : World → Prop} {fuel k1 k2 : Nat} {listed : Array Bool} {o1 o2 : Oper} {a : Act} {w : World} (ho1 : opAt ls k1 = some o1) (ho2 : opAt ls k2 = some o2) (hr : Region.ready md ls.toArray listed = [k1, k2]) (hw1 : Region.wanted o1 (yielded ls.toArray a.tmps) = true) (hw2 : Region.wanted o2 (yielded ls.toArray a.tmps) = true)
    (h1 : ∀ K : Act → World → Prop, (∀ a' w', S w' → wpAnyH P md ls.toArray Q S fuel (listed.setIfInBounds k1 true) a' w' → K a' w') → o1.wp P a w K Q)
    (h2 : ∀ K : Act → World → Prop, (∀ a' w', S w' → wpAnyH P md ls.toArray Q S fuel (listed.setIfInBounds k2 true) a' w' → K a' w') → o2.wp P a w K Q) : wpAnyH P md ls.toArray Q S (fuel + 1) listed a w := by
  refine ⟨fun h => (by rw [hr] at h; cases h), fun i hi => ?_⟩
  rw [hr] at hi
  have hik : i = k1 ∨ i = k2 := by simpa using hi
  rcases hik with rfl | rfl
  · rw [opAt_eq] at ho1
    unfold wpOp
    simp only [ho1, hw1, if_true]
    exact .inl (h1 _ fun a' w' hs h => ⟨hs, h⟩)
  · rw [opAt_eq] at ho2
    unfold wpOp
    simp only [ho2, hw2, if_true]
    exact .inl (h2 _ fun a' w' hs h => ⟨hs, h⟩)
theorem H_runThree {P : Program} {ls : List Oper} {md : Region.Mode} {Q : Exit → Act → World → Prop} {S : World → Prop} {fuel k1 k2 k3 : Nat} {listed : Array Bool} {o1 o2 o3 : Oper} {a : Act} {w : World} (ho1 : opAt ls k1 = some o1) (ho2 : opAt ls k2 = some o2) (ho3 : opAt ls k3 = some o3) (hr : Region.ready md ls.toArray listed = [k1, k2, k3])
    (hw1 : Region.wanted o1 (yielded ls.toArray a.tmps) = true) (hw2 : Region.wanted o2 (yielded ls.toArray a.tmps) = true) (hw3 : Region.wanted o3 (yielded ls.toArray a.tmps) = true)
    (h1 : ∀ K : Act → World → Prop, (∀ a' w', S w' → wpAnyH P md ls.toArray Q S fuel (listed.setIfInBounds k1 true) a' w' → K a' w') → o1.wp P a w K Q)
    (h2 : ∀ K : Act → World → Prop, (∀ a' w', S w' → wpAnyH P md ls.toArray Q S fuel (listed.setIfInBounds k2 true) a' w' → K a' w') → o2.wp P a w K Q)
    (h3 : ∀ K : Act → World → Prop, (∀ a' w', S w' → wpAnyH P md ls.toArray Q S fuel (listed.setIfInBounds k3 true) a' w' → K a' w') → o3.wp P a w K Q) : wpAnyH P md ls.toArray Q S (fuel + 1) listed a w := by
  refine ⟨fun h => (by rw [hr] at h; cases h), fun i hi => ?_⟩
  rw [hr] at hi
  have hik : i = k1 ∨ i = k2 ∨ i = k3 := by simpa using hi
  rcases hik with rfl | rfl | rfl
  · rw [opAt_eq] at ho1
    unfold wpOp
    simp only [ho1, hw1, if_true]
    exact .inl (h1 _ fun a' w' hs h => ⟨hs, h⟩)
  · rw [opAt_eq] at ho2
    unfold wpOp
    simp only [ho2, hw2, if_true]
    exact .inl (h2 _ fun a' w' hs h => ⟨hs, h⟩)
  · rw [opAt_eq] at ho3
    unfold wpOp
    simp only [ho3, hw3, if_true]
    exact .inl (h3 _ fun a' w' hs h => ⟨hs, h⟩)
section
variable {P : Program} {ls : List Oper} {md : Region.Mode} {Q : Exit → Act → World → Prop} {S : World → Prop} {b : Nat}
/-- Two that can come up, either first. -/
theorem B_runTwo {fuel k1 k2 : Nat} {listed : Array Bool} {o1 o2 : Oper} {a : Act} {w : World} (ho1 : opAt ls k1 = some o1) (ho2 : opAt ls k2 = some o2) (hr : Region.ready md ls.toArray listed = [k1, k2]) (hw1 : Region.wanted o1 (yielded ls.toArray a.tmps) = true) (hw2 : Region.wanted o2 (yielded ls.toArray a.tmps) = true)
    (h1 : ∀ K : Act → World → Prop, (∀ a' w', ((listed.setIfInBounds k1 true).getD b false = true ∨ S w') → wpAnyB P md ls.toArray Q S b fuel (listed.setIfInBounds k1 true) a' w' → K a' w') → o1.wp P a w K Q)
    (h2 : ∀ K : Act → World → Prop, (∀ a' w', ((listed.setIfInBounds k2 true).getD b false = true ∨ S w') → wpAnyB P md ls.toArray Q S b fuel (listed.setIfInBounds k2 true) a' w' → K a' w') → o2.wp P a w K Q) : wpAnyB P md ls.toArray Q S b (fuel + 1) listed a w := by
  refine ⟨fun h => (by rw [hr] at h; cases h), fun i hi => ?_⟩
  rw [hr] at hi
  have hik : i = k1 ∨ i = k2 := by simpa using hi
  rcases hik with rfl | rfl
  · rw [opAt_eq] at ho1
    unfold wpOp
    simp only [ho1, hw1, if_true]
    exact .inl (h1 _ fun a' w' hs h => ⟨hs, h⟩)
  · rw [opAt_eq] at ho2
    unfold wpOp
    simp only [ho2, hw2, if_true]
    exact .inl (h2 _ fun a' w' hs h => ⟨hs, h⟩)
end
end
end Go.Proofs.YtgogiljplnninaaGreatDoor
/- A place of an own slice of one-cell elements is stored; the places behind one are cleared. Over any program. Conditions: none. -/
namespace Go.Proofs.YtgogiljplnninaaGreatDoor
section
open Go.RowKit

section
variable {P : Program} {lo n c g : Nat} {e : TypeId} {w : World} {o : Oper} {a : Act} {K : Act → World → Prop} {Q : Exit → Act → World → Prop} {α : Type} {row : α → List Value} {l : List α}
theorem flat_one (hrow : ∀ a, (row a).length = 1) {i : Nat} (hi : i < l.length) {z : α} {v : Value} (hz : row z = [v]) : (l.flatMap row).take i ++ [v] ++ (l.flatMap row).drop (i + 1) = (l.set i z).flatMap row := by
  have h := flat_set hrow (by decide) (List.getElem?_eq_getElem hi) (a' := z) (ys := [v]) 0 (by simp) (by rw [hz, List.take_zero, List.nil_append, List.drop_of_length_le (by rw [hrow]; simp), List.append_nil])
  simpa [Nat.mul_one] using h
theorem wp_store_one {ty : TypeId} (hsz : (P.info? ty).map (·.size) = some 1) (hrow : ∀ a, (row a).length = 1) (x y : Operand) (ho : o.op = .store ty x y) (i : Nat) (hx : a.eval x = .pointer (some ⟨g, i, none⟩)) (z : α) (v : Value) (hy : a.eval y = v) (hv : v.cells = #[v]) (hz : row z = [v])
    (h : OwnR row 1 w lo e (some ⟨g, 0, none⟩) n c l) (hi : i < n) (h1 : v.oneCell' = true)
    (hK : ∀ w', OwnR row 1 w' lo e (some ⟨g, 0, none⟩) n c (l.set i z) → w.grownBy w' (some g) → K (a.put o.dst undef) w') : o.wp P a w K Q := by
  obtain ⟨w', hrun, h2, hg⟩ := run_storeCells_own (P := P) [v] i 0 w _ h.1 (by intro u hu; rw [List.mem_singleton.1 hu]; exact h1) (by simp; omega)
  have hf := flat_one hrow (l := l) (by rw [h.2]; exact hi) hz
  have h3 : Own w' lo e 1 (some ⟨g, 0, none⟩) n c ((l.set i z).flatMap row) := by rw [← hf]; simpa using h2
  cases hq : P.info? ty with
  | none => simp [hq] at hsz
  | some inf =>
    have hs : inf.size = 1 := by simpa [hq] using hsz
    unfold Oper.wp execOp
    have hst : (Instr.storeAt ty (.pointer (some ⟨g, i, none⟩)) v).run P w = .ok () w' := by
      simp [Instr.storeAt, Instr.sureAddr, storeVar, sizeOf, typeInfo, hq, hs, hv, hrun]
    simp only [ho, hx, hy, Sem.run_bind, Sem.run_pure, Result.andThen_ok, hst]
    exact hK w' ⟨h3, by rw [List.length_set]; exact h.2⟩ hg
theorem wpl_store_one {ops : Array Oper} {rest : List Oper} {ty : TypeId} (hgd : o.guard = none) (hsz : (P.info? ty).map (·.size) = some 1) (hrow : ∀ a, (row a).length = 1) (x y : Operand) (ho : o.op = .store ty x y) (i : Nat) (hx : a.eval x = .pointer (some ⟨g, i, none⟩)) (z : α) (v : Value) (hy : a.eval y = v) (hv : v.cells = #[v]) (hz : row z = [v])
    (h : OwnR row 1 w lo e (some ⟨g, 0, none⟩) n c l) (hi : i < n) (h1 : v.oneCell' = true)
    (hK : ∀ w', OwnR row 1 w' lo e (some ⟨g, 0, none⟩) n c (l.set i z) → w.grownBy w' (some g) → wpList P ops Q rest (a.put o.dst undef) w') : wpList P ops Q (o :: rest) a w :=
  wpList_plain hgd fun _ hk => wp_store_one hsz hrow x y ho i hx z v hy hv hz h hi h1 fun w' h2 hg => hk _ _ (hK w' h2 hg)
theorem wp_store_cell {ty : TypeId} (hsz : (P.info? ty).map (·.size) = some 1) (x y : Operand) (ho : o.op = .store ty x y) (b i : Nat) (hx : a.eval x = .pointer (some ⟨b, i, none⟩)) (v : Value) (hy : a.eval y = v) (hv : v.cells = #[v]) (h1 : v.oneCell' = true)
    (u : Value) (hc : w.cell? ⟨b, i, none⟩ = some u) (hf : w.frozen? ⟨b, i, none⟩ = false) (hK : K (a.put o.dst undef) (w.setCell ⟨b, i, none⟩ v)) : o.wp P a w K Q := by
  cases hq : P.info? ty with
  | none => simp [hq] at hsz
  | some inf =>
    have hs : inf.size = 1 := by simpa [hq] using hsz
    have hrun : (storeCells ⟨b, i, none⟩ [v] 0).run P w = .ok () (w.setCell ⟨b, i, none⟩ v) := by
      have hst : (store ((⟨b, i, none⟩ : Addr).add 0) v).run P w = .ok () (w.setCell ⟨b, i, none⟩ v) := by
        rw [add_mk, Nat.add_zero, run_store P w _ v _ h1, hc]
        simp [hf]
      simp only [storeCells, Sem.run_bind, hst, Result.andThen_ok]
      rfl
    unfold Oper.wp execOp
    have hst : (Instr.storeAt ty (.pointer (some ⟨b, i, none⟩)) v).run P w = .ok () (w.setCell ⟨b, i, none⟩ v) := by
      simp [Instr.storeAt, Instr.sureAddr, storeVar, sizeOf, typeInfo, hq, hs, hv, hrun]
    simp only [ho, hx, hy, Sem.run_bind, Sem.run_pure, Result.andThen_ok, hst]
    exact hK
/-- The places from i on are cleared. -/
theorem run_clear_own {t ty : TypeId} {z : Value} (ht : P.underlying t = some (.slice e)) (hv : ∀ w, (zeroValue e).run P w = .ok z w) (hz : z.cells = #[z]) (h1 : z.oneCell' = true) {xs : List Value} (h : Own w lo e 1 (some ⟨g, 0, none⟩) n c xs) (i : Nat) (hi : i ≤ n) (A : Option Addr) (hA : i < n → A = some ⟨g, i, none⟩) (m cc : Nat) (hm : m = n - i) :
    ∃ w', (Builtin.clear_ #[t] ty #[.slice A m cc]).run P w = .ok (.tuple #[]) w' ∧ Own w' lo e 1 (some ⟨g, 0, none⟩) n c (xs.take i ++ List.replicate m z) ∧ w.grownBy w' (some g) := by
  subst hm
  by_cases hlt : i < n
  · rw [hA hlt]
    have hzc : (Builtin.zeroCells z.cells (n - i)).toList = List.replicate (n - i) z := by rw [hz, zeroCells_one]; simp
    obtain ⟨w', hrun, h2, hg⟩ := run_storeCells_own (P := P) (List.replicate (n - i) z) i 0 w xs h (fun v hv' => by rw [List.eq_of_mem_replicate hv']; exact h1) (by simp; omega)
    refine ⟨w', ?_, ?_, hg⟩
    · obtain ⟨k, hk⟩ : ∃ k, n - i = k + 1 := ⟨n - i - 1, by omega⟩
      rw [hk] at hzc hrun ⊢
      simp [Builtin.clear_, run_underlying ht, hv, hzc, hrun]
    · have hl := h.len
      rw [List.drop_of_length_le (by simp; omega), List.append_nil] at h2
      simpa using h2
  · have h0 : n - i = 0 := by omega
    rw [h0]
    refine ⟨w, ?_, ?_, gr_refl _ _⟩
    · cases A <;> simp [Builtin.clear_, run_underlying ht]
    · have hl := h.len
      rw [List.take_of_length_le (by omega)]; simpa using h
end
end
end Go.Proofs.YtgogiljplnninaaGreatDoor
/- The builtin clear at a slice of records: the places from one on are cleared. Conditions: none. -/
namespace Go.Proofs.YtgogiljplnninaaGreatDoor
section
open Go.RowKit
variable {P : Program}

theorem zero_mem {zs : Array Value} (h1 : ∀ v ∈ zs.toList, v.oneCell' = true) (hk : 0 < zs.size) (n : Nat) : ∀ v ∈ (Builtin.zeroCells zs n).toList, v.oneCell' = true := by
  intro v hv
  unfold Builtin.zeroCells at hv
  rw [Array.toList_map] at hv
  obtain ⟨i, _, rfl⟩ := List.mem_map.1 hv
  have hlt : i % zs.size < zs.size := Nat.mod_lt _ hk
  rw [getElem!_pos zs (i % zs.size) hlt]
  exact h1 _ (Array.getElem_mem_toList hlt)
theorem run_clear_rows {w : World} {lo n c g k : Nat} {e t : TypeId} {z : Value} (ht : P.underlying t = some (.slice e)) (hv : ∀ w, (zeroValue e).run P w = .ok z w) (hz : z.cells.size = k) (hk : 0 < k) (h1 : ∀ v ∈ z.cells.toList, v.oneCell' = true) {xs : List Value} (h : Own w lo e k (some ⟨g, 0, none⟩) n c xs) (i p : Nat) (hp : p = i * k) (hi : i < n) (m cc : Nat) (hm : m = n - i) :
    ∃ w', (∀ ty, (Builtin.clear_ #[t] ty #[.slice (some ⟨g, p, none⟩) m cc]).run P w = .ok (.tuple #[]) w') ∧ Own w' lo e k (some ⟨g, 0, none⟩) i c (xs.take (i * k)) ∧ w.grownBy w' (some g) := by
  subst hm hp
  have hl := h.len
  have hle : i * k + (n - i) * k = n * k := by rw [← Nat.add_mul]; congr 1; omega
  have hzl : (Builtin.zeroCells z.cells (n - i)).toList.length = (n - i) * k := by
    unfold Builtin.zeroCells
    simp [hz]
  obtain ⟨w', hrun, h2, hg⟩ := run_storeCells_own (P := P) (Builtin.zeroCells z.cells (n - i)).toList (i * k) 0 w xs h (zero_mem h1 (by omega) _) (by rw [hzl]; omega)
  refine ⟨w', fun ty => ?_, ?_, hg⟩
  · obtain ⟨q, hq⟩ : ∃ q, n - i = q + 1 := ⟨n - i - 1, by omega⟩
    rw [hq] at hrun ⊢
    simp [Builtin.clear_, run_underlying ht, hv, hrun]
  · have h3 := h2.prefix_ i (by omega)
    have e1 : i * k ≤ xs.length := by rw [hl, ← hle]; omega
    rw [Nat.add_zero, List.append_assoc, List.take_append_of_le_length (by rw [List.length_take]; omega), List.take_take, Nat.min_self] at h3
    exact h3
section
variable {lo n c g k : Nat} {e : TypeId} {w : World} {o : Oper} {a : Act} {Q : Exit → Act → World → Prop} {α : Type} {row : α → List Value} {l : List α}
theorem wpl_store_rec {ops : Array Oper} {rest : List Oper} {ty : TypeId} (hgd : o.guard = none) (T : StructT P ty k) (hrow : ∀ a, (row a).length = k) (hk : 0 < k) (x y : Operand) (ho : o.op = .store ty x y) (i p : Nat) (hp : p = i * k) (hx : a.eval x = .pointer (some ⟨g, p, none⟩)) (z : α) (hy : a.eval y = .agg (row z).toArray)
    (h : OwnR row k w lo e (some ⟨g, 0, none⟩) n c l) (hi : i < n) (h1 : ∀ u ∈ row z, u.oneCell' = true)
    (hK : ∀ w', OwnR row k w' lo e (some ⟨g, 0, none⟩) n c (l.set i z) → w.grownBy w' (some g) → wpList P ops Q rest (a.put o.dst undef) w') : wpList P ops Q (o :: rest) a w :=
  wpList_plain hgd fun _ hk' => wp_store_rec T hrow hk x y ho i p hp hx z hy h hi h1 fun w' h2 hg => hk' _ _ (hK w' h2 hg)
end
end
end Go.Proofs.YtgogiljplnninaaGreatDoor
/- What persons say through beacons, in plain Lean. Conditions: none. -/
namespace Go.Proofs.YtgogiljplnninaaGreatDoor
section
open Go.RowKit

theorem cmpZ_neg (x y : Int) : cmpZ x y < 0 ↔ x < y := by
  unfold cmpZ
  by_cases h1 : x < y
  · rw [if_pos h1]; omega
  · rw [if_neg h1]
    by_cases h2 : y < x
    · rw [if_pos h2]; omega
    · rw [if_neg h2]; omega
theorem cmpZ_pos (x y : Int) : 0 < cmpZ x y ↔ y < x := by
  unfold cmpZ
  by_cases h1 : x < y
  · rw [if_pos h1]; omega
  · rw [if_neg h1]
    by_cases h2 : y < x
    · rw [if_pos h2]; omega
    · rw [if_neg h2]; omega
theorem cmpZ_zero (x y : Int) : cmpZ x y = 0 ↔ x = y := by
  have h1 := cmpZ_neg x y
  have h2 := cmpZ_pos x y
  omega
theorem bcCmp_lt (a b : BcV) : bcCmp a b < 0 ↔ cmpS a.psn b.psn < 0 ∨ nb a.psn = nb b.psn ∧ (cmpS a.dev b.dev < 0 ∨ nb a.dev = nb b.dev ∧ a.at_ < b.at_) := by
  rw [← cmpS_zero, ← cmpS_zero]
  have h3 := cmpZ_neg a.at_ b.at_
  unfold bcCmp
  simp only [orL]
  by_cases h1 : cmpS a.psn b.psn = 0
  · rw [if_pos h1]
    by_cases h2 : cmpS a.dev b.dev = 0
    · rw [if_pos h2]
      by_cases h4 : cmpZ a.at_ b.at_ = 0
      · rw [if_pos h4]; omega
      · rw [if_neg h4]; omega
    · rw [if_neg h2]; omega
  · rw [if_neg h1]; omega
theorem cmpS_self (a : ByteArray) : cmpS a a = 0 := cmpS_zero.2 rfl
theorem bcCmp_trans {a b c : BcV} (h1 : bcCmp a b < 0) (h2 : bcCmp b c < 0) : bcCmp a c < 0 := by
  rw [bcCmp_lt] at *
  rcases h1 with h1 | ⟨e1, h1⟩
  · rcases h2 with h2 | ⟨e2, h2⟩
    · exact .inl (cmpS_trans h1 h2)
    · exact .inl (by rw [← cmpS_eqr e2]; exact h1)
  · rcases h2 with h2 | ⟨e2, h2⟩
    · exact .inl (by rw [cmpS_eql e1]; exact h2)
    · refine .inr ⟨e1.trans e2, ?_⟩
      rcases h1 with h1 | ⟨f1, h1⟩
      · rcases h2 with h2 | ⟨f2, h2⟩
        · exact .inl (cmpS_trans h1 h2)
        · exact .inl (by rw [← cmpS_eqr f2]; exact h1)
      · rcases h2 with h2 | ⟨f2, h2⟩
        · exact .inl (by rw [cmpS_eql f1]; exact h2)
        · exact .inr ⟨f1.trans f2, by omega⟩
/-- Beacons in order. -/
def BAsc (l : List BcV) : Prop := ∀ (i j : Nat) (a b : BcV), i < j → l[i]? = some a → l[j]? = some b → bcCmp a b < 0
theorem bAsc_of {l : List BcV} (h : ∀ i, 0 < i → ∀ z b, l[i]? = some z → l[i - 1]? = some b → bcCmp b z < 0) : BAsc l := by
  intro i j
  induction j with
  | zero => intro a b hij; omega
  | succ j ih =>
    intro a b hij ha hb
    have hjl : j < l.length := by have := (List.getElem?_eq_some_iff.1 hb).1; omega
    have hm := h (j + 1) (by omega) b l[j] hb (List.getElem?_eq_getElem hjl)
    by_cases e : i = j
    · subst e
      rw [List.getElem?_eq_getElem hjl] at ha
      rw [← Option.some.inj ha]
      exact hm
    · exact bcCmp_trans (ih a l[j] (by omega) ha (List.getElem?_eq_getElem hjl)) hm
/-- b counts at t: it is its person's device's last one that has begun, and it lasts. -/
def PrC (l : List BcV) (p : ByteArray) (t : Int) (b : BcV) : Prop := b ∈ l ∧ nb b.psn = nb p ∧ b.at_ ≤ t ∧ t < b.un ∧ ∀ d ∈ l, nb d.psn = nb p → nb d.dev = nb b.dev → d.at_ ≤ t → d.at_ ≤ b.at_
section
variable {l : List BcV} {p : ByteArray} {t : Int}
theorem bAsc_at (hl : BAsc l) {i j : Nat} {a b : BcV} (hij : i < j) (ha : l[i]? = some a) (hb : l[j]? = some b) (e1 : nb a.psn = nb b.psn) (e2 : nb a.dev = nb b.dev) : a.at_ < b.at_ := by
  have h := (bcCmp_lt a b).1 (hl i j a b hij ha hb)
  have z1 := cmpS_zero.2 e1
  have z2 := cmpS_zero.2 e2
  rcases h with h | ⟨_, h | h⟩ <;> omega
theorem prC_at (hl : BAsc l) {i : Nat} {b : BcV} (hb : l[i]? = some b) : PrC l p t b ↔ nb b.psn = nb p ∧ b.at_ ≤ t ∧ t < b.un ∧ ¬ (∃ d, l[i + 1]? = some d ∧ nb d.psn = nb p ∧ nb d.dev = nb b.dev ∧ d.at_ ≤ t) := by
  constructor
  · rintro ⟨_, h1, h2, h3, h4⟩
    refine ⟨h1, h2, h3, ?_⟩
    rintro ⟨d, hd, e1, e2, e3⟩
    have h5 := h4 d (List.mem_of_getElem? hd) e1 e2 e3
    have h6 := bAsc_at hl (Nat.lt_succ_self i) hb hd (h1.trans e1.symm) e2.symm
    omega
  · rintro ⟨h1, h2, h3, h4⟩
    refine ⟨List.mem_of_getElem? hb, h1, h2, h3, fun d hd e1 e2 e3 => ?_⟩
    obtain ⟨j, hj⟩ := List.mem_iff_getElem?.1 hd
    rcases Nat.lt_trichotomy j i with h | h | h
    · have := bAsc_at hl h hj hb (e1.trans h1.symm) e2
      omega
    · subst h
      rw [hb] at hj
      obtain rfl := Option.some.inj hj
      omega
    · exfalso
      have hjl := (List.getElem?_eq_some_iff.1 hj).1
      have hi1 : i + 1 < l.length := by omega
      have he := List.getElem?_eq_getElem hi1
      generalize l[i + 1] = e at he
      have c1 := (bcCmp_lt b e).1 (hl i (i + 1) b e (by omega) hb he)
      by_cases hji : j = i + 1
      · subst hji
        rw [he] at hj
        obtain rfl := Option.some.inj hj
        exact h4 ⟨_, he, e1, e2, e3⟩
      · have c2 := (bcCmp_lt e d).1 (hl (i + 1) j e d (by omega) he hj)
        have ep : nb b.psn = nb d.psn := h1.trans e1.symm
        have s1 : cmpS e.psn d.psn = - cmpS b.psn e.psn := by rw [← cmpS_eqr (a := e.psn) ep, cmpS_neg]
        have s2 : cmpS e.dev d.dev = - cmpS b.dev e.dev := by rw [cmpS_eqr (a := e.dev) e2, cmpS_neg]
        rw [← cmpS_zero, ← cmpS_zero] at c1 c2
        have k1 : cmpS b.psn e.psn = 0 := by omega
        have k2 : cmpS b.dev e.dev = 0 := by omega
        exact h4 ⟨e, he, (cmpS_zero.1 k1).symm.trans h1, (cmpS_zero.1 k2).symm, by omega⟩
/-- The last one of each device that has begun. -/
def pLast (p : ByteArray) (t : Int) (l : List BcV) : ByteArray → Option BcV := l.foldl (fun f b => if nb b.psn = nb p ∧ b.at_ ≤ t then (fun k => if nb b.dev = nb k then some b else f k) else f) (fun _ => none)
theorem pLast_snoc (p : ByteArray) (t : Int) (l : List BcV) (b : BcV) : pLast p t (l ++ [b]) = if nb b.psn = nb p ∧ b.at_ ≤ t then (fun k => if nb b.dev = nb k then some b else pLast p t l k) else pLast p t l := by
  unfold pLast
  rw [List.foldl_append]; rfl
def LsQ (p : ByteArray) (t : Int) (k : ByteArray) (d : BcV) : Prop := nb d.psn = nb p ∧ d.at_ ≤ t ∧ nb d.dev = nb k
theorem pLast_spec (p : ByteArray) (t : Int) (l : List BcV) (k : ByteArray) : ∀ m, m ≤ l.length → (pLast p t (l.take m) k = none ∧ ∀ j d, j < m → l[j]? = some d → ¬ LsQ p t k d) ∨
    ∃ b i, pLast p t (l.take m) k = some b ∧ i < m ∧ l[i]? = some b ∧ LsQ p t k b ∧ ∀ j d, i < j → j < m → l[j]? = some d → ¬ LsQ p t k d := by
  intro m
  induction m with
  | zero => intro _; exact .inl ⟨rfl, fun j d h => by omega⟩
  | succ m ih =>
    intro hm
    have hz := List.getElem?_eq_getElem (show m < l.length by omega)
    rw [List.take_succ_eq_append_getElem (by omega), pLast_snoc]
    generalize l[m] = z at hz
    by_cases h1 : nb z.psn = nb p ∧ z.at_ ≤ t
    · rw [if_pos h1]
      by_cases h2 : nb z.dev = nb k
      · exact .inr ⟨z, m, if_pos h2, by omega, hz, ⟨h1.1, h1.2, h2⟩, fun j d h h' => by omega⟩
      · have hq : ¬ LsQ p t k z := fun h => h2 h.2.2
        have step : ∀ j d, j < m + 1 → l[j]? = some d → (j < m → ¬ LsQ p t k d) → ¬ LsQ p t k d := fun j d hj hd hn => by
          by_cases e : j = m
          · subst e; rw [hz] at hd; rw [← Option.some.inj hd]; exact hq
          · exact hn (by omega)
        rw [if_neg h2]
        rcases ih (by omega) with ⟨a1, a2⟩ | ⟨b, i, a1, a2, a3, a4, a5⟩
        · exact .inl ⟨a1, fun j d hj hd => step j d hj hd (fun h => a2 j d h hd)⟩
        · exact .inr ⟨b, i, a1, by omega, a3, a4, fun j d h hj hd => step j d hj hd (fun h' => a5 j d h h' hd)⟩
    · rw [if_neg h1]
      have hq : ¬ LsQ p t k z := fun h => h1 ⟨h.1, h.2.1⟩
      have step : ∀ j d, j < m + 1 → l[j]? = some d → (j < m → ¬ LsQ p t k d) → ¬ LsQ p t k d := fun j d hj hd hn => by
        by_cases e : j = m
        · subst e; rw [hz] at hd; rw [← Option.some.inj hd]; exact hq
        · exact hn (by omega)
      rcases ih (by omega) with ⟨a1, a2⟩ | ⟨b, i, a1, a2, a3, a4, a5⟩
      · exact .inl ⟨a1, fun j d hj hd => step j d hj hd (fun h => a2 j d h hd)⟩
      · exact .inr ⟨b, i, a1, by omega, a3, a4, fun j d h hj hd => step j d hj hd (fun h' => a5 j d h h' hd)⟩
theorem pLast_dev {k : ByteArray} {b : BcV} (h : pLast p t l k = some b) : nb b.dev = nb k ∧ b ∈ l := by
  rcases pLast_spec p t l k l.length (Nat.le_refl _) with ⟨a1, _⟩ | ⟨b', i, a1, _, a3, a4, _⟩
  · rw [List.take_length] at a1; rw [a1] at h; cases h
  · rw [List.take_length] at a1; rw [a1] at h
    obtain rfl := Option.some.inj h
    exact ⟨a4.2.2, List.mem_of_getElem? a3⟩
theorem prC_last (hl : BAsc l) (b : BcV) : PrC l p t b ↔ (∃ k, pLast p t l k = some b) ∧ t < b.un := by
  constructor
  · rintro ⟨hb, h1, h2, h3, h4⟩
    refine ⟨⟨b.dev, ?_⟩, h3⟩
    obtain ⟨i, hi⟩ := List.mem_iff_getElem?.1 hb
    have hil := (List.getElem?_eq_some_iff.1 hi).1
    rcases pLast_spec p t l b.dev l.length (Nat.le_refl _) with ⟨a1, a2⟩ | ⟨b', i', a1, a2, a3, a4, a5⟩
    · exact absurd ⟨h1, h2, rfl⟩ (a2 i b hil hi)
    · rw [List.take_length] at a1
      rw [a1]
      rcases Nat.lt_trichotomy i i' with h | h | h
      · have h5 := bAsc_at hl h hi a3 (h1.trans a4.1.symm) a4.2.2.symm
        have h6 := h4 b' (List.mem_of_getElem? a3) a4.1 a4.2.2 a4.2.1
        omega
      · subst h; rw [a3] at hi; exact hi
      · exact absurd ⟨h1, h2, rfl⟩ (a5 i b h hil hi)
  · rintro ⟨⟨k, hk⟩, h3⟩
    rcases pLast_spec p t l k l.length (Nat.le_refl _) with ⟨a1, a2⟩ | ⟨b', i, a1, a2, a3, a4, a5⟩
    · rw [List.take_length] at a1; rw [a1] at hk; cases hk
    · rw [List.take_length] at a1
      rw [a1] at hk
      obtain rfl := Option.some.inj hk
      refine ⟨List.mem_of_getElem? a3, a4.1, a4.2.1, h3, fun d hd e1 e2 e3 => ?_⟩
      obtain ⟨j, hj⟩ := List.mem_iff_getElem?.1 hd
      have hjl := (List.getElem?_eq_some_iff.1 hj).1
      rcases Nat.lt_trichotomy j i with h | h | h
      · have := bAsc_at hl h hj a3 (e1.trans a4.1.symm) e2
        omega
      · subst h; rw [a3] at hj; obtain rfl := Option.some.inj hj; omega
      · exact absurd ⟨e1, e3, e2.trans a4.2.2⟩ (a5 j d h hjl hj)
/-! Which one counts. -/
def bc0 : BcV := ⟨⟨#[]⟩, ⟨#[]⟩, 0, 0, 0, ⟨#[]⟩⟩
/-- d counts more than c. -/
def PrB (d c : BcV) : Prop := c.st < d.st ∨ (d.st = c.st ∧ (c.at_ < d.at_ ∨ (d.at_ = c.at_ ∧ cmpS d.dev c.dev < 0)))
def IsW (S : BcV → Prop) (f : Bool) (b : BcV) : Prop := (f = true ∧ S b ∧ ∀ d, S d → ¬ PrB d b) ∨ (f = false ∧ b = bc0 ∧ ∀ d, ¬ S d)
theorem PrB.irr (b : BcV) : ¬ PrB b b := by
  have := cmpS_self b.dev
  unfold PrB; omega
theorem PrB.trans {a b c : BcV} (h1 : PrB a b) (h2 : PrB b c) : PrB a c := by
  unfold PrB at *
  rcases h1 with h1 | ⟨e1, h1 | ⟨f1, h1⟩⟩ <;> rcases h2 with h2 | ⟨e2, h2 | ⟨f2, h2⟩⟩
  all_goals first | (left; omega) | (right; refine ⟨by omega, ?_⟩; first | (left; omega) | (right; exact ⟨by omega, cmpS_trans h1 h2⟩))
section
variable {S S' : BcV → Prop} {f : Bool} {b c : BcV}
theorem IsW.same (h : IsW S f b) (e : ∀ d, S' d ↔ S d) : IsW S' f b := by
  rcases h with ⟨h1, h2, h3⟩ | ⟨h1, h2, h3⟩
  · exact .inl ⟨h1, (e b).2 h2, fun d hd => h3 d ((e d).1 hd)⟩
  · exact .inr ⟨h1, h2, fun d hd => h3 d ((e d).1 hd)⟩
theorem IsW.put (h : IsW S f b) (e : ∀ d, S' d ↔ S d ∨ d = c) (hc : f = false ∨ PrB c b) : IsW S' true c := by
  refine .inl ⟨rfl, (e c).2 (.inr rfl), fun d hd => ?_⟩
  rcases (e d).1 hd with h1 | rfl
  · rcases h with ⟨_, _, h3⟩ | ⟨_, _, h3⟩
    · rcases hc with hc | hc
      · subst hc; contradiction
      · exact fun h4 => h3 d h1 (h4.trans hc)
    · exact absurd h1 (h3 d)
  · exact PrB.irr _
theorem IsW.stay (h : IsW S f b) (e : ∀ d, S' d ↔ S d ∨ d = c) (hf : f = true) (hc : ¬ PrB c b) : IsW S' f b := by
  subst hf
  rcases h with ⟨_, h2, h3⟩ | ⟨h1, _⟩
  · refine .inl ⟨rfl, (e b).2 (.inl h2), fun d hd => ?_⟩
    rcases (e d).1 hd with h1 | rfl
    · exact h3 d h1
    · exact hc
  · cases h1
end
open Classical in
/-- What is known of a person at a moment. -/
noncomputable def prs (l : List BcV) (p : ByteArray) (t : Int) : Bool × BcV := if h : ∃ q : Bool × BcV, IsW (PrC l p t) q.1 q.2 then h.choose else (false, bc0)
theorem prC_one (hl : BAsc l) {b c : BcV} (h1 : PrC l p t b) (h2 : PrC l p t c) (n1 : ¬ PrB b c) (n2 : ¬ PrB c b) : b = c := by
  have e : nb b.dev = nb c.dev := by
    rw [← cmpS_zero]
    have := cmpS_neg b.dev c.dev
    unfold PrB at n1 n2
    omega
  have ea : b.at_ = c.at_ := by
    have x1 := h1.2.2.2.2 c h2.1 h2.2.1 e.symm h2.2.2.1
    have x2 := h2.2.2.2.2 b h1.1 h1.2.1 e h1.2.2.1
    omega
  obtain ⟨i, hi⟩ := List.mem_iff_getElem?.1 h1.1
  obtain ⟨j, hj⟩ := List.mem_iff_getElem?.1 h2.1
  rcases Nat.lt_trichotomy i j with h | h | h
  · have := bAsc_at hl h hi hj (h1.2.1.trans h2.2.1.symm) e; omega
  · subst h; rw [hi] at hj; exact Option.some.inj hj
  · have := bAsc_at hl h hj hi (h2.2.1.trans h1.2.1.symm) e.symm; omega
theorem prs_of (hl : BAsc l) {f : Bool} {b : BcV} (h : IsW (PrC l p t) f b) : prs l p t = (f, b) := by
  have hx : ∃ q : Bool × BcV, IsW (PrC l p t) q.1 q.2 := ⟨(f, b), h⟩
  unfold prs
  rw [dif_pos hx]
  have hs := hx.choose_spec
  generalize hx.choose = q at hs
  obtain ⟨f', b'⟩ := q
  rcases h with ⟨rfl, h2, h3⟩ | ⟨rfl, rfl, h3⟩ <;> rcases hs with ⟨g1, g2, g3⟩ | ⟨g1, g2, g3⟩
  · dsimp only at g1 g2 g3
    rw [g1, prC_one hl g2 h2 (h3 _ g2) (g3 _ h2)]
  · exact absurd h2 (g3 _)
  · exact absurd g2 (h3 _)
  · dsimp only at g1 g2 g3
    rw [g1, g2]
theorem prs_mem {f : Bool} {b : BcV} (h : prs l p t = (f, b)) : (f = true → b ∈ l ∧ nb b.psn = nb p) ∧ (f = false → b = bc0) := by
  unfold prs at h
  split at h
  · rename_i hx
    have hs := hx.choose_spec
    rw [h] at hs
    rcases hs with ⟨g1, g2, _⟩ | ⟨g1, g2, _⟩
    · exact ⟨fun _ => ⟨g2.1, g2.2.1⟩, fun e => (by dsimp only at g1; rw [g1] at e; cases e)⟩
    · exact ⟨fun e => (by dsimp only at g1; rw [g1] at e; cases e), fun _ => g2⟩
  · cases h
    exact ⟨fun e => (by cases e), fun _ => rfl⟩
/-- The program's candidates among the first i. -/
def SyC (l : List BcV) (p : ByteArray) (t : Int) (i : Nat) (b : BcV) : Prop := ∃ j, j < i ∧ l[j]? = some b ∧ PrC l p t b
theorem syC_skip {i : Nat} {b : BcV} (hb : l[i]? = some b) (hn : ¬ PrC l p t b) (d : BcV) : SyC l p t (i + 1) d ↔ SyC l p t i d := by
  constructor
  · rintro ⟨j, h1, h2, h3⟩
    refine ⟨j, ?_, h2, h3⟩
    by_cases e : j = i
    · subst e; rw [hb] at h2; rw [← Option.some.inj h2] at h3; exact absurd h3 hn
    · omega
  · rintro ⟨j, h1, h2, h3⟩; exact ⟨j, by omega, h2, h3⟩
theorem syC_add {i : Nat} {b : BcV} (hb : l[i]? = some b) (hn : PrC l p t b) (d : BcV) : SyC l p t (i + 1) d ↔ SyC l p t i d ∨ d = b := by
  constructor
  · rintro ⟨j, h1, h2, h3⟩
    by_cases e : j = i
    · subst e; rw [hb] at h2; exact .inr (Option.some.inj h2).symm
    · exact .inl ⟨j, by omega, h2, h3⟩
  · rintro (⟨j, h1, h2, h3⟩ | rfl)
    · exact ⟨j, by omega, h2, h3⟩
    · exact ⟨i, by omega, hb, hn⟩
theorem syC_all (d : BcV) : SyC l p t l.length d ↔ PrC l p t d := by
  constructor
  · rintro ⟨j, _, _, h⟩; exact h
  · intro h
    obtain ⟨i, hi⟩ := List.mem_iff_getElem?.1 h.1
    exact ⟨i, (List.getElem?_eq_some_iff.1 hi).1, hi, h⟩
/-- The program's comparison, of a later candidate with the best so far. -/
theorem prB_prog (hl : BAsc l) {i : Nat} {b c : BcV} (hb : l[i]? = some b) (hn : PrC l p t b) (hc : SyC l p t i c) : PrB b c ↔ 0 < orL [cmpZ b.st c.st, cmpZ b.at_ c.at_] := by
  obtain ⟨j, h1, h2, h3⟩ := hc
  have hlt := (bcCmp_lt c b).1 (hl j i c b h1 h2 hb)
  have ep := cmpS_zero.2 (h3.2.1.trans hn.2.1.symm)
  have z1 := cmpZ_pos b.st c.st
  have z2 := cmpZ_zero b.st c.st
  have z3 := cmpZ_pos b.at_ c.at_
  have hd := cmpS_neg c.dev b.dev
  have z4 : 0 < orL [cmpZ b.st c.st, cmpZ b.at_ c.at_] ↔ c.st < b.st ∨ (b.st = c.st ∧ c.at_ < b.at_) := by
    simp only [orL]
    by_cases h4 : cmpZ b.st c.st = 0
    · rw [if_pos h4]
      by_cases h5 : cmpZ b.at_ c.at_ = 0
      · rw [if_pos h5]; omega
      · rw [if_neg h5]; omega
    · rw [if_neg h4]; omega
  rw [z4]
  unfold PrB
  rw [← cmpS_zero, ← cmpS_zero] at hlt
  omega
/-- The document's comparison. -/
theorem prB_doc (b c : BcV) : PrB b c ↔ 0 < cmpLL cmpZ [b.st, b.at_] [c.st, c.at_] ∨ (cmpLL cmpZ [b.st, b.at_] [c.st, c.at_] = 0 ∧ cmpS b.dev c.dev < 0) := by
  have z1 := cmpZ_pos b.st c.st
  have z2 := cmpZ_zero b.st c.st
  have z3 := cmpZ_pos b.at_ c.at_
  have z5 := cmpZ_zero b.at_ c.at_
  have z4 : cmpLL cmpZ [b.st, b.at_] [c.st, c.at_] = if cmpZ b.st c.st = 0 then cmpZ b.at_ c.at_ else cmpZ b.st c.st := by
    simp only [cmpLL]
    by_cases h4 : cmpZ b.st c.st = 0
    · rw [if_pos h4, if_pos h4]
      by_cases h5 : cmpZ b.at_ c.at_ = 0
      · rw [if_pos h5, h5]
      · rw [if_neg h5]
    · rw [if_neg h4, if_neg h4]
  rw [z4]
  unfold PrB
  by_cases h4 : cmpZ b.st c.st = 0
  · rw [if_pos h4]; omega
  · rw [if_neg h4]; omega
/-- The document's candidates among the keys that have come. -/
def DoC (f : ByteArray → Option BcV) (L : ByteArray → Bool) (t : Int) (b : BcV) : Prop := (∃ k, f k = some b ∧ L k = false) ∧ t < b.un
theorem doC_skip {f : ByteArray → Option BcV} {L : ByteArray → Bool} {x : ByteArray} {c : BcV} (hx : f x = some c) (hn : ¬ t < c.un) (d : BcV) : DoC f (fun k => L k && decide (nb k ≠ nb x)) t d ↔ DoC f L t d := by
  constructor
  · rintro ⟨⟨k, h1, h2⟩, h3⟩
    refine ⟨⟨k, h1, ?_⟩, h3⟩
    by_cases e : nb k = nb x
    · rw [nb_inj e, hx] at h1; rw [← Option.some.inj h1] at h3; exact absurd h3 hn
    · simpa [e] using h2
  · rintro ⟨⟨k, h1, h2⟩, h3⟩; exact ⟨⟨k, h1, by simp [h2]⟩, h3⟩
theorem doC_add {f : ByteArray → Option BcV} {L : ByteArray → Bool} {x : ByteArray} {c : BcV} (hx : f x = some c) (hn : t < c.un) (d : BcV) : DoC f (fun k => L k && decide (nb k ≠ nb x)) t d ↔ DoC f L t d ∨ d = c := by
  constructor
  · rintro ⟨⟨k, h1, h2⟩, h3⟩
    by_cases e : nb k = nb x
    · rw [nb_inj e, hx] at h1; exact .inr (Option.some.inj h1).symm
    · exact .inl ⟨⟨k, h1, by simpa [e] using h2⟩, h3⟩
  · rintro (⟨⟨k, h1, h2⟩, h3⟩ | rfl)
    · exact ⟨⟨k, h1, by simp [h2]⟩, h3⟩
    · exact ⟨⟨x, hx, by simp⟩, hn⟩
theorem doC_all (hl : BAsc l) {L : ByteArray → Bool} (hL : ∀ k, L k = false) (d : BcV) : PrC l p t d ↔ DoC (pLast p t l) L t d := by
  rw [prC_last hl]
  constructor
  · rintro ⟨⟨k, h1⟩, h2⟩; exact ⟨⟨k, h1, hL k⟩, h2⟩
  · rintro ⟨⟨k, h1, _⟩, h2⟩; exact ⟨⟨k, h1⟩, h2⟩
end
end
end Go.Proofs.YtgogiljplnninaaGreatDoor

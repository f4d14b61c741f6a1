/- How a plan decides, in plain Lean. Conditions: none. -/
import Derived.Test.YtdhaelpacffnlaaGreatDoorBun7
import Derived.Test.YtdhaelpacffnlaaGreatDoorBun3
import Derived.Test.YtdhaelpacffnlaaGreatDoorHou3
namespace Go.Proofs.YtdhaelpacffnlaaGreatDoor

theorem find_idx {α : Type} {p : α → Bool} : ∀ {l : List α}, l.find? p = l[l.findIdx p]?
  | [] => rfl
  | a :: l => by
    rw [List.find?_cons, List.findIdx_cons]
    cases p a
    · simpa using find_idx (p := p) (l := l)
    · rfl
theorem idx_find {α : Type} {p : α → Bool} {l : List α} (h : l.any p = true) : ∃ (i : Nat) (z : α), idxP p l = i ∧ l[i]? = some z ∧ p z = true ∧ l.find? p = some z := by
  obtain ⟨x, hx, hp⟩ := List.any_eq_true.1 h
  have hlt : l.findIdx p < l.length := List.findIdx_lt_length_of_exists ⟨x, hx, hp⟩
  have hg := List.getElem?_eq_getElem hlt
  refine ⟨l.findIdx p, l[l.findIdx p], ?_, hg, List.findIdx_getElem (w := hlt), by rw [find_idx, hg]⟩
  unfold idxP; rw [if_pos h]

/-! Hours. -/
/-- Do hours count at a moment? -/
def cntB (hs : List HrV) (k : ByteArray) (t : Int) : Bool := decide (nb k = []) || (hs.find? (fun h : HrV => nb h.key == nb k)).elim false (fun h => openAt h.zone h.rows h.hol t)
theorem hrs_one_of {l : List HrV} (h : hrsE l = 0) {a : HrV} (ha : a ∈ l) : hrsE [a] = 0 := by
  unfold hrsE at h
  split at h
  · omega
  · obtain ⟨i, hi⟩ := List.mem_iff_getElem?.1 ha
    have h1 := fstE_all h (List.getElem?_eq_some_iff.1 hi).1
    cases hk : keyOk (nb a.key)
    · rw [hrAt_5 hi hk] at h1; omega
    · rw [hrAt_last hi hk] at h1
      split at h1
      · omega
      · show fstE (hrAt [a]) 1 = 0
        show (if fstE (hrAt [a]) 0 = 0 then hrAt [a] 0 else fstE (hrAt [a]) 0) = 0
        rw [show fstE (hrAt [a]) 0 = 0 from rfl, if_pos rfl, hrAt_z (z := a) rfl hk (by omega)]
        exact h1

/-! Rules. -/
structure RuRight (hs : List HrV) (r : RuV) : Prop where
  pat : ∃ x, patX (nb r.pat) = some x
  strip : 0 ≤ r.strip ∧ r.strip ≤ 30
  pre : r.pre.size ≤ 30
  hrs : hrsOk hs r.hrs = true
theorem ru_right {hs : List HrV} {prev : List RuV} {r : RuV} (h : ruE hs prev r = 0) : RuRight hs r := by
  unfold ruE at h
  by_cases c1 : patF (nb r.pat) = 0
  · rw [if_pos c1] at h
    by_cases c2 : inB r.strip 0 30 = true
    · rw [if_pos c2] at h
      by_cases c3 : preOk (nb r.pre) = true
      · rw [if_pos c3] at h
        by_cases c4 : inB r.to_ 1 6 = true
        · rw [if_pos c4] at h
          have h5 : ruE2 hs prev r = 0 := by
            unfold ruE1 at h
            by_cases c5 : inB r.to_ 3 5 = true
            · rw [if_pos c5] at h
              by_cases c6 : keyOk (nb r.nam) = true
              · rw [if_pos c6] at h; exact h
              · rw [if_neg c6] at h; omega
            · rw [if_neg c5] at h
              by_cases c6 : nb r.nam = []
              · rw [if_pos c6] at h; exact h
              · rw [if_neg c6] at h; omega
          refine ⟨?_, ?_, ?_, ?_⟩
          · cases hp : patX (nb r.pat) with
            | none => have := patF_none hp; omega
            | some x => exact ⟨x, rfl⟩
          · unfold inB at c2; simpa using c2
          · unfold preOk at c3
            simp only [Bool.and_eq_true, decide_eq_true_eq] at c3
            rw [← nb_len]; exact c3.1
          · unfold ruE2 at h5
            by_cases c7 : hrsOk hs r.hrs = true
            · exact c7
            · rw [if_neg c7] at h5; omega
        · rw [if_neg c4] at h; omega
      · rw [if_neg c3] at h; omega
    · rw [if_neg c2] at h; omega
  · rw [if_neg c1] at h; exact absurd h c1
def fitB (hs : List HrV) (d : List Nat) (t : Int) (r : RuV) : Bool := (patX (nb r.pat)).elim false (fun x => matchL x d) && cntB hs r.hrs t
def befR (r b : RuV) : Bool := (patX (nb r.pat)).elim false fun x => (patX (nb b.pat)).elim false fun y => decide (befL x y < 0)
/-- The best of the first rules. -/
def decT (hs : List HrV) (d : List Nat) (t : Int) (rules : List RuV) : Nat → Option Nat
  | 0 => none
  | k + 1 => (rules[k]?).elim (decT hs d t rules k) fun r => if fitB hs d t r && (decT hs d t rules k).elim true (fun b => (rules[b]?).elim false (befR r)) then some k else decT hs d t rules k
section
variable {hs : List HrV} {d : List Nat} {t : Int} {rules : List RuV}
theorem decT_lt : ∀ {k b : Nat}, decT hs d t rules k = some b → b < k
  | 0, b, h => by cases h
  | k + 1, b, h => by
    unfold decT at h
    cases hr : rules[k]? with
    | none => rw [hr] at h; have := decT_lt (k := k) h; omega
    | some r =>
      rw [hr] at h
      have h' : (if (fitB hs d t r && (decT hs d t rules k).elim true (fun b => (rules[b]?).elim false (befR r))) = true then some k else decT hs d t rules k) = some b := h
      by_cases c : (fitB hs d t r && (decT hs d t rules k).elim true (fun b => (rules[b]?).elim false (befR r))) = true
      · rw [if_pos c] at h'; injection h' with h'; omega
      · rw [if_neg c] at h'; have := decT_lt (k := k) h'; omega
theorem decT_no {k : Nat} {r : RuV} (h : rules[k]? = some r) (hf : fitB hs d t r = false) : decT hs d t rules (k + 1) = decT hs d t rules k := by
  show (rules[k]?).elim _ _ = _
  rw [h]; simp [Option.elim, hf]
theorem decT_first {k : Nat} {r : RuV} (h : rules[k]? = some r) (hf : fitB hs d t r = true) (hd : decT hs d t rules k = none) : decT hs d t rules (k + 1) = some k := by
  show (rules[k]?).elim _ _ = _
  rw [h]; simp [Option.elim, hf, hd]
theorem decT_more {k b : Nat} {r o : RuV} (h : rules[k]? = some r) (hf : fitB hs d t r = true) (hd : decT hs d t rules k = some b) (hb : rules[b]? = some o) : decT hs d t rules (k + 1) = if befR r o then some k else some b := by
  show (rules[k]?).elim _ _ = _
  rw [h]; simp [Option.elim, hf, hd, hb]
end
def bestI (o : Option Nat) : Int := o.elim (-1) (fun b => (b : Int))

/-! What Decide answers. -/
def zeroH : List Value := [.string ⟨#[]⟩, .int .i64 0, .int .i64 0, .string ⟨#[]⟩, .string ⟨#[]⟩]
def hitC (key : ByteArray) (b : Nat) (r : RuV) (dd : ByteArray) : List Value := [.string key, .int .i64 b, .int .i64 r.to_, .string r.nam, .string dd]
/-- What is dialled behind a rule. -/
def ddOf (r : RuV) (dial : ByteArray) : ByteArray := r.pre ++ dial.extract (min r.strip.toNat dial.size) dial.size
def hit1 (dial : ByteArray) (key : ByteArray) (b : Nat) (r : RuV) : List Value × Int :=
  if 30 < (ddOf r dial).size then (zeroH, 2) else (if nb (ddOf r dial) = [] ∧ (r.to_ = 1 ∨ r.to_ = 2) then (zeroH, 3) else (hitC key b r (ddOf r dial), 0))
def hitR (hs : List HrV) (dial : ByteArray) (t : Int) : List CxV → List Value × Int
  | [] => (zeroH, 8)
  | c :: L => (decT hs (nb dial) t c.rules c.rules.length).elim (hitR hs dial t L) fun b => (c.rules[b]?).elim (zeroH, 8) (hit1 dial c.key b)
/-- Which rule of which context decides. -/
def decD (hs : List HrV) (d : List Nat) (t : Int) : List CxV → Option (CxV × Nat)
  | [] => none
  | c :: L => (decT hs d t c.rules c.rules.length).elim (decD hs d t L) fun b => some (c, b)
theorem hitR_dec (hs : List HrV) (dial : ByteArray) (t : Int) : ∀ (L : List CxV), hitR hs dial t L = (decD hs (nb dial) t L).elim (zeroH, 8) fun cb => (cb.1.rules[cb.2]?).elim (zeroH, 8) (hit1 dial cb.1.key cb.2)
  | [] => rfl
  | c :: L => by
    unfold hitR decD
    cases decT hs (nb dial) t c.rules c.rules.length with
    | none => exact hitR_dec hs dial t L
    | some b => rfl
theorem decD_drop {hs : List HrV} {d : List Nat} {t : Int} {L : List CxV} {k : Nat} {c : CxV} (h : L[k]? = some c) : decD hs d t (L.drop k) = (decT hs d t c.rules c.rules.length).elim (decD hs d t (L.drop (k + 1))) fun b => some (c, b) := by
  obtain ⟨hl, rfl⟩ := List.getElem?_eq_some_iff.1 h
  rw [List.drop_eq_getElem_cons hl]; rfl
theorem dd_size {r : RuV} {dial : ByteArray} (h1 : r.pre.size ≤ 1000000) (h2 : dial.size ≤ 1000000) : (ddOf r dial).size ≤ 2000000 := by
  unfold ddOf
  rw [ByteArray.size_append, ByteArray.size_extract]
  omega
/-- What holds of a plan that is right. -/
structure PlRight (p : PlV) : Prop where
  hours : ∀ a ∈ p.hours, hrsE [a] = 0
  cn : p.cn ≤ 50
  mis : misB p.ctxs = false
  cx : ∀ (i : Nat) (c : CxV), p.ctxs[i]? = some c → CxRight p.hours c
  cxs : fstE (cxAt p.hours p.ctxs) p.cn = 0
theorem pl_right {p : PlV} {LB : Bool} (hl : p.ctxs.length = p.cn) (h : plE p LB = 0) : PlRight p := by
  obtain ⟨h1, h2, h3, h4, _⟩ := plE_right h
  exact ⟨fun a ha => hrs_one_of h1 ha, h2, h4, fun i c hc => (cx_right hc (fstE_all h3 (by rw [← hl]; exact (List.getElem?_eq_some_iff.1 hc).1))).1, h3⟩
theorem cx_rules {hs : List HrV} {c : CxV} (hl : c.rules.length = c.rn) (h : CxRight hs c) : ∀ r ∈ c.rules, RuRight hs r := fun r hr => by
  obtain ⟨i, hi⟩ := List.mem_iff_getElem?.1 hr
  have h1 := h.rules i (by rw [← hl]; exact (List.getElem?_eq_some_iff.1 hi).1)
  unfold ruAt at h1
  rw [hi] at h1
  exact ru_right h1
end Go.Proofs.YtdhaelpacffnlaaGreatDoor

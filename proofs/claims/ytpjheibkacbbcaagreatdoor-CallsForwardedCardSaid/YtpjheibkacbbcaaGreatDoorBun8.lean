/- How a plan decides, in plain Lean. Conditions: none. -/
import Derived.Test.YtpjheibkacbbcaaGreatDoorBun6
import Derived.Test.YtpjheibkacbbcaaGreatDoorBun3
import Derived.Test.YtpjheibkacbbcaaGreatDoorHou3
import Derived.Test.YtpjheibkacbbcaaGreatDoorBun1
namespace Go.Proofs.YtpjheibkacbbcaaGreatDoor
section

theorem find_idx {α : Type} {p : α → Bool} : ∀ {l : List α}, l.find? p = l[l.findIdx p]?
  | [] => rfl
  | a :: l => by
    rw [List.find?_cons, List.findIdx_cons]
    cases p a
    · simpa using find_idx (p := p) (l := l)
    · rfl
theorem idx_find {α : Type} {p : α → Bool} {l : List α} (h : l.any p = true) : ∃ (i : Nat) (z : α), idxP p l = i ∧ l[i]? = some z ∧ p z = true ∧ l.find? p = some z := by
  obtain ⟨x, hx, hp⟩ := List.any_eq_true.1 h
  have hlt : l.findIdx p < l.length := List.findIdx_lt_length_of_exists ⟨x, hx, hp⟩
  have hg := List.getElem?_eq_getElem hlt
  refine ⟨l.findIdx p, l[l.findIdx p], ?_, hg, List.findIdx_getElem (w := hlt), by rw [find_idx, hg]⟩
  unfold idxP; rw [if_pos h]

/-! Hours. -/
/-- Do hours count at a moment? -/
def cntB (hs : List HrV) (k : ByteArray) (t : Int) : Bool := decide (nb k = []) || (hs.find? (fun h : HrV => nb h.key == nb k)).elim false (fun h => openAt h.zone h.rows h.hol t)
theorem hrs_one_of {l : List HrV} (h : hrsE l = 0) {a : HrV} (ha : a ∈ l) : hrsE [a] = 0 := by
  unfold hrsE at h
  split at h
  · omega
  · obtain ⟨i, hi⟩ := List.mem_iff_getElem?.1 ha
    have h1 := fstE_alh h (List.getElem?_eq_some_iff.1 hi).1
    cases hk : keyOk (nb a.key)
    · rw [hrAt_5 hi hk] at h1; omega
    · rw [hrAt_last hi hk] at h1
      split at h1
      · omega
      · show fstE (hrAt [a]) 1 = 0
        show (if fstE (hrAt [a]) 0 = 0 then hrAt [a] 0 else fstE (hrAt [a]) 0) = 0
        rw [show fstE (hrAt [a]) 0 = 0 from rfl, if_pos rfl, hrAt_z (z := a) rfl hk (by omega)]
        exact h1

/-! Rules. -/
structure RuRight (hs : List HrV) (r : RuV) : Prop where
  pat : ∃ x, patX (nb r.pat) = some x
  strip : 0 ≤ r.strip ∧ r.strip ≤ 30
  pre : r.pre.size ≤ 30
  hrs : hrsOk hs r.hrs = true
section
variable {hs : List HrV} {d : List Nat} {t : Int} {rules : List RuV}
end
/-! What Decide answers. -/
/-- What holds of a plan that is right. -/
structure PlRight (p : PlV) : Prop where
  hours : ∀ a ∈ p.hours, hrsE [a] = 0
  cn : p.cn ≤ 50
  mis : misB p.ctxs = false
  cx : ∀ (i : Nat) (c : CxV), p.ctxs[i]? = some c → CxRight p.hours c
  cxs : fstE (cxAt p.hours p.ctxs) p.cn = 0
theorem pl_right {p : PlV} {LB : Bool} (hl : p.ctxs.length = p.cn) (h : plE p LB = 0) : PlRight p := by
  obtain ⟨h1, h2, h3, h4, _⟩ := plE_right h
  exact ⟨fun a ha => hrs_one_of h1 ha, h2, h4, fun i c hc => (cx_right hc (fstE_alh h3 (by rw [← hl]; exact (List.getElem?_eq_some_iff.1 hc).1))).1, h3⟩
end
end Go.Proofs.YtpjheibkacbbcaaGreatDoor
/- Forwards as they lie in memory, what is wrong with them and with states, chains, circles, in plain Lean. Conditions: none. -/
namespace Go.Proofs.YtpjheibkacbbcaaGreatDoor
section
open Go.RowKit Classical

/-- A forward. -/
structure FwV where
  line : ByteArray
  when_ : Int
  to_ : ByteArray
  hrs : ByteArray
def FwV.row (f : FwV) : List Value := [.string f.line, .int .i64 f.when_, .string f.to_, .string f.hrs]
theorem FwV.row_len (f : FwV) : f.row.length = 4 := rfl
def FwOk (f : FwV) : Prop := f.line.size ≤ 1000000 ∧ f.to_.size ≤ 1000000 ∧ f.hrs.size ≤ 1000000
def Fws (w : World) (lo : Nat) (A : Option Addr) (n c : Nat) (l : List FwV) : Prop := Recs FwV.row 4 w lo A n c l ∧ ∀ f ∈ l, FwOk f
theorem Fws.grown {w w' : World} {lo n c : Nat} {A : Option Addr} {l : List FwV} {r : Option Nat} (h : Fws w lo A n c l) (hg : w.grownBy w' r) (hr : ∀ g, r = some g → g < lo) : Fws w' lo A n c l := ⟨h.1.grown hg hr, h.2⟩
/-- A state of a line. -/
structure PrV where
  nam : ByteArray
  val : ByteArray
def PrV.row (f : PrV) : List Value := [.string f.nam, .string f.val]
theorem PrV.row_len (f : PrV) : f.row.length = 2 := rfl
def PrOk (f : PrV) : Prop := f.nam.size ≤ 1000000 ∧ f.val.size ≤ 1000000
def Prs (w : World) (lo : Nat) (A : Option Addr) (n c : Nat) (l : List PrV) : Prop := Recs PrV.row 2 w lo A n c l ∧ ∀ f ∈ l, PrOk f
theorem Prs.grown {w w' : World} {lo n c : Nat} {A : Option Addr} {l : List PrV} {r : Option Nat} (h : Prs w lo A n c l) (hg : w.grownBy w' r) (hr : ∀ g, r = some g → g < lo) : Prs w' lo A n c l := ⟨h.1.grown hg hr, h.2⟩

/-! What is wrong with forwards. -/
def fwCmp (a b : FwV) : Int := if cmpS a.line b.line = 0 then (if a.when_ = b.when_ then cmpS a.hrs b.hrs else a.when_ - b.when_) else cmpS a.line b.line
def fwF (hs : List HrV) (f : FwV) : Int :=
  if (keyOk (nb f.line) && keyOk (nb f.to_)) = true then (if inB f.when_ 1 3 = true then (if hrsOk hs f.hrs = true then (if (nb f.to_ == nb f.line) = true then 14 else 0) else 8) else 4) else 5
def fwAt (hs : List HrV) (l : List FwV) (i : Nat) : Int := (l[i]?).elim 0 fun f =>
  if fwF hs f = 0 then (if decide (0 < i) && (l[i - 1]?).elim false (fun b => decide (0 ≤ fwCmp b f)) then 7 else 0) else fwF hs f
def fwE (hs : List HrV) (l : List FwV) : Int := if 1000 < l.length then 2 else fstE (fwAt hs l) l.length
section
variable {hs : List HrV} {f b : FwV} {l : List FwV} {i : Nat}
theorem fwF_5 (h : (keyOk (nb f.line) && keyOk (nb f.to_)) = false) : fwF hs f = 5 := by unfold fwF; rw [h]; rfl
theorem fwF_4 (h : (keyOk (nb f.line) && keyOk (nb f.to_)) = true) (h1 : inB f.when_ 1 3 = false) : fwF hs f = 4 := by unfold fwF; rw [h, h1]; rfl
theorem fwF_8 (h : (keyOk (nb f.line) && keyOk (nb f.to_)) = true) (h1 : inB f.when_ 1 3 = true) (h2 : hrsOk hs f.hrs = false) : fwF hs f = 8 := by unfold fwF; rw [h, h1, h2]; rfl
theorem fwF_14 (h : (keyOk (nb f.line) && keyOk (nb f.to_)) = true) (h1 : inB f.when_ 1 3 = true) (h2 : hrsOk hs f.hrs = true) (h3 : (nb f.to_ == nb f.line) = true) : fwF hs f = 14 := by unfold fwF; rw [h, h1, h2, h3]; rfl
theorem fwF_0 (h : (keyOk (nb f.line) && keyOk (nb f.to_)) = true) (h1 : inB f.when_ 1 3 = true) (h2 : hrsOk hs f.hrs = true) (h3 : (nb f.to_ == nb f.line) = false) : fwF hs f = 0 := by unfold fwF; rw [h, h1, h2, h3]; rfl
theorem fwF_right (h : fwF hs f = 0) : keyOk (nb f.line) = true ∧ keyOk (nb f.to_) = true ∧ inB f.when_ 1 3 = true ∧ hrsOk hs f.hrs = true ∧ (nb f.to_ == nb f.line) = false := by
  cases h1 : (keyOk (nb f.line) && keyOk (nb f.to_))
  · rw [fwF_5 h1] at h; omega
  · cases h2 : inB f.when_ 1 3
    · rw [fwF_4 h1 h2] at h; omega
    · cases h3 : hrsOk hs f.hrs
      · rw [fwF_8 h1 h2 h3] at h; omega
      · cases h4 : (nb f.to_ == nb f.line)
        · simp only [Bool.and_eq_true] at h1
          exact ⟨h1.1, h1.2, rfl, rfl, rfl⟩
        · rw [fwF_14 h1 h2 h3 h4] at h; omega
theorem fwAt_f (h : l[i]? = some f) (h1 : fwF hs f ≠ 0) : fwAt hs l i = fwF hs f := by simp only [fwAt, h, Option.elim]; rw [if_neg h1]
theorem fwAt_z (h : l[i]? = some f) (h1 : fwF hs f = 0) (h0 : ¬ 0 < i) : fwAt hs l i = 0 := by simp only [fwAt, h, Option.elim, decide_eq_false h0, Bool.false_and]; rw [if_pos h1]; rfl
theorem fwAt_7 (h : l[i]? = some f) (h1 : fwF hs f = 0) (h0 : 0 < i) (hb : l[i - 1]? = some b) (hc : 0 ≤ fwCmp b f) : fwAt hs l i = 7 := by simp only [fwAt, h, Option.elim, decide_eq_true h0, hb, decide_eq_true hc]; rw [if_pos h1]; rfl
theorem fwAt_e (h : l[i]? = some f) (h1 : fwF hs f = 0) (hb : l[i - 1]? = some b) (hc : ¬ 0 ≤ fwCmp b f) : fwAt hs l i = 0 := by simp only [fwAt, h, Option.elim, hb, decide_eq_false hc, Bool.and_false]; rw [if_pos h1]; rfl
end

/-- What is wrong with a plan and forwards. -/
def chP (p : PlV) (LB : Bool) (l : List FwV) : Int := if plE p LB = 0 then fwE p.hours l else plE p LB
theorem chP_no {p : PlV} {LB : Bool} {l : List FwV} (h : plE p LB ≠ 0) : chP p LB l = plE p LB := if_neg h
theorem chP_yes {p : PlV} {LB : Bool} {l : List FwV} (h : plE p LB = 0) : chP p LB l = fwE p.hours l := if_pos h

/-! The order of forwards. -/
theorem fwCmp_trans {a b c : FwV} (h1 : fwCmp a b < 0) (h2 : fwCmp b c < 0) : fwCmp a c < 0 := by
  unfold fwCmp at *
  by_cases e1 : cmpS a.line b.line = 0
  · rw [if_pos e1] at h1
    have q1 : cmpS a.line c.line = cmpS b.line c.line := cmpS_eql (cmpS_zero.1 e1)
    rw [q1]
    by_cases e2 : cmpS b.line c.line = 0
    · rw [if_pos e2] at h2 ⊢
      by_cases e3 : a.when_ = b.when_
      · rw [if_pos e3] at h1
        by_cases e4 : b.when_ = c.when_
        · rw [if_pos e4] at h2
          rw [if_pos (e3.trans e4)]
          exact cmpS_trans h1 h2
        · rw [if_neg e4] at h2
          rw [if_neg (by omega)]; omega
      · rw [if_neg e3] at h1
        by_cases e4 : b.when_ = c.when_
        · rw [if_neg (by omega)]; omega
        · rw [if_neg e4] at h2
          rw [if_neg (by omega)]; omega
    · rw [if_neg e2] at h2 ⊢
      exact h2
  · rw [if_neg e1] at h1
    by_cases e2 : cmpS b.line c.line = 0
    · have q1 : cmpS a.line c.line = cmpS a.line b.line := (cmpS_eqr (cmpS_zero.1 e2)).symm
      rw [q1, if_neg e1]; exact h1
    · rw [if_neg e2] at h2
      have h3 := cmpS_trans h1 h2
      rw [if_neg (by omega)]; exact h3
/-- What holds of forwards that are right. -/
structure FwsRight (hs : List HrV) (l : List FwV) : Prop where
  len : l.length ≤ 1000
  all : ∀ f ∈ l, fwF hs f = 0
  adj : ∀ (i : Nat) (a b : FwV), l[i]? = some a → l[i + 1]? = some b → fwCmp a b < 0
theorem fws_right {hs : List HrV} {l : List FwV} (h : fwE hs l = 0) : FwsRight hs l := by
  unfold fwE at h
  split at h
  · omega
  · have hev := fstE_ev h
    have hall : ∀ (i : Nat) (f : FwV), l[i]? = some f → fwF hs f = 0 := by
      intro i f hf
      have h1 := hev i (List.getElem?_eq_some_iff.1 hf).1
      by_cases h2 : fwF hs f = 0
      · exact h2
      · rw [fwAt_f hf h2] at h1; exact absurd h1 h2
    refine ⟨by omega, fun f hf => ?_, fun i a b ha hb => ?_⟩
    · obtain ⟨i, hi⟩ := List.mem_iff_getElem?.1 hf
      exact hall i f hi
    · have h1 := hev (i + 1) (List.getElem?_eq_some_iff.1 hb).1
      by_cases h2 : 0 ≤ fwCmp a b
      · rw [fwAt_7 hb (hall _ _ hb) (by omega) (by rw [Nat.add_sub_cancel]; exact ha) h2] at h1; omega
      · omega
theorem FwsRight.lt {hs : List HrV} {l : List FwV} (h : FwsRight hs l) {i : Nat} {a : FwV} (ha : l[i]? = some a) : ∀ (d : Nat) (b : FwV), l[i + 1 + d]? = some b → fwCmp a b < 0
  | 0, b, hb => h.adj i a b ha hb
  | d + 1, b, hb => by
    obtain ⟨c, hc⟩ : ∃ c, l[i + 1 + d]? = some c := ⟨_, List.getElem?_eq_getElem (by have := (List.getElem?_eq_some_iff.1 hb).1; omega)⟩
    exact fwCmp_trans (h.lt ha d c hc) (h.adj (i + 1 + d) c b hc hb)

theorem chP_right {p : PlV} {LB : Bool} {l : List FwV} (h : chP p LB l = 0) : plE p LB = 0 ∧ FwsRight p.hours l := by
  by_cases e : plE p LB = 0
  · rw [chP_yes e] at h; exact ⟨e, fws_right h⟩
  · rw [chP_no e] at h; exact absurd h e

/-! States. -/
def bsy : List Nat := [98, 117, 115, 121]
def sil : List Nat := [115, 105, 108, 101, 110, 116]
def stV (v : List Nat) : Int := if v = bsy then 1 else if v = sil then 2 else 0
def stAt (l : List PrV) (i : Nat) : Int := (l[i]?).elim 0 fun s =>
  if keyOk (nb s.nam) = true then (if stV (nb s.val) = 0 then 3 else if (l.take i).any (fun o => nb o.nam == nb s.nam) = true then 6 else 0) else 5
def stE (l : List PrV) : Int := if 500 < l.length then 2 else fstE (stAt l) l.length
/-- How a line is, by the states. -/
def stH (l : List PrV) (k : ByteArray) : Int := l.foldl (fun h s => if nb s.nam = nb k then stV (nb s.val) else h) 0
section
variable {l : List PrV} {i : Nat} {s : PrV}
theorem stAt_5 (h : l[i]? = some s) (h1 : keyOk (nb s.nam) = false) : stAt l i = 5 := by unfold stAt; rw [h]; dsimp only [Option.elim]; rw [if_neg (by rw [h1]; decide)]
theorem stAt_3 (h : l[i]? = some s) (h1 : keyOk (nb s.nam) = true) (h2 : stV (nb s.val) = 0) : stAt l i = 3 := by unfold stAt; rw [h]; dsimp only [Option.elim]; rw [if_pos h1, if_pos h2]
theorem stAt_6 (h : l[i]? = some s) (h1 : keyOk (nb s.nam) = true) (h2 : stV (nb s.val) ≠ 0) (h3 : (l.take i).any (fun o => nb o.nam == nb s.nam) = true) : stAt l i = 6 := by unfold stAt; rw [h]; dsimp only [Option.elim]; rw [if_pos h1, if_neg h2, if_pos h3]
theorem stAt_0 (h : l[i]? = some s) (h1 : keyOk (nb s.nam) = true) (h2 : stV (nb s.val) ≠ 0) (h3 : (l.take i).any (fun o => nb o.nam == nb s.nam) = false) : stAt l i = 0 := by unfold stAt; rw [h]; dsimp only [Option.elim]; rw [if_pos h1, if_neg h2, if_neg (by rw [h3]; decide)]
theorem take_get1 {α : Type} {l : List α} {i : Nat} {s : α} (h : l[i]? = some s) : l.take (i + 1) = l.take i ++ [s] := by
  obtain ⟨h1, rfl⟩ := List.getElem?_eq_some_iff.1 h
  rw [List.take_succ_eq_append_getElem h1]
theorem stH_succ (h : l[i]? = some s) (k : ByteArray) : stH (l.take (i + 1)) k = if nb s.nam = nb k then stV (nb s.val) else stH (l.take i) k := by
  rw [take_get1 h]; unfold stH; rw [List.foldl_append]; rfl
theorem stV_cases (v : List Nat) : stV v = 0 ∨ stV v = 1 ∨ stV v = 2 := by
  unfold stV; split
  · exact .inr (.inl rfl)
  · split
    · exact .inr (.inr rfl)
    · exact .inl rfl
theorem stH_cases (l : List PrV) (k : ByteArray) : stH l k = 0 ∨ stH l k = 1 ∨ stH l k = 2 := by
  unfold stH
  suffices ∀ (l : List PrV) (h : Int), (h = 0 ∨ h = 1 ∨ h = 2) → (l.foldl (fun h s => if nb s.nam = nb k then stV (nb s.val) else h) h = 0 ∨ l.foldl (fun h s => if nb s.nam = nb k then stV (nb s.val) else h) h = 1 ∨ l.foldl (fun h s => if nb s.nam = nb k then stV (nb s.val) else h) h = 2) from this l 0 (.inl rfl)
  intro l
  induction l with
  | nil => exact fun h hh => hh
  | cons a l ih =>
    intro h hh
    rw [List.foldl_cons]
    apply ih
    split
    · exact stV_cases _
    · exact hh
/-- Where the states so far are right, a line is known just if it is among them. -/
theorem stH_known : ∀ {i : Nat}, i ≤ l.length → fstE (stAt l) i = 0 → ∀ k : ByteArray, (l.take i).any (fun o => nb o.nam == nb k) = decide (stH (l.take i) k ≠ 0)
  | 0, _, _, k => by simp [stH]
  | i + 1, hi, h, k => by
    obtain ⟨s, hs⟩ : ∃ s, l[i]? = some s := ⟨_, List.getElem?_eq_getElem (by omega)⟩
    have h0 : fstE (stAt l) i = 0 := by
      by_cases e : fstE (stAt l) i = 0
      · exact e
      · unfold fstE at h; rw [if_neg e] at h; exact absurd h e
    have h1 : stAt l i = 0 := fstE_ev h i (by omega)
    have ih := stH_known (by omega) h0 k
    have hv : stV (nb s.val) ≠ 0 := by
      intro e
      cases hk : keyOk (nb s.nam)
      · rw [stAt_5 hs hk] at h1; omega
      · rw [stAt_3 hs hk e] at h1; omega
    rw [stH_succ hs, take_get1 hs, List.any_append, ih]
    by_cases e : nb s.nam = nb k
    · rw [if_pos e]; simp [e, hv]
    · rw [if_neg e]; simp [e]
end
/-- Which forwards count for a line that is so. -/
def wantF (h : Int) : Int := if h = 1 then 2 else if h = 2 then 3 else 0

/-! Chains. -/
def nxP (hs : List HrV) (line : ByteArray) (t want : Int) (f : FwV) : Bool := (nb f.line == nb line) && (decide (f.when_ = 1) || decide (f.when_ = want)) && cntB hs f.hrs t
def nxF (hs : List HrV) (l : List FwV) (t : Int) (sts : List PrV) (line : ByteArray) : Option ByteArray := (l.find? (nxP hs line t (wantF (stH sts line)))).map (·.to_)
/-- The chain from a line: m lines more can be in it. -/
def chn (nx : ByteArray → Option ByteArray) : Nat → List ByteArray → ByteArray → List ByteArray × Int
  | 0, out, line => (nx line).elim (out, 0) fun t => if memS out t = true then ([], 14) else ([], 2)
  | m + 1, out, line => (nx line).elim (out, 0) fun t => if memS out t = true then ([], 14) else chn nx m (out ++ [t]) t
section
variable {nx : ByteArray → Option ByteArray} {m : Nat} {out : List ByteArray} {line t : ByteArray}
theorem chn_end (h : nx line = none) : chn nx m out line = (out, 0) := by cases m <;> simp [chn, h]
theorem chn_loop (h : nx line = some t) (h1 : memS out t = true) : chn nx m out line = ([], 14) := by cases m <;> simp [chn, h, h1]
theorem chn_large (h : nx line = some t) (h1 : memS out t = false) : chn nx 0 out line = ([], 2) := by simp [chn, h, h1]
theorem chn_more (h : nx line = some t) (h1 : memS out t = false) : chn nx (m + 1) out line = chn nx m (out ++ [t]) t := by simp [chn, h, h1]
end
/-- The document's way: first those that count always, then those for how the line is. -/
def nxK (hs : List HrV) (line : ByteArray) (t kind : Int) (f : FwV) : Bool := (nb f.line == nb line) && decide (f.when_ = kind) && cntB hs f.hrs t
theorem nx_two {hs : List HrV} {l : List FwV} (hr : FwsRight hs l) (line : ByteArray) (t want : Int) (hw : want = 0 ∨ 1 < want) : l.find? (nxP hs line t want) = (l.find? (nxK hs line t 1)).or (l.find? (nxK hs line t want)) := by
  have hor : ∀ f ∈ l, nxP hs line t want f = (nxK hs line t 1 f || nxK hs line t want f) := by
    intro f _
    unfold nxP nxK
    cases (nb f.line == nb line) <;> cases decide (f.when_ = 1) <;> cases decide (f.when_ = want) <;> cases cntB hs f.hrs t <;> rfl
  cases h : l.find? (nxP hs line t want) with
  | none =>
    have h1 := List.find?_eq_none.1 h
    have h2 : l.find? (nxK hs line t 1) = none := List.find?_eq_none.2 fun f hf => by have := h1 f hf; rw [hor f hf] at this; simp at this; simp [this.1]
    have h3 : l.find? (nxK hs line t want) = none := List.find?_eq_none.2 fun f hf => by have := h1 f hf; rw [hor f hf] at this; simp at this; simp [this.2]
    rw [h2, h3]; rfl
  | some f =>
    obtain ⟨hp, us, vs, hl, hno⟩ := List.find?_eq_some_iff_append.1 h
    have hfl : f ∈ l := by rw [hl]; simp
    have hno1 : ∀ a ∈ us, nxK hs line t 1 a = false ∧ nxK hs line t want a = false := by
      intro a ha
      have h2 := hno a ha
      rw [hor a (by rw [hl]; simp [ha])] at h2
      simpa using h2
    cases hk : nxK hs line t 1 f
    · have hkw : nxK hs line t want f = true := by rw [hor f hfl, hk] at hp; simpa using hp
      have e1 : l.find? (nxK hs line t want) = some f := List.find?_eq_some_iff_append.2 ⟨hkw, us, vs, hl, fun a ha => by rw [(hno1 a ha).2]; rfl⟩
      have e2 : l.find? (nxK hs line t 1) = none := by
        refine List.find?_eq_none.2 fun g hg => ?_
        rw [hl] at hg
        rcases List.mem_append.1 hg with h3 | h3
        · rw [(hno1 g h3).1]; simp
        · rcases List.mem_cons.1 h3 with rfl | h3
          · rw [hk]; simp
          · intro hg1
            obtain ⟨d, hd⟩ := List.mem_iff_getElem?.1 h3
            have i1 : l[us.length]? = some f := by rw [hl]; simp
            have i2 : l[us.length + 1 + d]? = some g := by rw [hl, List.getElem?_append_right (by omega), show us.length + 1 + d - us.length = d + 1 by omega]; simpa using hd
            have h4 := hr.lt i1 d g i2
            unfold nxK at hkw hg1
            simp only [Bool.and_eq_true, decide_eq_true_eq, beq_iff_eq] at hkw hg1
            have hin : inB f.when_ 1 3 = true := (fwF_right (hr.all f hfl)).2.2.1
            unfold inB at hin
            simp only [Bool.and_eq_true, decide_eq_true_eq] at hin
            unfold fwCmp at h4
            rw [if_pos (cmpS_zero.2 (hkw.1.1.trans hg1.1.1.symm)), if_neg (by omega)] at h4
            omega
      rw [e1, e2]; rfl
    · have e1 : l.find? (nxK hs line t 1) = some f := List.find?_eq_some_iff_append.2 ⟨hk, us, vs, hl, fun a ha => by rw [(hno1 a ha).1]; rfl⟩
      rw [e1]; rfl

/-! Circles. -/
/-- One forward leads from a to b. -/
def Edge (l : List FwV) (a b : ByteArray) : Prop := ∃ f ∈ l, f.line = a ∧ f.to_ = b
inductive Lds (l : List FwV) : ByteArray → ByteArray → Prop
  | here (a : ByteArray) : Lds l a a
  | more {a b c : ByteArray} : Lds l a b → Edge l b c → Lds l a c
/-- Where the forwards of a line lead. -/
def outs (l : List FwV) (k : ByteArray) : List ByteArray := (l.filter fun f => nb f.line == nb k).map (·.to_)
theorem outs_mem {l : List FwV} {k t : ByteArray} : t ∈ outs l k ↔ Edge l k t := by
  unfold outs Edge
  simp only [List.mem_map, List.mem_filter, beq_iff_eq]
  constructor
  · rintro ⟨f, ⟨h1, h2⟩, h3⟩; exact ⟨f, h1, nb_inj h2, h3⟩
  · rintro ⟨f, h1, h2, h3⟩; exact ⟨f, ⟨h1, by rw [h2]⟩, h3⟩
theorem outs_nil (k : ByteArray) : outs [] k = [] := rfl
theorem outs_snoc (l : List FwV) (f : FwV) (k : ByteArray) : outs (l ++ [f]) k = if nb f.line = nb k then outs l k ++ [f.to_] else outs l k := by
  unfold outs
  rw [List.filter_append]
  by_cases h : nb f.line = nb k
  · rw [if_pos h, List.map_append]; simp [h]
  · rw [if_neg h, List.map_append]; simp [h]
theorem outs_len (l : List FwV) (k : ByteArray) : (outs l k).length ≤ l.length := by unfold outs; rw [List.length_map]; exact List.length_filter_le _ _
/-- What is looked at, one line after the other: S those that were, Q those still to come; the search began with those of D. -/
structure Bf (l : List FwV) (D S Q : List ByteArray) : Prop where
  snd : ∀ x, (x ∈ S ∨ x ∈ Q) → ∃ d ∈ D, Lds l d x
  st : ∀ d ∈ D, d ∈ S ∨ d ∈ Q
  clo : ∀ x y, x ∈ S → Edge l x y → y ∈ S ∨ y ∈ Q
theorem memS_iff {L : List ByteArray} {k : ByteArray} : memS L k = true ↔ k ∈ L := by
  unfold memS
  rw [List.any_eq_true]
  constructor
  · rintro ⟨x, hx, h⟩; rw [beq_iff_eq] at h; rw [← nb_inj h]; exact hx
  · exact fun h => ⟨k, h, by simp⟩
section
variable {l : List FwV} {D S Q : List ByteArray} {x : ByteArray}
theorem Bf.new (l : List FwV) (D : List ByteArray) : Bf l D [] D := ⟨fun x h => h.elim (fun h => by cases h) (fun h => ⟨x, h, .here x⟩), fun d h => .inr h, fun x y h => by cases h⟩
theorem Bf.skip (h : Bf l D S (x :: Q)) (hx : memS S x = true) : Bf l D S Q := by
  have hx := memS_iff.1 hx
  have go : ∀ y, y ∈ S ∨ y ∈ x :: Q → y ∈ S ∨ y ∈ Q := by
    rintro y (h1 | h1)
    · exact .inl h1
    · rcases List.mem_cons.1 h1 with rfl | h1
      · exact .inl hx
      · exact .inr h1
  exact ⟨fun y hy => h.snd y (hy.imp id (List.mem_cons_of_mem _)), fun d hd => go d (h.st d hd), fun a b ha he => go b (h.clo a b ha he)⟩
theorem Bf.visit (h : Bf l D S (x :: Q)) : Bf l D (S ++ [x]) (Q ++ outs l x) := by
  have go : ∀ y, y ∈ S ∨ y ∈ x :: Q → y ∈ S ++ [x] ∨ y ∈ Q ++ outs l x := by
    rintro y (h1 | h1)
    · exact .inl (by simp [h1])
    · rcases List.mem_cons.1 h1 with rfl | h1
      · exact .inl (by simp)
      · exact .inr (by simp [h1])
  refine ⟨fun y hy => ?_, fun d hd => go d (h.st d hd), fun a b ha he => ?_⟩
  · obtain ⟨d, hd, hl⟩ := h.snd x (.inr (by simp))
    rcases hy with hy | hy
    · rcases List.mem_append.1 hy with h1 | h1
      · exact h.snd y (.inl h1)
      · rw [List.mem_singleton] at h1; subst h1; exact ⟨d, hd, hl⟩
    · rcases List.mem_append.1 hy with h1 | h1
      · exact h.snd y (.inr (by simp [h1]))
      · exact ⟨d, hd, hl.more (outs_mem.1 h1)⟩
  · rcases List.mem_append.1 ha with h1 | h1
    · exact go b (h.clo a b h1 he)
    · rw [List.mem_singleton] at h1; subst h1
      exact .inr (by simp [outs_mem.2 he])
theorem Bf.seen (h : Bf l D S []) (x : ByteArray) : x ∈ S ↔ ∃ d ∈ D, Lds l d x := by
  refine ⟨fun hx => h.snd x (.inl hx), ?_⟩
  rintro ⟨d, hd, hl⟩
  have h0 : d ∈ S := (h.st d hd).elim id (fun h => by cases h)
  clear hd
  induction hl with
  | here => exact h0
  | more _ he ih => exact (h.clo _ _ ih he).elim id (fun h => by cases h)
end
/-- How much is still to be looked at. -/
def left (l : List FwV) (S : List ByteArray) : Nat := (l.filter fun f => !memS S f.line).length
theorem left_visit (l : List FwV) {S : List ByteArray} {x : ByteArray} (hx : memS S x = false) : left l (S ++ [x]) + (outs l x).length = left l S := by
  unfold left outs
  rw [List.length_map]
  induction l with
  | nil => rfl
  | cons f l ih =>
    rw [List.filter_cons, List.filter_cons, List.filter_cons, memS_snoc]
    by_cases e : nb f.line = nb x
    · have : memS S f.line = false := by rw [nb_inj e]; exact hx
      rw [this]
      simp [e]
      omega
    · have e2 : (nb x == nb f.line) = false := by simpa using fun h => e h.symm
      have e3 : (nb f.line == nb x) = false := by simpa using e
      rw [e2, e3]
      cases memS S f.line
      · simp; omega
      · simpa using ih
theorem left_nil (l : List FwV) : left l [] = l.length := by unfold left; simp [memS_nil]
/-- Could a chain come back to a line? -/
noncomputable def cirB (l : List FwV) (k : ByteArray) : Bool := decide (∃ d ∈ outs l k, Lds l d k)
noncomputable def cirF (l : List FwV) (f : FwV) : Bool := decide (Lds l f.to_ f.line)
theorem cir_same (l : List FwV) (k : ByteArray) : (cirB l k = true ∧ ∃ f ∈ l, f.line = k) ↔ ∃ f ∈ l, f.line = k ∧ cirF l f = true := by
  unfold cirB cirF
  simp only [decide_eq_true_eq]
  constructor
  · rintro ⟨⟨d, hd, hl⟩, _⟩
    obtain ⟨f, hf, h1, h2⟩ := outs_mem.1 hd
    exact ⟨f, hf, h1, by rw [h1, h2]; exact hl⟩
  · rintro ⟨f, hf, h1, h2⟩
    exact ⟨⟨f.to_, outs_mem.2 ⟨f, hf, h1, rfl⟩, by rw [← h1]; exact h2⟩, f, hf, h1⟩
end
end Go.Proofs.YtpjheibkacbbcaaGreatDoor

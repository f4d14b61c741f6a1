/- slices.Sort and slices.Compact at ints, in the words of slices of the call's own. Conditions: none. -/
import Derived.Test.YtpildcnoghojpaaGreatDoorBun4
import Derived.Test.YtpildcnoghojpaaGreatDoorShelfSort
import Derived.Sort.OwnSortedInts
import Derived.Test.YtpildcnoghojpaaGreatDoorBun1
import Derived.Test.YtpildcnoghojpaaGreatDoorQue5
import Derived.Deep.QuietTactic
import Derived.BigQuiet
import Derived.Test.YtpildcnoghojpaaGreatDoorShelfTrim
import Derived.Deep.CutBlock
import Derived.Deep.LoopGhost
namespace Go.Proofs.YtpildcnoghojpaaGreatDoor
section
open Go.RowKit Go.Sort

def sortI (l : List Int) : List Int := l.mergeSort fun x y => decide (x ≤ y)
theorem sortI_mem {l : List Int} {x : Int} : x ∈ sortI l ↔ x ∈ l := List.mem_mergeSort
theorem pw_monoS {α : Type} {R S : α → α → Prop} (h : ∀ a b, R a b → S a b) {l : List α} (hl : l.Pairwise R) : l.Pairwise S := by
  induction hl with
  | nil => exact List.Pairwise.nil
  | cons h1 _ ih => exact List.Pairwise.cons (fun a ha => h _ _ (h1 a ha)) ih
theorem sortI_rise (l : List Int) : (sortI l).Pairwise (· ≤ ·) := by
  have h := List.pairwise_mergeSort (le := fun x y : Int => decide (x ≤ y)) (fun a b c h1 h2 => by simp only [decide_eq_true_eq] at *; omega) (fun a b => by simp only [Bool.or_eq_true, decide_eq_true_eq]; omega) l
  exact pw_monoS (fun a b h => by simpa using h) h
end
end Go.Proofs.YtpildcnoghojpaaGreatDoor
/- Plain Lean: a queue as the document plays it: who is free, who is in line, who is chosen, what comes about at a moment. Conditions: none. -/
namespace Go.Proofs.YtpildcnoghojpaaGreatDoor
section
open Go.RowKit

/-! A stable sort by insertion, as slices.SortStableFunc does it at few elements. -/
section
variable {α β : Type}
def sink (lt : α → α → Bool) (l : List α) : Nat → List α
  | 0 => l
  | j + 1 => match l[j + 1]?, l[j]? with
    | some x, some y => if lt x y then sink lt ((l.set (j + 1) y).set j x) j else l
    | _, _ => l
def srtTo (lt : α → α → Bool) (l : List α) : Nat → List α
  | 0 => l
  | i + 1 => sink lt (srtTo lt l i) i
def srt (lt : α → α → Bool) (l : List α) : List α := srtTo lt l l.length
theorem sink_len (lt : α → α → Bool) (l : List α) (j : Nat) : (sink lt l j).length = l.length := by
  induction j generalizing l with
  | zero => rfl
  | succ j ih =>
    unfold sink
    split
    · split
      · rw [ih]; simp
      · rfl
    · rfl
theorem srtTo_len (lt : α → α → Bool) (l : List α) (i : Nat) : (srtTo lt l i).length = l.length := by
  induction i with
  | zero => rfl
  | succ i ih => rw [srtTo, sink_len, ih]
theorem srt_len (lt : α → α → Bool) (l : List α) : (srt lt l).length = l.length := srtTo_len _ _ _
theorem sink_yes {lt : α → α → Bool} {l : List α} {j : Nat} {x y : α} (hx : l[j + 1]? = some x) (hy : l[j]? = some y) (h : lt x y = true) : sink lt l (j + 1) = sink lt ((l.set (j + 1) y).set j x) j := by
  conv => lhs; unfold sink
  rw [hx, hy]
  exact if_pos h
theorem sink_no {lt : α → α → Bool} {l : List α} {j : Nat} {x y : α} (hx : l[j + 1]? = some x) (hy : l[j]? = some y) (h : lt x y = false) : sink lt l (j + 1) = l := by
  conv => lhs; unfold sink
  rw [hx, hy]
  exact if_neg (by rw [h]; decide)
theorem swap_mem {l : List α} {i j : Nat} {x y z : α} (hx : x ∈ l) (hy : y ∈ l) (h : z ∈ (l.set i y).set j x) : z ∈ l := by
  rcases List.mem_or_eq_of_mem_set h with h | rfl
  · rcases List.mem_or_eq_of_mem_set h with h | rfl
    · exact h
    · exact hy
  · exact hx
theorem sink_mem {lt : α → α → Bool} {l : List α} {j : Nat} {z : α} (h : z ∈ sink lt l j) : z ∈ l := by
  induction j generalizing l with
  | zero => exact h
  | succ j ih =>
    unfold sink at h
    split at h
    · rename_i x y hx hy
      split at h
      · exact swap_mem (mem_of_get hx) (mem_of_get hy) (ih h)
      · exact h
    · exact h
theorem srtTo_mem {lt : α → α → Bool} {l : List α} {i : Nat} {z : α} (h : z ∈ srtTo lt l i) : z ∈ l := by
  induction i with
  | zero => exact h
  | succ i ih => exact ih (sink_mem h)
theorem srt_mem {lt : α → α → Bool} {l : List α} {z : α} (h : z ∈ srt lt l) : z ∈ l := srtTo_mem h
end

/-! Seats, styles, rooms. -/
structure SeV where
  ca : ByteArray
  ag : ByteArray
  how : Int
  beg : Int
  fin : Int
def SeV.row (s : SeV) : List Value := [.string s.ca, .string s.ag, .int .i64 s.how, .int .i64 s.beg, .int .i64 s.fin]
theorem SeV.row_len (s : SeV) : s.row.length = 5 := rfl
structure StyV where
  kind : Int
  age : Int
  say : Int
/-- What is known of a room while it is played: for each agent how many calls it had and when the last one ends; for each caller the seat, whether a number was left, whether it is done; the agent called last. -/
structure RoS where
  ds : List (Int × Int)
  se : List SeV
  bk : List Bool
  dn : List Bool
  last : ByteArray
def dAt (ds : List (Int × Int)) (i : Nat) : Int × Int := (ds[i]?).getD (0, 0)
def bAt (l : List Bool) (i : Nat) : Bool := (l[i]?).getD false

/-! Who is free. -/
def freeB (a : AgV) (d : Int × Int) (t : Int) : Bool := presB a t && (decide (d.1 = 0) || decide (d.2 + a.wrap ≤ t))

/-! The moments at which something can come about. -/
def calT (C : List CaV) : Nat → List Int
  | 0 => []
  | k + 1 => calT C k ++ (C[k]?).elim [] fun c => [c.at_, c.at_ + c.pat]
def agT1 (a : AgV) (d : Int × Int) : List Int := a.fr :: (a.ps.map (·.2) ++ if 0 < d.1 then [d.2, d.2 + a.wrap] else [])
def agT (A : List AgV) (ds : List (Int × Int)) : Nat → List Int
  | 0 => []
  | k + 1 => agT A ds k ++ (A[k]?).elim [] fun a => agT1 a (dAt ds k)
def timesR (A : List AgV) (C : List CaV) (ds : List (Int × Int)) : List Int := calT C C.length ++ agT A ds A.length
def nextsR (A : List AgV) (C : List CaV) (ds : List (Int × Int)) (after : Int) : List Int := sortI ((timesR A C ds).filter fun t => decide (after < t))

/-! Who is in line. -/
def rankR (s : StyV) (c : CaV) (t : Int) : Int := if s.age = 0 then c.prio else c.prio + (t - c.at_).tdiv s.age
def rankAt (s : StyV) (C : List CaV) (t : Int) (i : Nat) : Int := (C[i]?).elim 0 fun c => rankR s c t
def lineRaw (C : List CaV) (dn : List Bool) (t : Int) : Nat → List Nat
  | 0 => []
  | k + 1 => lineRaw C dn t k ++ (C[k]?).elim [] fun c => if decide (c.at_ ≤ t) && !bAt dn k then [k] else []
def lineR (s : StyV) (C : List CaV) (dn : List Bool) (t : Int) : List Nat := srt (fun a b => decide (rankAt s C t b < rankAt s C t a)) (lineRaw C dn t C.length)

/-! Who is chosen. -/
def ptsR (kind : Int) (a : AgV) (d : Int × Int) (last skill : ByteArray) : Int :=
  if kind = 1 then (if 0 < d.1 then d.2 else a.fr) else if kind = 2 then d.1 else if kind = 3 then -(lvl a.sk skill) else (if leS a.key last then 1 else 0)
def chooseR (s : StyV) (A : List AgV) (ds : List (Int × Int)) (last : ByteArray) (c : CaV) (t : Int) : Nat → Int × Int
  | 0 => (-1, 0)
  | k + 1 => (A[k]?).elim (chooseR s A ds last c t k) fun a =>
    if ableB a c && freeB a (dAt ds k) t then
      (if decide ((chooseR s A ds last c t k).1 < 0) || decide (ptsR s.kind a (dAt ds k) last c.skill < (chooseR s A ds last c t k).2) then ((k : Int), ptsR s.kind a (dAt ds k) last c.skill) else chooseR s A ds last c t k)
    else chooseR s A ds last c t k
def chosenR (s : StyV) (A : List AgV) (st : RoS) (c : CaV) (t : Int) : Int := (chooseR s A st.ds st.last c t A.length).1

/-! Callers go, or leave their number. -/
def leaveB (c : CaV) (t : Int) (now : Bool) (bk dn : Bool) : Bool := !dn && !bk && decide (c.at_ ≤ t) && decide (c.at_ + c.pat = t) && (now == decide (c.at_ = t))
def leave1 (c : CaV) (i : Nat) (t : Int) (now : Bool) (st : RoS) : RoS :=
  if leaveB c t now (bAt st.bk i) (bAt st.dn i) then
    (if c.back then { st with bk := st.bk.set i true } else { st with dn := st.dn.set i true, se := (st.se[i]?).elim st.se fun s => st.se.set i ⟨s.ca, s.ag, 2, t, t⟩ })
  else st
def leaveR (C : List CaV) (t : Int) (now : Bool) : Nat → RoS → RoS
  | 0, st => st
  | k + 1, st => (C[k]?).elim (leaveR C t now k st) fun c => leave1 c k t now (leaveR C t now k st)

/-! One caller is given to an agent. -/
def givenR (A : List AgV) (C : List CaV) (st : RoS) (t : Int) (i k : Nat) : RoS := (C[i]?).elim st fun c => (A[k]?).elim st fun a =>
  ⟨st.ds.set k ((dAt st.ds k).1 + 1, t + c.talk), st.se.set i ⟨c.id, a.key, if bAt st.bk i then 3 else 1, t, t + c.talk⟩, st.bk, st.dn.set i true, a.key⟩
def giveL (s : StyV) (A : List AgV) (C : List CaV) (st : RoS) (t : Int) : List Nat → Option RoS
  | [] => none
  | i :: l => (C[i]?).elim (giveL s A C st t l) fun c => if chosenR s A st c t < 0 then giveL s A C st t l else some (givenR A C st t i (chosenR s A st c t).toNat)
def giveR (s : StyV) (A : List AgV) (C : List CaV) (st : RoS) (t : Int) : Option RoS := giveL s A C st t (lineR s C st.dn t)
def givesR (s : StyV) (A : List AgV) (C : List CaV) (t : Int) : Nat → RoS → RoS
  | 0, st => st
  | f + 1, st => (giveR s A C st t).elim st (givesR s A C t f)
def stepR (s : StyV) (A : List AgV) (C : List CaV) (st : RoS) (t : Int) : RoS := leaveR C t true C.length (givesR s A C t C.length (leaveR C t false C.length st))
/-! The play. -/
def playR (s : StyV) (A : List AgV) (C : List CaV) : Nat → RoS → Int → RoS
  | 0, st, _ => st
  | f + 1, st, at_ => ((nextsR A C st.ds at_)[0]?).elim st fun t => playR s A C f (stepR s A C st t) t
def newR (A : List AgV) (C : List CaV) : RoS := ⟨List.replicate A.length (0, 0), C.map fun c => ⟨c.id, ⟨#[]⟩, 4, 0, 0⟩, List.replicate C.length false, List.replicate C.length false, ⟨#[]⟩⟩

/-! What holds of a room all the time. -/
structure RoOk (A : List AgV) (C : List CaV) (st : RoS) : Prop where
  d : st.ds.length = A.length
  s : st.se.length = C.length
  b : st.bk.length = C.length
  n : st.dn.length = C.length
  l : st.last.size ≤ 1000
  dv : ∀ d ∈ st.ds, 0 ≤ d.1 ∧ d.1 ≤ st.dn.count true ∧ -1 ≤ d.2 ∧ d.2 ≤ 2000000000000
  sv : ∀ s ∈ st.se, s.ca.size ≤ 1000 ∧ s.ag.size ≤ 1000 ∧ -1 ≤ s.beg ∧ s.beg ≤ 2000000000000 ∧ -1 ≤ s.fin ∧ s.fin ≤ 2000000000000
end
end Go.Proofs.YtpildcnoghojpaaGreatDoor
/- Plain laws of a queue that is played: bounds hold all the time, and it ends. Conditions: none. -/
namespace Go.Proofs.YtpildcnoghojpaaGreatDoor
section
open Go.RowKit

theorem dAt_some {ds : List (Int × Int)} {i : Nat} {d : Int × Int} (h : ds[i]? = some d) : dAt ds i = d := by unfold dAt; rw [h]; rfl
theorem bAt_some {l : List Bool} {i : Nat} {b : Bool} (h : l[i]? = some b) : bAt l i = b := by unfold bAt; rw [h]; rfl
theorem dAt_mem {ds : List (Int × Int)} {i : Nat} (h : i < ds.length) : dAt ds i ∈ ds := by
  rw [dAt_some (List.getElem?_eq_getElem h)]; exact List.getElem_mem h
section
variable {C : List CaV} {A : List AgV} {dn : List Bool} {t : Int} {k : Nat}
theorem calT_succ {c : CaV} (h : C[k]? = some c) : calT C (k + 1) = calT C k ++ [c.at_, c.at_ + c.pat] := by show _ ++ (C[k]?).elim _ _ = _; rw [h]; rfl
theorem agT_succ {ds : List (Int × Int)} {a : AgV} (h : A[k]? = some a) : agT A ds (k + 1) = agT A ds k ++ agT1 a (dAt ds k) := by show _ ++ (A[k]?).elim _ _ = _; rw [h]; rfl
theorem lineRaw_succ {c : CaV} (h : C[k]? = some c) : lineRaw C dn t (k + 1) = lineRaw C dn t k ++ (if decide (c.at_ ≤ t) && !bAt dn k then [k] else []) := by show _ ++ (C[k]?).elim _ _ = _; rw [h]; rfl
theorem lineRaw_mem {k i : Nat} (h : i ∈ lineRaw C dn t k) : i < k ∧ bAt dn i = false ∧ ∃ c, C[i]? = some c ∧ c.at_ ≤ t := by
  induction k with
  | zero => cases h
  | succ k ih =>
    change i ∈ lineRaw C dn t k ++ (C[k]?).elim [] _ at h
    rcases List.mem_append.1 h with h | h
    · obtain ⟨h1, h2⟩ := ih h; exact ⟨by omega, h2⟩
    · cases hc : C[k]? with
      | none => rw [hc] at h; cases h
      | some c =>
        rw [hc] at h
        simp only [Option.elim] at h
        split at h
        · rename_i q
          obtain rfl := List.mem_singleton.1 h
          rw [Bool.and_eq_true] at q
          exact ⟨by omega, by simpa using q.2, c, hc, by simpa using q.1⟩
        · cases h
theorem lineR_mem {s : StyV} {i : Nat} (h : i ∈ lineR s C dn t) : i < C.length ∧ bAt dn i = false ∧ ∃ c, C[i]? = some c ∧ c.at_ ≤ t := lineRaw_mem (srt_mem h)
theorem leaveR_succ {now : Bool} {st : RoS} {c : CaV} (h : C[k]? = some c) : leaveR C t now (k + 1) st = leave1 c k t now (leaveR C t now k st) := by show (C[k]?).elim _ _ = _; rw [h]; rfl
end
/-! Who is chosen is able and free. -/
section
variable {s : StyV} {A : List AgV} {ds : List (Int × Int)} {last : ByteArray} {c : CaV} {t : Int}
theorem chooseR_succ {k : Nat} {a : AgV} (h : A[k]? = some a) : chooseR s A ds last c t (k + 1) = if ableB a c && freeB a (dAt ds k) t then
      (if decide ((chooseR s A ds last c t k).1 < 0) || decide (ptsR s.kind a (dAt ds k) last c.skill < (chooseR s A ds last c t k).2) then ((k : Int), ptsR s.kind a (dAt ds k) last c.skill) else chooseR s A ds last c t k)
    else chooseR s A ds last c t k := by show (A[k]?).elim _ _ = _; rw [h]; rfl
theorem chooseR_ok (k : Nat) : (chooseR s A ds last c t k).1 = -1 ∨ ∃ (i : Nat) (a : AgV), i < k ∧ (chooseR s A ds last c t k).1 = i ∧ A[i]? = some a ∧ ableB a c = true ∧ freeB a (dAt ds i) t = true := by
  induction k with
  | zero => exact .inl rfl
  | succ k ih =>
    have up : (chooseR s A ds last c t k).1 = -1 ∨ ∃ (i : Nat) (a : AgV), i < k + 1 ∧ (chooseR s A ds last c t k).1 = i ∧ A[i]? = some a ∧ ableB a c = true ∧ freeB a (dAt ds i) t = true := by
      rcases ih with h | ⟨i, a, h1, h2⟩
      · exact .inl h
      · exact .inr ⟨i, a, by omega, h2⟩
    cases ha : A[k]? with
    | none => have e : chooseR s A ds last c t (k + 1) = chooseR s A ds last c t k := by { show (A[k]?).elim _ _ = _; rw [ha]; rfl }; rw [e]; exact up
    | some a =>
      rw [chooseR_succ ha]
      split
      · rename_i q
        rw [Bool.and_eq_true] at q
        split
        · exact .inr ⟨k, a, by omega, rfl, ha, q.1, q.2⟩
        · exact up
      · exact up
theorem freeB_til {a : AgV} {d : Int × Int} (h : freeB a d t = true) : a.fr ≤ t ∧ t < a.til := by
  unfold freeB presB inWin at h
  simp only [Bool.and_eq_true, decide_eq_true_eq] at h
  exact h.1.1
end
/-! Bounds. -/
section
variable {A : List AgV} {C : List CaV} {st : RoS} {t : Int}
theorem count_set {l : List Bool} {i : Nat} (h : bAt l i = false) (hi : i < l.length) : (l.set i true).count true = l.count true + 1 := by
  rw [bAt_some (List.getElem?_eq_getElem hi)] at h
  rw [List.count_set hi, h]
  simp
theorem RoOk.leave1 (h : RoOk A C st) {c : CaV} {i : Nat} (hi : i < C.length) (now : Bool) (t0 : -1 ≤ t) (t1 : t ≤ 2000000000000) : RoOk A C (leave1 c i t now st) := by
  unfold Go.Proofs.YtpildcnoghojpaaGreatDoor.leave1
  split
  · rename_i q
    unfold leaveB at q
    simp only [Bool.and_eq_true, Bool.not_eq_true'] at q
    split
    · exact ⟨h.d, h.s, by simpa using h.b, h.n, h.l, h.dv, h.sv⟩
    · have hs : i < st.se.length := by rw [h.s]; exact hi
      rw [List.getElem?_eq_getElem hs]
      refine ⟨h.d, by simpa using h.s, h.b, by simpa using h.n, h.l, fun d hd => ?_, fun s hs' => ?_⟩
      · have := h.dv d hd
        have hc := count_set q.1.1.1.1 (show i < st.dn.length by rw [h.n]; exact hi)
        dsimp only
        rw [hc]
        omega
      · rcases List.mem_or_eq_of_mem_set hs' with h1 | rfl
        · exact h.sv s h1
        · have := h.sv _ (List.getElem_mem hs)
          exact ⟨this.1, this.2.1, t0, t1, t0, t1⟩
  · exact h
theorem RoOk.leaveR (h : RoOk A C st) (now : Bool) (t0 : -1 ≤ t) (t1 : t ≤ 2000000000000) (k : Nat) (hk : k ≤ C.length) : RoOk A C (leaveR C t now k st) := by
  induction k with
  | zero => exact h
  | succ k ih => rw [leaveR_succ (List.getElem?_eq_getElem (show k < C.length by omega))]; exact (ih (by omega)).leave1 (by omega) now t0 t1
theorem RoOk.given (h : RoOk A C st) {i k : Nat} {c : CaV} {a : AgV} (hc : C[i]? = some c) (ha : A[k]? = some a) (hcn : CaN c) (han : AgN a) (hco : CaOk c) (hao : a.key.size ≤ 1000) (hd : bAt st.dn i = false) (t0 : -1 ≤ t) (t1 : t < a.til) : RoOk A C (givenR A C st t i k) := by
  have hi := (List.getElem?_eq_some_iff.1 hc).1
  have hk := (List.getElem?_eq_some_iff.1 ha).1
  unfold givenR
  rw [hc, ha]
  simp only [Option.elim]
  obtain ⟨c1, c2, c3, c4, c5, c6, _, _⟩ := hcn
  obtain ⟨a1, a2, a3, a4, a5, _⟩ := han
  have hcs := count_set hd (show i < st.dn.length by rw [h.n]; exact hi)
  refine ⟨by simpa using h.d, by simpa using h.s, h.b, by simpa using h.n, hao, fun d hd' => ?_, fun s hs' => ?_⟩
  · (try dsimp only at hd' ⊢)
    rw [hcs]
    rcases List.mem_or_eq_of_mem_set hd' with h1 | rfl
    · have := h.dv d h1; omega
    · have := h.dv _ (dAt_mem (show k < st.ds.length by rw [h.d]; exact hk))
      refine ⟨?_, ?_, ?_, ?_⟩ <;> (try dsimp only) <;> omega
  · rcases List.mem_or_eq_of_mem_set hs' with h1 | rfl
    · exact h.sv s h1
    · exact ⟨hco.1, hao, t0, (by show t ≤ 2000000000000; omega), (by show -1 ≤ t + c.talk; omega), (by show t + c.talk ≤ 2000000000000; omega)⟩
theorem RoOk.new (hC : ∀ c ∈ C, CaOk c) : RoOk A C (newR A C) := by
  refine ⟨by simp [newR], by simp [newR], by simp [newR], by simp [newR], (by show (⟨#[]⟩ : ByteArray).size ≤ 1000; decide), fun d hd => ?_, fun s hs => ?_⟩
  · rw [List.eq_of_mem_replicate hd]; exact ⟨Int.le_refl _, by simp, by omega, by omega⟩
  · obtain ⟨c, hc, rfl⟩ := List.mem_map.1 hs
    exact ⟨(hC c hc).1, (by show (⟨#[]⟩ : ByteArray).size ≤ 1000; decide), (by show (-1 : Int) ≤ 0; decide), (by show (0 : Int) ≤ 2000000000000; decide), (by show (-1 : Int) ≤ 0; decide), (by show (0 : Int) ≤ 2000000000000; decide)⟩
end
/-! Giving. -/
section
variable {s : StyV} {A : List AgV} {C : List CaV} {st : RoS} {t : Int}
theorem giveL_ok (h : RoOk A C st) (hC : ∀ c ∈ C, CaN c ∧ CaOk c) (hA : ∀ a ∈ A, AgN a ∧ a.key.size ≤ 1000) (t0 : -1 ≤ t) (l : List Nat) (hl : ∀ i ∈ l, bAt st.dn i = false) :
    ∀ st', giveL s A C st t l = some st' → RoOk A C st' ∧ st'.dn.count true = st.dn.count true + 1 ∧ (∀ d ∈ st'.ds, d ∈ st.ds ∨ d.2 ≤ 345686400000 + 86400000) := by
  induction l with
  | nil => intro st' e; cases e
  | cons i l ih =>
    intro st' e
    unfold giveL at e
    cases hc : C[i]? with
    | none => rw [hc] at e; exact ih (fun j hj => hl j (List.mem_cons_of_mem _ hj)) st' e
    | some c =>
      rw [hc] at e
      simp only [Option.elim] at e
      split at e
      · exact ih (fun j hj => hl j (List.mem_cons_of_mem _ hj)) st' e
      · rename_i hn
        injection e with e
        subst e
        rcases chooseR_ok (s := s) (A := A) (ds := st.ds) (last := st.last) (c := c) (t := t) A.length with hx | ⟨k, a, hk, hx, ha, _, hf⟩
        · exfalso; apply hn; unfold chosenR; rw [hx]; decide
        · have hk' : (chosenR s A st c t).toNat = k := by unfold chosenR; rw [hx]; exact Int.toNat_natCast k
          rw [hk']
          have hcm := hC c (mem_of_get hc)
          have ham := hA a (mem_of_get ha)
          have hft := (freeB_til hf).2
          refine ⟨h.given hc ha hcm.1 ham.1 hcm.2 ham.2 (hl i (List.mem_cons_self)) t0 hft, ?_, fun d hd => ?_⟩
          · unfold givenR; rw [hc, ha]; exact count_set (hl i (List.mem_cons_self)) (by rw [h.n]; exact (List.getElem?_eq_some_iff.1 hc).1)
          · unfold givenR at hd
            rw [hc, ha] at hd
            rcases List.mem_or_eq_of_mem_set hd with h1 | rfl
            · exact .inl h1
            · right
              obtain ⟨_, _, _, _, _, c6, _, _⟩ := hcm.1
              obtain ⟨_, _, a3, _⟩ := ham.1
              dsimp only
              omega
theorem giveR_ok (h : RoOk A C st) (hC : ∀ c ∈ C, CaN c ∧ CaOk c) (hA : ∀ a ∈ A, AgN a ∧ a.key.size ≤ 1000) (t0 : -1 ≤ t) {st' : RoS} (e : giveR s A C st t = some st') :
    RoOk A C st' ∧ st'.dn.count true = st.dn.count true + 1 ∧ (∀ d ∈ st'.ds, d ∈ st.ds ∨ d.2 ≤ 345686400000 + 86400000) :=
  giveL_ok h hC hA t0 _ (fun i hi => (lineR_mem hi).2.1) st' e
theorem givesR_some {f : Nat} {st' : RoS} (h : giveR s A C st t = some st') : givesR s A C t (f + 1) st = givesR s A C t f st' := by
  show (giveR s A C st t).elim _ _ = _; rw [h]; rfl
theorem givesR_none {f : Nat} (h : giveR s A C st t = none) : givesR s A C t f st = st := by
  cases f with
  | zero => rfl
  | succ f => show (giveR s A C st t).elim _ _ = _; rw [h]; rfl
/-- Once all callers are done, nobody is given. -/
theorem done_none (h : RoOk A C st) (hd : C.length ≤ st.dn.count true) : giveR s A C st t = none := by
  have hall : ∀ i, i < C.length → bAt st.dn i = true := by
    have hn := h.n
    intro i hi
    have hb : ∀ b ∈ st.dn, true = b := List.count_eq_length.1 (by have := List.count_le_length (a := true) (l := st.dn); omega)
    rw [bAt_some (List.getElem?_eq_getElem (show i < st.dn.length by omega))]
    exact (hb _ (List.getElem_mem _)).symm
  unfold giveR
  have : lineR s C st.dn t = [] := by
    cases hl : lineR s C st.dn t with
    | nil => rfl
    | cons i l =>
      obtain ⟨h1, h2, _⟩ := lineR_mem (s := s) (C := C) (dn := st.dn) (t := t) (i := i) (by rw [hl]; exact List.mem_cons_self)
      rw [hall i h1] at h2
      cases h2
  rw [this]; rfl
/-- Bounds of the ends of calls, of all moments. -/
def DsB (ds : List (Int × Int)) : Prop := ∀ d ∈ ds, d.2 ≤ 345686400000 + 86400000
theorem givesR_ok (f : Nat) (h : RoOk A C st) (hb : DsB st.ds) (hC : ∀ c ∈ C, CaN c ∧ CaOk c) (hA : ∀ a ∈ A, AgN a ∧ a.key.size ≤ 1000) (t0 : -1 ≤ t) : RoOk A C (givesR s A C t f st) ∧ DsB (givesR s A C t f st).ds := by
  induction f generalizing st with
  | zero => exact ⟨h, hb⟩
  | succ f ih =>
    cases e : giveR s A C st t with
    | none => rw [givesR_none e]; exact ⟨h, hb⟩
    | some st' =>
      rw [givesR_some e]
      obtain ⟨h1, _, h2⟩ := giveR_ok h hC hA t0 e
      exact ih h1 fun d hd => by
        rcases h2 d hd with h3 | h3
        · exact hb d h3
        · exact h3
theorem leaveR_ds (now : Bool) (k : Nat) (st : RoS) : (leaveR C t now k st).ds = st.ds := by
  induction k with
  | zero => rfl
  | succ k ih =>
    show ((C[k]?).elim _ _ : RoS).ds = _
    cases C[k]? with
    | none => exact ih
    | some c =>
      show (leave1 c k t now (leaveR C t now k st)).ds = _
      unfold leave1
      split
      · split <;> exact ih
      · exact ih
theorem stepR_ok (h : RoOk A C st) (hb : DsB st.ds) (hC : ∀ c ∈ C, CaN c ∧ CaOk c) (hA : ∀ a ∈ A, AgN a ∧ a.key.size ≤ 1000) (t0 : -1 ≤ t) (t1 : t ≤ 2000000000000) : RoOk A C (stepR s A C st t) ∧ DsB (stepR s A C st t).ds := by
  unfold stepR
  have h1 := h.leaveR false t0 t1 C.length (Nat.le_refl _)
  obtain ⟨h2, h3⟩ := givesR_ok (s := s) C.length h1 (by rw [leaveR_ds]; exact hb) hC hA t0
  exact ⟨h2.leaveR true t0 t1 C.length (Nat.le_refl _), by rw [leaveR_ds]; exact h3⟩
theorem calT_bd (hC : ∀ c ∈ C, CaN c ∧ CaOk c) (k : Nat) : ∀ x ∈ calT C k, 0 ≤ x ∧ x ≤ 345859200000 := by
  induction k with
  | zero => intro x hx; cases hx
  | succ k ih =>
    intro x hx
    change x ∈ calT C k ++ (C[k]?).elim [] _ at hx
    rcases List.mem_append.1 hx with hx | hx
    · exact ih x hx
    · cases hc : C[k]? with
      | none => rw [hc] at hx; cases hx
      | some c =>
        rw [hc] at hx
        obtain ⟨c1, c2, c3, c4, _⟩ := (hC c (mem_of_get hc)).1
        simp only [Option.elim, List.mem_cons, List.not_mem_nil, or_false] at hx
        omega
theorem agT_bd {ds : List (Int × Int)} (hl : ds.length = A.length) (hd : ∀ d ∈ ds, -1 ≤ d.2) (hb : DsB ds) (hA : ∀ a ∈ A, AgN a ∧ a.key.size ≤ 1000) (k : Nat) : ∀ x ∈ agT A ds k, -1 ≤ x ∧ x ≤ 345859200000 := by
  induction k with
  | zero => intro x hx; cases hx
  | succ k ih =>
    intro x hx
    change x ∈ agT A ds k ++ (A[k]?).elim [] _ at hx
    rcases List.mem_append.1 hx with hx | hx
    · exact ih x hx
    · cases ha : A[k]? with
      | none => rw [ha] at hx; cases hx
      | some a =>
        rw [ha] at hx
        obtain ⟨a1, a2, a3, a4, a5, a6, _⟩ := (hA a (mem_of_get ha)).1
        have hk : k < ds.length := by rw [hl]; exact (List.getElem?_eq_some_iff.1 ha).1
        have h1 := hd _ (dAt_mem hk); have h2 := hb _ (dAt_mem hk)
        simp only [Option.elim, agT1, List.mem_cons, List.mem_append, List.mem_map] at hx
        rcases hx with rfl | ⟨p, hp, rfl⟩ | hx
        · omega
        · have := a6 p hp; omega
        · split at hx
          · simp only [List.mem_cons, List.not_mem_nil, or_false] at hx
            omega
          · cases hx
theorem timesR_bd (h : RoOk A C st) (hb : DsB st.ds) (hC : ∀ c ∈ C, CaN c ∧ CaOk c) (hA : ∀ a ∈ A, AgN a ∧ a.key.size ≤ 1000) : ∀ x ∈ timesR A C st.ds, -1 ≤ x ∧ x ≤ 345859200000 := by
  intro x hx
  rcases List.mem_append.1 hx with hx | hx
  · have := calT_bd hC _ x hx; omega
  · exact agT_bd h.d (fun d hd => (h.dv d hd).2.2.1) hb hA _ x hx
theorem nextsR_mem {ds : List (Int × Int)} {after x : Int} : x ∈ nextsR A C ds after ↔ x ∈ timesR A C ds ∧ after < x := by
  unfold nextsR
  rw [sortI_mem, List.mem_filter, decide_eq_true_eq]
/-- A play goes on as long as something can come about, each time later. -/
theorem playR_some {f : Nat} {at_ t : Int} (h : (nextsR A C st.ds at_)[0]? = some t) : playR s A C (f + 1) st at_ = playR s A C f (stepR s A C st t) t := by
  show ((nextsR A C st.ds at_)[0]?).elim _ _ = _; rw [h]; rfl
theorem playR_none {f : Nat} {at_ : Int} (h : (nextsR A C st.ds at_)[0]? = none) : playR s A C f st at_ = st := by
  cases f with
  | zero => rfl
  | succ f => show ((nextsR A C st.ds at_)[0]?).elim _ _ = _; rw [h]; rfl
def playOf (s : StyV) (A : List AgV) (C : List CaV) : RoS := playR s A C 345859200002 (newR A C) (-1)
end
end
end Go.Proofs.YtpildcnoghojpaaGreatDoor
/- Plain Lean: between the first two turns of hours it is open; whoever is answered in a play is answered while the agent is there. Conditions: none. -/
namespace Go.Proofs.YtpildcnoghojpaaGreatDoor
section

/-! Turns: behind an odd number of them it is open. -/
/-! Plays. -/
section
variable {s : StyV} {A : List AgV} {C : List CaV} {st : RoS} {t : Int}
structure FrOk (A : List AgV) (st : RoS) : Prop where
  l : st.dn.length = st.se.length
  a : ∀ (i : Nat) z, st.se[i]? = some z → z.ag.toList = [] ∨ ∃ a ∈ A, a.fr ≤ z.beg ∧ z.beg < a.til
  n : ∀ (i : Nat) z, st.se[i]? = some z → bAt st.dn i = false → z.ag.toList = []
theorem bAt_setT {l : List Bool} {i j : Nat} (hi : i < l.length) (h : bAt (l.set i true) j = false) : j ≠ i ∧ bAt l j = false := by
  unfold bAt at h ⊢
  rw [List.getElem?_set] at h
  split at h
  · rename_i e
    first | cases h | (rw [if_pos hi] at h; cases h) | (split at h <;> first | cases h | omega)
  · rename_i e
    exact ⟨fun q => e q.symm, h⟩
theorem FrOk.put (h : FrOk A st) {i : Nat} {z z' : SeV} {ds : List (Int × Int)} {bk : List Bool} {last : ByteArray} (hz : st.se[i]? = some z) (hz' : z'.ag.toList = [] ∨ ∃ a ∈ A, a.fr ≤ z'.beg ∧ z'.beg < a.til) : FrOk A ⟨ds, st.se.set i z', bk, st.dn.set i true, last⟩ := by
  have hi : i < st.se.length := (List.getElem?_eq_some_iff.1 hz).1
  refine ⟨by show (st.dn.set i true).length = (st.se.set i z').length; rw [List.length_set, List.length_set]; exact h.l, fun j x hx => ?_, fun j x hx hb => ?_⟩
  · change (st.se.set i z')[j]? = some x at hx
    rw [List.getElem?_set] at hx
    split at hx
    · (try rw [if_pos hi] at hx); injection hx with hx; rw [← hx]; exact hz'
    · exact h.a j x hx
  · obtain ⟨q1, q2⟩ := bAt_setT (by rw [h.l]; exact hi) (show bAt (st.dn.set i true) j = false from hb)
    change (st.se.set i z')[j]? = some x at hx
    rw [List.getElem?_set, if_neg (fun q => q1 q.symm)] at hx
    exact h.n j x hx q2
theorem FrOk.leave1 (h : FrOk A st) (c : CaV) (i : Nat) (now : Bool) : FrOk A (leave1 c i t now st) := by
  unfold Go.Proofs.YtpildcnoghojpaaGreatDoor.leave1
  split
  · rename_i hl
    split
    · exact ⟨h.l, h.a, h.n⟩
    · have hdn : bAt st.dn i = false := by
        unfold leaveB at hl
        simp only [Bool.and_eq_true, Bool.not_eq_true'] at hl
        exact hl.1.1.1.1
      cases hz : st.se[i]? with
      | none =>
        refine ⟨by show (st.dn.set i true).length = _; rw [List.length_set]; exact h.l, h.a, fun j x hx hb => ?_⟩
        have hx' : st.se[j]? = some x := hx
        by_cases e : i < st.dn.length
        · exact h.n j x hx' (bAt_setT e hb).2
        · refine h.n j x hx' ?_
          change bAt (st.dn.set i true) j = false at hb
          rwa [List.set_eq_of_length_le (by omega)] at hb
      | some z => exact h.put hz (.inl (h.n i z hz hdn))
  · exact h
theorem FrOk.leaveR (h : FrOk A st) (now : Bool) (k : Nat) : FrOk A (leaveR C t now k st) := by
  induction k with
  | zero => exact h
  | succ k ih =>
    show FrOk A ((C[k]?).elim _ _)
    cases C[k]? with
    | none => exact ih
    | some c => exact ih.leave1 c k now
theorem FrOk.given (h : FrOk A st) {i k : Nat} {a : AgV} (ha : A[k]? = some a) (hf : a.fr ≤ t ∧ t < a.til) (hi : i < st.se.length) : FrOk A (givenR A C st t i k) := by
  unfold givenR
  cases C[i]? with
  | none => exact h
  | some c =>
    rw [ha]
    exact h.put (List.getElem?_eq_getElem hi) (.inr ⟨a, mem_of_get ha, hf⟩)
theorem FrOk.giveL (h : FrOk A st) (hl : C.length ≤ st.se.length) (l : List Nat) {st' : RoS} (e : giveL s A C st t l = some st') : FrOk A st' := by
  induction l with
  | nil => cases e
  | cons i l ih =>
    change (C[i]?).elim (Go.Proofs.YtpildcnoghojpaaGreatDoor.giveL s A C st t l) _ = some st' at e
    cases hc : C[i]? with
    | none => rw [hc] at e; exact ih e
    | some c =>
      rw [hc] at e
      change (if chosenR s A st c t < 0 then Go.Proofs.YtpildcnoghojpaaGreatDoor.giveL s A C st t l else some (givenR A C st t i (chosenR s A st c t).toNat)) = some st' at e
      split at e
      · exact ih e
      · rename_i hn
        injection e with e
        rw [← e]
        rcases chooseR_ok (s := s) (A := A) (ds := st.ds) (last := st.last) (c := c) (t := t) A.length with q | ⟨k, a, _, q, ha, _, hf⟩
        · exact absurd (show chosenR s A st c t < 0 by unfold chosenR; omega) hn
        · have e2 : (chosenR s A st c t).toNat = k := by unfold chosenR; omega
          rw [e2]
          exact h.given ha (freeB_til hf) (by have := (List.getElem?_eq_some_iff.1 hc).1; omega)
theorem leave1_len (c : CaV) (i : Nat) (now : Bool) : (leave1 c i t now st).se.length = st.se.length := by
  unfold leave1
  split
  · split
    · rfl
    · show ((st.se[i]?).elim st.se fun s => st.se.set i ⟨s.ca, s.ag, 2, t, t⟩).length = _
      cases st.se[i]? with
      | none => rfl
      | some x => exact List.length_set
  · rfl
theorem leaveR_len (now : Bool) (k : Nat) : (leaveR C t now k st).se.length = st.se.length := by
  induction k with
  | zero => rfl
  | succ k ih =>
    show ((C[k]?).elim _ _ : RoS).se.length = _
    cases C[k]? with
    | none => exact ih
    | some c => exact (leave1_len c k now).trans ih
theorem givenR_len (i k : Nat) : (givenR A C st t i k).se.length = st.se.length := by
  unfold givenR
  cases C[i]? with
  | none => rfl
  | some c =>
    cases A[k]? with
    | none => rfl
    | some a => exact List.length_set
theorem giveL_len (l : List Nat) {st' : RoS} (e : giveL s A C st t l = some st') : st'.se.length = st.se.length := by
  induction l with
  | nil => cases e
  | cons i l ih =>
    change (C[i]?).elim (Go.Proofs.YtpildcnoghojpaaGreatDoor.giveL s A C st t l) _ = some st' at e
    cases hc : C[i]? with
    | none => rw [hc] at e; exact ih e
    | some c =>
      rw [hc] at e
      change (if chosenR s A st c t < 0 then Go.Proofs.YtpildcnoghojpaaGreatDoor.giveL s A C st t l else some (givenR A C st t i (chosenR s A st c t).toNat)) = some st' at e
      split at e
      · exact ih e
      · injection e with e
        rw [← e]; exact givenR_len i _
def FrL (A : List AgV) (C : List CaV) (st : RoS) : Prop := FrOk A st ∧ C.length ≤ st.se.length
theorem FrL.gives : ∀ (f : Nat) (st : RoS), FrL A C st → FrL A C (givesR s A C t f st) := by
  intro f
  induction f with
  | zero => intro st h; exact h
  | succ f ih =>
    intro st h
    cases e : giveR s A C st t with
    | none => rw [givesR_none e]; exact h
    | some st' => rw [givesR_some e]; exact ih st' ⟨h.1.giveL h.2 _ e, by rw [giveL_len _ e]; exact h.2⟩
theorem FrL.leaveR (h : FrL A C st) (now : Bool) (k : Nat) : FrL A C (leaveR C t now k st) := ⟨h.1.leaveR now k, by rw [leaveR_len]; exact h.2⟩
theorem FrL.step (h : FrL A C st) : FrL A C (stepR s A C st t) := (FrL.gives C.length _ (h.leaveR false C.length)).leaveR true C.length
theorem FrL.play : ∀ (f : Nat) (st : RoS) (at_ : Int), FrL A C st → FrL A C (playR s A C f st at_) := by
  intro f
  induction f with
  | zero => intro st _ h; exact h
  | succ f ih =>
    intro st at_ h
    cases hx : (nextsR A C st.ds at_)[0]? with
    | none => rw [playR_none hx]; exact h
    | some x => rw [playR_some hx]; exact ih _ _ h.step
end
end
end Go.Proofs.YtpildcnoghojpaaGreatDoor
/- Plain Lean: what a play gives whoever is answered: answered not before they call, as long as they talk. Conditions: none. -/
namespace Go.Proofs.YtpildcnoghojpaaGreatDoor
section
section
variable {s : StyV} {A : List AgV} {C : List CaV} {st : RoS} {t : Int}
/-- A seat of a caller. -/
def SeatG (A : List AgV) (c : CaV) (z : SeV) : Prop := z.ca = c.id ∧ (z.ag.toList = [] ∨ (c.at_ ≤ z.beg ∧ (∃ a ∈ A, z.beg < a.til) ∧ z.fin = z.beg + c.talk))
structure PdOk (A : List AgV) (C : List CaV) (st : RoS) : Prop where
  l : st.dn.length = st.se.length
  len : st.se.length = C.length
  a : ∀ (i : Nat) z c, st.se[i]? = some z → C[i]? = some c → SeatG A c z
  n : ∀ (i : Nat) z, st.se[i]? = some z → bAt st.dn i = false → z.ag.toList = []
theorem PdOk.put (h : PdOk A C st) {i : Nat} {z z' : SeV} {c : CaV} {ds : List (Int × Int)} {bk : List Bool} {last : ByteArray} (hz : st.se[i]? = some z) (hc : C[i]? = some c) (hz' : SeatG A c z') : PdOk A C ⟨ds, st.se.set i z', bk, st.dn.set i true, last⟩ := by
  have hi : i < st.se.length := (List.getElem?_eq_some_iff.1 hz).1
  refine ⟨by show (st.dn.set i true).length = (st.se.set i z').length; rw [List.length_set, List.length_set]; exact h.l, by show (st.se.set i z').length = _; rw [List.length_set]; exact h.len, fun j x d hx hd => ?_, fun j x hx hb => ?_⟩
  · change (st.se.set i z')[j]? = some x at hx
    by_cases e : i = j
    · subst e
      rw [List.getElem?_set_self hi] at hx
      rw [hc] at hd
      obtain rfl := Option.some.inj hx
      obtain rfl := Option.some.inj hd
      exact hz'
    · rw [List.getElem?_set_ne e] at hx
      exact h.a j x d hx hd
  · obtain ⟨q1, q2⟩ := bAt_setT (by rw [h.l]; exact hi) (show bAt (st.dn.set i true) j = false from hb)
    change (st.se.set i z')[j]? = some x at hx
    rw [List.getElem?_set, if_neg (fun q => q1 q.symm)] at hx
    exact h.n j x hx q2
theorem PdOk.leave1 (h : PdOk A C st) {c : CaV} {i : Nat} (hc : C[i]? = some c) (now : Bool) : PdOk A C (leave1 c i t now st) := by
  unfold Go.Proofs.YtpildcnoghojpaaGreatDoor.leave1
  split
  · rename_i hl
    split
    · exact ⟨h.l, h.len, h.a, h.n⟩
    · have hdn : bAt st.dn i = false := by
        unfold leaveB at hl
        simp only [Bool.and_eq_true, Bool.not_eq_true'] at hl
        exact hl.1.1.1.1
      cases hz : st.se[i]? with
      | none =>
        have := (List.getElem?_eq_some_iff.1 hc).1
        have h2 := List.getElem?_eq_none_iff.1 hz
        have := h.len
        omega
      | some z =>
        exact h.put hz hc ⟨(h.a i z c hz hc).1, .inl (h.n i z hz hdn)⟩
  · exact h
theorem PdOk.leaveR (h : PdOk A C st) (now : Bool) (k : Nat) : PdOk A C (leaveR C t now k st) := by
  induction k with
  | zero => exact h
  | succ k ih =>
    show PdOk A C ((C[k]?).elim _ _)
    cases hc : C[k]? with
    | none => exact ih
    | some c => exact ih.leave1 hc now
theorem PdOk.given (h : PdOk A C st) {i k : Nat} {a : AgV} {c : CaV} (hc : C[i]? = some c) (ha : A[k]? = some a) (hf : t < a.til) (ht : c.at_ ≤ t) : PdOk A C (givenR A C st t i k) := by
  have hi : i < st.se.length := by have := (List.getElem?_eq_some_iff.1 hc).1; have := h.len; omega
  unfold givenR
  rw [hc, ha]
  exact h.put (List.getElem?_eq_getElem hi) hc ⟨rfl, .inr ⟨ht, ⟨a, mem_of_get ha, hf⟩, rfl⟩⟩
theorem PdOk.giveL (h : PdOk A C st) (l : List Nat) (hl : ∀ i ∈ l, ∃ c, C[i]? = some c ∧ c.at_ ≤ t) {st' : RoS} (e : giveL s A C st t l = some st') : PdOk A C st' := by
  induction l with
  | nil => cases e
  | cons i l ih =>
    change (C[i]?).elim (Go.Proofs.YtpildcnoghojpaaGreatDoor.giveL s A C st t l) _ = some st' at e
    obtain ⟨c, hc, hct⟩ := hl i (List.mem_cons_self ..)
    rw [hc] at e
    change (if chosenR s A st c t < 0 then Go.Proofs.YtpildcnoghojpaaGreatDoor.giveL s A C st t l else some (givenR A C st t i (chosenR s A st c t).toNat)) = some st' at e
    split at e
    · exact ih (fun i hi => hl i (List.mem_cons_of_mem _ hi)) e
    · rename_i hn
      injection e with e
      rw [← e]
      rcases chooseR_ok (s := s) (A := A) (ds := st.ds) (last := st.last) (c := c) (t := t) A.length with q | ⟨k, a, _, q, ha, _, hf⟩
      · exact absurd (show chosenR s A st c t < 0 by unfold chosenR; omega) hn
      · have e2 : (chosenR s A st c t).toNat = k := by unfold chosenR; omega
        rw [e2]
        exact h.given hc ha (freeB_til hf).2 hct
theorem PdOk.gives : ∀ (f : Nat) (st : RoS), PdOk A C st → PdOk A C (givesR s A C t f st) := by
  intro f
  induction f with
  | zero => intro st h; exact h
  | succ f ih =>
    intro st h
    cases e : giveR s A C st t with
    | none => rw [givesR_none e]; exact h
    | some st' => rw [givesR_some e]; exact ih st' (h.giveL _ (fun i hi => (lineR_mem hi).2.2) e)
theorem PdOk.step (h : PdOk A C st) : PdOk A C (stepR s A C st t) := (PdOk.gives C.length _ (h.leaveR false C.length)).leaveR true C.length
theorem PdOk.play : ∀ (f : Nat) (st : RoS) (at_ : Int), PdOk A C st → PdOk A C (playR s A C f st at_) := by
  intro f
  induction f with
  | zero => intro st _ h; exact h
  | succ f ih =>
    intro st at_ h
    cases hx : (nextsR A C st.ds at_)[0]? with
    | none => rw [playR_none hx]; exact h
    | some x => rw [playR_some hx]; exact ih _ _ h.step
theorem playOf_paid : (playOf s A C).se.length = C.length ∧ ∀ (i : Nat) z c, (playOf s A C).se[i]? = some z → C[i]? = some c → SeatG A c z := by
  have hz : ∀ (i : Nat) z, (C.map fun c => (⟨c.id, ⟨#[]⟩, 4, 0, 0⟩ : SeV))[i]? = some z → z.ag.toList = [] := fun i z hz => by
    obtain ⟨c, _, rfl⟩ := List.mem_map.1 (mem_of_get hz)
    show (⟨#[]⟩ : ByteArray).toList = []
    rw [ByteArray.toList_eq]
  have h0 : PdOk A C (newR A C) := by
    refine ⟨by simp [newR], by simp [newR], fun i z c hx hc => ?_, fun i z hx _ => hz i z hx⟩
    refine ⟨?_, .inl (hz i z hx)⟩
    change (C.map fun c => (⟨c.id, ⟨#[]⟩, 4, 0, 0⟩ : SeV))[i]? = some z at hx
    rw [List.getElem?_map, hc] at hx
    obtain rfl := Option.some.inj hx
    rfl
  have h := PdOk.play (s := s) 345859200002 _ (-1) h0
  exact ⟨h.len, h.a⟩
end
end
end Go.Proofs.YtpildcnoghojpaaGreatDoor
/- Plain Lean: a queue as the program plays it: desks, waiters, moments. Conditions: none. -/
namespace Go.Proofs.YtpildcnoghojpaaGreatDoor
section
open Go.RowKit

/-! Desks, waiters, what is known while a play goes on. -/
structure DkV where
  tk : Int
  en : Int
  n : Int
structure WtV where
  how : Int
  seat : SeV
structure PlS where
  dk : List DkV
  wt : List WtV
  last : ByteArray
def dkAt (l : List DkV) (i : Nat) : DkV := (l[i]?).getD ⟨0, 0, 0⟩
def wtAt (l : List WtV) (i : Nat) : WtV := (l[i]?).getD ⟨0, ⟨⟨#[]⟩, ⟨#[]⟩, 0, 0, 0⟩⟩
theorem dkAt_some {l : List DkV} {i : Nat} {d : DkV} (h : l[i]? = some d) : dkAt l i = d := by unfold dkAt; rw [h]; rfl
theorem wtAt_some {l : List WtV} {i : Nat} {d : WtV} (h : l[i]? = some d) : wtAt l i = d := by unfold wtAt; rw [h]; rfl
/-! A change of one after the other. -/
section
variable {α β : Type}
def updN (f : α → β → β) (C : List α) : Nat → List β → List β
  | 0, l => l
  | k + 1, l => (C[k]?).elim (updN f C k l) fun c => ((updN f C k l)[k]?).elim (updN f C k l) fun x => (updN f C k l).set k (f c x)
theorem updN_succ {f : α → β → β} {C : List α} {k : Nat} {l : List β} {c : α} {x : β} (hc : C[k]? = some c) (hx : (updN f C k l)[k]? = some x) : updN f C (k + 1) l = (updN f C k l).set k (f c x) := by
  show (C[k]?).elim _ _ = _; rw [hc]; show ((updN f C k l)[k]?).elim _ _ = _; rw [hx]; rfl
theorem updN_len (f : α → β → β) (C : List α) (k : Nat) (l : List β) : (updN f C k l).length = l.length := by
  induction k with
  | zero => rfl
  | succ k ih =>
    show ((C[k]?).elim (updN f C k l) _ : List β).length = _
    cases C[k]? with
    | none => exact ih
    | some c =>
      show (((updN f C k l)[k]?).elim (updN f C k l) _ : List β).length = _
      cases (updN f C k l)[k]? with
      | none => exact ih
      | some x => show ((updN f C k l).set k _).length = _; rw [List.length_set]; exact ih
theorem updN_get (f : α → β → β) (C : List α) (k : Nat) (l : List β) (i : Nat) : (updN f C k l)[i]? = if i < k then (l[i]?).map (fun x => (C[i]?).elim x fun c => f c x) else l[i]? := by
  induction k with
  | zero => simp [updN]
  | succ k ih =>
    by_cases hik : i = k
    · subst hik
      rw [if_pos (by omega)]
      rw [if_neg (by omega)] at ih
      show ((C[i]?).elim (updN f C i l) _)[i]? = _
      cases hc : C[i]? with
      | none => show (updN f C i l)[i]? = _; rw [ih]; cases l[i]? <;> rfl
      | some c =>
        show (((updN f C i l)[i]?).elim (updN f C i l) _)[i]? = _
        cases hx : (updN f C i l)[i]? with
        | none => show (updN f C i l)[i]? = _; rw [hx, ← ih, hx]; rfl
        | some x =>
          show ((updN f C i l).set i (f c x))[i]? = _
          rw [List.getElem?_set_self (List.getElem?_eq_some_iff.1 hx).1, ← ih, hx]; rfl
    · have e : (updN f C (k + 1) l)[i]? = (updN f C k l)[i]? := by
        show ((C[k]?).elim (updN f C k l) _)[i]? = _
        cases C[k]? with
        | none => rfl
        | some c =>
          show (((updN f C k l)[k]?).elim (updN f C k l) _)[i]? = _
          cases (updN f C k l)[k]? with
          | none => rfl
          | some x => show ((updN f C k l).set k (f c x))[i]? = _; rw [List.getElem?_set_ne (by omega)]
      rw [e, ih]
      by_cases h1 : i < k
      · rw [if_pos h1, if_pos (by omega)]
      · rw [if_neg h1, if_neg (by omega)]
end
def updA {α β : Type} (f : α → β → β) (C : List α) (l : List β) : List β := updN f C C.length l
theorem updA_get {α β : Type} (f : α → β → β) {C : List α} {l : List β} {i : Nat} {c : α} {x : β} (hc : C[i]? = some c) (hx : l[i]? = some x) : (updA f C l)[i]? = some (f c x) := by
  unfold updA
  rw [updN_get, if_pos (List.getElem?_eq_some_iff.1 hc).1, hx, hc]; rfl
theorem updA_len {α β : Type} (f : α → β → β) (C : List α) (l : List β) : (updA f C l).length = l.length := updN_len _ _ _ _

/-! What comes about at a moment. -/
def endP (t : Int) (_ : AgV) (d : DkV) : DkV := if decide (d.tk = t) && decide (0 < t) then ⟨0, t, d.n⟩ else d
def leaveP (t : Int) (c : CaV) (x : WtV) : WtV := if decide (x.how = 1) && decide (c.at_ + c.pat = t) then (if c.back then { x with how := 2 } else ⟨3, ⟨c.id, ⟨#[]⟩, 2, t, t⟩⟩) else x
def comeP (t : Int) (c : CaV) (x : WtV) : WtV := if decide (x.how = 0) && decide (c.at_ = t) then { x with how := 1 } else x
def freeP (a : AgV) (d : DkV) (t : Int) : Bool := decide (d.tk = 0) && (presB a t && (decide (d.n = 0) || decide (d.en + a.wrap ≤ t)))
def inL (x : WtV) : Bool := decide (x.how = 1) || decide (x.how = 2)
def rawP (wt : List WtV) : Nat → List Nat
  | 0 => []
  | k + 1 => rawP wt k ++ (wt[k]?).elim [] fun x => if inL x then [k] else []
theorem rawP_succ {wt : List WtV} {k : Nat} {x : WtV} (h : wt[k]? = some x) : rawP wt (k + 1) = rawP wt k ++ if inL x then [k] else [] := by
  show _ ++ (wt[k]?).elim _ _ = _; rw [h]; rfl
def lineP (s : StyV) (C : List CaV) (wt : List WtV) (t : Int) : List Nat := srt (fun a b => decide (rankAt s C t b < rankAt s C t a)) (rawP wt wt.length)
def sinceP (a : AgV) (d : DkV) : Int := if d.n = 0 then a.fr else d.en
def betterP (kind : Int) (a : AgV) (d : DkV) (b : AgV) (e : DkV) (last skill : ByteArray) : Bool :=
  if kind = 1 then decide (sinceP a d < sinceP b e) else if kind = 2 then decide (d.n < e.n) else if kind = 3 then decide (lvl b.sk skill < lvl a.sk skill) else !(leS a.key last) && leS b.key last
/-- The desk that is chosen; -1: none. -/
def deskP (s : StyV) (A : List AgV) (dk : List DkV) (last : ByteArray) (c : CaV) (t : Int) : Nat → Int
  | 0 => -1
  | k + 1 => (A[k]?).elim (deskP s A dk last c t k) fun a =>
    if freeP a (dkAt dk k) t && ableB a c then
      (if decide (deskP s A dk last c t k < 0) || (A[(deskP s A dk last c t k).toNat]?).elim false (fun b => betterP s.kind a (dkAt dk k) b (dkAt dk (deskP s A dk last c t k).toNat) last c.skill) then (k : Int) else deskP s A dk last c t k)
    else deskP s A dk last c t k
theorem deskP_succ {s : StyV} {A : List AgV} {dk : List DkV} {last : ByteArray} {c : CaV} {t : Int} {k : Nat} {a : AgV} (h : A[k]? = some a) : deskP s A dk last c t (k + 1) = if freeP a (dkAt dk k) t && ableB a c then
      (if decide (deskP s A dk last c t k < 0) || (A[(deskP s A dk last c t k).toNat]?).elim false (fun b => betterP s.kind a (dkAt dk k) b (dkAt dk (deskP s A dk last c t k).toNat) last c.skill) then (k : Int) else deskP s A dk last c t k)
    else deskP s A dk last c t k := by
  show (A[k]?).elim _ _ = _; rw [h]; rfl
def chosenP (s : StyV) (A : List AgV) (p : PlS) (c : CaV) (t : Int) : Int := deskP s A p.dk p.last c t A.length
def givenP (A : List AgV) (C : List CaV) (p : PlS) (t : Int) (i k : Nat) : PlS := (C[i]?).elim p fun c => (A[k]?).elim p fun a =>
  ⟨p.dk.set k ⟨t + c.talk, (dkAt p.dk k).en, (dkAt p.dk k).n + 1⟩, p.wt.set i ⟨3, ⟨c.id, a.key, if (wtAt p.wt i).how = 2 then 3 else 1, t, t + c.talk⟩⟩, a.key⟩
def givePL (s : StyV) (A : List AgV) (C : List CaV) (p : PlS) (t : Int) : List Nat → Option PlS
  | [] => none
  | i :: l => (C[i]?).elim (givePL s A C p t l) fun c => if chosenP s A p c t < 0 then givePL s A C p t l else some (givenP A C p t i (chosenP s A p c t).toNat)
def giveP (s : StyV) (A : List AgV) (C : List CaV) (p : PlS) (t : Int) : Option PlS := givePL s A C p t (lineP s C p.wt t)
def givesP (s : StyV) (A : List AgV) (C : List CaV) (t : Int) : Nat → PlS → PlS
  | 0, p => p
  | f + 1, p => (giveP s A C p t).elim p (givesP s A C t f)
theorem givesP_some {s : StyV} {A : List AgV} {C : List CaV} {t : Int} {f : Nat} {p p' : PlS} (h : giveP s A C p t = some p') : givesP s A C t (f + 1) p = givesP s A C t f p' := by
  show (giveP s A C p t).elim _ _ = _; rw [h]; rfl
theorem givesP_none {s : StyV} {A : List AgV} {C : List CaV} {t : Int} {f : Nat} {p : PlS} (h : giveP s A C p t = none) : givesP s A C t f p = p := by
  cases f with
  | zero => rfl
  | succ f => show (giveP s A C p t).elim _ _ = _; rw [h]; rfl
def momP (s : StyV) (A : List AgV) (C : List CaV) (p : PlS) (t : Int) : PlS :=
  let p1 : PlS := ⟨updA (endP t) A p.dk, updA (comeP t) C (updA (leaveP t) C p.wt), p.last⟩
  let p2 := givesP s A C t C.length p1
  ⟨p2.dk, updA (leaveP t) C p2.wt, p2.last⟩

/-! The next moment. -/
def minP (at_ : Int) (o : Option Int) (x : Int) : Option Int := if decide (at_ < x) && (o.elim true fun b => decide (x < b)) then some x else o
def waT1 (c : CaV) (x : WtV) : List Int := if x.how = 0 then [c.at_] else if x.how = 1 then [c.at_ + c.pat] else []
def waT (C : List CaV) (wt : List WtV) : Nat → List Int
  | 0 => []
  | k + 1 => waT C wt k ++ (C[k]?).elim [] fun c => waT1 c (wtAt wt k)
def waB (wt : List WtV) : Nat → Bool
  | 0 => false
  | k + 1 => waB wt k || (decide ((wtAt wt k).how = 0) || inL (wtAt wt k))
def dkT1 (a : AgV) (d : DkV) : List Int := (if 0 < d.tk then [d.tk] else []) ++ ((if 0 < d.n then [max d.tk d.en + a.wrap] else []) ++ (a.fr :: a.ps.map (·.2)))
def dkT (A : List AgV) (dk : List DkV) : Nat → List Int
  | 0 => []
  | k + 1 => dkT A dk k ++ (A[k]?).elim [] fun a => dkT1 a (dkAt dk k)
theorem waT_succ {C : List CaV} {wt : List WtV} {k : Nat} {c : CaV} (h : C[k]? = some c) : waT C wt (k + 1) = waT C wt k ++ waT1 c (wtAt wt k) := by
  show _ ++ (C[k]?).elim _ _ = _; rw [h]; rfl
theorem dkT_succ {A : List AgV} {dk : List DkV} {k : Nat} {a : AgV} (h : A[k]? = some a) : dkT A dk (k + 1) = dkT A dk k ++ dkT1 a (dkAt dk k) := by
  show _ ++ (A[k]?).elim _ _ = _; rw [h]; rfl
def minL (at_ : Int) (l : List Int) : Option Int := l.foldl (minP at_) none
theorem minL_app (at_ : Int) (l m : List Int) : minL at_ (l ++ m) = m.foldl (minP at_) (minL at_ l) := by unfold minL; rw [List.foldl_append]
def nextP (A : List AgV) (C : List CaV) (p : PlS) (at_ : Int) : Option Int := if waB p.wt C.length then minL at_ (waT C p.wt C.length ++ dkT A p.dk A.length) else none
theorem fold_min (at_ : Int) (l : List Int) : ∀ o : Option Int, (∀ b, o = some b → at_ < b) →
    (∀ b, l.foldl (minP at_) o = some b → at_ < b ∧ (o = some b ∨ b ∈ l) ∧ (∀ x ∈ l, at_ < x → b ≤ x) ∧ ∀ x, o = some x → b ≤ x) ∧ (l.foldl (minP at_) o = none → o = none ∧ ∀ x ∈ l, ¬ at_ < x) := by
  induction l with
  | nil =>
    intro o ho
    refine ⟨fun b hb => ⟨ho b hb, .inl hb, (fun x hx => by cases hx), fun x hx => ?_⟩, fun h => ⟨h, fun x hx => by cases hx⟩⟩
    change o = some b at hb
    rw [hb] at hx
    injection hx with hx
    omega
  | cons y l ih =>
    intro o ho
    show (∀ b, l.foldl (minP at_) (minP at_ o y) = some b → _) ∧ (l.foldl (minP at_) (minP at_ o y) = none → _)
    by_cases hy : at_ < y ∧ ∀ b, o = some b → y < b
    · have e : minP at_ o y = some y := by
        unfold minP
        rw [decide_eq_true hy.1, Bool.true_and]
        cases o with
        | none => rfl
        | some b => show (if decide (y < b) = true then _ else _) = _; rw [decide_eq_true (hy.2 b rfl)]; rfl
      rw [e]
      obtain ⟨h1, h2⟩ := ih (some y) (fun b hb => by injection hb with hb; subst hb; exact hy.1)
      refine ⟨fun b hb => ?_, fun hn => ?_⟩
      · obtain ⟨q1, q2, q3, q4⟩ := h1 b hb
        have q5 := q4 y rfl
        refine ⟨q1, ?_, ?_, ?_⟩
        · rcases q2 with q2 | q2
          · injection q2 with q2; subst q2; exact .inr (List.mem_cons_self ..)
          · exact .inr (List.mem_cons_of_mem _ q2)
        · intro x hx hl
          rcases List.mem_cons.1 hx with rfl | hx
          · exact q5
          · exact q3 x hx hl
        · intro x hx
          have := hy.2 x hx
          omega
      · have := (h2 hn).1
        cases this
    · have e : minP at_ o y = o := by
        unfold minP
        cases h3 : decide (at_ < y) with
        | false => rfl
        | true =>
          have h4 := of_decide_eq_true h3
          cases o with
          | none => exact absurd ⟨h4, fun b hb => by cases hb⟩ hy
          | some b =>
            show (if (true && decide (y < b)) = true then _ else _) = _
            cases h5 : decide (y < b) with
            | false => rfl
            | true => exact absurd ⟨h4, fun b' hb => by injection hb with hb; subst hb; exact of_decide_eq_true h5⟩ hy
      rw [e]
      obtain ⟨h1, h2⟩ := ih o ho
      refine ⟨fun b hb => ?_, fun hn => ?_⟩
      · obtain ⟨q1, q2, q3, q4⟩ := h1 b hb
        refine ⟨q1, ?_, ?_, q4⟩
        · rcases q2 with q2 | q2
          · exact .inl q2
          · exact .inr (List.mem_cons_of_mem _ q2)
        · intro x hx hl
          rcases List.mem_cons.1 hx with rfl | hx
          · cases o with
            | none => exact absurd ⟨hl, fun b hb => by cases hb⟩ hy
            | some b' =>
              have h6 := q4 b' rfl
              have h7 : ¬ x < b' := fun h => hy ⟨hl, fun b2 hb => by injection hb with hb; subst hb; exact h⟩
              omega
          · exact q3 x hx hl
      · obtain ⟨q1, q2⟩ := h2 hn
        refine ⟨q1, fun x hx hl => ?_⟩
        rcases List.mem_cons.1 hx with rfl | hx
        · subst q1; exact hy ⟨hl, fun b hb => by cases hb⟩
        · exact q2 x hx hl
theorem minL_some {at_ b : Int} {l : List Int} (h : minL at_ l = some b) : at_ < b ∧ b ∈ l ∧ ∀ x ∈ l, at_ < x → b ≤ x := by
  obtain ⟨q1, q2, q3, _⟩ := (fold_min at_ l none (fun b hb => by cases hb)).1 b h
  exact ⟨q1, q2.elim (fun e => by cases e) id, q3⟩
theorem minL_none {at_ : Int} {l : List Int} (h : minL at_ l = none) : ∀ x ∈ l, ¬ at_ < x := ((fold_min at_ l none (fun b hb => by cases hb)).2 h).2

/-! The play up to a moment. -/
def plyP (s : StyV) (A : List AgV) (C : List CaV) (upto : Int) : Nat → PlS → Int → PlS
  | 0, p, _ => p
  | f + 1, p, at_ => (nextP A C p at_).elim p fun t => if t ≤ upto then plyP s A C upto f (momP s A C p t) t else p
def newP (A : List AgV) (C : List CaV) : PlS := ⟨List.replicate A.length ⟨0, 0, 0⟩, C.map fun c => ⟨0, ⟨c.id, ⟨#[]⟩, 4, 0, 0⟩⟩, ⟨#[]⟩⟩
end
end Go.Proofs.YtpildcnoghojpaaGreatDoor
/- Plain Lean: what is wrong with seats; which part of those who count. Conditions: none. -/
namespace Go.Proofs.YtpildcnoghojpaaGreatDoor
section
open Go.RowKit

def SeOk (s : SeV) : Prop := s.ca.size ≤ 1000 ∧ s.ag.size ≤ 1000 ∧ -1152921504606846976 ≤ s.beg ∧ s.beg ≤ 1152921504606846976 ∧ -1152921504606846976 ≤ s.fin ∧ s.fin ≤ 1152921504606846976
def Ses (w : World) (lo : Nat) (A : Option Addr) (n c : Nat) (l : List SeV) : Prop := Recs SeV.row 5 w lo A n c l ∧ ∀ s ∈ l, SeOk s
theorem Ses.grown {w w' : World} {lo : Nat} {A : Option Addr} {n c : Nat} {l : List SeV} (h : Ses w lo A n c l) {r : Option Nat} (hg : w.grownBy w' r) (hr : ∀ g, r = some g → g < lo) : Ses w' lo A n c l := ⟨h.1.grown hg hr, h.2⟩
def tkB (s : SeV) : Bool := s.how == 1 || s.how == 3
/-! Right callers have numbers in bounds. -/
theorem casE_num {C : List CaV} (h : casE C = 0) : ∀ c ∈ C, caNum c = true := by
  intro c hc
  unfold casE at h
  split at h
  · cases h
  · obtain ⟨i, hi⟩ := List.mem_iff_getElem?.1 hc
    have hf := fstE_ev h i (List.getElem?_eq_some_iff.1 hi).1
    cases hn : caNum c with
    | true => rfl
    | false =>
      exfalso
      cases hk : keyOk (nb c.id) && keyOk (nb c.skill) with
      | false => rw [caAt_5 hi hk] at hf; cases hf
      | true =>
        cases hm : memS ((C.take i).map (·.id)) c.id with
        | true => rw [caAt_6 hi hk hm] at hf; cases hf
        | false => rw [caAt_1 hi hk hm hn] at hf; cases hf
theorem caNum_n {c : CaV} (h : caNum c = true) : CaN c := by
  unfold caNum momB inB at h
  simp only [Bool.and_eq_true, decide_eq_true_eq] at h
  obtain ⟨⟨⟨⟨h1, h2⟩, h3⟩, h4⟩, h5⟩ := h
  exact ⟨by omega, by omega, by omega, by omega, by omega, by omega, by omega, by omega⟩

/-! Parts. -/
section
variable {short : Int} {C : List CaV} {l : List SeV} {so : CaV → SeV → Bool} {k : Nat} {c : CaV} {s : SeV}
end
/-! What the three answer: a fraction and an error. -/
end
end Go.Proofs.YtpildcnoghojpaaGreatDoor
/- Plain Lean: which part of an agent's presence is work: windows without windows (the document), works in order (the program). Conditions: none. -/
namespace Go.Proofs.YtpildcnoghojpaaGreatDoor
section
open Go.RowKit

/-! Sums over moments. -/
def inW (w : Int × Int) (x : Int) : Bool := decide (w.1 ≤ x) && decide (x < w.2)
def iB (b : Bool) : Int := if b then 1 else 0
/-! Windows: how many hold a moment, how long they are together. -/
def multW : List (Int × Int) → Int → Int
  | [], _ => 0
  | w :: l, x => iB (inW w x) + multW l x
theorem take_snoc {α : Type} {l : List α} {k : Nat} {z : α} (h : l[k]? = some z) : l.take (k + 1) = l.take k ++ [z] := by
  rw [List.take_add_one, h]; rfl
/-- Windows that lie in 0 .. n, none of them turned round. -/
def GoodW (n : Nat) (l : List (Int × Int)) : Prop := ∀ w ∈ l, 0 ≤ w.1 ∧ w.1 ≤ w.2 ∧ w.2 ≤ n
theorem GoodW.app {n : Nat} {l m : List (Int × Int)} (h : GoodW n l) (h2 : GoodW n m) : GoodW n (l ++ m) := fun w hw => (List.mem_append.1 hw).elim (h w) (h2 w)
theorem GoodW.take {n : Nat} {l : List (Int × Int)} (h : GoodW n l) (k : Nat) : GoodW n (l.take k) := fun w hw => h w (List.mem_of_mem_take hw)
/-- Windows of a presence: no moment lies in two of them. -/
structure WinOk (n : Nat) (l : List (Int × Int)) : Prop where
  good : GoodW n l
  one : ∀ x, multW l x ≤ 1
  len : l.length ≤ n + 1
/-! The times in which an agent is present, as the program makes them. -/
structure PausesOk (n : Nat) (ps : List (Int × Int)) : Prop where
  w : ∀ p ∈ ps, 0 ≤ p.1 ∧ p.1 < p.2 ∧ p.2 ≤ n
  o : ∀ i p q, ps[i]? = some p → ps[i + 1]? = some q → p.2 ≤ q.1
/-! Works in order, time by time. -/
/-! Both ways lead to the same numbers. -/
end
end Go.Proofs.YtpildcnoghojpaaGreatDoor
/- Plain Lean: works sorted; what Longest, Busy and Most answer. Conditions: none. -/
namespace Go.Proofs.YtpildcnoghojpaaGreatDoor
section
open Go.RowKit

/-! The sort keeps what is there, and brings it in order. -/
section
variable {α : Type} {lt : α → α → Bool}
theorem swap_has {l : List α} {j : Nat} {x y z : α} (hx : l[j + 1]? = some x) (hy : l[j]? = some y) (h : z ∈ l) : z ∈ (l.set (j + 1) y).set j x := by
  obtain ⟨k, hk⟩ := List.mem_iff_getElem?.1 h
  have l1 := (List.getElem?_eq_some_iff.1 hx).1
  by_cases h1 : k = j
  · subst h1
    rw [hy] at hk
    injection hk with hk
    subst hk
    refine List.mem_iff_getElem?.2 ⟨k + 1, ?_⟩
    rw [List.getElem?_set_ne (by omega), List.getElem?_set_self l1]
  · by_cases h2 : k = j + 1
    · subst h2
      rw [hx] at hk
      injection hk with hk
      subst hk
      refine List.mem_iff_getElem?.2 ⟨j, ?_⟩
      rw [List.getElem?_set_self (by rw [List.length_set]; omega)]
    · refine List.mem_iff_getElem?.2 ⟨k, ?_⟩
      rw [List.getElem?_set_ne (by omega), List.getElem?_set_ne (by omega), hk]
theorem sink_has {l : List α} {j : Nat} {z : α} (h : z ∈ l) : z ∈ sink lt l j := by
  induction j generalizing l with
  | zero => exact h
  | succ j ih =>
    unfold sink
    split
    · rename_i x y hx hy
      split
      · exact ih (swap_has hx hy h)
      · exact h
    · exact h
theorem srtTo_has {l : List α} {i : Nat} {z : α} (h : z ∈ l) : z ∈ srtTo lt l i := by
  induction i with
  | zero => exact h
  | succ i ih => exact sink_has ih
theorem srt_has {l : List α} {z : α} (h : z ∈ l) : z ∈ srt lt l := srtTo_has h
end
def OrdTo (l : List (Int × Int)) (i : Nat) : Prop := ∀ a b p q, a ≤ b → b ≤ i → l[a]? = some p → l[b]? = some q → p.1 ≤ q.1
structure HoleAt (l : List (Int × Int)) (i j : Nat) : Prop where
  o : ∀ a b p q, a ≤ b → b ≤ i → a ≠ j → b ≠ j → l[a]? = some p → l[b]? = some q → p.1 ≤ q.1
  h : ∀ b p q, j ≤ b → b ≤ i → l[j]? = some p → l[b]? = some q → p.1 ≤ q.1
theorem HoleAt.all {l : List (Int × Int)} {i j : Nat} (h : HoleAt l i j) (hb : ∀ a p q, a < j → l[a]? = some p → l[j]? = some q → p.1 ≤ q.1) : OrdTo l i := by
  intro a b p q hab hbi hp hq
  by_cases h1 : a = j
  · subst h1; exact h.h b p q hab hbi hp hq
  · by_cases h2 : b = j
    · subst h2; exact hb a p q (by omega) hp hq
    · exact h.o a b p q hab hbi h1 h2 hp hq
/-! When a caller waits no more; the longest wait; the most who wait. -/
section
variable {C : List CaV} {l : List SeV} {k : Nat} {c : CaV} {s : SeV}
end

/-! Works, and an agent's part of talk. -/
/-! What is right about an agent that is right, and about its works. -/
structure AgR (a : AgV) : Prop where
  key : keyOk (nb a.key) = true
  tm : 0 ≤ a.fr ∧ a.fr ≤ a.til ∧ a.til ≤ (345686400000 : Nat)
  ps : PausesOk 345686400000 a.ps
  pn : a.pn ≤ 50
  wr : 0 ≤ a.wrap ∧ a.wrap ≤ 86400000
theorem agR_of {a : AgV} (hp : a.ps.length = a.pn) (h : agsE [a] = 0) : AgR a := by
  have h1 : agAt [a] 0 = 0 := by
    unfold agsE at h
    rw [if_neg (by simp)] at h
    exact fstE_ev h 0 (by simp)
  have h2 : (if keyOk (nb a.key) then (if decide (0 < 0) && ([a][0 - 1]?).elim false (fun b => leS a.key b.key) then 7 else agE a) else (5 : Int)) = 0 := h1
  cases hk : keyOk (nb a.key) with
  | false => rw [hk] at h2; cases h2
  | true =>
    rw [hk] at h2
    have h3 : agE a = 0 := h2
    unfold agE at h3
    split at h3
    · cases h3
    · split at h3
      · unfold timE tmE at h3
        split at h3
        · cases h3
        · rename_i ht
          split at h3
          · cases h3
          · rename_i hn
            split at h3
            · rename_i hps
              have hev := fstE_ev hps
              split at h3
              · rename_i hw
                unfold inB at hw
                simp only [Bool.and_eq_true, decide_eq_true_eq] at hw
                have hat : ∀ (i : Nat) (p : Int × Int), a.ps[i]? = some p → ¬ (p.1 < 0 ∨ p.2 ≤ p.1 ∨ 345686400000 < p.2) ∧ (decide (0 < i) && (a.ps[i - 1]?).elim false (fun q => decide (p.1 < q.2))) = false := by
                  intro i p hi
                  have hl := (List.getElem?_eq_some_iff.1 hi).1
                  have h4 := hev i (by omega)
                  unfold pwAt at h4
                  rw [hi] at h4
                  change (if p.1 < 0 ∨ p.2 ≤ p.1 ∨ 345686400000 < p.2 then (1 : Int) else (if (decide (0 < i) && (a.ps[i - 1]?).elim false (fun q => decide (p.1 < q.2))) = true then 7 else 0)) = 0 at h4
                  split at h4
                  · cases h4
                  · rename_i h5
                    refine ⟨h5, ?_⟩
                    cases h6 : (decide (0 < i) && (a.ps[i - 1]?).elim false (fun q => decide (p.1 < q.2))) with
                    | false => rfl
                    | true => rw [h6] at h4; cases h4
                refine ⟨hk, by omega, ⟨?_, ?_⟩, by omega, hw⟩
                · intro p hp2
                  obtain ⟨i, hi⟩ := List.mem_iff_getElem?.1 hp2
                  have := (hat i p hi).1
                  omega
                · intro i p q hp2 hq
                  have h5 := (hat (i + 1) q hq).2
                  rw [decide_eq_true (by omega), Bool.true_and] at h5
                  have e : i + 1 - 1 = i := by omega
                  rw [e, hp2] at h5
                  have h6 : ¬ q.1 < p.2 := of_decide_eq_false h5
                  omega
              · cases h3
            · contradiction
      · contradiction
structure SeatsR (l : List SeV) : Prop where
  tk : ∀ s ∈ l, tkB s = true → 0 ≤ s.beg ∧ s.beg ≤ 691372800000 ∧ s.beg ≤ s.fin ∧ s.fin ≤ 2000000000000
  no : ∀ s ∈ l, tkB s = false → nb s.ag = []
end
end Go.Proofs.YtpildcnoghojpaaGreatDoor
/- Plain Lean: the queue that the program plays is the one that the document plays. Conditions: none. -/
namespace Go.Proofs.YtpildcnoghojpaaGreatDoor
section
open Go.RowKit

def seat0 (c : CaV) : SeV := ⟨c.id, ⟨#[]⟩, 4, 0, 0⟩
structure DkSim (t : Int) (x : DkV) (d : Int × Int) : Prop where
  n : d.1 = x.n
  n0 : 0 ≤ x.n
  k0 : 0 ≤ x.tk
  e0 : 0 ≤ x.en
  e1 : x.en ≤ max t 0
  fr : x.tk = 0 → 0 < x.n → d.2 = x.en ∧ x.en ≤ t
  tk : x.tk ≠ 0 → 0 < x.n ∧ d.2 = x.tk ∧ t < x.tk ∧ x.en ≤ x.tk
structure WtSim (t : Int) (c : CaV) (x : WtV) (bk dn : Bool) (se : SeV) : Prop where
  h : x.how = 0 ∨ x.how = 1 ∨ x.how = 2 ∨ x.how = 3
  se : se = x.seat
  c0 : x.how = 0 → t < c.at_ ∧ bk = false ∧ dn = false
  c1 : x.how = 1 → c.at_ ≤ t ∧ t < c.at_ + c.pat ∧ bk = false ∧ dn = false
  c2 : x.how = 2 → c.at_ ≤ t ∧ bk = true ∧ dn = false
  c3 : x.how = 3 → dn = true
  i : dn = false → x.seat = seat0 c
/-- Within a moment, behind those who come. -/
structure WtMid (t : Int) (c : CaV) (x : WtV) (bk dn : Bool) (se : SeV) : Prop where
  h : x.how = 0 ∨ x.how = 1 ∨ x.how = 2 ∨ x.how = 3
  se : se = x.seat
  c0 : x.how = 0 → t < c.at_ ∧ bk = false ∧ dn = false
  c1 : x.how = 1 → c.at_ ≤ t ∧ (t = c.at_ + c.pat → c.at_ = t) ∧ t ≤ c.at_ + c.pat ∧ bk = false ∧ dn = false
  c2 : x.how = 2 → c.at_ ≤ t ∧ bk = true ∧ dn = false
  c3 : x.how = 3 → dn = true
  i : dn = false → x.seat = seat0 c
def seAtR (l : List SeV) (i : Nat) : SeV := (l[i]?).getD ⟨⟨#[]⟩, ⟨#[]⟩, 0, 0, 0⟩
theorem seAtR_some {l : List SeV} {i : Nat} {x : SeV} (h : l[i]? = some x) : seAtR l i = x := by unfold seAtR; rw [h]; rfl
/-- Both know the same: W says what holds of a waiter. -/
structure Like (W : CaV → WtV → Bool → Bool → SeV → Prop) (A : List AgV) (C : List CaV) (p : PlS) (r : RoS) (t : Int) : Prop where
  dl : p.dk.length = A.length
  rl : r.ds.length = A.length
  wl : p.wt.length = C.length
  sl : r.se.length = C.length
  bl : r.bk.length = C.length
  nl : r.dn.length = C.length
  l : r.last = p.last
  d : ∀ i x, p.dk[i]? = some x → DkSim t x (dAt r.ds i)
  w : ∀ i c x, C[i]? = some c → p.wt[i]? = some x → W c x (bAt r.bk i) (bAt r.dn i) (seAtR r.se i)
abbrev Sim (A : List AgV) (C : List CaV) (p : PlS) (r : RoS) (t : Int) : Prop := Like (WtSim t) A C p r t
abbrev Mid (A : List AgV) (C : List CaV) (p : PlS) (r : RoS) (t : Int) : Prop := Like (WtMid t) A C p r t
def Quiet (A : List AgV) (C : List CaV) (r : RoS) (t : Int) : Prop := ∀ i k c a, C[i]? = some c → bAt r.dn i = false → c.at_ ≤ t → A[k]? = some a → ableB a c = true → freeB a (dAt r.ds k) t = false
section
variable {s : StyV} {A : List AgV} {C : List CaV} {p : PlS} {r : RoS} {t t' : Int}
def progT (A : List AgV) (C : List CaV) (p : PlS) : List Int := waT C p.wt C.length ++ dkT A p.dk A.length
theorem mem_waT {wt : List WtV} {i k : Nat} {c : CaV} {x : Int} (hc : C[i]? = some c) (hi : i < k) (hx : x ∈ waT1 c (wtAt wt i)) : x ∈ waT C wt k := by
  induction k with
  | zero => omega
  | succ k ih =>
    by_cases h : i = k
    · subst h; rw [waT_succ hc]; exact List.mem_append_right _ hx
    · exact List.mem_append_left _ (ih (by omega))
theorem mem_dkT {dk : List DkV} {i k : Nat} {a : AgV} {x : Int} (ha : A[i]? = some a) (hi : i < k) (hx : x ∈ dkT1 a (dkAt dk i)) : x ∈ dkT A dk k := by
  induction k with
  | zero => omega
  | succ k ih =>
    by_cases h : i = k
    · subst h; rw [dkT_succ ha]; exact List.mem_append_right _ hx
    · exact List.mem_append_left _ (ih (by omega))
theorem waT_mem {wt : List WtV} {k : Nat} {x : Int} (h : x ∈ waT C wt k) : ∃ i c, i < k ∧ C[i]? = some c ∧ x ∈ waT1 c (wtAt wt i) := by
  induction k with
  | zero => cases h
  | succ k ih =>
    rcases List.mem_append.1 h with h | h
    · obtain ⟨i, c, h1, h2⟩ := ih h; exact ⟨i, c, by omega, h2⟩
    · cases hc : C[k]? with
      | none => rw [hc] at h; cases h
      | some c => rw [hc] at h; exact ⟨k, c, by omega, hc, h⟩
theorem dkT_mem {dk : List DkV} {k : Nat} {x : Int} (h : x ∈ dkT A dk k) : ∃ i a, i < k ∧ A[i]? = some a ∧ x ∈ dkT1 a (dkAt dk i) := by
  induction k with
  | zero => cases h
  | succ k ih =>
    rcases List.mem_append.1 h with h | h
    · obtain ⟨i, c, h1, h2⟩ := ih h; exact ⟨i, c, by omega, h2⟩
    · cases hc : A[k]? with
      | none => rw [hc] at h; cases h
      | some c => rw [hc] at h; exact ⟨k, c, by omega, hc, h⟩
theorem calT_has {i k : Nat} {c : CaV} {x : Int} (hc : C[i]? = some c) (hi : i < k) (hx : x = c.at_ ∨ x = c.at_ + c.pat) : x ∈ calT C k := by
  induction k with
  | zero => omega
  | succ k ih =>
    by_cases h : i = k
    · subst h; rw [calT_succ hc]; exact List.mem_append_right _ (by simp; exact hx)
    · exact List.mem_append_left _ (ih (by omega))
theorem agT_has {ds : List (Int × Int)} {i k : Nat} {a : AgV} {x : Int} (ha : A[i]? = some a) (hi : i < k) (hx : x ∈ agT1 a (dAt ds i)) : x ∈ agT A ds k := by
  induction k with
  | zero => omega
  | succ k ih =>
    by_cases h : i = k
    · subst h; rw [agT_succ ha]; exact List.mem_append_right _ hx
    · exact List.mem_append_left _ (ih (by omega))
theorem waB_mem {wt : List WtV} {i k : Nat} (hi : i < k) (h : (wtAt wt i).how = 0 ∨ inL (wtAt wt i) = true) : waB wt k = true := by
  induction k with
  | zero => omega
  | succ k ih =>
    show (waB wt k || _) = true
    by_cases e : i = k
    · subst e
      rcases h with h | h
      · rw [decide_eq_true h]; simp
      · rw [h]; simp
    · rw [ih (by omega)]; rfl
theorem Like.dk {W : CaV → WtV → Bool → Bool → SeV → Prop} (h : Like W A C p r t) {i : Nat} (hi : i < A.length) : p.dk[i]? = some (dkAt p.dk i) ∧ DkSim t (dkAt p.dk i) (dAt r.ds i) := by
  obtain ⟨x, hx⟩ : ∃ x, p.dk[i]? = some x := ⟨_, List.getElem?_eq_getElem (by rw [h.dl]; exact hi)⟩
  rw [dkAt_some hx]
  exact ⟨hx, h.d i x hx⟩
theorem Like.wt {W : CaV → WtV → Bool → Bool → SeV → Prop} (h : Like W A C p r t) {i : Nat} {c : CaV} (hc : C[i]? = some c) : p.wt[i]? = some (wtAt p.wt i) ∧ W c (wtAt p.wt i) (bAt r.bk i) (bAt r.dn i) (seAtR r.se i) := by
  obtain ⟨x, hx⟩ : ∃ x, p.wt[i]? = some x := ⟨_, List.getElem?_eq_getElem (by rw [h.wl]; exact (List.getElem?_eq_some_iff.1 hc).1)⟩
  rw [wtAt_some hx]
  exact ⟨hx, h.w i c x hc hx⟩
/-- Time goes on, and nothing comes about. -/
theorem Sim.adv (h : Sim A C p r t) (htt : t ≤ t') (hn : ∀ x ∈ progT A C p, t < x → ¬ x ≤ t') : Sim A C p r t' := by
  refine ⟨h.dl, h.rl, h.wl, h.sl, h.bl, h.nl, h.l, fun i x hx => ?_, fun i c x hc hx => ?_⟩
  · have q := h.d i x hx
    have hi : i < A.length := by rw [← h.dl]; exact (List.getElem?_eq_some_iff.1 hx).1
    obtain ⟨a, ha⟩ : ∃ a, A[i]? = some a := ⟨_, List.getElem?_eq_getElem hi⟩
    refine ⟨q.n, q.n0, q.k0, q.e0, by have := q.e1; omega, fun h1 h2 => ?_, fun h1 => ?_⟩
    · have := q.fr h1 h2; exact ⟨this.1, by omega⟩
    · obtain ⟨b1, b2, b3, b4⟩ := q.tk h1
      have hm : x.tk ∈ progT A C p := List.mem_append_right _ (mem_dkT ha hi (by
        rw [dkAt_some hx]
        unfold dkT1
        rw [if_pos (by have := q.k0; omega)]
        exact List.mem_append_left _ (by simp)))
      have := hn _ hm b3
      exact ⟨b1, b2, by omega, b4⟩
  · have q := h.w i c x hc hx
    have hi : i < C.length := (List.getElem?_eq_some_iff.1 hc).1
    refine ⟨q.h, q.se, fun h1 => ?_, fun h1 => ?_, fun h1 => ?_, q.c3, q.i⟩
    · obtain ⟨b1, b2, b3⟩ := q.c0 h1
      have := hn c.at_ (List.mem_append_left _ (mem_waT hc hi (by rw [wtAt_some hx]; unfold waT1; rw [if_pos h1]; simp))) b1
      exact ⟨by omega, b2, b3⟩
    · obtain ⟨b1, b2, b3, b4⟩ := q.c1 h1
      have := hn (c.at_ + c.pat) (List.mem_append_left _ (mem_waT hc hi (by rw [wtAt_some hx]; unfold waT1; rw [if_neg (by omega), if_pos h1]; simp))) b2
      exact ⟨by omega, by omega, b3, b4⟩
    · obtain ⟨b1, b2, b3⟩ := q.c2 h1
      exact ⟨by omega, b2, b3⟩
theorem pres_turn {a : AgV} (h1 : presB a t = false) (h2 : presB a t' = true) (htt : t ≤ t') : ∃ x ∈ a.fr :: a.ps.map (·.2), t < x ∧ x ≤ t' := by
  unfold presB at h1 h2
  rw [Bool.and_eq_true, Bool.not_eq_true'] at h2
  obtain ⟨b1, b2⟩ := h2
  unfold inWin at b1
  rw [Bool.and_eq_true, decide_eq_true_eq, decide_eq_true_eq] at b1
  change a.fr ≤ t' ∧ t' < a.til at b1
  by_cases hf : t < a.fr
  · exact ⟨a.fr, List.mem_cons_self .., hf, b1.1⟩
  · have e : inWin t (a.fr, a.til) = true := by
      unfold inWin
      rw [Bool.and_eq_true, decide_eq_true_eq, decide_eq_true_eq]
      show a.fr ≤ t ∧ t < a.til
      omega
    rw [e, Bool.true_and, Bool.not_eq_false'] at h1
    obtain ⟨q, hq, hw⟩ := List.any_eq_true.1 h1
    have hw2 : ¬ inWin t' q = true := by
      intro e2
      rw [List.any_eq_true.2 ⟨q, hq, e2⟩] at b2
      cases b2
    unfold inWin at hw hw2
    rw [Bool.and_eq_true, decide_eq_true_eq, decide_eq_true_eq] at hw hw2
    exact ⟨q.2, List.mem_cons_of_mem _ (List.mem_map.2 ⟨q, hq, rfl⟩), by omega, by omega⟩
theorem Sim.max {i : Nat} (h : Sim A C p r t) (hi : i < A.length) (hn : (dAt r.ds i).1 ≠ 0) : 0 < (dkAt p.dk i).n ∧ (dAt r.ds i).2 = max (dkAt p.dk i).tk (dkAt p.dk i).en := by
  obtain ⟨_, q⟩ := h.dk hi
  have h1 := q.n; have h2 := q.n0; have h3 := q.k0; have h4 := q.e0
  by_cases hk : (dkAt p.dk i).tk = 0
  · have := q.fr hk (by omega); omega
  · have := q.tk hk; omega
theorem Quiet.adv (hq : Quiet A C r t) (h : Sim A C p r t) (htt : t ≤ t') (hn : ∀ x ∈ progT A C p, t < x → ¬ x ≤ t') : Quiet A C r t' := by
  intro i k c a hc hd hat ha hab
  have hi : i < C.length := (List.getElem?_eq_some_iff.1 hc).1
  have hk : k < A.length := (List.getElem?_eq_some_iff.1 ha).1
  have hat2 : c.at_ ≤ t := by
    obtain ⟨hx, q⟩ := h.wt hc
    rcases q.h with e | e | e | e
    · have b1 := (q.c0 e).1
      exact absurd hat (hn c.at_ (List.mem_append_left _ (mem_waT hc hi (by unfold waT1; rw [if_pos e]; simp))) b1)
    · exact (q.c1 e).1
    · exact (q.c2 e).1
    · rw [q.c3 e] at hd; cases hd
  have h1 := hq i k c a hc hd hat2 ha hab
  cases h2 : freeB a (dAt r.ds k) t' with
  | false => rfl
  | true =>
    exfalso
    unfold freeB at h1 h2
    rw [Bool.and_eq_true] at h2
    cases h3 : presB a t with
    | false =>
      obtain ⟨x, hx, b1, b2⟩ := pres_turn h3 h2.1 htt
      exact hn x (List.mem_append_right _ (mem_dkT ha hk (by unfold dkT1; exact List.mem_append_right _ (List.mem_append_right _ hx)))) b1 b2
    | true =>
      rw [h3, Bool.true_and, Bool.or_eq_false_iff] at h1
      have b1 := of_decide_eq_false h1.1
      have b2 := of_decide_eq_false h1.2
      have h4 := h2.2
      rw [Bool.or_eq_true, decide_eq_true_eq, decide_eq_true_eq] at h4
      have b3 : (dAt r.ds k).2 + a.wrap ≤ t' := h4.resolve_left b1
      obtain ⟨m1, m2⟩ := h.max hk b1
      exact hn ((dAt r.ds k).2 + a.wrap) (List.mem_append_right _ (mem_dkT ha hk (by
        unfold dkT1
        rw [if_pos m1, m2]
        exact List.mem_append_right _ (List.mem_append_left _ (by simp))))) (by omega) b3
end
end
end Go.Proofs.YtpildcnoghojpaaGreatDoor
/- Plain Lean: a moment of the program's play is one of the document's. Conditions: none. -/
namespace Go.Proofs.YtpildcnoghojpaaGreatDoor
section
open Go.RowKit
section
variable {s : StyV} {A : List AgV} {C : List CaV} {p : PlS} {r : RoS} {t t' : Int}
/-! Callers leave: what becomes of each. -/
theorem bAt_set (l : List Bool) (i j : Nat) (b : Bool) (h : i < l.length) : bAt (l.set i b) j = if i = j then b else bAt l j := by
  unfold bAt
  by_cases e : i = j
  · subst e; rw [List.getElem?_set_self h, if_pos rfl]; rfl
  · rw [List.getElem?_set_ne e, if_neg e]
structure LvGet (C : List CaV) (t : Int) (now : Bool) (k : Nat) (st st' : RoS) : Prop where
  ds : st'.ds = st.ds
  last : st'.last = st.last
  sl : st'.se.length = st.se.length
  bl : st'.bk.length = st.bk.length
  nl : st'.dn.length = st.dn.length
  bk : ∀ i c, C[i]? = some c → bAt st'.bk i = (bAt st.bk i || (decide (i < k) && (leaveB c t now (bAt st.bk i) (bAt st.dn i) && c.back)))
  dn : ∀ i c, C[i]? = some c → bAt st'.dn i = (bAt st.dn i || (decide (i < k) && (leaveB c t now (bAt st.bk i) (bAt st.dn i) && !c.back)))
  se : ∀ i c, C[i]? = some c → seAtR st'.se i = if (decide (i < k) && (leaveB c t now (bAt st.bk i) (bAt st.dn i) && !c.back)) = true then ⟨(seAtR st.se i).ca, (seAtR st.se i).ag, 2, t, t⟩ else seAtR st.se i
theorem seAtR_set (l : List SeV) (i j : Nat) (x : SeV) (h : i < l.length) : seAtR (l.set i x) j = if i = j then x else seAtR l j := by
  unfold seAtR
  by_cases e : i = j
  · subst e; rw [List.getElem?_set_self h, if_pos rfl]; rfl
  · rw [List.getElem?_set_ne e, if_neg e]
theorem leaveR_get (now : Bool) (st : RoS) (h1 : st.se.length = C.length) (h2 : st.bk.length = C.length) (h3 : st.dn.length = C.length) : ∀ k, k ≤ C.length → LvGet C t now k st (leaveR C t now k st) := by
  intro k
  induction k with
  | zero => intro _; exact ⟨rfl, rfl, rfl, rfl, rfl, fun i c _ => by simp [leaveR], fun i c _ => by simp [leaveR], fun i c _ => by simp [leaveR]⟩
  | succ k ih =>
    intro hk
    have g := ih (by omega)
    obtain ⟨c, hc⟩ : ∃ c, C[k]? = some c := ⟨_, List.getElem?_eq_getElem (by omega)⟩
    rw [leaveR_succ hc]
    revert g
    generalize leaveR C t now k st = st1
    intro g
    have eb : bAt st1.bk k = bAt st.bk k := by rw [g.bk k c hc]; simp
    have en : bAt st1.dn k = bAt st.dn k := by rw [g.dn k c hc]; simp
    have es : seAtR st1.se k = seAtR st.se k := by rw [g.se k c hc]; simp
    have l1 : k < st1.se.length := by rw [g.sl]; omega
    have l2 : k < st1.bk.length := by rw [g.bl]; omega
    have l3 : k < st1.dn.length := by rw [g.nl]; omega
    unfold leave1
    rw [eb, en]
    have lt : ∀ i, i ≠ k → decide (i < k + 1) = decide (i < k) := fun i hi => by
      by_cases h : i < k
      · rw [decide_eq_true h, decide_eq_true (by omega)]
      · rw [decide_eq_false h, decide_eq_false (by omega)]
    have lk : decide (k < k + 1) = true := decide_eq_true (by omega)
    cases hb : leaveB c t now (bAt st.bk k) (bAt st.dn k) with
    | false =>
      rw [if_neg (by decide)]
      refine ⟨g.ds, g.last, g.sl, g.bl, g.nl, fun i c' hc' => ?_, fun i c' hc' => ?_, fun i c' hc' => ?_⟩
      all_goals
        by_cases hi : i = k
        · subst hi
          rw [hc] at hc'
          injection hc' with hc'
          subst hc'
          first | rw [eb] | rw [en] | rw [es]
          rw [hb]
          simp
        · rw [lt i hi]
          first | exact g.bk i c' hc' | exact g.dn i c' hc' | exact g.se i c' hc'
    | true =>
      rw [if_pos rfl]
      cases hback : c.back with
      | true =>
        rw [if_pos rfl]
        refine ⟨g.ds, g.last, g.sl, by rw [← g.bl]; exact List.length_set .., g.nl, fun i c' hc' => ?_, fun i c' hc' => ?_, fun i c' hc' => ?_⟩
        · show bAt (st1.bk.set k true) i = _
          rw [bAt_set _ _ _ _ l2]
          by_cases hi : k = i
          · subst hi
            rw [hc] at hc'
            injection hc' with hc'
            subst hc'
            rw [if_pos rfl, lk, hb, hback]
            simp
          · rw [if_neg hi, lt i (by omega)]; exact g.bk i c' hc'
        · by_cases hi : i = k
          · subst hi
            rw [hc] at hc'
            injection hc' with hc'
            subst hc'
            rw [hback]
            show bAt st1.dn i = _
            rw [en]; simp
          · rw [lt i hi]; exact g.dn i c' hc'
        · by_cases hi : i = k
          · subst hi
            rw [hc] at hc'
            injection hc' with hc'
            subst hc'
            rw [hback]
            show seAtR st1.se i = _
            rw [es]; simp
          · rw [lt i hi]; exact g.se i c' hc'
      | false =>
        rw [if_neg (by decide)]
        obtain ⟨z, hz⟩ : ∃ z, st1.se[k]? = some z := ⟨_, List.getElem?_eq_getElem l1⟩
        have ez : seAtR st1.se k = z := seAtR_some hz
        rw [hz]
        refine ⟨g.ds, g.last, ?_, g.bl, by rw [← g.nl]; exact List.length_set .., fun i c' hc' => ?_, fun i c' hc' => ?_, fun i c' hc' => ?_⟩
        · show (st1.se.set k _).length = _
          rw [List.length_set, g.sl]
        · by_cases hi : i = k
          · subst hi
            rw [hc] at hc'
            injection hc' with hc'
            subst hc'
            rw [hback]
            show bAt st1.bk i = _
            rw [eb]; simp
          · rw [lt i hi]; exact g.bk i c' hc'
        · show bAt (st1.dn.set k true) i = _
          rw [bAt_set _ _ _ _ l3]
          by_cases hi : k = i
          · subst hi
            rw [hc] at hc'
            injection hc' with hc'
            subst hc'
            rw [if_pos rfl, lk, hb, hback]
            simp
          · rw [if_neg hi, lt i (by omega)]; exact g.dn i c' hc'
        · show seAtR (st1.se.set k ⟨z.ca, z.ag, 2, t, t⟩) i = _
          rw [seAtR_set _ _ _ _ l1]
          by_cases hi : k = i
          · subst hi
            rw [hc] at hc'
            injection hc' with hc'
            subst hc'
            rw [if_pos rfl, lk, hb, hback, ← ez, es]
            simp
          · rw [if_neg hi, lt i (by omega)]; exact g.se i c' hc'

/-! Nothing comes about where the program sees no moment. -/
theorem leave1_none {c : CaV} {i : Nat} {now : Bool} {st : RoS} (h : leaveB c t now (bAt st.bk i) (bAt st.dn i) = false) : leave1 c i t now st = st := by
  unfold leave1; rw [h]; rfl
theorem leaveR_none {now : Bool} {st : RoS} (h : ∀ i c, C[i]? = some c → leaveB c t now (bAt st.bk i) (bAt st.dn i) = false) (k : Nat) : leaveR C t now k st = st := by
  induction k with
  | zero => rfl
  | succ k ih =>
    cases hc : C[k]? with
    | none => show (C[k]?).elim _ _ = _; rw [hc]; exact ih
    | some c => rw [leaveR_succ hc, ih]; exact leave1_none (h k c hc)
theorem giveL_none {st : RoS} {l : List Nat} (h : ∀ i ∈ l, ∀ c, C[i]? = some c → chosenR s A st c t < 0) : giveL s A C st t l = none := by
  induction l with
  | nil => rfl
  | cons i l ih =>
    have h2 := ih fun j hj => h j (List.mem_cons_of_mem _ hj)
    show (C[i]?).elim (giveL s A C st t l) _ = none
    cases hc : C[i]? with
    | none => exact h2
    | some c =>
      show (if chosenR s A st c t < 0 then _ else _) = none
      rw [if_pos (h i (List.mem_cons_self ..) c hc)]
      exact h2
theorem none_giveL {st : RoS} {l : List Nat} (h : giveL s A C st t l = none) : ∀ i ∈ l, ∀ c, C[i]? = some c → chosenR s A st c t < 0 := by
  induction l with
  | nil => intro i hi; cases hi
  | cons j l ih =>
    intro i hi c hc
    change (C[j]?).elim (giveL s A C st t l) _ = none at h
    cases hj : C[j]? with
    | none =>
      rw [hj] at h
      rcases List.mem_cons.1 hi with rfl | hi
      · rw [hj] at hc; cases hc
      · exact ih h i hi c hc
    | some d =>
      rw [hj] at h
      change (if chosenR s A st d t < 0 then giveL s A C st t l else _) = none at h
      by_cases hd : chosenR s A st d t < 0
      · rw [if_pos hd] at h
        rcases List.mem_cons.1 hi with rfl | hi
        · rw [hj] at hc; injection hc with hc; subst hc; exact hd
        · exact ih h i hi c hc
      · rw [if_neg hd] at h; cases h
theorem chosen_none {st : RoS} {c : CaV} (h : ∀ k a, A[k]? = some a → ableB a c = true → freeB a (dAt st.ds k) t = false) : chosenR s A st c t < 0 := by
  unfold chosenR
  rcases chooseR_ok (s := s) (A := A) (ds := st.ds) (last := st.last) (c := c) (t := t) A.length with e | ⟨i, a, _, _, ha, hb, hf⟩
  · omega
  · rw [h i a ha hb] at hf; cases hf
theorem none_chosen {ds : List (Int × Int)} {last : ByteArray} {c : CaV} : ∀ n, (chooseR s A ds last c t n).1 < 0 → ∀ k a, k < n → A[k]? = some a → ableB a c = true → freeB a (dAt ds k) t = false := by
  intro n
  induction n with
  | zero => intro _ k a hk; omega
  | succ n ih =>
    intro h k a hk ha hab
    cases hn : A[n]? with
    | none =>
      have e : chooseR s A ds last c t (n + 1) = chooseR s A ds last c t n := by show (A[n]?).elim _ _ = _; rw [hn]; rfl
      rw [e] at h
      by_cases hkn : k = n
      · subst hkn; rw [hn] at ha; cases ha
      · exact ih h k a (by omega) ha hab
    | some b =>
      rw [chooseR_succ hn] at h
      by_cases hf : (ableB b c && freeB b (dAt ds n) t) = true
      · rw [if_pos hf] at h
        split at h
        · change (n : Int) < 0 at h; omega
        · rename_i hc
          exfalso
          apply hc
          rw [decide_eq_true h]; rfl
      · rw [if_neg hf] at h
        by_cases hkn : k = n
        · subst hkn
          rw [hn] at ha
          injection ha with ha
          subst ha
          rw [hab, Bool.true_and] at hf
          simpa using hf
        · exact ih h k a (by omega) ha hab
theorem lineRaw_has {dn : List Bool} {k i : Nat} {c : CaV} (hc : C[i]? = some c) (hi : i < k) (hat : c.at_ ≤ t) (hd : bAt dn i = false) : i ∈ lineRaw C dn t k := by
  induction k with
  | zero => omega
  | succ k ih =>
    by_cases h : i = k
    · subst h
      rw [lineRaw_succ hc, decide_eq_true hat, hd]
      exact List.mem_append_right _ (by simp)
    · exact List.mem_append_left _ (ih (by omega))
theorem quiet_of {st : RoS} (h : giveR s A C st t = none) : Quiet A C st t := by
  intro i k c a hc hd hat ha hab
  have h1 := none_giveL h i (srt_has (lineRaw_has hc (List.getElem?_eq_some_iff.1 hc).1 hat hd)) c hc
  exact none_chosen A.length h1 k a (List.getElem?_eq_some_iff.1 ha).1 ha hab
theorem none_of_quiet {st : RoS} (h : Quiet A C st t) : giveR s A C st t = none := by
  refine giveL_none fun i hi c hc => ?_
  obtain ⟨_, h2, c', hc', hat⟩ := lineR_mem hi
  rw [hc] at hc'
  injection hc' with hc'
  subst hc'
  exact chosen_none fun k a ha hab => h i k c a hc h2 hat ha hab
theorem Sim.noop (h : Sim A C p r t) (hq : Quiet A C r t) : stepR s A C r t = r := by
  have hl : ∀ now i c, C[i]? = some c → leaveB c t now (bAt r.bk i) (bAt r.dn i) = false := by
    intro now i c hc
    obtain ⟨_, q⟩ := h.wt hc
    unfold leaveB
    rcases q.h with e | e | e | e
    · rw [decide_eq_false (show ¬ c.at_ ≤ t by have := (q.c0 e).1; omega)]; simp
    · rw [decide_eq_false (show ¬ c.at_ + c.pat = t by have := (q.c1 e).2.1; omega)]; simp
    · rw [(q.c2 e).2.1]; simp
    · rw [q.c3 e]; simp
  unfold stepR
  rw [leaveR_none (hl false), givesR_none (none_of_quiet hq), leaveR_none (hl true)]
/-- Once all are done, nothing comes about. -/
theorem step_done (h : RoOk A C r) (hd : ∀ i, i < C.length → bAt r.dn i = true) : stepR s A C r t = r := by
  have hl : ∀ now i c, C[i]? = some c → leaveB c t now (bAt r.bk i) (bAt r.dn i) = false := by
    intro now i c hc
    unfold leaveB
    rw [hd i (List.getElem?_eq_some_iff.1 hc).1]; rfl
  have hg : giveR s A C r t = none := by
    refine giveL_none fun i hi c hc => ?_
    obtain ⟨_, h2, _⟩ := lineR_mem hi
    rw [hd i (List.getElem?_eq_some_iff.1 hc).1] at h2
    cases h2
  unfold stepR
  rw [leaveR_none (hl false), givesR_none hg, leaveR_none (hl true)]
end
end
end Go.Proofs.YtpildcnoghojpaaGreatDoor
/- Plain Lean: a moment of the program's play keeps both plays alike. Conditions: none. -/
namespace Go.Proofs.YtpildcnoghojpaaGreatDoor
section
open Go.RowKit
section
variable {s : StyV} {A : List AgV} {C : List CaV} {p : PlS} {r : RoS} {t t' : Int}
theorem wt_in {c : CaV} {x : WtV} {bk dn : Bool} {se : SeV} (hc : CaN c) (q : WtSim (t - 1) c x bk dn se) :
    WtMid t c (comeP t c (leaveP t c x)) (bk || (leaveB c t false bk dn && c.back)) (dn || (leaveB c t false bk dn && !c.back)) (if (leaveB c t false bk dn && !c.back) = true then ⟨se.ca, se.ag, 2, t, t⟩ else se) := by
  have hp := hc.2.2.1
  rcases q.h with e | e | e | e
  · obtain ⟨b1, rfl, rfl⟩ := q.c0 e
    have e1 : leaveP t c x = x := by unfold leaveP; rw [decide_eq_false (by omega)]; rfl
    have e2 : leaveB c t false false false = false := by
      unfold leaveB
      by_cases h : c.at_ = t
      · rw [decide_eq_true h]; simp
      · rw [decide_eq_false (show ¬ c.at_ ≤ t by omega)]; simp
    rw [e1, e2]
    by_cases h : c.at_ = t
    · have e3 : comeP t c x = ⟨1, x.seat⟩ := by unfold comeP; rw [decide_eq_true e, decide_eq_true h]; rfl
      rw [e3]
      exact ⟨.inr (.inl rfl), q.se, (fun h => by cases h), (fun _ => ⟨by omega, fun _ => h, by omega, rfl, rfl⟩), (fun h => by cases h), (fun h => by cases h), fun _ => q.i rfl⟩
    · have e3 : comeP t c x = x := by unfold comeP; rw [decide_eq_false h, Bool.and_false]; rfl
      rw [e3]
      exact ⟨q.h, q.se, (fun _ => ⟨by omega, rfl, rfl⟩), (fun h => by omega), (fun h => by omega), (fun h => by omega), q.i⟩
  · obtain ⟨b1, b2, rfl, rfl⟩ := q.c1 e
    have e2 : leaveB c t false false false = decide (c.at_ + c.pat = t) := by
      unfold leaveB
      rw [decide_eq_true (show c.at_ ≤ t by omega), decide_eq_false (show ¬ c.at_ = t by omega)]; simp
    rw [e2]
    by_cases h : c.at_ + c.pat = t
    · rw [decide_eq_true h]
      cases hb : c.back with
      | true =>
        have e1 : leaveP t c x = ⟨2, x.seat⟩ := by unfold leaveP; rw [decide_eq_true e, decide_eq_true h, hb]; rfl
        have e3 : comeP t c ⟨2, x.seat⟩ = ⟨2, x.seat⟩ := rfl
        rw [e1, e3]
        exact ⟨.inr (.inr (.inl rfl)), q.se, (fun h => by cases h), (fun h => by cases h), (fun _ => ⟨by omega, rfl, rfl⟩), (fun h => by cases h), fun _ => q.i rfl⟩
      | false =>
        have e1 : leaveP t c x = ⟨3, ⟨c.id, ⟨#[]⟩, 2, t, t⟩⟩ := by unfold leaveP; rw [decide_eq_true e, decide_eq_true h, hb]; rfl
        have e3 : comeP t c ⟨3, ⟨c.id, ⟨#[]⟩, 2, t, t⟩⟩ = ⟨3, ⟨c.id, ⟨#[]⟩, 2, t, t⟩⟩ := rfl
        rw [e1, e3]
        refine ⟨.inr (.inr (.inr rfl)), ?_, (fun h => by cases h), (fun h => by cases h), (fun h => by cases h), (fun _ => rfl), fun h => by cases h⟩
        show (⟨se.ca, se.ag, 2, t, t⟩ : SeV) = ⟨c.id, ⟨#[]⟩, 2, t, t⟩
        rw [q.se, q.i rfl]; rfl
    · rw [decide_eq_false h]
      have e1 : leaveP t c x = x := by unfold leaveP; rw [decide_eq_false h, Bool.and_false]; rfl
      have e3 : comeP t c x = x := by unfold comeP; rw [decide_eq_false (by omega)]; rfl
      rw [e1, e3]
      exact ⟨q.h, q.se, (fun h => by omega), (fun _ => ⟨by omega, (fun h2 => by omega), by omega, rfl, rfl⟩), (fun h => by omega), (fun h => by omega), q.i⟩
  · obtain ⟨b1, rfl, rfl⟩ := q.c2 e
    have e1 : leaveP t c x = x := by unfold leaveP; rw [decide_eq_false (by omega)]; rfl
    have e3 : comeP t c x = x := by unfold comeP; rw [decide_eq_false (by omega)]; rfl
    have e2 : leaveB c t false true false = false := rfl
    rw [e1, e3, e2]
    exact ⟨q.h, q.se, (fun h => by omega), (fun h => by omega), (fun _ => ⟨by omega, rfl, rfl⟩), (fun h => by omega), q.i⟩
  · have hd := q.c3 e
    subst hd
    have e1 : leaveP t c x = x := by unfold leaveP; rw [decide_eq_false (by omega)]; rfl
    have e3 : comeP t c x = x := by unfold comeP; rw [decide_eq_false (by omega)]; rfl
    have e2 : leaveB c t false bk true = false := rfl
    rw [e1, e3, e2]
    exact ⟨q.h, q.se, (fun h => by omega), (fun h => by omega), (fun h => by omega), (fun _ => rfl), fun h => by cases h⟩
theorem wt_out {c : CaV} {x : WtV} {bk dn : Bool} {se : SeV} (q : WtMid t c x bk dn se) :
    WtSim t c (leaveP t c x) (bk || (leaveB c t true bk dn && c.back)) (dn || (leaveB c t true bk dn && !c.back)) (if (leaveB c t true bk dn && !c.back) = true then ⟨se.ca, se.ag, 2, t, t⟩ else se) := by
  rcases q.h with e | e | e | e
  · obtain ⟨b1, rfl, rfl⟩ := q.c0 e
    have e1 : leaveP t c x = x := by unfold leaveP; rw [decide_eq_false (by omega)]; rfl
    have e2 : leaveB c t true false false = false := by
      unfold leaveB
      rw [decide_eq_false (show ¬ c.at_ ≤ t by omega)]; simp
    rw [e1, e2]
    exact ⟨q.h, q.se, (fun _ => ⟨b1, rfl, rfl⟩), (fun h => by omega), (fun h => by omega), (fun h => by omega), q.i⟩
  · obtain ⟨b1, b2, b3, rfl, rfl⟩ := q.c1 e
    have e2 : leaveB c t true false false = decide (c.at_ + c.pat = t) := by
      unfold leaveB
      rw [decide_eq_true b1]
      by_cases h : c.at_ + c.pat = t
      · rw [decide_eq_true h, decide_eq_true (b2 h.symm)]; rfl
      · rw [decide_eq_false h]; simp
    rw [e2]
    by_cases h : c.at_ + c.pat = t
    · rw [decide_eq_true h]
      cases hb : c.back with
      | true =>
        have e1 : leaveP t c x = ⟨2, x.seat⟩ := by unfold leaveP; rw [decide_eq_true e, decide_eq_true h, hb]; rfl
        rw [e1]
        exact ⟨.inr (.inr (.inl rfl)), q.se, (fun h => by cases h), (fun h => by cases h), (fun _ => ⟨b1, rfl, rfl⟩), (fun h => by cases h), fun _ => q.i rfl⟩
      | false =>
        have e1 : leaveP t c x = ⟨3, ⟨c.id, ⟨#[]⟩, 2, t, t⟩⟩ := by unfold leaveP; rw [decide_eq_true e, decide_eq_true h, hb]; rfl
        rw [e1]
        refine ⟨.inr (.inr (.inr rfl)), ?_, (fun h => by cases h), (fun h => by cases h), (fun h => by cases h), (fun _ => rfl), fun h => by cases h⟩
        show (⟨se.ca, se.ag, 2, t, t⟩ : SeV) = ⟨c.id, ⟨#[]⟩, 2, t, t⟩
        rw [q.se, q.i rfl]; rfl
    · rw [decide_eq_false h]
      have e1 : leaveP t c x = x := by unfold leaveP; rw [decide_eq_false h, Bool.and_false]; rfl
      rw [e1]
      exact ⟨q.h, q.se, (fun h => by omega), (fun _ => ⟨b1, by omega, rfl, rfl⟩), (fun h => by omega), (fun h => by omega), q.i⟩
  · obtain ⟨b1, rfl, rfl⟩ := q.c2 e
    have e1 : leaveP t c x = x := by unfold leaveP; rw [decide_eq_false (by omega)]; rfl
    have e2 : leaveB c t true true false = false := rfl
    rw [e1, e2]
    exact ⟨q.h, q.se, (fun h => by omega), (fun h => by omega), (fun _ => ⟨b1, rfl, rfl⟩), (fun h => by omega), q.i⟩
  · have hd := q.c3 e
    subst hd
    have e1 : leaveP t c x = x := by unfold leaveP; rw [decide_eq_false (by omega)]; rfl
    have e2 : leaveB c t true bk true = false := by cases bk <;> rfl
    rw [e1, e2]
    exact ⟨q.h, q.se, (fun h => by omega), (fun h => by omega), (fun h => by omega), (fun _ => rfl), fun h => by cases h⟩
theorem dk_in {a : AgV} {x : DkV} {d : Int × Int} (q : DkSim (t - 1) x d) : DkSim t (endP t a x) d := by
  have h1 := q.k0; have h2 := q.e1
  unfold endP
  by_cases h : x.tk = t ∧ 0 < t
  · obtain ⟨e1, e2⟩ := h
    rw [decide_eq_true e1, decide_eq_true e2, if_pos (show (true && true) = true from rfl)]
    obtain ⟨b1, b2, b3, b4⟩ := q.tk (by omega)
    exact ⟨q.n, q.n0, Int.le_refl _, (show 0 ≤ t by omega), (show t ≤ max t 0 by omega), (fun _ _ => ⟨b2.trans e1, Int.le_refl _⟩), fun e => absurd rfl e⟩
  · rw [if_neg (by
      rw [Bool.and_eq_true, decide_eq_true_eq, decide_eq_true_eq]; exact h)]
    refine ⟨q.n, q.n0, q.k0, q.e0, by omega, (fun e1 e2 => ?_), fun e => ?_⟩
    · have := q.fr e1 e2; exact ⟨this.1, by omega⟩
    · obtain ⟨b1, b2, b3, b4⟩ := q.tk e; exact ⟨b1, b2, by omega, b4⟩
theorem Sim.mid (h : Sim A C p r (t - 1)) (hC : ∀ c ∈ C, CaN c ∧ CaOk c) : Mid A C ⟨updA (endP t) A p.dk, updA (comeP t) C (updA (leaveP t) C p.wt), p.last⟩ (leaveR C t false C.length r) t := by
  have g := leaveR_get (C := C) (t := t) false r h.sl h.bl h.nl C.length (Nat.le_refl _)
  refine ⟨by rw [updA_len]; exact h.dl, by rw [g.ds]; exact h.rl, by rw [updA_len, updA_len]; exact h.wl, g.sl.trans h.sl, g.bl.trans h.bl, g.nl.trans h.nl, g.last.trans h.l, fun i x hx => ?_, fun i c x hc hx => ?_⟩
  · have hi : i < A.length := by have := (List.getElem?_eq_some_iff.1 hx).1; rw [updA_len, h.dl] at this; exact this
    obtain ⟨a, ha⟩ : ∃ a, A[i]? = some a := ⟨_, List.getElem?_eq_getElem hi⟩
    obtain ⟨hy, q⟩ := h.dk hi
    change (updA (endP t) A p.dk)[i]? = some x at hx
    rw [updA_get _ ha hy] at hx
    injection hx with hx
    subst hx
    rw [g.ds]
    exact dk_in q
  · have hi : i < C.length := (List.getElem?_eq_some_iff.1 hc).1
    obtain ⟨hy, q⟩ := h.wt hc
    change (updA (comeP t) C (updA (leaveP t) C p.wt))[i]? = some x at hx
    rw [updA_get _ hc (updA_get _ hc hy)] at hx
    injection hx with hx
    subst hx
    rw [g.bk i c hc, g.dn i c hc, g.se i c hc, decide_eq_true hi, Bool.true_and, Bool.true_and]
    exact wt_in (hC c (mem_of_get hc)).1 q
theorem Mid.sim (h : Mid A C p r t) : Sim A C ⟨p.dk, updA (leaveP t) C p.wt, p.last⟩ (leaveR C t true C.length r) t := by
  have g := leaveR_get (C := C) (t := t) true r h.sl h.bl h.nl C.length (Nat.le_refl _)
  refine ⟨h.dl, by rw [g.ds]; exact h.rl, by rw [updA_len]; exact h.wl, g.sl.trans h.sl, g.bl.trans h.bl, g.nl.trans h.nl, g.last.trans h.l, fun i x hx => by rw [g.ds]; exact h.d i x hx, fun i c x hc hx => ?_⟩
  have hi : i < C.length := (List.getElem?_eq_some_iff.1 hc).1
  obtain ⟨hy, q⟩ := h.wt hc
  change (updA (leaveP t) C p.wt)[i]? = some x at hx
  rw [updA_get _ hc hy] at hx
  injection hx with hx
  subst hx
  rw [g.bk i c hc, g.dn i c hc, g.se i c hc, decide_eq_true hi, Bool.true_and, Bool.true_and]
  exact wt_out q
/-! Who is in line, who is chosen. -/
theorem mid_inL {c : CaV} {x : WtV} {bk dn : Bool} {se : SeV} (q : WtMid t c x bk dn se) : inL x = (decide (c.at_ ≤ t) && !dn) := by
  unfold inL
  rcases q.h with e | e | e | e
  · obtain ⟨b1, _, rfl⟩ := q.c0 e
    rw [decide_eq_false (show ¬ x.how = 1 by omega), decide_eq_false (show ¬ x.how = 2 by omega), decide_eq_false (show ¬ c.at_ ≤ t by omega)]; rfl
  · obtain ⟨b1, _, _, _, rfl⟩ := q.c1 e
    rw [decide_eq_true e, decide_eq_true b1]; rfl
  · obtain ⟨b1, _, rfl⟩ := q.c2 e
    rw [decide_eq_true e, decide_eq_true b1, Bool.or_true]; rfl
  · rw [q.c3 e, decide_eq_false (show ¬ x.how = 1 by omega), decide_eq_false (show ¬ x.how = 2 by omega)]; simp
theorem sim_inL {c : CaV} {x : WtV} {bk dn : Bool} {se : SeV} (q : WtSim t c x bk dn se) : inL x = (decide (c.at_ ≤ t) && !dn) := by
  unfold inL
  rcases q.h with e | e | e | e
  · obtain ⟨b1, _, rfl⟩ := q.c0 e
    rw [decide_eq_false (show ¬ x.how = 1 by omega), decide_eq_false (show ¬ x.how = 2 by omega), decide_eq_false (show ¬ c.at_ ≤ t by omega)]; rfl
  · obtain ⟨b1, _, _, rfl⟩ := q.c1 e
    rw [decide_eq_true e, decide_eq_true b1]; rfl
  · obtain ⟨b1, _, rfl⟩ := q.c2 e
    rw [decide_eq_true e, decide_eq_true b1, Bool.or_true]; rfl
  · rw [q.c3 e, decide_eq_false (show ¬ x.how = 1 by omega), decide_eq_false (show ¬ x.how = 2 by omega)]; simp
theorem line_of {W : CaV → WtV → Bool → Bool → SeV → Prop} (h : Like W A C p r t) (hW : ∀ c x bk dn se, W c x bk dn se → inL x = (decide (c.at_ ≤ t) && !dn)) : lineP s C p.wt t = lineR s C r.dn t := by
  have key : ∀ k, k ≤ C.length → rawP p.wt k = lineRaw C r.dn t k := by
    intro k
    induction k with
    | zero => intro _; rfl
    | succ k ih =>
      intro hk
      obtain ⟨c, hc⟩ : ∃ c, C[k]? = some c := ⟨_, List.getElem?_eq_getElem (by omega)⟩
      obtain ⟨hx, q⟩ := h.wt hc
      rw [rawP_succ hx, lineRaw_succ hc, ih (by omega), hW _ _ _ _ _ q]
  unfold lineP lineR
  rw [h.wl, key _ (Nat.le_refl _)]
theorem free_same {a : AgV} {x : DkV} {d : Int × Int} (q : DkSim t x d) (hw : 0 ≤ a.wrap) : freeP a x t = freeB a d t := by
  have h1 := q.n; have h2 := q.n0
  unfold freeP freeB
  by_cases hk : x.tk = 0
  · rw [decide_eq_true hk, Bool.true_and]
    by_cases hn : x.n = 0
    · rw [decide_eq_true hn, decide_eq_true (show d.1 = 0 by omega)]; rfl
    · rw [decide_eq_false hn, decide_eq_false (show ¬ d.1 = 0 by omega), (q.fr hk (by omega)).1]
  · obtain ⟨b1, b2, b3, b4⟩ := q.tk hk
    rw [decide_eq_false hk, Bool.false_and, decide_eq_false (show ¬ d.1 = 0 by omega), decide_eq_false (show ¬ d.2 + a.wrap ≤ t by omega)]; simp
theorem since_same {a : AgV} {x : DkV} {d : Int × Int} (q : DkSim t x d) (hk : x.tk = 0) : sinceP a x = if 0 < d.1 then d.2 else a.fr := by
  have h1 := q.n; have h2 := q.n0
  unfold sinceP
  by_cases hn : x.n = 0
  · rw [if_pos hn, if_neg (by omega)]
  · rw [if_neg hn, if_pos (by omega), (q.fr hk (by omega)).1]
theorem better_same {kind : Int} {a b : AgV} {x y : DkV} {d e : Int × Int} {last skill : ByteArray} (q : DkSim t x d) (q2 : DkSim t y e) (hx : x.tk = 0) (hy : y.tk = 0) :
    betterP kind a x b y last skill = decide (ptsR kind a d last skill < ptsR kind b e last skill) := by
  unfold betterP ptsR
  by_cases k1 : kind = 1
  · rw [if_pos k1, if_pos k1, if_pos k1, since_same q hx, since_same q2 hy]
  · rw [if_neg k1, if_neg k1, if_neg k1]
    by_cases k2 : kind = 2
    · rw [if_pos k2, if_pos k2, if_pos k2, q.n, q2.n]
    · rw [if_neg k2, if_neg k2, if_neg k2]
      by_cases k3 : kind = 3
      · rw [if_pos k3, if_pos k3, if_pos k3]
        by_cases h : lvl b.sk skill < lvl a.sk skill
        · rw [decide_eq_true h, decide_eq_true (by omega)]
        · rw [decide_eq_false h, decide_eq_false (by omega)]
      · rw [if_neg k3, if_neg k3, if_neg k3]
        cases leS a.key last <;> cases leS b.key last <;> rfl
theorem desk_same {W : CaV → WtV → Bool → Bool → SeV → Prop} (h : Like W A C p r t) (hA : ∀ a ∈ A, AgN a ∧ a.key.size ≤ 1000) (c : CaV) : ∀ k, k ≤ A.length →
    deskP s A p.dk p.last c t k = (chooseR s A r.ds r.last c t k).1 ∧ ((chooseR s A r.ds r.last c t k).1 = -1 ∨ ∃ (i : Nat) (b : AgV), i < k ∧ (chooseR s A r.ds r.last c t k).1 = (i : Int) ∧ A[i]? = some b ∧ (dkAt p.dk i).tk = 0 ∧ (chooseR s A r.ds r.last c t k).2 = ptsR s.kind b (dAt r.ds i) r.last c.skill) := by
  intro k
  induction k with
  | zero => intro _; exact ⟨rfl, .inl rfl⟩
  | succ k ih =>
    intro hk
    obtain ⟨h1, h2⟩ := ih (by omega)
    obtain ⟨a, ha⟩ : ∃ a, A[k]? = some a := ⟨_, List.getElem?_eq_getElem (by omega)⟩
    obtain ⟨hx, q⟩ := h.dk (show k < A.length by omega)
    have hw := (hA a (mem_of_get ha)).1.2.2.2.1
    rw [deskP_succ ha, chooseR_succ ha, free_same q hw, h1]
    rw [Bool.and_comm (freeB a (dAt r.ds k) t)]
    by_cases hf : (ableB a c && freeB a (dAt r.ds k) t) = true
    · rw [if_pos hf, if_pos hf]
      have hk0 : (dkAt p.dk k).tk = 0 := by
        rw [Bool.and_eq_true] at hf
        have h3 := hf.2
        rw [← free_same q hw] at h3
        unfold freeP at h3
        rw [Bool.and_eq_true] at h3
        exact of_decide_eq_true h3.1
      have hb : (decide ((chooseR s A r.ds r.last c t k).1 < 0) || (A[((chooseR s A r.ds r.last c t k).1).toNat]?).elim false (fun b => betterP s.kind a (dkAt p.dk k) b (dkAt p.dk ((chooseR s A r.ds r.last c t k).1).toNat) p.last c.skill)) = (decide ((chooseR s A r.ds r.last c t k).1 < 0) || decide (ptsR s.kind a (dAt r.ds k) r.last c.skill < (chooseR s A r.ds r.last c t k).2)) := by
        rcases h2 with e | ⟨i, b, e1, e2, e3, e4, e5⟩
        · rw [decide_eq_true (show (chooseR s A r.ds r.last c t k).1 < 0 by omega)]; rfl
        · rw [e2, decide_eq_false (show ¬ ((i : Int) < 0) by omega), Int.toNat_natCast, e3, e5]
          show (false || betterP s.kind a (dkAt p.dk k) b (dkAt p.dk i) p.last c.skill) = _
          rw [← h.l, better_same q (h.dk (show i < A.length by omega)).2 hk0 e4]
      rw [hb]
      split
      · exact ⟨rfl, .inr ⟨k, a, by omega, rfl, ha, hk0, rfl⟩⟩
      · refine ⟨rfl, h2.elim Or.inl fun e => Or.inr ?_⟩
        obtain ⟨i, b, e1, e2⟩ := e
        exact ⟨i, b, by omega, e2⟩
    · rw [if_neg hf, if_neg hf]
      refine ⟨rfl, h2.elim Or.inl fun e => Or.inr ?_⟩
      obtain ⟨i, b, e1, e2⟩ := e
      exact ⟨i, b, by omega, e2⟩
end
end
end Go.Proofs.YtpildcnoghojpaaGreatDoor
/- Plain Lean: the program's whole play is the document's. Conditions: none. -/
namespace Go.Proofs.YtpildcnoghojpaaGreatDoor
section
open Go.RowKit
section
variable {s : StyV} {A : List AgV} {C : List CaV} {p : PlS} {r : RoS} {t t' : Int}
theorem dAt_set (l : List (Int × Int)) (i j : Nat) (x : Int × Int) (h : i < l.length) : dAt (l.set i x) j = if i = j then x else dAt l j := by
  unfold dAt
  by_cases e : i = j
  · subst e; rw [List.getElem?_set_self h, if_pos rfl]; rfl
  · rw [List.getElem?_set_ne e, if_neg e]
/-- A caller is given to a desk that is free. -/
theorem Mid.given (h : Mid A C p r t) {i k : Nat} {c : CaV} {a : AgV} (hc : C[i]? = some c) (ha : A[k]? = some a) (hcn : CaN c) (hd : bAt r.dn i = false) (hat : c.at_ ≤ t) (hk0 : (dkAt p.dk k).tk = 0) (t0 : 0 ≤ t) : Mid A C (givenP A C p t i k) (givenR A C r t i k) t := by
  have hi : i < C.length := (List.getElem?_eq_some_iff.1 hc).1
  have hk : k < A.length := (List.getElem?_eq_some_iff.1 ha).1
  obtain ⟨hx, qx⟩ := h.dk hk
  obtain ⟨hy, qy⟩ := h.wt hc
  have htalk := hcn.2.2.2.2.1
  have eP : givenP A C p t i k = ⟨p.dk.set k ⟨t + c.talk, (dkAt p.dk k).en, (dkAt p.dk k).n + 1⟩, p.wt.set i ⟨3, ⟨c.id, a.key, if (wtAt p.wt i).how = 2 then 3 else 1, t, t + c.talk⟩⟩, a.key⟩ := by
    unfold givenP; rw [hc, ha]; rfl
  have eR : givenR A C r t i k = ⟨r.ds.set k ((dAt r.ds k).1 + 1, t + c.talk), r.se.set i ⟨c.id, a.key, if bAt r.bk i then 3 else 1, t, t + c.talk⟩, r.bk, r.dn.set i true, a.key⟩ := by
    unfold givenR; rw [hc, ha]; rfl
  rw [eP, eR]
  refine ⟨by show (p.dk.set _ _).length = _; rw [List.length_set]; exact h.dl, by show (r.ds.set _ _).length = _; rw [List.length_set]; exact h.rl, by show (p.wt.set _ _).length = _; rw [List.length_set]; exact h.wl, by show (r.se.set _ _).length = _; rw [List.length_set]; exact h.sl, h.bl, by show (r.dn.set _ _).length = _; rw [List.length_set]; exact h.nl, rfl, fun j x hj => ?_, fun j d x hdj hj => ?_⟩
  · show DkSim t x (dAt (r.ds.set k ((dAt r.ds k).1 + 1, t + c.talk)) j)
    change (p.dk.set k _)[j]? = some x at hj
    rw [dAt_set _ _ _ _ (by rw [h.rl]; exact hk)]
    by_cases e : k = j
    · subst e
      rw [List.getElem?_set_self (by rw [h.dl]; exact hk)] at hj
      injection hj with hj
      subst hj
      rw [if_pos rfl]
      have e1 := qx.e1
      have n1 := qx.n; have n0 := qx.n0
      refine ⟨(show (dAt r.ds k).1 + 1 = (dkAt p.dk k).n + 1 by omega), (show 0 ≤ (dkAt p.dk k).n + 1 by omega), (show 0 ≤ t + c.talk by omega), qx.e0, qx.e1, (fun e _ => ?_), fun _ => ⟨(show 0 < (dkAt p.dk k).n + 1 by omega), rfl, (show t < t + c.talk by omega), (show (dkAt p.dk k).en ≤ t + c.talk by omega)⟩⟩
      change t + c.talk = 0 at e
      omega
    · rw [List.getElem?_set_ne e] at hj
      rw [if_neg e]
      exact h.d j x hj
  · change (p.wt.set i _)[j]? = some x at hj
    show WtMid t d x (bAt r.bk j) (bAt (r.dn.set i true) j) (seAtR (r.se.set i ⟨c.id, a.key, if bAt r.bk i then 3 else 1, t, t + c.talk⟩) j)
    rw [bAt_set _ _ _ _ (by rw [h.nl]; exact hi), seAtR_set _ _ _ _ (by rw [h.sl]; exact hi)]
    by_cases e : i = j
    · subst e
      rw [hc] at hdj
      injection hdj with hdj
      subst hdj
      rw [List.getElem?_set_self (by rw [h.wl]; exact hi)] at hj
      injection hj with hj
      subst hj
      rw [if_pos rfl, if_pos rfl]
      have hb : (if bAt r.bk i then (3 : Int) else 1) = if (wtAt p.wt i).how = 2 then 3 else 1 := by
        rcases qy.h with e | e | e | e
        · rw [(qy.c0 e).2.1, if_neg (show ¬ (wtAt p.wt i).how = 2 by omega)]; rfl
        · rw [(qy.c1 e).2.2.2.1, if_neg (show ¬ (wtAt p.wt i).how = 2 by omega)]; rfl
        · rw [(qy.c2 e).2.1, if_pos e]; rfl
        · rw [qy.c3 e] at hd; cases hd
      refine ⟨.inr (.inr (.inr rfl)), ?_, (fun h => by cases h), (fun h => by cases h), (fun h => by cases h), (fun _ => rfl), fun h => by cases h⟩
      show (⟨c.id, a.key, if bAt r.bk i then 3 else 1, t, t + c.talk⟩ : SeV) = ⟨c.id, a.key, if (wtAt p.wt i).how = 2 then 3 else 1, t, t + c.talk⟩
      rw [hb]
    · rw [List.getElem?_set_ne e] at hj
      rw [if_neg e, if_neg e]
      exact h.w j d x hdj hj
theorem Mid.giveL (h : Mid A C p r t) (hC : ∀ c ∈ C, CaN c ∧ CaOk c) (hA : ∀ a ∈ A, AgN a ∧ a.key.size ≤ 1000) (t0 : 0 ≤ t) (l : List Nat) (hl : ∀ i ∈ l, bAt r.dn i = false ∧ ∃ c, C[i]? = some c ∧ c.at_ ≤ t) :
    (givePL s A C p t l = none ∧ giveL s A C r t l = none) ∨ ∃ p' r', givePL s A C p t l = some p' ∧ giveL s A C r t l = some r' ∧ Mid A C p' r' t := by
  induction l with
  | nil => exact .inl ⟨rfl, rfl⟩
  | cons i l ih =>
    obtain ⟨hd, c, hc, hat⟩ := hl i (List.mem_cons_self ..)
    have h2 := ih fun j hj => hl j (List.mem_cons_of_mem _ hj)
    obtain ⟨e1, e2⟩ := desk_same (s := s) h hA c A.length (Nat.le_refl _)
    have eP : givePL s A C p t (i :: l) = if chosenP s A p c t < 0 then givePL s A C p t l else some (givenP A C p t i (chosenP s A p c t).toNat) := by
      show (C[i]?).elim _ _ = _; rw [hc]; rfl
    have eR : RoS → True := fun _ => trivial
    have eR : Go.Proofs.YtpildcnoghojpaaGreatDoor.giveL s A C r t (i :: l) = if chosenR s A r c t < 0 then Go.Proofs.YtpildcnoghojpaaGreatDoor.giveL s A C r t l else some (givenR A C r t i (chosenR s A r c t).toNat) := by
      show (C[i]?).elim _ _ = _; rw [hc]; rfl
    have ec : chosenP s A p c t = chosenR s A r c t := e1
    rw [eP, eR, ec]
    by_cases hneg : chosenR s A r c t < 0
    · rw [if_pos hneg, if_pos hneg]; exact h2
    · rw [if_neg hneg, if_neg hneg]
      right
      refine ⟨_, _, rfl, rfl, ?_⟩
      rcases e2 with e | ⟨k, a, f1, f2, f3, f4, f5⟩
      · change chosenR s A r c t = -1 at e; omega
      · have f6 : chosenR s A r c t = (k : Int) := f2
        rw [f6, Int.toNat_natCast]
        exact h.given hc f3 (hC c (mem_of_get hc)).1 hd hat f4 t0
theorem Mid.gives (hC : ∀ c ∈ C, CaN c ∧ CaOk c) (hA : ∀ a ∈ A, AgN a ∧ a.key.size ≤ 1000) (t0 : 0 ≤ t) : ∀ (f : Nat) (p : PlS) (r : RoS), Mid A C p r t → Mid A C (givesP s A C t f p) (givesR s A C t f r) t := by
  intro f
  induction f with
  | zero => intro p r h; exact h
  | succ f ih =>
    intro p r h
    have hline : lineP s C p.wt t = lineR s C r.dn t := line_of h fun _ _ _ _ _ q => mid_inL q
    have h2 := h.giveL (s := s) hC hA t0 (lineR s C r.dn t) (fun i hi => by obtain ⟨_, b2, c, hc, hat⟩ := lineR_mem hi; exact ⟨b2, c, hc, hat⟩)
    rcases h2 with ⟨e1, e2⟩ | ⟨p', r', e1, e2, e3⟩
    · have g1 : giveP s A C p t = none := by unfold giveP; rw [hline]; exact e1
      have g2 : giveR s A C r t = none := e2
      rw [givesP_none g1, givesR_none g2]; exact h
    · have g1 : giveP s A C p t = some p' := by unfold giveP; rw [hline]; exact e1
      have g2 : giveR s A C r t = some r' := e2
      rw [givesP_some g1, givesR_some g2]; exact ih p' r' e3
theorem gives_end (hC : ∀ c ∈ C, CaN c ∧ CaOk c) (hA : ∀ a ∈ A, AgN a ∧ a.key.size ≤ 1000) (t0 : -1 ≤ t) : ∀ (f : Nat) (r : RoS), RoOk A C r → C.length ≤ f + r.dn.count true → giveR s A C (givesR s A C t f r) t = none := by
  intro f
  induction f with
  | zero =>
    intro r h hc
    rw [Nat.zero_add] at hc
    exact done_none h hc
  | succ f ih =>
    intro r h hc
    cases e : giveR s A C r t with
    | none => rw [givesR_none e]; exact e
    | some r' =>
      obtain ⟨h1, h2, _⟩ := giveR_ok h hC hA t0 e
      rw [givesR_some e]
      exact ih r' h1 (by omega)
theorem Sim.step (h : Sim A C p r (t - 1)) (hok : RoOk A C r) (hC : ∀ c ∈ C, CaN c ∧ CaOk c) (hA : ∀ a ∈ A, AgN a ∧ a.key.size ≤ 1000) (t0 : 0 ≤ t) (t1 : t ≤ 2000000000000) : Sim A C (momP s A C p t) (stepR s A C r t) t ∧ Quiet A C (stepR s A C r t) t := by
  have m1 := h.mid hC
  have m2 := Mid.gives (s := s) hC hA t0 C.length _ _ m1
  have ok1 := hok.leaveR (t := t) false (show -1 ≤ t by omega) t1 C.length (Nat.le_refl _)
  have e1 := gives_end (s := s) hC hA (show -1 ≤ t by omega) C.length _ ok1 (Nat.le_add_right _ _)
  refine ⟨m2.sim, ?_⟩
  have q := quiet_of e1
  have g := leaveR_get (C := C) (t := t) true (givesR s A C t C.length (Go.Proofs.YtpildcnoghojpaaGreatDoor.leaveR C t false C.length r)) m2.sl m2.bl m2.nl C.length (Nat.le_refl _)
  intro i k c a hc hd hat ha hab
  have ed : (stepR s A C r t).ds = (givesR s A C t C.length (Go.Proofs.YtpildcnoghojpaaGreatDoor.leaveR C t false C.length r)).ds := g.ds
  rw [ed]
  refine q i k c a hc ?_ hat ha hab
  have e2 := g.dn i c hc
  change bAt (stepR s A C r t).dn i = _ at e2
  rw [hd] at e2
  cases hb : bAt (givesR s A C t C.length (Go.Proofs.YtpildcnoghojpaaGreatDoor.leaveR C t false C.length r)).dn i with
  | false => rfl
  | true => rw [hb] at e2; simp at e2
/-! The document's play up to a moment. -/
def playU (s : StyV) (A : List AgV) (C : List CaV) (upto : Int) : Nat → RoS → Int → RoS
  | 0, st, _ => st
  | f + 1, st, at_ => ((nextsR A C st.ds at_)[0]?).elim st fun t => if t ≤ upto then playU s A C upto f (stepR s A C st t) t else st
theorem nexts_some {ds : List (Int × Int)} {after x : Int} (h : (nextsR A C ds after)[0]? = some x) : x ∈ timesR A C ds ∧ after < x ∧ ∀ y ∈ timesR A C ds, after < y → x ≤ y := by
  have h1 := nextsR_mem.1 (mem_of_get h)
  refine ⟨h1.1, h1.2, fun y hy hlt => ?_⟩
  have hm := nextsR_mem.2 ⟨hy, hlt⟩
  have hr : (nextsR A C ds after).Pairwise (· ≤ ·) := sortI_rise _
  revert h hm hr
  generalize nextsR A C ds after = l
  intro h hm hr
  cases l with
  | nil => cases h
  | cons z l =>
    injection h with h
    subst h
    rcases List.mem_cons.1 hm with rfl | hm
    · exact Int.le_refl _
    · exact (List.pairwise_cons.1 hr).1 y hm
theorem nexts_none {ds : List (Int × Int)} {after : Int} (h : (nextsR A C ds after)[0]? = none) : ∀ y ∈ timesR A C ds, ¬ after < y := by
  intro y hy hlt
  have hm := nextsR_mem.2 ⟨hy, hlt⟩
  revert h hm
  generalize nextsR A C ds after = l
  intro h hm
  cases l with
  | nil => cases hm
  | cons z l => cases h
theorem Sim.progIn (h : Sim A C p r t) {x : Int} (hx : x ∈ progT A C p) : x ∈ timesR A C r.ds := by
  rcases List.mem_append.1 hx with hx | hx
  · obtain ⟨i, c, hi, hc, hx⟩ := waT_mem hx
    refine List.mem_append_left _ (calT_has hc hi ?_)
    unfold waT1 at hx
    split at hx
    · exact .inl (by simpa using hx)
    · split at hx
      · exact .inr (by simpa using hx)
      · cases hx
  · obtain ⟨i, a, hi, ha, hx⟩ := dkT_mem hx
    refine List.mem_append_right _ (agT_has ha hi ?_)
    obtain ⟨_, q⟩ := h.dk hi
    have h1 := q.n; have h2 := q.n0; have h3 := q.k0
    unfold dkT1 at hx
    unfold agT1
    rcases List.mem_append.1 hx with hx | hx
    · split at hx
      · rename_i hk
        obtain ⟨b1, b2, _, _⟩ := q.tk (by omega)
        rw [if_pos (show 0 < (dAt r.ds i).1 by omega)]
        refine List.mem_cons_of_mem _ (List.mem_append_right _ ?_)
        rw [List.mem_singleton.1 hx, b2]
        exact List.mem_cons_self ..
      · cases hx
    · rcases List.mem_append.1 hx with hx | hx
      · split at hx
        · obtain ⟨m1, m2⟩ := h.max hi (show (dAt r.ds i).1 ≠ 0 by omega)
          rw [if_pos (show 0 < (dAt r.ds i).1 by omega)]
          refine List.mem_cons_of_mem _ (List.mem_append_right _ ?_)
          rw [List.mem_singleton.1 hx, ← m2]
          exact List.mem_cons_of_mem _ (List.mem_cons_self ..)
        · cases hx
      · rcases List.mem_cons.1 hx with rfl | hx
        · exact List.mem_cons_self ..
        · exact List.mem_cons_of_mem _ (List.mem_append_left _ hx)
/-- What both know at the end: the seats, and who is in line at the last moment. -/
def FinS (s : StyV) (C : List CaV) (u : Int) (p : PlS) (r : RoS) : Prop := r.se = p.wt.map (·.seat) ∧ lineP s C p.wt u = lineR s C r.dn u
theorem Like.seats {W : CaV → WtV → Bool → Bool → SeV → Prop} (h : Like W A C p r t) (hW : ∀ c x bk dn se, W c x bk dn se → se = x.seat) : r.se = p.wt.map (·.seat) := by
  apply List.ext_getElem?
  intro i
  rw [List.getElem?_map]
  by_cases hi : i < C.length
  · obtain ⟨c, hc⟩ : ∃ c, C[i]? = some c := ⟨_, List.getElem?_eq_getElem hi⟩
    obtain ⟨hx, q⟩ := h.wt hc
    obtain ⟨z, hz⟩ : ∃ z, r.se[i]? = some z := ⟨_, List.getElem?_eq_getElem (by rw [h.sl]; exact hi)⟩
    have e := hW _ _ _ _ _ q
    rw [seAtR_some hz] at e
    rw [hx, hz, e]; rfl
  · rw [List.getElem?_eq_none (by rw [h.sl]; omega), List.getElem?_eq_none (by rw [h.wl]; omega)]; rfl
theorem Sim.fin {u : Int} (h : Sim A C p r t) (htu : t ≤ u) (hn : ∀ x ∈ progT A C p, t < x → ¬ x ≤ u) : FinS s C u p r :=
  ⟨h.seats fun _ _ _ _ _ q => q.se, line_of (h.adv htu hn) fun _ _ _ _ _ q => sim_inL q⟩
theorem waB_false {wt : List WtV} {k : Nat} (h : waB wt k = false) {i : Nat} (hi : i < k) : (wtAt wt i).how ≠ 0 ∧ inL (wtAt wt i) = false := by
  refine ⟨fun e => ?_, ?_⟩
  · rw [waB_mem hi (.inl e)] at h; cases h
  · cases e : inL (wtAt wt i) with
    | false => rfl
    | true => rw [waB_mem hi (.inr e)] at h; cases h
theorem play_done {u : Int} (h : RoOk A C r) (hd : ∀ i, i < C.length → bAt r.dn i = true) : ∀ f t, playU s A C u f r t = r := by
  intro f
  induction f with
  | zero => intro t; rfl
  | succ f ih =>
    intro t
    show ((nextsR A C r.ds t)[0]?).elim r _ = r
    cases (nextsR A C r.ds t)[0]? with
    | none => rfl
    | some x =>
      show (if x ≤ u then _ else r) = r
      split
      · rw [step_done h hd]; exact ih x
      · rfl
theorem Sim.over {u : Int} (h : Sim A C p r t) (hw : waB p.wt C.length = false) : (∀ i, i < C.length → bAt r.dn i = true) ∧ FinS s C u p r := by
  have hd : ∀ i c, C[i]? = some c → (wtAt p.wt i).how = 3 ∧ bAt r.dn i = true := by
    intro i c hc
    obtain ⟨_, q⟩ := h.wt hc
    obtain ⟨h1, h2⟩ := waB_false hw (List.getElem?_eq_some_iff.1 hc).1
    unfold inL at h2
    rw [Bool.or_eq_false_iff] at h2
    have h3 := of_decide_eq_false h2.1
    have h4 := of_decide_eq_false h2.2
    have h5 : (wtAt p.wt i).how = 3 := by rcases q.h with e | e | e | e <;> omega
    exact ⟨h5, q.c3 h5⟩
  refine ⟨fun i hi => (hd i _ (List.getElem?_eq_getElem hi)).2, h.seats fun _ _ _ _ _ q => q.se, ?_⟩
  have e1 : ∀ k, k ≤ C.length → rawP p.wt k = [] ∧ lineRaw C r.dn u k = [] := by
    intro k
    induction k with
    | zero => intro _; exact ⟨rfl, rfl⟩
    | succ k ih =>
      intro hk
      obtain ⟨c, hc⟩ : ∃ c, C[k]? = some c := ⟨_, List.getElem?_eq_getElem (by omega)⟩
      obtain ⟨hx, _⟩ := h.wt hc
      obtain ⟨b1, b2⟩ := hd k c hc
      obtain ⟨i1, i2⟩ := ih (by omega)
      have e2 : inL (wtAt p.wt k) = false := by unfold inL; rw [b1]; rfl
      rw [rawP_succ hx, lineRaw_succ hc, i1, i2, e2, b2]
      simp
  unfold lineP lineR
  rw [h.wl, (e1 _ (Nat.le_refl _)).1, (e1 _ (Nat.le_refl _)).2]
theorem play_still {u : Int} (h : Sim A C p r t) (hq : Quiet A C r t) (hn : ∀ x ∈ progT A C p, t < x → ¬ x ≤ u) : ∀ f t', t ≤ t' → t' ≤ u → playU s A C u f r t' = r := by
  intro f
  induction f with
  | zero => intro t' _ _; rfl
  | succ f ih =>
    intro t' h1 h2
    show ((nextsR A C r.ds t')[0]?).elim r _ = r
    cases hx : (nextsR A C r.ds t')[0]? with
    | none => rfl
    | some x =>
      show (if x ≤ u then _ else r) = r
      split
      · rename_i hxu
        have hlt := (nexts_some hx).2.1
        have hn2 : ∀ y ∈ progT A C p, t < y → ¬ y ≤ x := fun y hy hl hyx => hn y hy hl (by omega)
        rw [(h.adv (show t ≤ x by omega) hn2).noop (hq.adv h (show t ≤ x by omega) hn2)]
        exact ih x (by omega) hxu
      · rfl
theorem ply_same {u : Int} (hC : ∀ c ∈ C, CaN c ∧ CaOk c) (hA : ∀ a ∈ A, AgN a ∧ a.key.size ≤ 1000) : ∀ (f F : Nat) (p : PlS) (r : RoS) (tp t : Int), Sim A C p r t → Quiet A C r t → RoOk A C r → DsB r.ds →
    tp ≤ t → -1 ≤ tp → t ≤ u → (∀ x ∈ progT A C p, tp < x → ¬ x ≤ t) → (345859200000 - t).toNat < f → (345859200000 - tp).toNat < F → FinS s C u (plyP s A C u F p tp) (playU s A C u f r t) := by
  intro f
  induction f with
  | zero => intro F p r tp t _ _ _ _ _ _ _ _ h; omega
  | succ f ih =>
    intro F p r tp t h hq hok hb htp h1 htu hno hf hF
    obtain ⟨F, rfl⟩ : ∃ F', F = F' + 1 := ⟨F - 1, by omega⟩
    have eP : plyP s A C u (F + 1) p tp = (nextP A C p tp).elim p fun x => if x ≤ u then plyP s A C u F (momP s A C p x) x else p := rfl
    cases hw : waB p.wt C.length with
    | false =>
      have e : plyP s A C u (F + 1) p tp = p := by
        rw [eP]; unfold nextP; rw [hw]; rfl
      obtain ⟨g1, g2⟩ := h.over (s := s) (u := u) hw
      rw [e, play_done hok g1]; exact g2
    | true =>
      have e0 : nextP A C p tp = minL tp (progT A C p) := by unfold nextP; rw [hw]; rfl
      rw [e0] at eP
      by_cases hex : ∃ t2, minL tp (progT A C p) = some t2 ∧ t2 ≤ u
      · obtain ⟨t2, hm, ht2⟩ := hex
        obtain ⟨g1, g2, g3⟩ := minL_some hm
        have ht : t < t2 := by
          have := hno t2 g2 g1
          omega
        have hin := h.progIn g2
        have eR : playU s A C u (f + 1) r t = ((nextsR A C r.ds t)[0]?).elim r fun x => if x ≤ u then playU s A C u f (stepR s A C r x) x else r := rfl
        cases hx : (nextsR A C r.ds t)[0]? with
        | none => exact absurd ht (nexts_none hx t2 hin)
        | some t1 =>
          obtain ⟨k1, k2, k3⟩ := nexts_some hx
          have hle := k3 t2 hin ht
          rw [hx] at eR
          have eR2 : playU s A C u (f + 1) r t = playU s A C u f (stepR s A C r t1) t1 := by
            rw [eR]
            show (if t1 ≤ u then _ else r) = _
            rw [if_pos (show t1 ≤ u by omega)]
          rw [eR2]
          have hbd := (timesR_bd hok hb hC hA t1 k1)
          by_cases heq : t1 = t2
          · subst heq
            have eP2 : plyP s A C u (F + 1) p tp = plyP s A C u F (momP s A C p t1) t1 := by
              rw [eP, hm]
              show (if t1 ≤ u then _ else p) = _
              rw [if_pos ht2]
            rw [eP2]
            have hadv : Sim A C p r (t1 - 1) := h.adv (show t ≤ t1 - 1 by omega) fun y hy hl hy2 => by
              have := g3 y hy (by omega)
              omega
            have t0 : 0 ≤ t1 := by omega
            obtain ⟨s1, s2⟩ := hadv.step (s := s) hok hC hA t0 (by omega)
            obtain ⟨o1, o2⟩ := stepR_ok (s := s) hok hb hC hA (show -1 ≤ t1 by omega) (show t1 ≤ 2000000000000 by omega)
            exact ih F _ _ t1 t1 s1 s2 o1 o2 (Int.le_refl _) (by omega) (by omega) (fun x _ a b => by omega) (by omega) (by omega)
          · have hn2 : ∀ y ∈ progT A C p, t < y → ¬ y ≤ t1 := fun y hy hl hy2 => by
              have := g3 y hy (by omega)
              omega
            rw [(h.adv (show t ≤ t1 by omega) hn2).noop (hq.adv h (show t ≤ t1 by omega) hn2)]
            exact ih (F + 1) p r tp t1 (h.adv (show t ≤ t1 by omega) hn2) (hq.adv h (show t ≤ t1 by omega) hn2) hok hb (by omega) h1 (by omega) (fun y hy hl hy2 => by
              have := g3 y hy hl
              omega) (by omega) hF
      · have hstop : ∀ x ∈ progT A C p, tp < x → ¬ x ≤ u := by
          intro x hx hl hxu
          cases hm : minL tp (progT A C p) with
          | none => exact minL_none hm x hx hl
          | some t2 =>
            obtain ⟨g1, g2, g3⟩ := minL_some hm
            have := g3 x hx hl
            exact hex ⟨t2, hm, by omega⟩
        have e : plyP s A C u (F + 1) p tp = p := by
          rw [eP]
          cases hm : minL tp (progT A C p) with
          | none => rfl
          | some t2 =>
            show (if t2 ≤ u then _ else p) = p
            rw [if_neg fun h => hex ⟨t2, hm, h⟩]
        have hn : ∀ x ∈ progT A C p, t < x → ¬ x ≤ u := fun x hx hl => hstop x hx (by omega)
        rw [e, play_still h hq hn _ t (Int.le_refl _) htu]
        exact h.fin htu hn
theorem sim_new (hC : ∀ c ∈ C, CaN c ∧ CaOk c) : Sim A C (newP A C) (newR A C) (-1) ∧ Quiet A C (newR A C) (-1) := by
  refine ⟨⟨by simp [newP], by simp [newR], by simp [newP], by simp [newR], by simp [newR], by simp [newR], rfl, fun i x hx => ?_, fun i c x hc hx => ?_⟩, fun i k c a hc _ hat _ _ => ?_⟩
  · change (List.replicate A.length _)[i]? = some x at hx
    have hi := (List.getElem?_eq_some_iff.1 hx).1
    rw [List.length_replicate] at hi
    rw [List.getElem?_replicate, if_pos hi] at hx
    injection hx with hx
    subst hx
    have e : dAt (newR A C).ds i = (0, 0) := dAt_some (by show (List.replicate A.length _)[i]? = _; rw [List.getElem?_replicate, if_pos hi])
    rw [e]
    exact ⟨rfl, by decide, by decide, by decide, by decide, (fun _ h => by cases h), fun h => absurd rfl h⟩
  · have hi := (List.getElem?_eq_some_iff.1 hc).1
    change (C.map _)[i]? = some x at hx
    rw [List.getElem?_map, hc] at hx
    injection hx with hx
    subst hx
    have e1 : bAt (newR A C).bk i = false := bAt_some (by show (List.replicate C.length false)[i]? = _; rw [List.getElem?_replicate, if_pos hi])
    have e2 : bAt (newR A C).dn i = false := bAt_some (by show (List.replicate C.length false)[i]? = _; rw [List.getElem?_replicate, if_pos hi])
    have e3 : seAtR (newR A C).se i = seat0 c := seAtR_some (by show (C.map _)[i]? = _; rw [List.getElem?_map, hc]; rfl)
    rw [e1, e2, e3]
    have := (hC c (mem_of_get hc)).1.1
    exact ⟨.inl rfl, rfl, (fun _ => ⟨by omega, rfl, rfl⟩), (fun h => by cases h), (fun h => by cases h), (fun h => by cases h), fun _ => rfl⟩
  · have := (hC c (mem_of_get hc)).1.1
    omega
/-- The program's play up to a moment is the document's. -/
theorem plyU_new {u : Int} (hu : -1 ≤ u) (hC : ∀ c ∈ C, CaN c ∧ CaOk c) (hA : ∀ a ∈ A, AgN a ∧ a.key.size ≤ 1000) : FinS s C u (plyP s A C u 345859200002 (newP A C) (-1)) (playU s A C u 345859200002 (newR A C) (-1)) := by
  obtain ⟨h1, h2⟩ := sim_new (A := A) hC
  exact ply_same hC hA _ _ _ _ _ _ h1 h2 (RoOk.new fun c hc => (hC c hc).2) (fun d hd => by
    have := List.eq_of_mem_replicate (show d ∈ List.replicate A.length ((0 : Int), (0 : Int)) from hd)
    rw [this]; show (0 : Int) ≤ _; omega) (Int.le_refl _) (Int.le_refl _) hu (fun x _ a b => by omega) (by omega) (by omega)
theorem playU_all {u : Int} (hu : 345859200000 ≤ u) (hC : ∀ c ∈ C, CaN c ∧ CaOk c) (hA : ∀ a ∈ A, AgN a ∧ a.key.size ≤ 1000) : ∀ (f : Nat) (r : RoS) (t : Int), RoOk A C r → DsB r.ds → playU s A C u f r t = playR s A C f r t := by
  intro f
  induction f with
  | zero => intro r t _ _; rfl
  | succ f ih =>
    intro r t hok hb
    show ((nextsR A C r.ds t)[0]?).elim r _ = ((nextsR A C r.ds t)[0]?).elim r _
    cases hx : (nextsR A C r.ds t)[0]? with
    | none => rfl
    | some x =>
      have hbd := timesR_bd hok hb hC hA x (nexts_some hx).1
      show (if x ≤ u then _ else r) = playR s A C f (stepR s A C r x) x
      rw [if_pos (by omega)]
      obtain ⟨o1, o2⟩ := stepR_ok (s := s) hok hb hC hA (show -1 ≤ x by omega) (show x ≤ 2000000000000 by omega)
      exact ih _ _ o1 o2
theorem ply_all {u : Int} (hu : 345859200000 ≤ u) (hC : ∀ c ∈ C, CaN c ∧ CaOk c) (hA : ∀ a ∈ A, AgN a ∧ a.key.size ≤ 1000) : (plyP s A C u 345859200002 (newP A C) (-1)).wt.map (·.seat) = (playOf s A C).se := by
  have h := (plyU_new (s := s) (u := u) (by omega) hC hA).1
  rw [← h]
  unfold playOf
  rw [playU_all hu hC hA _ _ _ (RoOk.new fun c hc => (hC c hc).2) (fun d hd => by
    have := List.eq_of_mem_replicate (show d ∈ List.replicate A.length ((0 : Int), (0 : Int)) from hd)
    rw [this]; show (0 : Int) ≤ _; omega)]
end
end
end Go.Proofs.YtpildcnoghojpaaGreatDoor
/- Plain Lean: bounds hold at the end of a play. Conditions: none. -/
namespace Go.Proofs.YtpildcnoghojpaaGreatDoor
section
open Go.RowKit

end
end Go.Proofs.YtpildcnoghojpaaGreatDoor
/- A room of the document as it lies in memory: its block, and four slices of the call's own. Conditions: none. -/
namespace Go.Proofs.YtpildcnoghojpaaGreatDoor
section
open Go.RowKit

/-- Where a room and its slices lie. -/
structure RoC where
  g : Nat
  aA : Option Addr
  ac : Nat
  cA : Option Addr
  cc : Nat
  dA : Option Addr
  dc : Nat
  sA : Option Addr
  sc : Nat
  bA : Option Addr
  bc : Nat
  nA : Option Addr
  nc : Nat
section
variable {w w' : World} {lo m n : Nat} {R : RoC} {s : StyV} {st : RoS}
end
end
end Go.Proofs.YtpildcnoghojpaaGreatDoor
/- Contracts of the room's free and rank, and of the order of those in line. Conditions: none. -/
namespace Go.Proofs.YtpildcnoghojpaaGreatDoor
section
open Go.RowKit

theorem Tryz.seT : StructT Tryz.prog 39 5 := ⟨_, Tryz.underlying39, rfl, by kernel_rfl⟩
section
variable {wb w w' : World} {R : RoC} {s : StyV} {A : List AgV} {C : List CaV} {st : RoS}
end
theorem tdiv_bd {a b : Int} (ha : -1000000000000 ≤ a) (ha2 : a ≤ 1000000000000) (hb : 0 < b) : -1000000000000 ≤ a.tdiv b ∧ a.tdiv b ≤ 1000000000000 := by
  rcases Int.le_total 0 a with h | h
  · have h1 : 0 ≤ a.tdiv b := Int.tdiv_nonneg h (by omega)
    have h2 : a.tdiv b ≤ a := Int.tdiv_le_self b h
    omega
  · have h1 : 0 ≤ (-a).tdiv b := Int.tdiv_nonneg (by omega) (by omega)
    have h2 : (-a).tdiv b ≤ -a := Int.tdiv_le_self b (by omega)
    rw [Int.neg_tdiv] at h1 h2
    omega
end
end Go.Proofs.YtpildcnoghojpaaGreatDoor
/- Contract of slices.SortStableFunc at few places, in the room's order. Conditions: at most 19 places. -/
namespace Go.Proofs.YtpildcnoghojpaaGreatDoor
section
open Go.RowKit

end
end Go.Proofs.YtpildcnoghojpaaGreatDoor
/- Contracts of slices.DeleteFunc at ints and of the room's times. Conditions: none. -/
namespace Go.Proofs.YtpildcnoghojpaaGreatDoor
section
open Go.RowKit

end
end Go.Proofs.YtpildcnoghojpaaGreatDoor
/- Contracts of the room's line and choose. Conditions: none. -/
namespace Go.Proofs.YtpildcnoghojpaaGreatDoor
section
open Go.RowKit

end
end Go.Proofs.YtpildcnoghojpaaGreatDoor
/- Contract of the room's leave. Conditions: none. -/
namespace Go.Proofs.YtpildcnoghojpaaGreatDoor
section
open Go.RowKit

section
variable {wb w : World} {R : RoC} {s : StyV} {A : List AgV} {C : List CaV} {st : RoS}
end
end
end Go.Proofs.YtpildcnoghojpaaGreatDoor
/- Contract of the room's step. Conditions: none. -/
namespace Go.Proofs.YtpildcnoghojpaaGreatDoor
section
open Go.RowKit

section
variable {s : StyV} {A : List AgV} {C : List CaV} {st : RoS} {t : Int} {L : List Nat} {k i : Nat} {c : CaV}
end
theorem SeV.one (r : SeV) : ∀ u ∈ r.row, u.oneCell' = true := by
  intro u hu
  simp only [SeV.row, List.mem_cons, List.not_mem_nil, or_false] at hu
  rcases hu with rfl | rfl | rfl | rfl | rfl <;> rfl
end
end Go.Proofs.YtpildcnoghojpaaGreatDoor
/- Contracts of newRoom and of the document's PlayOf. Conditions: agents and callers whose numbers are in bounds. -/
namespace Go.Proofs.YtpildcnoghojpaaGreatDoor
section
open Go.RowKit

theorem Tryz.sesT : ElemT Tryz.prog 28 39 5 56 (.agg #[.string ⟨#[]⟩, .string ⟨#[]⟩, .int .i64 0, .int .i64 0, .int .i64 0]) := elemT_of Tryz.underlying28 (by kernel_rfl) rfl (by decide)
theorem Tryz.syT : StructT Tryz.prog 33 3 := ⟨_, Tryz.underlying33, rfl, by kernel_rfl⟩
end
end Go.Proofs.YtpildcnoghojpaaGreatDoor
/- Contracts of talked, checkSeat, CheckSeats and of the document's SeatsFault. Conditions: callers whose numbers are in bounds (but for CheckSeats). -/
namespace Go.Proofs.YtpildcnoghojpaaGreatDoor
section
open Go.RowKit

end
end Go.Proofs.YtpildcnoghojpaaGreatDoor
/- The program's player as it lies in memory: desks and waiters behind pointers; what a store leaves. Conditions: none. -/
namespace Go.Proofs.YtpildcnoghojpaaGreatDoor
section
open Go.RowKit

theorem storeCells_from (g i : Nat) (vs : List Value) : ∀ k, storeCells ⟨g, i, none⟩ vs k = storeCells ⟨g, 0, none⟩ vs (i + k) := by
  induction vs with
  | nil => intro k; rfl
  | cons v vs ih =>
    intro k
    show (do store ((⟨g, i, none⟩ : Addr).add k) v; storeCells ⟨g, i, none⟩ vs (k + 1)) = (do store ((⟨g, 0, none⟩ : Addr).add (i + k)) v; storeCells ⟨g, 0, none⟩ vs (i + k + 1))
    rw [add_mk, add_mk, Nat.zero_add, ih (k + 1), Nat.add_assoc]
section
variable {P : Program} {w : World} {o : Oper} {a : Act} {K : Act → World → Prop} {Q : Exit → Act → World → Prop}
/-- The last cells of a block, stored as a struct. -/
theorem wp_store_tail {ty : TypeId} {n : Nat} (T : StructT P ty n) (x y : Operand) (ho : o.op = .store ty x y) (g i : Nat) (hx : a.eval x = .pointer (some ⟨g, i, none⟩)) (t : TypeId) (cur cs new : Array Value) (hy : a.eval y = .agg cs) (hb : Blk w g t cur)
    (hn : cs.size = n) (hc : i + cs.size = cur.size) (h1 : ∀ u ∈ cs.toList, u.oneCell' = true) (hnew : (cur.toList.take i ++ cs.toList).toArray = new) (h : ∀ w', Stored w g t new w' → K (a.put o.dst undef) w') : o.wp P a w K Q := by
  obtain ⟨d, hd1, hd2, hd3⟩ := T
  cases hq : P.info? ty with
  | none => simp [hq] at hd3
  | some inf =>
    have hs : inf.size = n := by simpa [hq] using hd3
    have hrun := run_storeCells_from (P := P) g t cs.toList i cur w hb (by simp; omega) h1
    rw [hnew] at hrun
    have hst : (Instr.storeAt ty (.pointer (some ⟨g, i, none⟩)) (.agg cs)).run P w = .ok () (w.setRow g new) := by
      have hrun2 : (storeCells ⟨g, i, none⟩ cs.toList 0).run P w = .ok () (w.setRow g new) := by
        rw [← hrun]
        rw [storeCells_from g i cs.toList 0]; rfl
      simp [Instr.storeAt, Instr.sureAddr, storeVar, sizeOf, typeInfo, hq, hs, Value.cells, hn, hrun2]
    unfold Oper.wp execOp
    simp only [ho, hx, hy, Sem.run_bind, Sem.run_pure, Result.andThen_ok, hst]
    refine h _ ⟨?_, ⟨rfl, rfl, rfl, ?_, ?_⟩, ?_⟩
    · have hlt := hb.lt
      unfold Blk at hb ⊢
      simp [World.setRow, Array.getElem?_modify, hb]
    · simp [World.setRow]
    · intro k hk hne
      simp only [World.setRow, Array.getElem?_modify]
      rw [if_neg (fun e => hne (by rw [e]))]
    · simp [World.setRow]
variable {ops : Array Oper} {rest : List Oper}
theorem wpl_store_tail {ty : TypeId} {n : Nat} (T : StructT P ty n) (hgd : o.guard = none) (x y : Operand) (ho : o.op = .store ty x y) (g i : Nat) (hx : a.eval x = .pointer (some ⟨g, i, none⟩)) (t : TypeId) (cur cs new : Array Value) (hy : a.eval y = .agg cs) (hb : Blk w g t cur)
    (hn : cs.size = n) (hc : i + cs.size = cur.size) (h1 : ∀ u ∈ cs.toList, u.oneCell' = true) (hnew : (cur.toList.take i ++ cs.toList).toArray = new) (h : ∀ w', Stored w g t new w' → wpList P ops Q rest (a.put o.dst undef) w') : wpList P ops Q (o :: rest) a w :=
  wpList_plain hgd fun _ hK => wp_store_tail T x y ho g i hx t cur cs new hy hb hn hc h1 hnew fun w' hs => hK _ _ (h w' hs)
end
/-! The player in memory. -/
structure PlC where
  pb : Nat
  D : Option Addr
  dc : Nat
  W : Option Addr
  wc : Nat
  di : List Nat
  wi : List Nat
def ptrV (b : Nat) : Value := .pointer (some ⟨b, 0, none⟩)
def DkBlk (w : World) (b : Nat) (a : AgV) (x : DkV) : Prop := Blk w b 116 #[.string a.key, .slice a.sA a.sn a.sc, .int .i64 a.fr, .int .i64 a.til, .slice a.pA a.pn a.pc, .int .i64 a.wrap, .int .i64 x.tk, .int .i64 x.en, .int .i64 x.n]
def WtBlk (w : World) (b : Nat) (c : CaV) (x : WtV) : Prop := Blk w b 119 #[.string c.id, .string c.skill, .int .i64 c.at_, .int .i64 c.least, .int .i64 c.prio, .int .i64 c.pat, .int .i64 c.talk, .bool c.back, .int .i64 x.how, .string x.seat.ca, .string x.seat.ag, .int .i64 x.seat.how, .int .i64 x.seat.beg, .int .i64 x.seat.fin]
def PpBlk (w : World) (R : PlC) (s : StyV) (m n : Nat) (last : ByteArray) : Prop := Blk w R.pb 113 #[.int .i64 s.kind, .int .i64 s.age, .int .i64 s.say, .slice R.D m R.dc, .slice R.W n R.wc, .string last]
def PlC.ids (R : PlC) : List Nat := R.pb :: (R.di ++ R.wi)
structure PlAt (w : World) (lo : Nat) (R : PlC) (s : StyV) (A : List AgV) (C : List CaV) (p : PlS) : Prop where
  pl : PpBlk w R s A.length C.length p.last
  dr : Reads w lo 1 R.D A.length R.dc (R.di.map ptrV)
  wr : Reads w lo 1 R.W C.length R.wc (R.wi.map ptrV)
  dl : R.di.length = A.length
  wl : R.wi.length = C.length
  dk : ∀ (i b : Nat) (a : AgV) (x : DkV), R.di[i]? = some b → A[i]? = some a → p.dk[i]? = some x → DkBlk w b a x
  wt : ∀ (i b : Nat) (c : CaV) (x : WtV), R.wi[i]? = some b → C[i]? = some c → p.wt[i]? = some x → WtBlk w b c x
  nd : R.ids.Nodup
  dn : ∀ g, blkOf R.D = some g → g ∉ R.ids
  wn : ∀ g, blkOf R.W = some g → g ∉ R.ids
  lo : ∀ b ∈ R.ids, lo ≤ b
  dl2 : p.dk.length = A.length
  wl2 : p.wt.length = C.length
section
variable {w w' : World} {lo : Nat} {R : PlC} {s : StyV} {A : List AgV} {C : List CaV} {p : PlS}
theorem Reads.other {k n c : Nat} {A' : Option Addr} {xs : List Value} {r : Option Nat} (h : Reads w lo k A' n c xs) (hg : w.grownBy w' r) (hr : ∀ g, r = some g → blkOf A' ≠ some g) : Reads w' lo k A' n c xs := by
  obtain ⟨h1, h2, h3⟩ := h
  refine ⟨h1, h2, fun hn => ?_⟩
  obtain ⟨g, o, e, hl, hlt, hc⟩ := h3 hn
  have hb : w'.heap[g]? = w.heap[g]? := hg.block g hlt (fun e2 => hr g e2.symm (by rw [e]; rfl))
  refine ⟨g, o, e, hl, by have := hg.size; omega, fun j u hu => ?_⟩
  have h4 := hc j u hu
  unfold World.cell? at h4 ⊢
  rw [hb]
  exact h4
theorem Reads.pos {k n c : Nat} {A' : Option Addr} {xs : List Value} (h : Reads w lo k A' n c xs) (hn : 0 < n) : ∃ g o, A' = some ⟨g, o, none⟩ ∧ lo ≤ g ∧ g < w.heap.size := by
  obtain ⟨g, o, e, h1, h2, _⟩ := h.2.2 hn
  exact ⟨g, o, e, h1, h2⟩
theorem Reads.cell1 {n c g o i : Nat} {xs : List Value} {u : Value} (h : Reads w lo 1 (some ⟨g, o, none⟩) n c xs) (hu : xs[i]? = some u) : w.cell? ⟨g, o + i, none⟩ = some u := by
  have hn : 0 < n := by
    have := (List.getElem?_eq_some_iff.1 hu).1
    have := h.len
    omega
  obtain ⟨g', o', e, _, _, hc⟩ := h.2.2 hn
  obtain ⟨rfl, rfl⟩ : g = g' ∧ o = o' := by simpa using e
  exact hc i u hu
theorem mem_d {i b : Nat} (h : R.di[i]? = some b) : b ∈ R.ids := List.mem_cons_of_mem _ (List.mem_append_left _ (mem_of_get h))
theorem mem_w {i b : Nat} (h : R.wi[i]? = some b) : b ∈ R.ids := List.mem_cons_of_mem _ (List.mem_append_right _ (mem_of_get h))
theorem nd_d (h : R.ids.Nodup) {i j b : Nat} (h1 : R.di[i]? = some b) (h2 : R.di[j]? = some b) : i = j := by
  have h3 := (List.nodup_append.1 (List.nodup_cons.1 h).2).1
  exact (List.getElem?_inj (List.getElem?_eq_some_iff.1 h1).1 h3).1 (h1.trans h2.symm)
theorem nd_w (h : R.ids.Nodup) {i j b : Nat} (h1 : R.wi[i]? = some b) (h2 : R.wi[j]? = some b) : i = j := by
  have h3 := (List.nodup_append.1 (List.nodup_cons.1 h).2).2.1
  exact (List.getElem?_inj (List.getElem?_eq_some_iff.1 h1).1 h3).1 (h1.trans h2.symm)
theorem nd_dw (h : R.ids.Nodup) {i j b c : Nat} (h1 : R.di[i]? = some b) (h2 : R.wi[j]? = some c) : b ≠ c := (List.nodup_append.1 (List.nodup_cons.1 h).2).2.2 b (mem_of_get h1) c (mem_of_get h2)
theorem nd_pd (h : R.ids.Nodup) {i b : Nat} (h1 : R.di[i]? = some b) : R.pb ≠ b := fun e => (List.nodup_cons.1 h).1 (List.mem_append_left _ (by rw [e]; exact mem_of_get h1))
theorem nd_pw (h : R.ids.Nodup) {i b : Nat} (h1 : R.wi[i]? = some b) : R.pb ≠ b := fun e => (List.nodup_cons.1 h).1 (List.mem_append_right _ (by rw [e]; exact mem_of_get h1))
/-- Nothing of the player is stored to. -/
theorem PlAt.kept (h : PlAt w lo R s A C p) {r : Option Nat} (hg : w.grownBy w' r) (hr : ∀ g, r = some g → g ∉ R.ids ∧ blkOf R.D ≠ some g ∧ blkOf R.W ≠ some g) : PlAt w' lo R s A C p := by
  have ne : ∀ b ∈ R.ids, some b ≠ r := fun b hb e => (hr b e.symm).1 hb
  exact ⟨h.pl.grown hg (ne _ (List.mem_cons_self ..)), h.dr.other hg (fun g e => (hr g e).2.1), h.wr.other hg (fun g e => (hr g e).2.2), h.dl, h.wl, fun i b a x h1 h2 h3 => (h.dk i b a x h1 h2 h3).grown hg (ne _ (mem_d h1)), fun i b a x h1 h2 h3 => (h.wt i b a x h1 h2 h3).grown hg (ne _ (mem_w h1)), h.nd, h.dn, h.wn, h.lo, h.dl2, h.wl2⟩
theorem PlAt.kept0 (h : PlAt w lo R s A C p) (hg : w.grownBy w' none) : PlAt w' lo R s A C p := h.kept hg fun g e => by cases e
theorem PlAt.setW (h : PlAt w lo R s A C p) {i b : Nat} {c : CaV} {x : WtV} (hi : R.wi[i]? = some b) (hc : C[i]? = some c) (hg : w.grownBy w' (some b)) (hb : WtBlk w' b c x) : PlAt w' lo R s A C ⟨p.dk, p.wt.set i x, p.last⟩ := by
  have hm := mem_w hi
  refine ⟨h.pl.grown hg (fun e => nd_pw h.nd hi (by injection e)), h.dr.other hg (fun g e => by injection e with e; subst e; exact fun e2 => h.dn _ e2 hm), h.wr.other hg (fun g e => by injection e with e; subst e; exact fun e2 => h.wn _ e2 hm), h.dl, h.wl,
    fun j d a y h1 h2 h3 => (h.dk j d a y h1 h2 h3).grown hg (fun e => nd_dw h.nd h1 hi (by injection e)), fun j d a y h1 h2 h3 => ?_, h.nd, h.dn, h.wn, h.lo, h.dl2, by show (p.wt.set _ _).length = _; rw [List.length_set]; exact h.wl2⟩
  change (p.wt.set i x)[j]? = some y at h3
  by_cases e : i = j
  · subst e
    have hlt := (List.getElem?_eq_some_iff.1 h3).1
    rw [List.length_set] at hlt
    rw [List.getElem?_set_self hlt] at h3
    injection h3 with h3
    subst h3
    rw [hi] at h1; injection h1 with h1; subst h1
    rw [hc] at h2; injection h2 with h2; subst h2
    exact hb
  · rw [List.getElem?_set_ne e] at h3
    exact (h.wt j d a y h1 h2 h3).grown hg (fun e2 => e (nd_w h.nd hi (by injection e2 with e2; rw [← e2]; exact h1)))
theorem PlAt.setD (h : PlAt w lo R s A C p) {i b : Nat} {a : AgV} {x : DkV} (hi : R.di[i]? = some b) (ha : A[i]? = some a) (hg : w.grownBy w' (some b)) (hb : DkBlk w' b a x) : PlAt w' lo R s A C ⟨p.dk.set i x, p.wt, p.last⟩ := by
  have hm := mem_d hi
  refine ⟨h.pl.grown hg (fun e => nd_pd h.nd hi (by injection e)), h.dr.other hg (fun g e => by injection e with e; subst e; exact fun e2 => h.dn _ e2 hm), h.wr.other hg (fun g e => by injection e with e; subst e; exact fun e2 => h.wn _ e2 hm), h.dl, h.wl,
    fun j d a y h1 h2 h3 => ?_, fun j d a y h1 h2 h3 => (h.wt j d a y h1 h2 h3).grown hg (fun e => nd_dw h.nd hi h1 (by injection e with e; exact e.symm)), h.nd, h.dn, h.wn, h.lo, by show (p.dk.set _ _).length = _; rw [List.length_set]; exact h.dl2, h.wl2⟩
  change (p.dk.set i x)[j]? = some y at h3
  by_cases e : i = j
  · subst e
    have hlt := (List.getElem?_eq_some_iff.1 h3).1
    rw [List.length_set] at hlt
    rw [List.getElem?_set_self hlt] at h3
    injection h3 with h3
    subst h3
    rw [hi] at h1; injection h1 with h1; subst h1
    rw [ha] at h2; injection h2 with h2; subst h2
    exact hb
  · rw [List.getElem?_set_ne e] at h3
    exact (h.dk j d a y h1 h2 h3).grown hg (fun e2 => e (nd_d h.nd hi (by injection e2 with e2; rw [← e2]; exact h1)))
theorem PlAt.setL (h : PlAt w lo R s A C p) {last' : ByteArray} (hg : w.grownBy w' (some R.pb)) (hb : PpBlk w' R s A.length C.length last') : PlAt w' lo R s A C ⟨p.dk, p.wt, last'⟩ := by
  have hm : R.pb ∈ R.ids := List.mem_cons_self ..
  exact ⟨hb, h.dr.other hg (fun g e => by injection e with e; subst e; exact fun e2 => h.dn _ e2 hm), h.wr.other hg (fun g e => by injection e with e; subst e; exact fun e2 => h.wn _ e2 hm), h.dl, h.wl,
    fun j d a y h1 h2 h3 => (h.dk j d a y h1 h2 h3).grown hg (fun e => nd_pd h.nd h1 (by injection e with e; exact e.symm)), fun j d a y h1 h2 h3 => (h.wt j d a y h1 h2 h3).grown hg (fun e => nd_pw h.nd h1 (by injection e with e; exact e.symm)), h.nd, h.dn, h.wn, h.lo, h.dl2, h.wl2⟩
theorem PlAt.desk (h : PlAt w lo R s A C p) {i : Nat} {a : AgV} (ha : A[i]? = some a) : ∃ g o b, R.D = some ⟨g, o, none⟩ ∧ R.di[i]? = some b ∧ w.cell? ⟨g, o + i, none⟩ = some (ptrV b) ∧ p.dk[i]? = some (dkAt p.dk i) ∧ DkBlk w b a (dkAt p.dk i) := by
  have hi := (List.getElem?_eq_some_iff.1 ha).1
  obtain ⟨b, hb⟩ : ∃ b, R.di[i]? = some b := ⟨_, List.getElem?_eq_getElem (by rw [h.dl]; exact hi)⟩
  obtain ⟨x, hx⟩ : ∃ x, p.dk[i]? = some x := ⟨_, List.getElem?_eq_getElem (by rw [h.dl2]; exact hi)⟩
  obtain ⟨g, o, hD, _⟩ := h.dr.pos (by omega)
  have hr := h.dr
  rw [hD] at hr
  refine ⟨g, o, b, hD, hb, ?_, by rw [dkAt_some hx]; exact hx, by rw [dkAt_some hx]; exact h.dk i b a x hb ha hx⟩
  exact hr.cell1 (by rw [List.getElem?_map, hb]; rfl)
theorem PlAt.waiter (h : PlAt w lo R s A C p) {i : Nat} {c : CaV} (hc : C[i]? = some c) : ∃ g o b, R.W = some ⟨g, o, none⟩ ∧ R.wi[i]? = some b ∧ w.cell? ⟨g, o + i, none⟩ = some (ptrV b) ∧ p.wt[i]? = some (wtAt p.wt i) ∧ WtBlk w b c (wtAt p.wt i) := by
  have hi := (List.getElem?_eq_some_iff.1 hc).1
  obtain ⟨b, hb⟩ : ∃ b, R.wi[i]? = some b := ⟨_, List.getElem?_eq_getElem (by rw [h.wl]; exact hi)⟩
  obtain ⟨x, hx⟩ : ∃ x, p.wt[i]? = some x := ⟨_, List.getElem?_eq_getElem (by rw [h.wl2]; exact hi)⟩
  obtain ⟨g, o, hD, _⟩ := h.wr.pos (by omega)
  have hr := h.wr
  rw [hD] at hr
  refine ⟨g, o, b, hD, hb, ?_, by rw [wtAt_some hx]; exact hx, by rw [wtAt_some hx]; exact h.wt i b c x hb hc hx⟩
  exact hr.cell1 (by rw [List.getElem?_map, hb]; rfl)
end
end
end Go.Proofs.YtpildcnoghojpaaGreatDoor

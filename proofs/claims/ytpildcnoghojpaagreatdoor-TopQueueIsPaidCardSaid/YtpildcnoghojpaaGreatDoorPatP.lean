/- Patterns, in plain Lean: sets of signs, what a pattern reads as, the least string that patterns share. Conditions: none. -/
import Derived.Test.YtpildcnoghojpaaGreatDoorBun1
import Derived.Lib.BitFns
namespace Go.Proofs.YtpildcnoghojpaaGreatDoor
/-- the place of a sign -/
def sgn : List Nat := [35, 42, 48, 49, 50, 51, 52, 53, 54, 55, 56, 57]
def sgIx (c : Nat) : Nat := sgn.findIdx (· == c)
def onlyM (c : Nat) : Nat := 2 ^ sgIx c
def fromK (a : Nat) : Nat → Nat
  | 0 => 0
  | k + 1 => fromK a k ||| onlyM (a + k)
def fromM (a b : Nat) : Nat := fromK a (b + 1 - a)
def hasM (M c : Nat) : Bool := M &&& onlyM c != 0
def runE (M : Nat) : Nat → Nat → Nat
  | 0, b => b
  | f + 1, b => if decide (b < 57) && hasM M (b + 1) then runE M f (b + 1) else b
def piece (a b : Nat) : List Nat := if b > a + 1 then [a, 45, b] else if b > a then [a, b] else [a]
def digF (M : Nat) : Nat → Nat → List Nat → List Nat
  | 0, _, s => s
  | f + 1, a, s => if a ≤ 57 then (if hasM M a then digF M f (runE M 10 a + 1) (s ++ piece a (runE M 10 a)) else digF M f (a + 1) s) else s
def digL (M : Nat) : List Nat := digF M 10 48 []
def psF (b : List Nat) : Nat → Nat → Nat → Option Nat
  | 0, _, m => some m
  | f + 1, i, m =>
    if i < b.length then
      (if b.getD i 0 < 48 || 57 < b.getD i 0 then none
       else if decide (i + 2 < b.length) && b.getD (i + 1) 0 == 45 && decide (b.getD i 0 < b.getD (i + 2) 0) && decide (b.getD (i + 2) 0 ≤ 57) then psF b f (i + 3) (m ||| fromM (b.getD i 0) (b.getD (i + 2) 0))
       else psF b f (i + 1) (m ||| fromM (b.getD i 0) (b.getD i 0)))
    else some m
def psL (b : List Nat) : Option Nat := psF b b.length 0 0
def cntM (M : Nat) : Nat := Lib.onesCount (M / 256) + Lib.onesCount (M % 256)
def goodM (M : Nat) : Bool := decide (2 ≤ cntM M) && M != fromM 48 57 && M != fromM 49 57 && M != fromM 50 57
/-- the set between brackets -/
def setM (b : List Nat) : Option Nat := match psL b with
  | none => none
  | some M => if goodM M && digL M == b then some M else none
def pc (set : List Nat) (i k : Nat) : List Nat := if k - i = 0 then [set.getD i 0] else if k - i = 1 then [set.getD i 0, set.getD (i + 1) 0] else [set.getD i 0, 45, set.getD k 0]
theorem setM_some {b : List Nat} {M : Nat} (h : setM b = some M) : psL b = some M ∧ goodM M = true ∧ digL M = b := by
  unfold setM at h
  split at h
  · cases h
  · rename_i M' e
    split at h
    · rename_i hc
      injection h with h
      subst h
      simp only [Bool.and_eq_true, beq_iff_eq] at hc
      exact ⟨e, hc.1, hc.2⟩
    · cases h
theorem fromM_fin : ∀ c : Fin 58, ∀ d : Fin 58, 48 ≤ c.val → c.val ≤ d.val → fromM c.val d.val % 4 = 0 ∧ fromM c.val d.val < 4096 := by decide +kernel
theorem fromM_bd {c d : Nat} (h0 : 48 ≤ c) (h1 : c ≤ d) (h2 : d ≤ 57) : fromM c d % 4 = 0 ∧ fromM c d < 4096 := fromM_fin ⟨c, by omega⟩ ⟨d, by omega⟩ h0 h1
theorem or_bd {a b : Nat} (ha : a % 4 = 0 ∧ a < 4096) (hb : b % 4 = 0 ∧ b < 4096) : (a ||| b) % 4 = 0 ∧ (a ||| b) < 4096 := by
  refine ⟨?_, Nat.or_lt_two_pow (n := 12) ha.2 hb.2⟩
  have h1 : ∀ x : Nat, x % 4 = x % 2 ^ 2 := fun x => rfl
  rw [h1, Nat.or_mod_two_pow, ← h1, ← h1, ha.1, hb.1]
  rfl
theorem psF_bd {b : List Nat} {f i m M : Nat} (hm : m % 4 = 0 ∧ m < 4096) (h : psF b f i m = some M) : M % 4 = 0 ∧ M < 4096 := by
  induction f generalizing i m with
  | zero => unfold psF at h; injection h with h; subst h; exact hm
  | succ f ih =>
    unfold psF at h
    split at h
    · split at h
      · cases h
      · rename_i hc
        simp only [Bool.or_eq_true, decide_eq_true_eq, not_or, Nat.not_lt] at hc
        split at h
        · rename_i hd
          simp only [Bool.and_eq_true, decide_eq_true_eq] at hd
          exact ih (or_bd hm (fromM_bd hc.1 (by omega) hd.2)) h
        · exact ih (or_bd hm (fromM_bd hc.1 (by omega) hc.2)) h
    · injection h with h; subst h; exact hm
theorem psL_bd {b : List Nat} {M : Nat} (h : psL b = some M) : M % 4 = 0 ∧ M < 4096 := psF_bd ⟨rfl, by omega⟩ h
/-- The element at the beginning: its set and how many bytes it has. -/
def elemL (l : List Nat) : Option (Nat × Nat) :=
  if l.headD 0 = 88 then some (fromM 48 57, 1) else if l.headD 0 = 90 then some (fromM 49 57, 1) else if l.headD 0 = 78 then some (fromM 50 57, 1)
  else if l.headD 0 = 91 then (if 93 ∈ l.tail then (setM (l.tail.takeWhile (· != 93))).map (fun M => (M, (l.tail.takeWhile (· != 93)).length + 2)) else none)
  else if l.headD 0 ∈ sgn then some (onlyM (l.headD 0), 1) else none
def shpF : Nat → List Nat → List Nat → Option (List Nat × Nat)
  | 0, _, _ => none
  | f + 1, l, S => if l = [] then some (S, 0) else if l = [46] ∨ l = [33] then some (S, l.headD 0) else match elemL l with
    | none => none
    | some (M, n) => shpF f (l.drop n) (S ++ [M])
def many (x : List Nat × Nat) : Nat := x.1.length + (if x.2 = 0 then 0 else 1)
def shpL (l : List Nat) : Option (List Nat × Nat) := match shpF (l.length + 1) l [] with
  | none => none
  | some x => if 1 ≤ many x ∧ many x ≤ 30 then some x else none
/-- What a pattern can have at a place, and whether it can end there. -/
def takesL (x : List Nat × Nat) (k : Nat) : Nat × Bool :=
  if k < x.1.length then (x.1.getD k 0, false) else if x.2 = 46 then (4095, decide (x.1.length < k)) else if x.2 = 33 then (4095, true) else (0, decide (k = x.1.length))
def allM (ps : List (List Nat × Nat)) (k : Nat) : Nat := ps.foldl (fun m p => m &&& (takesL p k).1) 4095
def allE (ps : List (List Nat × Nat)) (k : Nat) : Bool := ps.foldl (fun e p => e && (takesL p k).2) (decide (0 < k))
def firstS (M : Nat) : Nat := (sgn.find? (fun c => hasM M c)).getD 0
def shF (ps : List (List Nat × Nat)) : Nat → Nat → List Nat → List Nat × Bool
  | 0, _, _ => ([], false)
  | f + 1, k, b => if allE ps k then (b, true) else if allM ps k = 0 then ([], false) else shF ps f (k + 1) (b ++ [firstS (allM ps k)])
def sharedL (ps : List (List Nat × Nat)) : List Nat × Bool := shF ps 31 0 []
def Right (x : List Nat × Nat) : Prop := (x.2 = 0 ∨ x.2 = 46 ∨ x.2 = 33) ∧ ∀ M ∈ x.1, M < 4096

/-- the set at a place, as a mask -/
def mAt (x : List Nat × Nat) (k : Nat) : Nat := if k < x.1.length then x.1.getD k 0 else 4095
theorem mAt_bd {x : List Nat × Nat} (h : Right x) (k : Nat) : mAt x k < 4096 := by
  unfold mAt
  split
  · rename_i hk
    have : x.1.getD k 0 ∈ x.1 := by rw [List.getD_eq_getElem?_getD, List.getElem?_eq_getElem hk]; exact List.getElem_mem _
    exact h.2 _ this
  · omega
/-- what program and document see at a place: the same set, unless a pattern without a tail is over -/
def over (x : List Nat × Nat) (k : Nat) : Bool := decide (x.1.length ≤ k) && decide (x.2 = 0)
theorem takes_fst {x : List Nat × Nat} (h : Right x) (k : Nat) : (takesL x k).1 = if over x k then 0 else mAt x k := by
  unfold takesL over mAt
  rcases h.1 with h1 | h1 | h1 <;> by_cases hk : k < x.1.length <;> simp [h1, hk] <;> omega
end Go.Proofs.YtpildcnoghojpaaGreatDoor

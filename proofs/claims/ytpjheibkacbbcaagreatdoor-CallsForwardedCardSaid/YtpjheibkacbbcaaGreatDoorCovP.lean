/- Whether what a pattern matches is matched by one of others, in plain Lean. Conditions: none. -/
import Derived.Test.YtpjheibkacbbcaaGreatDoorPatP
namespace Go.Proofs.YtpjheibkacbbcaaGreatDoor

/-- What an other pattern takes at a place. -/
def tkB (l : List (List Nat × Nat)) (a i k : Nat) : Bool := (takesL (l.getD k ([], 0)) a).1.testBit i
/-- Those of the first k whose bit is set and that can have sign i at place a. -/
def kpTo (l : List (List Nat × Nat)) (a i s : Nat) : Nat → Nat
  | 0 => 0
  | k + 1 => kpTo l a i s k ||| (if s.testBit k && tkB l a i k then 2 ^ k else 0)
def kp (l : List (List Nat × Nat)) (a i s : Nat) : Nat := kpTo l a i s l.length
theorem kpTo_bit (l : List (List Nat × Nat)) (a i s k j : Nat) : (kpTo l a i s k).testBit j = (decide (j < k) && s.testBit j && tkB l a i j) := by
  induction k with
  | zero => simp [kpTo]
  | succ k ih =>
    unfold kpTo
    rw [Nat.testBit_or, ih]
    by_cases hj : j = k
    · subst hj
      cases hb : (s.testBit j && tkB l a i j)
      · rw [if_neg (by simp)]; simp; simpa using hb
      · rw [if_pos rfl, Nat.testBit_two_pow]; simp; simpa using hb
    · have h1 : (if s.testBit k && tkB l a i k then 2 ^ k else 0).testBit j = false := by
        split
        · rw [Nat.testBit_two_pow]; simp; omega
        · simp
      have h2 : decide (j < k) = decide (j < k + 1) := by by_cases h : j < k <;> simp [h] <;> omega
      rw [h1, h2]; simp
theorem kpTo_lt (l : List (List Nat × Nat)) (a i s k : Nat) : kpTo l a i s k < 2 ^ k := by
  refine Nat.lt_pow_two_of_testBit _ fun j hj => ?_
  rw [kpTo_bit]; simp; omega
/-- The states: how many signs, and which of the others can still match. -/
inductive Rch (x : List Nat × Nat) (l : List (List Nat × Nat)) : Nat → Nat → Prop
  | zero : Rch x l 0 (2 ^ l.length - 1)
  | step {a s i : Nat} : Rch x l a s → a < 30 → i < 12 → (takesL x a).1.testBit i = true → Rch x l (a + 1) (kp l a i s)
theorem pow_pos' (n : Nat) : 0 < 2 ^ n := Nat.pow_pos (by omega)
theorem Rch.bd {x : List Nat × Nat} {l : List (List Nat × Nat)} {a s : Nat} (h : Rch x l a s) : a ≤ 30 ∧ s < 2 ^ l.length := by
  cases h with
  | zero => exact ⟨by omega, by have := pow_pos' l.length; omega⟩
  | step _ h1 _ _ => exact ⟨by omega, kpTo_lt _ _ _ _ _⟩
def endTo (l : List (List Nat × Nat)) (s a : Nat) : Nat → Bool
  | 0 => false
  | k + 1 => endTo l s a k || (s.testBit k && (takesL (l.getD k ([], 0)) a).2)
def endB (l : List (List Nat × Nat)) (s a : Nat) : Bool := endTo l s a l.length
/-- A state is as it should be: where the pattern ends, one of the others does. -/
def fineS (x : List Nat × Nat) (l : List (List Nat × Nat)) (a s : Nat) : Prop := (takesL x a).2 = true → 0 < a → endB l s a = true
open Classical in
open Classical in
open Classical in
/-! The program's way: a queue of states. -/
def Clo (x : List Nat × Nat) (l : List (List Nat × Nat)) (S : List (Nat × Nat)) (t : Nat × Nat) (n : Nat) : Prop := t.1 < 30 → ∀ i, i < n → (takesL x t.1).1.testBit i = true → (t.1 + 1, kp l t.1 i t.2) ∈ S
structure BfI (x : List Nat × Nat) (l : List (List Nat × Nat)) (S Q : List (Nat × Nat)) (D : Nat × Nat → Prop) : Prop where
  rS : ∀ t ∈ S, Rch x l t.1 t.2
  rQ : ∀ t ∈ Q, Rch x l t.1 t.2
  nd : S.Nodup
  all : ∀ t, (t = (0, 2 ^ l.length - 1) ∨ t ∈ S) → t ∈ Q ∨ (fineS x l t.1 t.2 ∧ Clo x l S t 12) ∨ D t
theorem BfI.new (x : List Nat × Nat) (l : List (List Nat × Nat)) : BfI x l [] [(0, 2 ^ l.length - 1)] (fun _ => False) :=
  ⟨fun _ h => (by cases h), fun t h => by rw [List.mem_singleton.1 h]; exact .zero, List.nodup_nil, fun t h => by
    rcases h with h | h
    · exact .inl (by rw [h]; exact List.mem_singleton.2 rfl)
    · cases h⟩
theorem Clo.mono {x : List Nat × Nat} {l : List (List Nat × Nat)} {S S' : List (Nat × Nat)} {t : Nat × Nat} {n : Nat} (h : Clo x l S t n) (hS : ∀ u ∈ S, u ∈ S') : Clo x l S' t n := fun h1 i h2 h3 => hS _ (h h1 i h2 h3)
theorem BfI.push {x : List Nat × Nat} {l : List (List Nat × Nat)} {S Q : List (Nat × Nat)} {D : Nat × Nat → Prop} {a s i : Nat} (h : BfI x l S Q D) (hr : Rch x l a s) (ha : a < 30) (hi : i < 12) (ht : (takesL x a).1.testBit i = true) (hn : (a + 1, kp l a i s) ∉ S) : BfI x l (S ++ [(a + 1, kp l a i s)]) (Q ++ [(a + 1, kp l a i s)]) D := by
  have hr2 := Rch.step hr ha hi ht
  refine ⟨fun u hu => ?_, fun u hu => ?_, ?_, fun u hu => ?_⟩
  · rcases List.mem_append.1 hu with h1 | h1
    · exact h.rS u h1
    · rw [List.mem_singleton.1 h1]; exact hr2
  · rcases List.mem_append.1 hu with h1 | h1
    · exact h.rQ u h1
    · rw [List.mem_singleton.1 h1]; exact hr2
  · rw [List.nodup_append]
    refine ⟨h.nd, by simp, fun u hu v hv e => ?_⟩
    rw [List.mem_singleton.1 hv] at e
    exact hn (e ▸ hu)
  · by_cases e : u = (a + 1, kp l a i s)
    · exact .inl (by rw [e]; simp)
    · have hu' : u = (0, 2 ^ l.length - 1) ∨ u ∈ S := by
        rcases hu with h1 | h1
        · exact .inl h1
        · rcases List.mem_append.1 h1 with h2 | h2
          · exact .inr h2
          · exact absurd (List.mem_singleton.1 h2) e
      rcases h.all u hu' with h1 | ⟨h1, h2⟩ | h1
      · exact .inl (by simp [h1])
      · exact .inr (.inl ⟨h1, h2.mono fun v hv => by simp [hv]⟩)
      · exact .inr (.inr h1)
theorem BfI.done {x : List Nat × Nat} {l : List (List Nat × Nat)} {S Q : List (Nat × Nat)} {t : Nat × Nat} (h : BfI x l S Q (fun u => u = t)) (hf : fineS x l t.1 t.2) (hc : Clo x l S t 12) : BfI x l S Q (fun _ => False) :=
  ⟨h.rS, h.rQ, h.nd, fun u hu => by
    rcases h.all u hu with h1 | h1 | h1
    · exact .inl h1
    · exact .inr (.inl h1)
    · subst h1; exact .inr (.inl ⟨hf, hc⟩)⟩
theorem nodup_len' {α : Type} [DecidableEq α] : ∀ {a b : List α}, a.Nodup → (∀ x ∈ a, x ∈ b) → a.length ≤ b.length
  | [], _, _, _ => Nat.zero_le _
  | x :: a, b, h, hs => by
    obtain ⟨h1, h2⟩ := List.nodup_cons.1 h
    have hx := hs x (by simp)
    have := nodup_len' (b := b.erase x) h2 fun y hy => (List.mem_erase_of_ne (by rintro rfl; exact h1 hy)).2 (hs y (by simp [hy]))
    rw [List.length_erase_of_mem hx] at this
    have := List.length_pos_of_mem hx
    simp only [List.length_cons]
    omega
theorem BfI.bd {x : List Nat × Nat} {l : List (List Nat × Nat)} {S Q : List (Nat × Nat)} {D : Nat × Nat → Prop} (h : BfI x l S Q D) (hl : l.length ≤ 12) : S.length ≤ 126976 := by
  have h1 : (S.map fun t => t.1 * 4096 + t.2).Nodup := by
    refine (List.pairwise_map).2 (h.nd.imp_of_mem fun {t u} ht hu hne e => hne ?_)
    obtain ⟨a1, a2⟩ := (h.rS t ht).bd
    obtain ⟨b1, b2⟩ := (h.rS u hu).bd
    have hp : 2 ^ l.length ≤ 4096 := Nat.pow_le_pow_right (n := 2) (by omega) hl
    exact Prod.ext (by omega) (by omega)
  have := nodup_len' (b := List.range 126976) h1 fun y hy => by
    obtain ⟨t, ht, rfl⟩ := List.mem_map.1 hy
    obtain ⟨a1, a2⟩ := (h.rS t ht).bd
    have hp : 2 ^ l.length ≤ 4096 := Nat.pow_le_pow_right (n := 2) (by omega) hl
    rw [List.mem_range]
    omega
  simpa using this

/-! The document's way: level by level. -/
def ChkTo (x : List Nat × Nat) (l : List (List Nat × Nat)) (n : Nat) : Prop := ∀ m s, 1 ≤ m → m ≤ n → Rch x l m s → fineS x l m s
theorem ChkTo.zero (x : List Nat × Nat) (l : List (List Nat × Nat)) : ChkTo x l 0 := fun m s h1 h2 => by omega
end Go.Proofs.YtpjheibkacbbcaaGreatDoor

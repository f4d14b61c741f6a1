/- Whether what a pattern matches is matched by one of others, in plain Lean. Conditions: none. -/
import Derived.Test.YteppdabhloieaaaGreatDoorPatP
import Derived.Test.YteppdabhloieaaaGreatDoorBun2
import Derived.Test.YteppdabhloieaaaGreatDoorBun1
import Derived.Lib.ConvBytes
namespace Go.Proofs.YteppdabhloieaaaGreatDoor
section
def tkB (l : List (List Nat × Nat)) (a i k : Nat) : Bool := (takesL (l.getD k ([], 0)) a).1.testBit i
def kpTo (l : List (List Nat × Nat)) (a i s : Nat) : Nat → Nat
 | 0 => 0
 | k + 1 => kpTo l a i s k ||| (if s.testBit k && tkB l a i k then 2 ^ k else 0)
def kp (l : List (List Nat × Nat)) (a i s : Nat) : Nat := kpTo l a i s l.length
def clr (s k : Nat) : Nat := s ^^^ (s &&& 2 ^ k)
def clTo (l : List (List Nat × Nat)) (a i s : Nat) : Nat → Nat
 | 0 => s
 | k + 1 => if tkB l a i k then clTo l a i s k else clr (clTo l a i s k) k
theorem clr_bit (s k j : Nat) : (clr s k).testBit j = (s.testBit j && decide (j ≠ k)) := by
 unfold clr
 rw [Nat.testBit_xor, Nat.testBit_and, Nat.testBit_two_pow]
 by_cases h : k = j
 · subst h; cases s.testBit k <;> simp
 · have h2 : j ≠ k := fun e => h e.symm
   cases s.testBit j <;> simp [h, h2]
theorem clTo_bit (l : List (List Nat × Nat)) (a i s k j : Nat) : (clTo l a i s k).testBit j = (s.testBit j && (decide (k ≤ j) || tkB l a i j)) := by
 induction k with
 | zero => simp [clTo]
 | succ k ih =>
   unfold clTo
   cases ht : tkB l a i k
   · rw [if_neg (by simp), clr_bit, ih]
     by_cases hj : j = k
     · subst hj; simp [ht]; try (cases s.testBit j <;> simp)
     · have : decide (k ≤ j) = decide (k + 1 ≤ j) := by by_cases h : k ≤ j <;> simp [h] <;> omega
       rw [this]; simp [hj]
   · rw [if_pos rfl, ih]
     by_cases hj : j = k
     · subst hj; simp [ht]
     · have : decide (k ≤ j) = decide (k + 1 ≤ j) := by by_cases h : k ≤ j <;> simp [h] <;> omega
       rw [this]
theorem kpTo_bit (l : List (List Nat × Nat)) (a i s k j : Nat) : (kpTo l a i s k).testBit j = (decide (j < k) && s.testBit j && tkB l a i j) := by
 induction k with
 | zero => simp [kpTo]
 | succ k ih =>
   unfold kpTo
   rw [Nat.testBit_or, ih]
   by_cases hj : j = k
   · subst hj
     cases hb : (s.testBit j && tkB l a i j)
     · rw [if_neg (by simp)]; simp; simpa using hb
     · rw [if_pos rfl, Nat.testBit_two_pow]; simp; simpa using hb
   · have h1 : (if s.testBit k && tkB l a i k then 2 ^ k else 0).testBit j = false := by
       split
       · rw [Nat.testBit_two_pow]; simp; omega
       · simp
     have h2 : decide (j < k) = decide (j < k + 1) := by by_cases h : j < k <;> simp [h] <;> omega
     rw [h1, h2]; simp
theorem testBit_big {s n j : Nat} (h : s < 2 ^ n) (hj : n ≤ j) : s.testBit j = false :=
 Nat.testBit_lt_two_pow (Nat.lt_of_lt_of_le h (Nat.pow_le_pow_right (by omega) hj))
theorem kpTo_lt (l : List (List Nat × Nat)) (a i s k : Nat) : kpTo l a i s k < 2 ^ k := by
 refine Nat.lt_pow_two_of_testBit _ fun j hj => ?_
 rw [kpTo_bit]; simp; omega
theorem cl_kp {l : List (List Nat × Nat)} {a i s : Nat} (hs : s < 2 ^ l.length) : clTo l a i s l.length = kp l a i s := by
 refine Nat.eq_of_testBit_eq fun j => ?_
 unfold kp
 rw [clTo_bit, kpTo_bit]
 by_cases hj : j < l.length
 · simp [hj, show ¬ l.length ≤ j by omega]
 · rw [testBit_big hs (by omega)]; simp
theorem clTo_lt {l : List (List Nat × Nat)} {a i s n : Nat} (hs : s < 2 ^ n) (k : Nat) : clTo l a i s k < 2 ^ n := by
 refine Nat.lt_pow_two_of_testBit _ fun j hj => ?_
 rw [clTo_bit, testBit_big hs (by omega)]; rfl
inductive Rch (x : List Nat × Nat) (l : List (List Nat × Nat)) : Nat → Nat → Prop
 | zero : Rch x l 0 (2 ^ l.length - 1)
 | step {a s i : Nat} : Rch x l a s → a < 30 → i < 12 → (takesL x a).1.testBit i = true → Rch x l (a + 1) (kp l a i s)
theorem pow_pos' (n : Nat) : 0 < 2 ^ n := Nat.pow_pos (by omega)
theorem Rch.bd {x : List Nat × Nat} {l : List (List Nat × Nat)} {a s : Nat} (h : Rch x l a s) : a ≤ 30 ∧ s < 2 ^ l.length := by
 cases h with
 | zero => exact ⟨by omega, by have := pow_pos' l.length; omega⟩
 | step _ h1 _ _ => exact ⟨by omega, kpTo_lt _ _ _ _ _⟩
def endTo (l : List (List Nat × Nat)) (s a : Nat) : Nat → Bool
 | 0 => false
 | k + 1 => endTo l s a k || (s.testBit k && (takesL (l.getD k ([], 0)) a).2)
def endB (l : List (List Nat × Nat)) (s a : Nat) : Bool := endTo l s a l.length
theorem endTo_mono {l : List (List Nat × Nat)} {s a k : Nat} (h : endTo l s a k = true) : ∀ n, k ≤ n → endTo l s a n = true := by
 intro n hn
 induction n with
 | zero => obtain rfl : k = 0 := by omega
           exact h
 | succ n ih =>
   rcases Nat.lt_or_ge k (n + 1) with h1 | h1
   · unfold endTo; rw [ih (by omega)]; rfl
   · obtain rfl : k = n + 1 := by omega
     exact h
def fineS (x : List Nat × Nat) (l : List (List Nat × Nat)) (a s : Nat) : Prop := (takesL x a).2 = true → 0 < a → endB l s a = true
def Cov (x : List Nat × Nat) (l : List (List Nat × Nat)) : Prop := ∀ a s, Rch x l a s → fineS x l a s
open Classical in
noncomputable def covB (x : List Nat × Nat) (l : List (List Nat × Nat)) : Bool := decide (Cov x l)
open Classical in
theorem covB_true {x : List Nat × Nat} {l : List (List Nat × Nat)} (h : Cov x l) : covB x l = true := by unfold covB; exact decide_eq_true h
open Classical in
theorem covB_false {x : List Nat × Nat} {l : List (List Nat × Nat)} {a s : Nat} (h : Rch x l a s) (h1 : (takesL x a).2 = true) (h2 : 0 < a) (h3 : endB l s a = false) : covB x l = false := by
 unfold covB
 refine decide_eq_false fun hc => ?_
 have := hc a s h h1 h2
 rw [h3] at this; cases this
def Clo (x : List Nat × Nat) (l : List (List Nat × Nat)) (S : List (Nat × Nat)) (t : Nat × Nat) (n : Nat) : Prop := t.1 < 30 → ∀ i, i < n → (takesL x t.1).1.testBit i = true → (t.1 + 1, kp l t.1 i t.2) ∈ S
structure BfI (x : List Nat × Nat) (l : List (List Nat × Nat)) (S Q : List (Nat × Nat)) (D : Nat × Nat → Prop) : Prop where
 rS : ∀ t ∈ S, Rch x l t.1 t.2
 rQ : ∀ t ∈ Q, Rch x l t.1 t.2
 nd : S.Nodup
 all : ∀ t, (t = (0, 2 ^ l.length - 1) ∨ t ∈ S) → t ∈ Q ∨ (fineS x l t.1 t.2 ∧ Clo x l S t 12) ∨ D t
theorem BfI.new (x : List Nat × Nat) (l : List (List Nat × Nat)) : BfI x l [] [(0, 2 ^ l.length - 1)] (fun _ => False) :=
 ⟨fun _ h => (by cases h), fun t h => by rw [List.mem_singleton.1 h]; exact .zero, List.nodup_nil, fun t h => by
   rcases h with h | h
   · exact .inl (by rw [h]; exact List.mem_singleton.2 rfl)
   · cases h⟩
theorem Clo.mono {x : List Nat × Nat} {l : List (List Nat × Nat)} {S S' : List (Nat × Nat)} {t : Nat × Nat} {n : Nat} (h : Clo x l S t n) (hS : ∀ u ∈ S, u ∈ S') : Clo x l S' t n := fun h1 i h2 h3 => hS _ (h h1 i h2 h3)
theorem BfI.pop {x : List Nat × Nat} {l : List (List Nat × Nat)} {S Q : List (Nat × Nat)} {t : Nat × Nat} (h : BfI x l S (t :: Q) (fun _ => False)) : Rch x l t.1 t.2 ∧ BfI x l S Q (fun u => u = t) :=
 ⟨h.rQ t (by simp), h.rS, fun u hu => h.rQ u (by simp [hu]), h.nd, fun u hu => by
   rcases h.all u hu with h1 | h1 | h1
   · rcases List.mem_cons.1 h1 with h2 | h2
     · exact .inr (.inr h2)
     · exact .inl h2
   · exact .inr (.inl h1)
   · exact h1.elim⟩
theorem BfI.push {x : List Nat × Nat} {l : List (List Nat × Nat)} {S Q : List (Nat × Nat)} {D : Nat × Nat → Prop} {a s i : Nat} (h : BfI x l S Q D) (hr : Rch x l a s) (ha : a < 30) (hi : i < 12) (ht : (takesL x a).1.testBit i = true) (hn : (a + 1, kp l a i s) ∉ S) : BfI x l (S ++ [(a + 1, kp l a i s)]) (Q ++ [(a + 1, kp l a i s)]) D := by
 have hr2 := Rch.step hr ha hi ht
 refine ⟨fun u hu => ?_, fun u hu => ?_, ?_, fun u hu => ?_⟩
 · rcases List.mem_append.1 hu with h1 | h1
   · exact h.rS u h1
   · rw [List.mem_singleton.1 h1]; exact hr2
 · rcases List.mem_append.1 hu with h1 | h1
   · exact h.rQ u h1
   · rw [List.mem_singleton.1 h1]; exact hr2
 · rw [List.nodup_append]
   refine ⟨h.nd, by simp, fun u hu v hv e => ?_⟩
   rw [List.mem_singleton.1 hv] at e
   exact hn (e ▸ hu)
 · by_cases e : u = (a + 1, kp l a i s)
   · exact .inl (by rw [e]; simp)
   · have hu' : u = (0, 2 ^ l.length - 1) ∨ u ∈ S := by
       rcases hu with h1 | h1
       · exact .inl h1
       · rcases List.mem_append.1 h1 with h2 | h2
         · exact .inr h2
         · exact absurd (List.mem_singleton.1 h2) e
     rcases h.all u hu' with h1 | ⟨h1, h2⟩ | h1
     · exact .inl (by simp [h1])
     · exact .inr (.inl ⟨h1, h2.mono fun v hv => by simp [hv]⟩)
     · exact .inr (.inr h1)
theorem BfI.done {x : List Nat × Nat} {l : List (List Nat × Nat)} {S Q : List (Nat × Nat)} {t : Nat × Nat} (h : BfI x l S Q (fun u => u = t)) (hf : fineS x l t.1 t.2) (hc : Clo x l S t 12) : BfI x l S Q (fun _ => False) :=
 ⟨h.rS, h.rQ, h.nd, fun u hu => by
   rcases h.all u hu with h1 | h1 | h1
   · exact .inl h1
   · exact .inr (.inl h1)
   · subst h1; exact .inr (.inl ⟨hf, hc⟩)⟩
theorem BfI.cov {x : List Nat × Nat} {l : List (List Nat × Nat)} {S : List (Nat × Nat)} (h : BfI x l S [] (fun _ => False)) : Cov x l := by
 have key : ∀ a s, Rch x l a s → ((a, s) = (0, 2 ^ l.length - 1) ∨ (a, s) ∈ S) := by
   intro a s hr
   induction hr with
   | zero => exact .inl rfl
   | step _ ha hi ht ih =>
     rcases h.all _ ih with h1 | ⟨_, h1⟩ | h1
     · cases h1
     · exact .inr (h1 ha _ hi ht)
     · exact h1.elim
 intro a s hr
 rcases h.all _ (key a s hr) with h1 | ⟨h1, _⟩ | h1
 · cases h1
 · exact h1
 · exact h1.elim
theorem nodup_len' {α : Type} [DecidableEq α] : ∀ {a b : List α}, a.Nodup → (∀ x ∈ a, x ∈ b) → a.length ≤ b.length
 | [], _, _, _ => Nat.zero_le _
 | x :: a, b, h, hs => by
   obtain ⟨h1, h2⟩ := List.nodup_cons.1 h
   have hx := hs x (by simp)
   have := nodup_len' (b := b.erase x) h2 fun y hy => (List.mem_erase_of_ne (by rintro rfl; exact h1 hy)).2 (hs y (by simp [hy]))
   rw [List.length_erase_of_mem hx] at this
   have := List.length_pos_of_mem hx
   simp only [List.length_cons]
   omega
theorem BfI.bd {x : List Nat × Nat} {l : List (List Nat × Nat)} {S Q : List (Nat × Nat)} {D : Nat × Nat → Prop} (h : BfI x l S Q D) (hl : l.length ≤ 12) : S.length ≤ 126976 := by
 have h1 : (S.map fun t => t.1 * 4096 + t.2).Nodup := by
   refine (List.pairwise_map).2 (h.nd.imp_of_mem fun {t u} ht hu hne e => hne ?_)
   obtain ⟨a1, a2⟩ := (h.rS t ht).bd
   obtain ⟨b1, b2⟩ := (h.rS u hu).bd
   have hp : 2 ^ l.length ≤ 4096 := Nat.pow_le_pow_right (n := 2) (by omega) hl
   exact Prod.ext (by omega) (by omega)
 have := nodup_len' (b := List.range 126976) h1 fun y hy => by
   obtain ⟨t, ht, rfl⟩ := List.mem_map.1 hy
   obtain ⟨a1, a2⟩ := (h.rS t ht).bd
   have hp : 2 ^ l.length ≤ 4096 := Nat.pow_le_pow_right (n := 2) (by omega) hl
   rw [List.mem_range]
   omega
 simpa using this
theorem tk_doc {y : List Nat × Nat} (hr : Right y) {c n : Nat} (hc : c ∈ sgn) : (takesL y n).1.testBit (sgIx c) = (!over y n && decide (c ∈ setAtL y n)) := by
 rw [takes_fst hr, mem_setAt hc, hasM_bit]
 cases over y n <;> simp
theorem setAt_sgn {x : List Nat × Nat} {n c : Nat} (h : c ∈ setAtL x n) : c ∈ sgn := by
 unfold setAtL at h
 split at h
 · exact (mem_setStr.1 h).1
 · exact h
def lvC (x : List Nat × Nat) (l : List (List Nat × Nat)) (n : Nat) (k : Int) : Prop := ∃ s : Nat, k = s ∧ Rch x l n s
theorem lv_zero {x : List Nat × Nat} {l : List (List Nat × Nat)} {k : Int} : lvC x l 0 k ↔ k = ((2 ^ l.length - 1 : Nat) : Int) := by
 constructor
 · rintro ⟨s, rfl, h⟩
   generalize ha : 0 = a at h
   cases h with
   | zero => rfl
   | step => omega
 · rintro rfl; exact ⟨_, rfl, .zero⟩
theorem lv_succ {x : List Nat × Nat} {l : List (List Nat × Nat)} {n : Nat} (hx : Right x) (hov : over x n = false) (hn : n < 30) {k : Int} : lvC x l (n + 1) k ↔ ∃ s c : Nat, Rch x l n s ∧ c ∈ setAtL x n ∧ k = (kp l n (sgIx c) s : Nat) := by
 constructor
 · rintro ⟨s, rfl, h⟩
   generalize ha : n + 1 = a at h
   cases h with
   | zero => omega
   | step h1 h2 h3 h4 =>
     rename_i a0 s0 i
     obtain rfl : n = a0 := by omega
     obtain ⟨c, hc, hi⟩ := sgIx_all ⟨i, h3⟩
     dsimp only at hi
     refine ⟨s0, c, h1, ?_, by rw [hi]⟩
     rw [← hi, tk_doc hx hc, hov] at h4
     simpa using h4
 · rintro ⟨s, c, h1, h2, rfl⟩
   have hc := setAt_sgn h2
   have h12 : sgIx c < 12 := by
     have : ∀ c ∈ sgn, sgIx c < 12 := by decide +kernel
     exact this c hc
   exact ⟨_, rfl, .step h1 hn h12 (by rw [tk_doc hx hc, hov]; simpa using h2)⟩
def ChkTo (x : List Nat × Nat) (l : List (List Nat × Nat)) (n : Nat) : Prop := ∀ m s, 1 ≤ m → m ≤ n → Rch x l m s → fineS x l m s
theorem ChkTo.zero (x : List Nat × Nat) (l : List (List Nat × Nat)) : ChkTo x l 0 := fun m s h1 h2 => by omega
theorem ChkTo.succ {x : List Nat × Nat} {l : List (List Nat × Nat)} {n : Nat} (h : ChkTo x l n) (h1 : ∀ s, Rch x l (n + 1) s → fineS x l (n + 1) s) : ChkTo x l (n + 1) := fun m s a b c => by
 rcases Nat.lt_or_ge m (n + 1) with q | q
 · exact h m s a (by omega) c
 · obtain rfl : m = n + 1 := by omega
   exact h1 s c
theorem ChkTo.cov {x : List Nat × Nat} {l : List (List Nat × Nat)} (h : ChkTo x l 30) : Cov x l := fun a s hr he h0 => h a s h0 hr.bd.1 hr he h0
theorem ChkTo.over {x : List Nat × Nat} {l : List (List Nat × Nat)} {n : Nat} (h : ChkTo x l n) (h0 : x.2 = 0) (hn : x.1.length ≤ n) : Cov x l := fun a s hr he ha => by
 rcases Nat.lt_or_ge n a with q | q
 · exfalso
   cases hr with
   | zero => omega
   | step h1 h2 h3 h4 =>
     rename_i a0 s0 i
     have hz : (takesL x a0).1 = 0 := by
       unfold takesL
       rw [if_neg (by omega), if_neg (by omega), if_neg (by omega)]
     rw [hz] at h4
     simp at h4
 · exact h a s ha q hr he ha
theorem ends_doc {x : List Nat × Nat} {n : Nat} (hx : Right x) (hov : over x n = false) : (takesL x (n + 1)).2 = !(decide (n + 1 < x.1.length) || (decide (n + 1 = x.1.length) && decide (x.2 = 46))) := by
 rw [takes_snd hx]
 unfold over at hov
 by_cases h1 : n + 1 = x.1.length
 · rw [if_pos h1, decide_eq_true (show x.1.length ≤ n + 1 by omega), decide_eq_false (show ¬ n + 1 < x.1.length by omega), decide_eq_true h1]
   by_cases h2 : x.2 = 46 <;> simp [h2]
 · rw [if_neg h1, decide_eq_false h1]
   by_cases h2 : n + 1 < x.1.length
   · rw [decide_eq_true h2, decide_eq_false (show ¬ x.1.length ≤ n + 1 by omega)]; rfl
   · rw [decide_eq_false h2, decide_eq_true (show x.1.length ≤ n + 1 by omega)]
     rw [decide_eq_true (show x.1.length ≤ n by omega)] at hov
     simp at hov
     simp [hov]
end
end Go.Proofs.YteppdabhloieaaaGreatDoor
namespace Go.Proofs.YteppdabhloieaaaGreatDoor
section
open Go.RowKit Go.Maps Go.WideMaps Go.WideElems Classical
section
variable {κ α : Type} {K : KeyT κ} {enc : α → Value} {w : World} {b n : Nat} {f : κ → Option α}
theorem MapK.tight (h : MapK K enc w b n f) (hF : K.Full) (L : List κ) (hL : ∀ k, K.ok k → f k ≠ none → k ∈ L) : MapK K enc w b L.length f := by
 obtain ⟨D, ⟨es, clock, hb, F, hs, rfl⟩, h2, h3⟩ := h
 refine ⟨_, ⟨es, clock, hb, F, ?_, rfl⟩, h2, h3⟩
 obtain ⟨E, hE⟩ : ∃ E, (es.toList.map (rg Tryz.prog K.ty (encR enc))).foldr DataW.insert [] = E := ⟨_, rfl⟩
 have hlen : E.length = es.size := by rw [← hE]; simp [length_sorted]
 rw [hE] at h2 h3
 obtain ⟨E', e1, hd⟩ := h2
 obtain rfl : E = E' := by injection e1
 have hkey : ∀ p ∈ E, ∃ x, K.ok x ∧ p.1 = K.lit x := by
   intro p hp
   rw [← hE] at hp
   have hp' := (WideShapes.sorted_perm _).mem_iff.1 hp
   obtain ⟨e, he, rfl⟩ := List.mem_map.1 hp'
   obtain ⟨y, hy⟩ := F.reads e he
   obtain ⟨x, hx, _, hl⟩ := hF (WideElems.rd_key hy)
   exact ⟨x, hx, by rw [WideElems.rg_of hy]; exact hl⟩
 have hmem : ∀ p ∈ E, ∀ x, K.ok x → p.1 = K.lit x → x ∈ L := by
   intro p hp x hx e
   refine hL x hx fun hn => ?_
   have h4 : Maps.has (.map E : DataW α) (K.lit x) = false := Maps.has_false_of_atKey (fun z => by rw [h3 x hx, hn]; rfl)
   rw [Maps.has_eq, List.any_eq_false] at h4
   exact h4 p hp (by rw [e]; exact WideAt.sameKey_self (K.isKey hx))
 rw [← hlen]
 have key : ∀ (E : List (Lit × DataW α)), E.Pairwise (fun p q => p.1 ≠ q.1) → (∀ p ∈ E, ∃ x, K.ok x ∧ p.1 = K.lit x) → (∀ p ∈ E, ∀ x, K.ok x → p.1 = K.lit x → x ∈ L) → ∃ l : List κ, l.length = E.length ∧ l.Nodup ∧ (∀ x ∈ l, x ∈ L) ∧ ∀ x ∈ l, K.ok x ∧ ∃ p ∈ E, p.1 = K.lit x := by
   intro E
   induction E with
   | nil => intro _ _ _; exact ⟨[], rfl, List.nodup_nil, (fun x h => by cases h), (fun x h => by cases h)⟩
   | cons p E ih =>
     intro h1 h2 h3
     obtain ⟨a1, a2⟩ := List.pairwise_cons.1 h1
     obtain ⟨l, l1, l2, l3, l4⟩ := ih a2 (fun q hq => h2 q (by simp [hq])) (fun q hq => h3 q (by simp [hq]))
     obtain ⟨x, hx, ex⟩ := h2 p (by simp)
     refine ⟨x :: l, by simp [l1], List.nodup_cons.2 ⟨fun hm => ?_, l2⟩, fun y hy => ?_, fun y hy => ?_⟩
     · obtain ⟨_, q, hq, eq⟩ := l4 x hm
       exact a1 q hq (by rw [ex, eq])
     · rcases List.mem_cons.1 hy with rfl | hy
       · exact h3 p (by simp) _ hx ex
       · exact l3 y hy
     · rcases List.mem_cons.1 hy with rfl | hy
       · exact ⟨hx, p, by simp, ex⟩
       · obtain ⟨b1, q, hq, eq⟩ := l4 y hy
         exact ⟨b1, q, by simp [hq], eq⟩
 obtain ⟨l, l1, l2, l3, _⟩ := key E hd hkey hmem
 rw [← l1]
 exact nodup_len' l2 l3
end
theorem SetP.tight {κ : Type} {K : KeyT κ} {w : World} {b n : Nat} {C : κ → Prop} (h : SetP K w b n C) (hF : K.Full) (L : List κ) (hL : ∀ k, K.ok k → C k → k ∈ L) : SetP K w b L.length C :=
 MapK.tight h hF L fun k hk hn => hL k hk (by
   cases hs : setF C k with
   | none => exact absurd hs hn
   | some v => exact (setF_some hs).1)
section
variable {κ : Type} {K : KeyT κ} {w : World} {ops : Array Oper} {rest : List Oper} {o : Oper} {a : Act} {Q : Exit → Act → World → Prop} {b n : Nat} {C : κ → Prop}
theorem wpl_pnext {r cnt : Nat} {L : κ → Bool} (hinv : K.Full) (hgd : o.guard = none) (it : Operand) (hop : o.op = Op.next it false) (hit : a.eval it = .pointer (some ⟨r, 0, none⟩)) (h : RngK K Value.bool w b r n (setF C) L cnt)
   (hDone : (∀ k, K.ok k → L k = false) → wpList Tryz.prog ops Q rest (a.put o.dst (.tuple #[.bool false])) w)
   (hMore : ∀ (x : κ) w' cnt', K.ok x → C x → L x = true → RngK K Value.bool w' b r n (setF C) (fun k => L k && !decide (k = x)) cnt' → cnt' < cnt → w.grownBy w' (some r) → w'.heap.size = w.heap.size →
     (Instr.entry (.pointer (some ⟨r, 0, none⟩))).run Tryz.prog w' = .ok (.tuple #[K.val x, .bool true]) w' → wpList Tryz.prog ops Q rest (a.put o.dst (.tuple #[.bool true, K.val x, .bool true])) w') : wpList Tryz.prog ops Q (o :: rest) a w := by
 refine wpl_knext hinv bool_inj hgd it hop hit h hDone fun x c w' cnt' h1 h2 h3 h4 h5 h6 h7 h8 => ?_
 obtain ⟨hc, rfl⟩ := setF_some h2
 refine hMore x w' cnt' h1 hc h3 ?_ h5 h6 h7 h8
 have e : (fun k => L k && !decide (k = x)) = (fun k => L k && decide (k ≠ x)) := by funext k; simp
 rw [e]; exact h4
theorem wpl_bytesOf (hgd : o.guard = none) (x : Operand) (src dst e : TypeId) {u : TypeDesc} (hop : o.op = Op.convert src dst x) (hs : Tryz.prog.underlying src = some u) (hd : Tryz.prog.underlying dst = some (.slice e)) (he : Tryz.prog.underlying e = some (.int .u8)) (s : ByteArray) (hx : a.eval x = .string s)
   (hK : ∀ w' A c, Ints .u8 w' w.heap.size A s.size c ((nb s).map (fun b : Nat => (b : Int))) → w.grownBy w' none → wpList Tryz.prog ops Q rest (a.put o.dst (.slice A s.size c)) w') : wpList Tryz.prog ops Q (o :: rest) a w := by
 refine wpList_plain hgd fun K' hK' => ?_
 have hrun := Lib.run_convert_string_bytes (P := Tryz.prog) w src dst e s hs hd he
 unfold Oper.wp
 simp [execOp, hop, hx, hrun, Result.andThen]
 refine hK' _ _ (hK _ _ _ ⟨by simp [nb_len], grownCap_ge w s.size 0 e, fun hn => ⟨_, 0, rfl, Nat.le_refl _, by rw [Lib.bytesWorld_size]; omega, fun j u hu => ?_⟩⟩ ⟨rfl, rfl, rfl, by rw [Lib.bytesWorld_size]; omega, fun k hk _ => Lib.bytesWorld_at_old w e s k hk⟩)
 rw [Nat.zero_add]
 have hj : j < s.size := by have := (List.getElem?_eq_some_iff.1 hu).1; simpa [nb_len] using this
 rw [Lib.bytesWorld_cell w e s j hj]
 rw [List.getElem?_map, List.getElem?_map] at hu
 have h1 : (nb s)[j]? = some (s.data.toList.getD j 0).toNat := by
   unfold nb
   rw [List.getElem?_map, List.getD_eq_getElem?_getD, List.getElem?_eq_getElem (by simpa using hj)]
   rfl
 rw [h1] at hu
 exact hu
end
end
end Go.Proofs.YteppdabhloieaaaGreatDoor

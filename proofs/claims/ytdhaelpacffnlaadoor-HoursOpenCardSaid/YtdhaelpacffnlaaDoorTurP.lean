/- Hours in plain Lean: when they are open, and the moments at which they open or close, counted in two ways. Conditions: none. -/
import Derived.Test.YtdhaelpacffnlaaDoorRec
namespace Go.Proofs.YtdhaelpacffnlaaDoor

/-! Open or closed. -/
/-- A day of the week, as bits. -/
def dayB (days wk : Int) : Bool := decide (days / 2 ^ wk.toNat % 2 = 1)
/-- Open in a minute that is counted by the clocks of the place. -/
def openM (rows hol : List (Int × Int × Int)) (M : Int) : Bool :=
  match hol.find? (fun d => d.1 == M / 1440) with
  | some d => decide (d.2.1 ≤ M % 1440) && decide (M % 1440 < d.2.2)
  | none => rows.any fun r => dayB r.1 (M / 1440 % 7) && (decide (r.2.1 ≤ M % 1440) && decide (M % 1440 < r.2.2))
def openAt (zone : Int) (rows hol : List (Int × Int × Int)) (t : Int) : Bool := openM rows hol (t / 60000 + zone)

theorem day_of (z t : Int) : (t + z * 60000) / 86400000 = (t / 60000 + z) / 1440 := by omega
theorem min_of (z t : Int) : (t + z * 60000 - (t + z * 60000) / 86400000 * 86400000) / 60000 = (t / 60000 + z) % 1440 := by omega

theorem find_cong {α : Type} {p q : α → Bool} {l : List α} (h : ∀ a ∈ l, p a = q a) : l.find? p = l.find? q := by
  induction l with
  | nil => rfl
  | cons a l ih => rw [List.find?_cons, List.find?_cons, h a (by simp), ih (fun b hb => h b (by simp [hb]))]
theorem any_cong {α : Type} {p q : α → Bool} {l : List α} (h : ∀ a ∈ l, p a = q a) : l.any p = l.any q := by
  induction l with
  | nil => rfl
  | cons a l ih => rw [List.any_cons, List.any_cons, h a (by simp), ih (fun b hb => h b (by simp [hb]))]
/-- Something changes only at the bounds. -/
theorem open_change {rows hol : List (Int × Int × Int)} {M : Int} (h0 : M % 1440 ≠ 0) (hr : ∀ r ∈ rows, M % 1440 ≠ r.2.1 ∧ M % 1440 ≠ r.2.2) (hh : ∀ r ∈ hol, M % 1440 ≠ r.2.1 ∧ M % 1440 ≠ r.2.2) : openM rows hol (M - 1) = openM rows hol M := by
  have e1 : (M - 1) / 1440 = M / 1440 := by omega
  have e2 : (M - 1) % 1440 = M % 1440 - 1 := by omega
  unfold openM
  rw [e1, e2]
  cases hf : hol.find? (fun d => d.1 == M / 1440) with
  | some d =>
    obtain ⟨a, b⟩ := hh d (List.mem_of_find?_eq_some hf)
    show (decide (d.2.1 ≤ M % 1440 - 1) && decide (M % 1440 - 1 < d.2.2)) = (decide (d.2.1 ≤ M % 1440) && decide (M % 1440 < d.2.2))
    rw [Bool.eq_iff_iff]; simp; omega
  | none =>
    refine any_cong fun r hrm => ?_
    obtain ⟨a, b⟩ := hr r hrm
    congr 1
    rw [Bool.eq_iff_iff]; simp; omega

/-! Two lists that rise and have the same members are one. -/
theorem rise_eq : ∀ {l m : List Int}, l.Pairwise (· < ·) → m.Pairwise (· < ·) → (∀ x, x ∈ l ↔ x ∈ m) → l = m
  | [], [], _, _, _ => rfl
  | [], b :: m, _, _, h => absurd ((h b).2 (by simp)) (by simp)
  | a :: l, [], _, _, h => absurd ((h a).1 (by simp)) (by simp)
  | a :: l, b :: m, hl, hm, h => by
    obtain ⟨l1, l2⟩ := List.pairwise_cons.1 hl
    obtain ⟨m1, m2⟩ := List.pairwise_cons.1 hm
    have e : a = b := by
      rcases List.mem_cons.1 ((h a).1 (by simp)) with e | e
      · exact e
      · rcases List.mem_cons.1 ((h b).2 (by simp)) with e' | e'
        · exact e'.symm
        · have := m1 a e; have := l1 b e'; omega
    subst e
    refine congrArg (a :: ·) (rise_eq l2 m2 fun x => ⟨fun hx => ?_, fun hx => ?_⟩)
    · rcases List.mem_cons.1 ((h x).1 (by simp [hx])) with e | e
      · subst e; have := l1 x hx; omega
      · exact e
    · rcases List.mem_cons.1 ((h x).2 (by simp [hx])) with e | e
      · subst e; have := m1 x hx; omega
      · exact e

/-! The program's way: minute by minute. -/
def visit (fr : Int) : Nat → Int
  | 0 => fr
  | k + 1 => (fr / 60000 + (k + 1 : Nat)) * 60000
theorem visit_succ (fr : Int) (k : Nat) : visit fr k + (60000 - visit fr k % 60000) = visit fr (k + 1) := by
  cases k with
  | zero => show fr + (60000 - fr % 60000) = (fr / 60000 + ((0 + 1 : Nat) : Int)) * 60000; omega
  | succ k => show (fr / 60000 + ((k + 1 : Nat) : Int)) * 60000 + (60000 - (fr / 60000 + ((k + 1 : Nat) : Int)) * 60000 % 60000) = (fr / 60000 + ((k + 1 + 1 : Nat) : Int)) * 60000; omega
theorem visit_lt (fr : Int) (k : Nat) : visit fr k < visit fr (k + 1) := by
  rw [← visit_succ]; omega
theorem visit_mono (fr : Int) {i k : Nat} (h : i < k) : visit fr i < visit fr k := by
  induction k with
  | zero => omega
  | succ k ih =>
    have := visit_lt fr k
    by_cases e : i = k
    · subst e; exact this
    · have := ih (by omega); omega
theorem visit_ge (fr : Int) (k : Nat) : fr + 60000 * k - 60000 ≤ visit fr k := by
  cases k with
  | zero => show _ ≤ fr; omega
  | succ k => show _ ≤ (fr / 60000 + ((k + 1 : Nat) : Int)) * 60000; omega
theorem visit_min (fr : Int) (k : Nat) : visit fr k / 60000 = fr / 60000 + k := by
  cases k with
  | zero => show fr / 60000 = _; omega
  | succ k => show (fr / 60000 + ((k + 1 : Nat) : Int)) * 60000 / 60000 = _; omega
theorem visit_pos (fr : Int) {k : Nat} (h : 0 < k) : visit fr k = (fr / 60000 + k) * 60000 := by
  cases k with
  | zero => omega
  | succ k => rfl
def wasB (op : Int → Bool) (fr : Int) : Nat → Bool
  | 0 => false
  | k + 1 => op (visit fr k)
def turnsL (op : Int → Bool) (fr : Int) : Nat → List Int
  | 0 => []
  | k + 1 => turnsL op fr k ++ (if op (visit fr k) = wasB op fr k then [] else [visit fr k])
theorem turns_len (op : Int → Bool) (fr : Int) (k : Nat) : (turnsL op fr k).length ≤ k := by
  induction k with
  | zero => exact Nat.le_refl _
  | succ k ih => unfold turnsL; split <;> simp <;> omega
theorem turns_mem {op : Int → Bool} {fr : Int} {N : Nat} {x : Int} : x ∈ turnsL op fr N ↔ ∃ k, k < N ∧ x = visit fr k ∧ op (visit fr k) ≠ wasB op fr k := by
  induction N with
  | zero => simp [turnsL]
  | succ N ih =>
    unfold turnsL
    rw [List.mem_append, ih]
    constructor
    · rintro (⟨k, h1, h2, h3⟩ | h)
      · exact ⟨k, by omega, h2, h3⟩
      · split at h
        · cases h
        · rename_i hne
          exact ⟨N, by omega, List.mem_singleton.1 h, hne⟩
    · rintro ⟨k, h1, h2, h3⟩
      by_cases e : k = N
      · subst e; right; rw [if_neg h3, h2]; exact List.mem_singleton.2 rfl
      · exact .inl ⟨k, by omega, h2, h3⟩
theorem turns_rise (op : Int → Bool) (fr : Int) (N : Nat) : (turnsL op fr N).Pairwise (· < ·) := by
  induction N with
  | zero => exact List.Pairwise.nil
  | succ N ih =>
    unfold turnsL
    rw [List.pairwise_append]
    refine ⟨ih, by split <;> simp, fun a ha b hb => ?_⟩
    obtain ⟨k, h1, h2, _⟩ := turns_mem.1 ha
    split at hb
    · cases hb
    · rw [List.mem_singleton.1 hb, h2]; exact visit_mono fr h1

/-! The document's way: the bounds of each day. -/
def bndAt (zone day m : Int) : Int := day * 86400000 + (m - zone) * 60000
def bndB (op : Int → Bool) (fr til zone day m : Int) : Bool := decide (m < 1440) && (decide (fr < bndAt zone day m) && (decide (bndAt zone day m < til) && (op (bndAt zone day m) != op (bndAt zone day m - 1))))
def bndDay (op : Int → Bool) (fr til zone day : Int) (ms : List Int) : List Int := (ms.filter (bndB op fr til zone day)).map (bndAt zone day)
def bndHead (op : Int → Bool) (fr til : Int) : List Int := if fr < til then (if op fr then [fr] else []) else []
def bndDays (op : Int → Bool) (fr til zone : Int) (ms : List Int) (first : Int) : Nat → List Int
  | 0 => bndHead op fr til
  | d + 1 => bndDays op fr til zone ms first d ++ bndDay op fr til zone (first + d) ms
theorem head_mem {op : Int → Bool} {fr til x : Int} : x ∈ bndHead op fr til ↔ x = fr ∧ fr < til ∧ op fr = true := by
  unfold bndHead
  by_cases h1 : fr < til <;> by_cases h2 : op fr = true <;> simp [h1, h2]
theorem day_mem {op : Int → Bool} {fr til zone day x : Int} {ms : List Int} : x ∈ bndDay op fr til zone day ms ↔ ∃ m, m ∈ ms ∧ m < 1440 ∧ fr < x ∧ x < til ∧ op x ≠ op (x - 1) ∧ x = bndAt zone day m := by
  unfold bndDay
  rw [List.mem_map]
  constructor
  · rintro ⟨m, hm, rfl⟩
    obtain ⟨h1, h2⟩ := List.mem_filter.1 hm
    unfold bndB at h2
    simp only [Bool.and_eq_true, decide_eq_true_eq, bne_iff_ne] at h2
    exact ⟨m, h1, h2.1, h2.2.1, h2.2.2.1, h2.2.2.2, rfl⟩
  · rintro ⟨m, h1, h2, h3, h4, h5, rfl⟩
    refine ⟨m, List.mem_filter.2 ⟨h1, ?_⟩, rfl⟩
    unfold bndB
    simp only [Bool.and_eq_true, decide_eq_true_eq, bne_iff_ne]
    exact ⟨h2, h3, h4, h5⟩
theorem days_mem {op : Int → Bool} {fr til zone first x : Int} {ms : List Int} {n : Nat} : x ∈ bndDays op fr til zone ms first n ↔ (x = fr ∧ fr < til ∧ op fr = true) ∨ ∃ d m, d < n ∧ m ∈ ms ∧ m < 1440 ∧ fr < x ∧ x < til ∧ op x ≠ op (x - 1) ∧ x = bndAt zone (first + (d : Nat)) m := by
  induction n with
  | zero =>
    unfold bndDays
    rw [head_mem]
    exact ⟨.inl, fun h => h.elim id fun ⟨d, _, h, _⟩ => absurd h (by omega)⟩
  | succ n ih =>
    unfold bndDays
    rw [List.mem_append, ih, day_mem]
    constructor
    · rintro ((h | ⟨d, m, h1, h⟩) | ⟨m, h⟩)
      · exact .inl h
      · exact .inr ⟨d, m, by omega, h⟩
      · exact .inr ⟨n, m, by omega, h⟩
    · rintro (h | ⟨d, m, h1, h⟩)
      · exact .inl (.inl h)
      · by_cases e : d = n
        · subst e; exact .inr ⟨m, h⟩
        · exact .inl (.inr ⟨d, m, by omega, h⟩)
theorem pw_mono {α : Type} {R S : α → α → Prop} (h : ∀ a b, R a b → S a b) {l : List α} (hl : l.Pairwise R) : l.Pairwise S := by
  induction hl with
  | nil => exact List.Pairwise.nil
  | cons h1 _ ih => exact List.Pairwise.cons (fun a ha => h _ _ (h1 a ha)) ih
theorem day_rise {op : Int → Bool} {fr til zone day : Int} {ms : List Int} (hs : ms.Pairwise (· < ·)) : (bndDay op fr til zone day ms).Pairwise (· < ·) := by
  unfold bndDay
  rw [List.pairwise_map]
  refine pw_mono (fun a b h => ?_) (hs.filter _)
  unfold bndAt; omega
theorem days_rise {op : Int → Bool} {fr til zone first : Int} {ms : List Int} (hs : ms.Pairwise (· < ·)) (h0 : ∀ m ∈ ms, 0 ≤ m) (n : Nat) : (bndDays op fr til zone ms first n).Pairwise (· < ·) := by
  induction n with
  | zero => unfold bndDays bndHead; split <;> (try split) <;> simp
  | succ n ih =>
    unfold bndDays
    rw [List.pairwise_append]
    refine ⟨ih, day_rise hs, fun a ha b hb => ?_⟩
    obtain ⟨m, hm, h1, h2, h3, h4, h5⟩ := day_mem.1 hb
    rcases days_mem.1 ha with ⟨rfl, _⟩ | ⟨d, m', g1, g2, g3, _, _, _, g4⟩
    · exact h2
    · have := h0 m hm
      rw [h5, g4]; unfold bndAt; omega

/-- Both ways count the same moments. -/
theorem turns_eq {zone fr til : Int} {rows hol : List (Int × Int × Int)} {ms : List Int} (hs : ms.Pairwise (· < ·)) (h0 : ∀ m ∈ ms, 0 ≤ m)
    (hm : ∀ x, x = 0 ∨ (∃ r, r ∈ rows ∧ (x = r.2.1 ∨ x = r.2.2)) ∨ (∃ r, r ∈ hol ∧ (x = r.2.1 ∨ x = r.2.2)) → x ∈ ms) {N n : Nat} (hN : til ≤ visit fr N) (hN' : ∀ k, k < N → visit fr k < til)
    (hn : ((til + zone * 60000) / 86400000 - (fr + zone * 60000) / 86400000 + 1).toNat = n) :
    turnsL (openAt zone rows hol) fr N = bndDays (openAt zone rows hol) fr til zone ms ((fr + zone * 60000) / 86400000) n := by
  refine rise_eq (turns_rise _ _ _) (days_rise hs h0 _) fun x => ?_
  rw [turns_mem, days_mem]
  constructor
  · rintro ⟨k, hk, hx, hne⟩
    have hlt := hN' k hk
    cases k with
    | zero =>
      left
      have hx' : x = fr := hx
      refine ⟨hx', hlt, ?_⟩
      have : openAt zone rows hol fr ≠ false := hne
      simpa using this
    | succ k =>
      right
      have h1 := visit_mono fr (Nat.succ_pos k)
      have h2 : fr < visit fr (k + 1) := h1
      have hm1 := visit_min fr (k + 1)
      have hm0 := visit_min fr k
      have hp := visit_pos fr (Nat.succ_pos k)
      have hq : (visit fr (k + 1) - 1) / 60000 = visit fr k / 60000 := by rw [hm0, hp]; omega
      have hop : openAt zone rows hol (visit fr (k + 1) - 1) = openAt zone rows hol (visit fr k) := by unfold openAt; rw [hq]
      have hne' : openAt zone rows hol (visit fr (k + 1)) ≠ openAt zone rows hol (visit fr (k + 1) - 1) := by rw [hop]; exact hne
      obtain ⟨M, hM⟩ : ∃ M, visit fr (k + 1) / 60000 + zone = M := ⟨_, rfl⟩
      have hM1 : (visit fr (k + 1) - 1) / 60000 + zone = M - 1 := by rw [← hM, hp]; omega
      have hin : M % 1440 ∈ ms := by
        refine hm _ ?_
        by_cases c0 : M % 1440 = 0
        · exact .inl c0
        · by_cases c1 : ∃ r, r ∈ rows ∧ (M % 1440 = r.2.1 ∨ M % 1440 = r.2.2)
          · exact .inr (.inl c1)
          · by_cases c2 : ∃ r, r ∈ hol ∧ (M % 1440 = r.2.1 ∨ M % 1440 = r.2.2)
            · exact .inr (.inr c2)
            · exfalso
              apply hne'
              unfold openAt
              rw [hM, hM1]
              exact (open_change c0 (fun r hr => ⟨fun e => c1 ⟨r, hr, .inl e⟩, fun e => c1 ⟨r, hr, .inr e⟩⟩) (fun r hr => ⟨fun e => c2 ⟨r, hr, .inl e⟩, fun e => c2 ⟨r, hr, .inr e⟩⟩)).symm
      have hxM : x = (M - zone) * 60000 := by rw [hx, hp, ← hM, hm1]; omega
      have hd0 : (fr + zone * 60000) / 86400000 ≤ M / 1440 := by omega
      refine ⟨(M / 1440 - (fr + zone * 60000) / 86400000).toNat, M % 1440, ?_, hin, by omega, by omega, by omega, by rw [hx]; exact hne', ?_⟩
      · omega
      · rw [Int.toNat_of_nonneg (by omega), hxM]; unfold bndAt; omega
  · rintro (⟨rfl, h1, h2⟩ | ⟨d, m, h1, h2, h3, h4, h5, h6, h7⟩)
    · refine ⟨0, ?_, rfl, ?_⟩
      · rcases Nat.eq_zero_or_pos N with e | e
        · subst e; have : til ≤ x := hN; omega
        · exact e
      · show openAt zone rows hol x ≠ false
        rw [h2]; decide
    · unfold bndAt at h7
      obtain ⟨q, hq⟩ : ∃ q, x = q * 60000 := ⟨((fr + zone * 60000) / 86400000 + (d : Int)) * 1440 + (m - zone), by rw [h7]; omega⟩
      obtain ⟨k, hk⟩ : ∃ k : Nat, (k : Int) = q - fr / 60000 := ⟨(q - fr / 60000).toNat, by omega⟩
      have k0 : 0 < k := by omega
      have hv : x = visit fr k := by rw [visit_pos fr k0, hq]; omega
      refine ⟨k, ?_, hv, ?_⟩
      · rcases Nat.lt_or_ge k N with e | e
        · exact e
        · exfalso
          rcases Nat.lt_or_ge N k with e2 | e2
          · have := visit_mono fr e2; omega
          · have : k = N := by omega
            subst this; omega
      · obtain ⟨k, rfl⟩ : ∃ j, k = j + 1 := ⟨k - 1, by omega⟩
        show openAt zone rows hol (visit fr (k + 1)) ≠ openAt zone rows hol (visit fr k)
        have hm0 := visit_min fr k
        have hp := visit_pos fr k0
        have hq2 : (visit fr (k + 1) - 1) / 60000 = visit fr k / 60000 := by rw [hm0, hp]; omega
        have hop : openAt zone rows hol (visit fr (k + 1) - 1) = openAt zone rows hol (visit fr k) := by unfold openAt; rw [hq2]
        rw [← hop, ← hv]; exact h6
end Go.Proofs.YtdhaelpacffnlaaDoor

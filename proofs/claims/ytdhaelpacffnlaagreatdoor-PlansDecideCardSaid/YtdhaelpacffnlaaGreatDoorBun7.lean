/- Ways through the contexts of a plan, in plain Lean: colours, what comes after one, the order in which they are asked. Conditions: none. -/
import Derived.Test.YtdhaelpacffnlaaGreatDoorBun6
import Derived.Test.YtdhaelpacffnlaaGreatDoorBun1
import Derived.WalkKit
import Derived.Deep.QuietTactic
import Derived.BigQuiet
import Derived.ChangeKeysEq
namespace Go.Proofs.YtdhaelpacffnlaaGreatDoor
section

theorem Path.snoc {S : Nat → List Nat} {i j k : Nat} (h : Path S i j) (e : k ∈ S j) : Path S i k := by
  induction h with
  | one h => exact .more h (.one e)
  | more h _ ih => exact .more h (ih e)
theorem Path.bd {S : Nat → List Nat} {n i j : Nat} (hS : ∀ i j, j ∈ S i → j < n) (h : Path S i j) : j < n := by
  induction h with
  | one h => exact hS _ _ h
  | more _ _ ih => exact ih

/-! Colours: 0 not seen, 1 on the way, 2 done. -/
def sAt (st : List Int) (i : Nat) : Int := st.getD i 0
theorem sAt_get {st : List Int} {i : Nat} {v : Int} (h : st[i]? = some v) : sAt st i = v := by unfold sAt; rw [List.getD_eq_getElem?_getD, h]; rfl
theorem sAt_set {st : List Int} {i j : Nat} {v : Int} (hi : i < st.length) : sAt (st.set i v) j = if i = j then v else sAt st j := by
  unfold sAt
  rw [List.getD_eq_getElem?_getD, List.getD_eq_getElem?_getD, List.getElem?_set]
  by_cases e : i = j
  · subst e; simp [hi]
  · rw [if_neg e, if_neg e]
def zer (st : List Int) : Nat := st.count 0
theorem zer_set {st : List Int} {i : Nat} {v : Int} (h : st[i]? = some 0) (hv : v ≠ 0) : zer (st.set i v) < zer st := by
  obtain ⟨hl, e⟩ := List.getElem?_eq_some_iff.1 h
  have h1 : 0 < st.count 0 := List.count_pos_iff.2 (by rw [← e]; exact List.getElem_mem _)
  unfold zer
  rw [List.count_set hl, e]
  simp [hv]
  omega
theorem zer_up {st : List Int} {i : Nat} {v u : Int} (h : st[i]? = some u) (hv : v ≠ 0) : zer (st.set i v) ≤ zer st := by
  obtain ⟨hl, e⟩ := List.getElem?_eq_some_iff.1 h
  unfold zer
  rw [List.count_set hl, e]
  simp [hv]
/-- What is done is closed, and on no circle. -/
def DfsInv (S : Nat → List Nat) (n : Nat) (st : List Int) : Prop := st.length = n ∧ (∀ (i : Nat) (v : Int), st[i]? = some v → v = 0 ∨ v = 1 ∨ v = 2) ∧ ∀ b, sAt st b = 2 → (∀ j, j ∈ S b → sAt st j = 2) ∧ ¬ Path S b b
theorem DfsInv.path {S : Nat → List Nat} {n : Nat} {st : List Int} (h : DfsInv S n st) {b k : Nat} (hp : Path S b k) (hb : sAt st b = 2) : sAt st k = 2 := by
  induction hp with
  | one e => exact (h.2.2 _ hb).1 _ e
  | more e _ ih => exact ih ((h.2.2 _ hb).1 _ e)
theorem DfsInv.new (S : Nat → List Nat) (n : Nat) : DfsInv S n (List.replicate n 0) := by
  refine ⟨by simp, fun i v h => ?_, fun b h => ?_⟩
  · rw [List.getElem?_replicate] at h
    split at h
    · injection h with h; exact .inl h.symm
    · cases h
  · unfold sAt at h
    rw [List.getD_eq_getElem?_getD, List.getElem?_replicate] at h
    split at h <;> simp at h
theorem DfsInv.start {S : Nat → List Nat} {n : Nat} {st : List Int} (h : DfsInv S n st) {i : Nat} (hi : st[i]? = some 0) : DfsInv S n (st.set i 1) := by
  have hl := (List.getElem?_eq_some_iff.1 hi).1
  have h0 := sAt_get hi
  refine ⟨by simp [h.1], fun j v hv => ?_, fun b hb => ?_⟩
  · rw [List.getElem?_set] at hv
    split at hv
    · injection hv with hv; exact .inr (.inl hv.symm)
    · exact h.2.1 j v hv
  · rw [sAt_set hl] at hb
    by_cases e : i = b
    · rw [if_pos e] at hb; omega
    · rw [if_neg e] at hb
      refine ⟨fun j hj => ?_, (h.2.2 b hb).2⟩
      have := (h.2.2 b hb).1 j hj
      rw [sAt_set hl]
      by_cases e2 : i = j
      · subst e2; omega
      · rw [if_neg e2]; exact this
theorem DfsInv.done {S : Nat → List Nat} {n : Nat} {st : List Int} (h : DfsInv S n st) {i : Nat} (hi : i < n) (h1 : sAt st i = 1) (hs : ∀ j, j ∈ S i → sAt st j = 2) : DfsInv S n (st.set i 2) := by
  have hl : i < st.length := by rw [h.1]; exact hi
  have hno : ¬ Path S i i := by
    intro hp
    cases hp with
    | one e => have := hs _ e; omega
    | more e hp => have := h.path hp (hs _ e); omega
  refine ⟨by simp [h.1], fun j v hv => ?_, fun b hb => ?_⟩
  · rw [List.getElem?_set] at hv
    split at hv
    · injection hv with hv; exact .inr (.inr hv.symm)
    · exact h.2.1 j v hv
  · rw [sAt_set hl] at hb
    by_cases e : i = b
    · subst e
      refine ⟨fun j hj => ?_, hno⟩
      rw [sAt_set hl]
      by_cases e2 : i = j
      · rw [if_pos e2]
      · rw [if_neg e2]; exact hs j hj
    · rw [if_neg e] at hb
      refine ⟨fun j hj => ?_, (h.2.2 b hb).2⟩
      rw [sAt_set hl]
      by_cases e2 : i = j
      · rw [if_pos e2]
      · rw [if_neg e2]; exact (h.2.2 b hb).1 j hj
/-- What a call leaves that found no circle. -/
def DfsOn (st st' : List Int) : Prop := (∀ g, sAt st' g = 1 ↔ sAt st g = 1) ∧ (∀ b, sAt st b = 2 → sAt st' b = 2) ∧ zer st' ≤ zer st
theorem DfsOn.refl (st : List Int) : DfsOn st st := ⟨fun _ => Iff.rfl, fun _ h => h, Nat.le_refl _⟩
theorem DfsOn.trans {a b c : List Int} (h : DfsOn a b) (k : DfsOn b c) : DfsOn a c := ⟨fun g => (k.1 g).trans (h.1 g), fun g hg => k.2.1 g (h.2.1 g hg), Nat.le_trans k.2.2 h.2.2⟩
def DfsPre (S : Nat → List Nat) (st : List Int) (i : Nat) : Prop := ∀ g, sAt st g = 1 → Path S g i
def DfsPost (S : Nat → List Nat) (n : Nat) (st : List Int) (i : Nat) (b : Bool) (st' : List Int) : Prop :=
  st'.length = n ∧ (b = true → ∃ k, k < n ∧ Path S k k) ∧ (b = false → DfsInv S n st' ∧ DfsOn st st' ∧ sAt st' i = 2)
theorem dfs_pre {S : Nat → List Nat} {st st1 : List Int} {i j : Nat} (hp : DfsPre S st i) (hi : i < st.length) (ho : DfsOn (st.set i 1) st1) (hj : j ∈ S i) : DfsPre S st1 j := by
  intro g hg
  have := (ho.1 g).1 hg
  rw [sAt_set hi] at this
  by_cases e : i = g
  · subst e; exact .one hj
  · rw [if_neg e] at this; exact (hp g this).snoc hj
theorem dfs_post {S : Nat → List Nat} {n : Nat} {st st1 : List Int} {i : Nat} (h0 : st[i]? = some 0) (hin : i < n) (hv : DfsInv S n st1) (ho : DfsOn (st.set i 1) st1) (hs : ∀ j, j ∈ S i → sAt st1 j = 2) : DfsPost S n st i false (st1.set i 2) := by
  have hl := (List.getElem?_eq_some_iff.1 h0).1
  have h1 : sAt st1 i = 1 := (ho.1 i).2 (by rw [sAt_set hl, if_pos rfl])
  have hl1 : i < st1.length := by rw [hv.1]; exact hin
  refine ⟨(by rw [List.length_set]; exact hv.1), (fun e => by cases e), fun _ => ⟨hv.done hin h1 hs, ⟨fun g => ?_, fun b hb => ?_, ?_⟩, by rw [sAt_set hl1, if_pos rfl]⟩⟩
  · rw [sAt_set hl1]
    have e0 := sAt_get h0
    by_cases e : i = g
    · subst e; rw [if_pos rfl]; omega
    · rw [if_neg e]
      have := ho.1 g
      rw [sAt_set hl, if_neg e] at this
      exact this
  · rw [sAt_set hl1]
    by_cases e : i = b
    · rw [if_pos e]
    · rw [if_neg e]
      refine ho.2.1 b ?_
      rw [sAt_set hl, if_neg e]; exact hb
  · have h2 := zer_set (v := 1) h0 (by decide)
    have h3 : zer (st1.set i 2) ≤ zer st1 := zer_up (u := st1[i]) (List.getElem?_eq_getElem hl1) (by decide)
    have := ho.2.2
    omega
theorem dfs_loops {l : List CxV} (h : ∃ k, k < l.length ∧ Path (incIx l) k k) : Loops l := h
theorem dfs_none {l : List CxV} {st : List Int} (hv : DfsInv (incIx l) l.length st) (hs : ∀ i, i < l.length → sAt st i = 2) : ¬ Loops l := by
  rintro ⟨i, hi, hp⟩
  exact (hv.2.2 i (hs i hi)).2 hp

/-! What comes after one. -/
/-- The strings of some contexts' keys. -/
def keysOf (l : List CxV) (is : List Nat) : List ByteArray := is.map fun i => (l[i]?).elim ⟨#[]⟩ (·.key)
/-- No two contexts have one key. -/
def Keyed1 (l : List CxV) : Prop := ∀ (i j : Nat) (a b : CxV), l[i]? = some a → l[j]? = some b → nb a.key = nb b.key → i = j
theorem cxIx_at {l : List CxV} {i : Nat} {z : CxV} (hk : Keyed1 l) (h : l[i]? = some z) {s : ByteArray} (hs : nb z.key = nb s) : cxIx l s = i := by
  unfold cxIx
  refine idxP_some (i := i) (z := z) ?_ h (by simpa using hs)
  rw [List.all_eq_true]
  intro x hx
  obtain ⟨j, hj⟩ := List.mem_iff_getElem?.1 hx
  rw [List.getElem?_take] at hj
  split at hj
  · rename_i hlt
    have : nb x.key ≠ nb s := fun e => by
      have := hk j i x z hj h (e.trans hs.symm)
      omega
    simpa using this
  · cases hj
theorem cxIx_some {l : List CxV} {s : ByteArray} (h : 0 ≤ cxIx l s) : ∃ (i : Nat) (z : CxV), cxIx l s = i ∧ l[i]? = some z ∧ nb z.key = nb s := by
  unfold cxIx at h ⊢
  have ha : l.any (fun c : CxV => nb c.key == nb s) = true := by
    rw [← idxP_any]; exact decide_eq_true h
  obtain ⟨x, hx, hp⟩ := List.any_eq_true.1 ha
  have hlt : l.findIdx (fun c : CxV => nb c.key == nb s) < l.length := List.findIdx_lt_length_of_exists ⟨x, hx, hp⟩
  refine ⟨l.findIdx (fun c : CxV => nb c.key == nb s), l[l.findIdx (fun c : CxV => nb c.key == nb s)], ?_, List.getElem?_eq_getElem hlt, ?_⟩
  · unfold idxP; rw [if_pos ha]
  · have := List.findIdx_getElem (w := hlt)
    simpa using this
theorem mis_no {l : List CxV} (h : misB l = false) {i : Nat} {z : CxV} (hz : l[i]? = some z) {s : ByteArray} (hs : s ∈ z.incs) : 0 ≤ cxIx l s := by
  unfold misB at h
  rw [List.any_eq_false] at h
  have h1 := h z (List.mem_iff_getElem?.2 ⟨i, hz⟩)
  unfold misC at h1
  rw [Bool.not_eq_true, List.any_eq_false] at h1
  have h2 := h1 s hs
  simp at h2
  exact h2
theorem incIx_at {l : List CxV} {i : Nat} {z : CxV} (hz : l[i]? = some z) : incIx l i = z.incs.map fun s => (cxIx l s).toNat := by unfold incIx; rw [hz]; rfl
theorem incIx_bd {l : List CxV} (h : misB l = false) : ∀ i j, j ∈ incIx l i → j < l.length := by
  intro i j hj
  unfold incIx at hj
  cases hz : l[i]? with
  | none => rw [hz] at hj; simp at hj
  | some z =>
    rw [hz] at hj
    obtain ⟨s, hs, rfl⟩ := List.mem_map.1 hj
    obtain ⟨k, y, e, hy, _⟩ := cxIx_some (mis_no h hz hs)
    rw [e]
    exact (List.getElem?_eq_some_iff.1 hy).1
theorem nodup_le {l : List Nat} {n : Nat} (h : l.Nodup) (hb : ∀ x ∈ l, x < n) : l.length ≤ n := by
  have := h.length_le_of_subset (l₂ := List.range n) (fun x hx => List.mem_range.2 (hb x hx))
  rwa [List.length_range] at this
theorem nodup_snoc {l : List Nat} {k : Nat} (h : l.Nodup) (hk : k ∉ l) : (l ++ [k]).Nodup := by
  rw [List.nodup_append]
  exact ⟨h, by simp, fun a ha b hb => by rw [List.mem_singleton.1 hb]; exact fun e => hk (e ▸ ha)⟩
/-- Some are out, some still pend; all that comes after i0 is behind them. -/
structure AfInv (S : Nat → List Nat) (n i0 : Nat) (out pend : List Nat) : Prop where
  nd : out.Nodup
  outP : ∀ x ∈ out, Path S i0 x
  pendP : ∀ x ∈ pend, Path S i0 x
  first : ∀ j ∈ S i0, j ∈ out ∨ j ∈ pend
  step : ∀ x ∈ out, ∀ j ∈ S x, j ∈ out ∨ j ∈ pend
theorem AfInv.new (S : Nat → List Nat) (n i0 : Nat) : AfInv S n i0 [] (S i0) :=
  ⟨List.nodup_nil, (fun x h => by cases h), (fun x h => .one h), (fun j h => .inr h), (fun x h => by cases h)⟩
theorem AfInv.skip {S : Nat → List Nat} {n i0 k : Nat} {out rest : List Nat} (h : AfInv S n i0 out (k :: rest)) (hk : k ∈ out) : AfInv S n i0 out rest :=
  ⟨h.nd, h.outP, fun x hx => h.pendP x (List.mem_cons_of_mem _ hx), fun j hj => (h.first j hj).elim .inl fun e => (List.mem_cons.1 e).elim (fun e => .inl (e ▸ hk)) .inr,
    fun x hx j hj => (h.step x hx j hj).elim .inl fun e => (List.mem_cons.1 e).elim (fun e => .inl (e ▸ hk)) .inr⟩
theorem AfInv.take {S : Nat → List Nat} {n i0 k : Nat} {out rest : List Nat} (h : AfInv S n i0 out (k :: rest)) (hk : k ∉ out) : AfInv S n i0 (out ++ [k]) (rest ++ S k) := by
  have hp := h.pendP k (by simp)
  refine ⟨nodup_snoc h.nd hk, fun x hx => ?_, fun x hx => ?_, fun j hj => ?_, fun x hx j hj => ?_⟩
  · rcases List.mem_append.1 hx with e | e
    · exact h.outP x e
    · rw [List.mem_singleton.1 e]; exact hp
  · rcases List.mem_append.1 hx with e | e
    · exact h.pendP x (List.mem_cons_of_mem _ e)
    · exact hp.snoc e
  · rcases h.first j hj with e | e
    · exact .inl (List.mem_append.2 (.inl e))
    · rcases List.mem_cons.1 e with e | e
      · exact .inl (List.mem_append.2 (.inr (by simp [e])))
      · exact .inr (List.mem_append.2 (.inl e))
  · rcases List.mem_append.1 hx with e | e
    · rcases h.step x e j hj with e | e
      · exact .inl (List.mem_append.2 (.inl e))
      · rcases List.mem_cons.1 e with e | e
        · exact .inl (List.mem_append.2 (.inr (by simp [e])))
        · exact .inr (List.mem_append.2 (.inl e))
    · rw [List.mem_singleton.1 e] at hj
      exact .inr (List.mem_append.2 (.inr hj))
theorem AfInv.end_ {S : Nat → List Nat} {n i0 : Nat} {out : List Nat} (h : AfInv S n i0 out []) (x : Nat) : x ∈ out ↔ Path S i0 x := by
  refine ⟨h.outP x, fun hp => ?_⟩
  have hin : ∀ {a b : Nat}, Path S a b → (∀ j ∈ S a, j ∈ out) → b ∈ out := by
    intro a b hp
    induction hp with
    | one e => exact fun q => q _ e
    | more e _ ih => exact fun q => ih fun j hj => (h.step _ (q _ e) j hj).elim id fun e => by cases e
  exact hin hp fun j hj => (h.first j hj).elim id fun e => by cases e
theorem AfInv.bd {S : Nat → List Nat} {n i0 : Nat} {out pend : List Nat} (h : AfInv S n i0 out pend) (hS : ∀ i j, j ∈ S i → j < n) : out.length ≤ n := nodup_le h.nd fun x hx => (h.outP x hx).bd hS

/-! The order in which contexts are asked. -/
inductive Ord (S : Nat → List Nat) : List Nat → List Nat → List Nat → Prop
  | nil {out : List Nat} : Ord S [] out out
  | skip {k : Nat} {rest out r : List Nat} : k ∈ out → Ord S rest out r → Ord S (k :: rest) out r
  | take {k : Nat} {rest out r : List Nat} : k ∉ out → Ord S (S k ++ rest) (out ++ [k]) r → Ord S (k :: rest) out r
theorem Ord.det {S : Nat → List Nat} {t out r r' : List Nat} (h : Ord S t out r) (k : Ord S t out r') : r = r' := by
  induction h with
  | nil => cases k; rfl
  | skip e _ ih =>
    cases k with
    | skip _ k => exact ih k
    | take e' _ => exact absurd e e'
  | take e _ ih =>
    cases k with
    | skip e' _ => exact absurd e' e
    | take _ k => exact ih k
theorem Ord.app {S : Nat → List Nat} {a b out m r : List Nat} (h : Ord S a out m) (k : Ord S b m r) : Ord S (a ++ b) out r := by
  induction h with
  | nil => exact k
  | skip e _ ih => exact .skip e (ih k)
  | take e _ ih => exact .take e (by have h := ih k; rw [List.append_assoc] at h; exact h)
theorem Ord.len {S : Nat → List Nat} {t out r : List Nat} (h : Ord S t out r) : out.length ≤ r.length := by
  induction h with
  | nil => exact Nat.le_refl _
  | skip _ _ ih => exact ih
  | take _ _ ih => rw [List.length_append] at ih; simp at ih; omega
theorem Ord.one {S : Nat → List Nat} {i : Nat} {out r : List Nat} (hi : i ∉ out) (h : Ord S (S i) (out ++ [i]) r) : Ord S [i] out r := .take hi (by rw [List.append_nil]; exact h)
end
end Go.Proofs.YtdhaelpacffnlaaGreatDoor
/- Slices of records that a call makes. Conditions: none. -/
namespace Go.Proofs.YtdhaelpacffnlaaGreatDoor
section
open Go.RowKit

theorem flat_set1' {α : Type} {row : α → List Value} {k : Nat} (hrow : ∀ a, (row a).length = k) {l : List α} {i : Nat} {a a' : α} (hi : l[i]? = some a) {j : Nat} (hj : j < k) {u : Value} (hr : row a' = (row a).set j u) : (l.flatMap row).set (i * k + j) u = (l.set i a').flatMap row := by
  have h := flat_set (row := row) (k := k) hrow (by omega) hi (a' := a') (ys := [u]) j (by simp; omega) (by
    rw [hr, List.set_eq_take_append_cons_drop, if_pos (by rw [hrow]; exact hj)]; simp)
  have hil := (List.getElem?_eq_some_iff.1 hi).1
  have hle : (i + 1) * k ≤ l.length * k := Nat.mul_le_mul_right k hil
  rw [Nat.succ_mul] at hle
  rw [← h, List.set_eq_take_append_cons_drop, if_pos (by rw [flat_len hrow]; omega)]
  simp

theorem reads_at (w : World) (t : TypeId) (cs : List Value) (size : Nat) (h : cs.length = size) {g : Nat} (hg : w.heap.size = g) : Reads (w.alloc (.cells cs.toArray t)) g size (some ⟨g, 0, none⟩) 1 1 cs := by
  subst hg; exact Reads.one w t cs size h
/-- A slice of records of the call's own. -/
def OwnR {α : Type} (row : α → List Value) (k : Nat) (w : World) (lo : Nat) (e : TypeId) (A : Option Addr) (n c : Nat) (l : List α) : Prop := Own w lo e k A n c (l.flatMap row) ∧ l.length = n
section
variable {α : Type} {row : α → List Value} {k : Nat} {w w' : World} {lo lo' n c : Nat} {e : TypeId} {A : Option Addr} {l : List α}
theorem OwnR.recs (h : OwnR row k w lo e A n c l) : Recs row k w lo A n c l := ⟨h.1.reads, h.2⟩
theorem OwnR.nil (w : World) (lo : Nat) (e : TypeId) : OwnR row k w lo e none 0 0 [] := ⟨Own.nil _ _ _ _, rfl⟩
theorem OwnR.kept (h : OwnR row k w lo e A n c l) {r : Option Nat} (hg : w.grownBy w' r) (hne : ∀ g, r = some g → blkOf A ≠ some g) : OwnR row k w' lo e A n c l := ⟨h.1.kept hg hne, h.2⟩
theorem OwnR.low (h : OwnR row k w lo e A n c l) {r : Option Nat} (hg : w.grownBy w' r) (hr : ∀ g, r = some g → g < lo) : OwnR row k w' lo e A n c l :=
  h.kept hg (fun g e e' => by have := hr g e; have := (h.1.lt e').1; omega)
theorem OwnR.lower (h : OwnR row k w lo e A n c l) (hl : lo' ≤ lo) : OwnR row k w lo' e A n c l := ⟨h.1.lower hl, h.2⟩
theorem OwnR.alloc (h : OwnR row k w lo e A n c l) (o : Obj) : OwnR row k (w.alloc o) lo e A n c l := ⟨h.1.alloc o, h.2⟩
theorem OwnR.app {a : α} (h : OwnR row k w lo e A n c l) {A1 : Option Addr} {c1 n1 : Nat} (hn : n1 = n + 1) (h1 : Appended w lo e k A A1 n1 c1 (l.flatMap row ++ row a) w') : OwnR row k w' lo e A1 n1 c1 (l ++ [a]) := by
  subst hn
  refine ⟨?_, by simp [h.2]⟩
  rw [List.flatMap_append]
  simpa using h1.1
theorem OwnR.set1 {g i j p : Nat} {a a' : α} {u : Value} (hrow : ∀ a, (row a).length = k) (h : OwnR row k w lo e (some ⟨g, 0, none⟩) n c l) (hi : l[i]? = some a) (hj : j < k) (hr : row a' = (row a).set j u) (hp : p = i * k + j) : OwnR row k (w.setCell ⟨g, p, none⟩ u) lo e (some ⟨g, 0, none⟩) n c (l.set i a') := by
  subst hp
  refine ⟨?_, by simp [h.2]⟩
  rw [← flat_set1' hrow hi hj hr]
  exact h.1.stored _ u
end
end
end Go.Proofs.YtdhaelpacffnlaaGreatDoor
/- Slices of ints: cells, appends; slices.Equal at two that read as the same list. Conditions: none. -/
namespace Go.Proofs.YtdhaelpacffnlaaGreatDoor
section
open Go.RowKit
/-- A cell that holds a number. -/
def nrow (n : Int) : List Value := [.int .i64 n]
theorem nrow_len (n : Int) : (nrow n).length = 1 := rfl
theorem nrow_map (l : List Int) : l.flatMap nrow = l.map (Value.int .i64) := by
  induction l with
  | nil => rfl
  | cons a l ih => rw [List.flatMap_cons, ih]; rfl
theorem Tryz.inT : ElemT Tryz.prog 22 3 1 8 (.int .i64 0) := elemT_of Tryz.underlying22 (by kernel_rfl) rfl (by decide)
/-- A slice of numbers of the call's own, and an error. -/
def InErr (l : List Int) (E : Int) (w : World) (e : Ending) (w' : World) : Prop := ∃ A n c, e = .returned (.tuple #[.slice A n c, .int .i64 E]) ∧ OwnR nrow 1 w' w.heap.size 3 A n c l ∧ w.grownBy w' none
end
end Go.Proofs.YtdhaelpacffnlaaGreatDoor
/- Words for the generators of hours: slices of hours that a call makes, with their rows and holidays. Conditions: none. -/
namespace Go.Proofs.YtdhaelpacffnlaaGreatDoor
section
open Go.RowKit

def HrBd (a : HrV) : Prop := a.key.size ≤ 1000 ∧ a.rn ≤ 1000 ∧ a.hn ≤ 1000
def HrOwn (w : World) (lo : Nat) (a : HrV) : Prop := HrBd a ∧ OwnR r3Row 3 w lo 124 a.rA a.rn a.rc a.rows ∧ OwnR r3Row 3 w lo 126 a.hA a.hn a.hc a.hol
def HrApart (a b : HrV) : Prop := (∀ g, blkOf a.rA = some g → blkOf b.rA ≠ some g) ∧ (∀ g, blkOf a.hA = some g → blkOf b.hA ≠ some g)
def GHrs (w : World) (lo : Nat) (A : Option Addr) (n c : Nat) (l : List HrV) : Prop :=
  OwnR HrV.row 4 w lo 122 A n c l ∧ (∀ a ∈ l, HrOwn w lo a) ∧ ∀ (i j : Nat) (a b : HrV), i ≠ j → l[i]? = some a → l[j]? = some b → HrApart a b
theorem mem_setH {α : Type} {l : List α} {i : Nat} {a x : α} (h : x ∈ l.set i a) : x = a ∨ ∃ j, j ≠ i ∧ l[j]? = some x := by
  obtain ⟨j, hj⟩ := List.mem_iff_getElem?.1 h
  rw [List.getElem?_set] at hj
  split at hj
  · split at hj
    · injection hj with hj; exact .inl hj.symm
    · cases hj
  · rename_i hne
    exact .inr ⟨j, fun e => hne e.symm, hj⟩
section
variable {w w' : World} {lo n c : Nat} {A : Option Addr} {l : List HrV}
theorem HrOwn.ok {a : HrV} (h : HrOwn w lo a) : HrOk w lo a := ⟨h.1, h.2.1.recs, h.2.2.recs⟩
theorem GHrs.hrs (h : GHrs w lo A n c l) : Hrs w lo A n c l := ⟨h.1.recs, fun a ha => (h.2.1 a ha).ok⟩
theorem GHrs.nil (w : World) (lo : Nat) : GHrs w lo none 0 0 [] := ⟨OwnR.nil _ _ _, (fun a ha => by cases ha), fun i j a b _ h => by simp at h⟩
theorem HrOwn.kept {a : HrV} (h : HrOwn w lo a) {r : Option Nat} (hg : w.grownBy w' r) (h1 : ∀ g, r = some g → blkOf a.rA ≠ some g) (h2 : ∀ g, r = some g → blkOf a.hA ≠ some g) : HrOwn w' lo a := ⟨h.1, h.2.1.kept hg h1, h.2.2.kept hg h2⟩
theorem HrOwn.low {a : HrV} (h : HrOwn w lo a) {r : Option Nat} (hg : w.grownBy w' r) (hr : ∀ g, r = some g → g < lo) : HrOwn w' lo a := ⟨h.1, h.2.1.low hg hr, h.2.2.low hg hr⟩
theorem HrOwn.lower {a : HrV} {lo' : Nat} (h : HrOwn w lo a) (hl : lo' ≤ lo) : HrOwn w lo' a := ⟨h.1, h.2.1.lower hl, h.2.2.lower hl⟩
theorem GHrs.low (h : GHrs w lo A n c l) {r : Option Nat} (hg : w.grownBy w' r) (hr : ∀ g, r = some g → g < lo) : GHrs w' lo A n c l := ⟨h.1.low hg hr, fun a ha => (h.2.1 a ha).low hg hr, h.2.2⟩
theorem HrOwn.other {a : HrV} (h : HrOwn w lo a) {lo' n' c' k' : Nat} {A' : Option Addr} {xs : List Value} (ho : Own w lo' 122 k' A' n' c' xs) (hg : w.grownBy w' (blkOf A')) : HrOwn w' lo a :=
  h.kept hg (fun g e => Own.ne ho h.2.1.1 (by decide) e) (fun g e => Own.ne ho h.2.2.1 (by decide) e)
/-- Hours are appended whose slices lie behind those of the others. -/
theorem GHrs.app {a : HrV} {hi : Nat} (h : GHrs w lo A n c l) (ha : HrOwn w hi a) (hlo : lo ≤ hi) (hb : ∀ b ∈ l, (∀ g, blkOf b.rA = some g → g < hi) ∧ (∀ g, blkOf b.hA = some g → g < hi)) {A1 : Option Addr} {c1 n1 : Nat} (hn : n1 = n + 1)
    (h1 : Appended w lo 122 4 A A1 n1 c1 (l.flatMap HrV.row ++ a.row) w') : GHrs w' lo A1 n1 c1 (l ++ [a]) := by
  have ap : ∀ b ∈ l, HrApart a b ∧ HrApart b a := fun b hb1 => by
    obtain ⟨q1, q2⟩ := hb b hb1
    exact ⟨⟨fun g e e' => by have := q1 g e'; have := (ha.2.1.1.lt e).1; omega, fun g e e' => by have := q2 g e'; have := (ha.2.2.1.lt e).1; omega⟩,
      ⟨fun g e e' => by have := q1 g e; have := (ha.2.1.1.lt e').1; omega, fun g e e' => by have := q2 g e; have := (ha.2.2.1.lt e').1; omega⟩⟩
  refine ⟨h.1.app hn h1, fun b hb1 => ?_, fun i j x y hne hx hy => ?_⟩
  · rcases List.mem_append.1 hb1 with hb1 | hb1
    · exact (h.2.1 b hb1).other h.1.1 h1.2.1
    · rw [List.mem_singleton.1 hb1]; exact (ha.lower hlo).other h.1.1 h1.2.1
  · rw [List.getElem?_append] at hx hy
    split at hx <;> split at hy
    · exact h.2.2 i j x y hne hx hy
    · rename_i q1 q2
      have : y = a := by
        cases hj : j - l.length with
        | zero => rw [hj] at hy; simpa using hy.symm
        | succ q => rw [hj] at hy; simp at hy
      subst this
      exact (ap x (mem_of_get hx)).2
    · rename_i q1 q2
      have : x = a := by
        cases hj : i - l.length with
        | zero => rw [hj] at hx; simpa using hx.symm
        | succ q => rw [hj] at hx; simp at hx
      subst this
      exact (ap y (mem_of_get hy)).1
    · exfalso
      rename_i q1 q2
      have h3 : i - l.length = 0 := by
        cases hj : i - l.length with
        | zero => rfl
        | succ q => rw [hj] at hx; simp at hx
      have h4 : j - l.length = 0 := by
        cases hj : j - l.length with
        | zero => rfl
        | succ q => rw [hj] at hy; simp at hy
      omega
/-- One cell of some hours is stored anew: not one of its slices. -/
theorem GHrs.set1 {g i j p : Nat} {a a' : HrV} {u : Value} (h : GHrs w lo (some ⟨g, 0, none⟩) n c l) (hi : l[i]? = some a) (hj : j < 4) (hr : a'.row = a.row.set j u) (hb : HrBd a') (hs : a'.rA = a.rA ∧ a'.rn = a.rn ∧ a'.rc = a.rc ∧ a'.rows = a.rows ∧ a'.hA = a.hA ∧ a'.hn = a.hn ∧ a'.hc = a.hc ∧ a'.hol = a.hol) (hp : p = i * 4 + j) :
    GHrs (w.setCell ⟨g, p, none⟩ u) lo (some ⟨g, 0, none⟩) n c (l.set i a') := by
  have hg : w.grownBy (w.setCell ⟨g, p, none⟩ u) (blkOf (some ⟨g, 0, none⟩)) := gr_setCell (gr_refl _ _) (.inl rfl) _
  obtain ⟨s1, s2, s3, s4, s5, s6, s7, s8⟩ := hs
  refine ⟨h.1.set1 HrV.row_len hi hj hr hp, fun x hx => ?_, fun i1 j1 x y hne hx hy => ?_⟩
  · rcases mem_setH hx with rfl | ⟨q, _, hx⟩
    · have h1 := (h.2.1 a (mem_of_get hi)).other h.1.1 hg
      refine ⟨hb, ?_, ?_⟩
      · rw [s1, s2, s3, s4]; exact h1.2.1
      · rw [s5, s6, s7, s8]; exact h1.2.2
    · exact (h.2.1 x (mem_of_get hx)).other h.1.1 hg
  · have e1 : ∀ (q : Nat) (x : HrV), (l.set i a')[q]? = some x → ∃ z : HrV, l[q]? = some z ∧ x.rA = z.rA ∧ x.hA = z.hA := fun q x hx => by
      rw [List.getElem?_set] at hx
      split at hx
      · split at hx
        · rename_i e _
          injection hx with hx
          subst hx; subst e
          exact ⟨a, hi, s1, s5⟩
        · cases hx
      · exact ⟨x, hx, rfl, rfl⟩
    obtain ⟨z1, q1, q2, q3⟩ := e1 _ _ hx
    obtain ⟨z2, q4, q5, q6⟩ := e1 _ _ hy
    have := h.2.2 _ _ _ _ hne q1 q4
    unfold HrApart
    rw [q2, q3, q5, q6]
    exact this
/-- The rows of some hours are put anew, grown by an append. -/
theorem GHrs.rows {g i p : Nat} {a : HrV} {w1 : World} (h : GHrs w lo (some ⟨g, 0, none⟩) n c l) (hi : l[i]? = some a) {s : Int × Int × Int} {A1 : Option Addr} {c1 n1 : Nat} (hn : n1 = a.rn + 1) (hb : n1 ≤ 1000)
    (h1 : Appended w lo 124 3 a.rA A1 n1 c1 (a.rows.flatMap r3Row ++ r3Row s) w1) (hp : p = i * 4 + 2) :
    Hrs (w1.setCell ⟨g, p, none⟩ (.slice A1 n1 c1)) lo (some ⟨g, 0, none⟩) n c (l.set i { a with rA := A1, rn := n1, rc := c1, rows := a.rows ++ [s] }) := by
  have ho := h.2.1 a (mem_of_get hi)
  have hm : OwnR HrV.row 4 w1 lo 122 (some ⟨g, 0, none⟩) n c l := h.1.kept h1.2.1 (fun g' e => Own.ne ho.2.1.1 h.1.1 (by decide) e)
  have hg : w1.grownBy (w1.setCell ⟨g, p, none⟩ (.slice A1 n1 c1)) (blkOf (some ⟨g, 0, none⟩)) := gr_setCell (gr_refl _ _) (.inl rfl) _
  refine ⟨(hm.set1 (a' := { a with rA := A1, rn := n1, rc := c1, rows := a.rows ++ [s] }) HrV.row_len hi (j := 2) (by omega) rfl hp).recs, fun x hx => ?_⟩
  rcases mem_setH hx with rfl | ⟨q, hq, hx⟩
  · refine HrOwn.ok (HrOwn.other (w := w1) ⟨⟨ho.1.1, hb, ho.1.2.2⟩, ho.2.1.app hn h1, ?_⟩ hm.1 hg)
    exact ho.2.2.kept h1.2.1 (fun g' e => Own.ne ho.2.1.1 ho.2.2.1 (by decide) e)
  · have hx1 := h.2.1 x (mem_of_get hx)
    have hap := h.2.2 _ _ _ _ (fun e => hq e.symm) hi hx
    exact HrOwn.ok (HrOwn.other (hx1.kept h1.2.1 (fun g' e => hap.1 g' e) (fun g' e => Own.ne ho.2.1.1 hx1.2.2.1 (by decide) e)) hm.1 hg)
/-- The holidays of some hours are put anew, grown by an append. -/
theorem GHrs.hols {g i p : Nat} {a : HrV} {w1 : World} (h : GHrs w lo (some ⟨g, 0, none⟩) n c l) (hi : l[i]? = some a) {s : Int × Int × Int} {A1 : Option Addr} {c1 n1 : Nat} (hn : n1 = a.hn + 1) (hb : n1 ≤ 1000)
    (h1 : Appended w lo 126 3 a.hA A1 n1 c1 (a.hol.flatMap r3Row ++ r3Row s) w1) (hp : p = i * 4 + 3) :
    Hrs (w1.setCell ⟨g, p, none⟩ (.slice A1 n1 c1)) lo (some ⟨g, 0, none⟩) n c (l.set i { a with hA := A1, hn := n1, hc := c1, hol := a.hol ++ [s] }) := by
  have ho := h.2.1 a (mem_of_get hi)
  have hm : OwnR HrV.row 4 w1 lo 122 (some ⟨g, 0, none⟩) n c l := h.1.kept h1.2.1 (fun g' e => Own.ne ho.2.2.1 h.1.1 (by decide) e)
  have hg : w1.grownBy (w1.setCell ⟨g, p, none⟩ (.slice A1 n1 c1)) (blkOf (some ⟨g, 0, none⟩)) := gr_setCell (gr_refl _ _) (.inl rfl) _
  refine ⟨(hm.set1 (a' := { a with hA := A1, hn := n1, hc := c1, hol := a.hol ++ [s] }) HrV.row_len hi (j := 3) (by omega) rfl hp).recs, fun x hx => ?_⟩
  rcases mem_setH hx with rfl | ⟨q, hq, hx⟩
  · refine HrOwn.ok (HrOwn.other (w := w1) ⟨⟨ho.1.1, ho.1.2.1, hb⟩, ?_, ho.2.2.app hn h1⟩ hm.1 hg)
    exact ho.2.1.kept h1.2.1 (fun g' e => Own.ne ho.2.2.1 ho.2.1.1 (by decide) e)
  · have hx1 := h.2.1 x (mem_of_get hx)
    have hap := h.2.2 _ _ _ _ (fun e => hq e.symm) hi hx
    exact HrOwn.ok (HrOwn.other (hx1.kept h1.2.1 (fun g' e => Own.ne ho.2.2.1 hx1.2.1.1 (by decide) e) (fun g' e => hap.2 g' e)) hm.1 hg)
end
/-- The answer of the generators of hours. -/
def IsHrs (lo most : Nat) (v : Value) (w : World) : Prop := ∃ (A : Option Addr) (c : Nat) (l : List HrV), v = .slice A most c ∧ Hrs w lo A most c l
def IsGHrs (lo most : Nat) (v : Value) (w : World) : Prop := ∃ (A : Option Addr) (c : Nat) (l : List HrV), v = .slice A most c ∧ GHrs w lo A most c l ∧ ∀ a ∈ l, a.rn ≤ 2 ∧ a.hn ≤ 3

/-! Hours that are being made: they lie in block ab, their slices are the call's own. -/
def HrB (w : World) (sb ab : Nat) (m : Int) (a : HrV) (wr : World) : Prop :=
  Str wr sb m ∧ w.grownBy wr (some sb) ∧ w.heap.size ≤ ab ∧ Blk wr ab 122 #[.string a.key, .int .i64 a.zone, .slice a.rA a.rn a.rc, .slice a.hA a.hn a.hc] ∧ HrOwn wr w.heap.size a
section
variable {w wr wx w8 : World} {sb ab : Nat} {m m' : Int} {a : HrV}
theorem HrB.row1 (h : HrB w sb ab m a wr) (hsb : sb < w.heap.size) {s : Int × Int × Int} {n1 : Nat} (hn : n1 = a.rn + 1) (hb : n1 ≤ 1000) (hsx : Str wx sb m') (hgx : wr.grownBy wx (some sb)) {A1 : Option Addr} {c1 : Nat}
    (h8 : Appended wx w.heap.size 124 3 a.rA A1 n1 c1 (a.rows.flatMap r3Row ++ r3Row s) w8) :
    HrB w sb ab m' { a with rA := A1, rn := n1, rc := c1, rows := a.rows ++ [s] } (w8.setCell ⟨ab, 2, none⟩ (.slice A1 n1 c1)) := by
  obtain ⟨_, hg, hp, hbk, ho⟩ := h
  have hox : HrOwn wx w.heap.size a := ho.low hgx (fun g e => by injection e with e; omega)
  have hbx := hbk.grown hgx (by simp; omega)
  have hb8 := hbx.grown h8.2.1 (Ne.symm (hox.2.1.1.blk_ne hbx (by decide)))
  have hg8 : w.grownBy w8 (some sb) := gr_own (gr_same hg hgx) hox.2.1.1 (Nat.le_refl _) h8.2.1
  have hz := hg8.size
  have hs8 : Str w8 sb m' := hsx.grown h8.2.1 (fun g e => by have := (hox.2.1.1.lt e).1; omega)
  refine ⟨hs8.setCell (by simp; omega) _, gr_setCell hg8 (.inr (by simp; omega)) _, hp, hb8.set_ 2 _, ⟨hox.1.1, hb, hox.1.2.2⟩, ?_, ?_⟩
  · have h9 := hox.2.1.app hn h8
    exact ⟨h9.1.far (h9.1.blk_ne hb8 (by decide)) _, h9.2⟩
  · have h9 := hox.2.2.kept h8.2.1 (fun g' e => Own.ne hox.2.1.1 hox.2.2.1 (by decide) e)
    exact ⟨h9.1.far (h9.1.blk_ne hb8 (by decide)) _, h9.2⟩
theorem HrB.hol1 (h : HrB w sb ab m a wr) (hsb : sb < w.heap.size) {s : Int × Int × Int} {n1 : Nat} (hn : n1 = a.hn + 1) (hb : n1 ≤ 1000) (hsx : Str wx sb m') (hgx : wr.grownBy wx (some sb)) {A1 : Option Addr} {c1 : Nat}
    (h8 : Appended wx w.heap.size 126 3 a.hA A1 n1 c1 (a.hol.flatMap r3Row ++ r3Row s) w8) :
    HrB w sb ab m' { a with hA := A1, hn := n1, hc := c1, hol := a.hol ++ [s] } (w8.setCell ⟨ab, 3, none⟩ (.slice A1 n1 c1)) := by
  obtain ⟨_, hg, hp, hbk, ho⟩ := h
  have hox : HrOwn wx w.heap.size a := ho.low hgx (fun g e => by injection e with e; omega)
  have hbx := hbk.grown hgx (by simp; omega)
  have hb8 := hbx.grown h8.2.1 (Ne.symm (hox.2.2.1.blk_ne hbx (by decide)))
  have hg8 : w.grownBy w8 (some sb) := gr_own (gr_same hg hgx) hox.2.2.1 (Nat.le_refl _) h8.2.1
  have hz := hg8.size
  have hs8 : Str w8 sb m' := hsx.grown h8.2.1 (fun g e => by have := (hox.2.2.1.lt e).1; omega)
  refine ⟨hs8.setCell (by simp; omega) _, gr_setCell hg8 (.inr (by simp; omega)) _, hp, hb8.set_ 3 _, ⟨hox.1.1, hox.1.2.1, hb⟩, ?_, ?_⟩
  · have h9 := hox.2.1.kept h8.2.1 (fun g' e => Own.ne hox.2.2.1 hox.2.1.1 (by decide) e)
    exact ⟨h9.1.far (h9.1.blk_ne hb8 (by decide)) _, h9.2⟩
  · have h9 := hox.2.2.app hn h8
    exact ⟨h9.1.far (h9.1.blk_ne hb8 (by decide)) _, h9.2⟩
theorem HrB.step (h : HrB w sb ab m a wr) (hsb : sb < w.heap.size) (hsx : Str wx sb m') (hgx : wr.grownBy wx (some sb)) : HrB w sb ab m' a wx :=
  ⟨hsx, gr_same h.2.1 hgx, h.2.2.1, h.2.2.2.1.grown hgx (by have := h.2.2.1; simp; omega), h.2.2.2.2.low hgx (fun g e => by injection e with e; omega)⟩
end
/-- A block that the making of some hours' slices leaves alone. -/
theorem HrB.blk {w wr wx w8 : World} {sb ab : Nat} {m : Int} {a : HrV} (_h : HrB w sb ab m a wr) {e t : TypeId} {A A1 : Option Addr} {n c n1 c1 g j : Nat} {xs ys : List Value} {cs : Array Value} {v : Value} (hb : Blk wr g t cs) (hgx : wr.grownBy wx (some sb)) (hs : g ≠ sb) (hg : g ≠ ab)
    (ho : Own wx w.heap.size e 3 A n c xs) (hne : e ≠ t) (h8 : Appended wx w.heap.size e 3 A A1 n1 c1 ys w8) : Blk (w8.setCell ⟨ab, j, none⟩ v) g t cs := by
  have hbx := hb.grown hgx (by simpa using hs)
  exact (hbx.grown h8.2.1 (Ne.symm (ho.blk_ne hbx hne))).far (by simpa using hg) v
theorem Tryz.hrsT : ElemT Tryz.prog 27 122 4 72 (.agg #[.string ⟨#[]⟩, .int .i64 0, .slice none 0 0, .slice none 0 0]) := elemT_of Tryz.underlying27 (by kernel_rfl) rfl (by decide)
theorem Tryz.rwsT : ElemT Tryz.prog 119 124 3 24 (.agg #[.int .i64 0, .int .i64 0, .int .i64 0]) := elemT_of Tryz.underlying119 (by kernel_rfl) rfl (by decide)
theorem Tryz.hosT : ElemT Tryz.prog 120 126 3 24 (.agg #[.int .i64 0, .int .i64 0, .int .i64 0]) := elemT_of Tryz.underlying120 (by kernel_rfl) rfl (by decide)
end
end Go.Proofs.YtdhaelpacffnlaaGreatDoor
/- slices.Equal at two slices of strings that read as the same list. Conditions: none. -/
namespace Go.Proofs.YtdhaelpacffnlaaGreatDoor
section
open Go.RowKit
set_option maxHeartbeats 4000000 in
theorem equalS_same (lo lo' : Nat) (A A' : Option Addr) (n c n' c' : Nat) (l : List ByteArray) (w : World) (h1 : Recs srow 1 w lo A n c l) (h2 : Recs srow 1 w lo' A' n' c' l) (hn2 : n ≤ 1000000000000) :
    Calls Tryz.prog 15 #[.slice A n c, .slice A' n' c'] w fun e w' => e = .returned (.bool true) ∧ ∃ k, w' = w.drewN k := by
  obtain rfl : n = n' := by rw [← h1.len, ← h2.len]
  have H1 := Lib.hid h1; have H2 := Lib.hid h2; clear h1 h2
  go_enter Tryz.func15, Tryz.ntmps15
  go_wp2_with fail
  go_loopw [5, 13] (fun _ t wr => ∃ i : Nat, i ≤ n ∧ t = .int .i64 i ∧ ∃ k, wr = w.drewN k) (fun _ t _ => n - (intOf t).toNat)
  case atStart => exact ⟨0, Nat.zero_le _, rfl, 0, rfl⟩
  case round =>
    obtain ⟨i, hi, rfl, k, rfl⟩ := hrel
    by_cases hlt : i < n
    · obtain ⟨g, o, z, rfl, _, _, hz, hc⟩ := H1.out.get (fun _ => rfl) hlt
      obtain ⟨g', o', z', rfl, _, _, hz', hc2⟩ := H2.out.get (fun _ => rfl) hlt
      rw [hz] at hz'
      injection hz' with hz'
      subst hz'
      have q0 : (z.toList == z.toList) = true := beq_self_eq_true _
      have c0 := hc 0 _ rfl
      have d0 := hc2 0 _ rfl
      simp only [Nat.add_zero, Nat.mul_one] at c0 d0
      clear hz hc hc2
      have hi0 : (0 : Int) ≤ (i : Int) := by omega
      have hi1 : (i : Int) < (n : Int) := by omega
      go_wp2_with fail
      go_quiet (fail)
      go_wp2_with fail
      go_roundw
      case rel => exact ⟨i + 1, by omega, by go_num, _, rfl⟩
      case measure => simp [intOf]; omega
    · obtain rfl : i = n := by omega
      go_wp2_with fail
      go_ret
      exact ⟨rfl, _, rfl⟩
end
end Go.Proofs.YtdhaelpacffnlaaGreatDoor
/- Two hits that are alike are equal. Conditions: none. -/
namespace Go.Proofs.YtdhaelpacffnlaaGreatDoor
section
open Go.RowKit

theorem Tryz.eqHit (h1 : ByteArray) (h2 h3 : Int) (h4 h5 : ByteArray) (w : World) :
    (Op.equalIn 10000 44 (.agg #[.string h1, .int .i64 h2, .int .i64 h3, .string h4, .string h5]) (.agg #[.string h1, .int .i64 h2, .int .i64 h3, .string h4, .string h5])).run Tryz.prog w = .ok true w := by
  have hpS : ∀ (cs : Array Value) (j : Nat) (v : Value) (w : World), cs[j]? = some v → (part 9 cs j).run Tryz.prog w = .ok v w := by
    intro cs j v w h
    simp [part, isAgg, run_underlying Tryz.underlying9, h]
  have hpI : ∀ (cs : Array Value) (j : Nat) (v : Value) (w : World), cs[j]? = some v → (part 3 cs j).run Tryz.prog w = .ok v w := by
    intro cs j v w h
    simp [part, isAgg, run_underlying Tryz.underlying3, h]
  have hS : ∀ (s : ByteArray) (w : World), (Op.equalIn 9999 9 (.string s) (.string s)).run Tryz.prog w = .ok true w := fun s w => by
    rw [run_equalIn_string w 9998 9 _ _ Tryz.underlying9]; simp
  have hI : ∀ (z : Int) (w : World), (Op.equalIn 9999 3 (.int .i64 z) (.int .i64 z)).run Tryz.prog w = .ok true w := fun z w => by
    rw [run_equalIn_int w 9998 3 .i64 .i64 _ _ Tryz.underlying3]; simp
  rw [run_equalIn_struct w 9999 _ _ _ (by kernel_rfl) (by kernel_rfl)]
  simp [Program.fieldsOf, Tryz.underlying44, Op.eqFields, hpS, hpI, hS, hI]
end
end Go.Proofs.YtdhaelpacffnlaaGreatDoor
/- Contracts of the statements' when and momentFault. Conditions: none. -/
namespace Go.Proofs.YtdhaelpacffnlaaGreatDoor
section
open Go.RowKit
set_option maxHeartbeats 1000000 in
theorem whenF_any (b : Bool) (e : Int) (w : World) : Calls Tryz.prog 12 #[.bool b, .int .i64 e] w (Same (.int .i64 (if b then e else 0)) w) := by
  cases b
  all_goals
    go_enter Tryz.func12, Tryz.ntmps12
    go_wp2_with fail
    go_ret
    exact ⟨rfl, rfl⟩
def momF (t : Int) : Int := if momB t then 0 else 1
set_option maxHeartbeats 1000000 in
theorem momF_any (t : Int) (w : World) : Calls Tryz.prog 19 #[.int .i64 t] w (Same (.int .i64 (momF t)) w) := by
  have HV := Lib.hid (show momF t = if momB t then 0 else 1 from rfl)
  cases hm : momB t
  all_goals
    rw [hm] at HV
    go_enter Tryz.func19, Tryz.ntmps19
    go_wp2_with (first
      | (go_at_call 59; refine (momentB_any _ _).mono ?_; rintro e w' ⟨rfl, rfl⟩; rw [hm])
      | (go_at_call 12; refine (whenF_any _ _ _).mono ?_; rintro e w' ⟨rfl, rfl⟩)
      | fail)
    go_ret
    exact ⟨by rw [HV.out]; rfl, rfl⟩
end
end Go.Proofs.YtdhaelpacffnlaaGreatDoor

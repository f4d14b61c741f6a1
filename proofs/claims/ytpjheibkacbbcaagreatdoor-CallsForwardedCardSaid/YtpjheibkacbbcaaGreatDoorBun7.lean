/- Calls and made slices that come up in any order, in a region whose condition holds till a store. Conditions: none. -/
import Derived.Test.YtpjheibkacbbcaaGreatDoorBun1
import Derived.Test.YtpjheibkacbbcaaGreatDoorBun6
import Derived.Test.YtpjheibkacbbcaaGreatDoorBun2
import Derived.Shelf.SlSortCmp.NoneTotal
import Derived.WalkKit
import Derived.Deep.QuietTactic
import Derived.BigQuiet
namespace Go.Proofs.YtpjheibkacbbcaaGreatDoor
section
open Go.RowKit

section
variable {P : Program} {ops : Array Oper} {Q : Exit → Act → World → Prop} {md : Region.Mode} {S : World → Prop} {b : Nat} {ls : List Oper}
theorem float_mainB {listed0 : Array Bool} {phase : List Nat} {T fuel : Nat} {Inv : Nat → Array Bool → Act → World → Prop} (hB : floatB md ops listed0 phase T = true)
    (hstep : ∀ n listed a w k o, k ∈ phase → ops[k]? = some o → listed.getD k false = false → (∀ e ∈ o.after, Region.binds md e = true → listed.getD e.on false = true) → Inv (n + 1) listed a w →
      wpOp P ops Q k (fun a' w' => S w' ∧ Inv n (listed.setIfInBounds k true) a' w') a w)
    (hend : ∀ listed a w, (∀ j, listed.getD j false = (listed0.getD j false || phase.contains j)) → listed.size = ops.size → Inv 0 listed a w → wpAnyB P md ops Q S b fuel listed a w) :
    ∀ n listed a w, FlL ops listed0 phase listed → (∀ j oj, ops[j]? = some oj → j ∈ phase → listed.getD j false = true → ∀ e ∈ oj.after, Region.binds md e = true → listed.getD e.on false = true) →
      undone listed phase = n → Inv n listed a w → wpAnyB P md ops Q S b (n + fuel) listed a w := by
  unfold floatB at hB
  simp only [Bool.and_eq_true, decide_eq_true_eq, Bool.not_eq_true'] at hB
  obtain ⟨⟨⟨⟨⟨⟨⟨h0, hnd⟩, hph⟩, hT⟩, hTp⟩, hT0⟩, htopo⟩, htail⟩ := hB
  have hp1 : ∀ k ∈ phase, k < ops.size ∧ listed0.getD k false = false := fun k hk => by
    have := List.all_eq_true.1 hph k hk
    simpa using this
  intro n
  induction n with
  | zero =>
    intro listed a w hf _ hu hi
    rw [Nat.zero_add]
    have hall := undone_zero hu
    refine hend listed a w (fun j => ?_) hf.size hi
    cases hc : phase.contains j
    · rw [Bool.or_false]
      cases h1 : listed0.getD j false
      · cases h2 : listed.getD j false
        · rfl
        · rcases hf.new j h2 with h3 | h3
          · rw [h1] at h3; cases h3
          · have : phase.contains j = true := by simpa using h3
            rw [hc] at this; cases this
      · exact hf.old j h1
    · rw [Bool.or_true]; exact hall j (by simpa using hc)
  | succ n ih =>
    intro listed a w hf hcl hu hi
    rw [show n + 1 + fuel = (n + fuel) + 1 by omega]
    -- one of the phase may come up
    obtain ⟨p, k0, hk0, hku, hpre⟩ := undone_pos (listed := listed) (phase := phase) (by omega)
    have hrdy : k0 ∈ Region.ready md ops listed := by
      have hlt := (List.getElem?_eq_some_iff.1 hk0).1
      have hm : k0 ∈ phase := List.mem_of_getElem? hk0
      have h1 := List.all_eq_true.1 htopo p (List.mem_range.2 hlt)
      rw [hk0] at h1
      simp only [Bool.and_eq_true] at h1
      cases ho : ops[k0]? with
      | none => rw [ho] at h1; exact absurd h1.1 (by simp)
      | some o =>
        rw [ho] at h1
        rw [mem_ready]
        refine ⟨getD_in (by rw [hf.size]; exact (hp1 k0 hm).1) hku, o, ho, fun e he hb => ?_⟩
        have h2 := Array.all_eq_true_iff_forall_mem.1 h1.1 e he
        rw [hb] at h2
        simp only [Bool.not_true, Bool.false_or, Bool.or_eq_true] at h2
        rcases h2 with h2 | h2
        · exact hf.old _ h2
        · exact hpre _ (by simpa using h2)
    refine ⟨fun h1 => (by rw [h1] at hrdy; cases hrdy), fun i hi2 => ?_⟩
    obtain ⟨hiu, o, ho, hdeps⟩ := mem_ready.1 hi2
    have hiu' := getD_both hiu
    have him : i ∈ phase := by
      have hlt := (Array.getElem?_eq_some_iff.1 ho).1
      have h1 := List.all_eq_true.1 htail i (List.mem_range.2 hlt)
      simp only [Bool.or_eq_true, beq_iff_eq] at h1
      rcases h1 with ((h1 | h1) | h1) | h1
      · rw [hf.old i h1] at hiu'; cases hiu'
      · simpa using h1
      · -- T waits for all of the phase
        exfalso
        subst h1
        have all : ∀ d q k, phase.length - q = d → phase[q]? = some k → listed.getD k false = true := by
          intro d
          induction d using Nat.strongRecOn with
          | _ d ihd =>
            intro q k hd hk
            have hlt := (List.getElem?_eq_some_iff.1 hk).1
            have h2 := List.all_eq_true.1 htopo q (List.mem_range.2 hlt)
            rw [hk] at h2
            simp only [Bool.and_eq_true, Bool.or_eq_true] at h2
            rcases h2.2 with h3 | h3
            · obtain ⟨oj, hoj, e, he, hb, hon⟩ := Region.waitsFor_spec h3
              rw [ho] at hoj
              injection hoj with hoj
              subst hoj
              rw [← hon]; exact hdeps e he hb
            · obtain ⟨j, hj, hw⟩ := List.any_eq_true.1 h3
              obtain ⟨oj, hoj, e, he, hb, hon⟩ := Region.waitsFor_spec hw
              obtain ⟨q2, hq2⟩ := List.mem_iff_getElem?.1 hj
              rw [List.getElem?_drop] at hq2
              have hq3 := (List.getElem?_eq_some_iff.1 hq2).1
              have h5 := ihd (phase.length - (q + 1 + q2)) (by omega) _ j rfl hq2
              rw [← hon]
              exact hcl j oj hoj (List.mem_of_getElem? hq2) h5 e he hb
        rw [all _ p k0 rfl hk0] at hku
        cases hku
      · exfalso
        obtain ⟨d, hd, h2⟩ := List.any_eq_true.1 h1
        simp only [Bool.and_eq_true, Bool.not_eq_true'] at h2
        obtain ⟨⟨hw, hd0⟩, hdp⟩ := h2
        obtain ⟨oj, hoj, e, he, hb, hon⟩ := Region.waitsFor_spec hw
        rw [ho] at hoj
        injection hoj with hoj
        subst hoj
        have h3 := hdeps e he hb
        rw [hon] at h3
        rcases hf.new d h3 with h4 | h4
        · rw [hd0] at h4; cases h4
        · have : phase.contains d = true := by simpa using h4
          rw [hdp] at this; cases this
    refine wpOp_mono (fun a' w' h' => ⟨.inr h'.1, ?_⟩) (hstep n listed a w i o him ho hiu' hdeps hi)
    refine ih _ a' w' (hf.set_ him) (fun j oj hj hjm hl e he hb => ?_) ?_ h'.2
    · by_cases hij : i = j
      · subst hij
        have : oj = o := Option.some.inj (hj.symm.trans ho)
        subst this
        exact getD_set_true (hdeps e he hb)
      · rw [getD_set_ne false hij] at hl
        exact getD_set_true (hcl j oj hj hjm hl e he hb)
    · have := undone_set (listed := listed) (k := i) (by rw [hf.size]; exact (hp1 i him).1) hiu' hnd him
      omega

theorem wpAnyB_calls {listed0 : Array Bool} {phase : List Nat} {T fuel n0 : Nat} (d : Nat → Tmp) (R : Nat → Value → World → Prop) {a0 : Act} {w0 : World} {sb : Nat} {m : Int}
    (hB : floatB md ls.toArray listed0 phase T = true) (hd : phase.Pairwise (fun i j => d i ≠ d j)) (hsz : ∀ k ∈ phase, d k < a0.tmps.size) (hn0 : phase.length = n0) (hstr : Str w0 sb m)
    (hdst : ∀ k ∈ phase, ∃ o, opAt ls k = some o ∧ o.dst = some (d k) ∧ o.guard = none)
    (hstab : ∀ k v w w', R k v w → w.grownBy w' (some sb) → R k v w')
    (hS : ∀ w, w0.grownBy w (some sb) → S w)
    (hlaw : ∀ k o a w m' K, k ∈ phase → opAt ls k = some o → (∀ s, (∀ j ∈ phase, d j ≠ s) → a.tmps[s]? = a0.tmps[s]?) → (∀ e ∈ o.after, Region.binds md e = true → e.on ∈ phase → R e.on (a.tmps.getD (d e.on) undef) w) →
      Str w sb m' → m' ≤ m + 2 * n0 → w0.grownBy w (some sb) → (∀ v w', R k v w' → Str w' sb (m' + 2) → w.grownBy w' (some sb) → K (a.put (some (d k)) v) w') → o.wp P a w K Q)
    (hend : ∀ vs w', (∀ k ∈ phase, R k (vs k) w') → Str w' sb (m + 2 * n0) → w0.grownBy w' (some sb) →
      wpAnyB P md ls.toArray Q S b fuel (phase.foldl (fun l k => l.setIfInBounds k true) listed0) (putAll a0 d vs phase) w') :
    wpAnyB P md ls.toArray Q S b (n0 + fuel) listed0 a0 w0 := by
  have hB0 := hB
  unfold floatB at hB
  simp only [Bool.and_eq_true, decide_eq_true_eq, Bool.not_eq_true'] at hB
  obtain ⟨⟨⟨⟨⟨⟨⟨h0, hnd⟩, hph⟩, hT⟩, hTp⟩, hT0⟩, htopo⟩, htail⟩ := hB
  have hp1 : ∀ k ∈ phase, k < ls.toArray.size ∧ listed0.getD k false = false := fun k hk => by
    have := List.all_eq_true.1 hph k hk
    simpa using this
  have hun : undone listed0 phase = n0 := by
    unfold undone
    rw [List.filter_eq_self.2 (fun k hk => by rw [(hp1 k hk).2]; rfl), hn0]
  refine float_mainB (Inv := FlI a0 w0 sb (m + 2 * n0) phase d R) hB0 ?_ ?_ n0 listed0 a0 w0 ⟨h0, fun k h => h, fun k h => .inl h⟩ (fun j oj _ hj hl => by rw [(hp1 j hj).2] at hl; cases hl) hun
    ⟨rfl, rfl, fun s _ => rfl, fun k hk hl => (by rw [(hp1 k hk).2] at hl; cases hl), (by rw [show m + 2 * (n0 : Int) - 2 * (n0 : Int) = m by omega]; exact hstr), gr_refl _ _⟩
  · intro n listed a w k o hk ho hku hdeps hi
    obtain ⟨o', ho', hdk, hg⟩ := hdst k hk
    have ho2 := ho'
    rw [opAt_eq, ho] at ho2
    injection ho2 with ho2
    subst ho2
    unfold wpOp
    have hw : Region.wanted o (yielded ls.toArray a.tmps) = true := by simp [Region.wanted, hg]
    simp only [ho, hw, if_true]
    refine .inl (hlaw k o a w _ _ hk ho' hi.same (fun e he hb hm => hi.done _ hm (hdeps e he hb)) hi.str (by omega) hi.grown fun v w' hv hs' hgr => ?_)
    have hg2 := gr_same hi.grown hgr
    refine ⟨hS w' hg2, ⟨hi.defers, by simp [Act.put, hi.size], fun s hs => ?_, fun j hj hl => ?_, hs'.mono (by omega), hg2⟩⟩
    · rw [getD_put, if_neg (hs k hk)]; exact hi.same s hs
    · by_cases e : k = j
      · subst e
        have : (a.put (some (d k)) v).tmps.getD (d k) undef = v := by
          rw [Array.getD_eq_getD_getElem?, getD_put, if_pos rfl, if_pos (by rw [hi.size]; exact hsz k hk)]; rfl
        rw [this]; exact hv
      · have hne : d k ≠ d j := by
          obtain ⟨x, hx⟩ := List.mem_iff_getElem?.1 hk
          obtain ⟨y, hy⟩ := List.mem_iff_getElem?.1 hj
          obtain ⟨hx1, hx2⟩ := List.getElem?_eq_some_iff.1 hx
          obtain ⟨hy1, hy2⟩ := List.getElem?_eq_some_iff.1 hy
          have hpw := List.pairwise_iff_getElem.1 hd
          rcases Nat.lt_trichotomy x y with h | h | h
          · have := hpw x y hx1 hy1 h; rwa [hx2, hy2] at this
          · subst h; rw [hx2] at hy2; exact absurd hy2 e
          · have := hpw y x hy1 hx1 h; rw [hx2, hy2] at this; exact fun h2 => this h2.symm
        have h1 : (a.put (some (d k)) v).tmps.getD (d j) undef = a.tmps.getD (d j) undef := by
          rw [Array.getD_eq_getD_getElem?, Array.getD_eq_getD_getElem?, getD_put, if_neg hne]
        rw [h1]
        rw [getD_set_ne false e] at hl
        exact hstab j _ w w' (hi.done j hj hl) hgr
  · intro listed a w hall hsz2 hi
    have hl : listed = phase.foldl (fun l k => l.setIfInBounds k true) listed0 := by
      have aux : ∀ (ph : List Nat) (l0 : Array Bool), (∀ k ∈ ph, k < l0.size) → (ph.foldl (fun l k => l.setIfInBounds k true) l0).size = l0.size ∧ ∀ j, (ph.foldl (fun l k => l.setIfInBounds k true) l0).getD j false = (l0.getD j false || ph.contains j) := by
        intro ph
        induction ph with
        | nil => intro l0 _; exact ⟨rfl, fun j => by simp⟩
        | cons k ph ih =>
          intro l0 hlt
          obtain ⟨e1, e2⟩ := ih (l0.setIfInBounds k true) (fun j hj => by simpa using hlt j (List.mem_cons_of_mem _ hj))
          rw [List.foldl_cons]
          refine ⟨by rw [e1]; simp, fun j => ?_⟩
          rw [e2 j]
          by_cases e : k = j
          · subst e
            have : (l0.setIfInBounds k true).getD k false = true := by simp [hlt k (List.mem_cons_self ..)]
            rw [this]; simp
          · rw [getD_set_ne false e, List.contains_cons]
            have : (j == k) = false := by simpa using fun h : j = k => e h.symm
            rw [this, Bool.false_or]
      obtain ⟨e1, e2⟩ := aux phase listed0 (fun k hk => by rw [h0]; exact (hp1 k hk).1)
      apply Array.ext
      · rw [e1, hsz2, h0]
      · intro j hj1 hj2
        have h3 := hall j
        rw [← e2 j] at h3
        simpa [hj1, hj2] using h3
    have hfr := hi.frame hd hsz
    rw [hfr, hl]
    exact hend _ w (fun k hk => hi.done k hk (by rw [hall k]; simp [hk])) (hi.str.mono (by omega)) hi.grown
end
end
end Go.Proofs.YtpjheibkacbbcaaGreatDoor
/- slices.SortFunc at structs in a row of the call's own, at any length: a sorted permutation. Over any program that bears the library's text. Conditions: the order is a strict weak one. -/
namespace Go.Proofs.YtpjheibkacbbcaaGreatDoor
section
open Go.Shelf Go.RowKit Go.Lib Go.Sort

section
variable {P : Program} {ρ : Ren} {α : Type} {row : α → List Value} {k : Nat} {e : TypeId} {lo g n c : Nat} {l : List α} {w : World}
theorem flatK_toList [Inhabited α] (hk : ∀ a, (row a).length = k) (l : List α) : (flatK row k l.toArray).toList = l.flatMap row := by
  apply List.ext_getElem?
  intro t
  rw [Array.getElem?_toList]
  by_cases ht : t < l.length * k
  · have hs : t < (flatK row k l.toArray).size := by simpa using ht
    have k0 : 0 < k := by
      rcases Nat.eq_zero_or_pos k with h | h
      · subst h; simp at ht
      · exact h
    have hq : t / k < l.length := Nat.div_lt_of_lt_mul (by rw [Nat.mul_comm]; exact ht)
    have hm := Nat.mod_lt t k0
    have e := flat_get hk l (t / k) (t % k) hm
    rw [show t / k * k + t % k = t by rw [Nat.mul_comm]; exact Nat.div_add_mod t k] at e
    rw [e, Array.getElem?_eq_getElem hs, ← getElem!_pos _ t hs, get_flatK _ _ _ t (by simpa using ht), List.getElem?_eq_getElem hq]
    have h1 : (l.toArray)[t / k]! = l[t / k] := by rw [getElem!_pos _ _ (by simpa using hq)]; simp
    rw [h1]
    show _ = (row l[t / k])[t % k]?
    rw [List.getElem?_eq_getElem (by rw [hk]; exact hm), getElem!_pos _ _ (by rw [hk]; exact hm)]
  · rw [Array.getElem?_eq_none (by simpa using Nat.le_of_not_lt ht), List.getElem?_eq_none (by rw [flat_len hk]; omega)]
theorem OwnR.holds [Inhabited α] (hk : ∀ a, (row a).length = k) (h : OwnR row k w lo e (some ⟨g, 0, none⟩) n c l) : HoldsK row k w g 0 l.toArray := by
  intro j hj
  have hj' : j < n * k := by rw [← h.2]; simpa using hj
  rw [Nat.zero_add]
  refine ⟨(h.1.cell hj').trans ?_, h.1.frozen j⟩
  rw [← flatK_toList hk l, Array.getElem?_toList, Array.getElem?_eq_getElem hj, ← getElem!_pos _ j hj]
  rfl
/-- No later one is less than an earlier one. -/
def Asc (cf : α → α → Int) (l : List α) : Prop := l.Pairwise fun x y => ¬ cf y x < 0
end
end
end Go.Proofs.YtpjheibkacbbcaaGreatDoor
/- Insertion by exchanges sorts; equal neighbours once; two rising lists of the same elements. In plain Lean. Conditions: the order is a strict weak one. -/
namespace Go.Proofs.YtpjheibkacbbcaaGreatDoor
section
open Go.Shelf Go.RowKit Go.Lib Go.Sort

section
variable {α : Type} {cf : α → α → Int} {l : List α} {i j n : Nat} {x y z : α}
theorem swo_asym (h : SWO (ltOf cf)) (h1 : cf x y < 0) : ¬ cf y x < 0 := by
  intro h2
  have h3 := h.trans x y x (by unfold ltOf; exact decide_eq_true h1) (by unfold ltOf; exact decide_eq_true h2)
  have h4 := h.irrefl x
  rw [h3] at h4
  cases h4
theorem swo_self (h : SWO (ltOf cf)) (x : α) : ¬ cf x x < 0 := by
  have h4 := h.irrefl x
  unfold ltOf at h4
  exact of_decide_eq_false h4
theorem swo_ntr (h : SWO (ltOf cf)) (h1 : ¬ cf x y < 0) (h2 : ¬ cf y z < 0) : ¬ cf x z < 0 := by
  have h3 := h.ntrans x y z (by unfold ltOf; exact decide_eq_false h1) (by unfold ltOf; exact decide_eq_false h2)
  unfold ltOf at h3
  exact of_decide_eq_false h3
/-- The first i are in order. -/
def SrtTo (cf : α → α → Int) (l : List α) (i : Nat) : Prop := ∀ (p q : Nat) (x y : α), p < q → q < i → l[p]? = some x → l[q]? = some y → ¬ cf y x < 0
/-- The first i + 1 are in order, but for the one at place j, which may belong further to the front. -/
def Hole (cf : α → α → Int) (l : List α) (i j : Nat) : Prop := ∀ (p q : Nat) (x y : α), p < q → q ≤ i → q ≠ j → l[p]? = some x → l[q]? = some y → ¬ cf y x < 0
theorem SrtTo.one : SrtTo cf l 1 := fun p q x y h1 h2 => by omega
theorem Hole.done (hO : SWO (ltOf cf)) (h : Hole cf l i (j + 1)) (hx : l[j + 1]? = some x) (hy : l[j]? = some y) (hj : j + 1 ≤ i) (hc : ¬ cf x y < 0) : SrtTo cf l (i + 1) := by
  intro p q u v h1 h2 hu hv
  by_cases e : q = j + 1
  · subst e
    rw [hx] at hv
    obtain rfl := Option.some.inj hv
    by_cases e2 : p = j
    · subst e2
      rw [hy] at hu
      obtain rfl := Option.some.inj hu
      exact hc
    · exact swo_ntr hO hc (h p j u y (by omega) (by omega) (by omega) hu hy)
  · exact h p q u v h1 (by omega) e hu hv
theorem swap_get (hx : l[j + 1]? = some x) (hy : l[j]? = some y) (p : Nat) : ((l.set (j + 1) y).set j x)[p]? = if p = j then some x else if p = j + 1 then some y else l[p]? := by
  have h1 := (List.getElem?_eq_some_iff.1 hx).1
  by_cases e : p = j
  · subst e
    rw [if_pos rfl, List.getElem?_set_self (by rw [List.length_set]; omega)]
  · rw [if_neg e, List.getElem?_set_ne (by omega)]
    by_cases e2 : p = j + 1
    · subst e2
      rw [if_pos rfl, List.getElem?_set_self h1]
    · rw [if_neg e2, List.getElem?_set_ne (by omega)]
theorem Hole.swap (hO : SWO (ltOf cf)) (h : Hole cf l i (j + 1)) (hx : l[j + 1]? = some x) (hy : l[j]? = some y) (hj : j + 1 ≤ i) (hc : cf x y < 0) : Hole cf ((l.set (j + 1) y).set j x) i j := by
  intro p q u v h1 h2 h3 hu hv
  rw [swap_get hx hy] at hu hv
  rw [if_neg h3] at hv
  by_cases e : q = j + 1
  · rw [if_pos e] at hv
    obtain rfl := Option.some.inj hv
    by_cases e2 : p = j
    · rw [if_pos e2] at hu
      obtain rfl := Option.some.inj hu
      exact swo_asym hO hc
    · rw [if_neg e2, if_neg (by omega)] at hu
      exact h p j u _ (by omega) (by omega) (by omega) hu hy
  · rw [if_neg e] at hv
    by_cases e2 : p = j
    · rw [if_pos e2] at hu
      obtain rfl := Option.some.inj hu
      exact h (j + 1) q _ v (by omega) h2 e hx hv
    · rw [if_neg e2] at hu
      by_cases e3 : p = j + 1
      · rw [if_pos e3] at hu
        obtain rfl := Option.some.inj hu
        exact h j q _ v (by omega) h2 e hy hv
      · rw [if_neg e3] at hu
        exact h p q u v h1 h2 e hu hv
end
section
variable {α : Type} [DecidableEq α] {cf : α → α → Int}
/-- No equal neighbours among the first k. -/
def NoEq (l : List α) (k : Nat) : Prop := ∀ (p : Nat) (x y : α), p + 1 < k → l[p]? = some x → l[p + 1]? = some y → x ≠ y
omit [DecidableEq α] in
theorem NoEq.one {l : List α} : NoEq l 1 := fun p x y h => by omega
omit [DecidableEq α] in
/-- Each is less than all that follow it. -/
def Rise (cf : α → α → Int) (l : List α) : Prop := l.Pairwise fun x y => cf x y < 0
omit [DecidableEq α] in
omit [DecidableEq α] in
/-- Two rising lists of the same elements are one. -/
theorem rise_one (hO : SWO (ltOf cf)) : ∀ {l m : List α}, Rise cf l → Rise cf m → (∀ x, x ∈ l ↔ x ∈ m) → l = m
  | [], [], _, _, _ => rfl
  | [], b :: m, _, _, h => absurd ((h b).2 (List.mem_cons_self ..)) (by simp)
  | a :: l, [], _, _, h => absurd ((h a).1 (List.mem_cons_self ..)) (by simp)
  | a :: l, b :: m, h1, h2, h => by
    obtain ⟨p1, p2⟩ := List.pairwise_cons.1 h1
    obtain ⟨q1, q2⟩ := List.pairwise_cons.1 h2
    have e : a = b := by
      rcases List.mem_cons.1 ((h a).1 (List.mem_cons_self ..)) with e | hm
      · exact e
      · rcases List.mem_cons.1 ((h b).2 (List.mem_cons_self ..)) with e | hn
        · exact e.symm
        · exact absurd (p1 b hn) (swo_asym hO (q1 a hm))
    subst e
    rw [rise_one hO p2 q2 (fun x => ⟨fun hx => by
      rcases List.mem_cons.1 ((h x).1 (List.mem_cons_of_mem _ hx)) with e | hm
      · subst e; exact absurd (p1 x hx) (swo_self hO x)
      · exact hm, fun hx => by
      rcases List.mem_cons.1 ((h x).2 (List.mem_cons_of_mem _ hx)) with e | hm
      · subst e; exact absurd (q1 x hx) (swo_self hO x)
      · exact hm⟩)]
end
end
end Go.Proofs.YtpjheibkacbbcaaGreatDoor
/- slices.Equal at two slices of strings that read as the same list. Conditions: none. -/
namespace Go.Proofs.YtpjheibkacbbcaaGreatDoor
section
open Go.RowKit
set_option maxHeartbeats 4000000 in
theorem equalS_same (lo lo' : Nat) (A A' : Option Addr) (n c n' c' : Nat) (l : List ByteArray) (w : World) (h1 : Recs srow 1 w lo A n c l) (h2 : Recs srow 1 w lo' A' n' c' l) (hn2 : n ≤ 1000000000000) :
    Calls Tryz.prog 42 #[.slice A n c, .slice A' n' c'] w fun e w' => e = .returned (.bool true) ∧ ∃ k, w' = w.drewN k := by
  obtain rfl : n = n' := by rw [← h1.len, ← h2.len]
  have H1 := Lib.hid h1; have H2 := Lib.hid h2; clear h1 h2
  go_enter Tryz.func42, Tryz.ntmps42
  go_wp2_with fail
  go_loopw [5, 13] (fun _ t wr => ∃ i : Nat, i ≤ n ∧ t = .int .i64 i ∧ ∃ k, wr = w.drewN k) (fun _ t _ => n - (intOf t).toNat)
  case atStart => exact ⟨0, Nat.zero_le _, rfl, 0, rfl⟩
  case round =>
    obtain ⟨i, hi, rfl, k, rfl⟩ := hrel
    by_cases hlt : i < n
    · obtain ⟨g, o, z, rfl, _, _, hz, hc⟩ := H1.out.get (fun _ => rfl) hlt
      obtain ⟨g', o', z', rfl, _, _, hz', hc2⟩ := H2.out.get (fun _ => rfl) hlt
      rw [hz] at hz'
      injection hz' with hz'
      subst hz'
      have q0 : (z.toList == z.toList) = true := beq_self_eq_true _
      have c0 := hc 0 _ rfl
      have d0 := hc2 0 _ rfl
      simp only [Nat.add_zero, Nat.mul_one] at c0 d0
      clear hz hc hc2
      have hi0 : (0 : Int) ≤ (i : Int) := by omega
      have hi1 : (i : Int) < (n : Int) := by omega
      go_wp2_with fail
      go_quiet (fail)
      go_wp2_with fail
      go_roundw
      case rel => exact ⟨i + 1, by omega, by go_num, _, rfl⟩
      case measure => simp [intOf]; omega
    · obtain rfl : i = n := by omega
      go_wp2_with fail
      go_ret
      exact ⟨rfl, _, rfl⟩
end
end Go.Proofs.YtpjheibkacbbcaaGreatDoor
/- Contracts of the statements' when and momentFault. Conditions: none. -/
namespace Go.Proofs.YtpjheibkacbbcaaGreatDoor
section
open Go.RowKit
set_option maxHeartbeats 1000000 in
theorem whenF_any (b : Bool) (e : Int) (w : World) : Calls Tryz.prog 37 #[.bool b, .int .i64 e] w (Same (.int .i64 (if b then e else 0)) w) := by
  cases b
  all_goals
    go_enter Tryz.func37, Tryz.ntmps37
    go_wp2_with fail
    go_ret
    exact ⟨rfl, rfl⟩
def momF (t : Int) : Int := if momB t then 0 else 1
set_option maxHeartbeats 1000000 in
theorem momF_any (t : Int) (w : World) : Calls Tryz.prog 39 #[.int .i64 t] w (Same (.int .i64 (momF t)) w) := by
  have HV := Lib.hid (show momF t = if momB t then 0 else 1 from rfl)
  cases hm : momB t
  all_goals
    rw [hm] at HV
    go_enter Tryz.func39, Tryz.ntmps39
    go_wp2_with (first
      | (go_at_call 114; refine (momentB_any _ _).mono ?_; rintro e w' ⟨rfl, rfl⟩; rw [hm])
      | (go_at_call 37; refine (whenF_any _ _ _).mono ?_; rintro e w' ⟨rfl, rfl⟩)
      | fail)
    go_ret
    exact ⟨by rw [HV.out]; rfl, rfl⟩
end
end Go.Proofs.YtpjheibkacbbcaaGreatDoor

/- What the laws share: the numbers that came in, as a stream. Conditions: none. -/
import Derived.Test.YtelpakmiciilgaaGreatDoorStream
import Derived.Test.YtelpakmiciilgaaGreatDoorBun1
namespace Go.Proofs.YtelpakmiciilgaaGreatDoor
section
open Go.RowKit

/-- What a walk is told of a slice of integers that came in: it is nil; or it leads to a row of 'cap' cells, the numbers 'zs'. -/
def IsRow (k : IntKind) (w : World) (a : Option Addr) (len cap : Nat) (zs : List Int) : Prop :=
  (a = none ∧ len = 0 ∧ cap = 0 ∧ zs = []) ∨
  ∃ x, a = some x ∧ len ≤ cap ∧ cap ≤ maxLen ∧ zs.length = cap ∧ (∀ i, i < zs.length → w.cell? (x.add i) = some (.int k (zs.getD i 0))) ∧ ∀ n ∈ zs, (Lit.int k n).wf = true

theorem addr_none {w : World} {x : Addr} {v : Value} (h : w.cell? x = some v) : x.spot = none := by
  unfold World.cell? at h
  split at h
  · split at h
    · cases h
    · rename_i hs; simpa using hs
  · cases h

/-- The stream, as it is made: nothing has been drawn. -/
theorem str_new {w : World} {a : Option Addr} {len cap : Nat} {zs : List Int} (h : IsRow .i64 w a len cap zs) : Str (w.alloc (.cells #[.slice a len cap, .int .i64 0] 25)) w.heap.size 0 := by
  refine ⟨a, len, cap, 0, by omega, by omega, ?_, Blk.new _ _ _, fun hl => ?_⟩
  · rcases h with ⟨_, rfl, _, _⟩ | ⟨x, _, h1, h2, _⟩
    · omega
    · unfold maxLen at h2; omega
  · rcases h with ⟨_, rfl, _, _⟩ | ⟨x, rfl, h1, h2, h3, h4, _⟩
    · omega
    · have h0 := h4 0 (by omega)
      have hx : x = ⟨x.block, x.off, none⟩ := by
        have := addr_none (show w.cell? x = some _ from by simpa [Addr.add] using h0)
        cases x; simp_all
      have hb : x.block < w.heap.size := World.block_lt_of_cell? w x (show w.cell? x = some _ from by simpa [Addr.add] using h0)
      refine ⟨x.block, x.off, by rw [← hx], hb, fun i hi => ⟨zs.getD i 0, ?_⟩⟩
      have hi' := h4 i (by omega)
      rw [hx, add_mk] at hi'
      exact (World.cell?_alloc_lt _ _ ⟨x.block, x.off + i, none⟩ hb).trans hi'

/-- What a law owes of old memory: only the stream's own block, which is new, has been written. -/
theorem below_of_gr {w w' : World} (h : w.grownBy w' (some w.heap.size)) : Below w.heap.size w w' :=
  ⟨h.os, h.tape, h.output, h.size, fun k hk => h.block k hk (fun e => by injection e with e; omega)⟩
end
end Go.Proofs.YtelpakmiciilgaaGreatDoor
/- A region that draws its order in which calls of generators stand beside the making of their arguments: each operation is looked at once, whatever came before it. Conditions: none. -/
namespace Go.Proofs.YtelpakmiciilgaaGreatDoor
section
section
variable {P : Program} {ops : Array Oper} {Q : Exit → Act → World → Prop} {md : Region.Mode} {S : World → Prop} {last : Nat}

/-! Moves on the walk over all orders. -/
theorem wp_region_E {id : Nat} {a : Act} {w : World} (S : World → Prop) (hm : P.follows .mixedOrders = true)
    (h : wpAnyE P .any ops Q S (ops.size - 1) ops.size (Array.replicate ops.size false) a w.drew) : (Code.region id ops true).wp P Q a w :=
  wp_region_any hm (wpAny_of_E (S := S) (last := ops.size - 1) _ _ _ _ h)
/-- What has come up is closed, the last one has not come up. -/
def headB (md : Region.Mode) (ops : Array Oper) (last : Nat) (listed : Array Bool) : Bool :=
  decide (listed.size = ops.size) && decide (last + 1 = ops.size) && (listed.getD last true == false) &&
  (List.range ops.size).all fun j => !listed.getD j false || (match ops[j]? with | some o => o.after.all fun e => !Region.binds md e || listed.getD e.on false | none => true)
theorem headB_spec {listed : Array Bool} (h : headB md ops last listed = true) : HeadInv md ops last listed := by
  unfold headB at h
  simp only [Bool.and_eq_true, decide_eq_true_eq, beq_iff_eq] at h
  obtain ⟨⟨⟨h1, h2⟩, h3⟩, h4⟩ := h
  refine ⟨h1, fun j oj hj hl e he hb => ?_, fun t ht ht2 => ?_⟩
  · have hj2 := (Array.getElem?_eq_some_iff.1 hj).1
    have := List.all_eq_true.1 h4 j (List.mem_range.2 hj2)
    rw [hl, hj] at this
    simp only [Bool.not_true, Bool.false_or] at this
    have := Array.all_eq_true_iff_forall_mem.1 this e he
    rw [hb] at this
    simpa using this
  · have : t = last := by omega
    subst this; exact h3
def takeB (md : Region.Mode) (ops : Array Oper) (last : Nat) (listed : Array Bool) (k : Nat) : Bool :=
  Region.noSelect ops && Region.sinkB md ops last && decide (k < last) && headB md ops last listed && (Region.ready md ops listed).contains k && Region.free md ops listed k
variable {ls : List Oper}
theorem E_take {fuel k : Nat} {listed : Array Bool} {o : Oper} {a : Act} {w : World} (v : Value) (ho : opAt ls k = some o) (hB : takeB md ls.toArray last listed k = true)
    (hQ : ∀ c a w, Q (.panic c) (a.put o.dst v) w → Q (.panic c) a w) (hw : Region.wanted o (yielded ls.toArray a.tmps) = true) (hy : ∀ w, S w → (execOp a.eval o).run P w = .ok (.value v) w) (hS : S w)
    (h : wpAnyE P md ls.toArray Q S last fuel (listed.setIfInBounds k true) (a.put o.dst v) w) : wpAnyE P md ls.toArray Q S last (fuel + 1) listed a w := by
  unfold takeB at hB
  simp only [Bool.and_eq_true, decide_eq_true_eq] at hB
  obtain ⟨⟨⟨⟨⟨h1, h2⟩, h3⟩, h4⟩, h5⟩, h6⟩ := hB
  rw [opAt_eq] at ho
  have inv := headB_spec h4
  have hl : last + 1 = ls.toArray.size := by
    unfold headB at h4
    simp only [Bool.and_eq_true, decide_eq_true_eq] at h4
    exact h4.1.1.2
  have hc : Region.chainB md ls.toArray last = true := by
    unfold Region.chainB
    rw [List.all_eq_true]
    intro t ht
    have := List.mem_range.1 ht
    rw [Bool.or_eq_true]
    exact .inl (decide_eq_true (by omega))
  exact wpAnyE_first ho (Region.noSelect_spec h1) hQ h2 hc (by omega) h3 fuel listed a w inv (Region.free_spec ho h6) (by simpa using h5) (.inl ⟨hw, hy⟩) hS h
/-- One that comes up alone. -/
theorem E_run {fuel k : Nat} {listed : Array Bool} {o : Oper} {a : Act} {w : World} (ho : opAt ls k = some o) (hr : Region.ready md ls.toArray listed = [k]) (hw : Region.wanted o (yielded ls.toArray a.tmps) = true)
    (h : ∀ K : Act → World → Prop, (∀ a' w', (k = last ∨ S w') → wpAnyE P md ls.toArray Q S last fuel (listed.setIfInBounds k true) a' w' → K a' w') → o.wp P a w K Q) : wpAnyE P md ls.toArray Q S last (fuel + 1) listed a w := by
  refine ⟨fun h1 => (by rw [hr] at h1; cases h1), fun i hi => ?_⟩
  rw [hr] at hi
  have hik : i = k := by simpa using hi
  subst hik
  rw [opAt_eq] at ho
  unfold wpOp
  simp only [ho, hw, if_true]
  exact .inl (h _ fun a' w' h1 h2 => ⟨h1, h2⟩)
theorem E_done {listed : Array Bool} {a : Act} {w : World} (hr : Region.ready md ops listed = []) (h : Q .normal a w) : wpAnyE P md ops Q S last 0 listed a w := ⟨hr, h⟩

/-! The same where S holds behind every operation. -/
theorem H_begin {id : Nat} {a : Act} {w : World} (S : World → Prop) (hm : P.follows .mixedOrders = true)
    (h : wpAnyH P .any ops Q S ops.size (Array.replicate ops.size false) a w.drew) : (Code.region id ops true).wp P Q a w := wp_region_held hm h
theorem H_take {fuel k : Nat} {listed : Array Bool} {o : Oper} {a : Act} {w : World} (v : Value) (ho : opAt ls k = some o) (hs : Region.noSelect ls.toArray = true) (hf : Region.free md ls.toArray listed k = true) (hr : (Region.ready md ls.toArray listed).contains k = true)
    (hQ : ∀ c a w, Q (.panic c) (a.put o.dst v) w → Q (.panic c) a w) (hw : Region.wanted o (yielded ls.toArray a.tmps) = true) (hy : ∀ w, S w → (execOp a.eval o).run P w = .ok (.value v) w) (hS : S w)
    (h : wpAnyH P md ls.toArray Q S fuel (listed.setIfInBounds k true) (a.put o.dst v) w) : wpAnyH P md ls.toArray Q S (fuel + 1) listed a w := by
  rw [opAt_eq] at ho
  exact wpAnyH_take ho hs hf hr hQ (.inl ⟨hw, hy⟩) hS h
theorem H_skip {fuel k : Nat} {listed : Array Bool} {o : Oper} {a : Act} {w : World} (ho : opAt ls k = some o) (hs : Region.noSelect ls.toArray = true) (hf : Region.free md ls.toArray listed k = true) (hr : (Region.ready md ls.toArray listed).contains k = true)
    (hQ : ∀ c a w, Q (.panic c) (a.put o.dst undef) w → Q (.panic c) a w) (hw : Region.wanted o (yielded ls.toArray a.tmps) = false) (hS : S w)
    (h : wpAnyH P md ls.toArray Q S fuel (listed.setIfInBounds k true) (a.put o.dst undef) w) : wpAnyH P md ls.toArray Q S (fuel + 1) listed a w := by
  rw [opAt_eq] at ho
  exact wpAnyH_take ho hs hf hr hQ (.inr ⟨hw, rfl⟩) hS h
theorem H_run {fuel k : Nat} {listed : Array Bool} {o : Oper} {a : Act} {w : World} (ho : opAt ls k = some o) (hr : Region.ready md ls.toArray listed = [k]) (hw : Region.wanted o (yielded ls.toArray a.tmps) = true)
    (h : ∀ K : Act → World → Prop, (∀ a' w', S w' → wpAnyH P md ls.toArray Q S fuel (listed.setIfInBounds k true) a' w' → K a' w') → o.wp P a w K Q) : wpAnyH P md ls.toArray Q S (fuel + 1) listed a w := by
  refine ⟨fun h1 => (by rw [hr] at h1; cases h1), fun i hi => ?_⟩
  rw [hr] at hi
  have hik : i = k := by simpa using hi
  subst hik
  rw [opAt_eq] at ho
  unfold wpOp
  simp only [ho, hw, if_true]
  exact .inl (h _ fun a' w' h1 h2 => ⟨h1, h2⟩)
theorem H_done {listed : Array Bool} {a : Act} {w : World} (hr : Region.ready md ops listed = []) (h : Q .normal a w) : wpAnyH P md ops Q S 0 listed a w := ⟨hr, h⟩

/-! Operations that come up in many orders. -/
def undone (listed : Array Bool) (phase : List Nat) : Nat := (phase.filter fun k => !listed.getD k false).length
theorem undone_set {listed : Array Bool} {k : Nat} (hk : k < listed.size) (hu : listed.getD k false = false) : ∀ {phase : List Nat}, phase.Nodup → k ∈ phase → undone listed phase = undone (listed.setIfInBounds k true) phase + 1
  | [], _, h => by cases h
  | j :: l, hn, h => by
    rw [List.nodup_cons] at hn
    have hs : (listed.setIfInBounds k true).getD k false = true := by simp [hk]
    unfold undone
    by_cases e : k = j
    · subst e
      have rest : ∀ l : List Nat, k ∉ l → (l.filter fun k => !listed.getD k false) = l.filter fun j => !(listed.setIfInBounds k true).getD j false := fun l hl => by
        apply List.filter_congr
        intro j hj
        rw [getD_set_ne false (show k ≠ j from fun e => hl (by rw [e]; exact hj))]
      rw [List.filter_cons_of_pos (by rw [hu]; rfl), List.filter_cons_of_neg (by rw [hs]; decide), rest l hn.1]
      rfl
    · have hkl : k ∈ l := (List.mem_cons.1 h).resolve_left e
      have ih := undone_set hk hu hn.2 hkl
      unfold undone at ih
      have h2 : (listed.setIfInBounds k true).getD j false = listed.getD j false := getD_set_ne false e
      by_cases hj : listed.getD j false = true
      · rw [List.filter_cons_of_neg (by rw [hj]; decide), List.filter_cons_of_neg (by rw [h2, hj]; decide)]
        exact ih
      · have hj' : listed.getD j false = false := by simpa using hj
        rw [List.filter_cons_of_pos (by rw [hj']; rfl), List.filter_cons_of_pos (by rw [h2, hj']; rfl), List.length_cons, List.length_cons, ih]
theorem undone_zero {listed : Array Bool} {phase : List Nat} (h : undone listed phase = 0) : ∀ k ∈ phase, listed.getD k false = true := by
  intro k hk
  unfold undone at h
  have := List.filter_eq_nil_iff.1 (List.eq_nil_of_length_eq_zero h) k hk
  simpa using this
theorem undone_pos {listed : Array Bool} {phase : List Nat} (h : 0 < undone listed phase) : ∃ p k, phase[p]? = some k ∧ listed.getD k false = false ∧ ∀ j ∈ phase.take p, listed.getD j false = true := by
  induction phase with
  | nil => simp [undone] at h
  | cons k l ih =>
    by_cases hk : listed.getD k false = true
    · have : undone listed (k :: l) = undone listed l := by unfold undone; rw [List.filter_cons_of_neg (by rw [hk]; decide)]
      obtain ⟨p, j, h1, h2, h3⟩ := ih (by omega)
      refine ⟨p + 1, j, h1, h2, fun i hi => ?_⟩
      rw [List.take_succ_cons] at hi
      rcases List.mem_cons.1 hi with rfl | hi
      · exact hk
      · exact h3 i hi
    · exact ⟨0, k, rfl, by simpa using hk, fun i hi => by cases hi⟩

def floatB (md : Region.Mode) (ops : Array Oper) (listed0 : Array Bool) (phase : List Nat) (T : Nat) : Bool :=
  decide (listed0.size = ops.size) && decide phase.Nodup && (phase.all fun k => decide (k < ops.size) && !listed0.getD k false) && decide (T < ops.size) && !phase.contains T && !listed0.getD T false &&
  ((List.range phase.length).all fun p => match phase[p]? with
    | some k => (match ops[k]? with | some o => o.after.all fun e => !Region.binds md e || listed0.getD e.on false || (phase.take p).contains e.on | none => false) &&
      (Region.waitsFor md ops T k || (phase.drop (p + 1)).any fun q => Region.waitsFor md ops q k)
    | none => true) &&
  ((List.range ops.size).all fun k => listed0.getD k false || phase.contains k || k == T || (List.range ops.size).any fun d => Region.waitsFor md ops k d && !listed0.getD d false && !phase.contains d)

/-- Which have come up: those at the start, and some of the phase. -/
structure FlL (ops : Array Oper) (listed0 : Array Bool) (phase : List Nat) (listed : Array Bool) : Prop where
  size : listed.size = ops.size
  old : ∀ k, listed0.getD k false = true → listed.getD k false = true
  new : ∀ k, listed.getD k false = true → listed0.getD k false = true ∨ k ∈ phase
theorem FlL.set_ {listed0 listed : Array Bool} {phase : List Nat} (h : FlL ops listed0 phase listed) {k : Nat} (hk : k ∈ phase) : FlL ops listed0 phase (listed.setIfInBounds k true) := by
  refine ⟨by simp [h.size], fun j hj => getD_set_true (h.old j hj), fun j hj => ?_⟩
  by_cases e : k = j
  · subst e; exact .inr hk
  · rw [getD_set_ne false e] at hj; exact h.new j hj

theorem float_main {listed0 : Array Bool} {phase : List Nat} {T fuel : Nat} {Inv : Nat → Array Bool → Act → World → Prop} (hB : floatB md ops listed0 phase T = true)
    (hstep : ∀ n listed a w k o, k ∈ phase → ops[k]? = some o → listed.getD k false = false → (∀ e ∈ o.after, Region.binds md e = true → listed.getD e.on false = true) → Inv (n + 1) listed a w →
      wpOp P ops Q k (fun a' w' => S w' ∧ Inv n (listed.setIfInBounds k true) a' w') a w)
    (hend : ∀ listed a w, (∀ j, listed.getD j false = (listed0.getD j false || phase.contains j)) → listed.size = ops.size → Inv 0 listed a w → wpAnyE P md ops Q S last fuel listed a w) :
    ∀ n listed a w, FlL ops listed0 phase listed → (∀ j oj, ops[j]? = some oj → j ∈ phase → listed.getD j false = true → ∀ e ∈ oj.after, Region.binds md e = true → listed.getD e.on false = true) →
      undone listed phase = n → Inv n listed a w → wpAnyE P md ops Q S last (n + fuel) listed a w := by
  unfold floatB at hB
  simp only [Bool.and_eq_true, decide_eq_true_eq, Bool.not_eq_true'] at hB
  obtain ⟨⟨⟨⟨⟨⟨⟨h0, hnd⟩, hph⟩, hT⟩, hTp⟩, hT0⟩, htopo⟩, htail⟩ := hB
  have hp1 : ∀ k ∈ phase, k < ops.size ∧ listed0.getD k false = false := fun k hk => by
    have := List.all_eq_true.1 hph k hk
    simpa using this
  intro n
  induction n with
  | zero =>
    intro listed a w hf _ hu hi
    rw [Nat.zero_add]
    have hall := undone_zero hu
    refine hend listed a w (fun j => ?_) hf.size hi
    cases hc : phase.contains j
    · rw [Bool.or_false]
      cases h1 : listed0.getD j false
      · cases h2 : listed.getD j false
        · rfl
        · rcases hf.new j h2 with h3 | h3
          · rw [h1] at h3; cases h3
          · have : phase.contains j = true := by simpa using h3
            rw [hc] at this; cases this
      · exact hf.old j h1
    · rw [Bool.or_true]; exact hall j (by simpa using hc)
  | succ n ih =>
    intro listed a w hf hcl hu hi
    rw [show n + 1 + fuel = (n + fuel) + 1 by omega]
    -- one of the phase may come up
    obtain ⟨p, k0, hk0, hku, hpre⟩ := undone_pos (listed := listed) (phase := phase) (by omega)
    have hrdy : k0 ∈ Region.ready md ops listed := by
      have hlt := (List.getElem?_eq_some_iff.1 hk0).1
      have hm : k0 ∈ phase := List.mem_of_getElem? hk0
      have h1 := List.all_eq_true.1 htopo p (List.mem_range.2 hlt)
      rw [hk0] at h1
      simp only [Bool.and_eq_true] at h1
      cases ho : ops[k0]? with
      | none => rw [ho] at h1; exact absurd h1.1 (by simp)
      | some o =>
        rw [ho] at h1
        rw [mem_ready]
        refine ⟨getD_in (by rw [hf.size]; exact (hp1 k0 hm).1) hku, o, ho, fun e he hb => ?_⟩
        have h2 := Array.all_eq_true_iff_forall_mem.1 h1.1 e he
        rw [hb] at h2
        simp only [Bool.not_true, Bool.false_or, Bool.or_eq_true] at h2
        rcases h2 with h2 | h2
        · exact hf.old _ h2
        · exact hpre _ (by simpa using h2)
    refine ⟨fun h1 => (by rw [h1] at hrdy; cases hrdy), fun i hi2 => ?_⟩
    obtain ⟨hiu, o, ho, hdeps⟩ := mem_ready.1 hi2
    have hiu' := getD_both hiu
    have him : i ∈ phase := by
      have hlt := (Array.getElem?_eq_some_iff.1 ho).1
      have h1 := List.all_eq_true.1 htail i (List.mem_range.2 hlt)
      simp only [Bool.or_eq_true, beq_iff_eq] at h1
      rcases h1 with ((h1 | h1) | h1) | h1
      · rw [hf.old i h1] at hiu'; cases hiu'
      · simpa using h1
      · -- T waits for all of the phase
        exfalso
        subst h1
        have all : ∀ d q k, phase.length - q = d → phase[q]? = some k → listed.getD k false = true := by
          intro d
          induction d using Nat.strongRecOn with
          | _ d ihd =>
            intro q k hd hk
            have hlt := (List.getElem?_eq_some_iff.1 hk).1
            have h2 := List.all_eq_true.1 htopo q (List.mem_range.2 hlt)
            rw [hk] at h2
            simp only [Bool.and_eq_true, Bool.or_eq_true] at h2
            rcases h2.2 with h3 | h3
            · obtain ⟨oj, hoj, e, he, hb, hon⟩ := Region.waitsFor_spec h3
              rw [ho] at hoj
              injection hoj with hoj
              subst hoj
              rw [← hon]; exact hdeps e he hb
            · obtain ⟨j, hj, hw⟩ := List.any_eq_true.1 h3
              obtain ⟨oj, hoj, e, he, hb, hon⟩ := Region.waitsFor_spec hw
              obtain ⟨q2, hq2⟩ := List.mem_iff_getElem?.1 hj
              rw [List.getElem?_drop] at hq2
              have hq3 := (List.getElem?_eq_some_iff.1 hq2).1
              have h5 := ihd (phase.length - (q + 1 + q2)) (by omega) _ j rfl hq2
              rw [← hon]
              exact hcl j oj hoj (List.mem_of_getElem? hq2) h5 e he hb
        rw [all _ p k0 rfl hk0] at hku
        cases hku
      · exfalso
        obtain ⟨d, hd, h2⟩ := List.any_eq_true.1 h1
        simp only [Bool.and_eq_true, Bool.not_eq_true'] at h2
        obtain ⟨⟨hw, hd0⟩, hdp⟩ := h2
        obtain ⟨oj, hoj, e, he, hb, hon⟩ := Region.waitsFor_spec hw
        rw [ho] at hoj
        injection hoj with hoj
        subst hoj
        have h3 := hdeps e he hb
        rw [hon] at h3
        rcases hf.new d h3 with h4 | h4
        · rw [hd0] at h4; cases h4
        · have : phase.contains d = true := by simpa using h4
          rw [hdp] at this; cases this
    refine wpOp_mono (fun a' w' h' => ⟨.inr h'.1, ?_⟩) (hstep n listed a w i o him ho hiu' hdeps hi)
    refine ih _ a' w' (hf.set_ him) (fun j oj hj hjm hl e he hb => ?_) ?_ h'.2
    · by_cases hij : i = j
      · subst hij
        have : oj = o := Option.some.inj (hj.symm.trans ho)
        subst this
        exact getD_set_true (hdeps e he hb)
      · rw [getD_set_ne false hij] at hl
        exact getD_set_true (hcl j oj hj hjm hl e he hb)
    · have := undone_set (listed := listed) (k := i) (by rw [hf.size]; exact (hp1 i him).1) hiu' hnd him
      omega

/-! The calls of generators. -/
/-- What the phase leaves: each result holds what is said of it. -/
structure FlI (a0 : Act) (w0 : World) (sb : Nat) (M : Int) (phase : List Nat) (d : Nat → Tmp) (R : Nat → Value → World → Prop) (n : Nat) (listed : Array Bool) (a : Act) (w : World) : Prop where
  defers : a.defers = a0.defers
  size : a.tmps.size = a0.tmps.size
  same : ∀ s, (∀ k ∈ phase, d k ≠ s) → a.tmps[s]? = a0.tmps[s]?
  done : ∀ k ∈ phase, listed.getD k false = true → R k (a.tmps.getD (d k) undef) w
  str : Str w sb (M - 2 * n)
  grown : w0.grownBy w (some sb)
def putAll (a0 : Act) (d : Nat → Tmp) (vs : Nat → Value) (phase : List Nat) : Act := phase.foldl (fun a k => a.put (some (d k)) (vs k)) a0
theorem getD_put (a : Act) (s t : Nat) (v : Value) : (a.put (some t) v).tmps[s]? = if t = s then (if t < a.tmps.size then some v else none) else a.tmps[s]? := by
  unfold Act.put
  simp only [Array.getElem?_setIfInBounds]
theorem putAll_defers (a0 : Act) (d : Nat → Tmp) (vs : Nat → Value) (phase : List Nat) : (putAll a0 d vs phase).defers = a0.defers := by
  unfold putAll
  induction phase generalizing a0 with
  | nil => rfl
  | cons k l ih => rw [List.foldl_cons, ih]; rfl
theorem putAll_size (a0 : Act) (d : Nat → Tmp) (vs : Nat → Value) (phase : List Nat) : (putAll a0 d vs phase).tmps.size = a0.tmps.size := by
  unfold putAll
  induction phase generalizing a0 with
  | nil => rfl
  | cons k l ih => rw [List.foldl_cons, ih]; simp [Act.put]
theorem putAll_get (d : Nat → Tmp) (vs : Nat → Value) : ∀ (phase : List Nat) (a0 : Act) (s : Nat), phase.Pairwise (fun i j => d i ≠ d j) →
    (putAll a0 d vs phase).tmps[s]? = match phase.find? (fun k => d k == s) with | some k => (if s < a0.tmps.size then some (vs k) else none) | none => a0.tmps[s]?
  | [], a0, s, _ => rfl
  | k :: l, a0, s, hn => by
    rw [List.pairwise_cons] at hn
    show (putAll (a0.put (some (d k)) (vs k)) d vs l).tmps[s]? = _
    rw [putAll_get d vs l _ s hn.2, List.find?_cons]
    have hsz : (a0.put (some (d k)) (vs k)).tmps.size = a0.tmps.size := by simp [Act.put]
    by_cases e : d k = s
    · have e1 : (d k == s) = true := by simpa using e
      have e2 : l.find? (fun k => d k == s) = none := by
        rw [List.find?_eq_none]
        intro j hj
        have := hn.1 j hj
        rw [e] at this
        simpa using fun h : d j = s => this h.symm
      rw [e1, e2]
      show (a0.put (some (d k)) (vs k)).tmps[s]? = _
      rw [getD_put, if_pos e, e]
    · have e1 : (d k == s) = false := by simpa using e
      rw [e1]
      cases hf : l.find? (fun k => d k == s) with
      | some j => simp only [hsz]
      | none =>
        show (a0.put (some (d k)) (vs k)).tmps[s]? = _
        rw [getD_put, if_neg e]
theorem act_ext {a b : Act} (h1 : a.defers = b.defers) (h2 : a.tmps = b.tmps) : a = b := by
  cases a; cases b; simp_all
theorem FlI.frame {a0 a : Act} {w0 w : World} {sb n : Nat} {M : Int} {phase : List Nat} {d : Nat → Tmp} {R : Nat → Value → World → Prop} {listed : Array Bool} (h : FlI a0 w0 sb M phase d R n listed a w)
    (hn : phase.Pairwise (fun i j => d i ≠ d j)) (hs : ∀ k ∈ phase, d k < a0.tmps.size) : a = putAll a0 d (fun k => a.tmps.getD (d k) undef) phase := by
  refine act_ext (by rw [putAll_defers]; exact h.defers) (Array.ext_getElem? fun s => ?_)
  rw [putAll_get d _ phase a0 s hn]
  cases hf : phase.find? (fun k => d k == s) with
  | none =>
    refine h.same s fun k hk e => ?_
    have := List.find?_eq_none.1 hf k hk
    simp [e] at this
  | some k =>
    have hk := List.mem_of_find?_eq_some hf
    have he : d k = s := by have := List.find?_some hf; simpa using this
    have hlt := hs k hk
    subst he
    show a.tmps[d k]? = if d k < a0.tmps.size then some (a.tmps.getD (d k) undef) else none
    rw [if_pos hlt, Array.getElem?_eq_getElem (by rw [h.size]; exact hlt)]
    simp [h.size, hlt]

theorem wpAnyE_calls {listed0 : Array Bool} {phase : List Nat} {T fuel n0 : Nat} (d : Nat → Tmp) (R : Nat → Value → World → Prop) {a0 : Act} {w0 : World} {sb : Nat} {m : Int}
    (hB : floatB md ls.toArray listed0 phase T = true) (hd : phase.Pairwise (fun i j => d i ≠ d j)) (hsz : ∀ k ∈ phase, d k < a0.tmps.size) (hn0 : phase.length = n0) (hstr : Str w0 sb m)
    (hdst : ∀ k ∈ phase, ∃ o, opAt ls k = some o ∧ o.dst = some (d k) ∧ o.guard = none)
    (hstab : ∀ k v w w', R k v w → w.grownBy w' (some sb) → R k v w')
    (hS : ∀ w, w0.grownBy w (some sb) → S w)
    (hlaw : ∀ k o a w m' K, k ∈ phase → opAt ls k = some o → (∀ s, (∀ j ∈ phase, d j ≠ s) → a.tmps[s]? = a0.tmps[s]?) → (∀ e ∈ o.after, Region.binds md e = true → e.on ∈ phase → R e.on (a.tmps.getD (d e.on) undef) w) →
      Str w sb m' → m' ≤ m + 2 * n0 → w0.grownBy w (some sb) → (∀ v w', R k v w' → Str w' sb (m' + 2) → w.grownBy w' (some sb) → K (a.put (some (d k)) v) w') → o.wp P a w K Q)
    (hend : ∀ vs w', (∀ k ∈ phase, R k (vs k) w') → Str w' sb (m + 2 * n0) → w0.grownBy w' (some sb) →
      wpAnyE P md ls.toArray Q S last fuel (phase.foldl (fun l k => l.setIfInBounds k true) listed0) (putAll a0 d vs phase) w') :
    wpAnyE P md ls.toArray Q S last (n0 + fuel) listed0 a0 w0 := by
  have hB0 := hB
  unfold floatB at hB
  simp only [Bool.and_eq_true, decide_eq_true_eq, Bool.not_eq_true'] at hB
  obtain ⟨⟨⟨⟨⟨⟨⟨h0, hnd⟩, hph⟩, hT⟩, hTp⟩, hT0⟩, htopo⟩, htail⟩ := hB
  have hp1 : ∀ k ∈ phase, k < ls.toArray.size ∧ listed0.getD k false = false := fun k hk => by
    have := List.all_eq_true.1 hph k hk
    simpa using this
  have hun : undone listed0 phase = n0 := by
    unfold undone
    rw [List.filter_eq_self.2 (fun k hk => by rw [(hp1 k hk).2]; rfl), hn0]
  refine float_main (Inv := FlI a0 w0 sb (m + 2 * n0) phase d R) hB0 ?_ ?_ n0 listed0 a0 w0 ⟨h0, fun k h => h, fun k h => .inl h⟩ (fun j oj _ hj hl => by rw [(hp1 j hj).2] at hl; cases hl) hun
    ⟨rfl, rfl, fun s _ => rfl, fun k hk hl => (by rw [(hp1 k hk).2] at hl; cases hl), (by rw [show m + 2 * (n0 : Int) - 2 * (n0 : Int) = m by omega]; exact hstr), gr_refl _ _⟩
  · intro n listed a w k o hk ho hku hdeps hi
    obtain ⟨o', ho', hdk, hg⟩ := hdst k hk
    have ho2 := ho'
    rw [opAt_eq, ho] at ho2
    injection ho2 with ho2
    subst ho2
    unfold wpOp
    have hw : Region.wanted o (yielded ls.toArray a.tmps) = true := by simp [Region.wanted, hg]
    simp only [ho, hw, if_true]
    refine .inl (hlaw k o a w _ _ hk ho' hi.same (fun e he hb hm => hi.done _ hm (hdeps e he hb)) hi.str (by omega) hi.grown fun v w' hv hs' hgr => ?_)
    have hg2 := gr_same hi.grown hgr
    refine ⟨hS w' hg2, ⟨hi.defers, by simp [Act.put, hi.size], fun s hs => ?_, fun j hj hl => ?_, hs'.mono (by omega), hg2⟩⟩
    · rw [getD_put, if_neg (hs k hk)]; exact hi.same s hs
    · by_cases e : k = j
      · subst e
        have : (a.put (some (d k)) v).tmps.getD (d k) undef = v := by
          rw [Array.getD_eq_getD_getElem?, getD_put, if_pos rfl, if_pos (by rw [hi.size]; exact hsz k hk)]; rfl
        rw [this]; exact hv
      · have hne : d k ≠ d j := by
          obtain ⟨x, hx⟩ := List.mem_iff_getElem?.1 hk
          obtain ⟨y, hy⟩ := List.mem_iff_getElem?.1 hj
          obtain ⟨hx1, hx2⟩ := List.getElem?_eq_some_iff.1 hx
          obtain ⟨hy1, hy2⟩ := List.getElem?_eq_some_iff.1 hy
          have hpw := List.pairwise_iff_getElem.1 hd
          rcases Nat.lt_trichotomy x y with h | h | h
          · have := hpw x y hx1 hy1 h; rwa [hx2, hy2] at this
          · subst h; rw [hx2] at hy2; exact absurd hy2 e
          · have := hpw y x hy1 hx1 h; rw [hx2, hy2] at this; exact fun h2 => this h2.symm
        have h1 : (a.put (some (d k)) v).tmps.getD (d j) undef = a.tmps.getD (d j) undef := by
          rw [Array.getD_eq_getD_getElem?, Array.getD_eq_getD_getElem?, getD_put, if_neg hne]
        rw [h1]
        rw [getD_set_ne false e] at hl
        exact hstab j _ w w' (hi.done j hj hl) hgr
  · intro listed a w hall hsz2 hi
    have hl : listed = phase.foldl (fun l k => l.setIfInBounds k true) listed0 := by
      have aux : ∀ (ph : List Nat) (l0 : Array Bool), (∀ k ∈ ph, k < l0.size) → (ph.foldl (fun l k => l.setIfInBounds k true) l0).size = l0.size ∧ ∀ j, (ph.foldl (fun l k => l.setIfInBounds k true) l0).getD j false = (l0.getD j false || ph.contains j) := by
        intro ph
        induction ph with
        | nil => intro l0 _; exact ⟨rfl, fun j => by simp⟩
        | cons k ph ih =>
          intro l0 hlt
          obtain ⟨e1, e2⟩ := ih (l0.setIfInBounds k true) (fun j hj => by simpa using hlt j (List.mem_cons_of_mem _ hj))
          rw [List.foldl_cons]
          refine ⟨by rw [e1]; simp, fun j => ?_⟩
          rw [e2 j]
          by_cases e : k = j
          · subst e
            have : (l0.setIfInBounds k true).getD k false = true := by simp [hlt k (List.mem_cons_self ..)]
            rw [this]; simp
          · rw [getD_set_ne false e, List.contains_cons]
            have : (j == k) = false := by simpa using fun h : j = k => e h.symm
            rw [this, Bool.false_or]
      obtain ⟨e1, e2⟩ := aux phase listed0 (fun k hk => by rw [h0]; exact (hp1 k hk).1)
      apply Array.ext
      · rw [e1, hsz2, h0]
      · intro j hj1 hj2
        have h3 := hall j
        rw [← e2 j] at h3
        simpa [hj1, hj2] using h3
    have hfr := hi.frame hd hsz
    rw [hfr, hl]
    exact hend _ w (fun k hk => hi.done k hk (by rw [hall k]; simp [hk])) (hi.str.mono (by omega)) hi.grown
end
end
end Go.Proofs.YtelpakmiciilgaaGreatDoor

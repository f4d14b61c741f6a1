/- Records, charges, invoices: plain laws: right records have their own Ids; sums of charges. Conditions: none. -/
import Derived.Test.YtfakdalpaopjaaaGreatDoorBun5
import Derived.Test.YtfakdalpaopjaaaGreatDoorBun1
import Derived.WalkKit
import Derived.Deep.QuietTactic
import Derived.BigQuiet
import Derived.Laws.Cover1
namespace Go.Proofs.YtfakdalpaopjaaaGreatDoor
section

/-- What a right record is. -/
def RcRight (z : RcV) : Prop := keyOk (nb z.id) = true ∧ (phOk (nb z.frm) && phOk (nb z.too)) = true ∧ rcNum z = true ∧ inB z.how 1 4 = true ∧ ((z.how == 1) == decide (0 < z.talk)) = true
theorem rcAt_right {l : List RcV} {i : Nat} {z : RcV} (h : l[i]? = some z) (h0 : rcAt l i = 0) : RcRight z := by
  cases h1 : keyOk (nb z.id)
  · rw [rcAt_5 h h1] at h0; exact absurd h0 (by decide)
  · cases h2 : (phOk (nb z.frm) && phOk (nb z.too))
    · rw [rcAt_3 h h1 h2] at h0; exact absurd h0 (by decide)
    · cases h3 : rcNum z
      · rw [rcAt_1 h h1 h2 h3] at h0; exact absurd h0 (by decide)
      · cases h4 : inB z.how 1 4
        · rw [rcAt_4 h h1 h2 h3 h4] at h0; exact absurd h0 (by decide)
        · cases h5 : ((z.how == 1) == decide (0 < z.talk))
          · rw [rcAt_3b h h1 h2 h3 h4 h5] at h0; exact absurd h0 (by decide)
          · exact ⟨h1, h2, h3, h4, h5⟩
theorem RcRight.talk {z : RcV} (h : RcRight z) : 0 ≤ z.talk ∧ z.talk ≤ 86400000 ∧ (z.how = 1 ↔ 0 < z.talk) ∧ 0 ≤ z.at_ ∧ z.at_ ≤ 345686399999 ∧ 0 ≤ z.ring ∧ z.ring ≤ 86400000 := by
  obtain ⟨_, _, h3, _, h5⟩ := h
  unfold rcNum momB inB at h3
  simp only [Bool.and_eq_true, decide_eq_true_eq] at h3
  obtain ⟨⟨⟨a1, a2⟩, r1, r2⟩, t1, t2⟩ := h3
  refine ⟨t1, t2, ?_, a1, a2, r1, r2⟩
  rw [beq_iff_eq] at h5
  constructor
  · intro e
    rw [show (z.how == 1) = true from by rw [e]; rfl] at h5
    exact of_decide_eq_true h5.symm
  · intro e
    rw [decide_eq_true e, beq_iff_eq] at h5
    exact h5
theorem dup_dist {l : List RcV} : ∀ (k : Nat), k ≤ l.length → dupB l k = false → Dist ((l.take k).map (·.id))
  | 0, _, _ => by rw [List.take_zero]; exact List.Pairwise.nil
  | k + 1, hk, h => by
    have hs : l[k]? = some l[k] := List.getElem?_eq_getElem (by omega)
    unfold dupB at h
    rw [hs, Bool.or_eq_false_iff] at h
    obtain ⟨h1, h2⟩ := h
    rw [take_snoc' hs, List.map_append]
    unfold Dist
    rw [List.pairwise_append]
    refine ⟨dup_dist k (by omega) h1, List.pairwise_singleton _ _, fun a ha b hb => ?_⟩
    rw [List.mem_singleton.1 hb]
    exact memS_false h2 a ha
theorem rcs_right {l : List RcV} (h : rcsE l = 0) : l.length ≤ 3000 ∧ (∀ r ∈ l, RcRight r) ∧ Dist (l.map (·.id)) := by
  unfold rcsE at h
  by_cases h1 : 3000 < l.length
  · rw [if_pos h1] at h; exact absurd h (by decide)
  · rw [if_neg h1] at h
    by_cases h2 : fstE (rcAt l) l.length = 0
    · rw [if_pos h2] at h
      refine ⟨by omega, fun r hr => ?_, ?_⟩
      · obtain ⟨i, hi⟩ := List.mem_iff_getElem?.1 hr
        have hl := (List.getElem?_eq_some_iff.1 hi).1
        exact rcAt_right hi (fstE_all h2 i hl)
      · cases h3 : dupB l l.length
        · have := dup_dist l.length (Nat.le_refl _) h3
          rwa [List.take_of_length_le (Nat.le_refl _)] at this
        · rw [h3, if_pos rfl] at h; exact absurd h (by decide)
    · rw [if_neg h2] at h; exact absurd h h2
/-! Bounds of prices. -/
theorem priceOf_bd {c : ClV} (h : clNum c = true) {talk : Int} (h1 : 0 ≤ talk) (h2 : talk ≤ 86400000) : 0 ≤ priceOf c talk ∧ priceOf c talk ≤ 86400001000000 := by
  unfold priceOf
  obtain ⟨b1, _, b3, b4, b5⟩ := clNum_bd h
  have := price_bd h h1 h2
  rw [steps_eq b4] at this
  split
  · omega
  · omega
section
variable {t : TfV} {p : List PyV} {month : Int} {l : List RcV}
end
/-! Invoices. -/
structure InV where
  pay : ByteArray
  month : Int
  calls : Int
  talk : Int
  cents : Int
def InV.row (v : InV) : List Value := [.string v.pay, .int .i64 v.month, .int .i64 v.calls, .int .i64 v.talk, .int .i64 v.cents]
theorem InV.row_len (v : InV) : v.row.length = 5 := rfl
section
variable {ch : List (ChV × RcV)} {who : ByteArray} {k : Nat} {x : ChV × RcV}
end
section
variable {month : Int} {ch : List (ChV × RcV)} {p : List PyV} {k : Nat} {y : PyV}
end
/-! Records of which nobody pays. -/
section
variable {t : TfV} {p : List PyV} {l : List RcV} {k : Nat} {r : RcV}
end
end
end Go.Proofs.YtfakdalpaopjaaaGreatDoor
/- Watches, blocks and what is counted, as they lie in memory, and what they say, in plain Lean. Conditions: none. -/
namespace Go.Proofs.YtfakdalpaopjaaaGreatDoor
section
open Go.RowKit

/-- A watch. -/
structure WaV where
  cls : ByteArray
  win : Int
  calls : Int
  cents : Int
  block : Int
def WaV.row (z : WaV) : List Value := [.string z.cls, .int .i64 z.win, .int .i64 z.calls, .int .i64 z.cents, .int .i64 z.block]
theorem WaV.row_len (z : WaV) : z.row.length = 5 := rfl
def Was (w : World) (lo : Nat) (A : Option Addr) (n c : Nat) (l : List WaV) : Prop := Recs WaV.row 5 w lo A n c l ∧ ∀ z ∈ l, z.cls.size ≤ 1000
theorem Was.grown {w w' : World} {lo : Nat} {A : Option Addr} {n c : Nat} {l : List WaV} (h : Was w lo A n c l) {r : Option Nat} (hg : w.grownBy w' r) (hr : ∀ g, r = some g → g < lo) : Was w' lo A n c l := ⟨h.1.grown hg hr, h.2⟩
/-- Go's < on strings. -/
def ltS (a b : ByteArray) : Bool := Op.bytesLess a.toList b.toList
def waNum (z : WaV) : Bool := inB z.win 1 2592000000 && inB z.block 1 2592000000 && inB z.calls 0 3000 && inB z.cents 0 1000000000000
def waCls (z : WaV) : Bool := decide (nb z.cls = []) || keyOk (nb z.cls)
def waAt (l : List WaV) (i : Nat) : Int := (l[i]?).elim 0 fun z => if waCls z then (if waNum z then (if decide (0 < i) && (l[i - 1]?).elim false (fun b => ltS z.cls b.cls) then 7 else 0) else 1) else 5
def wasE (l : List WaV) : Int := if 50 < l.length then 2 else fstE (waAt l) l.length
section
variable {l : List WaV} {i : Nat} {z b : WaV}
theorem waAt_5 (h : l[i]? = some z) (h1 : waCls z = false) : waAt l i = 5 := by simp only [waAt, h, Option.elim, h1]; rfl
theorem waAt_1 (h : l[i]? = some z) (h1 : waCls z = true) (h2 : waNum z = false) : waAt l i = 1 := by simp only [waAt, h, Option.elim, h1, h2]; rfl
theorem waAt_7 (h : l[i]? = some z) (h1 : waCls z = true) (h2 : waNum z = true) (hi : 0 < i) (hb : l[i - 1]? = some b) (h3 : ltS z.cls b.cls = true) : waAt l i = 7 := by
  simp only [waAt, h, Option.elim, h1, h2, hb, decide_eq_true hi, h3]; rfl
theorem waAt_e (h : l[i]? = some z) (h1 : waCls z = true) (h2 : waNum z = true) (hb : l[i - 1]? = some b) (h3 : ltS z.cls b.cls = false) : waAt l i = 0 := by
  simp only [waAt, h, Option.elim, h1, h2, hb, h3, Bool.and_false]; rfl
theorem waAt_z (h : l[i]? = some z) (h1 : waCls z = true) (h2 : waNum z = true) (hi : ¬ 0 < i) : waAt l i = 0 := by
  simp only [waAt, h, Option.elim, h1, h2, decide_eq_false hi, Bool.false_and]; rfl
theorem waAt_num (h : l[i]? = some z) (h0 : waAt l i = 0) : waNum z = true := by
  cases h1 : waCls z
  · rw [waAt_5 h h1] at h0; exact absurd h0 (by decide)
  · cases h2 : waNum z
    · rw [waAt_1 h h1 h2] at h0; exact absurd h0 (by decide)
    · rfl
end
theorem waNum_bd {z : WaV} (h : waNum z = true) : (1 ≤ z.win ∧ z.win ≤ 2592000000) ∧ (1 ≤ z.block ∧ z.block ≤ 2592000000) ∧ (0 ≤ z.calls ∧ z.calls ≤ 3000) ∧ 0 ≤ z.cents ∧ z.cents ≤ 1000000000000 := by
  unfold waNum inB at h
  simp only [Bool.and_eq_true, decide_eq_true_eq] at h
  omega
theorem was_right {l : List WaV} (h : wasE l = 0) : l.length ≤ 50 ∧ ∀ z ∈ l, waNum z = true := by
  unfold wasE at h
  by_cases h1 : 50 < l.length
  · rw [if_pos h1] at h; exact absurd h (by decide)
  · rw [if_neg h1] at h
    refine ⟨by omega, fun z hz => ?_⟩
    obtain ⟨i, hi⟩ := List.mem_iff_getElem?.1 hz
    exact waAt_num hi (fstE_all h i (List.getElem?_eq_some_iff.1 hi).1)

/-! What is counted, and blocks. -/
/-- A record that counts. -/
structure CnV where
  pay : ByteArray
  cls : ByteArray
  at_ : Int
  cost : Int
def CnV.row (d : CnV) : List Value := [.string d.pay, .string d.cls, .int .i64 d.at_, .int .i64 d.cost]
theorem CnV.row_len (d : CnV) : d.row.length = 4 := rfl
/-- A block. -/
structure BlV where
  pay : ByteArray
  wch : Int
  frm : Int
  to_ : Int
def BlV.row (b : BlV) : List Value := [.string b.pay, .int .i64 b.wch, .int .i64 b.frm, .int .i64 b.to_]
theorem BlV.row_len (b : BlV) : b.row.length = 4 := rfl
def blHit (b : BlV) (who : ByteArray) (t : Int) : Bool := nb b.pay == nb who && decide (b.frm ≤ t) && decide (t < b.to_)
def blkB (l : List BlV) (who : ByteArray) (t : Int) : Bool := l.any fun b => blHit b who t
/-- Does a watch count a record for a payer at a moment? -/
def cnHit (z : WaV) (who : ByteArray) (t : Int) (d : CnV) : Bool := (nb d.pay == nb who && (decide (nb z.cls = []) || nb d.cls == nb z.cls)) && decide (t - z.win < d.at_)
/-- Calls and cost of the first k that are counted. -/
def wCnt (cs : List CnV) (z : WaV) (who : ByteArray) (t : Int) : Nat → Int × Int
  | 0 => (0, 0)
  | k + 1 => (cs[k]?).elim (wCnt cs z who t k) fun d => if cnHit z who t d then ((wCnt cs z who t k).1 + 1, (wCnt cs z who t k).2 + d.cost) else wCnt cs z who t k
section
variable {cs : List CnV} {z : WaV} {who : ByteArray} {t : Int} {k : Nat} {d : CnV}
theorem wCnt_hit (h : cs[k]? = some d) (e : cnHit z who t d = true) : wCnt cs z who t (k + 1) = ((wCnt cs z who t k).1 + 1, (wCnt cs z who t k).2 + d.cost) := by
  rw [wCnt, h]; simp only [Option.elim, e, if_true]
theorem wCnt_miss (h : cs[k]? = some d) (e : cnHit z who t d = false) : wCnt cs z who t (k + 1) = wCnt cs z who t k := by
  rw [wCnt, h]; simp only [Option.elim, e, Bool.false_eq_true, if_false]
theorem wCnt_bd (h : ∀ d ∈ cs, 0 ≤ d.cost ∧ d.cost ≤ 86400001000000) (z : WaV) (who : ByteArray) (t : Int) : ∀ k : Nat, 0 ≤ (wCnt cs z who t k).1 ∧ (wCnt cs z who t k).1 ≤ k ∧ 0 ≤ (wCnt cs z who t k).2 ∧ (wCnt cs z who t k).2 ≤ 86400001000000 * k
  | 0 => by simp [wCnt]
  | k + 1 => by
    have ih := wCnt_bd h z who t k
    cases hc : cs[k]? with
    | none => rw [wCnt, hc]; simp only [Option.elim]; omega
    | some d =>
      have hd := h d (mem_of_get hc)
      cases e : cnHit z who t d
      · rw [wCnt_miss hc e]; omega
      · rw [wCnt_hit hc e]; dsimp only; omega
end
/-- Does a watch look at a class? -/
def wSees (z : WaV) (c : ByteArray) : Bool := decide (nb z.cls = []) || nb z.cls == nb c
/-- Does a watch block behind a record? -/
def wTrip (cs : List CnV) (d : CnV) (z : WaV) : Bool := wSees z d.cls && (decide (z.calls < (wCnt cs z d.pay d.at_ cs.length).1) || decide (1000 * z.cents < (wCnt cs z d.pay d.at_ cs.length).2))
/-- The block of the first watch that blocks. -/
def wBlk (ws : List WaV) (cs : List CnV) (d : CnV) : List BlV := if ws.any (wTrip cs d) then (ws[ws.findIdx (wTrip cs d)]?).elim [] fun z => [⟨d.pay, (ws.findIdx (wTrip cs d) : Int), d.at_ + 1, d.at_ + 1 + z.block⟩] else []
theorem wBlk_none {ws : List WaV} {cs : List CnV} {d : CnV} (h : (ws.take ws.length).all (fun z => !wTrip cs d z) = true) : wBlk ws cs d = [] := by
  rw [List.take_length] at h
  unfold wBlk
  rw [if_neg]
  rw [List.any_eq_true]
  rintro ⟨z, hz, hp⟩
  have := List.all_eq_true.1 h z hz
  rw [hp] at this
  cases this
theorem wBlk_some {ws : List WaV} {cs : List CnV} {d : CnV} {i : Nat} {z : WaV} (h : (ws.take i).all (fun z => !wTrip cs d z) = true) (hz : ws[i]? = some z) (ht : wTrip cs d z = true) : wBlk ws cs d = [⟨d.pay, (i : Int), d.at_ + 1, d.at_ + 1 + z.block⟩] := by
  have hi := idxP_some (p := wTrip cs d) h hz ht
  have ha : ws.any (wTrip cs d) = true := List.any_eq_true.2 ⟨z, mem_of_get hz, ht⟩
  unfold idxP at hi
  rw [if_pos ha] at hi
  have hi2 : ws.findIdx (wTrip cs d) = i := by omega
  unfold wBlk
  rw [if_pos ha, hi2, hz]
  rfl

/-! The walk over the records. -/
structure WSt where
  cs : List CnV
  ix : List Nat
  bl : List BlV
  st : List Nat
def cnOf (y : PyV) (c : ClV) (r : RcV) : CnV := ⟨y.key, c.name, r.at_, priceOf c r.talk⟩
def wStep (t : TfV) (p : List PyV) (ws : List WaV) (s : WSt) (k : Nat) (r : RcV) : WSt :=
  match payerOf p (nb r.frm) with
  | none => s
  | some y => if blkB s.bl y.key r.at_ then { s with st := s.st ++ [k] } else
    match clsOf t.cl (nb r.too) with
    | none => s
    | some c => ⟨s.cs ++ [cnOf y c r], s.ix ++ [k], s.bl ++ wBlk ws (s.cs ++ [cnOf y c r]) (cnOf y c r), s.st⟩
def wRun (t : TfV) (p : List PyV) (ws : List WaV) (l : List RcV) : Nat → WSt
  | 0 => ⟨[], [], [], []⟩
  | k + 1 => (l[k]?).elim (wRun t p ws l k) (wStep t p ws (wRun t p ws l k) k)
section
variable {t : TfV} {p : List PyV} {ws : List WaV} {l : List RcV} {k : Nat} {r : RcV}
theorem wRun_one (h : l[k]? = some r) : wRun t p ws l (k + 1) = wStep t p ws (wRun t p ws l k) k r := by rw [wRun, h]; rfl
theorem wStep_none {s : WSt} (h : payerOf p (nb r.frm) = none) : wStep t p ws s k r = s := by unfold wStep; rw [h]
theorem wStep_stop {s : WSt} {y : PyV} (h : payerOf p (nb r.frm) = some y) (hb : blkB s.bl y.key r.at_ = true) : wStep t p ws s k r = { s with st := s.st ++ [k] } := by unfold wStep; rw [h]; simp only [hb, if_true]
theorem wStep_nocls {s : WSt} {y : PyV} (h : payerOf p (nb r.frm) = some y) (hb : blkB s.bl y.key r.at_ = false) (hc : clsOf t.cl (nb r.too) = none) : wStep t p ws s k r = s := by
  unfold wStep; rw [h]; simp only [hb, Bool.false_eq_true, if_false, hc]
theorem wStep_add {s : WSt} {y : PyV} {c : ClV} (h : payerOf p (nb r.frm) = some y) (hb : blkB s.bl y.key r.at_ = false) (hc : clsOf t.cl (nb r.too) = some c) :
    wStep t p ws s k r = ⟨s.cs ++ [cnOf y c r], s.ix ++ [k], s.bl ++ wBlk ws (s.cs ++ [cnOf y c r]) (cnOf y c r), s.st⟩ := by
  unfold wStep; rw [h]; simp only [hb, Bool.false_eq_true, if_false, hc]
/-- What a step may make of a state. -/
theorem wStep_cases (s : WSt) (k : Nat) (r : RcV) : wStep t p ws s k r = s ∨ (∃ y, wStep t p ws s k r = { s with st := s.st ++ [k] } ∧ payerOf p (nb r.frm) = some y) ∨
    ∃ y c, payerOf p (nb r.frm) = some y ∧ clsOf t.cl (nb r.too) = some c ∧ wStep t p ws s k r = ⟨s.cs ++ [cnOf y c r], s.ix ++ [k], s.bl ++ wBlk ws (s.cs ++ [cnOf y c r]) (cnOf y c r), s.st⟩ := by
  cases h : payerOf p (nb r.frm) with
  | none => exact .inl (wStep_none h)
  | some y =>
    cases hb : blkB s.bl y.key r.at_
    · cases hc : clsOf t.cl (nb r.too) with
      | none => exact .inl (wStep_nocls h hb hc)
      | some c => exact .inr (.inr ⟨y, c, rfl, rfl, wStep_add h hb hc⟩)
    · exact .inr (.inl ⟨y, wStep_stop h hb, rfl⟩)
end
theorem wBlk_len (ws : List WaV) (cs : List CnV) (d : CnV) : (wBlk ws cs d).length ≤ 1 := by
  unfold wBlk
  split
  · cases ws[ws.findIdx (wTrip cs d)]? <;> simp
  · simp
/-- What is known of a state after k records. -/
structure WOk (p : List PyV) (t : TfV) (l : List RcV) (k : Nat) (s : WSt) : Prop where
  len : s.ix.length = s.cs.length
  cn : s.cs.length ≤ k
  bn : s.bl.length ≤ k
  sn : s.st.length ≤ k
  at_ : ∀ (j i : Nat), s.ix[j]? = some i → i < k ∧ ∃ r y c, l[i]? = some r ∧ payerOf p (nb r.frm) = some y ∧ clsOf t.cl (nb r.too) = some c ∧ s.cs[j]? = some (cnOf y c r)
theorem wRun_ok (t : TfV) (p : List PyV) (ws : List WaV) (l : List RcV) : ∀ k, WOk p t l k (wRun t p ws l k)
  | 0 => ⟨rfl, Nat.le_refl _, Nat.le_refl _, Nat.le_refl _, fun j i h => by cases h⟩
  | k + 1 => by
    have ih := wRun_ok t p ws l k
    have up : WOk p t l (k + 1) (wRun t p ws l k) := ⟨ih.len, by have := ih.cn; omega, by have := ih.bn; omega, by have := ih.sn; omega, fun j i h => by obtain ⟨h1, h2⟩ := ih.at_ j i h; exact ⟨by omega, h2⟩⟩
    cases hl : l[k]? with
    | none => rw [wRun, hl]; exact up
    | some r =>
      rw [wRun_one hl]
      rcases wStep_cases (t := t) (p := p) (ws := ws) (wRun t p ws l k) k r with h | ⟨y, h, _⟩ | ⟨y, c, hy, hc, h⟩
      · rw [h]; exact up
      · rw [h]; exact ⟨up.len, up.cn, up.bn, by have := ih.sn; simp; omega, up.at_⟩
      · rw [h]
        have b1 := wBlk_len ws ((wRun t p ws l k).cs ++ [cnOf y c r]) (cnOf y c r)
        refine ⟨by simp [ih.len], by have := ih.cn; simp; omega, by have := ih.bn; simp; omega, by have := ih.sn; simp; omega, fun j i hj => ?_⟩
        dsimp only at hj ⊢
        rw [List.getElem?_append] at hj
        by_cases hlt : j < (wRun t p ws l k).ix.length
        · rw [if_pos hlt] at hj
          obtain ⟨h1, r', y', c', h2, h3, h4, h5⟩ := ih.at_ j i hj
          exact ⟨by omega, r', y', c', h2, h3, h4, by rw [List.getElem?_append_left (by rw [← ih.len]; exact hlt)]; exact h5⟩
        · rw [if_neg hlt] at hj
          have hj0 : j = (wRun t p ws l k).ix.length := by
            have := (List.getElem?_eq_some_iff.1 hj).1
            simp at this; omega
          subst hj0
          simp at hj
          subst hj
          exact ⟨by omega, r, y, c, hl, hy, hc, by rw [List.getElem?_append_right (by rw [ih.len]; exact Nat.le_refl _), ih.len]; simp⟩
theorem wRun_mem {t : TfV} {p : List PyV} {ws : List WaV} {l : List RcV} (k : Nat) : ∀ d ∈ (wRun t p ws l k).cs, ∃ r y c, r ∈ l ∧ payerOf p (nb r.frm) = some y ∧ clsOf t.cl (nb r.too) = some c ∧ d = cnOf y c r := by
  intro d hd
  have ok := wRun_ok t p ws l k
  obtain ⟨j, hj⟩ := List.mem_iff_getElem?.1 hd
  have hl := (List.getElem?_eq_some_iff.1 hj).1
  have hi : (wRun t p ws l k).ix[j]? = some ((wRun t p ws l k).ix[j]'(by rw [ok.len]; exact hl)) := List.getElem?_eq_getElem _
  obtain ⟨_, r, y, c, h2, h3, h4, h5⟩ := ok.at_ j _ hi
  rw [hj] at h5
  injection h5 with h5
  exact ⟨r, y, c, mem_of_get h2, h3, h4, h5⟩
/-- Costs and moments of what is counted lie within bounds. -/
theorem wRun_bd {t : TfV} {p : List PyV} {ws : List WaV} {l : List RcV} (hc : ∀ c ∈ t.cl, clNum c = true) (hr : ∀ r ∈ l, RcRight r) (hcls : ∀ s c, clsOf t.cl s = some c → c ∈ t.cl) (k : Nat) : ∀ d ∈ (wRun t p ws l k).cs, (0 ≤ d.cost ∧ d.cost ≤ 86400001000000) ∧ 0 ≤ d.at_ ∧ d.at_ ≤ 345686399999 := by
  intro d hd
  obtain ⟨r, y, c, h1, h2, h3, rfl⟩ := wRun_mem k d hd
  have hrr := (hr r h1).talk
  exact ⟨priceOf_bd (hc c (hcls _ _ h3)) hrr.1 hrr.2.1, hrr.2.2.2.1, hrr.2.2.2.2.1⟩
end
end Go.Proofs.YtfakdalpaopjaaaGreatDoor
/- A record that is stopped has a payer, and the payer has a block; the payers of the generator are right; in plain Lean. Conditions: none. -/
namespace Go.Proofs.YtfakdalpaopjaaaGreatDoor
section
open Go.RowKit

section
variable {t : TfV} {p : List PyV} {ws : List WaV} {l : List RcV}
theorem stop_has : ∀ k, ∀ i ∈ (wRun t p ws l k).st, ∃ r y, l[i]? = some r ∧ payerOf p (nb r.frm) = some y ∧ ∃ b ∈ (wRun t p ws l k).bl, nb b.pay = nb y.key
  | 0, i, h => by simp [wRun] at h
  | k + 1, i, h => by
    cases hr : l[k]? with
    | none =>
      have e : wRun t p ws l (k + 1) = wRun t p ws l k := by rw [wRun, hr]; rfl
      rw [e] at h ⊢
      exact stop_has k i h
    | some r =>
      rw [wRun_one hr] at h ⊢
      cases hy : payerOf p (nb r.frm) with
      | none => rw [wStep_none hy] at h ⊢; exact stop_has k i h
      | some y =>
        cases hb : blkB (wRun t p ws l k).bl y.key r.at_ with
        | true =>
          rw [wStep_stop hy hb] at h ⊢
          rcases List.mem_append.1 h with h | h
          · exact stop_has k i h
          · obtain rfl := List.mem_singleton.1 h
            obtain ⟨b, h1, h2⟩ := List.any_eq_true.1 hb
            refine ⟨r, y, hr, hy, b, h1, ?_⟩
            unfold blHit at h2
            simp only [Bool.and_eq_true, beq_iff_eq] at h2
            exact h2.1.1
        | false =>
          cases hc : clsOf t.cl (nb r.too) with
          | none => rw [wStep_nocls hy hb hc] at h ⊢; exact stop_has k i h
          | some c =>
            rw [wStep_add hy hb hc] at h ⊢
            obtain ⟨r', y', h1, h2, b, h3, h4⟩ := stop_has k i h
            exact ⟨r', y', h1, h2, b, List.mem_append_left _ h3, h4⟩
end
end
end Go.Proofs.YtfakdalpaopjaaaGreatDoor
/- Contracts of the orders of records: account.compare and the document's RecordOrder. Conditions: none. -/
namespace Go.Proofs.YtfakdalpaopjaaaGreatDoor
section
open Go.RowKit

theorem Tryz.rcT : StructT Tryz.prog 55 8 := ⟨_, Tryz.underlying55, rfl, by kernel_rfl⟩
/-- A record's cells. -/
theorem rcCmp_or (a b : RcV) : orZ (cmpZ a.at_ b.at_) (cmpS a.id b.id) = rcCmp a b := by
  unfold orZ cmpZ rcCmp
  by_cases h : a.at_ = b.at_
  · rw [if_pos h, if_neg (show ¬ a.at_ < b.at_ by omega), if_neg (show ¬ b.at_ < a.at_ by omega), if_pos rfl]
  · rw [if_neg h]
    by_cases h1 : a.at_ < b.at_
    · rw [if_pos h1, if_pos h1, if_neg (by decide)]
    · rw [if_neg h1, if_pos (show b.at_ < a.at_ by omega), if_neg h1, if_neg (by decide)]
set_option maxHeartbeats 2000000 in
set_option maxRecDepth 100000 in
theorem compareR_any (a b : RcV) (w : World) :
    Calls Tryz.prog 93 #[.agg #[.string a.id, .string a.frm, .string a.too, .int .i64 a.at_, .int .i64 a.ring, .int .i64 a.talk, .int .i64 a.how, .string a.car], .agg #[.string b.id, .string b.frm, .string b.too, .int .i64 b.at_, .int .i64 b.ring, .int .i64 b.talk, .int .i64 b.how, .string b.car]] w (RetV (.int .i64 (rcCmp a b)) w) := by
  have HV := Lib.hid (rcCmp_or a b)
  obtain ⟨W1, hW⟩ : ∃ W1, (w.alloc (.cells #[.string a.id, .string a.frm, .string a.too, .int .i64 a.at_, .int .i64 a.ring, .int .i64 a.talk, .int .i64 a.how, .string a.car] 55)).alloc (.cells #[.string b.id, .string b.frm, .string b.too, .int .i64 b.at_, .int .i64 b.ring, .int .i64 b.talk, .int .i64 b.how, .string b.car] 55) = W1 := ⟨_, rfl⟩
  have HA := Lib.hid (show Blk W1 w.heap.size 55 #[.string a.id, .string a.frm, .string a.too, .int .i64 a.at_, .int .i64 a.ring, .int .i64 a.talk, .int .i64 a.how, .string a.car] by rw [← hW]; exact (Blk.new _ _ _).alloc _)
  have HB := Lib.hid (show Blk W1 (w.heap.size + 1) 55 #[.string b.id, .string b.frm, .string b.too, .int .i64 b.at_, .int .i64 b.ring, .int .i64 b.talk, .int .i64 b.how, .string b.car] by
    rw [← hW]
    have h := Blk.new (w.alloc (.cells #[.string a.id, .string a.frm, .string a.too, .int .i64 a.at_, .int .i64 a.ring, .int .i64 a.talk, .int .i64 a.how, .string a.car] 55)) 55 #[.string b.id, .string b.frm, .string b.too, .int .i64 b.at_, .int .i64 b.ring, .int .i64 b.talk, .int .i64 b.how, .string b.car]
    simpa using h)
  have HG := Lib.hid (show w.grownBy W1 none by rw [← hW]; exact gr_alloc (gr_alloc (gr_refl _ _) _) _)
  have HW := Lib.hid hW; clear hW
  go_enter Tryz.func93, Tryz.ntmps93
  go_wp2_with fail
  rw [HW.out]
  refine H_begin (fun w' => W1.grownBy w' none) (by kernel_rfl) ?_
  have hHeld : W1.grownBy W1.drew none := gr_drew (gr_refl _ _)
  refine H_take (k := 0) (v := ?_) (by rfl) (by kernel_rfl) (by kernel_rfl) (by kernel_rfl) (by exact fun _ _ _ h => h) (by rfl) ?_ (by assumption) ?_
  rotate_left 1
  · intro w hSw
    (try dsimp only at hSw)
    go_simp
    (try with_reducible rfl)
  (try simp only [Act.put, List.setIfInBounds_toArray, List.set_cons_zero, List.set_cons_succ])
  refine H_take (k := 1) (v := ?_) (by rfl) (by kernel_rfl) (by kernel_rfl) (by kernel_rfl) (by exact fun _ _ _ h => h) (by rfl) ?_ (by assumption) ?_
  rotate_left 1
  · intro w' hSw
    have kc := (HA.out.grown hSw (by simp)).cell 3
    go_simp
    (try with_reducible rfl)
  (try simp only [Act.put, List.setIfInBounds_toArray, List.set_cons_zero, List.set_cons_succ])
  refine H_take (k := 2) (v := ?_) (by rfl) (by kernel_rfl) (by kernel_rfl) (by kernel_rfl) (by exact fun _ _ _ h => h) (by rfl) ?_ (by assumption) ?_
  rotate_left 1
  · intro w hSw
    (try dsimp only at hSw)
    go_simp
    (try with_reducible rfl)
  (try simp only [Act.put, List.setIfInBounds_toArray, List.set_cons_zero, List.set_cons_succ])
  refine H_take (k := 3) (v := ?_) (by rfl) (by kernel_rfl) (by kernel_rfl) (by kernel_rfl) (by exact fun _ _ _ h => h) (by rfl) ?_ (by assumption) ?_
  rotate_left 1
  · intro w' hSw
    have kc := (HB.out.grown hSw (by simp)).cell 3
    go_simp
    (try with_reducible rfl)
  (try simp only [Act.put, List.setIfInBounds_toArray, List.set_cons_zero, List.set_cons_succ])
  refine H_take (k := 5) (v := ?_) (by rfl) (by kernel_rfl) (by kernel_rfl) (by kernel_rfl) (by exact fun _ _ _ h => h) (by rfl) ?_ (by assumption) ?_
  rotate_left 1
  · intro w hSw
    (try dsimp only at hSw)
    go_simp
    (try with_reducible rfl)
  (try simp only [Act.put, List.setIfInBounds_toArray, List.set_cons_zero, List.set_cons_succ])
  refine H_take (k := 6) (v := ?_) (by rfl) (by kernel_rfl) (by kernel_rfl) (by kernel_rfl) (by exact fun _ _ _ h => h) (by rfl) ?_ (by assumption) ?_
  rotate_left 1
  · intro w' hSw
    have kc := (HA.out.grown hSw (by simp)).cell 0
    go_simp
    (try with_reducible rfl)
  (try simp only [Act.put, List.setIfInBounds_toArray, List.set_cons_zero, List.set_cons_succ])
  refine H_take (k := 7) (v := ?_) (by rfl) (by kernel_rfl) (by kernel_rfl) (by kernel_rfl) (by exact fun _ _ _ h => h) (by rfl) ?_ (by assumption) ?_
  rotate_left 1
  · intro w hSw
    (try dsimp only at hSw)
    go_simp
    (try with_reducible rfl)
  (try simp only [Act.put, List.setIfInBounds_toArray, List.set_cons_zero, List.set_cons_succ])
  refine H_take (k := 8) (v := ?_) (by rfl) (by kernel_rfl) (by kernel_rfl) (by kernel_rfl) (by exact fun _ _ _ h => h) (by rfl) ?_ (by assumption) ?_
  rotate_left 1
  · intro w' hSw
    have kc := (HB.out.grown hSw (by simp)).cell 0
    go_simp
    (try with_reducible rfl)
  (try simp only [Act.put, List.setIfInBounds_toArray, List.set_cons_zero, List.set_cons_succ])
  refine H_run (k := 4) (by rfl) (by kernel_rfl) (by rfl) (fun K hK => ?_)
  go_simp
  refine (cmpZ_any _ _ _).mono ?_
  rintro e w' ⟨rfl, rfl⟩
  go_simp
  refine hK _ _ (gr_drew (gr_refl W1 none)) ?_
  clear hK K hHeld
  have hHeld := gr_drew (gr_refl W1 none)
  refine H_run (k := 9) (by rfl) (by kernel_rfl) (by rfl) (fun K hK => ?_)
  go_simp
  refine (Tryz.strings_Compare _ _ _).mono ?_
  rintro e w' ⟨rfl, rfl⟩
  go_simp
  refine hK _ _ (gr_drew (gr_refl W1 none)) ?_
  clear hK K hHeld
  have hHeld := gr_drew (gr_refl W1 none)
  refine H_run (k := 10) (by rfl) (by kernel_rfl) (by rfl) (fun K hK => ?_)
  go_simp
  obtain ⟨W2, hW2⟩ : ∃ W2, W1.alloc (.cells #[.int .i64 (cmpZ a.at_ b.at_), .int .i64 (cmpS a.id b.id)] 3) = W2 := ⟨_, rfl⟩
  rw [show Lib.compareBytes a.id.data.toList b.id.data.toList = cmpS a.id b.id from rfl, hW2]
  have HC := Lib.hid (show Blk W2 W1.heap.size 3 #[.int .i64 (cmpZ a.at_ b.at_), .int .i64 (cmpS a.id b.id)] by rw [← hW2]; exact Blk.new _ _ _)
  have HG2 := Lib.hid (show W1.grownBy W2 none by rw [← hW2]; exact gr_alloc (gr_refl _ _) _)
  clear hW2
  refine hK _ _ (gr_drew HG2.out) ?_
  clear hK K hHeld
  have hHeld := gr_drew HG2.out
  refine H_run (k := 11) (by rfl) (by kernel_rfl) (by rfl) (fun K hK => ?_)
  go_simp
  refine (orZ_any _ _ _ _ (by first | exact HC.out | exact HC.out.drew)).mono ?_
  rintro e w' ⟨rfl, rfl⟩
  rw [HV.out]
  go_simp
  refine hK _ _ (gr_drew HG2.out) ?_
  clear hK K hHeld
  have hHeld := gr_drew HG2.out
  refine H_take (k := 12) (v := ?_) (by rfl) (by kernel_rfl) (by kernel_rfl) (by kernel_rfl) (by exact fun _ _ _ h => h) (by rfl) ?_ (by assumption) ?_
  rotate_left 1
  · intro w hSw
    (try dsimp only at hSw)
    go_simp
    (try with_reducible rfl)
  (try simp only [Act.put, List.setIfInBounds_toArray, List.set_cons_zero, List.set_cons_succ])
  refine H_done (by kernel_rfl) ?_
  go_wp2_with fail
  go_ret
  exact ⟨rfl, gr_drew (gr_same HG.out HG2.out)⟩
end
end Go.Proofs.YtfakdalpaopjaaaGreatDoor
/- Contract of the document's sign. Conditions: none. -/
namespace Go.Proofs.YtfakdalpaopjaaaGreatDoor
section
open Go.RowKit

def sgnZ (n : Int) : Int := if n < 0 then -1 else if 0 < n then 1 else 0
theorem sgnZ_any (n : Int) (w : World) : Calls Tryz.prog 89 #[.int .i64 n] w (Same (.int .i64 (sgnZ n)) w) := by
  by_cases h : n < 0
  · have d : decide (n < 0) = true := decide_eq_true h
    have HR := Lib.hid (show sgnZ n = -1 by unfold sgnZ; rw [if_pos h])
    clear h
    go_enter Tryz.func89, Tryz.ntmps89
    go_wp2_with fail
    go_ret
    exact ⟨by rw [HR.out]; rfl, rfl⟩
  · have d : decide (n < 0) = false := decide_eq_false h
    by_cases h2 : 0 < n
    · have d2 : decide (0 < n) = true := decide_eq_true h2
      have d3 : decide (n > 0) = true := decide_eq_true h2
      have HR := Lib.hid (show sgnZ n = 1 by unfold sgnZ; rw [if_neg h, if_pos h2])
      clear h h2
      go_enter Tryz.func89, Tryz.ntmps89
      go_wp2_with fail
      go_ret
      exact ⟨by rw [HR.out]; rfl, rfl⟩
    · have d2 : decide (0 < n) = false := decide_eq_false h2
      have d3 : decide (n > 0) = false := decide_eq_false h2
      have HR := Lib.hid (show sgnZ n = 0 by unfold sgnZ; rw [if_neg h, if_neg h2])
      clear h h2
      go_enter Tryz.func89, Tryz.ntmps89
      go_wp2_with fail
      go_ret
      exact ⟨by rw [HR.out]; rfl, rfl⟩
end
end Go.Proofs.YtfakdalpaopjaaaGreatDoor
/- Contract of the document's RecordOrder. Conditions: the records are RcOk. -/
namespace Go.Proofs.YtfakdalpaopjaaaGreatDoor
section
open Go.RowKit

theorem rcCmp_sgn (a b : RcV) (h : a.at_ ≠ b.at_) : sgnZ (a.at_ - b.at_) = rcCmp a b := by
  unfold sgnZ rcCmp
  rw [if_neg h]
  by_cases h1 : a.at_ < b.at_
  · rw [if_pos h1, if_pos (by omega)]
  · rw [if_neg h1, if_neg (by omega), if_pos (by omega)]
set_option maxHeartbeats 2000000 in
set_option maxRecDepth 100000 in
theorem recordOrderL_any (a b : RcV) (w : World) (ha : RcOkL a) (hb : RcOkL b) :
    Calls Tryz.prog 51 #[.agg #[.string a.id, .string a.frm, .string a.too, .int .i64 a.at_, .int .i64 a.ring, .int .i64 a.talk, .int .i64 a.how, .string a.car], .agg #[.string b.id, .string b.frm, .string b.too, .int .i64 b.at_, .int .i64 b.ring, .int .i64 b.talk, .int .i64 b.how, .string b.car]] w (RetV (.int .i64 (rcCmp a b)) w) := by
  obtain ⟨-, -, -, -, a1, a2⟩ := ha
  obtain ⟨-, -, -, -, b1, b2⟩ := hb
  have hsub : IntKind.i64.wrap (a.at_ - b.at_) = a.at_ - b.at_ := IntWalk.i64_in _ (by omega)
  clear a1 a2 b1 b2
  obtain ⟨W1, hW⟩ : ∃ W1, (w.alloc (.cells #[.string a.id, .string a.frm, .string a.too, .int .i64 a.at_, .int .i64 a.ring, .int .i64 a.talk, .int .i64 a.how, .string a.car] 55)).alloc (.cells #[.string b.id, .string b.frm, .string b.too, .int .i64 b.at_, .int .i64 b.ring, .int .i64 b.talk, .int .i64 b.how, .string b.car] 55) = W1 := ⟨_, rfl⟩
  have HA : Blk W1 w.heap.size 55 #[.string a.id, .string a.frm, .string a.too, .int .i64 a.at_, .int .i64 a.ring, .int .i64 a.talk, .int .i64 a.how, .string a.car] := by rw [← hW]; exact (Blk.new _ _ _).alloc _
  have HB : Blk W1 (w.heap.size + 1) 55 #[.string b.id, .string b.frm, .string b.too, .int .i64 b.at_, .int .i64 b.ring, .int .i64 b.talk, .int .i64 b.how, .string b.car] := by
    rw [← hW]
    have h := Blk.new (w.alloc (.cells #[.string a.id, .string a.frm, .string a.too, .int .i64 a.at_, .int .i64 a.ring, .int .i64 a.talk, .int .i64 a.how, .string a.car] 55)) 55 #[.string b.id, .string b.frm, .string b.too, .int .i64 b.at_, .int .i64 b.ring, .int .i64 b.talk, .int .i64 b.how, .string b.car]
    simpa using h
  have a3 : W1.cell? ⟨w.heap.size, 3, none⟩ = some (.int .i64 a.at_) := HA.cell 3
  have a0 : W1.cell? ⟨w.heap.size, 0, none⟩ = some (.string a.id) := HA.cell 0
  have b3 : W1.cell? ⟨w.heap.size + 1, 3, none⟩ = some (.int .i64 b.at_) := HB.cell 3
  have b0 : W1.cell? ⟨w.heap.size + 1, 0, none⟩ = some (.string b.id) := HB.cell 0
  clear HA HB
  have HG := Lib.hid (show w.grownBy W1 none by rw [← hW]; exact gr_alloc (gr_alloc (gr_refl _ _) _) _)
  have HW := Lib.hid hW; clear hW
  by_cases e : a.at_ = b.at_
  · have d : (a.at_ != b.at_) = false := by simp [e]
    have HR := Lib.hid (show cmpS a.id b.id = rcCmp a b by unfold rcCmp; rw [if_pos e])
    clear e
    go_enter Tryz.func51, Tryz.ntmps51
    go_wp2_with fail
    rw [HW.out]
    go_wp2_with fail
    refine (Tryz.strings_Compare _ _ _).mono ?_
    rintro e w' ⟨rfl, rfl⟩
    go_wp2_with fail
    go_ret
    exact ⟨by rw [← HR.out]; rfl, HG.out⟩
  · have d : (a.at_ != b.at_) = true := by simpa using e
    have HR := Lib.hid (rcCmp_sgn a b e)
    clear e
    go_enter Tryz.func51, Tryz.ntmps51
    go_wp2_with fail
    rw [HW.out]
    go_wp2_with fail
    refine (sgnZ_any _ _).mono ?_
    rintro e w' ⟨rfl, rfl⟩
    go_wp2_with fail
    go_ret
    exact ⟨by rw [← HR.out]; rfl, HG.out⟩
theorem recordOrder_any (a b : RcV) (w : World) (ha : RcOk a) (hb : RcOk b) :
    Calls Tryz.prog 51 #[.agg #[.string a.id, .string a.frm, .string a.too, .int .i64 a.at_, .int .i64 a.ring, .int .i64 a.talk, .int .i64 a.how, .string a.car], .agg #[.string b.id, .string b.frm, .string b.too, .int .i64 b.at_, .int .i64 b.ring, .int .i64 b.talk, .int .i64 b.how, .string b.car]] w (RetV (.int .i64 (rcCmp a b)) w) := recordOrderL_any a b w ha.l hb.l
end
end Go.Proofs.YtfakdalpaopjaaaGreatDoor
/- Contracts of slices.Equal at charges, invoices and numbers that read as the same list. Conditions: none. -/
namespace Go.Proofs.YtfakdalpaopjaaaGreatDoor
section
open Go.RowKit
/-- A cell that holds a number. -/
def irow (n : Int) : List Value := [.int .i64 n]
theorem irow_len (n : Int) : (irow n).length = 1 := rfl
end
end Go.Proofs.YtfakdalpaopjaaaGreatDoor
/- Queues: agents, callers and styles as they lie in memory, and what is wrong with them, in plain Lean. Conditions: none. -/
namespace Go.Proofs.YtfakdalpaopjaaaGreatDoor
section
open Go.RowKit

/-- An agent, as it lies in memory. -/
structure AgV where
  key : ByteArray
  sA : Option Addr
  sn : Nat
  sc : Nat
  fr : Int
  til : Int
  pA : Option Addr
  pn : Nat
  pc : Nat
  wrap : Int
  sk : List (ByteArray × Int)
  ps : List (Int × Int)
def AgV.row (a : AgV) : List Value := [.string a.key, .slice a.sA a.sn a.sc, .int .i64 a.fr, .int .i64 a.til, .slice a.pA a.pn a.pc, .int .i64 a.wrap]
theorem AgV.row_len (a : AgV) : a.row.length = 6 := rfl
def skRow (s : ByteArray × Int) : List Value := [.string s.1, .int .i64 s.2]
theorem skRow_len (s : ByteArray × Int) : (skRow s).length = 2 := rfl
def pwRow (p : Int × Int) : List Value := [.int .i64 p.1, .int .i64 p.2]
theorem pwRow_len (p : Int × Int) : (pwRow p).length = 2 := rfl
/-- What an agent's slices read as. -/
def AgOk (w : World) (lo : Nat) (a : AgV) : Prop := (a.key.size ≤ 1000 ∧ (∀ s ∈ a.sk, s.1.size ≤ 1000) ∧ a.sn ≤ 1000 ∧ a.pn ≤ 1000) ∧ Recs skRow 2 w lo a.sA a.sn a.sc a.sk ∧ Recs pwRow 2 w lo a.pA a.pn a.pc a.ps
def Ags (w : World) (lo : Nat) (A : Option Addr) (n c : Nat) (l : List AgV) : Prop := Recs AgV.row 6 w lo A n c l ∧ ∀ a ∈ l, AgOk w lo a
theorem AgOk.grown {w w' : World} {lo : Nat} {a : AgV} (h : AgOk w lo a) {r : Option Nat} (hg : w.grownBy w' r) (hr : ∀ g, r = some g → g < lo) : AgOk w' lo a := ⟨h.1, h.2.1.grown hg hr, h.2.2.grown hg hr⟩
theorem Ags.grown {w w' : World} {lo : Nat} {A : Option Addr} {n c : Nat} {l : List AgV} (h : Ags w lo A n c l) {r : Option Nat} (hg : w.grownBy w' r) (hr : ∀ g, r = some g → g < lo) : Ags w' lo A n c l :=
  ⟨h.1.grown hg hr, fun a ha => (h.2 a ha).grown hg hr⟩

/-! What is wrong with an agent. -/
def skAt (l : List (ByteArray × Int)) (i : Nat) : Int := (l[i]?).elim 0 fun s =>
  if keyOk (nb s.1) then (if inB s.2 1 9 then (if decide (0 < i) && (l[i - 1]?).elim false (fun p => leS s.1 p.1) then 7 else 0) else 1) else 5
def pwAt (l : List (Int × Int)) (i : Nat) : Int := (l[i]?).elim 0 fun p =>
  if p.1 < 0 ∨ p.2 ≤ p.1 ∨ 345686400000 < p.2 then 1 else (if decide (0 < i) && (l[i - 1]?).elim false (fun q => decide (p.1 < q.2)) then 7 else 0)
def tmE (fr til : Int) (pn : Nat) (ps : List (Int × Int)) (wrap : Int) : Int :=
  if fr < 0 ∨ til < fr ∨ 345686400000 < til then 1 else (if 50 < pn then 2 else (if fstE (pwAt ps) pn = 0 then (if inB wrap 0 86400000 then 0 else 1) else fstE (pwAt ps) pn))
def timE (a : AgV) : Int := tmE a.fr a.til a.pn a.ps a.wrap
def agE (a : AgV) : Int := if 10 < a.sn then 2 else (if fstE (skAt a.sk) a.sn = 0 then timE a else fstE (skAt a.sk) a.sn)
def agAt (l : List AgV) (i : Nat) : Int := (l[i]?).elim 0 fun a =>
  if keyOk (nb a.key) then (if decide (0 < i) && (l[i - 1]?).elim false (fun b => leS a.key b.key) then 7 else agE a) else 5
def agsE (l : List AgV) : Int := if 100 < l.length then 2 else fstE (agAt l) l.length

/-! Styles and moments. -/
set_option maxHeartbeats 1000000 in
theorem within_any (n lo hi : Int) (w : World) : Calls Tryz.prog 145 #[.int .i64 n, .int .i64 lo, .int .i64 hi] w (Same (.bool (inB n lo hi)) w) := by
  have H := Lib.hid (show inB n lo hi = (decide (lo ≤ n) && decide (n ≤ hi)) from rfl)
  by_cases h1 : lo ≤ n <;> by_cases h2 : n ≤ hi
  all_goals
    go_enter Tryz.func145, Tryz.ntmps145
    go_wp2
    go_ret
    exact ⟨by rw [H.out]; simp [h1, h2], rfl⟩
end
end Go.Proofs.YtfakdalpaopjaaaGreatDoor
/- Callers as they lie in memory, and what is wrong with them; who is able, who is present, in plain Lean. Conditions: none. -/
namespace Go.Proofs.YtfakdalpaopjaaaGreatDoor
section
open Go.RowKit

/-- A caller, as it lies in memory. -/
structure CaV where
  id : ByteArray
  skill : ByteArray
  at_ : Int
  least : Int
  prio : Int
  pat : Int
  talk : Int
  back : Bool
def CaV.row (a : CaV) : List Value := [.string a.id, .string a.skill, .int .i64 a.at_, .int .i64 a.least, .int .i64 a.prio, .int .i64 a.pat, .int .i64 a.talk, .bool a.back]
theorem CaV.row_len (a : CaV) : a.row.length = 8 := rfl
def CaOk (a : CaV) : Prop := a.id.size ≤ 1000 ∧ a.skill.size ≤ 1000
def Cas (w : World) (lo : Nat) (A : Option Addr) (n c : Nat) (l : List CaV) : Prop := Recs CaV.row 8 w lo A n c l ∧ ∀ a ∈ l, CaOk a
theorem Cas.grown {w w' : World} {lo : Nat} {A : Option Addr} {n c : Nat} {l : List CaV} (h : Cas w lo A n c l) {r : Option Nat} (hg : w.grownBy w' r) (hr : ∀ g, r = some g → g < lo) : Cas w' lo A n c l :=
  ⟨h.1.grown hg hr, h.2⟩
section
variable {l : List CaV} {i : Nat} {z b : CaV}
end
/-! Numbers in their bounds. -/
/-! Who is able, who is present. -/
def inWin (t : Int) (p : Int × Int) : Bool := decide (p.1 ≤ t) && decide (t < p.2)
def presB (a : AgV) (t : Int) : Bool := inWin t (a.fr, a.til) && !(a.ps.any (inWin t))
end
end Go.Proofs.YtfakdalpaopjaaaGreatDoor
/- Acts as they lie in memory, and what is wrong with them, in plain Lean. Conditions: none. -/
namespace Go.Proofs.YtfakdalpaopjaaaGreatDoor
section
open Go.RowKit

/-- An act. -/
structure ActV where
  at_ : Int
  bx : ByteArray
  id : ByteArray
  kd : Int
  lg : Int
  frm : ByteArray
def ActV.row (a : ActV) : List Value := [.int .i64 a.at_, .string a.bx, .string a.id, .int .i64 a.kd, .int .i64 a.lg, .string a.frm]
theorem ActV.row_len (a : ActV) : a.row.length = 6 := rfl
theorem ActV.one (z : ActV) : ∀ u ∈ z.row, u.oneCell' = true := fun u hu => by
  unfold ActV.row at hu
  simp only [List.mem_cons, List.not_mem_nil, or_false] at hu
  rcases hu with rfl | rfl | rfl | rfl | rfl | rfl <;> rfl
/-- What is known of an act that was read. -/
def AcOkL (a : ActV) : Prop := (a.bx.size ≤ 1000000 ∧ a.id.size ≤ 1000000 ∧ a.frm.size ≤ 1000000) ∧ (-1152921504606846976 ≤ a.at_ ∧ a.at_ ≤ 1152921504606846976) ∧ (-1152921504606846976 ≤ a.kd ∧ a.kd ≤ 1152921504606846976)
/-- What is known of an act that was drawn. -/
def AcOk (a : ActV) : Prop := (a.bx.size ≤ 1000 ∧ a.id.size ≤ 1000 ∧ a.frm.size ≤ 1000) ∧ (-1152921504606846976 ≤ a.at_ ∧ a.at_ ≤ 1152921504606846976) ∧ (-1152921504606846976 ≤ a.kd ∧ a.kd ≤ 1152921504606846976)
theorem AcOk.l {a : ActV} (h : AcOk a) : AcOkL a := ⟨⟨Nat.le_trans h.1.1 (by decide), Nat.le_trans h.1.2.1 (by decide), Nat.le_trans h.1.2.2 (by decide)⟩, h.2⟩
def AcsL (w : World) (lo : Nat) (A : Option Addr) (n c : Nat) (l : List ActV) : Prop := Recs ActV.row 6 w lo A n c l ∧ ∀ a ∈ l, AcOkL a
def Acs (w : World) (lo : Nat) (A : Option Addr) (n c : Nat) (l : List ActV) : Prop := Recs ActV.row 6 w lo A n c l ∧ ∀ a ∈ l, AcOk a
theorem Acs.l {w : World} {lo : Nat} {A : Option Addr} {n c : Nat} {l : List ActV} (h : Acs w lo A n c l) : AcsL w lo A n c l := ⟨h.1, fun a ha => (h.2 a ha).l⟩
theorem Acs.grown {w w' : World} {lo : Nat} {A : Option Addr} {n c : Nat} {l : List ActV} (h : Acs w lo A n c l) {r : Option Nat} (hg : w.grownBy w' r) (hr : ∀ g, r = some g → g < lo) : Acs w' lo A n c l := ⟨h.1.grown hg hr, h.2⟩
section
variable {l : List ActV} {i : Nat} {z b : ActV}
end
end
end Go.Proofs.YtfakdalpaopjaaaGreatDoor

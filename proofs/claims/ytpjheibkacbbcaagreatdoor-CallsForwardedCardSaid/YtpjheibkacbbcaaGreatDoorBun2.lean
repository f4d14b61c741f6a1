/- Contract of the generator of strings Changed. Conditions: none. -/
import Derived.Test.YtpjheibkacbbcaaGreatDoorBun1
import Derived.Laws.Runes
import Derived.Sort.Grow
import Derived.Test.YtpjheibkacbbcaaGreatDoorRows
import Derived.WalkKit
import Derived.Maps.Own
import Derived.Maps.OwnOps
import Derived.Maps.OwnSet
import Derived.Maps.Views
import Derived.StringKeys
import Derived.Maps.RangeWalk
import Derived.Sort.MapsRangeIn
import Derived.ArgAppend
namespace Go.Proofs.YtpjheibkacbbcaaGreatDoor
section
open Go.RowKit

set_option maxRecDepth 100000 in
set_option maxHeartbeats 4000000 in
theorem changed_any (sb : Nat) (m : Int) (t u : ByteArray) (w : World) (hs : Str w sb m) (hm : m ≤ 1152921504606846970) (ht : t.size ≤ 1000000) (hu : u.size ≤ 1000) :
    Calls Tryz.prog 74 #[.pointer (some ⟨sb, 0, none⟩), .string t, .string u] w (Drawn sb (m + 3) (StrBd (2 * t.size + u.size + 4)) w) := by
  have HS := Lib.hid hs; clear hs
  by_cases h0 : nb t = [] ∨ nb u = []
  · rcases h0 with h0 | h0
    · have e1 : t.toList = [] := str_nil h0
      go_enter Tryz.func74, Tryz.ntmps74
      go_wp2_with fail
      go_ret
      exact ⟨_, rfl, ⟨u, rfl, by omega⟩, HS.out.mono (by omega), gr_refl _ _⟩
    · have e2 : u.toList = [] := str_nil h0
      by_cases h1 : nb t = []
      · have e1 : t.toList = [] := str_nil h1
        go_enter Tryz.func74, Tryz.ntmps74
        go_wp2_with fail
        go_ret
        exact ⟨_, rfl, ⟨u, rfl, by omega⟩, HS.out.mono (by omega), gr_refl _ _⟩
      · obtain ⟨e1, e1', _⟩ := str_full h1
        go_enter Tryz.func74, Tryz.ntmps74
        go_wp2_with fail
        go_ret
        exact ⟨_, rfl, ⟨u, rfl, by omega⟩, HS.out.mono (by omega), gr_refl _ _⟩
  · obtain ⟨e1, e1', t0⟩ := str_full (fun h => h0 (.inl h))
    obtain ⟨e2, e2', u0⟩ := str_full (fun h => h0 (.inr h))
    clear h0
    go_enter Tryz.func74, Tryz.ntmps74
    go_wp2_with fail
    refine (next_any sb m _ _ HS.out (by omega) (by omega) (by omega)).mono ?_
    rintro e w1 ⟨v1, rfl, ⟨r1, r10, r11, rfl⟩, hs1, hg1⟩
    have HS1 := Lib.hid hs1; have HG1 := Lib.hid hg1; clear hs1 hg1
    obtain ⟨i, rfl⟩ : ∃ i : Nat, r1 = i := ⟨r1.toNat, by omega⟩
    go_wp2_with fail
    refine (next_any sb _ _ _ HS1.out (by omega) (by omega) (by omega)).mono ?_
    rintro e w2 ⟨v2, rfl, ⟨r2, r20, r21, rfl⟩, hs2, hg2⟩
    have HS2 := Lib.hid hs2; have HG2 := Lib.hid (gr_same HG1.out hg2); clear hs2 hg2
    obtain ⟨j, rfl⟩ : ∃ j : Nat, r2 = j := ⟨r2.toNat, by omega⟩
    have hj : j < u.size := by omega
    obtain ⟨b, hb⟩ : ∃ b, u[j].toNat = b := ⟨_, rfl⟩
    have b256 : b < 256 := by rw [← hb]; exact UInt8.toNat_lt _
    go_wp2_with fail
    refine (next_any sb _ _ _ HS2.out (by omega) (by omega) (by omega)).mono ?_
    rintro e w3 ⟨v3, rfl, ⟨r3, r30, r31, rfl⟩, hs3, hg3⟩
    have HS3 := Lib.hid hs3; have HG3 := Lib.hid (gr_same HG2.out hg3); clear hs3 hg3
    obtain ⟨x, hx⟩ : ∃ x, t.extract 0 i = x := ⟨_, rfl⟩
    obtain ⟨y, hy⟩ : ∃ y, t.extract (i + 1) t.size = y := ⟨_, rfl⟩
    obtain ⟨z, hz⟩ : ∃ z, t.extract i t.size = z := ⟨_, rfl⟩
    obtain ⟨c, hc⟩ : ∃ c, Utf8.encode (b : Int) = c := ⟨_, rfl⟩
    have xs : x.size ≤ i := by rw [← hx, ← nb_len, nb_extract, List.drop_zero, List.length_take]; omega
    have ys : y.size + (i + 1) ≤ t.size := by rw [← hy, ← nb_len, nb_extract, List.length_drop, List.length_take, nb_len]; omega
    have zs : z.size + i ≤ t.size := by rw [← hz, ← nb_len, nb_extract, List.length_drop, List.length_take, nb_len]; omega
    have cs : c.size ≤ 4 := by rw [← hc]; exact enc_size _
    obtain ⟨xc, hxc⟩ : ∃ xc, x ++ c = xc := ⟨_, rfl⟩
    have xcs : xc.size ≤ i + 4 := by rw [← hxc, app_size]; omega
    have a1 : ¬ 9223372036854775807 < x.size + c.size := by omega
    have a2 : ¬ 9223372036854775807 < xc.size + y.size := by omega
    have a3 : ¬ 9223372036854775807 < xc.size + z.size := by omega
    have a4 : ¬ 9223372036854775807 < x.size + y.size := by omega
    have l0 : (0 : Int) ≤ (i : Int) := by omega
    have l1 : (i : Int) ≤ (t.size : Int) := by omega
    have l2 : (0 : Int) ≤ (i : Int) + 1 := by omega
    have l3 : (i : Int) + 1 ≤ (t.size : Int) := by omega
    have l4 : IntKind.i64.wrap ((i : Int) + 1) = (i : Int) + 1 := IntWalk.i64_in _ (by omega)
    have l5 : ((i : Int) + 1).toNat = i + 1 := by omega
    rcases (by omega : r3 = 0 ∨ r3 = 1 ∨ r3 = 2) with rfl | rfl | rfl
    · go_wp2_with fail
      go_quiet (fail)
      go_wp2_with fail
      go_ret
      exact ⟨_, rfl, ⟨_, rfl, by rw [app_size]; omega⟩, (HS3.out.mono (by omega)).drewN _, gr_drewN HG3.out _⟩
    · go_wp2_with fail
      go_quiet (fail)
      go_wp2_with fail
      go_ret
      exact ⟨_, rfl, ⟨_, rfl, by rw [app_size]; omega⟩, (HS3.out.mono (by omega)).drewN _, gr_drewN HG3.out _⟩
    · go_wp2_with fail
      go_quiet (fail)
      go_wp2_with fail
      go_ret
      exact ⟨_, rfl, ⟨_, rfl, by rw [app_size]; omega⟩, (HS3.out.mono (by omega)).drewN _, gr_drewN HG3.out _⟩
end
end Go.Proofs.YtpjheibkacbbcaaGreatDoor
/- Worlds that differ by draws and new blocks alone. Conditions: none. -/
namespace Go.Proofs.YtpjheibkacbbcaaGreatDoor
section
open Go.RowKit Go.Sort

/-- Some draws and some new blocks further. -/
def Gq (w w' : World) : Prop := ∃ (q : Nat) (os : Array Obj), w' = grow (w.drewN q) os
theorem Gq.refl (w : World) : Gq w w := ⟨0, #[], by rw [grow_empty]; rfl⟩
theorem Gq.grow {a b : World} (h : Gq a b) (os : Array Obj) : Gq a (grow b os) := by
  obtain ⟨q, os0, rfl⟩ := h
  exact ⟨q, os0 ++ os, by rw [grow_grow]⟩
theorem Gq.alloc {a b : World} (h : Gq a b) (o : Obj) : Gq a (b.alloc o) := by rw [alloc_eq_grow]; exact h.grow _
theorem Gq.drewN {a b : World} (h : Gq a b) (n : Nat) : Gq a (b.drewN n) := by
  obtain ⟨q, os, rfl⟩ := h
  exact ⟨q + n, os, by simp [World.drewN, Go.Sort.grow, Nat.add_assoc]⟩
theorem Gq.drew {a b : World} (h : Gq a b) : Gq a b.drew := h.drewN 1
theorem Gq.trans {a b c : World} (h : Gq a b) (k : Gq b c) : Gq a c := by
  obtain ⟨q, os, rfl⟩ := k
  exact (h.drewN q).grow os
theorem Gq.gr {a b : World} (h : Gq a b) : a.grownBy b none := by
  obtain ⟨q, os, rfl⟩ := h
  refine ⟨rfl, rfl, rfl, ?_, fun k hk _ => ?_⟩
  · show a.heap.size ≤ (a.heap ++ os).size
    rw [Array.size_append]; omega
  · show (a.heap ++ os)[k]? = a.heap[k]?
    rw [Array.getElem?_append_left hk]
/-- A call that leaves the world as it is. -/
theorem same_calls {P : Program} {f : FuncId} {args : Array Value} {w : World} {v : Value} {R : Ending → World → Prop} (h : Calls P f args w (Same v w)) (k : R (.returned v) w) : Calls P f args w R :=
  h.mono (by rintro e w' ⟨rfl, rfl⟩; exact k)
end
end Go.Proofs.YtpjheibkacbbcaaGreatDoor
/- Sets of strings: a map[string]bool that a call makes. Conditions: none. -/
namespace Go.Proofs.YtpjheibkacbbcaaGreatDoor
section
open Go.RowKit Go.Maps Go.WideMaps

theorem plainElem_bool_of {P : Program} {e : TypeId} (he : P.underlying e = some .bool) {v : Value} {z : DataW Unit × List MemPlace} (h : plainElem P e v = some z) : ∃ x, v = .bool x ∧ z = (.lit (.bool x), []) := by
  unfold plainElem at h
  rw [he] at h
  cases v <;> simp at h
  exact ⟨_, rfl, h.symm⟩

theorem Tryz.keyS : Keyed Tryz.prog 9 := string_keyed Tryz.underlying9
theorem Tryz.zeroBS (w : World) : (zeroValue 4).run Tryz.prog w = .ok (.bool false) w := by kernel_rfl

theorem nb_data {s t : ByteArray} : nb s = nb t ↔ s.data.toList = t.data.toList :=
  ⟨fun h => by rw [nb_inj h], fun h => by unfold nb; rw [h]⟩
/-- The map in block b is the set of the strings of L; it has s entries. -/
def SetS (w : World) (b n : Nat) (L : List ByteArray) (s : Nat) : Prop :=
  ∃ D : DataW Unit, w.ownsMap Tryz.prog 9 (plainElem Tryz.prog 4) b n D ∧ Maps.Tidy D ∧ (∀ k : ByteArray, Maps.has D (.string k.data.toList) = memS L k) ∧ (∀ k : ByteArray, memS L k = true → D.atKey (.string k.data.toList) (.lit (.bool false)) = .lit (.bool true)) ∧ Maps.size D = s
section
variable {w w' : World} {b n s : Nat} {L : List ByteArray}
theorem SetS.new (w : World) : SetS (w.alloc (.map #[] 0)) w.heap.size 0 [] 0 := ⟨.map [], World.ownsMap_made _ _ _ _, Maps.tidy_empty, fun k => rfl, fun k h => absurd h (by simp [memS]), rfl⟩
theorem SetS.kept {row : Option Nat} (h : SetS w b n L s) (hg : w.grownBy w' row) (hne : some b ≠ row) : SetS w' b n L s := by
  obtain ⟨D, h1, h2⟩ := h
  exact ⟨D, h1.kept hg hne, h2⟩
theorem SetS.look (h : SetS w b n L s) {k : ByteArray} (hw : k.size ≤ maxLen) : (Instr.lookup 188 (.map (some b)) (.string k) false).run Tryz.prog w = .ok (.bool (memS L k)) w := by
  obtain ⟨D, h1, h2, h3, h4, _⟩ := h
  obtain ⟨v, ps, hrun, hv⟩ := h1.lookup Tryz.keyS Tryz.underlying188 (Tryz.zeroBS w) (plainElem_bool Tryz.underlying4 false) (keyOf_string_mk Tryz.underlying9 hw)
  obtain ⟨x, rfl, hx⟩ := plainElem_bool_of Tryz.underlying4 hv
  simp only [Prod.mk.injEq] at hx
  have hx1 := hx.1
  have e : x = memS L k := by
    cases hc : memS L k
    · have hh : Maps.has D (.string k.data.toList) = false := by rw [h3, hc]
      rw [Maps.atKey_of_not_has hh] at hx1
      simp only [DataW.lit.injEq, Lit.bool.injEq] at hx1
      exact Eq.symm hx1
    · rw [h4 k hc] at hx1
      simp only [DataW.lit.injEq, Lit.bool.injEq] at hx1
      exact Eq.symm hx1
  rw [hrun, e]
theorem SetS.put (h : SetS w b n L s) (hn : n < maxLen) {k : ByteArray} (hw : k.size ≤ maxLen) : ∃ w', (Instr.mapUpdate 188 (.map (some b)) (.string k) (.bool true)).run Tryz.prog w = .ok () w' ∧ SetS w' b (n + 1) (L ++ [k]) (if memS L k then s else s + 1) ∧ w.grownBy w' (some b) := by
  obtain ⟨D, h1, h2, h3, h4, h5⟩ := h
  obtain ⟨w', hrun, ho, hg⟩ := h1.update Tryz.keyS Tryz.underlying188 hn (keyOf_string_mk Tryz.underlying9 hw) (plainElem_bool Tryz.underlying4 true)
  have hk : WideAt.IsKeyLit (.string k.data.toList) := Tryz.keyS.key (keyOf_string_mk Tryz.underlying9 hw)
  refine ⟨w', hrun, ⟨_, ho, h2.put hk _, fun k' => ?_, fun k' hc => ?_, ?_⟩, hg⟩
  · by_cases e : nb k = nb k'
    · rw [← nb_data.1 e, Maps.has_put_same h2.isMap hk, memS_snoc]; simp [e]
    · have e' : k'.data.toList ≠ k.data.toList := fun h => e (nb_data.2 h.symm)
      rw [Maps.has_put_other (by simpa using e'), h3, memS_snoc]
      simp [e]
  · by_cases e : nb k = nb k'
    · rw [← nb_data.1 e, Maps.atKey_put_same h2.isMap hk]
    · have e' : k'.data.toList ≠ k.data.toList := fun h => e (nb_data.2 h.symm)
      rw [Maps.atKey_put_other (by simpa using e')]
      refine h4 k' ?_
      rw [memS_snoc] at hc
      simpa [e] using hc
  · rw [Maps.size_put h2, h3, h5]
theorem SetS.len (h : SetS w b n L s) (ty : TypeId) : (Builtin.len_ #[188] ty #[.map (some b)]).run Tryz.prog w = .ok (.int .i64 s) w := by
  obtain ⟨D, h1, _, _, _, h5⟩ := h
  rw [h1.len Tryz.underlying188 ty, h5]
end
section
variable {w : World} {ops : Array Oper} {rest : List Oper} {o : Oper} {a : Act} {Q : Exit → Act → World → Prop} {b n s : Nat} {L : List ByteArray}
end
end
end Go.Proofs.YtpjheibkacbbcaaGreatDoor
/- Maps from strings to numbers that a call makes. Conditions: none. -/
namespace Go.Proofs.YtpjheibkacbbcaaGreatDoor
section
open Go.RowKit Go.Maps Go.WideMaps

theorem Tryz.zeroSI (w : World) : (zeroValue 3).run Tryz.prog w = .ok (.int .i64 0) w := by kernel_rfl
theorem int_wf {n : Int} (h1 : -9223372036854775808 ≤ n) (h2 : n ≤ 9223372036854775807) : (Lit.int .i64 n).wf = true := by
  simp only [Lit.wf, Bool.and_eq_true, decide_eq_true_eq]
  exact ⟨h1, h2⟩
/-- The map in block b reads as f (0: no entry); at most n entries were put. -/
def MapSI (w : World) (b n : Nat) (f : ByteArray → Int) : Prop :=
  ∃ D : DataW Unit, w.ownsMap Tryz.prog 9 (plainElem Tryz.prog 3) b n D ∧ Maps.Tidy D ∧ ∀ k : ByteArray, D.atKey (.string k.data.toList) (.lit (.int .i64 0)) = .lit (.int .i64 (f k))
section
variable {w w' : World} {b n : Nat} {f : ByteArray → Int}
theorem MapSI.new (w : World) : MapSI (w.alloc (.map #[] 0)) w.heap.size 0 (fun _ => 0) := ⟨.map [], World.ownsMap_made _ _ _ _, Maps.tidy_empty, fun k => Maps.atKey_of_not_has rfl _⟩
theorem MapSI.kept {row : Option Nat} (h : MapSI w b n f) (hg : w.grownBy w' row) (hne : some b ≠ row) : MapSI w' b n f := by
  obtain ⟨D, h1, h2⟩ := h
  exact ⟨D, h1.kept hg hne, h2⟩
theorem MapSI.lt (h : MapSI w b n f) : b < w.heap.size := by obtain ⟨_, h1, _⟩ := h; exact h1.lt
theorem MapSI.look (h : MapSI w b n f) {k : ByteArray} (hw : k.size ≤ maxLen) : (Instr.lookup 97 (.map (some b)) (.string k) false).run Tryz.prog w = .ok (.int .i64 (f k)) w := by
  obtain ⟨D, h1, h2, h3⟩ := h
  obtain ⟨c, hrun, hat, _⟩ := h1.lookup_int Tryz.keyS Tryz.underlying97 Tryz.underlying3 (Tryz.zeroSI w) (keyOf_string_mk Tryz.underlying9 hw)
  rw [h3] at hat
  simp only [DataW.lit.injEq, Lit.int.injEq, true_and] at hat
  rw [hrun, hat]
theorem MapSI.put (h : MapSI w b n f) (hn : n < maxLen) {k : ByteArray} {v : Int} (hw : k.size ≤ maxLen) (hv : (Lit.int .i64 v).wf = true) : ∃ w', (Instr.mapUpdate 97 (.map (some b)) (.string k) (.int .i64 v)).run Tryz.prog w = .ok () w' ∧
    MapSI w' b (n + 1) (fun k' => if nb k = nb k' then v else f k') ∧ w.grownBy w' (some b) := by
  obtain ⟨D, h1, h2, h3⟩ := h
  obtain ⟨w', hrun, ho, hg⟩ := h1.update Tryz.keyS Tryz.underlying97 hn (keyOf_string_mk Tryz.underlying9 hw) (plainElem_int Tryz.underlying3 hv)
  have hk : WideAt.IsKeyLit (.string k.data.toList) := Tryz.keyS.key (keyOf_string_mk Tryz.underlying9 hw)
  refine ⟨w', hrun, ⟨_, ho, h2.put hk _, fun k' => ?_⟩, hg⟩
  dsimp only
  by_cases e : nb k = nb k'
  · rw [if_pos e, ← nb_data.1 e, Maps.atKey_put_same h2.isMap hk]
  · have e' : k'.data.toList ≠ k.data.toList := fun h => e (nb_data.2 h.symm)
    rw [if_neg e, Maps.atKey_put_other (by simpa using e'), h3]
end
section
variable {w : World} {ops : Array Oper} {rest : List Oper} {o : Oper} {a : Act} {Q : Exit → Act → World → Prop} {b n : Nat} {f : ByteArray → Int}
theorem wpl_silook (hgd : o.guard = none) (m x : Operand) (hop : o.op = Op.lookup 97 m x false) (hm : a.eval m = .map (some b)) (k : ByteArray) (hx : a.eval x = .string k) (hw : k.size ≤ maxLen) (h : MapSI w b n f)
    (hK : wpList Tryz.prog ops Q rest (a.put o.dst (.int .i64 (f k))) w) : wpList Tryz.prog ops Q (o :: rest) a w := by
  refine wpList_plain hgd fun K' hK' => ?_
  unfold Oper.wp
  simp [execOp, hop, hm, hx, h.look hw, Result.andThen]
  exact hK' _ _ hK
theorem wpl_siput (hgd : o.guard = none) (m x v : Operand) (hop : o.op = Op.mapUpdate 97 m x v) (hm : a.eval m = .map (some b)) (k : ByteArray) (u : Int) (hx : a.eval x = .string k) (hv : a.eval v = .int .i64 u) (hw : k.size ≤ maxLen) (hu : (Lit.int .i64 u).wf = true) (h : MapSI w b n f) (hn : n < maxLen)
    (hK : ∀ w', MapSI w' b (n + 1) (fun k' => if nb k = nb k' then u else f k') → w.grownBy w' (some b) → wpList Tryz.prog ops Q rest (a.put o.dst undef) w') : wpList Tryz.prog ops Q (o :: rest) a w := by
  refine wpList_plain hgd fun K' hK' => ?_
  obtain ⟨w', hrun, h1, h2⟩ := h.put hn hw hu
  unfold Oper.wp
  simp [execOp, hop, hm, hx, hv, hrun, Result.andThen]
  exact hK' _ _ (hK w' h1 h2)
end
end
end Go.Proofs.YtpjheibkacbbcaaGreatDoor
/- Maps from strings to numbers that a call makes, read with the word whether there is an entry. Conditions: none. -/
namespace Go.Proofs.YtpjheibkacbbcaaGreatDoor
section
open Go.RowKit Go.Maps Go.WideMaps

/-- The map in block b reads as f; at most n entries were put. -/
def MapSO (w : World) (b n : Nat) (f : ByteArray → Option Int) : Prop :=
  ∃ D : DataW Unit, w.ownsMap Tryz.prog 9 (plainElem Tryz.prog 3) b n D ∧ Maps.Tidy D ∧ ∀ (k : ByteArray) zd, D.atKey (.string k.data.toList) zd = (f k).elim zd (fun s => .lit (.int .i64 s))
section
variable {w w' : World} {b n : Nat} {f : ByteArray → Option Int}
theorem MapSO.new (w : World) : MapSO (w.alloc (.map #[] 0)) w.heap.size 0 (fun _ => none) := ⟨.map [], World.ownsMap_made _ _ _ _, Maps.tidy_empty, fun k zd => Maps.atKey_of_not_has rfl zd⟩
theorem MapSO.kept {row : Option Nat} (h : MapSO w b n f) (hg : w.grownBy w' row) (hne : some b ≠ row) : MapSO w' b n f := by
  obtain ⟨D, h1, h2⟩ := h
  exact ⟨D, h1.kept hg hne, h2⟩
theorem MapSO.lt (h : MapSO w b n f) : b < w.heap.size := by obtain ⟨_, h1, _⟩ := h; exact h1.lt
theorem MapSO.put (h : MapSO w b n f) (hn : n < maxLen) {k : ByteArray} {v : Int} (hw : k.size ≤ maxLen) (hv : (Lit.int .i64 v).wf = true) : ∃ w', (Instr.mapUpdate 97 (.map (some b)) (.string k) (.int .i64 v)).run Tryz.prog w = .ok () w' ∧
    MapSO w' b (n + 1) (fun k' => if nb k = nb k' then some v else f k') ∧ w.grownBy w' (some b) := by
  obtain ⟨D, h1, h2, h3⟩ := h
  obtain ⟨w', hrun, ho, hg⟩ := h1.update Tryz.keyS Tryz.underlying97 hn (keyOf_string_mk Tryz.underlying9 hw) (plainElem_int Tryz.underlying3 hv)
  have hk : WideAt.IsKeyLit (.string k.data.toList) := Tryz.keyS.key (keyOf_string_mk Tryz.underlying9 hw)
  refine ⟨w', hrun, ⟨_, ho, h2.put hk _, fun k' zd => ?_⟩, hg⟩
  dsimp only
  by_cases e : nb k = nb k'
  · rw [if_pos e, ← nb_data.1 e, Maps.atKey_put_same h2.isMap hk]; rfl
  · have e' : k'.data.toList ≠ k.data.toList := fun h => e (nb_data.2 h.symm)
    rw [if_neg e, Maps.atKey_put_other (by simpa using e'), h3]
end
section
variable {w : World} {ops : Array Oper} {rest : List Oper} {o : Oper} {a : Act} {Q : Exit → Act → World → Prop} {b n : Nat} {f : ByteArray → Option Int}
end
end
end Go.Proofs.YtpjheibkacbbcaaGreatDoor
/- Maps from strings to values of any kind, made by a call: read, put to, struck from, gone through. Conditions: none. -/
namespace Go.Proofs.YtpjheibkacbbcaaGreatDoor
section
open Go.RowKit Go.Maps Go.WideMaps

section
variable {α : Type}
open Classical in
/-- What reads an element: the value that the encoding makes it of. -/
noncomputable def encR (enc : α → Value) (v : Value) : Option (DataW α × List MemPlace) := if h : ∃ z, v = enc z then some (.held h.choose, []) else none
theorem encR_mk {enc : α → Value} (hi : ∀ a b, enc a = enc b → a = b) (z : α) : encR enc (enc z) = some (.held z, []) := by
  have h : ∃ y, enc z = enc y := ⟨z, rfl⟩
  unfold encR
  rw [dif_pos h, hi _ _ h.choose_spec.symm]
theorem encR_inv {enc : α → Value} {v : Value} {y : DataW α × List MemPlace} (h : encR enc v = some y) : ∃ c, v = enc c ∧ y = (.held c, []) := by
  unfold encR at h
  split at h
  · rename_i hx
    exact ⟨hx.choose, hx.choose_spec, (Option.some.inj h).symm⟩
  · cases h
/-- The map in block b reads as f; at most n entries were put. -/
def MapG (enc : α → Value) (w : World) (b n : Nat) (f : ByteArray → Option α) : Prop :=
  ∃ D : DataW α, w.ownsMap Tryz.prog 9 (encR enc) b n D ∧ Maps.Tidy D ∧ ∀ (k : ByteArray) zd, D.atKey (.string k.data.toList) zd = (f k).elim zd .held
/-- A loop over that map: L says which keys are still to come. -/
def RngG (enc : α → Value) (w : World) (b r n : Nat) (f : ByteArray → Option α) (L : ByteArray → Bool) (cnt : Nat) : Prop :=
  ∃ (D : DataW α) (left : Lit → Bool), w.ranges Tryz.prog 9 (encR enc) b r n D left cnt ∧ Maps.Tidy D ∧ (∀ (k : ByteArray) zd, D.atKey (.string k.data.toList) zd = (f k).elim zd .held) ∧ ∀ k : ByteArray, left (.string k.data.toList) = L k
section
variable {enc : α → Value} {w w' : World} {b r n cnt : Nat} {f : ByteArray → Option α} {L : ByteArray → Bool}
theorem MapG.new (enc : α → Value) (w : World) : MapG enc (w.alloc (.map #[] 0)) w.heap.size 0 (fun _ => none) := ⟨.map [], World.ownsMap_made _ _ _ _, Maps.tidy_empty, fun k zd => Maps.atKey_of_not_has rfl zd⟩
theorem MapG.kept {row : Option Nat} (h : MapG enc w b n f) (hg : w.grownBy w' row) (hne : some b ≠ row) : MapG enc w' b n f := by
  obtain ⟨D, h1, h2⟩ := h
  exact ⟨D, h1.kept hg hne, h2⟩
theorem MapG.lt (h : MapG enc w b n f) : b < w.heap.size := by obtain ⟨_, h1, _⟩ := h; exact h1.lt
theorem MapG.fn (h : MapG enc w b n f) {g : ByteArray → Option α} (e : ∀ k, f k = g k) : MapG enc w b n g := by
  obtain ⟨D, h1, h2, h3⟩ := h
  exact ⟨D, h1, h2, fun k zd => by rw [h3, e]⟩
theorem MapG.look (h : MapG enc w b n f) {t e : TypeId} (ht : Tryz.prog.underlying t = some (.map 9 e)) {zv : Value} (hz : (zeroValue e).run Tryz.prog w = .ok zv w) {k : ByteArray} (hw : k.size ≤ maxLen) :
    (Instr.lookup t (.map (some b)) (.string k) false).run Tryz.prog w = .ok ((f k).elim zv enc) w ∧ (Instr.lookup t (.map (some b)) (.string k) true).run Tryz.prog w = .ok (.tuple #[(f k).elim zv enc, .bool (f k).isSome]) w := by
  obtain ⟨D, ⟨es, clock, hb, F, _, rfl⟩, _, h3⟩ := h
  have key : ∀ c, (Instr.lookup t (.map (some b)) (.string k) c).run Tryz.prog w = .ok (if c then .tuple #[(f k).elim zv enc, .bool (f k).isSome] else (f k).elim zv enc) w := by
    intro c
    rcases Maps.fit_look c Tryz.keyS ht hz hb F (keyOf_string_mk Tryz.underlying9 hw) with ⟨hrun, _, hat⟩ | ⟨e0, y, _, _, hrun, hRv, hat, _⟩
    · rw [hrun]
      cases hf : f k with
      | none => rfl
      | some s =>
        have h4 := h3 k .nil
        rw [hat, hf] at h4
        cases h4
    · rw [hrun]
      obtain ⟨s, hv, hy⟩ := encR_inv hRv
      subst hy
      rw [hv]
      have h4 := h3 k .nil
      rw [hat] at h4
      cases hf : f k with
      | none => rw [hf] at h4; cases h4
      | some s' =>
        rw [hf] at h4
        simp only [Option.elim, DataW.held.injEq] at h4
        subst h4
        rfl
  exact ⟨key false, key true⟩
theorem MapG.put (hi : ∀ a b, enc a = enc b → a = b) (h : MapG enc w b n f) {t e : TypeId} (ht : Tryz.prog.underlying t = some (.map 9 e)) (hn : n < maxLen) {k : ByteArray} (v : α) (hw : k.size ≤ maxLen) : ∃ w', (Instr.mapUpdate t (.map (some b)) (.string k) (enc v)).run Tryz.prog w = .ok () w' ∧
    MapG enc w' b (n + 1) (fun k' => if nb k = nb k' then some v else f k') ∧ w.grownBy w' (some b) := by
  obtain ⟨D, h1, h2, h3⟩ := h
  obtain ⟨w', hrun, ho, hg⟩ := h1.update Tryz.keyS ht hn (keyOf_string_mk Tryz.underlying9 hw) (encR_mk hi v)
  have hk : WideAt.IsKeyLit (.string k.data.toList) := Tryz.keyS.key (keyOf_string_mk Tryz.underlying9 hw)
  refine ⟨w', hrun, ⟨_, ho, h2.put hk _, fun k' zd => ?_⟩, hg⟩
  dsimp only
  by_cases e : nb k = nb k'
  · rw [if_pos e, ← nb_data.1 e, Maps.atKey_put_same h2.isMap hk]; rfl
  · have e' : k'.data.toList ≠ k.data.toList := fun h => e (nb_data.2 h.symm)
    rw [if_neg e, Maps.atKey_put_other (by simpa using e'), h3]
theorem RngG.left_eq (h : RngG enc w b r n f L cnt) : w.rangeLeft b r = cnt := by obtain ⟨_, _, h1, _⟩ := h; exact h1.left_eq
theorem RngG.lt (h : RngG enc w b r n f L cnt) : r < w.heap.size := by obtain ⟨_, _, h1, _⟩ := h; exact h1.lt
theorem RngG.map (h : RngG enc w b r n f L cnt) : MapG enc w b n f := by obtain ⟨D, _, h1, h2, h3, _⟩ := h; exact ⟨D, h1.owns, h2, h3⟩
theorem RngG.kept {row : Option Nat} (h : RngG enc w b r n f L cnt) (hg : w.grownBy w' row) (hb : some b ≠ row) (hr : some r ≠ row) : RngG enc w' b r n f L cnt := by
  obtain ⟨D, left, h1, h2⟩ := h
  exact ⟨D, left, h1.kept hg hb hr, h2⟩
end
section
variable {enc : α → Value} {w : World} {ops : Array Oper} {rest : List Oper} {o : Oper} {a : Act} {Q : Exit → Act → World → Prop} {b r n cnt : Nat} {f : ByteArray → Option α} {L : ByteArray → Bool}
theorem wpl_glook (hgd : o.guard = none) (t : TypeId) (m x : Operand) (hop : o.op = Op.lookup t m x false) {e : TypeId} (ht : Tryz.prog.underlying t = some (.map 9 e)) {zv : Value} (hz : (zeroValue e).run Tryz.prog w = .ok zv w) (hm : a.eval m = .map (some b)) (k : ByteArray) (hx : a.eval x = .string k) (hw : k.size ≤ maxLen) (h : MapG enc w b n f)
    (hK : wpList Tryz.prog ops Q rest (a.put o.dst ((f k).elim zv enc)) w) : wpList Tryz.prog ops Q (o :: rest) a w := by
  refine wpList_plain hgd fun K' hK' => ?_
  unfold Oper.wp
  simp [execOp, hop, hm, hx, (h.look ht hz hw).1, Result.andThen]
  exact hK' _ _ hK
theorem wpl_gput (hi : ∀ a b, enc a = enc b → a = b) (hgd : o.guard = none) (t : TypeId) (m x v : Operand) (hop : o.op = Op.mapUpdate t m x v) {e : TypeId} (ht : Tryz.prog.underlying t = some (.map 9 e)) (hm : a.eval m = .map (some b)) (k : ByteArray) (u : α) (hx : a.eval x = .string k) (hv : a.eval v = enc u) (hw : k.size ≤ maxLen) (h : MapG enc w b n f) (hn : n < maxLen)
    (hK : ∀ w', MapG enc w' b (n + 1) (fun k' => if nb k = nb k' then some u else f k') → w.grownBy w' (some b) → wpList Tryz.prog ops Q rest (a.put o.dst undef) w') : wpList Tryz.prog ops Q (o :: rest) a w := by
  refine wpList_plain hgd fun K' hK' => ?_
  obtain ⟨w', hrun, h1, h2⟩ := h.put hi ht hn u hw
  unfold Oper.wp
  simp [execOp, hop, hm, hx, hv, hrun, Result.andThen]
  exact hK' _ _ (hK w' h1 h2)
theorem wpl_grange (hgd : o.guard = none) (m : Operand) (t : TypeId) (hop : o.op = Op.range t m) {e : TypeId} (ht : Tryz.prog.underlying t = some (.map 9 e)) (hm : a.eval m = .map (some b)) (h : MapG enc w b n f)
    (hK : ∀ w' cnt, RngG enc w' b w.heap.size n f (fun k => (f k).isSome) cnt → w.grownBy w' none → w'.heap.size = w.heap.size + 1 → wpList Tryz.prog ops Q rest (a.put o.dst (.pointer (some ⟨w.heap.size, 0, none⟩))) w') : wpList Tryz.prog ops Q (o :: rest) a w := by
  obtain ⟨D, h1, h2, h3⟩ := h
  refine wpList_range_own w hgd m t hop 9 e Tryz.keyS ht (encR enc) b n D hm h1 fun w' hr hg hs => hK w' _ ⟨D, Maps.has D, hr, h2, h3, fun k => ?_⟩ hg hs
  cases hf : f k with
  | none => show Maps.has D _ = (f k).isSome; rw [hf]; exact Maps.has_false_of_atKey (fun z => by rw [h3, hf]; rfl)
  | some c => show Maps.has D _ = (f k).isSome; rw [hf]; exact Maps.has_true_of_atKey (y := .held c) (fun z => by rw [h3, hf]; rfl)
theorem wpl_gnext (hi : ∀ a b, enc a = enc b → a = b) (hgd : o.guard = none) (it : Operand) (hop : o.op = Op.next it false) (hit : a.eval it = .pointer (some ⟨r, 0, none⟩)) (h : RngG enc w b r n f L cnt)
    (hDone : (∀ k, L k = false) → wpList Tryz.prog ops Q rest (a.put o.dst (.tuple #[.bool false])) w)
    (hMore : ∀ (x : ByteArray) (c : α) w' cnt', f x = some c → L x = true → RngG enc w' b r n f (fun k => L k && decide (nb k ≠ nb x)) cnt' → cnt' < cnt → w.grownBy w' (some r) → w'.heap.size = w.heap.size →
      (Instr.entry (.pointer (some ⟨r, 0, none⟩))).run Tryz.prog w' = .ok (.tuple #[.string x, enc c]) w' → wpList Tryz.prog ops Q rest (a.put o.dst (.tuple #[.bool true, .string x, enc c])) w') : wpList Tryz.prog ops Q (o :: rest) a w := by
  obtain ⟨D, left, hr, h2, h3, hL⟩ := h
  refine wpList_next_ranges w hgd it hop 9 Tryz.keyS (encR enc) Value.string enc (fun key kl hk => Maps.keyOf_string_inv Tryz.underlying9 hk) (fun v y hv => by obtain ⟨c, hc, _⟩ := encR_inv hv; exact ⟨c, hc⟩) b r n D left cnt hit hr
    (fun _ hl => hDone (fun k => by rw [← hL, hl])) (fun x c kl y w' cnt' hkey hlk hv hat hrg hlt hgr hsz hen => ?_)
  rw [encR_mk hi] at hv
  obtain rfl := Option.some.inj hv
  simp [keyOf, Tryz.underlying9, mapKey] at hkey
  obtain ⟨hw, rfl⟩ := hkey
  refine hMore x c w' cnt' ?_ ((hL x).symm.trans hlk) ⟨D, _, hrg, h2, h3, fun k => ?_⟩ hlt hgr hsz hen
  · have h4 := h3 x .nil
    rw [hat] at h4
    cases hf : f x with
    | none => rw [hf] at h4; cases h4
    | some c' =>
      rw [hf] at h4
      simp only [Option.elim, DataW.held.injEq] at h4
      rw [h4]
  · dsimp only
    rw [hL]
    congr 1
    by_cases e : nb k = nb x
    · rw [nb_data.1 e]
      simp [Lit.sameKey, e]
    · have e' : k.data.toList ≠ x.data.toList := fun h => e (nb_data.2 h)
      simp only [Lit.sameKey]
      rw [beq_eq_false_iff_ne.2 e', decide_eq_true (show nb k ≠ nb x from e)]; rfl
end
end
section
variable {α : Type} {enc : α → Value} {w : World} {o : Oper} {a : Act} {K : Act → World → Prop} {Q : Exit → Act → World → Prop} {b n : Nat} {f : ByteArray → Option α}
theorem exec_glook {ev : Operand → Value} (t : TypeId) (m x : Operand) (hop : o.op = Op.lookup t m x false) {e : TypeId} (ht : Tryz.prog.underlying t = some (.map 9 e)) {zv : Value} (hz : (zeroValue e).run Tryz.prog w = .ok zv w) (hm : ev m = .map (some b)) (k : ByteArray) (hx : ev x = .string k) (hw : k.size ≤ maxLen) (h : MapG enc w b n f) :
    (execOp ev o).run Tryz.prog w = .ok (.value ((f k).elim zv enc)) w := by
  unfold execOp
  simp [hop, hm, hx, (h.look ht hz hw).1, Result.andThen]
theorem wp_gput (hi : ∀ a b, enc a = enc b → a = b) (t : TypeId) (m x v : Operand) (hop : o.op = Op.mapUpdate t m x v) {e : TypeId} (ht : Tryz.prog.underlying t = some (.map 9 e)) (hm : a.eval m = .map (some b)) (k : ByteArray) (u : α) (hx : a.eval x = .string k) (hv : a.eval v = enc u) (hw : k.size ≤ maxLen) (h : MapG enc w b n f) (hn : n < maxLen)
    (hK : ∀ w', MapG enc w' b (n + 1) (fun k' => if nb k = nb k' then some u else f k') → w.grownBy w' (some b) → K (a.put o.dst undef) w') : o.wp Tryz.prog a w K Q := by
  obtain ⟨w', hrun, h1, h2⟩ := h.put hi ht hn u hw
  unfold Oper.wp
  simp [execOp, hop, hm, hx, hv, hrun, Result.andThen]
  exact hK w' h1 h2
end
end
end Go.Proofs.YtpjheibkacbbcaaGreatDoor
/- Queues: slices of a call's own that are cut at their head and appended to. Over any program. Conditions: none. -/
namespace Go.Proofs.YtpjheibkacbbcaaGreatDoor
section
open Go.RowKit

theorem gr_setCells {a : World} {g : Nat} {row : Option Nat} (hr : some g = row ∨ a.heap.size ≤ g) : ∀ (vs : List Value) (o : Nat) (w : World), a.grownBy w row → a.grownBy (w.setCells g o vs) row
  | [], _, _, h => h
  | v :: vs, o, w, h => by
    unfold World.setCells
    exact gr_setCells hr vs (o + 1) _ (gr_setCell h hr v)

/-- A slice of the call's own, perhaps cut at its head: nil, or in an array from block 'lo' on, with room to its capacity. -/
def OwnO (w : World) (lo size : Nat) (A : Option Addr) (n c : Nat) (xs : List Value) : Prop :=
  xs.length = n * size ∧ n ≤ c ∧ ((A = none ∧ c = 0) ∨ ∃ g o, A = some ⟨g, o, none⟩ ∧ lo ≤ g ∧ g < w.heap.size ∧ (∀ j u, xs[j]? = some u → w.cell? ⟨g, o + j, none⟩ = some u) ∧
    ∀ j, j < c * size → (w.cell? ⟨g, o + j, none⟩).isSome = true ∧ w.frozen? ⟨g, o + j, none⟩ = false)
section
variable {w w' : World} {lo lo' size n c : Nat} {A : Option Addr} {xs : List Value}
theorem OwnO.nil (w : World) (lo size : Nat) : OwnO w lo size none 0 0 [] := ⟨by simp, Nat.le_refl _, .inl ⟨rfl, rfl⟩⟩
theorem OwnO.of {e : TypeId} (h : Own w lo e size A n c xs) : OwnO w lo size A n c xs := by
  refine ⟨h.1, h.cap, ?_⟩
  rcases h.2 with ⟨hv, h0⟩ | ⟨g, cap, cur, hv, hlo, hg, hnc, hcm, hcs, htk⟩
  · injection hv with e1 e2 e3; exact .inl ⟨e1, e3⟩
  · injection hv with e1 e2 e3; subst e1; subst e3
    refine .inr ⟨g, 0, rfl, hlo, Blk.lt (t := e) (cs := cur) hg, fun j u hu => ?_, fun j hj => ?_⟩
    · rw [Nat.zero_add]
      have hj : j < n * size := by rw [← h.1]; exact (List.getElem?_eq_some_iff.1 hu).1
      rw [Own.cell h hj]; exact hu
    · rw [Nat.zero_add]
      refine ⟨?_, Own.frozen h j⟩
      have hb : Blk w g e cur := hg
      rw [hb.cell, Array.getElem?_eq_getElem (by rw [hcs]; exact hj)]; rfl
theorem OwnO.len (h : OwnO w lo size A n c xs) : xs.length = n * size := h.1
theorem OwnO.cap (h : OwnO w lo size A n c xs) : n ≤ c := h.2.1
theorem OwnO.lt (h : OwnO w lo size A n c xs) {g : Nat} (hg : blkOf A = some g) : lo ≤ g ∧ g < w.heap.size := by
  rcases h.2.2 with ⟨rfl, _⟩ | ⟨g', o, rfl, h1, h2, _⟩
  · cases hg
  · injection hg with hg; subst hg; exact ⟨h1, h2⟩
theorem OwnO.kept (h : OwnO w lo size A n c xs) {row : Option Nat} (hg : w.grownBy w' row) (hne : ∀ g, row = some g → blkOf A ≠ some g) : OwnO w' lo size A n c xs := by
  refine ⟨h.1, h.2.1, ?_⟩
  rcases h.2.2 with h0 | ⟨g, o, rfl, h1, h2, h3, h4⟩
  · exact .inl h0
  · have hb : w'.heap[g]? = w.heap[g]? := hg.block g h2 (fun e => hne g e.symm rfl)
    refine .inr ⟨g, o, rfl, h1, by have := hg.size; omega, fun j u hu => (World.cell?_of_block hb).trans (h3 j u hu), fun j hj => ?_⟩
    obtain ⟨k1, k2⟩ := h4 j hj
    refine ⟨by rw [World.cell?_of_block hb]; exact k1, ?_⟩
    rw [← k2]
    unfold World.frozen?
    rw [hb]
theorem OwnO.low (h : OwnO w lo size A n c xs) {row : Option Nat} (hg : w.grownBy w' row) (hr : ∀ g, row = some g → g < lo) : OwnO w' lo size A n c xs :=
  h.kept hg (fun g e e' => by have := hr g e; have := (h.lt e').1; omega)
theorem OwnO.lower (h : OwnO w lo size A n c xs) (hl : lo' ≤ lo) : OwnO w lo' size A n c xs := by
  refine ⟨h.1, h.2.1, ?_⟩
  rcases h.2.2 with h0 | ⟨g, o, e, h1, h2⟩
  · exact .inl h0
  · exact .inr ⟨g, o, e, by omega, h2⟩
theorem OwnO.reads (h : OwnO w lo size A n c xs) : Reads w lo size A n c xs := by
  refine ⟨h.1, h.2.1, fun hn => ?_⟩
  rcases h.2.2 with ⟨_, h0⟩ | ⟨g, o, e, h1, h2, h3, _⟩
  · have := h.2.1; omega
  · exact ⟨g, o, e, h1, h2, h3⟩
theorem OwnO.pos (h : OwnO w lo size A n c xs) (hn : 0 < n) : ∃ g o, A = some ⟨g, o, none⟩ ∧ lo ≤ g ∧ g < w.heap.size := by
  rcases h.2.2 with ⟨_, h0⟩ | ⟨g, o, e, h1, h2, _⟩
  · have := h.2.1; omega
  · exact ⟨g, o, e, h1, h2⟩
/-- 's[i:]'. -/
theorem OwnO.cut {g o : Nat} (h : OwnO w lo size (some ⟨g, o, none⟩) n c xs) (i : Nat) (hi : i ≤ n) : OwnO w lo size (if c = i then some ⟨g, o, none⟩ else some ⟨g, o + i * size, none⟩) (n - i) (c - i) (xs.drop (i * size)) := by
  have hc := h.2.1
  rcases h.2.2 with ⟨e, _⟩ | ⟨g', o', e, h1, h2, h3, h4⟩
  · cases e
  · injection e with e; injection e with e1 e2; subst e1; subst e2
    refine ⟨by rw [List.length_drop, h.1, Nat.sub_mul], by omega, .inr ?_⟩
    by_cases hci : c = i
    · rw [if_pos hci]
      refine ⟨g, o, rfl, h1, h2, fun j u hu => ?_, fun j hj => ?_⟩
      · have : xs.drop (i * size) = [] := List.drop_eq_nil_of_le (by rw [h.1]; exact Nat.mul_le_mul_right _ (by omega))
        rw [this] at hu; cases hu
      · rw [show c - i = 0 by omega] at hj; omega
    · rw [if_neg hci]
      refine ⟨g, o + i * size, rfl, h1, h2, fun j u hu => ?_, fun j hj => ?_⟩
      · rw [Nat.add_assoc]; exact h3 _ u (by rw [List.getElem?_drop] at hu; exact hu)
      · rw [Nat.add_assoc]
        refine h4 _ ?_
        rw [Nat.sub_mul] at hj
        have : i * size ≤ c * size := Nat.mul_le_mul_right _ (by omega)
        omega
end
/-- What an append leaves. -/
def AppO (w : World) (lo size : Nat) (A : Option Addr) (A' : Option Addr) (n' c' : Nat) (xs' : List Value) (w' : World) : Prop :=
  OwnO w' lo size A' n' c' xs' ∧ w.grownBy w' (blkOf A) ∧ ∀ g, blkOf A' = some g → blkOf A = some g ∨ w.heap.size ≤ g
theorem AppO.gr {a w w' : World} {row : Option Nat} {lo size : Nat} {A A' : Option Addr} {n c n' c' : Nat} {xs xs' : List Value} (h : AppO w lo size A A' n' c' xs' w') (hg : a.grownBy w row) (ho : OwnO w lo size A n c xs) (hlo : a.heap.size ≤ lo) : a.grownBy w' row :=
  gr_trans hg h.2.1 (fun _ hb => .inr (Nat.le_trans hlo (ho.lt hb).1))
section
variable {P : Program} (w : World)
theorem run_appO {t e : TypeId} {size bytes : Nat} {z : Value} (E : ElemT P t e size bytes z) (ty : TypeId) (lo : Nat) (A : Option Addr) (n c : Nat) (xs : List Value) (hown : OwnO w lo size A n c xs)
    (ad : Addr) (m c' : Nat) (news : List Value) (hr : Reads w 0 size (some ad) m c' news) (h1 : ∀ u ∈ news, u.oneCell' = true)
    (h63 : n + m ≤ maxLen) (hbytes : (n + m) * bytes ≤ 140737488355328) (hlo : lo ≤ w.heap.size) (hcm : c ≤ maxLen) :
    ∃ A1 c1 w', (Builtin.append_ #[t, t] ty #[.slice A n c, .slice (some ad) m c']).run P w = .ok (.slice A1 (n + m) c1) w' ∧ AppO w lo size A A1 (n + m) c1 (xs ++ news) w' ∧ c1 ≤ maxLen := by
  have E' := E
  obtain ⟨ht, ⟨i, hi, hz, hsize, hby⟩, hzs, hsz⟩ := E
  have hcells : ∀ j u, news[j]? = some u → w.cell? (ad.add j) = some u := by
    intro j u hu
    rcases Nat.eq_zero_or_pos m with h0 | h0
    · subst h0
      have hn : news = [] := List.eq_nil_of_length_eq_zero (by simpa using hr.1)
      subst hn
      simp at hu
    · obtain ⟨g, o, h, _, _, hc⟩ := hr.2.2 h0
      injection h with h
      subst h
      rw [add_mk]
      exact hc j u hu
  rcases hown.2.2 with ⟨rfl, rfl⟩ | ⟨g, o, rfl, hl, hlt, hx, hroom⟩
  · obtain rfl : n = 0 := by have := hown.2.1; omega
    obtain rfl : xs = [] := List.eq_nil_of_length_eq_zero (by simpa using hown.1)
    obtain ⟨A1, c1, w', hrun, ha⟩ := run_app (P := P) w E' ty lo none 0 0 [] (Own.nil _ _ _ _) 0 (some ad) m c' news hr h1 h63 hbytes hlo
    refine ⟨A1, c1, w', hrun, ⟨OwnO.of ha.1, ha.2.1, ha.2.2⟩, ?_⟩
    rcases ha.1.2 with ⟨hv, _⟩ | ⟨g, cap, cur, hv, _, _, _, hm, _⟩
    · injection hv with _ _ e3; omega
    · injection hv with _ _ e3; omega
  · by_cases hr2 : n + m ≤ c
    · have hl2 : news.length = m * i.size := by rw [hr.1, hsize]
      have hin : ∀ j, j < news.length → n * size + j < c * size := by
        intro j hj
        have : (n + m) * size ≤ c * size := Nat.mul_le_mul_right _ hr2
        rw [Nat.add_mul] at this
        rw [hr.1] at hj
        omega
      have hcs : ∀ j, j < news.length → (w.cell? ⟨g, o + n * size + j, none⟩).isSome = true := fun j hj => by rw [Nat.add_assoc]; exact (hroom _ (hin j hj)).1
      have hrun := run_append_room_cells (P := P) w t ty e i ht hi g o n c ad m c' news hl2 hcells h1 hr2 (by rw [hsize]; exact hcs) (by rw [hsize]; exact fun j hj => by rw [Nat.add_assoc]; exact (hroom _ (hin j hj)).2)
      rw [hsize] at hrun
      have hgr : w.grownBy (w.setCells g (o + n * size) news) (some g) := gr_setCells (.inl rfl) _ _ _ (gr_refl _ _)
      refine ⟨some ⟨g, o, none⟩, c, _, hrun, ⟨⟨by rw [List.length_append, hown.1, hr.1, Nat.add_mul], hr2, .inr ⟨g, o, rfl, hl, by have := hgr.size; omega, fun j u hu => ?_, fun j hj => ?_⟩⟩, hgr, fun g' e => .inl e⟩, hcm⟩
      · by_cases hj : j < n * size
        · rw [List.getElem?_append_left (by rw [hown.1]; exact hj)] at hu
          rw [World.cell?_setCells_out g news _ w _ (fun _ _ => .inl (by show o + j < o + n * size; omega))]
          exact hx j u hu
        · rw [List.getElem?_append_right (by rw [hown.1]; omega), hown.1] at hu
          have hj2 := (List.getElem?_eq_some_iff.1 hu).1
          have h5 := World.cell?_setCells_in g news (o + n * size) w hcs (j - n * size) hj2
          rw [show o + n * size + (j - n * size) = o + j by omega] at h5
          rw [h5]
          rw [List.getElem?_eq_getElem hj2] at hu
          exact hu
      · obtain ⟨k1, k2⟩ := hroom j hj
        refine ⟨?_, by rw [World.frozen?_setCells]; exact k2⟩
        by_cases hj : o + n * size ≤ o + j ∧ o + j < o + n * size + news.length
        · have h5 := World.cell?_setCells_in g news (o + n * size) w hcs (j - n * size) (by omega)
          rw [show o + n * size + (j - n * size) = o + j by omega] at h5
          rw [h5]; rfl
        · rw [World.cell?_setCells_out g news _ w _ (fun _ _ => by show o + j < _ ∨ _ ≤ o + j; omega)]
          exact k1
    · obtain ⟨v', w', hrun, ho, hg⟩ := run_append_arg_grows (P := P) w t ty e i z size bytes ht hi hz hsize hby hzs hsz ⟨g, o, none⟩ n c xs hown.1 (fun j u hu => by rw [add_mk]; exact hx j u hu) ad m c' news hr.1 hcells (by omega) h63 hbytes
      rcases ho.2 with ⟨_, h0⟩ | ⟨g', cap, cur, rfl, hb, hh, hnc, hm, hcs⟩
      · omega
      · refine ⟨some ⟨g', 0, none⟩, cap, w', hrun, ⟨(OwnO.of (e := e) (show Own w' w.heap.size e size (some ⟨g', 0, none⟩) (n + m) cap (xs ++ news) from ho)).lower hlo, gr_none (gr_refl _ _) hg, fun g2 e => ?_⟩, hm⟩
        injection e with e; exact .inr (by rw [← e]; exact hb)

/-- 'append(s, x)' in a plain region. -/
theorem wpl_appO {ops : Array Oper} {rest : List Oper} {o : Oper} {a : Act} {Q : Exit → Act → World → Prop} (hgd : o.guard = none) (s x : Operand) {t e : TypeId} {size bytes : Nat} {z : Value} (E : ElemT P t e size bytes z)
    (ho : o.op = .call { callee := .builtin .append, args := #[s, x], argTypes := #[t, t] })
    (lo : Nat) (A : Option Addr) (n c : Nat) (xs : List Value) (hs : a.eval s = .slice A n c) (hown : OwnO w lo size A n c xs)
    (ad : Addr) (m c' : Nat) (news : List Value) (hx : a.eval x = .slice (some ad) m c') (hr : Reads w 0 size (some ad) m c' news) (h1 : ∀ u ∈ news, u.oneCell' = true)
    (h63 : n + m ≤ maxLen) (hbytes : (n + m) * bytes ≤ 140737488355328) (hlo : lo ≤ w.heap.size) (hcm : c ≤ maxLen)
    (h : ∀ A1 c1 w', AppO w lo size A A1 (n + m) c1 (xs ++ news) w' → c1 ≤ maxLen → wpList P ops Q rest (a.put o.dst (.slice A1 (n + m) c1)) w') : wpList P ops Q (o :: rest) a w := by
  refine wpList_plain hgd fun K hK => ?_
  obtain ⟨A1, c1, w', hrun, h2, h3⟩ := run_appO (P := P) w E o.type lo A n c xs hown ad m c' news hr h1 h63 hbytes hlo hcm
  unfold Oper.wp execOp
  simp only [ho, resolve, invoke, builtin, Sem.run_bind, Sem.run_pure, Result.andThen_ok, List.map_toArray, List.map_cons, List.map_nil, hs, hx, hrun]
  exact hK _ _ (h A1 c1 w' h2 h3)
end
/-- 'append(s, x...)' in a plain region, x perhaps nil. -/
theorem run_appO_nil {P : Program} (w : World) {t ty e : TypeId} {i : TypeInfo} {size : Nat} (ht : P.underlying t = some (.slice e)) (hi : P.info? e = some i) {lo : Nat} {A : Option Addr} {n c c' : Nat} {xs : List Value} (hown : OwnO w lo size A n c xs) :
    (Builtin.append_ #[t, t] ty #[.slice A n c, .slice none 0 c']).run P w = .ok (.slice A n c) w := by
  have hnc := hown.2.1
  rcases hown.2.2 with ⟨rfl, rfl⟩ | ⟨g, o, rfl, _⟩
  · obtain rfl : n = 0 := by omega
    simp [Builtin.append_, run_underlying ht, sizeOf, typeInfo, hi, Builtin.lenOf, Builtin.firstCells]
  · simp [Builtin.append_, run_underlying ht, sizeOf, typeInfo, hi, Builtin.lenOf, Builtin.firstCells, hnc, storeCells]
theorem wpl_appQ {P : Program} {w : World} {ops : Array Oper} {rest : List Oper} {o : Oper} {a : Act} {Q : Exit → Act → World → Prop} (hgd : o.guard = none) (s x : Operand) {t e : TypeId} {size bytes : Nat} {z : Value} (E : ElemT P t e size bytes z)
    (ho : o.op = .call { callee := .builtin .append, args := #[s, x], argTypes := #[t, t] })
    (lo : Nat) (A : Option Addr) (n c : Nat) (xs : List Value) (hs : a.eval s = .slice A n c) (hown : OwnO w lo size A n c xs)
    (A' : Option Addr) (m c' : Nat) (news : List Value) (hx : a.eval x = .slice A' m c') (hr : Reads w 0 size A' m c' news) (h1 : ∀ u ∈ news, u.oneCell' = true)
    (h63 : n + m ≤ maxLen) (hbytes : (n + m) * bytes ≤ 140737488355328) (hlo : lo ≤ w.heap.size) (hcm : c ≤ maxLen)
    (h : ∀ A1 c1 w', AppO w lo size A A1 (n + m) c1 (xs ++ news) w' → c1 ≤ maxLen → wpList P ops Q rest (a.put o.dst (.slice A1 (n + m) c1)) w') : wpList P ops Q (o :: rest) a w := by
  rcases A' with _ | ad
  · have hm : m = 0 := by
      rcases Nat.eq_zero_or_pos m with h0 | h0
      · exact h0
      · obtain ⟨g, o, h, _⟩ := hr.2.2 h0
        cases h
    subst hm
    have hn : news = [] := List.eq_nil_of_length_eq_zero (by simpa using hr.1)
    subst hn
    refine wpList_plain hgd fun K hK => ?_
    obtain ⟨ht, ⟨i, hi, _⟩, _⟩ := E
    have hrun := run_appO_nil (P := P) w (t := t) (ty := o.type) ht hi (c' := c') hown
    unfold Oper.wp execOp
    simp only [ho, resolve, invoke, builtin, Sem.run_bind, Sem.run_pure, Result.andThen_ok, List.map_toArray, List.map_cons, List.map_nil, hs, hx, hrun]
    exact hK _ _ (h A c w ⟨by simpa using hown, gr_refl _ _, fun g e => .inl e⟩ hcm)
  · exact wpl_appO w hgd s x E ho lo A n c xs hs hown ad m c' news hx hr h1 h63 hbytes hlo hcm h
/-- A queue of records. -/
def OwnQ {α : Type} (row : α → List Value) (k : Nat) (w : World) (lo : Nat) (A : Option Addr) (n c : Nat) (l : List α) : Prop := OwnO w lo k A n c (l.flatMap row) ∧ l.length = n ∧ c ≤ maxLen
section
variable {α : Type} {row : α → List Value} {k : Nat} {w w' : World} {lo lo' n c : Nat} {A : Option Addr} {l : List α}
theorem OwnQ.recs (h : OwnQ row k w lo A n c l) : Recs row k w lo A n c l := ⟨h.1.reads, h.2.1⟩
theorem OwnQ.kept (h : OwnQ row k w lo A n c l) {r : Option Nat} (hg : w.grownBy w' r) (hne : ∀ g, r = some g → blkOf A ≠ some g) : OwnQ row k w' lo A n c l := ⟨h.1.kept hg hne, h.2⟩
theorem OwnQ.low (h : OwnQ row k w lo A n c l) {r : Option Nat} (hg : w.grownBy w' r) (hr : ∀ g, r = some g → g < lo) : OwnQ row k w' lo A n c l := ⟨h.1.low hg hr, h.2⟩
theorem OwnQ.lower (h : OwnQ row k w lo A n c l) (hl : lo' ≤ lo) : OwnQ row k w lo' A n c l := ⟨h.1.lower hl, h.2⟩
theorem OwnQ.lt (h : OwnQ row k w lo A n c l) {g : Nat} (hg : blkOf A = some g) : lo ≤ g ∧ g < w.heap.size := h.1.lt hg
theorem OwnQ.cut1 {g o : Nat} {a : α} (hrow : ∀ a, (row a).length = k) (h : OwnQ row k w lo (some ⟨g, o, none⟩) n c (a :: l)) : OwnQ row k w lo (if c = 1 then some ⟨g, o, none⟩ else some ⟨g, o + k, none⟩) (n - 1) (c - 1) l := by
  have hl := h.2.1
  rw [List.length_cons] at hl
  have h1 := h.1.cut 1 (by omega)
  rw [Nat.one_mul, List.flatMap_cons, List.drop_append_of_le_length (by rw [hrow]; exact Nat.le_refl _), List.drop_of_length_le (by rw [hrow]; exact Nat.le_refl _), List.nil_append] at h1
  exact ⟨h1, by omega, by have := h.2.2; omega⟩
theorem OwnQ.app {a : α} (h : OwnQ row k w lo A n c l) {A1 : Option Addr} {c1 n1 : Nat} (hn : n1 = n + 1) (h1 : AppO w lo k A A1 n1 c1 (l.flatMap row ++ row a) w') (hc : c1 ≤ maxLen) : OwnQ row k w' lo A1 n1 c1 (l ++ [a]) := by
  subst hn
  refine ⟨?_, by simp [h.2.1], hc⟩
  rw [List.flatMap_append]
  simpa using h1.1
theorem OwnQ.apps {m : List α} (h : OwnQ row k w lo A n c l) {A1 : Option Addr} {c1 n1 : Nat} (hn : n1 = n + m.length) (h1 : AppO w lo k A A1 n1 c1 (l.flatMap row ++ m.flatMap row) w') (hc : c1 ≤ maxLen) : OwnQ row k w' lo A1 n1 c1 (l ++ m) := by
  subst hn
  refine ⟨?_, by rw [List.length_append, h.2.1], hc⟩
  rw [List.flatMap_append]
  exact h1.1
end
end
end Go.Proofs.YtpjheibkacbbcaaGreatDoor
/- Contract of errs: the first error of some. Conditions: none. -/
namespace Go.Proofs.YtpjheibkacbbcaaGreatDoor
section
open Go.RowKit

/-- The first of some errors. -/
def firstE (l : List Int) : Int := (l.find? (fun z => z != 0)).getD 0
theorem firstE_cons (a : Int) (l : List Int) : firstE (a :: l) = if a = 0 then firstE l else a := by
  unfold firstE
  by_cases h : a = 0
  · subst h; rfl
  · rw [if_neg h, List.find?_cons_of_pos (by simpa using h)]; rfl
theorem firstE_nil : firstE [] = 0 := rfl
set_option maxHeartbeats 2000000 in
theorem errs_run (lo : Nat) (A : Option Addr) (n c : Nat) (l : List Int) (w : World) (h : Ints .i64 w lo A n c l) (hn : n ≤ 1000000000000) :
    Calls Tryz.prog 36 #[.slice A n c] w (Same (.int .i64 (firstE l)) w) := by
  have H := Lib.hid h; clear h
  go_enter Tryz.func36, Tryz.ntmps36
  go_wp2_with fail
  go_loop [4, 7] (fun _ t => ∃ i : Nat, i ≤ n ∧ t = .int .i64 i ∧ firstE l = firstE (l.drop i)) (fun _ t => n - (intOf t).toNat)
  case atStart => exact ⟨0, Nat.zero_le _, rfl, rfl⟩
  case round =>
    obtain ⟨i, hi, rfl, ha⟩ := hrel
    have HA := Lib.hid ha; clear ha
    by_cases hlt : i < n
    · obtain ⟨g, o, z, rfl, _, _, hz, hc⟩ := H.out.get hlt
      have HZ := Lib.hid (show firstE l = if z = 0 then firstE (l.drop (i + 1)) else z by
        rw [HA.out, ← firstE_cons]
        obtain ⟨hl, hz2⟩ := List.getElem?_eq_some_iff.1 hz
        rw [List.drop_eq_getElem_cons hl, hz2])
      clear hz
      by_cases hp : z = 0
      · subst hp
        go_wp2_with fail
        go_round
        case rel => exact ⟨i + 1, by omega, by go_num, by rw [HZ.out]; rfl⟩
        case measure => simp [intOf]; omega
      · have hpb : (z != 0) = true := by simpa using hp
        have HP := Lib.hid (show firstE l = z by rw [HZ.out, if_neg hp])
        go_wp2_with fail
        go_ret
        exact ⟨by rw [HP.out]; rfl, rfl⟩
    · obtain rfl : i = n := by omega
      go_wp2_with fail
      go_ret
      exact ⟨by rw [HA.out, List.drop_eq_nil_of_le (by rw [H.out.len]; exact Nat.le_refl _)]; rfl, rfl⟩
end
end Go.Proofs.YtpjheibkacbbcaaGreatDoor

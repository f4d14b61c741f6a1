/- Laws on slices that a call makes itself: append of one element, of a slice; make; stores. Over any program. Conditions: none. -/
import Derived.Test.YtelpakmiciilgaaGreatDoorBun1
import Derived.Maps.AppendAt
import Derived.RegionTactic
import Derived.WalkKit
import Derived.Lib.AppendZeros
import Derived.Lib.AppendZerosOnto
namespace Go.Proofs.YtelpakmiciilgaaGreatDoor
open Go.RowKit

/-- Slice type t has elements of type e, of so many cells and bytes, with the zero z. -/
structure ElemT (P : Program) (t e : TypeId) (size bytes : Nat) (z : Value) : Prop where
  ht : P.underlying t = some (.slice e)
  hi : ∃ i, P.info? e = some i ∧ i.zero = some z ∧ i.size = size ∧ i.bytes = bytes
  hzs : z.cells.size = size
  hsz : 0 < size

theorem elemT_of {P : Program} {t e : TypeId} {size bytes : Nat} {z : Value} (ht : P.underlying t = some (.slice e)) (h : (P.info? e).map (fun i => (i.zero, i.size, i.bytes)) = some (some z, size, bytes)) (hzs : z.cells.size = size) (hsz : 0 < size) : ElemT P t e size bytes z := by
  obtain ⟨i, h1, h2, h3, h4⟩ := info_parts h
  exact ⟨ht, ⟨i, h1, h2, h3, h4⟩, hzs, hsz⟩

/-- The block of a slice's address. -/
def blkOf (A : Option Addr) : Option Nat := A.map (·.block)

/-- A slice of the call's own: nil, or at the head of an array from block 'lo' on, whose first cells are xs. -/
def Own (w : World) (lo : Nat) (e : TypeId) (size : Nat) (A : Option Addr) (n c : Nat) (xs : List Value) : Prop := w.ownsRow lo e size (.slice A n c) n xs

section
variable {w w' : World} {lo size n c : Nat} {e : TypeId} {A : Option Addr} {xs : List Value}
theorem ownBlock_slice (A : Option Addr) (n c : Nat) : (Value.slice A n c).ownBlock = blkOf A := by cases A <;> rfl
theorem Own.nil (w : World) (lo : Nat) (e : TypeId) (size : Nat) : Own w lo e size none 0 0 [] := World.ownsRow_nil w lo e size
theorem Own.lit (w : World) (e : TypeId) (size : Nat) (cs : List Value) (n : Nat) (hm : n ≤ maxLen) (hs : cs.length = n * size) : Own (w.alloc (.cells cs.toArray e)) w.heap.size e size (some ⟨w.heap.size, 0, none⟩) n n cs := by
  have h := World.ownsRow_lit (base := w.heap.size) (e := e) (size := size) w cs.toArray n (Nat.le_refl _) hm (by simpa using hs)
  simpa [Own] using h
theorem Own.len (h : Own w lo e size A n c xs) : xs.length = n * size := h.1
theorem Own.cap (h : Own w lo e size A n c xs) : n ≤ c := by
  rcases h.2 with ⟨hv, rfl⟩ | ⟨g, cap, cur, hv, _, _, hn, _⟩
  · exact Nat.zero_le _
  · injection hv with _ _ h3; omega
theorem Own.lt (h : Own w lo e size A n c xs) {g : Nat} (hg : blkOf A = some g) : lo ≤ g ∧ g < w.heap.size := World.ownsRow.lt h g (by rw [ownBlock_slice]; exact hg)
theorem Own.kept (h : Own w lo e size A n c xs) {row : Option Nat} (hg : w.grownBy w' row) (hne : ∀ g, row = some g → blkOf A ≠ some g) : Own w' lo e size A n c xs := by
  refine World.ownsRow.kept h hg ?_
  rw [ownBlock_slice]
  cases hb : blkOf A with
  | none => exact .inl rfl
  | some g => exact .inr (fun e => hne g e.symm hb)
theorem Own.below (h : Own w lo e size A n c xs) (hb : Below w.heap.size w w') : Own w' lo e size A n c xs := h.kept (gr_below hb none) (fun _ e => by cases e)
theorem Own.alloc (h : Own w lo e size A n c xs) (o : Obj) : Own (w.alloc o) lo e size A n c xs := World.ownsRow.alloc h o
theorem Own.drew (h : Own w lo e size A n c xs) : Own w.drew lo e size A n c xs := h
theorem Own.drewN (h : Own w lo e size A n c xs) (k : Nat) : Own (w.drewN k) lo e size A n c xs := h
theorem Own.lower {lo' : Nat} (h : Own w lo e size A n c xs) (hl : lo' ≤ lo) : Own w lo' e size A n c xs := by
  refine ⟨h.1, ?_⟩
  rcases h.2 with h2 | ⟨g, cap, cur, hv, hg, r⟩
  · exact .inl h2
  · exact .inr ⟨g, cap, cur, hv, Nat.le_trans hl hg, r⟩
theorem Own.far (h : Own w lo e size A n c xs) {p : Addr} (hp : blkOf A ≠ some p.block) (u : Value) : Own (w.setCell p u) lo e size A n c xs :=
  h.kept (row := some p.block) (gr_setCell (gr_refl _ _) (.inl rfl) u) (fun g hg => by injection hg with hg; subst hg; exact hp)
theorem Own.reads (h : Own w lo e size A n c xs) : Reads w lo size A n c xs := Reads.of_own h h.cap
theorem Own.blk_ne (h : Own w lo e size A n c xs) {g : Nat} {t : TypeId} {cs : Array Value} (hg : Blk w g t cs) (hne : e ≠ t) : blkOf A ≠ some g := by
  rcases h.2 with ⟨hv, _⟩ | ⟨g', cap, cur, hv, _, hh, _⟩
  · injection hv with h1; subst h1; simp [blkOf]
  · injection hv with h1; subst h1
    intro he
    have : g' = g := by simpa [blkOf] using he
    subst this
    unfold Blk at hg
    rw [hh] at hg
    injection hg with hg
    injection hg with _ ht
    exact hne ht
theorem Own.ne {lo' size' n' c' : Nat} {e' : TypeId} {A' : Option Addr} {xs' : List Value} (h : Own w lo e size A n c xs) (h' : Own w lo' e' size' A' n' c' xs') (hne : e ≠ e') {g : Nat} (hg : blkOf A = some g) : blkOf A' ≠ some g := by
  rcases h'.2 with ⟨hv, _⟩ | ⟨g', cap, cur, hv, _, hh, _⟩
  · injection hv with h1; subst h1; simp [blkOf]
  · injection hv with h1; subst h1
    intro he
    have : g' = g := by simpa [blkOf] using he
    subst this
    exact h.blk_ne (cs := cur) hh hne hg
theorem Own.prefix_ (h : Own w lo e size A n c xs) (i : Nat) (hi : i ≤ n) : Own w lo e size A i c (xs.take (i * size)) := by
  have hle : i * size ≤ n * size := Nat.mul_le_mul_right _ hi
  refine ⟨by rw [List.length_take, h.1]; omega, ?_⟩
  rcases h.2 with ⟨hv, h0⟩ | ⟨g, cap, cur, hv, hg, hh, hnc, hcm, hsz, htk⟩
  · injection hv with e1 e2 e3; subst e1; subst e3
    have : i = 0 := by omega
    subst this
    exact .inl ⟨rfl, rfl⟩
  · injection hv with e1 e2 e3; subst e1; subst e3
    refine .inr ⟨g, c, cur, rfl, hg, hh, by omega, hcm, hsz, ?_⟩
    rw [← htk, List.take_take, Nat.min_eq_left hle]
/-- The growth of a slice of the call's own, as seen from the call's start. -/
theorem gr_own {a b c' : World} {row : Option Nat} (h : a.grownBy b row) (ho : Own b lo e size A n c xs) (hlo : a.heap.size ≤ lo) (hg : b.grownBy c' (blkOf A)) : a.grownBy c' row :=
  gr_trans h hg (fun _ hb => .inr (Nat.le_trans hlo (ho.lt hb).1))
theorem Own.cell {g : Nat} (h : Own w lo e size (some ⟨g, 0, none⟩) n c xs) {j : Nat} (hj : j < n * size) : w.cell? ⟨g, j, none⟩ = xs[j]? := World.ownsRow.cellAt h j hj
theorem Own.frozen {g : Nat} (h : Own w lo e size (some ⟨g, 0, none⟩) n c xs) (j : Nat) : w.frozen? ⟨g, j, none⟩ = false := World.ownsRow.frozenAt h j
theorem Own.pos (h : Own w lo e size A n c xs) (hn : 0 < n) : ∃ g, A = some ⟨g, 0, none⟩ ∧ lo ≤ g ∧ g < w.heap.size := by
  rcases h.2 with ⟨_, h0⟩ | ⟨g, cap, cur, hv, hg, hh, _⟩
  · omega
  · injection hv with h1; subst h1
    exact ⟨g, rfl, hg, Blk.lt (t := e) (cs := cur) hh⟩
theorem Own.stored {g : Nat} (h : Own w lo e size (some ⟨g, 0, none⟩) n c xs) (j : Nat) (u : Value) : Own (w.setCell ⟨g, j, none⟩ u) lo e size (some ⟨g, 0, none⟩) n c (xs.set j u) := (World.ownsRow.stored h j u).1
end

/-- What an append leaves: the slice, owned; only its own array has been written. -/
def Appended (w : World) (lo : Nat) (e : TypeId) (size : Nat) (A : Option Addr) (A' : Option Addr) (n' c' : Nat) (xs' : List Value) (w' : World) : Prop :=
  Own w' lo e size A' n' c' xs' ∧ w.grownBy w' (blkOf A) ∧ ∀ g, blkOf A' = some g → blkOf A = some g ∨ w.heap.size ≤ g
theorem Appended.refl {w : World} {lo : Nat} {e : TypeId} {size : Nat} {A : Option Addr} {n c : Nat} {xs : List Value} (h : Own w lo e size A n c xs) : Appended w lo e size A A n c xs w :=
  ⟨h, gr_refl _ _, fun _ e => .inl e⟩
theorem Appended.then {w wr wx w1 : World} {lo : Nat} {e : TypeId} {size : Nat} {A A' A1 : Option Addr} {n' c' n1 c1 : Nat} {xs' xs1 : List Value} (h : Appended w lo e size A A' n' c' xs' wr) (hg : wr.grownBy wx none)
    (h1 : Appended wx lo e size A' A1 n1 c1 xs1 w1) : Appended w lo e size A A1 n1 c1 xs1 w1 := by
  obtain ⟨_, h2, h3⟩ := h
  obtain ⟨k1, k2, k3⟩ := h1
  refine ⟨k1, gr_trans (gr_none h2 hg) k2 (fun g e => (h3 g e).elim (fun q => .inl q.symm) .inr), fun g e => ?_⟩
  rcases k3 g e with k4 | k4
  · exact h3 g k4
  · exact .inr (by have := h2.size; have := hg.size; omega)
/-- An append as seen from a call that made the slice itself. -/
theorem Appended.gr {a w w' : World} {row : Option Nat} {lo : Nat} {e : TypeId} {size : Nat} {A A' : Option Addr} {n c n' c' : Nat} {xs xs' : List Value} (h : Appended w lo e size A A' n' c' xs' w') (hg : a.grownBy w row) (ho : Own w lo e size A n c xs) (hlo : a.heap.size ≤ lo) : a.grownBy w' row :=
  gr_own hg ho hlo h.2.1

section
variable {P : Program} (w : World)

theorem run_append_of_nil (base : Nat) (t ty e : TypeId) (i : TypeInfo) (size : Nat) (ht : P.underlying t = some (.slice e)) (hi : P.info? e = some i)
    (v : Value) (n : Nat) (xs : List Value) (hown : w.ownsRow base e size v n xs) (c : Nat) : (Builtin.append_ #[t, t] ty #[v, .slice none 0 c]).run P w = .ok v w := by
  rcases hown.2 with ⟨rfl, rfl⟩ | ⟨g, cap, cur, rfl, _, _, hnc, _⟩
  · simp [Builtin.append_, run_underlying ht, sizeOf, typeInfo, hi, Builtin.lenOf, Builtin.firstCells]
  · simp [Builtin.append_, run_underlying ht, sizeOf, typeInfo, hi, Builtin.lenOf, Builtin.firstCells, hnc, storeCells]

theorem run_app {t e : TypeId} {size bytes : Nat} {z : Value} (E : ElemT P t e size bytes z) (ty : TypeId) (lo : Nat) (A : Option Addr) (n c : Nat) (xs : List Value) (hown : Own w lo e size A n c xs)
    (lo' : Nat) (A' : Option Addr) (m c' : Nat) (news : List Value) (hr : Reads w lo' size A' m c' news) (h1 : ∀ u ∈ news, u.oneCell' = true)
    (h63 : n + m ≤ maxLen) (hbytes : (n + m) * bytes ≤ 140737488355328) (hlo : lo ≤ w.heap.size) :
    ∃ A1 c1 w', (Builtin.append_ #[t, t] ty #[.slice A n c, .slice A' m c']).run P w = .ok (.slice A1 (n + m) c1) w' ∧ Appended w lo e size A A1 (n + m) c1 (xs ++ news) w' := by
  obtain ⟨ht, ⟨i, hi, hz, hsize, hby⟩, hzs, hsz⟩ := E
  have key : ∃ v' w', (Builtin.append_ #[t, t] ty #[.slice A n c, .slice A' m c']).run P w = .ok v' w' ∧ w'.ownsRow lo e size v' (n + m) (xs ++ news) ∧ w.grownBy w' (blkOf A) ∧
      (v'.ownBlock = blkOf A ∨ v'.ownBlock = some w.heap.size) := by
    rcases A' with _ | ad
    · have hm : m = 0 := by
        rcases Nat.eq_zero_or_pos m with h0 | h0
        · exact h0
        · obtain ⟨g, o, h, _⟩ := hr.2.2 h0
          cases h
      subst hm
      have hn : news = [] := List.eq_nil_of_length_eq_zero (by simpa using hr.1)
      subst hn
      exact ⟨_, w, run_append_of_nil w lo t ty e i size ht hi _ n xs hown c', by simpa [Own] using hown, World.grownBy.refl w _, .inl (ownBlock_slice _ _ _)⟩
    · have hcells : ∀ j u, news[j]? = some u → w.cell? (ad.add j) = some u := by
        intro j u hu
        rcases Nat.eq_zero_or_pos m with h0 | h0
        · subst h0
          have hn : news = [] := List.eq_nil_of_length_eq_zero (by simpa using hr.1)
          subst hn
          simp at hu
        · obtain ⟨g, o, h, _, _, hc⟩ := hr.2.2 h0
          injection h with h
          subst h
          rw [add_mk]
          exact hc j u hu
      obtain ⟨v', w', hrun, h2, h3, _, h5⟩ := run_append_own_at (P := P) w lo t ty e i z size bytes ht hi hz hsize hby hzs hsz _ n xs hown ad m c' news hr.1 hcells h1 h63 hbytes hlo
      rw [ownBlock_slice] at h3 h5
      exact ⟨v', w', hrun, h2, h3, h5⟩
  obtain ⟨v', w', hrun, h2, h3, h4⟩ := key
  rcases h2.2 with ⟨rfl, h0⟩ | ⟨g, cap, cur, rfl, _⟩
  · rw [h0] at h2
    refine ⟨none, 0, w', by rw [hrun, h0], ?_, h3, fun g e => by cases e⟩
    rw [h0]; exact h2
  · refine ⟨some ⟨g, 0, none⟩, cap, w', hrun, h2, h3, fun g' e => ?_⟩
    rw [ownBlock_slice] at h4
    rcases h4 with h4 | h4
    · exact .inl (h4 ▸ e)
    · rw [h4] at e; injection e with e; exact .inr (by omega)

theorem wp_app {o : Oper} {a : Act} {K : Act → World → Prop} {Q : Exit → Act → World → Prop} (s x : Operand) {t e : TypeId} {size bytes : Nat} {z : Value} (E : ElemT P t e size bytes z)
    (ho : o.op = .call { callee := .builtin .append, args := #[s, x], argTypes := #[t, t] })
    (lo : Nat) (A : Option Addr) (n c : Nat) (xs : List Value) (hs : a.eval s = .slice A n c) (hown : Own w lo e size A n c xs)
    (lo' : Nat) (A' : Option Addr) (m c' : Nat) (news : List Value) (hx : a.eval x = .slice A' m c') (hr : Reads w lo' size A' m c' news) (h1 : ∀ u ∈ news, u.oneCell' = true)
    (h63 : n + m ≤ maxLen) (hbytes : (n + m) * bytes ≤ 140737488355328) (hlo : lo ≤ w.heap.size)
    (h : ∀ A1 c1 w', Appended w lo e size A A1 (n + m) c1 (xs ++ news) w' → K (a.put o.dst (.slice A1 (n + m) c1)) w') : o.wp P a w K Q := by
  obtain ⟨A1, c1, w', hrun, h2⟩ := run_app (P := P) w E o.type lo A n c xs hown lo' A' m c' news hr h1 h63 hbytes hlo
  unfold Oper.wp execOp
  simp only [ho, resolve, invoke, builtin, Sem.run_bind, Sem.run_pure, Result.andThen_ok, List.map_toArray, List.map_cons, List.map_nil, hs, hx, hrun]
  exact h A1 c1 w' h2

/-- 'append(s, x...)' in a plain region. -/
theorem wpl_app {ops : Array Oper} {rest : List Oper} {o : Oper} {a : Act} {Q : Exit → Act → World → Prop} (hgd : o.guard = none) (s x : Operand) {t e : TypeId} {size bytes : Nat} {z : Value} (E : ElemT P t e size bytes z)
    (ho : o.op = .call { callee := .builtin .append, args := #[s, x], argTypes := #[t, t] })
    (lo : Nat) (A : Option Addr) (n c : Nat) (xs : List Value) (hs : a.eval s = .slice A n c) (hown : Own w lo e size A n c xs)
    (lo' : Nat) (A' : Option Addr) (m c' : Nat) (news : List Value) (hx : a.eval x = .slice A' m c') (hr : Reads w lo' size A' m c' news) (h1 : ∀ u ∈ news, u.oneCell' = true)
    (h63 : n + m ≤ maxLen) (hbytes : (n + m) * bytes ≤ 140737488355328) (hlo : lo ≤ w.heap.size)
    (h : ∀ A1 c1 w', Appended w lo e size A A1 (n + m) c1 (xs ++ news) w' → wpList P ops Q rest (a.put o.dst (.slice A1 (n + m) c1)) w') : wpList P ops Q (o :: rest) a w :=
  wpList_plain hgd fun _ hK => wp_app w s x E ho lo A n c xs hs hown lo' A' m c' news hx hr h1 h63 hbytes hlo fun A1 c1 w' h2 => hK _ _ (h A1 c1 w' h2)

/-- 'append(s, x...)' in a region that draws its order. -/
theorem step_app {ops : Array Oper} {o : Oper} {a : Act} {K : Act → World → Prop} {Q : Exit → Act → World → Prop} {E' : Prop} (hgd : o.guard = none) (s x : Operand) {t e : TypeId} {size bytes : Nat} {z : Value} (E : ElemT P t e size bytes z)
    (ho : o.op = .call { callee := .builtin .append, args := #[s, x], argTypes := #[t, t] })
    (lo : Nat) (A : Option Addr) (n c : Nat) (xs : List Value) (hs : a.eval s = .slice A n c) (hown : Own w lo e size A n c xs)
    (lo' : Nat) (A' : Option Addr) (m c' : Nat) (news : List Value) (hx : a.eval x = .slice A' m c') (hr : Reads w lo' size A' m c' news) (h1 : ∀ u ∈ news, u.oneCell' = true)
    (h63 : n + m ≤ maxLen) (hbytes : (n + m) * bytes ≤ 140737488355328) (hlo : lo ≤ w.heap.size)
    (h : ∀ A1 c1 w', Appended w lo e size A A1 (n + m) c1 (xs ++ news) w' → K (a.put o.dst (.slice A1 (n + m) c1)) w') :
    if Region.wanted o (yielded ops a.tmps) = true then Oper.wp P o a w K Q else E' := by
  have hw : Region.wanted o (yielded ops a.tmps) = true := by simp [Region.wanted, hgd]
  rw [if_pos hw]
  exact wp_app w s x E ho lo A n c xs hs hown lo' A' m c' news hx hr h1 h63 hbytes hlo h
end

theorem one_ints (k : IntKind) (l : List Int) : ∀ u ∈ l.map (Value.int k), u.oneCell' = true := by
  intro u hu
  obtain ⟨x, _, rfl⟩ := List.mem_map.1 hu
  rfl
/-- The one new element of 'append(s, v)' lies in a block of its own. -/
theorem Reads.one (w : World) (t : TypeId) (cs : List Value) (size : Nat) (h : cs.length = size) : Reads (w.alloc (.cells cs.toArray t)) w.heap.size size (some ⟨w.heap.size, 0, none⟩) 1 1 cs :=
  ⟨by simp [h], Nat.le_refl _, fun _ => ⟨_, 0, rfl, Nat.le_refl _, by simp, fun j u hu => by
    rw [Nat.zero_add, (Blk.new w t cs.toArray).cell]; simpa using hu⟩⟩
theorem Reads.blk {w : World} {g : Nat} {t : TypeId} {cs : List Value} (hb : Blk w g t cs.toArray) (size n : Nat) (h : cs.length = n * size) : Reads w g size (some ⟨g, 0, none⟩) n n cs :=
  ⟨h, Nat.le_refl _, fun _ => ⟨g, 0, rfl, Nat.le_refl _, hb.lt, fun j u hu => by
    rw [Nat.zero_add, hb.cell]; simpa using hu⟩⟩
/-- 'make([]T, n)' of one-cell elements. -/
theorem run_make1 {P : Program} {t e : TypeId} {bytes : Nat} {z : Value} (E : ElemT P t e 1 bytes z) (n : Nat) (hz : z.cells = #[z]) (hb : bytes * n ≤ 281474976710656) (h63 : n ≤ 9223372036854775807) (w : World) :
    (Instr.makeSlice t (.int .i64 (n : Int)) (.int .i64 (n : Int))).run P w = .ok (.slice (some ⟨w.heap.size, 0, none⟩) n n) (w.alloc (.cells (Array.replicate n z) e)) := by
  obtain ⟨ht, ⟨i, hi, hz', hs, hby⟩, _, _⟩ := E
  have hb' : (i.bytes : Int) * (n : Int) ≤ 281474976710656 := by
    have h : ((i.bytes * n : Nat) : Int) ≤ 281474976710656 := by rw [hby]; omega
    rwa [Int.natCast_mul] at h
  have hr := run_make (P := P) w t e i z ht hi hz' .i64 .i64 n n (by omega) (by omega) hb' (by omega)
  simp only [Int.toNat_natCast] at hr
  have hc : madeCells z.cells (n * i.size) = Array.replicate n z := by
    rw [hs, Nat.mul_one, hz]
    apply Array.ext'
    rw [toList_madeCells_one, Array.toList_replicate]
  rw [hc] at hr
  exact hr
theorem Own.made (w : World) (e : TypeId) (z : Value) (n : Nat) (h : n ≤ maxLen) : Own (w.alloc (.cells (Array.replicate n z) e)) w.heap.size e 1 (some ⟨w.heap.size, 0, none⟩) n n (List.replicate n z) := by
  have h := Own.lit w e 1 (List.replicate n z) n h (by simp)
  simpa using h
theorem Own.made' (w : World) (e : TypeId) (z : Value) (n g : Nat) (h : n ≤ maxLen) (hg : w.heap.size = g) : Own (w.alloc (.cells (Array.replicate n z) e)) g e 1 (some ⟨g, 0, none⟩) n n (List.replicate n z) := by
  subst hg; exact Own.made w e z n h
theorem size_setCell (w : World) (p : Addr) (v : Value) : (w.setCell p v).heap.size = w.heap.size := by simp [World.setCell]
theorem zeroCells_one (z : Value) (n : Nat) : Builtin.zeroCells #[z] n = Array.replicate n z := by
  apply Array.ext'
  simp [Builtin.zeroCells, Nat.mod_one, List.map_const']

/-- 'append(s, make([]T, m)...)' onto a slice of the call's own, of one-cell elements. -/
theorem run_app_zeros {P : Program} {t tn e : TypeId} {bytes : Nat} {z : Value} (w : World) (E : ElemT P t e 1 bytes z) (hzc : z.cells = #[z]) (hz1 : z.oneCell' = true) {kn : IntKind} (htn : P.underlying tn = some (.int kn)) (ty : TypeId) (kq : IntKind) (lo : Nat) (A : Option Addr) (n c : Nat) (xs : List Value) (hown : Own w lo e 1 A n c xs)
    (m : Nat) (hm : 0 < m) (h63 : n + m ≤ maxLen) (hbytes : (n + m) * bytes ≤ 140737488355328) (hlo : lo ≤ w.heap.size) :
    ∃ A1 c1 w', (Builtin.append_ #[t, tn] ty #[.slice A n c, .int kq (m : Int)]).run P w = .ok (.slice A1 (n + m) c1) w' ∧ Appended w lo e 1 A A1 (n + m) c1 (xs ++ List.replicate m z) w' := by
  obtain ⟨ht, ⟨i, hi, hz, hsize, hby⟩, hzs, _⟩ := E
  subst hby
  have hs1 : 0 < i.size := by omega
  have hm63 : n + m ≤ 9223372036854775807 := by simp only [maxLen] at h63; omega
  have hmb : m * i.bytes ≤ 281474976710656 := by
    have : m * i.bytes ≤ (n + m) * i.bytes := Nat.mul_le_mul_right _ (by omega)
    omega
  have grown : ∀ (old : Nat), old < n + m → Own (w.drew.alloc (.cells (xs.toArray ++ Builtin.zeroCells z.cells m ++ Builtin.zeroCells z.cells (grownCap w (n + m) old e - (n + m))) e)) lo e 1 (some ⟨w.heap.size, 0, none⟩) (n + m) (grownCap w (n + m) old e) (xs ++ List.replicate m z) := by
    intro old ho
    have hge := grownCap_ge w (n + m) old e
    have hcm : grownCap w (n + m) old e ≤ maxLen := grownCap_le_maxLen w (n + m) old e h63
    have hlen := hown.1
    refine ⟨by simp; omega, .inr ⟨w.heap.size, _, _, rfl, hlo, heap_alloc_new w.drew _, hge, hcm, ?_, ?_⟩⟩
    · rw [hzc, zeroCells_one, zeroCells_one]
      simp; omega
    · rw [hzc, zeroCells_one, zeroCells_one]
      simp only [Array.toList_append, Array.toList_replicate, List.append_assoc]
      rw [← List.append_assoc, List.take_append_of_le_length (by simp; omega), List.take_of_length_le (by simp; omega)]
  have hgr : ∀ (o : Obj) (row : Option Nat), w.grownBy (w.drew.alloc o) row := fun o row => gr_alloc (gr_drew (gr_refl _ _)) o
  rcases hown.2 with ⟨hv, h0⟩ | ⟨g, cap, cur, hv, hbg, hg, hnc, hcm, hcs, htake⟩
  · injection hv with e1 e2 e3; subst e1; subst e3; subst h0
    have hx : xs = [] := List.eq_nil_of_length_eq_zero (by simpa using hown.1)
    subst hx
    have hr := Lib.run_append_nil_zeros (P := P) w t tn ty e i z kq kn ht htn hi hz m hm hs1 (by omega) hmb
    have hg0 := grown 0 (by omega)
    simp only [Nat.zero_add, List.nil_append, Array.empty_append] at hg0 ⊢
    refine ⟨_, _, _, hr, ?_, hgr _ _, fun g e => .inr ?_⟩
    · exact hg0
    · simp [blkOf] at e; omega
  · injection hv with e1 e2 e3; subst e1; subst e3
    by_cases hroom : n + m ≤ c
    · have hst := run_storeCells_at P g n e (List.replicate m z) 0 cur w hg (by simp; omega) (by intro v hv; rw [List.eq_of_mem_replicate hv]; exact hz1)
      simp only [Nat.add_zero] at hst
      have hw : IntKind.i64.wrap (m : Int) = m := by rw [IntKind.wrap_i64]; omega
      have hb1 : ¬ (281474976710656 < (m : Int) * (i.bytes : Int)) := by
        have h : ((m * i.bytes : Nat) : Int) ≤ 281474976710656 := by omega
        rw [Int.natCast_mul] at h
        omega
      have hm0 : ¬ m = 0 := by omega
      have hzv : (zeroValue e).run P w = .ok z w := by simp [zeroValue, typeInfo, hi, hz]
      refine ⟨some ⟨g, 0, none⟩, c, w.setRow g (cur.toList.take n ++ List.replicate m z ++ cur.toList.drop (n + (List.replicate m z).length)).toArray, ?_, ?_, ?_, fun g' e => .inl e⟩
      · have hneg : ¬ ((m : Int) < 0) := by omega
        have hns : ¬ (m * i.size = 0) := by rw [hsize]; omega
        simp [Builtin.append_, run_underlying ht, run_underlying htn, sizeOf, typeInfo, zeroValue, hi, hz, asInt, asIntOf, hw, hneg, hns, hb1, hroom]
        simp only [hsize, hzc, zeroCells_one, Array.toList_replicate, Nat.mul_one]
        rw [show (⟨g, 0, none⟩ : Addr).add n = ⟨g, n, none⟩ from by rw [add_mk, Nat.zero_add], hst]
        simp
      · refine ⟨by simp [hown.1], .inr ⟨g, c, _, rfl, hbg, setRow_heap w g cur _ e _ hg, hroom, hcm, ?_, ?_⟩⟩
        · simp; omega
        · have hl := hown.1
          simp only [Nat.mul_one] at htake hcs hl ⊢
          rw [htake, List.take_append_of_le_length (by simp; omega), List.take_of_length_le (by simp; omega)]
      · exact ⟨rfl, rfl, rfl, by simp [World.setRow], fun k _ hk => setRow_other w g k _ (fun e => hk (by simp [blkOf, e]))⟩
    · have hold : (Builtin.firstCells i.size n (.slice (some ⟨g, 0, none⟩) n c)).run P w.drew = .ok xs.toArray w.drew := by
        have := run_firstCells_some (P := P) w.drew i.size n ⟨g, 0, none⟩ n c xs (by rw [hsize]; exact hown.1) (by
          intro j u hu
          exact World.ownsRow.cells hown (g := g) rfl j u hu)
        exact this
      have hr := Lib.run_append_grow_zeros (P := P) w t tn ty e i z kq kn ht htn hi hz (some ⟨g, 0, none⟩) n c xs hold m hm hs1 (by omega) (by omega) hmb (growslice_fits (by omega) hbytes)
      refine ⟨_, _, _, hr, grown c (by omega), hgr _ _, fun g' e => .inr ?_⟩
      simp [blkOf] at e; omega
theorem wpl_app_zeros {P : Program} {t tn e : TypeId} {bytes : Nat} {z : Value} (w : World) {ops : Array Oper} {rest : List Oper} {o : Oper} {a : Act} {Q : Exit → Act → World → Prop} (hgd : o.guard = none) (s x : Operand) (E : ElemT P t e 1 bytes z) (hzc : z.cells = #[z]) (hz1 : z.oneCell' = true) {kn : IntKind} (htn : P.underlying tn = some (.int kn))
    (ho : o.op = .call { callee := .builtin .append, args := #[s, x], argTypes := #[t, tn] }) (lo : Nat) (A : Option Addr) (n c : Nat) (xs : List Value) (hs : a.eval s = .slice A n c) (hown : Own w lo e 1 A n c xs) {kq : IntKind} (m : Nat) (hx : a.eval x = .int kq (m : Int))
    (hm : 0 < m) (h63 : n + m ≤ maxLen) (hbytes : (n + m) * bytes ≤ 140737488355328) (hlo : lo ≤ w.heap.size)
    (h : ∀ A1 c1 w', Appended w lo e 1 A A1 (n + m) c1 (xs ++ List.replicate m z) w' → wpList P ops Q rest (a.put o.dst (.slice A1 (n + m) c1)) w') : wpList P ops Q (o :: rest) a w := by
  obtain ⟨A1, c1, w', hr, h1⟩ := run_app_zeros w E hzc hz1 htn o.type kq lo A n c xs hown m hm h63 hbytes hlo
  exact Lib.wpList_append_run w hgd s x t tn ho _ _ hs hx _ _ hr (h A1 c1 w' h1)
end Go.Proofs.YtelpakmiciilgaaGreatDoor

/- Words for the generator of arrivals: slices of arrivals that a call makes. Conditions: none. -/
import Derived.Test.YtdknfhpconfhkaaArr
import Derived.Test.YtdknfhpconfhkaaPktGen
import Derived.Test.YtdknfhpconfhkaaSamples3
import Derived.Deep.RegionLaw
import Derived.StillTailTactics
namespace Go.Proofs.Ytdknfhpconfhkaa
open Go.RowKit

theorem Try.arrsT : ElemT Try.prog 55 100 7 72 (.agg #[.int .i64 0, .int .i64 0, .int .i64 0, .int .i64 0, .int .i64 0, .bool false, .slice none 0 0]) := elemT_of Try.underlying55 (by kernel_rfl) rfl (by decide)

theorem splice_take {α : Type} (cur cs : List α) (j N : Nat) (h1 : j + cs.length ≤ N) (h2 : N ≤ cur.length) : (cur.take j ++ cs ++ cur.drop (j + cs.length)).take N = (cur.take N).take j ++ cs ++ (cur.take N).drop (j + cs.length) := by
  have hl : (cur.take j ++ cs).length = j + cs.length := by simp; omega
  rw [List.take_append, List.take_of_length_le (by rw [hl]; exact h1), hl, List.take_take, Nat.min_eq_left (by omega), List.drop_take]
/-! A struct stored into a row of the call's own. -/
section
variable {P : Program} {w : World} {o : Oper} {a : Act} {K : Act → World → Prop} {Q : Exit → Act → World → Prop} {ops : Array Oper} {rest : List Oper}
/-- What a store of several cells into a row of the call's own leaves. -/
def Spliced (w : World) (lo : Nat) (e : TypeId) (size g n c : Nat) (xs : List Value) (j : Nat) (cs : List Value) (w' : World) : Prop :=
  Own w' lo e size (some ⟨g, 0, none⟩) n c (xs.take j ++ cs ++ xs.drop (j + cs.length)) ∧ w.grownBy w' (some g) ∧ w'.heap.size = w.heap.size
theorem run_store_own {ty : TypeId} {m : Nat} (T : StructT P ty m) {lo : Nat} {e : TypeId} {size g n c : Nat} {xs : List Value} (ho : Own w lo e size (some ⟨g, 0, none⟩) n c xs) {j : Nat} {cs : List Value} (hn : cs.length = m) (hj : j + m ≤ n * size) (h1 : ∀ u ∈ cs, u.oneCell' = true) :
    ∃ w', (Instr.storeAt ty (.pointer (some ⟨g, j, none⟩)) (.agg cs.toArray)).run P w = .ok () w' ∧ Spliced w lo e size g n c xs j cs w' := by
  obtain ⟨d, hd1, hd2, hd3⟩ := T
  have hlen := ho.len
  rcases ho.2 with ⟨hv, _⟩ | ⟨g', cap, cur, hv, hlo, hh, hnc, hcm, hsz, htk⟩
  · injection hv with h; cases h
  · injection hv with h h2 h3
    injection h with h
    injection h with h
    subst h; subst h3
    have hle : n * size ≤ c * size := Nat.mul_le_mul_right _ hnc
    cases hq : P.info? ty with
    | none => simp [hq] at hd3
    | some i =>
      have hs : i.size = m := by simpa [hq] using hd3
      have hrun := run_storeCells_at (P := P) g j e cs 0 cur w hh (by omega) h1
      simp only [Nat.add_zero] at hrun
      refine ⟨w.setRow g (cur.toList.take j ++ cs ++ cur.toList.drop (j + cs.length)).toArray, ?_, ⟨?_, .inr ⟨g, c, _, rfl, hlo, setRow_heap w g cur _ e _ hh, hnc, hcm, ?_, ?_⟩⟩, ⟨rfl, rfl, rfl, by simp [World.setRow], fun k _ hk => setRow_other w g k _ (fun e => hk (by rw [e]))⟩, by simp [World.setRow]⟩
      · simp [Instr.storeAt, Instr.sureAddr, storeVar, sizeOf, typeInfo, hq, hs, Value.cells, hn, hrun]
      · simp; omega
      · simp; omega
      · rw [← htk]
        exact splice_take cur.toList cs j (n * size) (by omega) (by simp; omega)
theorem wpl_store_own {ty : TypeId} {m : Nat} (T : StructT P ty m) (hgd : o.guard = none) (x y : Operand) (ho : o.op = .store ty x y) {lo : Nat} {e : TypeId} {size g n c : Nat} {xs : List Value} (j : Nat) (hx : a.eval x = .pointer (some ⟨g, j, none⟩)) (cs : List Value) (hy : a.eval y = .agg cs.toArray)
    (hown : Own w lo e size (some ⟨g, 0, none⟩) n c xs) (hn : cs.length = m) (hj : j + m ≤ n * size) (h1 : ∀ u ∈ cs, u.oneCell' = true) (h : ∀ w', Spliced w lo e size g n c xs j cs w' → wpList P ops Q rest (a.put o.dst undef) w') : wpList P ops Q (o :: rest) a w := by
  obtain ⟨w', hrun, hst⟩ := run_store_own (P := P) T hown hn hj h1
  refine wpList_plain hgd fun _ hK => ?_
  unfold Oper.wp execOp
  simp only [ho, hx, hy, Sem.run_bind, Sem.run_pure, Result.andThen_ok, hrun]
  exact hK _ _ (h w' hst)
end

/-! Slices of arrivals that a call makes: each payload is the call's own, too. -/
def PayB (w : World) (lo : Nat) (A : Option Addr) (n c : Nat) (pay : List Int) : Prop := OwnB w lo A n c pay ∧ (∀ b ∈ pay, 0 ≤ b ∧ b < 256) ∧ n ≤ 2000
abbrev PayOK (w : World) (lo : Nat) (a : ArrV) : Prop := PayB w lo a.A a.n a.c a.pay
def GArrs (w : World) (lo : Nat) (A : Option Addr) (n c : Nat) (l : List ArrV) : Prop := Own w lo 100 7 A n c (l.flatMap ArrV.row) ∧ l.length = n ∧ ∀ a ∈ l, a.Small ∧ PayOK w lo a
section
variable {w w' : World} {lo n c : Nat} {A : Option Addr} {l : List ArrV}
theorem GArrs.nil (w : World) (lo : Nat) : GArrs w lo none 0 0 [] := ⟨Own.nil _ _ _ _, rfl, fun a ha => by cases ha⟩
theorem PayOK.kept {a : ArrV} (h : PayOK w lo a) {row : Option Nat} (hg : w.grownBy w' row) (hne : ∀ g, row = some g → blkOf a.A ≠ some g) : PayOK w' lo a := ⟨Own.kept h.1 hg hne, h.2⟩
theorem GArrs.kept (h : GArrs w lo A n c l) {row : Option Nat} (hg : w.grownBy w' row) (hr : ∀ g, row = some g → g < lo) : GArrs w' lo A n c l :=
  ⟨h.1.kept hg (fun g e e' => by have := hr g e; have := (h.1.lt e').1; omega), h.2.1, fun a ha => ⟨(h.2.2 a ha).1, (h.2.2 a ha).2.kept hg (fun g e e' => by have := hr g e; have := ((h.2.2 a ha).2.1.lt e').1; omega)⟩⟩
theorem PayOK.keptB {a : ArrV} {lo' n' c' : Nat} {A' : Option Addr} {l' : List Value} (h : PayOK w lo a) (ho : Own w lo' 100 7 A' n' c' l') (hg : w.grownBy w' (blkOf A')) : PayOK w' lo a :=
  h.kept hg (fun g e => Own.ne ho h.1 (by decide) e)
theorem GArrs.append {a : ArrV} (h : GArrs w lo A n c l) (ha : a.Small) (hp : PayOK w lo a) {A1 : Option Addr} {c1 : Nat} (h1 : Appended w lo 100 7 A A1 (n + 1) c1 (l.flatMap ArrV.row ++ a.row) w') : GArrs w' lo A1 (n + 1) c1 (l ++ [a]) := by
  refine ⟨?_, by simp [h.2.1], fun b hb => ?_⟩
  · rw [List.flatMap_append]
    simpa using h1.1
  · rcases List.mem_append.1 hb with hb | hb
    · exact ⟨(h.2.2 b hb).1, (h.2.2 b hb).2.keptB h.1 h1.2.1⟩
    · rw [List.mem_singleton.1 hb]; exact ⟨ha, hp.keptB h.1 h1.2.1⟩
/-- A packet is put into the place of another one. -/
theorem GArrs.put {g i : Nat} {a b : ArrV} (h : GArrs w lo (some ⟨g, 0, none⟩) n c l) (hi : l[i]? = some a) (hb : b.Small) (hp : PayOK w lo b)
    (h1 : Spliced w lo 100 7 g n c (l.flatMap ArrV.row) (i * 7 + 1) [.int .i64 b.ty, .int .i64 b.sq, .int .i64 b.tm, .int .i64 b.sr, .bool b.mark, .slice b.A b.n b.c] w') :
    GArrs w' lo (some ⟨g, 0, none⟩) n c (l.set i { b with at_ := a.at_ }) := by
  have hg : w.grownBy w' (blkOf (some ⟨g, 0, none⟩)) := h1.2.1
  refine ⟨?_, by simp [h.2.1], fun x hx => ?_⟩
  · have e := flat_set (row := ArrV.row) (k := 7) ArrV.row_len (by decide) hi (a' := { b with at_ := a.at_ }) (ys := [.int .i64 b.ty, .int .i64 b.sq, .int .i64 b.tm, .int .i64 b.sr, .bool b.mark, .slice b.A b.n b.c]) 1 (by simp) rfl
    rw [← e]
    exact h1.1
  · rcases List.mem_or_eq_of_mem_set hx with hx | hx
    · exact ⟨(h.2.2 x hx).1, (h.2.2 x hx).2.keptB h.1 hg⟩
    · rw [hx]
      have ha := (h.2.2 a (mem_of_get hi)).1
      obtain ⟨_, h2, h3, h4, h5⟩ := hb
      exact ⟨⟨ha.1, h2, h3, h4, h5⟩, hp.keptB h.1 hg⟩
theorem GArrs.arrs (h : GArrs w lo A n c l) : Arrs w lo A n c l := ⟨⟨h.1.reads, h.2.1⟩, fun a ha => ⟨(h.2.2 a ha).1, OwnB.bytes (h.2.2 a ha).2.1 (h.2.2 a ha).2.2.1⟩⟩
theorem GArrs.alloc (h : GArrs w lo A n c l) (o : Obj) : GArrs (w.alloc o) lo A n c l := h.kept (row := none) (gr_alloc (gr_refl _ _) o) (fun g e => by cases e)
theorem GArrs.at_ {g i : Nat} {a : ArrV} (h : GArrs w lo (some ⟨g, 0, none⟩) n c l) (hi : l[i]? = some a) : ∀ j u, a.row[j]? = some u → w.cell? ⟨g, i * 7 + j, none⟩ = some u := by
  have := h.arrs.1.at_ ArrV.row_len hi
  simpa using this
end
theorem flat_set1 {α : Type} {row : α → List Value} {k : Nat} (hrow : ∀ a, (row a).length = k) {l : List α} {i : Nat} {a a' : α} (hi : l[i]? = some a) {j : Nat} (hj : j < k) {u : Value} (hr : row a' = (row a).set j u) : (l.flatMap row).set (i * k + j) u = (l.set i a').flatMap row := by
  have h := flat_set (row := row) (k := k) hrow (by omega) hi (a' := a') (ys := [u]) j (by simp; omega) (by
    rw [hr, List.set_eq_take_append_cons_drop, if_pos (by rw [hrow]; exact hj)]; simp)
  have hil := (List.getElem?_eq_some_iff.1 hi).1
  have hle : (i + 1) * k ≤ l.length * k := Nat.mul_le_mul_right k hil
  rw [Nat.succ_mul] at hle
  rw [← h, List.set_eq_take_append_cons_drop, if_pos (by rw [flat_len hrow]; omega)]
  simp
section
variable {w w' : World} {lo n c : Nat} {l : List ArrV}
theorem gr_set (w : World) (g j : Nat) (u : Value) : w.grownBy (w.setCell ⟨g, j, none⟩ u) (blkOf (some ⟨g, 0, none⟩)) := gr_setCell (gr_refl _ _) (.inl rfl) _
theorem GArrs.set1 {g i j p : Nat} {a a' : ArrV} {u : Value} (h : GArrs w lo (some ⟨g, 0, none⟩) n c l) (hi : l[i]? = some a) (hj : j < 7) (hr : a'.row = a.row.set j u) (hs : a'.Small) (hp : PayB w lo a'.A a'.n a'.c a'.pay) (e : p = i * 7 + j) : GArrs (w.setCell ⟨g, p, none⟩ u) lo (some ⟨g, 0, none⟩) n c (l.set i a') := by
  subst e
  refine ⟨?_, by simp [h.2.1], fun x hx => ?_⟩
  · rw [← flat_set1 ArrV.row_len hi hj hr]
    exact h.1.stored _ u
  · rcases List.mem_or_eq_of_mem_set hx with hx | hx
    · exact ⟨(h.2.2 x hx).1, PayOK.keptB (h.2.2 x hx).2 h.1 (gr_set _ _ _ _)⟩
    · rw [hx]; exact ⟨hs, PayOK.keptB (a := a') hp h.1 (gr_set _ _ _ _)⟩
theorem PayB.set1 {g j : Nat} {u : Value} {A : Option Addr} {n' c' : Nat} {pay : List Int} (hp : PayB w lo A n' c' pay) (h : GArrs w lo (some ⟨g, 0, none⟩) n c l) : PayB (w.setCell ⟨g, j, none⟩ u) lo A n' c' pay := PayOK.keptB (a := ⟨0, 0, 0, 0, 0, false, A, n', c', pay⟩) hp h.1 (gr_set _ _ _ _)
theorem get_set {α : Type} {l : List α} {i : Nat} {a b : α} (h : l[i]? = some a) : (l.set i b)[i]? = some b := by
  have := (List.getElem?_eq_some_iff.1 h).1
  simp [this]
theorem GArrs.step {g i j p : Nat} {a a' : ArrV} {u : Value} (h : GArrs w lo (some ⟨g, 0, none⟩) n c l) (hi : l[i]? = some a) (hj : j < 7) (hr : a'.row = a.row.set j u) (hs : a'.Small) (hp : PayB w lo a'.A a'.n a'.c a'.pay) (e : p = i * 7 + j) (hw : w' = w.setCell ⟨g, p, none⟩ u) :
    GArrs w' lo (some ⟨g, 0, none⟩) n c (l.set i a') ∧ w.grownBy w' (some g) ∧ w'.heap.size = w.heap.size ∧ ∀ A n c pay, PayB w lo A n c pay → PayB w' lo A n c pay := by
  subst hw
  exact ⟨h.set1 hi hj hr hs hp e, gr_set _ _ _ _, size_setCell _ _ _, fun A n c pay hx => hx.set1 h⟩
/-- Six cells of an arrival, its packet, are stored one behind the other. -/
theorem GArrs.put6 {g i : Nat} {a b : ArrV} {w1 w2 w3 w4 w5 w6 : World} (h : GArrs w lo (some ⟨g, 0, none⟩) n c l) (hi : l[i]? = some a) (hb : b.Small) (hp : PayB w lo b.A b.n b.c b.pay)
    (e1 : w1 = w.setCell ⟨g, i * 7 + 1, none⟩ (.int .i64 b.ty)) (e2 : w2 = w1.setCell ⟨g, i * 7 + 1 + 1, none⟩ (.int .i64 b.sq)) (e3 : w3 = w2.setCell ⟨g, i * 7 + 1 + 2, none⟩ (.int .i64 b.tm)) (e4 : w4 = w3.setCell ⟨g, i * 7 + 1 + 3, none⟩ (.int .i64 b.sr)) (e5 : w5 = w4.setCell ⟨g, i * 7 + 1 + 4, none⟩ (.bool b.mark)) (e6 : w6 = w5.setCell ⟨g, i * 7 + 1 + 5, none⟩ (.slice b.A b.n b.c)) :
    GArrs w6 lo (some ⟨g, 0, none⟩) n c (l.set i { b with at_ := a.at_ }) ∧ w.grownBy w6 (some g) ∧ w6.heap.size = w.heap.size ∧ ∀ A n c pay, PayB w lo A n c pay → PayB w6 lo A n c pay := by
  obtain ⟨s1, s2, s3, s4, s5⟩ := (h.2.2 a (mem_of_get hi)).1
  obtain ⟨_, b2, b3, b4, b5⟩ := hb
  have pa : PayB w lo a.A a.n a.c a.pay := (h.2.2 a (mem_of_get hi)).2
  obtain ⟨h1, g1, z1, p1⟩ := h.step (j := 1) hi (a' := { a with ty := b.ty }) (by omega) rfl ⟨s1, b2, s3, s4, s5⟩ pa rfl e1
  clear e1
  obtain ⟨h2, g2, z2, p2⟩ := h1.step (j := 2) (get_set hi) (a' := { a with ty := b.ty, sq := b.sq }) (by omega) rfl ⟨s1, b2, b3, s4, s5⟩ (p1 _ _ _ _ pa) (by omega) e2
  clear e2
  obtain ⟨h3, g3, z3, p3⟩ := h2.step (j := 3) (get_set (get_set hi)) (a' := { a with ty := b.ty, sq := b.sq, tm := b.tm }) (by omega) rfl ⟨s1, b2, b3, b4, s5⟩ (p2 _ _ _ _ (p1 _ _ _ _ pa)) (by omega) e3
  clear e3
  obtain ⟨h4, g4, z4, p4⟩ := h3.step (j := 4) (get_set (get_set (get_set hi))) (a' := { a with ty := b.ty, sq := b.sq, tm := b.tm, sr := b.sr }) (by omega) rfl ⟨s1, b2, b3, b4, b5⟩ (p3 _ _ _ _ (p2 _ _ _ _ (p1 _ _ _ _ pa))) (by omega) e4
  clear e4
  obtain ⟨h5, g5, z5, p5⟩ := h4.step (j := 5) (get_set (get_set (get_set (get_set hi)))) (a' := { a with ty := b.ty, sq := b.sq, tm := b.tm, sr := b.sr, mark := b.mark }) (by omega) rfl ⟨s1, b2, b3, b4, b5⟩ (p4 _ _ _ _ (p3 _ _ _ _ (p2 _ _ _ _ (p1 _ _ _ _ pa)))) (by omega) e5
  clear e5
  obtain ⟨h6, g6, z6, p6⟩ := h5.step (j := 6) (get_set (get_set (get_set (get_set (get_set hi))))) (a' := { b with at_ := a.at_ }) (by omega) rfl ⟨s1, b2, b3, b4, b5⟩ (p5 _ _ _ _ (p4 _ _ _ _ (p3 _ _ _ _ (p2 _ _ _ _ (p1 _ _ _ _ hp))))) (by omega) e6
  clear e6
  simp only [List.set_set] at h6
  exact ⟨h6, gr_same (gr_same (gr_same (gr_same (gr_same g1 g2) g3) g4) g5) g6, by omega, fun A n c pay hx => p6 _ _ _ _ (p5 _ _ _ _ (p4 _ _ _ _ (p3 _ _ _ _ (p2 _ _ _ _ (p1 _ _ _ _ hx)))))⟩
end
def IsArrs (lo most : Nat) (v : Value) (w : World) : Prop := ∃ (A : Option Addr) (n c : Nat) (l : List ArrV), v = .slice A n c ∧ GArrs w lo A n c l ∧ n ≤ most

/-- What the making of one packet leaves: its numbers lie in block pb, and its payload is the call's own. -/
def RP2 (w : World) (sb pb : Nat) (m r1 r2 r3 r4 : Int) (mk : Bool) (k : Nat) (A : Option Addr) (c : Nat) (l : List Int) (wr : World) : Prop :=
  Str wr sb (m + k) ∧ w.grownBy wr (some sb) ∧ w.heap.size ≤ pb ∧
  Blk wr pb 28 #[.int .i64 r1, .int .i64 r2, .int .i64 r3, .int .i64 r4, .bool mk, .slice A k c] ∧
  Own wr w.heap.size 5 1 A k c (l.map (Value.int .u8)) ∧ ∀ b ∈ l, 0 ≤ b ∧ b < 256
theorem RP2.next {w wr w7 w8 : World} {sb pb : Nat} {m r1 r2 r3 r4 : Int} {mk : Bool} {k : Nat} {A : Option Addr} {c : Nat} {l : List Int} (h : RP2 w sb pb m r1 r2 r3 r4 mk k A c l wr) (hsb : sb < w.heap.size) {x : Int} (hx : 0 ≤ x ∧ x < 256)
    (hs7 : Str w7 sb (m + k + 1)) (hg7 : wr.drew.grownBy w7 (some sb)) {A1 : Option Addr} {c1 : Nat} {o : Obj}
    (h8 : Appended (w7.alloc o) w.heap.size 5 1 A A1 (k + 1) c1 (l.map (Value.int .u8) ++ [.int .u8 x]) w8) :
    RP2 w sb pb m r1 r2 r3 r4 mk (k + 1) A1 c1 (l ++ [x]) (w8.setCell ⟨pb, 5, none⟩ (.slice A1 (k + 1) c1)) := by
  obtain ⟨hs, hg, hp, hb, ho, hl⟩ := h
  obtain ⟨ho8, hg8, hat⟩ := h8
  have hneS : ∀ g, some sb = some g → blkOf A ≠ some g := fun g e e' => by injection e with e; subst e; have := (ho.lt e').1; omega
  have ho7 : Own (w7.alloc o) w.heap.size 5 1 A k c (l.map (Value.int .u8)) := (ho.drew.kept hg7 hneS).alloc o
  have hb7 := (hb.drew.grown hg7 (by simp; omega)).alloc o
  have hb8 := hb7.grown hg8 (Ne.symm (ho7.blk_ne hb7 (by decide)))
  have hgr : w.grownBy w8 (some sb) := gr_own (gr_alloc (gr_same (gr_drew hg) hg7) o) ho7 (Nat.le_refl _) hg8
  have hsz := hgr.size
  refine ⟨(((hs7.alloc o).grown hg8 (fun g e => by have := (ho7.lt e).1; omega)).setCell (by simp; omega) _).mono (by omega), gr_setCell hgr (.inr (by simp; omega)) _, hp, hb8.set_ 5 _, ?_, ?_⟩
  · rw [List.map_append]
    exact ho8.far (ho8.blk_ne hb8 (by decide)) _
  · intro b hb
    rcases List.mem_append.1 hb with h1 | h1
    · exact hl b h1
    · rw [List.mem_singleton.1 h1]; exact hx
end Go.Proofs.Ytdknfhpconfhkaa

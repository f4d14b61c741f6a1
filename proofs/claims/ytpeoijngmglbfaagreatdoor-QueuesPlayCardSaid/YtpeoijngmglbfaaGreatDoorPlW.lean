/- The program's player as it lies in memory: desks and waiters behind pointers; what a store leaves. Conditions: none. -/
import Derived.Test.YtpeoijngmglbfaaGreatDoorBun3
import Derived.Test.YtpeoijngmglbfaaGreatDoorRo1
import Derived.Test.YtpeoijngmglbfaaGreatDoorSe1
namespace Go.Proofs.YtpeoijngmglbfaaGreatDoor
open Go.RowKit

theorem Tryz.pdT : StructT Tryz.prog 121 9 := ⟨_, Tryz.underlying121, rfl, by kernel_rfl⟩
theorem Tryz.pwT : StructT Tryz.prog 111 14 := ⟨_, Tryz.underlying111, rfl, by kernel_rfl⟩
theorem Tryz.ppT : StructT Tryz.prog 118 6 := ⟨_, Tryz.underlying118, rfl, by kernel_rfl⟩
theorem storeCells_from (g i : Nat) (vs : List Value) : ∀ k, storeCells ⟨g, i, none⟩ vs k = storeCells ⟨g, 0, none⟩ vs (i + k) := by
  induction vs with
  | nil => intro k; rfl
  | cons v vs ih =>
    intro k
    show (do store ((⟨g, i, none⟩ : Addr).add k) v; storeCells ⟨g, i, none⟩ vs (k + 1)) = (do store ((⟨g, 0, none⟩ : Addr).add (i + k)) v; storeCells ⟨g, 0, none⟩ vs (i + k + 1))
    rw [add_mk, add_mk, Nat.zero_add, ih (k + 1), Nat.add_assoc]
section
variable {P : Program} {w : World} {o : Oper} {a : Act} {K : Act → World → Prop} {Q : Exit → Act → World → Prop}
/-- The last cells of a block, stored as a struct. -/
theorem wp_store_tail {ty : TypeId} {n : Nat} (T : StructT P ty n) (x y : Operand) (ho : o.op = .store ty x y) (g i : Nat) (hx : a.eval x = .pointer (some ⟨g, i, none⟩)) (t : TypeId) (cur cs new : Array Value) (hy : a.eval y = .agg cs) (hb : Blk w g t cur)
    (hn : cs.size = n) (hc : i + cs.size = cur.size) (h1 : ∀ u ∈ cs.toList, u.oneCell' = true) (hnew : (cur.toList.take i ++ cs.toList).toArray = new) (h : ∀ w', Stored w g t new w' → K (a.put o.dst undef) w') : o.wp P a w K Q := by
  obtain ⟨d, hd1, hd2, hd3⟩ := T
  cases hq : P.info? ty with
  | none => simp [hq] at hd3
  | some inf =>
    have hs : inf.size = n := by simpa [hq] using hd3
    have hrun := run_storeCells_from (P := P) g t cs.toList i cur w hb (by simp; omega) h1
    rw [hnew] at hrun
    have hst : (Instr.storeAt ty (.pointer (some ⟨g, i, none⟩)) (.agg cs)).run P w = .ok () (w.setRow g new) := by
      have hrun2 : (storeCells ⟨g, i, none⟩ cs.toList 0).run P w = .ok () (w.setRow g new) := by
        rw [← hrun]
        rw [storeCells_from g i cs.toList 0]; rfl
      simp [Instr.storeAt, Instr.sureAddr, storeVar, sizeOf, typeInfo, hq, hs, Value.cells, hn, hrun2]
    unfold Oper.wp execOp
    simp only [ho, hx, hy, Sem.run_bind, Sem.run_pure, Result.andThen_ok, hst]
    refine h _ ⟨?_, ⟨rfl, rfl, rfl, ?_, ?_⟩, ?_⟩
    · have hlt := hb.lt
      unfold Blk at hb ⊢
      simp [World.setRow, Array.getElem?_modify, hb]
    · simp [World.setRow]
    · intro k hk hne
      simp only [World.setRow, Array.getElem?_modify]
      rw [if_neg (fun e => hne (by rw [e]))]
    · simp [World.setRow]
variable {ops : Array Oper} {rest : List Oper}
theorem wpl_store_tail {ty : TypeId} {n : Nat} (T : StructT P ty n) (hgd : o.guard = none) (x y : Operand) (ho : o.op = .store ty x y) (g i : Nat) (hx : a.eval x = .pointer (some ⟨g, i, none⟩)) (t : TypeId) (cur cs new : Array Value) (hy : a.eval y = .agg cs) (hb : Blk w g t cur)
    (hn : cs.size = n) (hc : i + cs.size = cur.size) (h1 : ∀ u ∈ cs.toList, u.oneCell' = true) (hnew : (cur.toList.take i ++ cs.toList).toArray = new) (h : ∀ w', Stored w g t new w' → wpList P ops Q rest (a.put o.dst undef) w') : wpList P ops Q (o :: rest) a w :=
  wpList_plain hgd fun _ hK => wp_store_tail T x y ho g i hx t cur cs new hy hb hn hc h1 hnew fun w' hs => hK _ _ (h w' hs)
end
/-! The player in memory. -/
structure PlC where
  pb : Nat
  D : Option Addr
  dc : Nat
  W : Option Addr
  wc : Nat
  di : List Nat
  wi : List Nat
def ptrV (b : Nat) : Value := .pointer (some ⟨b, 0, none⟩)
def DkBlk (w : World) (b : Nat) (a : AgV) (x : DkV) : Prop := Blk w b 121 #[.string a.key, .slice a.sA a.sn a.sc, .int .i64 a.fr, .int .i64 a.til, .slice a.pA a.pn a.pc, .int .i64 a.wrap, .int .i64 x.tk, .int .i64 x.en, .int .i64 x.n]
def WtBlk (w : World) (b : Nat) (c : CaV) (x : WtV) : Prop := Blk w b 111 #[.string c.id, .string c.skill, .int .i64 c.at_, .int .i64 c.least, .int .i64 c.prio, .int .i64 c.pat, .int .i64 c.talk, .bool c.back, .int .i64 x.how, .string x.seat.ca, .string x.seat.ag, .int .i64 x.seat.how, .int .i64 x.seat.beg, .int .i64 x.seat.fin]
def PpBlk (w : World) (R : PlC) (s : StyV) (m n : Nat) (last : ByteArray) : Prop := Blk w R.pb 118 #[.int .i64 s.kind, .int .i64 s.age, .int .i64 s.say, .slice R.D m R.dc, .slice R.W n R.wc, .string last]
def PlC.ids (R : PlC) : List Nat := R.pb :: (R.di ++ R.wi)
structure PlAt (w : World) (lo : Nat) (R : PlC) (s : StyV) (A : List AgV) (C : List CaV) (p : PlS) : Prop where
  pl : PpBlk w R s A.length C.length p.last
  dr : Reads w lo 1 R.D A.length R.dc (R.di.map ptrV)
  wr : Reads w lo 1 R.W C.length R.wc (R.wi.map ptrV)
  dl : R.di.length = A.length
  wl : R.wi.length = C.length
  dk : ∀ (i b : Nat) (a : AgV) (x : DkV), R.di[i]? = some b → A[i]? = some a → p.dk[i]? = some x → DkBlk w b a x
  wt : ∀ (i b : Nat) (c : CaV) (x : WtV), R.wi[i]? = some b → C[i]? = some c → p.wt[i]? = some x → WtBlk w b c x
  nd : R.ids.Nodup
  dn : ∀ g, blkOf R.D = some g → g ∉ R.ids
  wn : ∀ g, blkOf R.W = some g → g ∉ R.ids
  lo : ∀ b ∈ R.ids, lo ≤ b
  dl2 : p.dk.length = A.length
  wl2 : p.wt.length = C.length
section
variable {w w' : World} {lo : Nat} {R : PlC} {s : StyV} {A : List AgV} {C : List CaV} {p : PlS}
theorem Reads.other {k n c : Nat} {A' : Option Addr} {xs : List Value} {r : Option Nat} (h : Reads w lo k A' n c xs) (hg : w.grownBy w' r) (hr : ∀ g, r = some g → blkOf A' ≠ some g) : Reads w' lo k A' n c xs := by
  obtain ⟨h1, h2, h3⟩ := h
  refine ⟨h1, h2, fun hn => ?_⟩
  obtain ⟨g, o, e, hl, hlt, hc⟩ := h3 hn
  have hb : w'.heap[g]? = w.heap[g]? := hg.block g hlt (fun e2 => hr g e2.symm (by rw [e]; rfl))
  refine ⟨g, o, e, hl, by have := hg.size; omega, fun j u hu => ?_⟩
  have h4 := hc j u hu
  unfold World.cell? at h4 ⊢
  rw [hb]
  exact h4
theorem Reads.pos {k n c : Nat} {A' : Option Addr} {xs : List Value} (h : Reads w lo k A' n c xs) (hn : 0 < n) : ∃ g o, A' = some ⟨g, o, none⟩ ∧ lo ≤ g ∧ g < w.heap.size := by
  obtain ⟨g, o, e, h1, h2, _⟩ := h.2.2 hn
  exact ⟨g, o, e, h1, h2⟩
theorem Reads.cell1 {n c g o i : Nat} {xs : List Value} {u : Value} (h : Reads w lo 1 (some ⟨g, o, none⟩) n c xs) (hu : xs[i]? = some u) : w.cell? ⟨g, o + i, none⟩ = some u := by
  have hn : 0 < n := by
    have := (List.getElem?_eq_some_iff.1 hu).1
    have := h.len
    omega
  obtain ⟨g', o', e, _, _, hc⟩ := h.2.2 hn
  obtain ⟨rfl, rfl⟩ : g = g' ∧ o = o' := by simpa using e
  exact hc i u hu
theorem ptrRow {A' : Option Addr} {n c : Nat} {l : List Nat} {r : Option Nat} (h : Reads w lo 1 A' n c (l.map ptrV)) (hg : w.grownBy w' r) (hr : ∀ g, r = some g → blkOf A' ≠ some g) : Reads w' lo 1 A' n c (l.map ptrV) := h.other hg hr
theorem mem_d {i b : Nat} (h : R.di[i]? = some b) : b ∈ R.ids := List.mem_cons_of_mem _ (List.mem_append_left _ (mem_of_get h))
theorem mem_w {i b : Nat} (h : R.wi[i]? = some b) : b ∈ R.ids := List.mem_cons_of_mem _ (List.mem_append_right _ (mem_of_get h))
theorem nd_d (h : R.ids.Nodup) {i j b : Nat} (h1 : R.di[i]? = some b) (h2 : R.di[j]? = some b) : i = j := by
  have h3 := (List.nodup_append.1 (List.nodup_cons.1 h).2).1
  exact (List.getElem?_inj (List.getElem?_eq_some_iff.1 h1).1 h3).1 (h1.trans h2.symm)
theorem nd_w (h : R.ids.Nodup) {i j b : Nat} (h1 : R.wi[i]? = some b) (h2 : R.wi[j]? = some b) : i = j := by
  have h3 := (List.nodup_append.1 (List.nodup_cons.1 h).2).2.1
  exact (List.getElem?_inj (List.getElem?_eq_some_iff.1 h1).1 h3).1 (h1.trans h2.symm)
theorem nd_dw (h : R.ids.Nodup) {i j b c : Nat} (h1 : R.di[i]? = some b) (h2 : R.wi[j]? = some c) : b ≠ c := (List.nodup_append.1 (List.nodup_cons.1 h).2).2.2 b (mem_of_get h1) c (mem_of_get h2)
theorem nd_pd (h : R.ids.Nodup) {i b : Nat} (h1 : R.di[i]? = some b) : R.pb ≠ b := fun e => (List.nodup_cons.1 h).1 (List.mem_append_left _ (by rw [e]; exact mem_of_get h1))
theorem nd_pw (h : R.ids.Nodup) {i b : Nat} (h1 : R.wi[i]? = some b) : R.pb ≠ b := fun e => (List.nodup_cons.1 h).1 (List.mem_append_right _ (by rw [e]; exact mem_of_get h1))
/-- Nothing of the player is stored to. -/
theorem PlAt.kept (h : PlAt w lo R s A C p) {r : Option Nat} (hg : w.grownBy w' r) (hr : ∀ g, r = some g → g ∉ R.ids ∧ blkOf R.D ≠ some g ∧ blkOf R.W ≠ some g) : PlAt w' lo R s A C p := by
  have ne : ∀ b ∈ R.ids, some b ≠ r := fun b hb e => (hr b e.symm).1 hb
  exact ⟨h.pl.grown hg (ne _ (List.mem_cons_self ..)), h.dr.other hg (fun g e => (hr g e).2.1), h.wr.other hg (fun g e => (hr g e).2.2), h.dl, h.wl, fun i b a x h1 h2 h3 => (h.dk i b a x h1 h2 h3).grown hg (ne _ (mem_d h1)), fun i b a x h1 h2 h3 => (h.wt i b a x h1 h2 h3).grown hg (ne _ (mem_w h1)), h.nd, h.dn, h.wn, h.lo, h.dl2, h.wl2⟩
theorem PlAt.kept0 (h : PlAt w lo R s A C p) (hg : w.grownBy w' none) : PlAt w' lo R s A C p := h.kept hg fun g e => by cases e
theorem PlAt.setW (h : PlAt w lo R s A C p) {i b : Nat} {c : CaV} {x : WtV} (hi : R.wi[i]? = some b) (hc : C[i]? = some c) (hg : w.grownBy w' (some b)) (hb : WtBlk w' b c x) : PlAt w' lo R s A C ⟨p.dk, p.wt.set i x, p.last⟩ := by
  have hm := mem_w hi
  refine ⟨h.pl.grown hg (fun e => nd_pw h.nd hi (by injection e)), h.dr.other hg (fun g e => by injection e with e; subst e; exact fun e2 => h.dn _ e2 hm), h.wr.other hg (fun g e => by injection e with e; subst e; exact fun e2 => h.wn _ e2 hm), h.dl, h.wl,
    fun j d a y h1 h2 h3 => (h.dk j d a y h1 h2 h3).grown hg (fun e => nd_dw h.nd h1 hi (by injection e)), fun j d a y h1 h2 h3 => ?_, h.nd, h.dn, h.wn, h.lo, h.dl2, by show (p.wt.set _ _).length = _; rw [List.length_set]; exact h.wl2⟩
  change (p.wt.set i x)[j]? = some y at h3
  by_cases e : i = j
  · subst e
    have hlt := (List.getElem?_eq_some_iff.1 h3).1
    rw [List.length_set] at hlt
    rw [List.getElem?_set_self hlt] at h3
    injection h3 with h3
    subst h3
    rw [hi] at h1; injection h1 with h1; subst h1
    rw [hc] at h2; injection h2 with h2; subst h2
    exact hb
  · rw [List.getElem?_set_ne e] at h3
    exact (h.wt j d a y h1 h2 h3).grown hg (fun e2 => e (nd_w h.nd hi (by injection e2 with e2; rw [← e2]; exact h1)))
theorem PlAt.setD (h : PlAt w lo R s A C p) {i b : Nat} {a : AgV} {x : DkV} (hi : R.di[i]? = some b) (ha : A[i]? = some a) (hg : w.grownBy w' (some b)) (hb : DkBlk w' b a x) : PlAt w' lo R s A C ⟨p.dk.set i x, p.wt, p.last⟩ := by
  have hm := mem_d hi
  refine ⟨h.pl.grown hg (fun e => nd_pd h.nd hi (by injection e)), h.dr.other hg (fun g e => by injection e with e; subst e; exact fun e2 => h.dn _ e2 hm), h.wr.other hg (fun g e => by injection e with e; subst e; exact fun e2 => h.wn _ e2 hm), h.dl, h.wl,
    fun j d a y h1 h2 h3 => ?_, fun j d a y h1 h2 h3 => (h.wt j d a y h1 h2 h3).grown hg (fun e => nd_dw h.nd hi h1 (by injection e with e; exact e.symm)), h.nd, h.dn, h.wn, h.lo, by show (p.dk.set _ _).length = _; rw [List.length_set]; exact h.dl2, h.wl2⟩
  change (p.dk.set i x)[j]? = some y at h3
  by_cases e : i = j
  · subst e
    have hlt := (List.getElem?_eq_some_iff.1 h3).1
    rw [List.length_set] at hlt
    rw [List.getElem?_set_self hlt] at h3
    injection h3 with h3
    subst h3
    rw [hi] at h1; injection h1 with h1; subst h1
    rw [ha] at h2; injection h2 with h2; subst h2
    exact hb
  · rw [List.getElem?_set_ne e] at h3
    exact (h.dk j d a y h1 h2 h3).grown hg (fun e2 => e (nd_d h.nd hi (by injection e2 with e2; rw [← e2]; exact h1)))
theorem PlAt.setL (h : PlAt w lo R s A C p) {last' : ByteArray} (hg : w.grownBy w' (some R.pb)) (hb : PpBlk w' R s A.length C.length last') : PlAt w' lo R s A C ⟨p.dk, p.wt, last'⟩ := by
  have hm : R.pb ∈ R.ids := List.mem_cons_self ..
  exact ⟨hb, h.dr.other hg (fun g e => by injection e with e; subst e; exact fun e2 => h.dn _ e2 hm), h.wr.other hg (fun g e => by injection e with e; subst e; exact fun e2 => h.wn _ e2 hm), h.dl, h.wl,
    fun j d a y h1 h2 h3 => (h.dk j d a y h1 h2 h3).grown hg (fun e => nd_pd h.nd h1 (by injection e with e; exact e.symm)), fun j d a y h1 h2 h3 => (h.wt j d a y h1 h2 h3).grown hg (fun e => nd_pw h.nd h1 (by injection e with e; exact e.symm)), h.nd, h.dn, h.wn, h.lo, h.dl2, h.wl2⟩
theorem PlAt.desk (h : PlAt w lo R s A C p) {i : Nat} {a : AgV} (ha : A[i]? = some a) : ∃ g o b, R.D = some ⟨g, o, none⟩ ∧ R.di[i]? = some b ∧ w.cell? ⟨g, o + i, none⟩ = some (ptrV b) ∧ p.dk[i]? = some (dkAt p.dk i) ∧ DkBlk w b a (dkAt p.dk i) := by
  have hi := (List.getElem?_eq_some_iff.1 ha).1
  obtain ⟨b, hb⟩ : ∃ b, R.di[i]? = some b := ⟨_, List.getElem?_eq_getElem (by rw [h.dl]; exact hi)⟩
  obtain ⟨x, hx⟩ : ∃ x, p.dk[i]? = some x := ⟨_, List.getElem?_eq_getElem (by rw [h.dl2]; exact hi)⟩
  obtain ⟨g, o, hD, _⟩ := h.dr.pos (by omega)
  have hr := h.dr
  rw [hD] at hr
  refine ⟨g, o, b, hD, hb, ?_, by rw [dkAt_some hx]; exact hx, by rw [dkAt_some hx]; exact h.dk i b a x hb ha hx⟩
  exact hr.cell1 (by rw [List.getElem?_map, hb]; rfl)
theorem PlAt.waiter (h : PlAt w lo R s A C p) {i : Nat} {c : CaV} (hc : C[i]? = some c) : ∃ g o b, R.W = some ⟨g, o, none⟩ ∧ R.wi[i]? = some b ∧ w.cell? ⟨g, o + i, none⟩ = some (ptrV b) ∧ p.wt[i]? = some (wtAt p.wt i) ∧ WtBlk w b c (wtAt p.wt i) := by
  have hi := (List.getElem?_eq_some_iff.1 hc).1
  obtain ⟨b, hb⟩ : ∃ b, R.wi[i]? = some b := ⟨_, List.getElem?_eq_getElem (by rw [h.wl]; exact hi)⟩
  obtain ⟨x, hx⟩ : ∃ x, p.wt[i]? = some x := ⟨_, List.getElem?_eq_getElem (by rw [h.wl2]; exact hi)⟩
  obtain ⟨g, o, hD, _⟩ := h.wr.pos (by omega)
  have hr := h.wr
  rw [hD] at hr
  refine ⟨g, o, b, hD, hb, ?_, by rw [wtAt_some hx]; exact hx, by rw [wtAt_some hx]; exact h.wt i b c x hb hc hx⟩
  exact hr.cell1 (by rw [List.getElem?_map, hb]; rfl)
end
end Go.Proofs.YtpeoijngmglbfaaGreatDoor

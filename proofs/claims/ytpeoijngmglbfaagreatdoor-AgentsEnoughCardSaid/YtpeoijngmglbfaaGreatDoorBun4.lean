/- The program's player as it lies in memory: desks and waiters behind pointers; what a store leaves. Conditions: none. -/
import Derived.Test.YtpeoijngmglbfaaGreatDoorBun3
import Derived.Test.YtpeoijngmglbfaaGreatDoorRo1
import Derived.Test.YtpeoijngmglbfaaGreatDoorSe1
namespace Go.Proofs.YtpeoijngmglbfaaGreatDoor
section
open Go.RowKit

theorem Tryz.pdT : StructT Tryz.prog 121 9 := ⟨_, Tryz.underlying121, rfl, by kernel_rfl⟩
theorem Tryz.pwT : StructT Tryz.prog 111 14 := ⟨_, Tryz.underlying111, rfl, by kernel_rfl⟩
theorem Tryz.ppT : StructT Tryz.prog 118 6 := ⟨_, Tryz.underlying118, rfl, by kernel_rfl⟩
theorem storeCells_from (g i : Nat) (vs : List Value) : ∀ k, storeCells ⟨g, i, none⟩ vs k = storeCells ⟨g, 0, none⟩ vs (i + k) := by
  induction vs with
  | nil => intro k; rfl
  | cons v vs ih =>
    intro k
    show (do store ((⟨g, i, none⟩ : Addr).add k) v; storeCells ⟨g, i, none⟩ vs (k + 1)) = (do store ((⟨g, 0, none⟩ : Addr).add (i + k)) v; storeCells ⟨g, 0, none⟩ vs (i + k + 1))
    rw [add_mk, add_mk, Nat.zero_add, ih (k + 1), Nat.add_assoc]
section
variable {P : Program} {w : World} {o : Oper} {a : Act} {K : Act → World → Prop} {Q : Exit → Act → World → Prop}
/-- The last cells of a block, stored as a struct. -/
theorem wp_store_tail {ty : TypeId} {n : Nat} (T : StructT P ty n) (x y : Operand) (ho : o.op = .store ty x y) (g i : Nat) (hx : a.eval x = .pointer (some ⟨g, i, none⟩)) (t : TypeId) (cur cs new : Array Value) (hy : a.eval y = .agg cs) (hb : Blk w g t cur)
    (hn : cs.size = n) (hc : i + cs.size = cur.size) (h1 : ∀ u ∈ cs.toList, u.oneCell' = true) (hnew : (cur.toList.take i ++ cs.toList).toArray = new) (h : ∀ w', Stored w g t new w' → K (a.put o.dst undef) w') : o.wp P a w K Q := by
  obtain ⟨d, hd1, hd2, hd3⟩ := T
  cases hq : P.info? ty with
  | none => simp [hq] at hd3
  | some inf =>
    have hs : inf.size = n := by simpa [hq] using hd3
    have hrun := run_storeCells_from (P := P) g t cs.toList i cur w hb (by simp; omega) h1
    rw [hnew] at hrun
    have hst : (Instr.storeAt ty (.pointer (some ⟨g, i, none⟩)) (.agg cs)).run P w = .ok () (w.setRow g new) := by
      have hrun2 : (storeCells ⟨g, i, none⟩ cs.toList 0).run P w = .ok () (w.setRow g new) := by
        rw [← hrun]
        rw [storeCells_from g i cs.toList 0]; rfl
      simp [Instr.storeAt, Instr.sureAddr, storeVar, sizeOf, typeInfo, hq, hs, Value.cells, hn, hrun2]
    unfold Oper.wp execOp
    simp only [ho, hx, hy, Sem.run_bind, Sem.run_pure, Result.andThen_ok, hst]
    refine h _ ⟨?_, ⟨rfl, rfl, rfl, ?_, ?_⟩, ?_⟩
    · have hlt := hb.lt
      unfold Blk at hb ⊢
      simp [World.setRow, Array.getElem?_modify, hb]
    · simp [World.setRow]
    · intro k hk hne
      simp only [World.setRow, Array.getElem?_modify]
      rw [if_neg (fun e => hne (by rw [e]))]
    · simp [World.setRow]
variable {ops : Array Oper} {rest : List Oper}
theorem wpl_store_tail {ty : TypeId} {n : Nat} (T : StructT P ty n) (hgd : o.guard = none) (x y : Operand) (ho : o.op = .store ty x y) (g i : Nat) (hx : a.eval x = .pointer (some ⟨g, i, none⟩)) (t : TypeId) (cur cs new : Array Value) (hy : a.eval y = .agg cs) (hb : Blk w g t cur)
    (hn : cs.size = n) (hc : i + cs.size = cur.size) (h1 : ∀ u ∈ cs.toList, u.oneCell' = true) (hnew : (cur.toList.take i ++ cs.toList).toArray = new) (h : ∀ w', Stored w g t new w' → wpList P ops Q rest (a.put o.dst undef) w') : wpList P ops Q (o :: rest) a w :=
  wpList_plain hgd fun _ hK => wp_store_tail T x y ho g i hx t cur cs new hy hb hn hc h1 hnew fun w' hs => hK _ _ (h w' hs)
end
/-! The player in memory. -/
structure PlC where
  pb : Nat
  D : Option Addr
  dc : Nat
  W : Option Addr
  wc : Nat
  di : List Nat
  wi : List Nat
def ptrV (b : Nat) : Value := .pointer (some ⟨b, 0, none⟩)
def DkBlk (w : World) (b : Nat) (a : AgV) (x : DkV) : Prop := Blk w b 121 #[.string a.key, .slice a.sA a.sn a.sc, .int .i64 a.fr, .int .i64 a.til, .slice a.pA a.pn a.pc, .int .i64 a.wrap, .int .i64 x.tk, .int .i64 x.en, .int .i64 x.n]
def WtBlk (w : World) (b : Nat) (c : CaV) (x : WtV) : Prop := Blk w b 111 #[.string c.id, .string c.skill, .int .i64 c.at_, .int .i64 c.least, .int .i64 c.prio, .int .i64 c.pat, .int .i64 c.talk, .bool c.back, .int .i64 x.how, .string x.seat.ca, .string x.seat.ag, .int .i64 x.seat.how, .int .i64 x.seat.beg, .int .i64 x.seat.fin]
def PpBlk (w : World) (R : PlC) (s : StyV) (m n : Nat) (last : ByteArray) : Prop := Blk w R.pb 118 #[.int .i64 s.kind, .int .i64 s.age, .int .i64 s.say, .slice R.D m R.dc, .slice R.W n R.wc, .string last]
def PlC.ids (R : PlC) : List Nat := R.pb :: (R.di ++ R.wi)
structure PlAt (w : World) (lo : Nat) (R : PlC) (s : StyV) (A : List AgV) (C : List CaV) (p : PlS) : Prop where
  pl : PpBlk w R s A.length C.length p.last
  dr : Reads w lo 1 R.D A.length R.dc (R.di.map ptrV)
  wr : Reads w lo 1 R.W C.length R.wc (R.wi.map ptrV)
  dl : R.di.length = A.length
  wl : R.wi.length = C.length
  dk : ∀ (i b : Nat) (a : AgV) (x : DkV), R.di[i]? = some b → A[i]? = some a → p.dk[i]? = some x → DkBlk w b a x
  wt : ∀ (i b : Nat) (c : CaV) (x : WtV), R.wi[i]? = some b → C[i]? = some c → p.wt[i]? = some x → WtBlk w b c x
  nd : R.ids.Nodup
  dn : ∀ g, blkOf R.D = some g → g ∉ R.ids
  wn : ∀ g, blkOf R.W = some g → g ∉ R.ids
  lo : ∀ b ∈ R.ids, lo ≤ b
  dl2 : p.dk.length = A.length
  wl2 : p.wt.length = C.length
section
variable {w w' : World} {lo : Nat} {R : PlC} {s : StyV} {A : List AgV} {C : List CaV} {p : PlS}
theorem Reads.other {k n c : Nat} {A' : Option Addr} {xs : List Value} {r : Option Nat} (h : Reads w lo k A' n c xs) (hg : w.grownBy w' r) (hr : ∀ g, r = some g → blkOf A' ≠ some g) : Reads w' lo k A' n c xs := by
  obtain ⟨h1, h2, h3⟩ := h
  refine ⟨h1, h2, fun hn => ?_⟩
  obtain ⟨g, o, e, hl, hlt, hc⟩ := h3 hn
  have hb : w'.heap[g]? = w.heap[g]? := hg.block g hlt (fun e2 => hr g e2.symm (by rw [e]; rfl))
  refine ⟨g, o, e, hl, by have := hg.size; omega, fun j u hu => ?_⟩
  have h4 := hc j u hu
  unfold World.cell? at h4 ⊢
  rw [hb]
  exact h4
theorem Reads.pos {k n c : Nat} {A' : Option Addr} {xs : List Value} (h : Reads w lo k A' n c xs) (hn : 0 < n) : ∃ g o, A' = some ⟨g, o, none⟩ ∧ lo ≤ g ∧ g < w.heap.size := by
  obtain ⟨g, o, e, h1, h2, _⟩ := h.2.2 hn
  exact ⟨g, o, e, h1, h2⟩
theorem Reads.cell1 {n c g o i : Nat} {xs : List Value} {u : Value} (h : Reads w lo 1 (some ⟨g, o, none⟩) n c xs) (hu : xs[i]? = some u) : w.cell? ⟨g, o + i, none⟩ = some u := by
  have hn : 0 < n := by
    have := (List.getElem?_eq_some_iff.1 hu).1
    have := h.len
    omega
  obtain ⟨g', o', e, _, _, hc⟩ := h.2.2 hn
  obtain ⟨rfl, rfl⟩ : g = g' ∧ o = o' := by simpa using e
  exact hc i u hu
theorem ptrRow {A' : Option Addr} {n c : Nat} {l : List Nat} {r : Option Nat} (h : Reads w lo 1 A' n c (l.map ptrV)) (hg : w.grownBy w' r) (hr : ∀ g, r = some g → blkOf A' ≠ some g) : Reads w' lo 1 A' n c (l.map ptrV) := h.other hg hr
theorem mem_d {i b : Nat} (h : R.di[i]? = some b) : b ∈ R.ids := List.mem_cons_of_mem _ (List.mem_append_left _ (mem_of_get h))
theorem mem_w {i b : Nat} (h : R.wi[i]? = some b) : b ∈ R.ids := List.mem_cons_of_mem _ (List.mem_append_right _ (mem_of_get h))
theorem nd_d (h : R.ids.Nodup) {i j b : Nat} (h1 : R.di[i]? = some b) (h2 : R.di[j]? = some b) : i = j := by
  have h3 := (List.nodup_append.1 (List.nodup_cons.1 h).2).1
  exact (List.getElem?_inj (List.getElem?_eq_some_iff.1 h1).1 h3).1 (h1.trans h2.symm)
theorem nd_w (h : R.ids.Nodup) {i j b : Nat} (h1 : R.wi[i]? = some b) (h2 : R.wi[j]? = some b) : i = j := by
  have h3 := (List.nodup_append.1 (List.nodup_cons.1 h).2).2.1
  exact (List.getElem?_inj (List.getElem?_eq_some_iff.1 h1).1 h3).1 (h1.trans h2.symm)
theorem nd_dw (h : R.ids.Nodup) {i j b c : Nat} (h1 : R.di[i]? = some b) (h2 : R.wi[j]? = some c) : b ≠ c := (List.nodup_append.1 (List.nodup_cons.1 h).2).2.2 b (mem_of_get h1) c (mem_of_get h2)
theorem nd_pd (h : R.ids.Nodup) {i b : Nat} (h1 : R.di[i]? = some b) : R.pb ≠ b := fun e => (List.nodup_cons.1 h).1 (List.mem_append_left _ (by rw [e]; exact mem_of_get h1))
theorem nd_pw (h : R.ids.Nodup) {i b : Nat} (h1 : R.wi[i]? = some b) : R.pb ≠ b := fun e => (List.nodup_cons.1 h).1 (List.mem_append_right _ (by rw [e]; exact mem_of_get h1))
/-- Nothing of the player is stored to. -/
theorem PlAt.kept (h : PlAt w lo R s A C p) {r : Option Nat} (hg : w.grownBy w' r) (hr : ∀ g, r = some g → g ∉ R.ids ∧ blkOf R.D ≠ some g ∧ blkOf R.W ≠ some g) : PlAt w' lo R s A C p := by
  have ne : ∀ b ∈ R.ids, some b ≠ r := fun b hb e => (hr b e.symm).1 hb
  exact ⟨h.pl.grown hg (ne _ (List.mem_cons_self ..)), h.dr.other hg (fun g e => (hr g e).2.1), h.wr.other hg (fun g e => (hr g e).2.2), h.dl, h.wl, fun i b a x h1 h2 h3 => (h.dk i b a x h1 h2 h3).grown hg (ne _ (mem_d h1)), fun i b a x h1 h2 h3 => (h.wt i b a x h1 h2 h3).grown hg (ne _ (mem_w h1)), h.nd, h.dn, h.wn, h.lo, h.dl2, h.wl2⟩
theorem PlAt.kept0 (h : PlAt w lo R s A C p) (hg : w.grownBy w' none) : PlAt w' lo R s A C p := h.kept hg fun g e => by cases e
theorem PlAt.setW (h : PlAt w lo R s A C p) {i b : Nat} {c : CaV} {x : WtV} (hi : R.wi[i]? = some b) (hc : C[i]? = some c) (hg : w.grownBy w' (some b)) (hb : WtBlk w' b c x) : PlAt w' lo R s A C ⟨p.dk, p.wt.set i x, p.last⟩ := by
  have hm := mem_w hi
  refine ⟨h.pl.grown hg (fun e => nd_pw h.nd hi (by injection e)), h.dr.other hg (fun g e => by injection e with e; subst e; exact fun e2 => h.dn _ e2 hm), h.wr.other hg (fun g e => by injection e with e; subst e; exact fun e2 => h.wn _ e2 hm), h.dl, h.wl,
    fun j d a y h1 h2 h3 => (h.dk j d a y h1 h2 h3).grown hg (fun e => nd_dw h.nd h1 hi (by injection e)), fun j d a y h1 h2 h3 => ?_, h.nd, h.dn, h.wn, h.lo, h.dl2, by show (p.wt.set _ _).length = _; rw [List.length_set]; exact h.wl2⟩
  change (p.wt.set i x)[j]? = some y at h3
  by_cases e : i = j
  · subst e
    have hlt := (List.getElem?_eq_some_iff.1 h3).1
    rw [List.length_set] at hlt
    rw [List.getElem?_set_self hlt] at h3
    injection h3 with h3
    subst h3
    rw [hi] at h1; injection h1 with h1; subst h1
    rw [hc] at h2; injection h2 with h2; subst h2
    exact hb
  · rw [List.getElem?_set_ne e] at h3
    exact (h.wt j d a y h1 h2 h3).grown hg (fun e2 => e (nd_w h.nd hi (by injection e2 with e2; rw [← e2]; exact h1)))
theorem PlAt.setD (h : PlAt w lo R s A C p) {i b : Nat} {a : AgV} {x : DkV} (hi : R.di[i]? = some b) (ha : A[i]? = some a) (hg : w.grownBy w' (some b)) (hb : DkBlk w' b a x) : PlAt w' lo R s A C ⟨p.dk.set i x, p.wt, p.last⟩ := by
  have hm := mem_d hi
  refine ⟨h.pl.grown hg (fun e => nd_pd h.nd hi (by injection e)), h.dr.other hg (fun g e => by injection e with e; subst e; exact fun e2 => h.dn _ e2 hm), h.wr.other hg (fun g e => by injection e with e; subst e; exact fun e2 => h.wn _ e2 hm), h.dl, h.wl,
    fun j d a y h1 h2 h3 => ?_, fun j d a y h1 h2 h3 => (h.wt j d a y h1 h2 h3).grown hg (fun e => nd_dw h.nd hi h1 (by injection e with e; exact e.symm)), h.nd, h.dn, h.wn, h.lo, by show (p.dk.set _ _).length = _; rw [List.length_set]; exact h.dl2, h.wl2⟩
  change (p.dk.set i x)[j]? = some y at h3
  by_cases e : i = j
  · subst e
    have hlt := (List.getElem?_eq_some_iff.1 h3).1
    rw [List.length_set] at hlt
    rw [List.getElem?_set_self hlt] at h3
    injection h3 with h3
    subst h3
    rw [hi] at h1; injection h1 with h1; subst h1
    rw [ha] at h2; injection h2 with h2; subst h2
    exact hb
  · rw [List.getElem?_set_ne e] at h3
    exact (h.dk j d a y h1 h2 h3).grown hg (fun e2 => e (nd_d h.nd hi (by injection e2 with e2; rw [← e2]; exact h1)))
theorem PlAt.setL (h : PlAt w lo R s A C p) {last' : ByteArray} (hg : w.grownBy w' (some R.pb)) (hb : PpBlk w' R s A.length C.length last') : PlAt w' lo R s A C ⟨p.dk, p.wt, last'⟩ := by
  have hm : R.pb ∈ R.ids := List.mem_cons_self ..
  exact ⟨hb, h.dr.other hg (fun g e => by injection e with e; subst e; exact fun e2 => h.dn _ e2 hm), h.wr.other hg (fun g e => by injection e with e; subst e; exact fun e2 => h.wn _ e2 hm), h.dl, h.wl,
    fun j d a y h1 h2 h3 => (h.dk j d a y h1 h2 h3).grown hg (fun e => nd_pd h.nd h1 (by injection e with e; exact e.symm)), fun j d a y h1 h2 h3 => (h.wt j d a y h1 h2 h3).grown hg (fun e => nd_pw h.nd h1 (by injection e with e; exact e.symm)), h.nd, h.dn, h.wn, h.lo, h.dl2, h.wl2⟩
theorem PlAt.desk (h : PlAt w lo R s A C p) {i : Nat} {a : AgV} (ha : A[i]? = some a) : ∃ g o b, R.D = some ⟨g, o, none⟩ ∧ R.di[i]? = some b ∧ w.cell? ⟨g, o + i, none⟩ = some (ptrV b) ∧ p.dk[i]? = some (dkAt p.dk i) ∧ DkBlk w b a (dkAt p.dk i) := by
  have hi := (List.getElem?_eq_some_iff.1 ha).1
  obtain ⟨b, hb⟩ : ∃ b, R.di[i]? = some b := ⟨_, List.getElem?_eq_getElem (by rw [h.dl]; exact hi)⟩
  obtain ⟨x, hx⟩ : ∃ x, p.dk[i]? = some x := ⟨_, List.getElem?_eq_getElem (by rw [h.dl2]; exact hi)⟩
  obtain ⟨g, o, hD, _⟩ := h.dr.pos (by omega)
  have hr := h.dr
  rw [hD] at hr
  refine ⟨g, o, b, hD, hb, ?_, by rw [dkAt_some hx]; exact hx, by rw [dkAt_some hx]; exact h.dk i b a x hb ha hx⟩
  exact hr.cell1 (by rw [List.getElem?_map, hb]; rfl)
theorem PlAt.waiter (h : PlAt w lo R s A C p) {i : Nat} {c : CaV} (hc : C[i]? = some c) : ∃ g o b, R.W = some ⟨g, o, none⟩ ∧ R.wi[i]? = some b ∧ w.cell? ⟨g, o + i, none⟩ = some (ptrV b) ∧ p.wt[i]? = some (wtAt p.wt i) ∧ WtBlk w b c (wtAt p.wt i) := by
  have hi := (List.getElem?_eq_some_iff.1 hc).1
  obtain ⟨b, hb⟩ : ∃ b, R.wi[i]? = some b := ⟨_, List.getElem?_eq_getElem (by rw [h.wl]; exact hi)⟩
  obtain ⟨x, hx⟩ : ∃ x, p.wt[i]? = some x := ⟨_, List.getElem?_eq_getElem (by rw [h.wl2]; exact hi)⟩
  obtain ⟨g, o, hD, _⟩ := h.wr.pos (by omega)
  have hr := h.wr
  rw [hD] at hr
  refine ⟨g, o, b, hD, hb, ?_, by rw [wtAt_some hx]; exact hx, by rw [wtAt_some hx]; exact h.wt i b c x hb hc hx⟩
  exact hr.cell1 (by rw [List.getElem?_map, hb]; rfl)
end
end
end Go.Proofs.YtpeoijngmglbfaaGreatDoor
/- Contracts of fraction and of the document's Lowest, at numbers that are not below 0. Conditions: the second number is above 0. -/
namespace Go.Proofs.YtpeoijngmglbfaaGreatDoor
section
open Go.RowKit

theorem Tryz.frT : StructT Tryz.prog 100 2 := ⟨_, Tryz.underlying100, rfl, by kernel_rfl⟩
set_option maxHeartbeats 8000000 in
set_option maxRecDepth 100000 in
theorem frac_any (p q : Nat) (hp : p ≤ 1000000000000000000) (hq : q ≤ 1000000000000000000) (hq0 : 0 < q) (w : World) :
    Calls Tryz.prog 109 #[.int .i64 p, .int .i64 q] w (RetV (.agg #[.int .i64 (lowV p q).1, .int .i64 (lowV p q).2]) w) := by
  obtain ⟨w1, hw1⟩ : ∃ w1, w.alloc (.cells #[.int .i64 0, .int .i64 0] 100) = w1 := ⟨_, rfl⟩
  have HR1 := Lib.hid (show Blk w1 w.heap.size 100 #[.int .i64 0, .int .i64 0] by rw [← hw1]; exact Blk.new _ _ _)
  have HG1 := Lib.hid (show w.grownBy w1 none by rw [← hw1]; exact gr_alloc (gr_refl _ _) _)
  have HW1 := Lib.hid hw1
  clear hw1
  go_enter Tryz.func109, Tryz.ntmps109
  go_upto_region 1 with (fail)
  rw [HW1.out]
  go_wp2_with fail
  go_loopw [5, 6] (fun v5 v6 wr => ∃ x y : Nat, v5 = .int .i64 x ∧ v6 = .int .i64 y ∧ Nat.gcd x y = Nat.gcd p q ∧ 0 < y ∧ x ≤ 1000000000000000000 ∧ y ≤ 1000000000000000000 ∧ w.grownBy wr none ∧ Blk wr w.heap.size 100 #[.int .i64 0, .int .i64 0]) (fun v5 _ _ => (intOf v5).toNat)
  case atStart => exact ⟨p, q, rfl, rfl, rfl, hq0, hp, hq, HG1.out, HR1.out⟩
  case round =>
    clear HG1 HR1
    obtain ⟨x, y, rfl, rfl, hgcd, hy, hx1, hy1, hg, hr⟩ := hrel
    have HG := Lib.hid hg; have HR := Lib.hid hr; have HGC := Lib.hid hgcd
    have zr := hr.lt
    clear hg hr hgcd
    by_cases hx : 0 < x
    · have dx : decide ((0 : Int) < (x : Int)) = true := decide_eq_true (by omega)
      have dx0 : ¬ x = 0 := by omega
      obtain ⟨r, hr⟩ : ∃ r : Nat, y % x = r := ⟨_, rfl⟩
      have hrx : r < x := by rw [← hr]; exact Nat.mod_lt _ hx
      have e1 : (y : Int).tmod (x : Int) = (r : Int) := by rw [← hr]; exact (Int.ofNat_tmod y x).symm
      have q1 : IntKind.i64.wrap (r : Int) = (r : Int) := IntWalk.i64_in _ (by omega)
      have HN := Lib.hid (show Nat.gcd r x = Nat.gcd p q by rw [← HGC.out, ← hr]; exact (Nat.gcd_rec x y).symm)
      clear hr
      go_wp2_with fail
      go_roundw
      case rel => exact ⟨r, x, by go_num, by go_num, HN.out, hx, by omega, by omega, HG.out, HR.out⟩
      case measure => simp [intOf]; omega
    · obtain rfl : x = 0 := by omega
      obtain ⟨d, rfl⟩ : ∃ d : Nat, d = y := ⟨_, rfl⟩
      have hd : d = Nat.gcd p q := by rw [← HGC.out]; exact (Nat.gcd_zero_left d).symm
      have dx : decide ((0 : Int) < ((0 : Nat) : Int)) = false := by decide
      have HD := Lib.hid (show d = Nat.gcd p q from hd)
      have hdp : 0 < d := by omega
      have hdm : d ≤ q := by rw [HD.out]; exact Nat.gcd_le_right p (by omega)
      have hq1 : p / d ≤ p := Nat.div_le_self _ _
      have hq2 : q / d ≤ q := Nat.div_le_self _ _
      obtain ⟨P, hP⟩ : ∃ P : Nat, p / d = P := ⟨_, rfl⟩
      obtain ⟨Q, hQ⟩ : ∃ Q : Nat, q / d = Q := ⟨_, rfl⟩
      have e1 : (p : Int).tdiv (d : Int) = (P : Int) := by rw [← hP]; exact (Int.ofNat_tdiv p d).symm
      have e2 : (q : Int).tdiv (d : Int) = (Q : Int) := by rw [← hQ]; exact (Int.ofNat_tdiv q d).symm
      have q1 : IntKind.i64.wrap (P : Int) = (P : Int) := IntWalk.i64_in _ (by omega)
      have q2 : IntKind.i64.wrap (Q : Int) = (Q : Int) := IntWalk.i64_in _ (by omega)
      have hd0 : ¬ d = 0 := by omega
      have HPQ := Lib.hid (show lowV p q = ((P : Int), (Q : Int)) by
        unfold lowV
        rw [Int.toNat_natCast, Int.toNat_natCast, ← HD.out, ← hP, ← hQ]
        rfl)
      clear hd hP hQ
      go_wp2_with fail
      refine H_begin (fun w' => w.grownBy w' none) (by kernel_rfl) ?_
      have hHeld : w.grownBy wr.drew none := gr_drew HG.out
      refine H_take (k := 0) (v := ?_) (by rfl) (by kernel_rfl) (by kernel_rfl) (by kernel_rfl) (by exact fun _ _ _ h => h) (by rfl) ?_ (by assumption) ?_
      rotate_left 1
      · intro w hSw
        (try dsimp only at hSw)
        go_simp
        (try with_reducible rfl)
      (try simp only [Act.put, List.setIfInBounds_toArray, List.set_cons_zero, List.set_cons_succ])
      refine H_take (k := 1) (v := ?_) (by rfl) (by kernel_rfl) (by kernel_rfl) (by kernel_rfl) (by exact fun _ _ _ h => h) (by rfl) ?_ (by assumption) ?_
      rotate_left 1
      · intro w hSw
        (try dsimp only at hSw)
        go_simp
        (try with_reducible rfl)
      (try simp only [Act.put, List.setIfInBounds_toArray, List.set_cons_zero, List.set_cons_succ])
      refine H_take (k := 2) (v := ?_) (by rfl) (by kernel_rfl) (by kernel_rfl) (by kernel_rfl) (by exact fun _ _ _ h => h) (by rfl) ?_ (by assumption) ?_
      rotate_left 1
      · intro w hSw
        (try dsimp only at hSw)
        go_simp
        (try with_reducible rfl)
      (try simp only [Act.put, List.setIfInBounds_toArray, List.set_cons_zero, List.set_cons_succ])
      refine H_take (k := 3) (v := ?_) (by rfl) (by kernel_rfl) (by kernel_rfl) (by kernel_rfl) (by exact fun _ _ _ h => h) (by rfl) ?_ (by assumption) ?_
      rotate_left 1
      · intro w hSw
        (try dsimp only at hSw)
        go_simp
        (try with_reducible rfl)
      (try simp only [Act.put, List.setIfInBounds_toArray, List.set_cons_zero, List.set_cons_succ])
      refine H_take (k := 4) (v := ?_) (by rfl) (by kernel_rfl) (by kernel_rfl) (by kernel_rfl) (by exact fun _ _ _ h => h) (by rfl) ?_ (by assumption) ?_
      rotate_left 1
      · intro w hSw
        (try dsimp only at hSw)
        go_simp
        (try with_reducible rfl)
      (try simp only [Act.put, List.setIfInBounds_toArray, List.set_cons_zero, List.set_cons_succ])
      refine H_take (k := 5) (v := ?_) (by rfl) (by kernel_rfl) (by kernel_rfl) (by kernel_rfl) (by exact fun _ _ _ h => h) (by rfl) ?_ (by assumption) ?_
      rotate_left 1
      · intro w hSw
        (try dsimp only at hSw)
        go_simp
        (try with_reducible rfl)
      (try simp only [Act.put, List.setIfInBounds_toArray, List.set_cons_zero, List.set_cons_succ])
      refine H_take (k := 6) (v := ?_) (by rfl) (by kernel_rfl) (by kernel_rfl) (by kernel_rfl) (by exact fun _ _ _ h => h) (by rfl) ?_ (by assumption) ?_
      rotate_left 1
      · intro w hSw
        (try dsimp only at hSw)
        go_simp
        (try with_reducible rfl)
      (try simp only [Act.put, List.setIfInBounds_toArray, List.set_cons_zero, List.set_cons_succ])
      refine H_run (k := 7) (by rfl) (by kernel_rfl) (by rfl) (fun K hK => ?_)
      refine wp_store_all Tryz.frT _ _ (by rfl) w.heap.size (by rfl) 100 _ #[.int .i64 P, .int .i64 Q] (by rfl) HR.out.drew rfl rfl (by simp [Value.oneCell']) ?_
      intro w9 h9
      have hg9 : w.grownBy w9 none := gr_trans hHeld h9.2.1 (fun g e => .inr (by injection e with e; omega))
      have HX := Lib.hid h9.1
      refine hK _ _ hg9 ?_
      clear hK K h9
      refine H_done (by kernel_rfl) ?_
      have HG9 := Lib.hid hg9
      clear hg9
      go_wp2_with fail
      refine ret_cell Tryz.frT rfl w.heap.size 100 #[.int .i64 P, .int .i64 Q] rfl HX.out rfl rfl ?_
      exact ⟨by rw [HPQ.out], HG9.out⟩
set_option maxHeartbeats 8000000 in
set_option maxRecDepth 100000 in
theorem lowest_any (p q : Nat) (hp : p ≤ 1000000000000000000) (hq : q ≤ 1000000000000000000) (hq0 : 0 < q) (w : World) :
    Calls Tryz.prog 110 #[.int .i64 p, .int .i64 q] w (RetV (.agg #[.int .i64 (lowV p q).1, .int .i64 (lowV p q).2]) w) := by
  obtain ⟨w1, hw1⟩ : ∃ w1, w.alloc (.cells #[.int .i64 0, .int .i64 0] 100) = w1 := ⟨_, rfl⟩
  have HR1 := Lib.hid (show Blk w1 w.heap.size 100 #[.int .i64 0, .int .i64 0] by rw [← hw1]; exact Blk.new _ _ _)
  have HG1 := Lib.hid (show w.grownBy w1 none by rw [← hw1]; exact gr_alloc (gr_refl _ _) _)
  have HW1 := Lib.hid hw1
  clear hw1
  go_enter Tryz.func110, Tryz.ntmps110
  go_upto_region 1 with (fail)
  rw [HW1.out]
  go_wp2_with fail
  go_loopw [5, 6] (fun v5 v6 wr => ∃ x y : Nat, v5 = .int .i64 x ∧ v6 = .int .i64 y ∧ Nat.gcd x y = Nat.gcd p q ∧ x ≤ 1000000000000000000 ∧ y ≤ 1000000000000000000 ∧ w.grownBy wr none ∧ Blk wr w.heap.size 100 #[.int .i64 0, .int .i64 0]) (fun _ v6 _ => (intOf v6).toNat)
  case atStart => exact ⟨p, q, rfl, rfl, rfl, hp, hq, HG1.out, HR1.out⟩
  case round =>
    clear HG1 HR1
    obtain ⟨x, y, rfl, rfl, hgcd, hx1, hy1, hg, hr⟩ := hrel
    have HG := Lib.hid hg; have HR := Lib.hid hr; have HGC := Lib.hid hgcd
    have zr := hr.lt
    clear hg hr hgcd
    by_cases hy : 0 < y
    · have dy : ((y : Int) != 0) = true := by simp; omega
      have dy0 : ¬ y = 0 := by omega
      obtain ⟨r, hr⟩ : ∃ r : Nat, x % y = r := ⟨_, rfl⟩
      have hry : r < y := by rw [← hr]; exact Nat.mod_lt _ hy
      have e1 : (x : Int).tmod (y : Int) = (r : Int) := by rw [← hr]; exact (Int.ofNat_tmod x y).symm
      have q1 : IntKind.i64.wrap (r : Int) = (r : Int) := IntWalk.i64_in _ (by omega)
      have HN := Lib.hid (show Nat.gcd y r = Nat.gcd p q by rw [← HGC.out, ← hr, Nat.gcd_comm, Nat.gcd_comm x y]; exact (Nat.gcd_rec y x).symm)
      clear hr
      go_wp2_with fail
      go_quiet (fail)
      go_wp2_with fail
      go_roundw
      case rel => exact ⟨y, r, by go_num, by go_num, HN.out, by omega, by omega, gr_drewN HG.out _, HR.out.drewN _⟩
      case measure => simp [intOf]; omega
    · obtain rfl : y = 0 := by omega
      obtain ⟨d, rfl⟩ : ∃ d : Nat, d = x := ⟨_, rfl⟩
      have hd : d = Nat.gcd p q := by rw [← HGC.out]; exact (Nat.gcd_zero_right d).symm
      have hdz : 0 < d := by rw [hd]; exact Nat.gcd_pos_of_pos_right p hq0
      have dy : (((0 : Nat) : Int) != 0) = false := by decide
      have dn : decide ((d : Int) < 0) = false := decide_eq_false (by omega)
      have HD := Lib.hid (show d = Nat.gcd p q from hd)
      have hdp : 0 < d := by omega
      have hdm : d ≤ q := by rw [HD.out]; exact Nat.gcd_le_right p (by omega)
      have hq1 : p / d ≤ p := Nat.div_le_self _ _
      have hq2 : q / d ≤ q := Nat.div_le_self _ _
      obtain ⟨P, hP⟩ : ∃ P : Nat, p / d = P := ⟨_, rfl⟩
      obtain ⟨Q, hQ⟩ : ∃ Q : Nat, q / d = Q := ⟨_, rfl⟩
      have e1 : (p : Int).tdiv (d : Int) = (P : Int) := by rw [← hP]; exact (Int.ofNat_tdiv p d).symm
      have e2 : (q : Int).tdiv (d : Int) = (Q : Int) := by rw [← hQ]; exact (Int.ofNat_tdiv q d).symm
      have q1 : IntKind.i64.wrap (P : Int) = (P : Int) := IntWalk.i64_in _ (by omega)
      have q2 : IntKind.i64.wrap (Q : Int) = (Q : Int) := IntWalk.i64_in _ (by omega)
      have hd0 : ¬ d = 0 := by omega
      have HPQ := Lib.hid (show lowV p q = ((P : Int), (Q : Int)) by
        unfold lowV
        rw [Int.toNat_natCast, Int.toNat_natCast, ← HD.out, ← hP, ← hQ]
        rfl)
      clear hd hP hQ
      go_wp2_with fail
      refine H_begin (fun w' => w.grownBy w' none) (by kernel_rfl) ?_
      have hHeld : w.grownBy wr.drew none := gr_drew HG.out
      refine H_take (k := 0) (v := ?_) (by rfl) (by kernel_rfl) (by kernel_rfl) (by kernel_rfl) (by exact fun _ _ _ h => h) (by rfl) ?_ (by assumption) ?_
      rotate_left 1
      · intro w hSw
        (try dsimp only at hSw)
        go_simp
        (try with_reducible rfl)
      (try simp only [Act.put, List.setIfInBounds_toArray, List.set_cons_zero, List.set_cons_succ])
      refine H_take (k := 1) (v := ?_) (by rfl) (by kernel_rfl) (by kernel_rfl) (by kernel_rfl) (by exact fun _ _ _ h => h) (by rfl) ?_ (by assumption) ?_
      rotate_left 1
      · intro w hSw
        (try dsimp only at hSw)
        go_simp
        (try with_reducible rfl)
      (try simp only [Act.put, List.setIfInBounds_toArray, List.set_cons_zero, List.set_cons_succ])
      refine H_take (k := 2) (v := ?_) (by rfl) (by kernel_rfl) (by kernel_rfl) (by kernel_rfl) (by exact fun _ _ _ h => h) (by rfl) ?_ (by assumption) ?_
      rotate_left 1
      · intro w hSw
        (try dsimp only at hSw)
        go_simp
        (try with_reducible rfl)
      (try simp only [Act.put, List.setIfInBounds_toArray, List.set_cons_zero, List.set_cons_succ])
      refine H_take (k := 3) (v := ?_) (by rfl) (by kernel_rfl) (by kernel_rfl) (by kernel_rfl) (by exact fun _ _ _ h => h) (by rfl) ?_ (by assumption) ?_
      rotate_left 1
      · intro w hSw
        (try dsimp only at hSw)
        go_simp
        (try with_reducible rfl)
      (try simp only [Act.put, List.setIfInBounds_toArray, List.set_cons_zero, List.set_cons_succ])
      refine H_take (k := 4) (v := ?_) (by rfl) (by kernel_rfl) (by kernel_rfl) (by kernel_rfl) (by exact fun _ _ _ h => h) (by rfl) ?_ (by assumption) ?_
      rotate_left 1
      · intro w hSw
        (try dsimp only at hSw)
        go_simp
        (try with_reducible rfl)
      (try simp only [Act.put, List.setIfInBounds_toArray, List.set_cons_zero, List.set_cons_succ])
      refine H_take (k := 5) (v := ?_) (by rfl) (by kernel_rfl) (by kernel_rfl) (by kernel_rfl) (by exact fun _ _ _ h => h) (by rfl) ?_ (by assumption) ?_
      rotate_left 1
      · intro w hSw
        (try dsimp only at hSw)
        go_simp
        (try with_reducible rfl)
      (try simp only [Act.put, List.setIfInBounds_toArray, List.set_cons_zero, List.set_cons_succ])
      refine H_take (k := 6) (v := ?_) (by rfl) (by kernel_rfl) (by kernel_rfl) (by kernel_rfl) (by exact fun _ _ _ h => h) (by rfl) ?_ (by assumption) ?_
      rotate_left 1
      · intro w hSw
        (try dsimp only at hSw)
        go_simp
        (try with_reducible rfl)
      (try simp only [Act.put, List.setIfInBounds_toArray, List.set_cons_zero, List.set_cons_succ])
      refine H_run (k := 7) (by rfl) (by kernel_rfl) (by rfl) (fun K hK => ?_)
      refine wp_store_all Tryz.frT _ _ (by rfl) w.heap.size (by rfl) 100 _ #[.int .i64 P, .int .i64 Q] (by rfl) HR.out.drew rfl rfl (by simp [Value.oneCell']) ?_
      intro w9 h9
      have hg9 : w.grownBy w9 none := gr_trans hHeld h9.2.1 (fun g e => .inr (by injection e with e; omega))
      have HX := Lib.hid h9.1
      refine hK _ _ hg9 ?_
      clear hK K h9
      refine H_done (by kernel_rfl) ?_
      have HG9 := Lib.hid hg9
      clear hg9
      go_wp2_with fail
      refine ret_cell Tryz.frT rfl w.heap.size 100 #[.int .i64 P, .int .i64 Q] rfl HX.out rfl rfl ?_
      exact ⟨by rw [HPQ.out], HG9.out⟩
end
end Go.Proofs.YtpeoijngmglbfaaGreatDoor

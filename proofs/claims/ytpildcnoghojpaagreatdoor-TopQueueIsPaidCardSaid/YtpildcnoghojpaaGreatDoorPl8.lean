/- Contract of newPlayer. Conditions: agents and callers as they lie in memory. -/
import Derived.Test.YtpildcnoghojpaaGreatDoorPl7
import Derived.Test.YtpildcnoghojpaaGreatDoorBun1
namespace Go.Proofs.YtpildcnoghojpaaGreatDoor
open Go.RowKit

theorem Tryz.dlT : ElemT Tryz.prog 110 114 1 8 (.pointer none) := elemT_of Tryz.underlying110 (by kernel_rfl) rfl (by decide)
def ptRow (b : Nat) : List Value := [.pointer (some ⟨b, 0, none⟩)]
theorem ptRow_flat (l : List Nat) : l.flatMap ptRow = l.map ptrV := by
  induction l with
  | nil => rfl
  | cons b l ih => rw [List.flatMap_cons, ih]; rfl
/-- A player that is being made: k desks, j waiters. -/
structure NP (base w : World) (R : PlC) (s : StyV) (A : List AgV) (C : List CaV) (k j : Nat) : Prop where
  g : base.grownBy w none
  pl : Blk w R.pb 113 #[.int .i64 s.kind, .int .i64 s.age, .int .i64 s.say, .slice R.D k R.dc, .slice R.W j R.wc, .string ⟨#[]⟩]
  od : OwnR ptRow 1 w base.heap.size 114 R.D k R.dc R.di
  ow : OwnR ptRow 1 w base.heap.size 117 R.W j R.wc R.wi
  dk : ∀ (i b : Nat) (a : AgV), R.di[i]? = some b → A[i]? = some a → Blk w b 116 #[.string a.key, .slice a.sA a.sn a.sc, .int .i64 a.fr, .int .i64 a.til, .slice a.pA a.pn a.pc, .int .i64 a.wrap, .int .i64 (⟨0, 0, 0⟩ : DkV).tk, .int .i64 (⟨0, 0, 0⟩ : DkV).en, .int .i64 (⟨0, 0, 0⟩ : DkV).n]
  wt : ∀ (i b : Nat) (c : CaV), R.wi[i]? = some b → C[i]? = some c → Blk w b 119 #[.string c.id, .string c.skill, .int .i64 c.at_, .int .i64 c.least, .int .i64 c.prio, .int .i64 c.pat, .int .i64 c.talk, .bool c.back, .int .i64 (⟨0, ⟨c.id, ⟨#[]⟩, 4, 0, 0⟩⟩ : WtV).how, .string (⟨0, ⟨c.id, ⟨#[]⟩, 4, 0, 0⟩⟩ : WtV).seat.ca, .string (⟨0, ⟨c.id, ⟨#[]⟩, 4, 0, 0⟩⟩ : WtV).seat.ag, .int .i64 (⟨0, ⟨c.id, ⟨#[]⟩, 4, 0, 0⟩⟩ : WtV).seat.how, .int .i64 (⟨0, ⟨c.id, ⟨#[]⟩, 4, 0, 0⟩⟩ : WtV).seat.beg, .int .i64 (⟨0, ⟨c.id, ⟨#[]⟩, 4, 0, 0⟩⟩ : WtV).seat.fin]
  nd : R.ids.Nodup
  lo : ∀ b ∈ R.ids, base.heap.size ≤ b ∧ b < w.heap.size
section
variable {base w w' w1 w2 : World} {R : PlC} {s : StyV} {A : List AgV} {C : List CaV} {k j : Nat}
theorem NP.kept (h : NP base w R s A C k j) (hg : w.grownBy w' none) : NP base w' R s A C k j :=
  ⟨gr_none h.g hg, h.pl.grown hg (by simp), h.od.kept hg (fun g e => by cases e), h.ow.kept hg (fun g e => by cases e), fun i b a h1 h2 => (h.dk i b a h1 h2).grown hg (by simp), fun i b c h1 h2 => (h.wt i b c h1 h2).grown hg (by simp), h.nd, fun b hb => ⟨(h.lo b hb).1, Nat.lt_of_lt_of_le (h.lo b hb).2 hg.size⟩⟩
theorem snoc_get {α : Type} {l : List α} {x y : α} {i : Nat} (h : (l ++ [x])[i]? = some y) : l[i]? = some y ∨ (i = l.length ∧ y = x) := by
  rw [List.getElem?_append] at h
  split at h
  · exact .inl h
  · cases hi : i - l.length with
    | zero => rw [hi] at h; right; exact ⟨by omega, by simpa using h.symm⟩
    | succ q => rw [hi] at h; simp at h
/-- A desk is appended: its block, the slice behind it, the player's cell. -/
theorem NP.addD (h : NP base w R s A C k j) {a : AgV} {nb : Nat} (ha : A[k]? = some a) (hn : w.heap.size ≤ nb) (hg1 : w.grownBy w1 none) (hb : Blk w1 nb 116 #[.string a.key, .slice a.sA a.sn a.sc, .int .i64 a.fr, .int .i64 a.til, .slice a.pA a.pn a.pc, .int .i64 a.wrap, .int .i64 (⟨0, 0, 0⟩ : DkV).tk, .int .i64 (⟨0, 0, 0⟩ : DkV).en, .int .i64 (⟨0, 0, 0⟩ : DkV).n]) {D' : Option Addr} {dc' : Nat}
    (hap : Appended w1 base.heap.size 114 1 R.D D' (k + 1) dc' (R.di.flatMap ptRow ++ [.pointer (some ⟨nb, 0, none⟩)]) w2) :
    NP base (w2.setCell ⟨R.pb, 3, none⟩ (.slice D' (k + 1) dc')) ⟨R.pb, D', dc', R.W, R.wc, R.di ++ [nb], R.wi⟩ s A C (k + 1) j := by
  have h1 := h.kept hg1
  have hdl : R.di.length = k := h.od.2
  have hnb : nb < w1.heap.size := hb.lt
  have neD : ∀ {g : Nat} {t : TypeId} {cs : Array Value}, Blk w1 g t cs → 114 ≠ t → some g ≠ blkOf R.D := fun hg hne e => h1.od.1.blk_ne hg hne e.symm
  have hpl2 := h1.pl.grown hap.2.1 (neD h1.pl (by decide))
  have hs2 := hap.2.1.size
  have hsz : (w2.setCell ⟨R.pb, 3, none⟩ (.slice D' (k + 1) dc')).heap.size = w2.heap.size := by simp
  have g3 : w2.grownBy (w2.setCell ⟨R.pb, 3, none⟩ (.slice D' (k + 1) dc')) (some R.pb) := gr_setCell (gr_refl _ _) (.inl rfl) _
  have hpin : R.pb ∈ R.ids := List.mem_cons_self ..
  have hDp : blkOf D' ≠ some R.pb := hap.1.blk_ne hpl2 (by decide)
  have hWp : blkOf R.W ≠ some R.pb := h.ow.1.blk_ne h.pl (by decide)
  have hWD : ∀ g, blkOf R.D = some g → blkOf R.W ≠ some g := fun g e => fun e2 => Own.ne h1.od.1 h1.ow.1 (by decide) e e2
  have hnin : nb ∉ R.ids := fun e => by have := (h.lo nb e).2; omega
  refine ⟨?_, hpl2.set_ 3 _, ?_, ?_, ?_, ?_, ?_, ?_⟩
  · exact gr_trans (gr_own (lo := base.heap.size) h1.g h1.od.1 (Nat.le_refl _) hap.2.1) g3 (fun g e => .inr (by injection e with e; have := (h.lo R.pb hpin).1; omega))
  · refine OwnR.kept ⟨?_, by show (R.di ++ [nb]).length = _; rw [List.length_append, hdl]; rfl⟩ g3 (fun g e => by injection e with e; rw [← e]; exact hDp)
    have e : (R.di ++ [nb]).flatMap ptRow = R.di.flatMap ptRow ++ [.pointer (some ⟨nb, 0, none⟩)] := by rw [List.flatMap_append]; rfl
    rw [e]
    exact hap.1
  · exact (h1.ow.kept hap.2.1 (fun g e => hWD g e)).kept g3 (fun g e => by injection e with e; rw [← e]; exact hWp)
  · intro i b a' h2 h3
    have key : ∀ {b : Nat} {a' : AgV}, Blk w1 b 116 #[.string a'.key, .slice a'.sA a'.sn a'.sc, .int .i64 a'.fr, .int .i64 a'.til, .slice a'.pA a'.pn a'.pc, .int .i64 a'.wrap, .int .i64 (⟨0, 0, 0⟩ : DkV).tk, .int .i64 (⟨0, 0, 0⟩ : DkV).en, .int .i64 (⟨0, 0, 0⟩ : DkV).n] → b ≠ R.pb → Blk (w2.setCell ⟨R.pb, 3, none⟩ (.slice D' (k + 1) dc')) b 116 #[.string a'.key, .slice a'.sA a'.sn a'.sc, .int .i64 a'.fr, .int .i64 a'.til, .slice a'.pA a'.pn a'.pc, .int .i64 a'.wrap, .int .i64 (⟨0, 0, 0⟩ : DkV).tk, .int .i64 (⟨0, 0, 0⟩ : DkV).en, .int .i64 (⟨0, 0, 0⟩ : DkV).n] := fun hb hne => (hb.grown hap.2.1 (neD hb (by decide))).grown g3 (fun e => hne (by injection e))
    rcases snoc_get h2 with h4 | ⟨h4, rfl⟩
    · exact key (h1.dk i b a' h4 h3) (fun e => nd_pd h.nd h4 e.symm)
    · rw [h4, hdl, ha] at h3
      injection h3 with h3
      subst h3
      exact key hb (fun e => hnin (by rw [e]; exact hpin))
  · intro i b c h2 h3
    exact ((h1.wt i b c h2 h3).grown hap.2.1 (neD (h1.wt i b c h2 h3) (by decide))).grown g3 (fun e => nd_pw h.nd h2 (by injection e with e; exact e.symm))
  · show (R.pb :: ((R.di ++ [nb]) ++ R.wi)).Nodup
    have e : (R.pb :: ((R.di ++ [nb]) ++ R.wi)).Perm (nb :: R.ids) := by
      unfold PlC.ids
      rw [List.append_assoc]
      exact ((List.perm_middle).cons R.pb).trans (List.Perm.swap ..)
    exact e.nodup_iff.2 (List.nodup_cons.2 ⟨hnin, h.nd⟩)
  · intro b hb2
    rw [hsz]
    have hb3 : b = nb ∨ b ∈ R.ids := by
      rcases List.mem_cons.1 hb2 with rfl | hb2
      · exact .inr hpin
      · rcases List.mem_append.1 hb2 with hb2 | hb2
        · rcases List.mem_append.1 hb2 with hb2 | hb2
          · exact .inr (List.mem_cons_of_mem _ (List.mem_append_left _ hb2))
          · exact .inl (List.mem_singleton.1 hb2)
        · exact .inr (List.mem_cons_of_mem _ (List.mem_append_right _ hb2))
    have hs0 := h.g.size
    have hs1 := hg1.size
    rcases hb3 with rfl | hb3
    · omega
    · have := h.lo b hb3; omega
theorem NP.addW (h : NP base w R s A C k j) {c : CaV} {nb : Nat} (hc : C[j]? = some c) (hn : w.heap.size ≤ nb) (hg1 : w.grownBy w1 none) (hb : Blk w1 nb 119 #[.string c.id, .string c.skill, .int .i64 c.at_, .int .i64 c.least, .int .i64 c.prio, .int .i64 c.pat, .int .i64 c.talk, .bool c.back, .int .i64 (⟨0, ⟨c.id, ⟨#[]⟩, 4, 0, 0⟩⟩ : WtV).how, .string (⟨0, ⟨c.id, ⟨#[]⟩, 4, 0, 0⟩⟩ : WtV).seat.ca, .string (⟨0, ⟨c.id, ⟨#[]⟩, 4, 0, 0⟩⟩ : WtV).seat.ag, .int .i64 (⟨0, ⟨c.id, ⟨#[]⟩, 4, 0, 0⟩⟩ : WtV).seat.how, .int .i64 (⟨0, ⟨c.id, ⟨#[]⟩, 4, 0, 0⟩⟩ : WtV).seat.beg, .int .i64 (⟨0, ⟨c.id, ⟨#[]⟩, 4, 0, 0⟩⟩ : WtV).seat.fin]) {W' : Option Addr} {wc' : Nat}
    (hap : Appended w1 base.heap.size 117 1 R.W W' (j + 1) wc' (R.wi.flatMap ptRow ++ [.pointer (some ⟨nb, 0, none⟩)]) w2) :
    NP base (w2.setCell ⟨R.pb, 4, none⟩ (.slice W' (j + 1) wc')) ⟨R.pb, R.D, R.dc, W', wc', R.di, R.wi ++ [nb]⟩ s A C k (j + 1) := by
  have h1 := h.kept hg1
  have hwl : R.wi.length = j := h.ow.2
  have hnb : nb < w1.heap.size := hb.lt
  have neW : ∀ {g : Nat} {t : TypeId} {cs : Array Value}, Blk w1 g t cs → 117 ≠ t → some g ≠ blkOf R.W := fun hg hne e => h1.ow.1.blk_ne hg hne e.symm
  have hpl2 := h1.pl.grown hap.2.1 (neW h1.pl (by decide))
  have hs2 := hap.2.1.size
  have hsz : (w2.setCell ⟨R.pb, 4, none⟩ (.slice W' (j + 1) wc')).heap.size = w2.heap.size := by simp
  have g3 : w2.grownBy (w2.setCell ⟨R.pb, 4, none⟩ (.slice W' (j + 1) wc')) (some R.pb) := gr_setCell (gr_refl _ _) (.inl rfl) _
  have hpin : R.pb ∈ R.ids := List.mem_cons_self ..
  have hWp : blkOf W' ≠ some R.pb := hap.1.blk_ne hpl2 (by decide)
  have hDp : blkOf R.D ≠ some R.pb := h.od.1.blk_ne h.pl (by decide)
  have hDW : ∀ g, blkOf R.W = some g → blkOf R.D ≠ some g := fun g e => fun e2 => Own.ne h1.ow.1 h1.od.1 (by decide) e e2
  have hnin : nb ∉ R.ids := fun e => by have := (h.lo nb e).2; omega
  refine ⟨?_, hpl2.set_ 4 _, ?_, ?_, ?_, ?_, ?_, ?_⟩
  · exact gr_trans (gr_own (lo := base.heap.size) h1.g h1.ow.1 (Nat.le_refl _) hap.2.1) g3 (fun g e => .inr (by injection e with e; have := (h.lo R.pb hpin).1; omega))
  · exact (h1.od.kept hap.2.1 (fun g e => hDW g e)).kept g3 (fun g e => by injection e with e; rw [← e]; exact hDp)
  · refine OwnR.kept ⟨?_, by show (R.wi ++ [nb]).length = _; rw [List.length_append, hwl]; rfl⟩ g3 (fun g e => by injection e with e; rw [← e]; exact hWp)
    have e : (R.wi ++ [nb]).flatMap ptRow = R.wi.flatMap ptRow ++ [.pointer (some ⟨nb, 0, none⟩)] := by rw [List.flatMap_append]; rfl
    rw [e]
    exact hap.1
  · intro i b a h2 h3
    exact ((h1.dk i b a h2 h3).grown hap.2.1 (neW (h1.dk i b a h2 h3) (by decide))).grown g3 (fun e => nd_pd h.nd h2 (by injection e with e; exact e.symm))
  · intro i b c' h2 h3
    have key : ∀ {b : Nat} {c : CaV}, Blk w1 b 119 #[.string c.id, .string c.skill, .int .i64 c.at_, .int .i64 c.least, .int .i64 c.prio, .int .i64 c.pat, .int .i64 c.talk, .bool c.back, .int .i64 (⟨0, ⟨c.id, ⟨#[]⟩, 4, 0, 0⟩⟩ : WtV).how, .string (⟨0, ⟨c.id, ⟨#[]⟩, 4, 0, 0⟩⟩ : WtV).seat.ca, .string (⟨0, ⟨c.id, ⟨#[]⟩, 4, 0, 0⟩⟩ : WtV).seat.ag, .int .i64 (⟨0, ⟨c.id, ⟨#[]⟩, 4, 0, 0⟩⟩ : WtV).seat.how, .int .i64 (⟨0, ⟨c.id, ⟨#[]⟩, 4, 0, 0⟩⟩ : WtV).seat.beg, .int .i64 (⟨0, ⟨c.id, ⟨#[]⟩, 4, 0, 0⟩⟩ : WtV).seat.fin] → b ≠ R.pb → Blk (w2.setCell ⟨R.pb, 4, none⟩ (.slice W' (j + 1) wc')) b 119 #[.string c.id, .string c.skill, .int .i64 c.at_, .int .i64 c.least, .int .i64 c.prio, .int .i64 c.pat, .int .i64 c.talk, .bool c.back, .int .i64 (⟨0, ⟨c.id, ⟨#[]⟩, 4, 0, 0⟩⟩ : WtV).how, .string (⟨0, ⟨c.id, ⟨#[]⟩, 4, 0, 0⟩⟩ : WtV).seat.ca, .string (⟨0, ⟨c.id, ⟨#[]⟩, 4, 0, 0⟩⟩ : WtV).seat.ag, .int .i64 (⟨0, ⟨c.id, ⟨#[]⟩, 4, 0, 0⟩⟩ : WtV).seat.how, .int .i64 (⟨0, ⟨c.id, ⟨#[]⟩, 4, 0, 0⟩⟩ : WtV).seat.beg, .int .i64 (⟨0, ⟨c.id, ⟨#[]⟩, 4, 0, 0⟩⟩ : WtV).seat.fin] := fun hb hne => (hb.grown hap.2.1 (neW hb (by decide))).grown g3 (fun e => hne (by injection e))
    rcases snoc_get h2 with h4 | ⟨h4, rfl⟩
    · exact key (h1.wt i b c' h4 h3) (fun e => nd_pw h.nd h4 e.symm)
    · rw [h4, hwl, hc] at h3
      injection h3 with h3
      subst h3
      exact key hb (fun e => hnin (by rw [e]; exact hpin))
  · show (R.pb :: (R.di ++ (R.wi ++ [nb]))).Nodup
    have e : (R.pb :: (R.di ++ (R.wi ++ [nb]))).Perm (nb :: R.ids) := by
      unfold PlC.ids
      rw [← List.append_assoc, ← List.cons_append]
      exact List.perm_append_comm
    exact e.nodup_iff.2 (List.nodup_cons.2 ⟨hnin, h.nd⟩)
  · intro b hb2
    rw [hsz]
    have hb3 : b = nb ∨ b ∈ R.ids := by
      rcases List.mem_cons.1 hb2 with rfl | hb2
      · exact .inr hpin
      · rcases List.mem_append.1 hb2 with hb2 | hb2
        · exact .inr (List.mem_cons_of_mem _ (List.mem_append_left _ hb2))
        · rcases List.mem_append.1 hb2 with hb2 | hb2
          · exact .inr (List.mem_cons_of_mem _ (List.mem_append_right _ hb2))
          · exact .inl (List.mem_singleton.1 hb2)
    have hs0 := h.g.size
    have hs1 := hg1.size
    rcases hb3 with rfl | hb3
    · omega
    · have := h.lo b hb3; omega
theorem NP.done (h : NP base w R s A C A.length C.length) : PlAt w base.heap.size R s A C (newP A C) := by
  refine ⟨h.pl, ?_, ?_, h.od.2, h.ow.2, fun i b a x h1 h2 h3 => ?_, fun i b c x h1 h2 h3 => ?_, h.nd, fun g e hm => ?_, fun g e hm => ?_, fun b hb => (h.lo b hb).1, by simp [newP], by simp [newP]⟩
  · have := h.od.recs.1; rw [ptRow_flat] at this; exact this
  · have := h.ow.recs.1; rw [ptRow_flat] at this; exact this
  · change (List.replicate A.length _)[i]? = some x at h3
    have hi := (List.getElem?_eq_some_iff.1 h3).1
    rw [List.length_replicate] at hi
    rw [List.getElem?_replicate, if_pos hi] at h3
    injection h3 with h3
    subst h3
    exact h.dk i b a h1 h2
  · change (C.map _)[i]? = some x at h3
    rw [List.getElem?_map, h2] at h3
    injection h3 with h3
    subst h3
    exact h.wt i b c h1 h2
  all_goals
    rcases List.mem_cons.1 hm with rfl | hm
    · first | exact h.od.1.blk_ne h.pl (by decide) e | exact h.ow.1.blk_ne h.pl (by decide) e
    · rcases List.mem_append.1 hm with hm | hm
      · obtain ⟨i, hi⟩ := List.mem_iff_getElem?.1 hm
        obtain ⟨a, ha⟩ : ∃ a, A[i]? = some a := ⟨_, List.getElem?_eq_getElem (by rw [← h.od.2]; exact (List.getElem?_eq_some_iff.1 hi).1)⟩
        first | exact h.od.1.blk_ne (h.dk i g a hi ha) (by decide) e | exact h.ow.1.blk_ne (h.dk i g a hi ha) (by decide) e
      · obtain ⟨i, hi⟩ := List.mem_iff_getElem?.1 hm
        obtain ⟨c, hc⟩ : ∃ c, C[i]? = some c := ⟨_, List.getElem?_eq_getElem (by rw [← h.ow.2]; exact (List.getElem?_eq_some_iff.1 hi).1)⟩
        first | exact h.od.1.blk_ne (h.wt i g c hi hc) (by decide) e | exact h.ow.1.blk_ne (h.wt i g c hi hc) (by decide) e
end
set_option maxHeartbeats 8000000 in
set_option maxRecDepth 100000 in
theorem newPlayer_any (lo1 lo2 : Nat) (s : StyV) (gA : Option Addr) (gc : Nat) (A : List AgV) (cA : Option Addr) (cc : Nat) (C : List CaV) (w : World) (hA : Ags w lo1 gA A.length gc A) (hC : Cas w lo2 cA C.length cc C) (hm : A.length ≤ 1000) (hn : C.length ≤ 19)
    (han : ∀ a ∈ A, AgN a ∧ a.key.size ≤ 1000) (hcn : ∀ c ∈ C, CaN c ∧ CaOk c) (hage : 0 ≤ s.age) :
    Calls Tryz.prog 18 #[.agg #[.int .i64 s.kind, .int .i64 s.age, .int .i64 s.say], .slice gA A.length gc, .slice cA C.length cc] w (fun e w' => ∃ R : PlC, e = .returned (.pointer (some ⟨R.pb, 0, none⟩)) ∧ Pm w w' R s A C (newP A C)) := by
  obtain ⟨w0, hw0⟩ : ∃ v, w.alloc (.cells #[.int .i64 s.kind, .int .i64 s.age, .int .i64 s.say] 33) = v := ⟨_, rfl⟩
  have HS0 := Lib.hid (show Blk w0 w.heap.size 33 #[.int .i64 s.kind, .int .i64 s.age, .int .i64 s.say] by rw [← hw0]; exact Blk.new _ _ _)
  have hg0 : w.grownBy w0 none := by rw [← hw0]; exact gr_alloc (gr_refl _ _) _
  obtain ⟨R0, hR0⟩ : ∃ R : PlC, (⟨w0.heap.size, none, 0, none, 0, [], []⟩ : PlC) = R := ⟨_, rfl⟩
  obtain ⟨w1, hw1⟩ : ∃ v, w0.alloc (.cells #[.int .i64 s.kind, .int .i64 s.age, .int .i64 s.say, .slice R0.D 0 R0.dc, .slice R0.W 0 R0.wc, .string ⟨#[]⟩] 113) = v := ⟨_, rfl⟩
  have hpb : w0.heap.size = R0.pb := by rw [← hR0]
  have HNP0 := Lib.hid (show NP w w1 R0 s A C 0 0 from ⟨by rw [← hw1]; exact gr_alloc hg0 _, by rw [← hw1, ← hpb]; exact Blk.new _ _ _, by rw [← hR0]; exact OwnR.nil _ _ _, by rw [← hR0]; exact OwnR.nil _ _ _, (fun i b a h => by rw [← hR0] at h; simp at h), (fun i b a h => by rw [← hR0] at h; simp at h), by rw [← hR0]; simp [PlC.ids],
    (fun b hb => by
      rw [← hR0] at hb
      simp only [PlC.ids, List.append_nil, List.mem_cons, List.not_mem_nil, or_false] at hb
      rw [hb, ← hw1]
      have := hg0.size
      simp
      omega)⟩)
  have HA := Lib.hid hA; have HC := Lib.hid hC
  have HW0 := Lib.hid hw0
  have hw1' := hw1
  rw [← hR0] at hw1'
  have HW1 := Lib.hid (show w0.alloc (.cells #[.int .i64 s.kind, .int .i64 s.age, .int .i64 s.say, .slice none 0 0, .slice none 0 0, .string ⟨#[]⟩] 113) = w1 from hw1')
  have HPB := Lib.hid hpb
  clear hA hC hw0 hw1 hw1' hR0 hpb
  go_enter Tryz.func18, Tryz.ntmps18
  go_upto_region 1 with (fail)
  rw [HW0.out]
  go_upto_region 2 with (first
    | (refine wpl_load_all Tryz.syT rfl _ rfl _ rfl _ _ HS0.out rfl ?_)
    | fail)
  rw [HW1.out, HPB.out]
  clear HW0 HW1 HS0
  go_wp2_with fail
  go_loopw [9, 17] (fun _ tc wr => ∃ (k : Nat) (R : PlC), R.pb = R0.pb ∧ tc = .int .i64 k ∧ k ≤ A.length ∧ NP w wr R s A C k 0) (fun _ tc _ => A.length - (intOf tc).toNat)
  case atStart => exact ⟨0, R0, rfl, rfl, Nat.zero_le _, HNP0.out⟩
  case round =>
    clear HNP0
    obtain ⟨k, R, hpb, rfl, hk, hnp⟩ := hrel
    have HNP := Lib.hid hnp; have HPE := Lib.hid hpb
    clear hnp
    by_cases hlt : k < A.length
    · obtain ⟨ag, ao, a, hAe, _, _, ha, hac⟩ := (HA.out.1.grown HNP.out.g (fun g e => by cases e)).get AgV.row_len hlt
      have hlt2 : (k : Int) < (A.length : Int) := by omega
      have HAC := Lib.hid hac; have HAI := Lib.hid ha
      rw [hAe, ← hpb]
      obtain ⟨wa, hwa⟩ : ∃ wa, wr.alloc (.cells #[.string a.key, .slice a.sA a.sn a.sc, .int .i64 a.fr, .int .i64 a.til, .slice a.pA a.pn a.pc, .int .i64 a.wrap] 81) = wa := ⟨_, rfl⟩
      obtain ⟨ab, hab⟩ : ∃ b, wr.heap.size = b := ⟨_, rfl⟩
      have HB := Lib.hid (show Blk wa ab 81 #[.string a.key, .slice a.sA a.sn a.sc, .int .i64 a.fr, .int .i64 a.til, .slice a.pA a.pn a.pc, .int .i64 a.wrap] by rw [← hwa, ← hab]; exact Blk.new _ _ _)
      have hga : wr.grownBy wa none := by rw [← hwa]; exact gr_alloc (gr_refl _ _) _
      have HWA := Lib.hid hwa; have HABE := Lib.hid hab
      replace HNP := Lib.hid (HNP.out.kept hga)
      clear hwa hab hac ha hga hpb
      go_upto_region 5 with (first
        | (refine wpl_load_at Tryz.agT rfl _ rfl _ rfl [.string a.key, .slice a.sA a.sn a.sc, .int .i64 a.fr, .int .i64 a.til, .slice a.pA a.pn a.pc, .int .i64 a.wrap] rfl (fun j u hu => by rw [add_mk]; exact HAC.out j u hu) ?_)
        | fail)
      rw [HWA.out]
      (try rw [HABE.out])
      clear HWA HABE HAC
      have HPLK := Lib.hid HNP.out.pl
      refine wp_region_lex (fun w' => w'.cell? ⟨R.pb, 3, none⟩ = some (.slice R.D k R.dc) ∧ Blk w' ab 81 #[.string a.key, .slice a.sA a.sn a.sc, .int .i64 a.fr, .int .i64 a.til, .slice a.pA a.pn a.pc, .int .i64 a.wrap]) [0, 1, 2, 3, 4, 5, 6, 7, 8, 9, 10, 11, 12] (by kernel_rfl) (by kernel_rfl) ?_
      obtain ⟨wy, hwy⟩ : ∃ v, wa.drew = v := ⟨_, rfl⟩
      have hgy : wa.grownBy wy none := by rw [← hwy]; exact gr_drew (gr_refl _ _)
      rw [hwy]
      replace HNP := Lib.hid (HNP.out.kept hgy)
      replace HB := Lib.hid (HB.out.grown hgy (by simp))
      replace HPLK := Lib.hid (HPLK.out.grown hgy (by simp))
      clear hwy hgy
      have hHeld : (wy).cell? ⟨R.pb, 3, none⟩ = some (.slice R.D k R.dc) ∧ Blk (wy) ab 81 #[.string a.key, .slice a.sA a.sn a.sc, .int .i64 a.fr, .int .i64 a.til, .slice a.pA a.pn a.pc, .int .i64 a.wrap] := ⟨HPLK.out.cell 3, HB.out⟩
      repeat (
        refine lex_take (v := ?_) (by rfl) (by rfl) (by exact fun _ _ _ h => h) (by rfl) ?_ (by assumption) ?_
        rotate_left 1
        · intro w' hSw
          obtain ⟨hS1, hS2⟩ := hSw
          first
            | (go_simp; done)
            | (go_simp; with_reducible rfl)
            | fail
        (try simp only [Act.put, List.setIfInBounds_toArray, List.set_cons_zero, List.set_cons_succ]))
      refine lex_take (v := .agg #[.string a.key, .slice a.sA a.sn a.sc, .int .i64 a.fr, .int .i64 a.til, .slice a.pA a.pn a.pc, .int .i64 a.wrap]) (by rfl) (by rfl) (by exact fun _ _ _ h => h) (by rfl) (fun w' hSw => exec_ldb Tryz.agT _ rfl _ rfl 81 [.string a.key, .slice a.sA a.sn a.sc, .int .i64 a.fr, .int .i64 a.til, .slice a.pA a.pn a.pc, .int .i64 a.wrap] hSw.2 rfl) hHeld ?_
      (try simp only [Act.put, List.setIfInBounds_toArray, List.set_cons_zero, List.set_cons_succ])
      repeat (
        refine lex_take (v := ?_) (by rfl) (by rfl) (by exact fun _ _ _ h => h) (by rfl) ?_ (by assumption) ?_
        rotate_left 1
        · intro w' hSw
          obtain ⟨hS1, hS2⟩ := hSw
          first
            | (go_simp; done)
            | (go_simp; with_reducible rfl)
            | fail
        (try simp only [Act.put, List.setIfInBounds_toArray, List.set_cons_zero, List.set_cons_succ]))
      refine lex_run (by rfl) (by rfl) (by rfl) (fun K hK => ?_)
      go_simp
      obtain ⟨wd, hwd⟩ : ∃ v, wy.alloc (.cells #[.string a.key, .slice a.sA a.sn a.sc, .int .i64 a.fr, .int .i64 a.til, .slice a.pA a.pn a.pc, .int .i64 a.wrap, .int .i64 0, .int .i64 0, .int .i64 0] 116) = v := ⟨_, rfl⟩
      have HND := Lib.hid (show Blk wd wy.heap.size 116 #[.string a.key, .slice a.sA a.sn a.sc, .int .i64 a.fr, .int .i64 a.til, .slice a.pA a.pn a.pc, .int .i64 a.wrap, .int .i64 (⟨0, 0, 0⟩ : DkV).tk, .int .i64 (⟨0, 0, 0⟩ : DkV).en, .int .i64 (⟨0, 0, 0⟩ : DkV).n] by rw [← hwd]; exact Blk.new wy _ _)
      have HGD := Lib.hid (show wy.grownBy wd none by rw [← hwd]; exact gr_alloc (gr_refl _ _) _)
      rw [hwd]
      have hHeld1 : (wd).cell? ⟨R.pb, 3, none⟩ = some (.slice R.D k R.dc) ∧ Blk (wd) ab 81 #[.string a.key, .slice a.sA a.sn a.sc, .int .i64 a.fr, .int .i64 a.til, .slice a.pA a.pn a.pc, .int .i64 a.wrap] := ⟨(HPLK.out.grown HGD.out (by simp)).cell 3, HB.out.grown HGD.out (by simp)⟩
      refine hK _ _ (.inr hHeld1) ?_
      clear hK K hHeld hwd
      have hHeld := hHeld1
      clear hHeld1
      refine lex_run (by rfl) (by rfl) (by rfl) (fun K hK => ?_)
      go_simp
      have hHeld1 : (wd.alloc (.cells #[.pointer (some ⟨wy.heap.size, 0, none⟩)] 114)).cell? ⟨R.pb, 3, none⟩ = some (.slice R.D k R.dc) ∧ Blk (wd.alloc (.cells #[.pointer (some ⟨wy.heap.size, 0, none⟩)] 114)) ab 81 #[.string a.key, .slice a.sA a.sn a.sc, .int .i64 a.fr, .int .i64 a.til, .slice a.pA a.pn a.pc, .int .i64 a.wrap] := ⟨((HPLK.out.grown HGD.out (by simp)).alloc _).cell 3, (HB.out.grown HGD.out (by simp)).alloc _⟩
      refine hK _ _ (.inr hHeld1) ?_
      clear hK K hHeld
      have hHeld := hHeld1
      clear hHeld1
      refine lex_run (by rfl) (by rfl) (by rfl) (fun K hK => ?_)
      have HNPK := Lib.hid (HNP.out.kept (gr_alloc HGD.out (.cells #[.pointer (some ⟨wy.heap.size, 0, none⟩)] 114)))
      refine wp_app _ _ _ Tryz.dlT (by rfl) w.heap.size R.D k R.dc _ (by rfl) (by exact HNPK.out.od.1) _ _ 1 1 [.pointer (some ⟨wy.heap.size, 0, none⟩)] (by rfl) (by exact Reads.one _ _ _ _ rfl) (by simp [Value.oneCell']) (by unfold maxLen; omega) (by omega) (by have := HNPK.out.g.size; exact this) ?_
      intro A8 c8 w8 h8
      have HNP9 := Lib.hid (HNP.out.addD HAI.out (Nat.le_refl _) (gr_alloc HGD.out _) (HND.out.alloc _) h8)
      have nePB : some R.pb ≠ blkOf R.D := fun e => HNPK.out.od.1.blk_ne HNPK.out.pl (by decide) e.symm
      have neAB : some ab ≠ blkOf R.D := fun e => HNPK.out.od.1.blk_ne ((HB.out.grown HGD.out (by simp)).alloc _) (by decide) e.symm
      have HPL8 := Lib.hid (HNPK.out.pl.grown h8.2.1 nePB)
      have hHeld1 : (w8).cell? ⟨R.pb, 3, none⟩ = some (.slice R.D k R.dc) ∧ Blk (w8) ab 81 #[.string a.key, .slice a.sA a.sn a.sc, .int .i64 a.fr, .int .i64 a.til, .slice a.pA a.pn a.pc, .int .i64 a.wrap] := ⟨HPL8.out.cell 3, ((HB.out.grown HGD.out (by simp)).alloc _).grown h8.2.1 neAB⟩
      refine hK _ _ (.inr hHeld1) ?_
      clear hK K hHeld h8 nePB neAB
      have hHeld := hHeld1
      clear hHeld1
      repeat (
        refine lex_take (v := ?_) (by rfl) (by rfl) (by exact fun _ _ _ h => h) (by rfl) ?_ (by assumption) ?_
        rotate_left 1
        · intro w' hSw
          obtain ⟨hS1, hS2⟩ := hSw
          first
            | (go_simp; done)
            | (go_simp; with_reducible rfl)
            | fail
        (try simp only [Act.put, List.setIfInBounds_toArray, List.set_cons_zero, List.set_cons_succ]))
      have cp := HPL8.out.cell 3
      have fp := HPL8.out.frozen 3
      refine lex_run (by rfl) (by rfl) (by rfl) (fun K hK => ?_)
      go_simp
      refine hK _ _ (.inl (by rfl)) ?_
      clear hK K hHeld cp fp
      refine lex_end ?_
      obtain ⟨w9, hw9⟩ : ∃ v, w8.setCell ⟨R.pb, 3, none⟩ (.slice A8 (k + 1) c8) = v := ⟨_, rfl⟩
      rw [hw9] at HNP9 ⊢
      clear hw9
      go_wp2_with fail
      go_roundw
      case rel => exact ⟨k + 1, ⟨R.pb, A8, c8, R.W, R.wc, R.di ++ [wy.heap.size], R.wi⟩, rfl, by go_num, by omega, HNP9.out⟩
      case measure => simp [intOf]; omega
    · obtain rfl : k = A.length := by omega
      clear hk hlt
      go_wp2_with fail
      go_loopw [11, 36] (fun _ tc wr => ∃ (j : Nat) (R : PlC), R.pb = R0.pb ∧ tc = .int .i64 j ∧ j ≤ C.length ∧ NP w wr R s A C A.length j) (fun _ tc _ => C.length - (intOf tc).toNat)
      case atStart => exact ⟨0, R, HPE.out, rfl, Nat.zero_le _, HNP.out⟩
      case round =>
        clear HNP HPE hpb R
        obtain ⟨j, R, hpb, rfl, hj, hnp⟩ := hrel
        have HNP := Lib.hid hnp; have HPE := Lib.hid hpb
        clear hnp
        by_cases hlt : j < C.length
        · obtain ⟨ag, ao, c, hCe, _, _, hc, hac⟩ := (HC.out.1.grown HNP.out.g (fun g e => by cases e)).get CaV.row_len hlt
          have hlt2 : (j : Int) < (C.length : Int) := by omega
          have HAC := Lib.hid hac; have HCI := Lib.hid hc
          rw [hCe, ← hpb]
          obtain ⟨wa, hwa⟩ : ∃ wa, wr.alloc (.cells #[.string c.id, .string c.skill, .int .i64 c.at_, .int .i64 c.least, .int .i64 c.prio, .int .i64 c.pat, .int .i64 c.talk, .bool c.back] 41) = wa := ⟨_, rfl⟩
          obtain ⟨ab, hab⟩ : ∃ b, wr.heap.size = b := ⟨_, rfl⟩
          have HB := Lib.hid (show Blk wa ab 41 #[.string c.id, .string c.skill, .int .i64 c.at_, .int .i64 c.least, .int .i64 c.prio, .int .i64 c.pat, .int .i64 c.talk, .bool c.back] by rw [← hwa, ← hab]; exact Blk.new _ _ _)
          have hga : wr.grownBy wa none := by rw [← hwa]; exact gr_alloc (gr_refl _ _) _
          have HWA := Lib.hid hwa; have HABE := Lib.hid hab
          replace HNP := Lib.hid (HNP.out.kept hga)
          clear hwa hab hac hc hga hpb
          go_upto_region 10 with (first
            | (refine wpl_load_at Tryz.caT rfl _ rfl _ rfl [.string c.id, .string c.skill, .int .i64 c.at_, .int .i64 c.least, .int .i64 c.prio, .int .i64 c.pat, .int .i64 c.talk, .bool c.back] rfl (fun j u hu => by rw [add_mk]; exact HAC.out j u hu) ?_)
            | fail)
          rw [HWA.out]
          (try rw [HABE.out])
          clear HWA HABE HAC
          have HPLK := Lib.hid HNP.out.pl
          refine wp_region_lex (fun w' => w'.cell? ⟨R.pb, 4, none⟩ = some (.slice R.W j R.wc) ∧ Blk w' ab 41 #[.string c.id, .string c.skill, .int .i64 c.at_, .int .i64 c.least, .int .i64 c.prio, .int .i64 c.pat, .int .i64 c.talk, .bool c.back]) [0, 1, 2, 3, 4, 5, 6, 7, 8, 9, 10, 11, 12, 13, 14, 15] (by kernel_rfl) (by kernel_rfl) ?_
          obtain ⟨wy, hwy⟩ : ∃ v, wa.drew = v := ⟨_, rfl⟩
          have hgy : wa.grownBy wy none := by rw [← hwy]; exact gr_drew (gr_refl _ _)
          rw [hwy]
          replace HNP := Lib.hid (HNP.out.kept hgy)
          replace HB := Lib.hid (HB.out.grown hgy (by simp))
          replace HPLK := Lib.hid (HPLK.out.grown hgy (by simp))
          clear hwy hgy
          have hHeld : (wy).cell? ⟨R.pb, 4, none⟩ = some (.slice R.W j R.wc) ∧ Blk (wy) ab 41 #[.string c.id, .string c.skill, .int .i64 c.at_, .int .i64 c.least, .int .i64 c.prio, .int .i64 c.pat, .int .i64 c.talk, .bool c.back] := ⟨HPLK.out.cell 4, HB.out⟩
          repeat (
            refine lex_take (v := ?_) (by rfl) (by rfl) (by exact fun _ _ _ h => h) (by rfl) ?_ (by assumption) ?_
            rotate_left 1
            · intro w' hSw
              obtain ⟨hS1, hS2⟩ := hSw
              have hS3 := hS2.cell 0
              first
                | (go_simp; done)
                | (go_simp; with_reducible rfl)
                | fail
            (try simp only [Act.put, List.setIfInBounds_toArray, List.set_cons_zero, List.set_cons_succ]))
          refine lex_take (v := .agg #[.string c.id, .string c.skill, .int .i64 c.at_, .int .i64 c.least, .int .i64 c.prio, .int .i64 c.pat, .int .i64 c.talk, .bool c.back]) (by rfl) (by rfl) (by exact fun _ _ _ h => h) (by rfl) (fun w' hSw => exec_ldb Tryz.caT _ rfl _ rfl 41 [.string c.id, .string c.skill, .int .i64 c.at_, .int .i64 c.least, .int .i64 c.prio, .int .i64 c.pat, .int .i64 c.talk, .bool c.back] hSw.2 rfl) hHeld ?_
          (try simp only [Act.put, List.setIfInBounds_toArray, List.set_cons_zero, List.set_cons_succ])
          repeat (
            refine lex_take (v := ?_) (by rfl) (by rfl) (by exact fun _ _ _ h => h) (by rfl) ?_ (by assumption) ?_
            rotate_left 1
            · intro w' hSw
              obtain ⟨hS1, hS2⟩ := hSw
              have hS3 := hS2.cell 0
              first
                | (go_simp; done)
                | (go_simp; with_reducible rfl)
                | fail
            (try simp only [Act.put, List.setIfInBounds_toArray, List.set_cons_zero, List.set_cons_succ]))
          refine lex_run (by rfl) (by rfl) (by rfl) (fun K hK => ?_)
          go_simp
          obtain ⟨wd, hwd⟩ : ∃ v, wy.alloc (.cells #[.string c.id, .string c.skill, .int .i64 c.at_, .int .i64 c.least, .int .i64 c.prio, .int .i64 c.pat, .int .i64 c.talk, .bool c.back, .int .i64 0, .string c.id, .string ⟨#[]⟩, .int .i64 4, .int .i64 0, .int .i64 0] 119) = v := ⟨_, rfl⟩
          have HND := Lib.hid (show Blk wd wy.heap.size 119 #[.string c.id, .string c.skill, .int .i64 c.at_, .int .i64 c.least, .int .i64 c.prio, .int .i64 c.pat, .int .i64 c.talk, .bool c.back, .int .i64 (⟨0, ⟨c.id, ⟨#[]⟩, 4, 0, 0⟩⟩ : WtV).how, .string (⟨0, ⟨c.id, ⟨#[]⟩, 4, 0, 0⟩⟩ : WtV).seat.ca, .string (⟨0, ⟨c.id, ⟨#[]⟩, 4, 0, 0⟩⟩ : WtV).seat.ag, .int .i64 (⟨0, ⟨c.id, ⟨#[]⟩, 4, 0, 0⟩⟩ : WtV).seat.how, .int .i64 (⟨0, ⟨c.id, ⟨#[]⟩, 4, 0, 0⟩⟩ : WtV).seat.beg, .int .i64 (⟨0, ⟨c.id, ⟨#[]⟩, 4, 0, 0⟩⟩ : WtV).seat.fin] by rw [← hwd]; exact Blk.new wy _ _)
          have HGD := Lib.hid (show wy.grownBy wd none by rw [← hwd]; exact gr_alloc (gr_refl _ _) _)
          rw [hwd]
          have hHeld1 : (wd).cell? ⟨R.pb, 4, none⟩ = some (.slice R.W j R.wc) ∧ Blk (wd) ab 41 #[.string c.id, .string c.skill, .int .i64 c.at_, .int .i64 c.least, .int .i64 c.prio, .int .i64 c.pat, .int .i64 c.talk, .bool c.back] := ⟨(HPLK.out.grown HGD.out (by simp)).cell 4, HB.out.grown HGD.out (by simp)⟩
          refine hK _ _ (.inr hHeld1) ?_
          clear hK K hHeld hwd
          have hHeld := hHeld1
          clear hHeld1
          refine lex_run (by rfl) (by rfl) (by rfl) (fun K hK => ?_)
          go_simp
          have hHeld1 : (wd.alloc (.cells #[.pointer (some ⟨wy.heap.size, 0, none⟩)] 117)).cell? ⟨R.pb, 4, none⟩ = some (.slice R.W j R.wc) ∧ Blk (wd.alloc (.cells #[.pointer (some ⟨wy.heap.size, 0, none⟩)] 117)) ab 41 #[.string c.id, .string c.skill, .int .i64 c.at_, .int .i64 c.least, .int .i64 c.prio, .int .i64 c.pat, .int .i64 c.talk, .bool c.back] := ⟨((HPLK.out.grown HGD.out (by simp)).alloc _).cell 4, (HB.out.grown HGD.out (by simp)).alloc _⟩
          refine hK _ _ (.inr hHeld1) ?_
          clear hK K hHeld
          have hHeld := hHeld1
          clear hHeld1
          refine lex_run (by rfl) (by rfl) (by rfl) (fun K hK => ?_)
          have HNPK := Lib.hid (HNP.out.kept (gr_alloc HGD.out (.cells #[.pointer (some ⟨wy.heap.size, 0, none⟩)] 117)))
          refine wp_app _ _ _ Tryz.wlT (by rfl) w.heap.size R.W j R.wc _ (by rfl) (by exact HNPK.out.ow.1) _ _ 1 1 [.pointer (some ⟨wy.heap.size, 0, none⟩)] (by rfl) (by exact Reads.one _ _ _ _ rfl) (by simp [Value.oneCell']) (by unfold maxLen; omega) (by omega) (by have := HNPK.out.g.size; exact this) ?_
          intro A8 c8 w8 h8
          have HNP9 := Lib.hid (HNP.out.addW HCI.out (Nat.le_refl _) (gr_alloc HGD.out _) (HND.out.alloc _) h8)
          have nePB : some R.pb ≠ blkOf R.W := fun e => HNPK.out.ow.1.blk_ne HNPK.out.pl (by decide) e.symm
          have neAB : some ab ≠ blkOf R.W := fun e => HNPK.out.ow.1.blk_ne ((HB.out.grown HGD.out (by simp)).alloc _) (by decide) e.symm
          have HPL8 := Lib.hid (HNPK.out.pl.grown h8.2.1 nePB)
          have hHeld1 : (w8).cell? ⟨R.pb, 4, none⟩ = some (.slice R.W j R.wc) ∧ Blk (w8) ab 41 #[.string c.id, .string c.skill, .int .i64 c.at_, .int .i64 c.least, .int .i64 c.prio, .int .i64 c.pat, .int .i64 c.talk, .bool c.back] := ⟨HPL8.out.cell 4, ((HB.out.grown HGD.out (by simp)).alloc _).grown h8.2.1 neAB⟩
          refine hK _ _ (.inr hHeld1) ?_
          clear hK K hHeld h8 nePB neAB
          have hHeld := hHeld1
          clear hHeld1
          repeat (
            refine lex_take (v := ?_) (by rfl) (by rfl) (by exact fun _ _ _ h => h) (by rfl) ?_ (by assumption) ?_
            rotate_left 1
            · intro w' hSw
              obtain ⟨hS1, hS2⟩ := hSw
              have hS3 := hS2.cell 0
              first
                | (go_simp; done)
                | (go_simp; with_reducible rfl)
                | fail
            (try simp only [Act.put, List.setIfInBounds_toArray, List.set_cons_zero, List.set_cons_succ]))
          have cp := HPL8.out.cell 4
          have fp := HPL8.out.frozen 4
          refine lex_run (by rfl) (by rfl) (by rfl) (fun K hK => ?_)
          go_simp
          refine hK _ _ (.inl (by rfl)) ?_
          clear hK K hHeld cp fp
          refine lex_end ?_
          obtain ⟨w9, hw9⟩ : ∃ v, w8.setCell ⟨R.pb, 4, none⟩ (.slice A8 (j + 1) c8) = v := ⟨_, rfl⟩
          rw [hw9] at HNP9 ⊢
          clear hw9
          go_wp2_with fail
          go_roundw
          case rel => exact ⟨j + 1, ⟨R.pb, R.D, R.dc, A8, c8, R.di, R.wi ++ [wy.heap.size]⟩, rfl, by go_num, by omega, HNP9.out⟩
          case measure => simp [intOf]; omega
        · obtain rfl : j = C.length := by omega
          have HPA := Lib.hid HNP.out.done
          have HG := Lib.hid HNP.out.g
          rw [← hpb]
          go_wp2_with fail
          go_ret
          refine ⟨R, rfl, HG.out, HPA.out, (fun a ha => (HA.out.2 a ha).lower (Nat.zero_le _)), hm, hn, han, hcn, hage, fun x hx => ?_⟩
          have := List.eq_of_mem_replicate (show x ∈ List.replicate A.length (⟨0, 0, 0⟩ : DkV) from hx)
          subst this
          exact ⟨Int.le_refl _, by decide, Int.le_refl _, by decide, Int.le_refl _, by decide⟩
end Go.Proofs.YtpildcnoghojpaaGreatDoor

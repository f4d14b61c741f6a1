/- Patterns that a call reads: owned, with the type of what they lie in; slices.Clone at patterns. Conditions: none. -/
import Derived.Test.YteppdabhloieaaaGreatDoorWt3
import Derived.Test.YteppdabhloieaaaGreatDoorBun7
import Derived.Test.YteppdabhloieaaaGreatDoorBun10
import Derived.Test.YteppdabhloieaaaGreatDoorBun1
import Derived.Test.YteppdabhloieaaaGreatDoorBun9
namespace Go.Proofs.YteppdabhloieaaaGreatDoor
open Go.RowKit
structure PatOw (w : World) (p : PatV) : Prop where
 own : Own w 0 166 1 p.A p.n p.c (p.x.1.map mv)
 n : p.n ≤ 30
 rt : Right p.x
theorem PatOw.ok {w : World} {p : PatV} (h : PatOw w p) : PatOk w p := ⟨own_u16 h.own, h.n, h.rt⟩
theorem PatOw.none_ {w w' : World} {p : PatV} (h : PatOw w p) (hg : w.grownBy w' none) : PatOw w' p := ⟨h.own.kept hg gn_, h.n, h.rt⟩
theorem PatOw.other {w w' : World} {p : PatV} (h : PatOw w p) {lo' n' c' k' : Nat} {e' : TypeId} {A' : Option Addr} {xs : List Value} (ho : Own w lo' e' k' A' n' c' xs) (hne : e' ≠ 166) (hg : w.grownBy w' (blkOf A')) : PatOw w' p :=
 ⟨h.own.kept hg (fun _ e => Own.ne ho h.own hne e), h.n, h.rt⟩
theorem readO_any (s : ByteArray) (x : List Nat × Nat) (w : World) (h : patX (nb s) = some x) : Calls Tryz.prog 47 #[.string s] w (RetP (fun v w' => ∃ (A : Option Addr) (n c : Nat), v = .tuple #[.agg #[.slice A n c, .int .u8 x.2], .int .i64 0] ∧ PatOw w' ⟨A, n, c, x⟩) w) := by
 have hs : s.size ≤ 60 := by
   unfold patX at h
   split at h
   · rw [nb_len] at *; assumption
   · cases h
 have hx : shpL (nb s) = some x := by
   unfold patX at h
   split at h
   · exact h
   · cases h
 refine (read_any s w hs).mono ?_
 rintro e w' ⟨v, rfl, hv, hg⟩
 refine ⟨v, rfl, ?_, hg⟩
 rcases hv with ⟨x', A, n, c, h1, rfl, h3, h4⟩ | ⟨h1, rfl⟩
 · obtain rfl : x = x' := by rw [hx] at h1; injection h1
   exact ⟨A, n, c, rfl, h3.lower (Nat.zero_le _), (show n ≤ 30 by have := Own.len h3; simp at this; omega), patX_right h⟩
 · rw [hx] at h1; cases h1
structure PatsO (w : World) (lo : Nat) (A : Option Addr) (n c : Nat) (ps : List PatV) : Prop where
 own : OwnR patRow 2 w lo 86 A n c ps
 ok : ∀ p ∈ ps, PatOw w p
section
variable {w w' : World} {lo lo' n c : Nat} {A : Option Addr} {ps : List PatV}
theorem PatsO.nil (w : World) (lo : Nat) : PatsO w lo none 0 0 [] := ⟨OwnR.nil _ _ _, fun p hp => by cases hp⟩
theorem PatsO.none_ (h : PatsO w lo A n c ps) (hg : w.grownBy w' none) : PatsO w' lo A n c ps := ⟨h.own.low hg gn_, fun p hp => (h.ok p hp).none_ hg⟩
theorem PatsO.lower (h : PatsO w lo A n c ps) (hl : lo' ≤ lo) : PatsO w lo' A n c ps := ⟨h.own.lower hl, h.ok⟩
theorem PatsO.pats (h : PatsO w lo A n c ps) : Pats w lo A n c ps := ⟨h.own.recs, fun p hp => (h.ok p hp).ok⟩
theorem PatsO.other (h : PatsO w lo A n c ps) {lo' n' c' k' : Nat} {e' : TypeId} {A' : Option Addr} {xs : List Value} (ho : Own w lo' e' k' A' n' c' xs) (hne : e' ≠ 166) (hn2 : e' ≠ 86) (hg : w.grownBy w' (blkOf A')) : PatsO w' lo A n c ps :=
 ⟨h.own.kept hg (fun _ e => Own.ne ho h.own.1 hn2 e), fun p hp => (h.ok p hp).other ho hne hg⟩
theorem PatsO.apart (h : PatsO w lo A n c ps) {lo' n' c' : Nat} {A' : Option Addr} {ps' : List PatV} (ho : OwnR patRow 2 w lo' 86 A' n' c' ps') (hne : ∀ g, blkOf A' = some g → blkOf A ≠ some g) (hg : w.grownBy w' (blkOf A')) : PatsO w' lo A n c ps :=
 ⟨h.own.kept hg hne, fun p hp => (h.ok p hp).other ho.1 (by decide) hg⟩
theorem PatsO.app {p : PatV} (h : PatsO w lo A n c ps) (hp : PatOw w p) {A1 : Option Addr} {c1 n1 : Nat} (hn : n1 = n + 1) (h1 : Appended w lo 86 2 A A1 n1 c1 (ps.flatMap patRow ++ patRow p) w') : PatsO w' lo A1 n1 c1 (ps ++ [p]) :=
 ⟨h.own.app hn h1, fun q hq => by
   rcases List.mem_append.1 hq with h2 | h2
   · exact (h.ok q h2).other h.own.1 (by decide) h1.2.1
   · rw [List.mem_singleton.1 h2]; exact hp.other h.own.1 (by decide) h1.2.1⟩
end
theorem shps_app (ps : List PatV) (p : PatV) : shps (ps ++ [p]) = shps ps ++ [p.x] := by unfold shps; simp
theorem Tryz.pasT : ElemT Tryz.prog 92 86 2 32 (.agg #[.slice none 0 0, .int .u8 0]) := elemT_of Tryz.underlying92 (by kernel_rfl) rfl (by decide)
theorem one_pats {l : List PatV} : ∀ u ∈ l.flatMap patRow, u.oneCell' = true := fun u hu => by
 obtain ⟨r, _, hr⟩ := List.mem_flatMap.1 hu
 unfold patRow at hr
 simp only [List.mem_cons, List.not_mem_nil, or_false] at hr
 rcases hr with rfl | rfl <;> rfl
set_option maxHeartbeats 2000000 in
set_option maxRecDepth 100000 in
theorem cloneP_any (lo : Nat) (A : Option Addr) (n c : Nat) (l : List PatV) (w : World) (h : Recs patRow 2 w lo A n c l) (hn : n ≤ 1000000) :
   Calls Tryz.prog 51 #[.slice A n c] w (fun e w' => ∃ A' c', e = .returned (.slice A' n c') ∧ OwnR patRow 2 w' w.heap.size 86 A' n c' l ∧ w.grownBy w' none) := by
 have hl := h.len
 have qT : ∀ (w : World) (a : Option Addr) (n c n' c' : Nat), (binOp .eql 92 (.slice a n c) (.slice none n' c')).run Tryz.prog w = .ok (.bool a.isNone) w := fun w a n c n' c' => Lib.run_eql_slice_nil w _ _ a n c n' c' Tryz.underlying92
 have H := Lib.hid h
 have HL := Lib.hid hl
 clear h hl
 cases A with
 | none =>
   rcases Nat.eq_zero_or_pos n with rfl | h0
   rotate_left 1
   · exfalso
     obtain ⟨g, o, e, _⟩ := H.out.1.2.2 h0
     cases e
   · obtain rfl : l = [] := List.eq_nil_of_length_eq_zero HL.out
     go_enter Tryz.func51, Tryz.ntmps51
     go_wp2_with fail
     go_ret
     exact ⟨none, _, rfl, OwnR.nil _ _ _, gr_refl _ _⟩
 | some a =>
   go_enter Tryz.func51, Tryz.ntmps51
   go_wp2_with (first
     | (at_builtin
        refine wpl_app _ rfl _ _ Tryz.pasT rfl w.heap.size (some ⟨w.heap.size, 0, none⟩) 0 0 [] rfl (by exact Own.lit w 86 2 [] 0 (by unfold maxLen; omega) rfl) lo (some a) n c (l.flatMap patRow) rfl (by exact (H.out.grown (gr_alloc (gr_refl _ none) _) gn_).1) one_pats (by unfold maxLen; omega) (by omega) (by simp) ?_
        intro A5 c5 w5 h5
        have H5 := Lib.hid h5; clear h5)
     | fail)
   go_ret
   exact ⟨A5, c5, by simp, ⟨by simpa using H5.out.1, HL.out⟩, gr_trans (gr_alloc (gr_refl _ none) _) H5.out.2.1 (fun g e => .inr (by simp [blkOf] at e; omega))⟩
end Go.Proofs.YteppdabhloieaaaGreatDoor

/- Keys: pairs of numbers, and numbers. Conditions: none. -/
import Derived.Test.YteppdabhloieaaaGreatDoorBun1
import Derived.Maps.Keyed
import Derived.ArgAppend
import Derived.Sort.Grow
namespace Go.Proofs.YteppdabhloieaaaGreatDoor
section
open Go.RowKit Go.Maps Go.WideMaps
def stVal (t : Nat × Nat) : Value := .agg #[.int .i64 t.1, .int .u64 t.2]
def stOk (t : Nat × Nat) : Prop := t.1 ≤ 1000 ∧ t.2 < 18446744073709551616
theorem st_laidOut : laidOutB Tryz.prog = true := by kernel_rfl
theorem st_row : (177 : TypeId) < Tryz.prog.types.size := of_decide_eq_true (by kernel_rfl)
theorem st_kind : (match Tryz.prog.underlying 177 with | some (.array _ _) | some (.struct _) => true | _ => false) = true := by rw [Tryz.underlying177]
set_option maxRecDepth 100000 in
theorem st_keyed : Keyed Tryz.prog 177 := Keyed.of_law (deep_law_laid (m := 2) st_laidOut (by omega) st_row (by kernel_rfl) st_kind)
theorem st_type : Tryz.prog.keyType 177 = true := by kernel_rfl
theorem st_cells : Tryz.prog.cellsOf 177 = 2 := by kernel_rfl
theorem st_c1 : Tryz.prog.cellsOf 3 = 1 := by kernel_rfl
theorem st_c2 : Tryz.prog.cellsOf 151 = 1 := by kernel_rfl
theorem st_mk {t : Nat × Nat} (h : stOk t) : keyOf Tryz.prog 177 (stVal t) = some (.string (keyBytes [.int .i64 t.1, .int .u64 t.2])) := by
 obtain ⟨h1, h2⟩ := h
 have w1 : (Lit.int .i64 (t.1 : Int)).wf = true := int_wf (by omega) (by omega)
 have w2 : (Lit.int .u64 (t.2 : Int)).wf = true := by
   simp only [Lit.wf, show IntKind.min .u64 = 0 from rfl, show IntKind.max .u64 = 18446744073709551615 from rfl, Bool.and_eq_true, decide_eq_true_eq]
   omega
 obtain ⟨m, hm⟩ : ∃ m, Tryz.prog.types.size = m + 1 := ⟨_, (Nat.sub_add_cancel (Nat.lt_of_le_of_lt (Nat.zero_le _) st_row)).symm⟩
 have hf : (stVal t).formed Tryz.prog 177 = true := by simp [stVal, Value.formed, Tryz.underlying177, st_cells]
 unfold keyOf
 simp only [Tryz.underlying177]
 rw [if_pos (by rw [st_type, hf]; rfl), hm]
 unfold Program.keyLits
 simp only [Tryz.underlying177, stVal, Value.cells]
 rw [if_pos ⟨by rw [st_cells]; rfl, by kernel_rfl⟩]
 simp [st_c1, st_c2, Program.keyLits, Tryz.underlying3, Tryz.underlying151, w1, w2]
def KS : KeyT (Nat × Nat) where
 ty := 177
 kd := st_keyed
 val := stVal
 lit := fun t => .string (keyBytes [.int .i64 t.1, .int .u64 t.2])
 ok := stOk
 mkk := st_mk
 vinj := fun {x y} _ _ h => by
   unfold stVal at h
   simp at h
   exact Prod.ext (by omega) (by omega)
theorem ik_keyed : Keyed Tryz.prog 3 := int_keyed Tryz.underlying3
def KI : KeyT Int where
 ty := 3
 kd := ik_keyed
 val := fun k => .int .i64 k
 lit := fun k => .int .i64 k
 ok := fun k => (Lit.int .i64 k).wf = true
 mkk := fun h => keyOf_int_mk Tryz.underlying3 h
 vinj := fun _ _ h => by injection h
theorem KI_full : KI.Full := fun h => by
 obtain ⟨x, rfl, rfl, hw⟩ := Maps.keyOf_int_inv Tryz.underlying3 h
 exact ⟨x, hw, rfl, rfl⟩
theorem ik_ok {k : Int} (h0 : 0 ≤ k) (h1 : k ≤ 1000000000) : KI.ok k := by
 exact int_wf (by omega) (by omega)
end
end Go.Proofs.YteppdabhloieaaaGreatDoor
namespace Go.Proofs.YteppdabhloieaaaGreatDoor
section
open Go.RowKit
theorem gr_setCells {a : World} {g : Nat} {row : Option Nat} (hr : some g = row ∨ a.heap.size ≤ g) : ∀ (vs : List Value) (o : Nat) (w : World), a.grownBy w row → a.grownBy (w.setCells g o vs) row
 | [], _, _, h => h
 | v :: vs, o, w, h => by
   unfold World.setCells
   exact gr_setCells hr vs (o + 1) _ (gr_setCell h hr v)
def OwnO (w : World) (lo size : Nat) (A : Option Addr) (n c : Nat) (xs : List Value) : Prop :=
 xs.length = n * size ∧ n ≤ c ∧ ((A = none ∧ c = 0) ∨ ∃ g o, A = some ⟨g, o, none⟩ ∧ lo ≤ g ∧ g < w.heap.size ∧ (∀ j u, xs[j]? = some u → w.cell? ⟨g, o + j, none⟩ = some u) ∧
   ∀ j, j < c * size → (w.cell? ⟨g, o + j, none⟩).isSome = true ∧ w.frozen? ⟨g, o + j, none⟩ = false)
section
variable {w w' : World} {lo lo' size n c : Nat} {A : Option Addr} {xs : List Value}
theorem OwnO.nil (w : World) (lo size : Nat) : OwnO w lo size none 0 0 [] := ⟨by simp, Nat.le_refl _, .inl ⟨rfl, rfl⟩⟩
theorem OwnO.of {e : TypeId} (h : Own w lo e size A n c xs) : OwnO w lo size A n c xs := by
 refine ⟨h.1, h.cap, ?_⟩
 rcases h.2 with ⟨hv, h0⟩ | ⟨g, cap, cur, hv, hlo, hg, hnc, hcm, hcs, htk⟩
 · injection hv with e1 e2 e3; exact .inl ⟨e1, e3⟩
 · injection hv with e1 e2 e3; subst e1; subst e3
   refine .inr ⟨g, 0, rfl, hlo, Blk.lt (t := e) (cs := cur) hg, fun j u hu => ?_, fun j hj => ?_⟩
   · rw [Nat.zero_add]
     have hj : j < n * size := by rw [← h.1]; exact (List.getElem?_eq_some_iff.1 hu).1
     rw [Own.cell h hj]; exact hu
   · rw [Nat.zero_add]
     refine ⟨?_, Own.frozen h j⟩
     have hb : Blk w g e cur := hg
     rw [hb.cell, Array.getElem?_eq_getElem (by rw [hcs]; exact hj)]; rfl
theorem OwnO.len (h : OwnO w lo size A n c xs) : xs.length = n * size := h.1
theorem OwnO.cap (h : OwnO w lo size A n c xs) : n ≤ c := h.2.1
theorem OwnO.lt (h : OwnO w lo size A n c xs) {g : Nat} (hg : blkOf A = some g) : lo ≤ g ∧ g < w.heap.size := by
 rcases h.2.2 with ⟨rfl, _⟩ | ⟨g', o, rfl, h1, h2, _⟩
 · cases hg
 · injection hg with hg; subst hg; exact ⟨h1, h2⟩
theorem OwnO.kept (h : OwnO w lo size A n c xs) {row : Option Nat} (hg : w.grownBy w' row) (hne : ∀ g, row = some g → blkOf A ≠ some g) : OwnO w' lo size A n c xs := by
 refine ⟨h.1, h.2.1, ?_⟩
 rcases h.2.2 with h0 | ⟨g, o, rfl, h1, h2, h3, h4⟩
 · exact .inl h0
 · have hb : w'.heap[g]? = w.heap[g]? := hg.block g h2 (fun e => hne g e.symm rfl)
   refine .inr ⟨g, o, rfl, h1, by have := hg.size; omega, fun j u hu => (World.cell?_of_block hb).trans (h3 j u hu), fun j hj => ?_⟩
   obtain ⟨k1, k2⟩ := h4 j hj
   refine ⟨by rw [World.cell?_of_block hb]; exact k1, ?_⟩
   rw [← k2]
   unfold World.frozen?
   rw [hb]
theorem OwnO.low (h : OwnO w lo size A n c xs) {row : Option Nat} (hg : w.grownBy w' row) (hr : ∀ g, row = some g → g < lo) : OwnO w' lo size A n c xs :=
 h.kept hg (fun g e e' => by have := hr g e; have := (h.lt e').1; omega)
theorem OwnO.lower (h : OwnO w lo size A n c xs) (hl : lo' ≤ lo) : OwnO w lo' size A n c xs := by
 refine ⟨h.1, h.2.1, ?_⟩
 rcases h.2.2 with h0 | ⟨g, o, e, h1, h2⟩
 · exact .inl h0
 · exact .inr ⟨g, o, e, by omega, h2⟩
theorem OwnO.reads (h : OwnO w lo size A n c xs) : Reads w lo size A n c xs := by
 refine ⟨h.1, h.2.1, fun hn => ?_⟩
 rcases h.2.2 with ⟨_, h0⟩ | ⟨g, o, e, h1, h2, h3, _⟩
 · have := h.2.1; omega
 · exact ⟨g, o, e, h1, h2, h3⟩
theorem OwnO.pos (h : OwnO w lo size A n c xs) (hn : 0 < n) : ∃ g o, A = some ⟨g, o, none⟩ ∧ lo ≤ g ∧ g < w.heap.size := by
 rcases h.2.2 with ⟨_, h0⟩ | ⟨g, o, e, h1, h2, _⟩
 · have := h.2.1; omega
 · exact ⟨g, o, e, h1, h2⟩
theorem OwnO.cut {g o : Nat} (h : OwnO w lo size (some ⟨g, o, none⟩) n c xs) (i : Nat) (hi : i ≤ n) : OwnO w lo size (if c = i then some ⟨g, o, none⟩ else some ⟨g, o + i * size, none⟩) (n - i) (c - i) (xs.drop (i * size)) := by
 have hc := h.2.1
 rcases h.2.2 with ⟨e, _⟩ | ⟨g', o', e, h1, h2, h3, h4⟩
 · cases e
 · injection e with e; injection e with e1 e2; subst e1; subst e2
   refine ⟨by rw [List.length_drop, h.1, Nat.sub_mul], by omega, .inr ?_⟩
   by_cases hci : c = i
   · rw [if_pos hci]
     refine ⟨g, o, rfl, h1, h2, fun j u hu => ?_, fun j hj => ?_⟩
     · have : xs.drop (i * size) = [] := List.drop_eq_nil_of_le (by rw [h.1]; exact Nat.mul_le_mul_right _ (by omega))
       rw [this] at hu; cases hu
     · rw [show c - i = 0 by omega] at hj; omega
   · rw [if_neg hci]
     refine ⟨g, o + i * size, rfl, h1, h2, fun j u hu => ?_, fun j hj => ?_⟩
     · rw [Nat.add_assoc]; exact h3 _ u (by rw [List.getElem?_drop] at hu; exact hu)
     · rw [Nat.add_assoc]
       refine h4 _ ?_
       rw [Nat.sub_mul] at hj
       have : i * size ≤ c * size := Nat.mul_le_mul_right _ (by omega)
       omega
end
def AppO (w : World) (lo size : Nat) (A : Option Addr) (A' : Option Addr) (n' c' : Nat) (xs' : List Value) (w' : World) : Prop :=
 OwnO w' lo size A' n' c' xs' ∧ w.grownBy w' (blkOf A) ∧ ∀ g, blkOf A' = some g → blkOf A = some g ∨ w.heap.size ≤ g
theorem AppO.gr {a w w' : World} {row : Option Nat} {lo size : Nat} {A A' : Option Addr} {n c n' c' : Nat} {xs xs' : List Value} (h : AppO w lo size A A' n' c' xs' w') (hg : a.grownBy w row) (ho : OwnO w lo size A n c xs) (hlo : a.heap.size ≤ lo) : a.grownBy w' row :=
 gr_trans hg h.2.1 (fun _ hb => .inr (Nat.le_trans hlo (ho.lt hb).1))
section
variable {P : Program} (w : World)
theorem run_appO {t e : TypeId} {size bytes : Nat} {z : Value} (E : ElemT P t e size bytes z) (ty : TypeId) (lo : Nat) (A : Option Addr) (n c : Nat) (xs : List Value) (hown : OwnO w lo size A n c xs)
   (ad : Addr) (m c' : Nat) (news : List Value) (hr : Reads w 0 size (some ad) m c' news) (h1 : ∀ u ∈ news, u.oneCell' = true)
   (h63 : n + m ≤ maxLen) (hbytes : (n + m) * bytes ≤ 140737488355328) (hlo : lo ≤ w.heap.size) (hcm : c ≤ maxLen) :
   ∃ A1 c1 w', (Builtin.append_ #[t, t] ty #[.slice A n c, .slice (some ad) m c']).run P w = .ok (.slice A1 (n + m) c1) w' ∧ AppO w lo size A A1 (n + m) c1 (xs ++ news) w' ∧ c1 ≤ maxLen := by
 have E' := E
 obtain ⟨ht, ⟨i, hi, hz, hsize, hby⟩, hzs, hsz⟩ := E
 have hcells : ∀ j u, news[j]? = some u → w.cell? (ad.add j) = some u := by
   intro j u hu
   rcases Nat.eq_zero_or_pos m with h0 | h0
   · subst h0
     have hn : news = [] := List.eq_nil_of_length_eq_zero (by simpa using hr.1)
     subst hn
     simp at hu
   · obtain ⟨g, o, h, _, _, hc⟩ := hr.2.2 h0
     injection h with h
     subst h
     rw [add_mk]
     exact hc j u hu
 rcases hown.2.2 with ⟨rfl, rfl⟩ | ⟨g, o, rfl, hl, hlt, hx, hroom⟩
 · obtain rfl : n = 0 := by have := hown.2.1; omega
   obtain rfl : xs = [] := List.eq_nil_of_length_eq_zero (by simpa using hown.1)
   obtain ⟨A1, c1, w', hrun, ha⟩ := run_app (P := P) w E' ty lo none 0 0 [] (Own.nil _ _ _ _) 0 (some ad) m c' news hr h1 h63 hbytes hlo
   refine ⟨A1, c1, w', hrun, ⟨OwnO.of ha.1, ha.2.1, ha.2.2⟩, ?_⟩
   rcases ha.1.2 with ⟨hv, _⟩ | ⟨g, cap, cur, hv, _, _, _, hm, _⟩
   · injection hv with _ _ e3; omega
   · injection hv with _ _ e3; omega
 · by_cases hr2 : n + m ≤ c
   · have hl2 : news.length = m * i.size := by rw [hr.1, hsize]
     have hin : ∀ j, j < news.length → n * size + j < c * size := by
       intro j hj
       have : (n + m) * size ≤ c * size := Nat.mul_le_mul_right _ hr2
       rw [Nat.add_mul] at this
       rw [hr.1] at hj
       omega
     have hcs : ∀ j, j < news.length → (w.cell? ⟨g, o + n * size + j, none⟩).isSome = true := fun j hj => by rw [Nat.add_assoc]; exact (hroom _ (hin j hj)).1
     have hrun := run_append_room_cells (P := P) w t ty e i ht hi g o n c ad m c' news hl2 hcells h1 hr2 (by rw [hsize]; exact hcs) (by rw [hsize]; exact fun j hj => by rw [Nat.add_assoc]; exact (hroom _ (hin j hj)).2)
     rw [hsize] at hrun
     have hgr : w.grownBy (w.setCells g (o + n * size) news) (some g) := gr_setCells (.inl rfl) _ _ _ (gr_refl _ _)
     refine ⟨some ⟨g, o, none⟩, c, _, hrun, ⟨⟨by rw [List.length_append, hown.1, hr.1, Nat.add_mul], hr2, .inr ⟨g, o, rfl, hl, by have := hgr.size; omega, fun j u hu => ?_, fun j hj => ?_⟩⟩, hgr, fun g' e => .inl e⟩, hcm⟩
     · by_cases hj : j < n * size
       · rw [List.getElem?_append_left (by rw [hown.1]; exact hj)] at hu
         rw [World.cell?_setCells_out g news _ w _ (fun _ _ => .inl (by show o + j < o + n * size; omega))]
         exact hx j u hu
       · rw [List.getElem?_append_right (by rw [hown.1]; omega), hown.1] at hu
         have hj2 := (List.getElem?_eq_some_iff.1 hu).1
         have h5 := World.cell?_setCells_in g news (o + n * size) w hcs (j - n * size) hj2
         rw [show o + n * size + (j - n * size) = o + j by omega] at h5
         rw [h5]
         rw [List.getElem?_eq_getElem hj2] at hu
         exact hu
     · obtain ⟨k1, k2⟩ := hroom j hj
       refine ⟨?_, by rw [World.frozen?_setCells]; exact k2⟩
       by_cases hj : o + n * size ≤ o + j ∧ o + j < o + n * size + news.length
       · have h5 := World.cell?_setCells_in g news (o + n * size) w hcs (j - n * size) (by omega)
         rw [show o + n * size + (j - n * size) = o + j by omega] at h5
         rw [h5]; rfl
       · rw [World.cell?_setCells_out g news _ w _ (fun _ _ => by show o + j < _ ∨ _ ≤ o + j; omega)]
         exact k1
   · obtain ⟨v', w', hrun, ho, hg⟩ := run_append_arg_grows (P := P) w t ty e i z size bytes ht hi hz hsize hby hzs hsz ⟨g, o, none⟩ n c xs hown.1 (fun j u hu => by rw [add_mk]; exact hx j u hu) ad m c' news hr.1 hcells (by omega) h63 hbytes
     rcases ho.2 with ⟨_, h0⟩ | ⟨g', cap, cur, rfl, hb, hh, hnc, hm, hcs⟩
     · omega
     · refine ⟨some ⟨g', 0, none⟩, cap, w', hrun, ⟨(OwnO.of (e := e) (show Own w' w.heap.size e size (some ⟨g', 0, none⟩) (n + m) cap (xs ++ news) from ho)).lower hlo, gr_none (gr_refl _ _) hg, fun g2 e => ?_⟩, hm⟩
       injection e with e; exact .inr (by rw [← e]; exact hb)
theorem wpl_appO {ops : Array Oper} {rest : List Oper} {o : Oper} {a : Act} {Q : Exit → Act → World → Prop} (hgd : o.guard = none) (s x : Operand) {t e : TypeId} {size bytes : Nat} {z : Value} (E : ElemT P t e size bytes z)
   (ho : o.op = .call { callee := .builtin .append, args := #[s, x], argTypes := #[t, t] })
   (lo : Nat) (A : Option Addr) (n c : Nat) (xs : List Value) (hs : a.eval s = .slice A n c) (hown : OwnO w lo size A n c xs)
   (ad : Addr) (m c' : Nat) (news : List Value) (hx : a.eval x = .slice (some ad) m c') (hr : Reads w 0 size (some ad) m c' news) (h1 : ∀ u ∈ news, u.oneCell' = true)
   (h63 : n + m ≤ maxLen) (hbytes : (n + m) * bytes ≤ 140737488355328) (hlo : lo ≤ w.heap.size) (hcm : c ≤ maxLen)
   (h : ∀ A1 c1 w', AppO w lo size A A1 (n + m) c1 (xs ++ news) w' → c1 ≤ maxLen → wpList P ops Q rest (a.put o.dst (.slice A1 (n + m) c1)) w') : wpList P ops Q (o :: rest) a w := by
 refine wpList_plain hgd fun K hK => ?_
 obtain ⟨A1, c1, w', hrun, h2, h3⟩ := run_appO (P := P) w E o.type lo A n c xs hown ad m c' news hr h1 h63 hbytes hlo hcm
 unfold Oper.wp execOp
 simp only [ho, resolve, invoke, builtin, Sem.run_bind, Sem.run_pure, Result.andThen_ok, List.map_toArray, List.map_cons, List.map_nil, hs, hx, hrun]
 exact hK _ _ (h A1 c1 w' h2 h3)
end
def OwnQ {α : Type} (row : α → List Value) (k : Nat) (w : World) (lo : Nat) (A : Option Addr) (n c : Nat) (l : List α) : Prop := OwnO w lo k A n c (l.flatMap row) ∧ l.length = n ∧ c ≤ maxLen
section
variable {α : Type} {row : α → List Value} {k : Nat} {w w' : World} {lo lo' n c : Nat} {A : Option Addr} {l : List α}
theorem OwnQ.recs (h : OwnQ row k w lo A n c l) : Recs row k w lo A n c l := ⟨h.1.reads, h.2.1⟩
theorem OwnQ.kept (h : OwnQ row k w lo A n c l) {r : Option Nat} (hg : w.grownBy w' r) (hne : ∀ g, r = some g → blkOf A ≠ some g) : OwnQ row k w' lo A n c l := ⟨h.1.kept hg hne, h.2⟩
theorem OwnQ.low (h : OwnQ row k w lo A n c l) {r : Option Nat} (hg : w.grownBy w' r) (hr : ∀ g, r = some g → g < lo) : OwnQ row k w' lo A n c l := ⟨h.1.low hg hr, h.2⟩
theorem OwnQ.lower (h : OwnQ row k w lo A n c l) (hl : lo' ≤ lo) : OwnQ row k w lo' A n c l := ⟨h.1.lower hl, h.2⟩
theorem OwnQ.lt (h : OwnQ row k w lo A n c l) {g : Nat} (hg : blkOf A = some g) : lo ≤ g ∧ g < w.heap.size := h.1.lt hg
theorem OwnQ.cut1 {g o : Nat} {a : α} (hrow : ∀ a, (row a).length = k) (h : OwnQ row k w lo (some ⟨g, o, none⟩) n c (a :: l)) : OwnQ row k w lo (if c = 1 then some ⟨g, o, none⟩ else some ⟨g, o + k, none⟩) (n - 1) (c - 1) l := by
 have hl := h.2.1
 rw [List.length_cons] at hl
 have h1 := h.1.cut 1 (by omega)
 rw [Nat.one_mul, List.flatMap_cons, List.drop_append_of_le_length (by rw [hrow]; exact Nat.le_refl _), List.drop_of_length_le (by rw [hrow]; exact Nat.le_refl _), List.nil_append] at h1
 exact ⟨h1, by omega, by have := h.2.2; omega⟩
theorem OwnQ.app {a : α} (h : OwnQ row k w lo A n c l) {A1 : Option Addr} {c1 n1 : Nat} (hn : n1 = n + 1) (h1 : AppO w lo k A A1 n1 c1 (l.flatMap row ++ row a) w') (hc : c1 ≤ maxLen) : OwnQ row k w' lo A1 n1 c1 (l ++ [a]) := by
 subst hn
 refine ⟨?_, by simp [h.2.1], hc⟩
 rw [List.flatMap_append]
 simpa using h1.1
end
end
end Go.Proofs.YteppdabhloieaaaGreatDoor
namespace Go.Proofs.YteppdabhloieaaaGreatDoor
section
open Go.RowKit Go.Sort
def Gq (w w' : World) : Prop := ∃ (q : Nat) (os : Array Obj), w' = grow (w.drewN q) os
theorem Gq.refl (w : World) : Gq w w := ⟨0, #[], by rw [grow_empty]; rfl⟩
theorem Gq.grow {a b : World} (h : Gq a b) (os : Array Obj) : Gq a (grow b os) := by
 obtain ⟨q, os0, rfl⟩ := h
 exact ⟨q, os0 ++ os, by rw [grow_grow]⟩
theorem Gq.alloc {a b : World} (h : Gq a b) (o : Obj) : Gq a (b.alloc o) := by rw [alloc_eq_grow]; exact h.grow _
theorem Gq.drewN {a b : World} (h : Gq a b) (n : Nat) : Gq a (b.drewN n) := by
 obtain ⟨q, os, rfl⟩ := h
 exact ⟨q + n, os, by simp [World.drewN, Go.Sort.grow, Nat.add_assoc]⟩
theorem Gq.drew {a b : World} (h : Gq a b) : Gq a b.drew := h.drewN 1
theorem Gq.trans {a b c : World} (h : Gq a b) (k : Gq b c) : Gq a c := by
 obtain ⟨q, os, rfl⟩ := k
 exact (h.drewN q).grow os
theorem Gq.gr {a b : World} (h : Gq a b) : a.grownBy b none := by
 obtain ⟨q, os, rfl⟩ := h
 refine ⟨rfl, rfl, rfl, ?_, fun k hk _ => ?_⟩
 · show a.heap.size ≤ (a.heap ++ os).size
   rw [Array.size_append]; omega
 · show (a.heap ++ os)[k]? = a.heap[k]?
   rw [Array.getElem?_append_left hk]
theorem same_calls {P : Program} {f : FuncId} {args : Array Value} {w : World} {v : Value} {R : Ending → World → Prop} (h : Calls P f args w (Same v w)) (k : R (.returned v) w) : Calls P f args w R :=
 h.mono (by rintro e w' ⟨rfl, rfl⟩; exact k)
end
end Go.Proofs.YteppdabhloieaaaGreatDoor
namespace Go.Proofs.YteppdabhloieaaaGreatDoor
section
open Go.RowKit
def firstE (l : List Int) : Int := (l.find? (fun z => z != 0)).getD 0
theorem firstE_cons (a : Int) (l : List Int) : firstE (a :: l) = if a = 0 then firstE l else a := by
 unfold firstE
 by_cases h : a = 0
 · subst h; rfl
 · rw [if_neg h, List.find?_cons_of_pos (by simpa using h)]; rfl
theorem firstE_nil : firstE [] = 0 := rfl
set_option maxHeartbeats 2000000 in
theorem errs_run (lo : Nat) (A : Option Addr) (n c : Nat) (l : List Int) (w : World) (h : Ints .i64 w lo A n c l) (hn : n ≤ 1000000000000) :
   Calls Tryz.prog 11 #[.slice A n c] w (Same (.int .i64 (firstE l)) w) := by
 have H := Lib.hid h; clear h
 go_enter Tryz.func11, Tryz.ntmps11
 go_wp2_with fail
 go_loop [4, 7] (fun _ t => ∃ i : Nat, i ≤ n ∧ t = .int .i64 i ∧ firstE l = firstE (l.drop i)) (fun _ t => n - (intOf t).toNat)
 case atStart => exact ⟨0, Nat.zero_le _, rfl, rfl⟩
 case round =>
   obtain ⟨i, hi, rfl, ha⟩ := hrel
   have HA := Lib.hid ha; clear ha
   by_cases hlt : i < n
   · obtain ⟨g, o, z, rfl, _, _, hz, hc⟩ := H.out.get hlt
     have HZ := Lib.hid (show firstE l = if z = 0 then firstE (l.drop (i + 1)) else z by
       rw [HA.out, ← firstE_cons]
       obtain ⟨hl, hz2⟩ := List.getElem?_eq_some_iff.1 hz
       rw [List.drop_eq_getElem_cons hl, hz2])
     clear hz
     by_cases hp : z = 0
     · subst hp
       go_wp2_with fail
       go_round
       case rel => exact ⟨i + 1, by omega, by go_num, by rw [HZ.out]; rfl⟩
       case measure => simp [intOf]; omega
     · have hpb : (z != 0) = true := by simpa using hp
       have HP := Lib.hid (show firstE l = z by rw [HZ.out, if_neg hp])
       go_wp2_with fail
       go_ret
       exact ⟨by rw [HP.out]; rfl, rfl⟩
   · obtain rfl : i = n := by omega
     go_wp2_with fail
     go_ret
     exact ⟨by rw [HA.out, List.drop_eq_nil_of_le (by rw [H.out.len]; exact Nat.le_refl _)]; rfl, rfl⟩
end
end Go.Proofs.YteppdabhloieaaaGreatDoor

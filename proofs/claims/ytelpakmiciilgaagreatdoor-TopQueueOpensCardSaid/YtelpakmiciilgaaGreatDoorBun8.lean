/- Contracts of the generators of styles and callers. Conditions: none. -/
import Derived.Test.YtelpakmiciilgaaGreatDoorBun5
import Derived.Test.YtelpakmiciilgaaGreatDoorBun3
import Derived.Test.YtelpakmiciilgaaGreatDoorQue4
import Derived.Laws.Runes
import Derived.Test.YtelpakmiciilgaaGreatDoorBun6
import Derived.Test.YtelpakmiciilgaaGreatDoorBun2
import Derived.Deep.QuietTactic
import Derived.BigQuiet
import Derived.Test.YtelpakmiciilgaaGreatDoorShelfTrim
import Derived.Deep.CutBlock
import Derived.Deep.LoopGhost
import Derived.Deep.RegionLaw
namespace Go.Proofs.YtelpakmiciilgaaGreatDoor
section
open Go.RowKit

def IsStyle (v : Value) (_ : World) : Prop := ∃ a b c : Int, v = .agg #[.int .i64 a, .int .i64 b, .int .i64 c]
def IsRStyle (v : Value) (_ : World) : Prop := ∃ a b c : Int, v = .agg #[.int .i64 a, .int .i64 b, .int .i64 c] ∧ 1 ≤ a ∧ a ≤ 4 ∧ 0 ≤ b
theorem Tryz.styT : StructT Tryz.prog 56 3 := ⟨_, Tryz.underlying56, rfl, by kernel_rfl⟩

/-! Callers. -/
def GCas (w : World) (lo : Nat) (A : Option Addr) (n c : Nat) (l : List CaV) : Prop := OwnR CaV.row 8 w lo 49 A n c l ∧ ∀ a ∈ l, CaOk a
def IsCas (lo most : Nat) (v : Value) (w : World) : Prop := ∃ (A : Option Addr) (n c : Nat) (l : List CaV), v = .slice A n c ∧ GCas w lo A n c l ∧ n ≤ most
section
variable {w w' : World} {lo n c : Nat} {A : Option Addr} {l : List CaV}
theorem GCas.cas (h : GCas w lo A n c l) : Cas w lo A n c l := ⟨h.1.recs, h.2⟩
theorem GCas.low (h : GCas w lo A n c l) {r : Option Nat} (hg : w.grownBy w' r) (hr : ∀ g, r = some g → g < lo) : GCas w' lo A n c l := ⟨h.1.low hg hr, h.2⟩
theorem GCas.set1 {g i j p : Nat} {a a' : CaV} {u : Value} (h : GCas w lo (some ⟨g, 0, none⟩) n c l) (hi : l[i]? = some a) (hj : j < 8) (hr : a'.row = a.row.set j u) (hb : CaOk a') (hp : p = i * 8 + j) : GCas (w.setCell ⟨g, p, none⟩ u) lo (some ⟨g, 0, none⟩) n c (l.set i a') :=
  ⟨h.1.set1 CaV.row_len hi hj hr hp, fun x hx => by
    rcases List.mem_or_eq_of_mem_set hx with hx | hx
    · exact h.2 x hx
    · rw [hx]; exact hb⟩
end
theorem encS (n : Int) : (Utf8.encode n).size ≤ 4 := by
  unfold Utf8.encode
  dsimp only
  split <;> (try split) <;> (try split) <;> (try split) <;> first | (show 1 ≤ 4; omega) | (show 2 ≤ 4; omega) | (show 3 ≤ 4; omega) | (show 4 ≤ 4; omega) | fail
theorem appS (s t : ByteArray) : (s ++ t).size = s.size + t.size := by
  rw [← nb_len, nb_append, List.length_append, nb_len, nb_len]
end
end Go.Proofs.YtelpakmiciilgaaGreatDoor
/- Contracts of Able, AbleOf; queued is true. Conditions: none. -/
namespace Go.Proofs.YtelpakmiciilgaaGreatDoor
section
open Go.RowKit

def agQ : AgV := ⟨⟨#[97]⟩, none, 0, 0, 0, 5, none, 0, 0, 0, [], []⟩
theorem presR_Q : presR agQ 4 = .tuple #[.bool true, .int .i64 0] := by
  have h1 : agsE [agQ] = 0 := by decide +kernel
  have h2 : momB 4 = true := by decide
  have h3 : presB agQ 4 = true := by decide
  unfold presR
  rw [h1, h2, h3]; rfl
end
end Go.Proofs.YtelpakmiciilgaaGreatDoor
/- Contracts of the room's free and rank, and of the order of those in line. Conditions: none. -/
namespace Go.Proofs.YtelpakmiciilgaaGreatDoor
section
open Go.RowKit

theorem Tryz.seT : StructT Tryz.prog 58 5 := ⟨_, Tryz.underlying58, rfl, by kernel_rfl⟩
section
variable {wb w w' : World} {R : RoC} {s : StyV} {A : List AgV} {C : List CaV} {st : RoS}
end
theorem tdiv_bd {a b : Int} (ha : -1000000000000 ≤ a) (ha2 : a ≤ 1000000000000) (hb : 0 < b) : -1000000000000 ≤ a.tdiv b ∧ a.tdiv b ≤ 1000000000000 := by
  rcases Int.le_total 0 a with h | h
  · have h1 : 0 ≤ a.tdiv b := Int.tdiv_nonneg h (by omega)
    have h2 : a.tdiv b ≤ a := Int.tdiv_le_self b h
    omega
  · have h1 : 0 ≤ (-a).tdiv b := Int.tdiv_nonneg (by omega) (by omega)
    have h2 : (-a).tdiv b ≤ -a := Int.tdiv_le_self b (by omega)
    rw [Int.neg_tdiv] at h1 h2
    omega
def sgn3 (z : Int) : Int := if z < 0 then -1 else if 0 < z then 1 else 0
theorem sgn3_lt (z : Int) : decide (sgn3 z < 0) = decide (z < 0) := by
  unfold sgn3
  by_cases h : z < 0
  · rw [if_pos h, decide_eq_true h]; rfl
  · rw [if_neg h, decide_eq_false h]
    by_cases h2 : 0 < z
    · rw [if_pos h2]; rfl
    · rw [if_neg h2]; rfl
end
end Go.Proofs.YtelpakmiciilgaaGreatDoor
/- Contract of slices.SortStableFunc at few places, in the room's order. Conditions: at most 19 places. -/
namespace Go.Proofs.YtelpakmiciilgaaGreatDoor
section
open Go.RowKit

def irow (i : Nat) : List Value := [.int .i64 i]
theorem irow_len (i : Nat) : (irow i).length = 1 := rfl
end
end Go.Proofs.YtelpakmiciilgaaGreatDoor
/- Contracts of slices.DeleteFunc at ints and of the room's times. Conditions: none. -/
namespace Go.Proofs.YtelpakmiciilgaaGreatDoor
section
open Go.RowKit

theorem reads_lit (w : World) (t : TypeId) (cs : List Value) (n : Nat) (h : cs.length = n) {g : Nat} (hg : w.heap.size = g) : Reads (w.alloc (.cells cs.toArray t)) g 1 (some ⟨g, 0, none⟩) n n cs := by
  subst hg; exact Reads.blk (Blk.new _ _ _) 1 n (by omega)
theorem idxP_spec {α : Type} (p : α → Bool) (l : List α) : (idxP p l = -1 ∧ ∀ x ∈ l, p x = false) ∨ ∃ (i : Nat) (z : α), idxP p l = i ∧ l[i]? = some z ∧ p z = true ∧ ∀ x ∈ l.take i, p x = false := by
  unfold idxP
  cases h : l.any p with
  | false => exact .inl ⟨rfl, fun x hx => by simpa using List.any_eq_false.1 h x hx⟩
  | true =>
    obtain ⟨x, hx, hp⟩ := List.any_eq_true.1 h
    have hlt : l.findIdx p < l.length := List.findIdx_lt_length_of_exists ⟨x, hx, hp⟩
    refine .inr ⟨l.findIdx p, l[l.findIdx p], rfl, List.getElem?_eq_getElem hlt, List.findIdx_getElem (w := hlt), fun y hy => ?_⟩
    obtain ⟨j, hj, rfl⟩ := List.mem_iff_getElem.1 hy
    rw [List.length_take] at hj
    rw [List.getElem_take]
    simpa using List.not_of_lt_findIdx (p := p) (xs := l) (show j < l.findIdx p by omega)
def laterB (t : Int) (x : Int) : Bool := decide (t < x)
theorem later_not (t x : Int) : laterB t x = !decide (x ≤ t) := by
  unfold laterB
  by_cases h : x ≤ t
  · rw [decide_eq_true h, decide_eq_false (by omega)]; rfl
  · rw [decide_eq_false h, decide_eq_true (by omega)]; rfl
theorem run_clearI {w : World} {lo n c g : Nat} {l : List Int} (h : OwnR nrow 1 w lo 3 (some ⟨g, 0, none⟩) n c l) (i : Nat) (hi : i < n) (m cc : Nat) (hm : m = n - i) :
    ∃ w', (∀ ty, (Builtin.clear_ #[22] ty #[.slice (some ⟨g, i, none⟩) m cc]).run Tryz.prog w = .ok (.tuple #[]) w') ∧ OwnR nrow 1 w' lo 3 (some ⟨g, 0, none⟩) i c (l.take i) ∧ w.grownBy w' (some g) := by
  obtain ⟨w', h1, h2, h3⟩ := run_clear_own (P := Tryz.prog) (ty := 0) Tryz.underlying22 Tryz.zeroValue3 rfl rfl h.1 i (by omega) (some ⟨g, i, none⟩) (fun _ => rfl) m cc hm
  refine ⟨w', fun ty => ?_, ⟨?_, by rw [List.length_take, h.2]; omega⟩, h3⟩
  · exact h1
  · have hp := h2.prefix_ i (by omega)
    have hl := h.1.len
    rw [Nat.mul_one, List.take_append_of_le_length (by rw [List.length_take]; omega), List.take_take, Nat.min_self] at hp
    have : (l.flatMap nrow).take i = (l.take i).flatMap nrow := by rw [nrow_map, nrow_map, List.map_take]
    rw [this] at hp
    exact hp
end
end Go.Proofs.YtelpakmiciilgaaGreatDoor
/- Contracts of the room's line and choose. Conditions: none. -/
namespace Go.Proofs.YtelpakmiciilgaaGreatDoor
section
open Go.RowKit

theorem cmpI_lt (a b : Int) : decide (Lib.compareInt a b < 0) = decide (a < b) := by
  unfold Lib.compareInt
  by_cases h : a < b
  · simp [h]
  · by_cases h2 : b < a
    · simp [h, h2]
    · simp [h, h2]
theorem cmpI_zero {a b : Int} (h : Lib.compareInt a b = 0) : a = b := by
  unfold Lib.compareInt at h
  by_cases h1 : a < b
  · simp [h1] at h
  · by_cases h2 : b < a
    · simp [h1, h2] at h
    · omega
end
end Go.Proofs.YtelpakmiciilgaaGreatDoor
/- Contract of the room's leave. Conditions: none. -/
namespace Go.Proofs.YtelpakmiciilgaaGreatDoor
section
open Go.RowKit

theorem boolsT : True := trivial
section
variable {wb w : World} {R : RoC} {s : StyV} {A : List AgV} {C : List CaV} {st : RoS}
end
end
end Go.Proofs.YtelpakmiciilgaaGreatDoor
/- Contract of the room's step. Conditions: none. -/
namespace Go.Proofs.YtelpakmiciilgaaGreatDoor
section
open Go.RowKit

section
variable {s : StyV} {A : List AgV} {C : List CaV} {st : RoS} {t : Int} {L : List Nat} {k i : Nat} {c : CaV}
theorem giveL_no (hi : L[k]? = some i) (hc : C[i]? = some c) (hn : chosenR s A st c t < 0) : giveL s A C st t (L.drop k) = giveL s A C st t (L.drop (k + 1)) := by
  obtain ⟨hl, rfl⟩ := List.getElem?_eq_some_iff.1 hi
  rw [List.drop_eq_getElem_cons hl]
  show (C[L[k]]?).elim _ _ = _
  rw [hc]
  exact if_pos hn
theorem giveL_yes (hi : L[k]? = some i) (hc : C[i]? = some c) (hn : ¬ chosenR s A st c t < 0) : giveL s A C st t (L.drop k) = some (givenR A C st t i (chosenR s A st c t).toNat) := by
  obtain ⟨hl, rfl⟩ := List.getElem?_eq_some_iff.1 hi
  rw [List.drop_eq_getElem_cons hl]
  show (C[L[k]]?).elim _ _ = _
  rw [hc]
  exact if_neg hn
theorem givenR_eq {kk : Nat} {a : AgV} {d : Int × Int} {b : Bool} {H : Int} (hc : C[i]? = some c) (ha : A[kk]? = some a) (hd : dAt st.ds kk = d) (hb : bAt st.bk i = b) (hH : (if b then 3 else 1) = H) :
    givenR A C st t i kk = ⟨st.ds.set kk (d.1 + 1, t + c.talk), st.se.set i ⟨c.id, a.key, H, t, t + c.talk⟩, st.bk, st.dn.set i true, a.key⟩ := by
  unfold givenR
  rw [hc, ha]
  simp only [Option.elim]
  rw [hd, hb, hH]
end
theorem SeV.one (r : SeV) : ∀ u ∈ r.row, u.oneCell' = true := by
  intro u hu
  simp only [SeV.row, List.mem_cons, List.not_mem_nil, or_false] at hu
  rcases hu with rfl | rfl | rfl | rfl | rfl <;> rfl
theorem dkRow_one (r : Int × Int) : ∀ u ∈ dkRow r, u.oneCell' = true := by
  intro u hu
  simp only [dkRow, List.mem_cons, List.not_mem_nil, or_false] at hu
  rcases hu with rfl | rfl <;> rfl
end
end Go.Proofs.YtelpakmiciilgaaGreatDoor
/- Contracts of newRoom and of the document's PlayOf. Conditions: agents and callers whose numbers are in bounds. -/
namespace Go.Proofs.YtelpakmiciilgaaGreatDoor
section
open Go.RowKit

theorem Tryz.sesT : ElemT Tryz.prog 52 58 5 56 (.agg #[.string ⟨#[]⟩, .string ⟨#[]⟩, .int .i64 0, .int .i64 0, .int .i64 0]) := elemT_of Tryz.underlying52 (by kernel_rfl) rfl (by decide)
theorem Tryz.syT : StructT Tryz.prog 56 3 := ⟨_, Tryz.underlying56, rfl, by kernel_rfl⟩
/-- Three operations that run are ready. -/
def dks (m : Nat) : List Value := List.replicate (m * 2) (.int .i64 0)
theorem dks_flat (m : Nat) : (List.replicate m ((0 : Int), (0 : Int))).flatMap dkRow = dks m := by
  induction m with
  | zero => rfl
  | succ m ih =>
    rw [List.replicate_succ, List.flatMap_cons, ih]
    unfold dks
    rw [show (m + 1) * 2 = m * 2 + 1 + 1 by omega, List.replicate_succ, List.replicate_succ]
    rfl
theorem made2 (n : Nat) : madeCells #[.int .i64 0, .int .i64 0] n = (List.replicate n (Value.int .i64 0)).toArray := by
  apply Array.ext
  · simp [madeCells]
  · intro i h1 h2
    have h3 : i % 2 = 0 ∨ i % 2 = 1 := by omega
    rcases h3 with h | h <;> simp [madeCells, h]
theorem ownB_made (w : World) (n : Nat) (hn : n ≤ 1000) : OwnR bRow 1 (w.alloc (.cells (Array.replicate n (.bool false)) 4)) w.heap.size 4 (some ⟨w.heap.size, 0, none⟩) n n (List.replicate n false) := by
  refine ⟨?_, by simp⟩
  have h := Own.made w 4 (.bool false) n (by unfold maxLen; omega)
  have e : (List.replicate n false).flatMap bRow = List.replicate n (.bool false) := by
    induction n with
    | zero => rfl
    | succ n ih => rw [List.replicate_succ, List.flatMap_cons, ih (by omega) (Own.made w 4 (.bool false) n (by unfold maxLen; omega))]; rfl
  rw [e]
  exact h
end
end Go.Proofs.YtelpakmiciilgaaGreatDoor
/- Contracts of talked, checkSeat, CheckSeats and of the document's SeatsFault. Conditions: callers whose numbers are in bounds (but for CheckSeats). -/
namespace Go.Proofs.YtelpakmiciilgaaGreatDoor
section
open Go.RowKit

theorem how_24 {z : SeV} (h1 : inB z.how 1 4 = true) (h2 : tkB z = false) (h3 : z.how ≠ 2) : z.how = 4 := by
  unfold inB at h1
  unfold tkB at h2
  simp only [Bool.and_eq_true, decide_eq_true_eq] at h1
  simp only [Bool.or_eq_false_iff, beq_eq_false_iff_ne] at h2
  omega
theorem how_13 {z : SeV} (h : tkB z = true) : (z.how == 2) = false ∧ (z.how == 4) = false := by
  unfold tkB at h
  simp only [Bool.or_eq_true, beq_iff_eq] at h
  rcases h with h | h <;> rw [h] <;> exact ⟨rfl, rfl⟩
end
end Go.Proofs.YtelpakmiciilgaaGreatDoor
/- The program's player as it lies in memory: desks and waiters behind pointers; what a store leaves. Conditions: none. -/
namespace Go.Proofs.YtelpakmiciilgaaGreatDoor
section
open Go.RowKit

theorem Tryz.pdT : StructT Tryz.prog 116 9 := ⟨_, Tryz.underlying116, rfl, by kernel_rfl⟩
theorem Tryz.pwT : StructT Tryz.prog 119 14 := ⟨_, Tryz.underlying119, rfl, by kernel_rfl⟩
theorem Tryz.ppT : StructT Tryz.prog 113 6 := ⟨_, Tryz.underlying113, rfl, by kernel_rfl⟩
theorem storeCells_from (g i : Nat) (vs : List Value) : ∀ k, storeCells ⟨g, i, none⟩ vs k = storeCells ⟨g, 0, none⟩ vs (i + k) := by
  induction vs with
  | nil => intro k; rfl
  | cons v vs ih =>
    intro k
    show (do store ((⟨g, i, none⟩ : Addr).add k) v; storeCells ⟨g, i, none⟩ vs (k + 1)) = (do store ((⟨g, 0, none⟩ : Addr).add (i + k)) v; storeCells ⟨g, 0, none⟩ vs (i + k + 1))
    rw [add_mk, add_mk, Nat.zero_add, ih (k + 1), Nat.add_assoc]
section
variable {P : Program} {w : World} {o : Oper} {a : Act} {K : Act → World → Prop} {Q : Exit → Act → World → Prop}
/-- The last cells of a block, stored as a struct. -/
theorem wp_store_tail {ty : TypeId} {n : Nat} (T : StructT P ty n) (x y : Operand) (ho : o.op = .store ty x y) (g i : Nat) (hx : a.eval x = .pointer (some ⟨g, i, none⟩)) (t : TypeId) (cur cs new : Array Value) (hy : a.eval y = .agg cs) (hb : Blk w g t cur)
    (hn : cs.size = n) (hc : i + cs.size = cur.size) (h1 : ∀ u ∈ cs.toList, u.oneCell' = true) (hnew : (cur.toList.take i ++ cs.toList).toArray = new) (h : ∀ w', Stored w g t new w' → K (a.put o.dst undef) w') : o.wp P a w K Q := by
  obtain ⟨d, hd1, hd2, hd3⟩ := T
  cases hq : P.info? ty with
  | none => simp [hq] at hd3
  | some inf =>
    have hs : inf.size = n := by simpa [hq] using hd3
    have hrun := run_storeCells_from (P := P) g t cs.toList i cur w hb (by simp; omega) h1
    rw [hnew] at hrun
    have hst : (Instr.storeAt ty (.pointer (some ⟨g, i, none⟩)) (.agg cs)).run P w = .ok () (w.setRow g new) := by
      have hrun2 : (storeCells ⟨g, i, none⟩ cs.toList 0).run P w = .ok () (w.setRow g new) := by
        rw [← hrun]
        rw [storeCells_from g i cs.toList 0]; rfl
      simp [Instr.storeAt, Instr.sureAddr, storeVar, sizeOf, typeInfo, hq, hs, Value.cells, hn, hrun2]
    unfold Oper.wp execOp
    simp only [ho, hx, hy, Sem.run_bind, Sem.run_pure, Result.andThen_ok, hst]
    refine h _ ⟨?_, ⟨rfl, rfl, rfl, ?_, ?_⟩, ?_⟩
    · have hlt := hb.lt
      unfold Blk at hb ⊢
      simp [World.setRow, Array.getElem?_modify, hb]
    · simp [World.setRow]
    · intro k hk hne
      simp only [World.setRow, Array.getElem?_modify]
      rw [if_neg (fun e => hne (by rw [e]))]
    · simp [World.setRow]
variable {ops : Array Oper} {rest : List Oper}
theorem wpl_store_tail {ty : TypeId} {n : Nat} (T : StructT P ty n) (hgd : o.guard = none) (x y : Operand) (ho : o.op = .store ty x y) (g i : Nat) (hx : a.eval x = .pointer (some ⟨g, i, none⟩)) (t : TypeId) (cur cs new : Array Value) (hy : a.eval y = .agg cs) (hb : Blk w g t cur)
    (hn : cs.size = n) (hc : i + cs.size = cur.size) (h1 : ∀ u ∈ cs.toList, u.oneCell' = true) (hnew : (cur.toList.take i ++ cs.toList).toArray = new) (h : ∀ w', Stored w g t new w' → wpList P ops Q rest (a.put o.dst undef) w') : wpList P ops Q (o :: rest) a w :=
  wpList_plain hgd fun _ hK => wp_store_tail T x y ho g i hx t cur cs new hy hb hn hc h1 hnew fun w' hs => hK _ _ (h w' hs)
end
/-! The player in memory. -/
structure PlC where
  pb : Nat
  D : Option Addr
  dc : Nat
  W : Option Addr
  wc : Nat
  di : List Nat
  wi : List Nat
def ptrV (b : Nat) : Value := .pointer (some ⟨b, 0, none⟩)
def DkBlk (w : World) (b : Nat) (a : AgV) (x : DkV) : Prop := Blk w b 116 #[.string a.key, .slice a.sA a.sn a.sc, .int .i64 a.fr, .int .i64 a.til, .slice a.pA a.pn a.pc, .int .i64 a.wrap, .int .i64 x.tk, .int .i64 x.en, .int .i64 x.n]
def WtBlk (w : World) (b : Nat) (c : CaV) (x : WtV) : Prop := Blk w b 119 #[.string c.id, .string c.skill, .int .i64 c.at_, .int .i64 c.least, .int .i64 c.prio, .int .i64 c.pat, .int .i64 c.talk, .bool c.back, .int .i64 x.how, .string x.seat.ca, .string x.seat.ag, .int .i64 x.seat.how, .int .i64 x.seat.beg, .int .i64 x.seat.fin]
def PpBlk (w : World) (R : PlC) (s : StyV) (m n : Nat) (last : ByteArray) : Prop := Blk w R.pb 113 #[.int .i64 s.kind, .int .i64 s.age, .int .i64 s.say, .slice R.D m R.dc, .slice R.W n R.wc, .string last]
def PlC.ids (R : PlC) : List Nat := R.pb :: (R.di ++ R.wi)
structure PlAt (w : World) (lo : Nat) (R : PlC) (s : StyV) (A : List AgV) (C : List CaV) (p : PlS) : Prop where
  pl : PpBlk w R s A.length C.length p.last
  dr : Reads w lo 1 R.D A.length R.dc (R.di.map ptrV)
  wr : Reads w lo 1 R.W C.length R.wc (R.wi.map ptrV)
  dl : R.di.length = A.length
  wl : R.wi.length = C.length
  dk : ∀ (i b : Nat) (a : AgV) (x : DkV), R.di[i]? = some b → A[i]? = some a → p.dk[i]? = some x → DkBlk w b a x
  wt : ∀ (i b : Nat) (c : CaV) (x : WtV), R.wi[i]? = some b → C[i]? = some c → p.wt[i]? = some x → WtBlk w b c x
  nd : R.ids.Nodup
  dn : ∀ g, blkOf R.D = some g → g ∉ R.ids
  wn : ∀ g, blkOf R.W = some g → g ∉ R.ids
  lo : ∀ b ∈ R.ids, lo ≤ b
  dl2 : p.dk.length = A.length
  wl2 : p.wt.length = C.length
section
variable {w w' : World} {lo : Nat} {R : PlC} {s : StyV} {A : List AgV} {C : List CaV} {p : PlS}
theorem Reads.other {k n c : Nat} {A' : Option Addr} {xs : List Value} {r : Option Nat} (h : Reads w lo k A' n c xs) (hg : w.grownBy w' r) (hr : ∀ g, r = some g → blkOf A' ≠ some g) : Reads w' lo k A' n c xs := by
  obtain ⟨h1, h2, h3⟩ := h
  refine ⟨h1, h2, fun hn => ?_⟩
  obtain ⟨g, o, e, hl, hlt, hc⟩ := h3 hn
  have hb : w'.heap[g]? = w.heap[g]? := hg.block g hlt (fun e2 => hr g e2.symm (by rw [e]; rfl))
  refine ⟨g, o, e, hl, by have := hg.size; omega, fun j u hu => ?_⟩
  have h4 := hc j u hu
  unfold World.cell? at h4 ⊢
  rw [hb]
  exact h4
theorem Reads.pos {k n c : Nat} {A' : Option Addr} {xs : List Value} (h : Reads w lo k A' n c xs) (hn : 0 < n) : ∃ g o, A' = some ⟨g, o, none⟩ ∧ lo ≤ g ∧ g < w.heap.size := by
  obtain ⟨g, o, e, h1, h2, _⟩ := h.2.2 hn
  exact ⟨g, o, e, h1, h2⟩
theorem Reads.cell1 {n c g o i : Nat} {xs : List Value} {u : Value} (h : Reads w lo 1 (some ⟨g, o, none⟩) n c xs) (hu : xs[i]? = some u) : w.cell? ⟨g, o + i, none⟩ = some u := by
  have hn : 0 < n := by
    have := (List.getElem?_eq_some_iff.1 hu).1
    have := h.len
    omega
  obtain ⟨g', o', e, _, _, hc⟩ := h.2.2 hn
  obtain ⟨rfl, rfl⟩ : g = g' ∧ o = o' := by simpa using e
  exact hc i u hu
theorem ptrRow {A' : Option Addr} {n c : Nat} {l : List Nat} {r : Option Nat} (h : Reads w lo 1 A' n c (l.map ptrV)) (hg : w.grownBy w' r) (hr : ∀ g, r = some g → blkOf A' ≠ some g) : Reads w' lo 1 A' n c (l.map ptrV) := h.other hg hr
theorem mem_d {i b : Nat} (h : R.di[i]? = some b) : b ∈ R.ids := List.mem_cons_of_mem _ (List.mem_append_left _ (mem_of_get h))
theorem mem_w {i b : Nat} (h : R.wi[i]? = some b) : b ∈ R.ids := List.mem_cons_of_mem _ (List.mem_append_right _ (mem_of_get h))
theorem nd_d (h : R.ids.Nodup) {i j b : Nat} (h1 : R.di[i]? = some b) (h2 : R.di[j]? = some b) : i = j := by
  have h3 := (List.nodup_append.1 (List.nodup_cons.1 h).2).1
  exact (List.getElem?_inj (List.getElem?_eq_some_iff.1 h1).1 h3).1 (h1.trans h2.symm)
theorem nd_w (h : R.ids.Nodup) {i j b : Nat} (h1 : R.wi[i]? = some b) (h2 : R.wi[j]? = some b) : i = j := by
  have h3 := (List.nodup_append.1 (List.nodup_cons.1 h).2).2.1
  exact (List.getElem?_inj (List.getElem?_eq_some_iff.1 h1).1 h3).1 (h1.trans h2.symm)
theorem nd_dw (h : R.ids.Nodup) {i j b c : Nat} (h1 : R.di[i]? = some b) (h2 : R.wi[j]? = some c) : b ≠ c := (List.nodup_append.1 (List.nodup_cons.1 h).2).2.2 b (mem_of_get h1) c (mem_of_get h2)
theorem nd_pd (h : R.ids.Nodup) {i b : Nat} (h1 : R.di[i]? = some b) : R.pb ≠ b := fun e => (List.nodup_cons.1 h).1 (List.mem_append_left _ (by rw [e]; exact mem_of_get h1))
theorem nd_pw (h : R.ids.Nodup) {i b : Nat} (h1 : R.wi[i]? = some b) : R.pb ≠ b := fun e => (List.nodup_cons.1 h).1 (List.mem_append_right _ (by rw [e]; exact mem_of_get h1))
/-- Nothing of the player is stored to. -/
theorem PlAt.kept (h : PlAt w lo R s A C p) {r : Option Nat} (hg : w.grownBy w' r) (hr : ∀ g, r = some g → g ∉ R.ids ∧ blkOf R.D ≠ some g ∧ blkOf R.W ≠ some g) : PlAt w' lo R s A C p := by
  have ne : ∀ b ∈ R.ids, some b ≠ r := fun b hb e => (hr b e.symm).1 hb
  exact ⟨h.pl.grown hg (ne _ (List.mem_cons_self ..)), h.dr.other hg (fun g e => (hr g e).2.1), h.wr.other hg (fun g e => (hr g e).2.2), h.dl, h.wl, fun i b a x h1 h2 h3 => (h.dk i b a x h1 h2 h3).grown hg (ne _ (mem_d h1)), fun i b a x h1 h2 h3 => (h.wt i b a x h1 h2 h3).grown hg (ne _ (mem_w h1)), h.nd, h.dn, h.wn, h.lo, h.dl2, h.wl2⟩
theorem PlAt.kept0 (h : PlAt w lo R s A C p) (hg : w.grownBy w' none) : PlAt w' lo R s A C p := h.kept hg fun g e => by cases e
theorem PlAt.setW (h : PlAt w lo R s A C p) {i b : Nat} {c : CaV} {x : WtV} (hi : R.wi[i]? = some b) (hc : C[i]? = some c) (hg : w.grownBy w' (some b)) (hb : WtBlk w' b c x) : PlAt w' lo R s A C ⟨p.dk, p.wt.set i x, p.last⟩ := by
  have hm := mem_w hi
  refine ⟨h.pl.grown hg (fun e => nd_pw h.nd hi (by injection e)), h.dr.other hg (fun g e => by injection e with e; subst e; exact fun e2 => h.dn _ e2 hm), h.wr.other hg (fun g e => by injection e with e; subst e; exact fun e2 => h.wn _ e2 hm), h.dl, h.wl,
    fun j d a y h1 h2 h3 => (h.dk j d a y h1 h2 h3).grown hg (fun e => nd_dw h.nd h1 hi (by injection e)), fun j d a y h1 h2 h3 => ?_, h.nd, h.dn, h.wn, h.lo, h.dl2, by show (p.wt.set _ _).length = _; rw [List.length_set]; exact h.wl2⟩
  change (p.wt.set i x)[j]? = some y at h3
  by_cases e : i = j
  · subst e
    have hlt := (List.getElem?_eq_some_iff.1 h3).1
    rw [List.length_set] at hlt
    rw [List.getElem?_set_self hlt] at h3
    injection h3 with h3
    subst h3
    rw [hi] at h1; injection h1 with h1; subst h1
    rw [hc] at h2; injection h2 with h2; subst h2
    exact hb
  · rw [List.getElem?_set_ne e] at h3
    exact (h.wt j d a y h1 h2 h3).grown hg (fun e2 => e (nd_w h.nd hi (by injection e2 with e2; rw [← e2]; exact h1)))
theorem PlAt.setD (h : PlAt w lo R s A C p) {i b : Nat} {a : AgV} {x : DkV} (hi : R.di[i]? = some b) (ha : A[i]? = some a) (hg : w.grownBy w' (some b)) (hb : DkBlk w' b a x) : PlAt w' lo R s A C ⟨p.dk.set i x, p.wt, p.last⟩ := by
  have hm := mem_d hi
  refine ⟨h.pl.grown hg (fun e => nd_pd h.nd hi (by injection e)), h.dr.other hg (fun g e => by injection e with e; subst e; exact fun e2 => h.dn _ e2 hm), h.wr.other hg (fun g e => by injection e with e; subst e; exact fun e2 => h.wn _ e2 hm), h.dl, h.wl,
    fun j d a y h1 h2 h3 => ?_, fun j d a y h1 h2 h3 => (h.wt j d a y h1 h2 h3).grown hg (fun e => nd_dw h.nd hi h1 (by injection e with e; exact e.symm)), h.nd, h.dn, h.wn, h.lo, by show (p.dk.set _ _).length = _; rw [List.length_set]; exact h.dl2, h.wl2⟩
  change (p.dk.set i x)[j]? = some y at h3
  by_cases e : i = j
  · subst e
    have hlt := (List.getElem?_eq_some_iff.1 h3).1
    rw [List.length_set] at hlt
    rw [List.getElem?_set_self hlt] at h3
    injection h3 with h3
    subst h3
    rw [hi] at h1; injection h1 with h1; subst h1
    rw [ha] at h2; injection h2 with h2; subst h2
    exact hb
  · rw [List.getElem?_set_ne e] at h3
    exact (h.dk j d a y h1 h2 h3).grown hg (fun e2 => e (nd_d h.nd hi (by injection e2 with e2; rw [← e2]; exact h1)))
theorem PlAt.setL (h : PlAt w lo R s A C p) {last' : ByteArray} (hg : w.grownBy w' (some R.pb)) (hb : PpBlk w' R s A.length C.length last') : PlAt w' lo R s A C ⟨p.dk, p.wt, last'⟩ := by
  have hm : R.pb ∈ R.ids := List.mem_cons_self ..
  exact ⟨hb, h.dr.other hg (fun g e => by injection e with e; subst e; exact fun e2 => h.dn _ e2 hm), h.wr.other hg (fun g e => by injection e with e; subst e; exact fun e2 => h.wn _ e2 hm), h.dl, h.wl,
    fun j d a y h1 h2 h3 => (h.dk j d a y h1 h2 h3).grown hg (fun e => nd_pd h.nd h1 (by injection e with e; exact e.symm)), fun j d a y h1 h2 h3 => (h.wt j d a y h1 h2 h3).grown hg (fun e => nd_pw h.nd h1 (by injection e with e; exact e.symm)), h.nd, h.dn, h.wn, h.lo, h.dl2, h.wl2⟩
theorem PlAt.desk (h : PlAt w lo R s A C p) {i : Nat} {a : AgV} (ha : A[i]? = some a) : ∃ g o b, R.D = some ⟨g, o, none⟩ ∧ R.di[i]? = some b ∧ w.cell? ⟨g, o + i, none⟩ = some (ptrV b) ∧ p.dk[i]? = some (dkAt p.dk i) ∧ DkBlk w b a (dkAt p.dk i) := by
  have hi := (List.getElem?_eq_some_iff.1 ha).1
  obtain ⟨b, hb⟩ : ∃ b, R.di[i]? = some b := ⟨_, List.getElem?_eq_getElem (by rw [h.dl]; exact hi)⟩
  obtain ⟨x, hx⟩ : ∃ x, p.dk[i]? = some x := ⟨_, List.getElem?_eq_getElem (by rw [h.dl2]; exact hi)⟩
  obtain ⟨g, o, hD, _⟩ := h.dr.pos (by omega)
  have hr := h.dr
  rw [hD] at hr
  refine ⟨g, o, b, hD, hb, ?_, by rw [dkAt_some hx]; exact hx, by rw [dkAt_some hx]; exact h.dk i b a x hb ha hx⟩
  exact hr.cell1 (by rw [List.getElem?_map, hb]; rfl)
theorem PlAt.waiter (h : PlAt w lo R s A C p) {i : Nat} {c : CaV} (hc : C[i]? = some c) : ∃ g o b, R.W = some ⟨g, o, none⟩ ∧ R.wi[i]? = some b ∧ w.cell? ⟨g, o + i, none⟩ = some (ptrV b) ∧ p.wt[i]? = some (wtAt p.wt i) ∧ WtBlk w b c (wtAt p.wt i) := by
  have hi := (List.getElem?_eq_some_iff.1 hc).1
  obtain ⟨b, hb⟩ : ∃ b, R.wi[i]? = some b := ⟨_, List.getElem?_eq_getElem (by rw [h.wl]; exact hi)⟩
  obtain ⟨x, hx⟩ : ∃ x, p.wt[i]? = some x := ⟨_, List.getElem?_eq_getElem (by rw [h.wl2]; exact hi)⟩
  obtain ⟨g, o, hD, _⟩ := h.wr.pos (by omega)
  have hr := h.wr
  rw [hD] at hr
  refine ⟨g, o, b, hD, hb, ?_, by rw [wtAt_some hx]; exact hx, by rw [wtAt_some hx]; exact h.wt i b c x hb hc hx⟩
  exact hr.cell1 (by rw [List.getElem?_map, hb]; rfl)
end
end
end Go.Proofs.YtelpakmiciilgaaGreatDoor
/- Contract of the generator RightAgents. Conditions: none. -/
namespace Go.Proofs.YtelpakmiciilgaaGreatDoor
section
open Go.RowKit

theorem pick_newD (sb : Nat) (m : Int) (l : List Int) (W : World) (hs : Str W sb m) (hm : m ≤ 1152921504606846976) {g n : Nat} {cs : Array Value} (hg : W.heap.size = g) (hcs : cs = (l.map (Value.int .i64)).toArray) (hn : l.length = n) (h0 : 1 ≤ n) (h1 : n ≤ 4611686018427387904) :
    Calls Tryz.prog 8 #[.pointer (some ⟨sb, 0, none⟩), .slice (some ⟨g, 0, none⟩) n n] (W.alloc (.cells cs 3)).drew (Drawn sb (m + 1) (IntOf l) W) := by
  refine Calls.mono (show Calls Tryz.prog 8 #[.pointer (some ⟨sb, 0, none⟩), .slice (some ⟨g, 0, none⟩) n n] (W.alloc (.cells cs 3)).drew (Drawn sb (m + 1) (IntOf l) W.drew) from pick_new sb m l W.drew hs.drew hm hg hcs hn h0 h1) ?_
  rintro e w' ⟨v, rfl, hv, hs', hg'⟩
  exact ⟨v, rfl, hv, hs', gr_same (gr_drew (gr_refl _ _)) hg'⟩
theorem names3 (k : Nat) (hk : k < 3) {w : World} {g : Nat} (h : Blk w g 9 #[.string ⟨#[97, 97]⟩, .string ⟨#[97, 98]⟩, .string ⟨#[97, 99]⟩]) : ∃ s : ByteArray, s.size ≤ 2 ∧ w.cell? ⟨g, k, none⟩ = some (.string s) := by
  rcases (by omega : k = 0 ∨ k = 1 ∨ k = 2) with rfl | rfl | rfl
  · exact ⟨_, by decide, h.cell 0⟩
  · exact ⟨_, by decide, h.cell 1⟩
  · exact ⟨_, by decide, h.cell 2⟩
theorem names2 (k : Nat) (hk : k < 2) {w : World} {g : Nat} (h : Blk w g 9 #[.string ⟨#[104, 101, 108, 112]⟩, .string ⟨#[115, 97, 108, 101]⟩]) : ∃ s : ByteArray, s.size ≤ 4 ∧ w.cell? ⟨g, k, none⟩ = some (.string s) := by
  rcases (by omega : k = 0 ∨ k = 1) with rfl | rfl
  · exact ⟨_, by decide, h.cell 0⟩
  · exact ⟨_, by decide, h.cell 1⟩
theorem AgN.pause {a : AgV} (h : AgN a) {y : Int × Int} (hy : 0 ≤ y.1 ∧ y.1 ≤ y.2 ∧ y.2 ≤ 345686400000) {A : Option Addr} {n c : Nat} : AgN { a with pA := A, pn := n, pc := c, ps := a.ps ++ [y] } := by
  obtain ⟨h1, h2, h3, h4, h5, h6, h7⟩ := h
  refine ⟨h1, h2, h3, h4, h5, fun p hp => ?_, h7⟩
  rcases List.mem_append.1 hp with hp | hp
  · exact h6 p hp
  · rw [List.mem_singleton.1 hp]; exact hy
theorem AgN.skill {a : AgV} (h : AgN a) {y : ByteArray × Int} (hy : 0 ≤ y.2 ∧ y.2 ≤ 9) {A : Option Addr} {n c : Nat} : AgN { a with sA := A, sn := n, sc := c, sk := a.sk ++ [y] } := by
  obtain ⟨h1, h2, h3, h4, h5, h6, h7⟩ := h
  refine ⟨h1, h2, h3, h4, h5, h6, fun p hp => ?_⟩
  rcases List.mem_append.1 hp with hp | hp
  · exact h7 p hp
  · rw [List.mem_singleton.1 hp]; exact hy
def RaRel (w : World) (sb : Nat) (m : Int) (v t : Value) (wr : World) : Prop := ∃ (k : Nat) (A : Option Addr) (n c : Nat) (l : List AgV), k ≤ 3 ∧ t = .int .i64 k ∧ v = .slice A n c ∧ Str wr sb (m + 30 * k) ∧ w.grownBy wr (some sb) ∧
  Blk wr w.heap.size 9 #[.string ⟨#[97, 97]⟩, .string ⟨#[97, 98]⟩, .string ⟨#[97, 99]⟩] ∧ GAgs wr w.heap.size A n c l ∧ n ≤ k ∧ ∀ a ∈ l, a.sn ≤ 2 ∧ a.pn ≤ 2 ∧ AgN a
def RaIn (wo : World) (sb ab : Nat) (m : Int) (t : Value) (wr : World) : Prop := ∃ (j : Nat) (a : AgV), j ≤ 2 ∧ t = .int .i64 j ∧ AgB wo sb ab (m + 2 * j) a wr ∧ Blk wr (ab + 1) 9 #[.string ⟨#[104, 101, 108, 112]⟩, .string ⟨#[115, 97, 108, 101]⟩] ∧ a.sn ≤ j ∧ a.pn ≤ 0 ∧ AgN a
end
end Go.Proofs.YtelpakmiciilgaaGreatDoor

/- slices.SortFunc at elements of one cell in a row of the call's own, by a closure that reads what lies in memory: a sorted permutation. Over any program that bears the library's text. Conditions: the order is a strict weak one. -/
import Derived.Test.YtlkibeckfpjccaaGreatDoorBun3
import Derived.Test.YtlkibeckfpjccaaGreatDoorBun1
import Derived.Test.YtlkibeckfpjccaaGreatDoorShelfTrim
namespace Go.Proofs.YtlkibeckfpjccaaGreatDoor
section
open Go.Shelf Go.RowKit Go.Lib Go.Sort

section
variable {P : Program} {ρ : Ren} {α : Type} {enc : α → Value} {e : TypeId} {lo g n c : Nat} {l : List α} {w : World}
theorem flat_one (l : List α) : l.flatMap (fun x => [enc x]) = l.map enc := by
  induction l with
  | nil => rfl
  | cons a l ih => rw [List.flatMap_cons, List.map_cons, ih]; rfl
theorem OwnR.holds1 [Inhabited α] (h : OwnR (fun x => [enc x]) 1 w lo e (some ⟨g, 0, none⟩) n c l) : Holds enc w g 0 l.toArray := by
  intro j hj
  have hj1 : j < l.length := by simpa using hj
  have hj' : j < n * 1 := by rw [← h.2]; omega
  rw [Nat.zero_add]
  refine ⟨(h.1.cell hj').trans ?_, h.1.frozen j⟩
  rw [flat_one, List.getElem?_map, List.getElem?_eq_getElem hj1, getElem!_pos _ j hj]
  rfl
theorem OwnR.sorted1 [Inhabited α] (h : OwnR (fun x => [enc x]) 1 w lo e (some ⟨g, 0, none⟩) n c l) {d' : Array α} (hs : d'.size = l.length) (m : Nat) (os : Array Obj) :
    OwnR (fun x => [enc x]) 1 (sortWorld enc w g 0 m d' os) lo e (some ⟨g, 0, none⟩) n c d'.toList ∧ w.grownBy (sortWorld enc w g 0 m d' os) (some g) := by
  have hg : ∀ b, b ≠ g → b < w.heap.size → (sortWorld enc w g 0 m d' os).heap[b]? = w.heap[b]? := by
    intro b hb hlt
    show (w.heap.modify g _ ++ os)[b]? = _
    rw [Array.getElem?_append_left (by simpa using hlt), Array.getElem?_modify, if_neg (Ne.symm hb)]
  have hsize : (sortWorld enc w g 0 m d' os).heap.size = w.heap.size + os.size := by
    show (w.heap.modify g _ ++ os).size = _
    simp
  refine ⟨⟨⟨by rw [flat_one]; simp [hs, h.2], ?_⟩, by simpa [h.2] using hs⟩, ⟨rfl, rfl, rfl, by omega, fun b hb hne => hg b (fun e => hne (by rw [e])) hb⟩⟩
  rcases h.1.2 with ⟨hv, _⟩ | ⟨g', cap, cur, hv, hlo, hh, hnc, hcm, hcs, htk⟩
  · cases hv
  · injection hv with e1 e2 e3
    injection e1 with e1
    injection e1 with e1
    subst e1; subst e3
    have hlt : g < w.heap.size := Blk.lt (t := e) (cs := cur) hh
    refine .inr ⟨g, c, putCells enc 0 d' cur, rfl, hlo, ?_, hnc, hcm, by simp [putCells, hcs], ?_⟩
    · show (w.heap.modify g _ ++ os)[g]? = _
      rw [Array.getElem?_append_left (by simpa using hlt), Array.getElem?_modify, if_pos rfl, hh]
      rfl
    · rw [flat_one]
      apply List.ext_getElem?
      intro t
      rw [List.getElem?_take, List.getElem?_map]
      by_cases ht : t < n * 1
      · have htc : t < cur.size := by rw [hcs]; exact Nat.lt_of_lt_of_le ht (Nat.mul_le_mul_right _ hnc)
        have hs2 : t < d'.size := by rw [hs, h.2]; omega
        rw [if_pos ht, Array.getElem?_toList, Array.getElem?_toList, Array.getElem?_eq_getElem hs2, ← getElem!_pos _ t hs2]
        simp only [putCells, Array.getElem?_mapIdx, Array.getElem?_eq_getElem htc, Option.map_some, Nat.zero_add, Nat.sub_zero]
        rw [if_pos ⟨Nat.zero_le _, hs2⟩]
      · rw [if_neg ht, Array.getElem?_toList, Array.getElem?_eq_none (by rw [hs, h.2]; omega)]
        rfl
/-- What a sort leaves. -/
def Sorted1 (cf : α → α → Int) (enc : α → Value) (lo : Nat) (e : TypeId) (A : Option Addr) (n c : Nat) (l : List α) (w : World) (q : Ending) (w' : World) : Prop :=
  q = .returned (.tuple #[]) ∧ ∃ l' : List α, l'.Perm l ∧ Asc cf l' ∧ OwnR (fun x => [enc x]) 1 w' lo e A n c l' ∧ w.grownBy w' (blkOf A)
theorem sort1_run [Inhabited α] (L : SlLaysF.n6 P ρ) (L0 : SlLaysF0.n6 P ρ) (h1 : OneCell enc) (cf : α → α → Int) (hO : SWO (ltOf cf)) (gf : Nat) (cb : Array Value)
    (eg : ∀ args w, (callFunc gf args).run P w = .ok (.enter gf args) w) (A : Option Addr) (hcmp : ∀ (x y : α) (w1 : World), w.grownBy w1 (blkOf A) → Calls P gf (#[enc x, enc y] ++ cb) w1 (RetQ (.int .i64 (cf x y)) w1))
    (h : OwnR (fun x => [enc x]) 1 w lo e A n c l) (hn : n < 4611686018427387904) : Calls P (ρ.f 6) #[.slice A n c, .func (.func gf) #[] cb] w (Sorted1 cf enc lo e A n c l w) := by
  rcases own_addr h.1 with ⟨rfl, rfl⟩ | ⟨g, rfl, hlt⟩
  · have hl : l = [] := List.eq_nil_of_length_eq_zero h.2
    refine (AnyF.slices_SortFunc_none L0 none c _ w).mono ?_
    rintro q w' ⟨rfl, rfl⟩
    exact ⟨rfl, l, .refl _, by rw [hl]; exact List.Pairwise.nil, h, gr_refl _ _⟩
  · have hl : l.toArray.size = n := by simpa using h.2
    have hc : CmpLays1 P gf cb enc cf g 0 l.toArray.size w := fun m os dk hd x y => (hcmp x y _ (h.sorted1 (d' := dk) (by rw [hd]; simp) m os).2).mono fun q w' h => ⟨h.1, h.2⟩
    have hcon := Any.slices_SortFunc L enc h1 cf hO gf cb g 0 c l.toArray w eg hc h.holds1 hlt (by rw [hl]; exact hn)
    rw [hl] at hcon
    refine hcon.mono ?_
    rintro q w' ⟨rfl, d', m, os, hp, hs, rfl⟩
    rw [← hl] at hp hs
    obtain ⟨hsz, hpm⟩ := permIn_perm hp
    rw [← hsz] at hs
    obtain ⟨ho, hg⟩ := h.sorted1 (d' := d') (by simpa using hsz) m os
    exact ⟨rfl, d'.toList, by simpa using hpm, sortedIn_asc hs, ho, hg⟩
/-- The order is asked of right elements alone. -/
theorem sort1_any (L : SlLaysF.n6 P ρ) (L0 : SlLaysF0.n6 P ρ) (h1 : OneCell enc) (cf : α → α → Int) (hO : SWO (ltOf cf)) (gf : Nat) (cb : Array Value)
    (eg : ∀ args w, (callFunc gf args).run P w = .ok (.enter gf args) w) {Ok : α → Prop} (A : Option Addr) (hcmp : ∀ (x y : α) (w1 : World), w.grownBy w1 (blkOf A) → Ok x → Ok y → Calls P gf (#[enc x, enc y] ++ cb) w1 (RetQ (.int .i64 (cf x y)) w1))
    (h : OwnR (fun x => [enc x]) 1 w lo e A n c l) (hl : ∀ x ∈ l, Ok x) (hn : n < 4611686018427387904) : Calls P (ρ.f 6) #[.slice A n c, .func (.func gf) #[] cb] w (Sorted1 cf enc lo e A n c l w) := by
  rcases l.eq_nil_or_concat with hnil | ⟨l0, x0, hx0⟩
  · subst hnil
    have h0 : n = 0 := by simpa using h.2.symm
    subst h0
    refine (AnyF.slices_SortFunc_none L0 A c _ w).mono ?_
    rintro q w' ⟨rfl, rfl⟩
    exact ⟨rfl, [], .refl _, List.Pairwise.nil, h, gr_refl _ _⟩
  · haveI : Inhabited {x : α // Ok x} := ⟨⟨x0, hl x0 (by rw [hx0]; simp)⟩⟩
    have hv : (l.attachWith Ok hl).map Subtype.val = l := List.attachWith_map_subtype_val hl
    have hfl : ∀ m : List {x : α // Ok x}, m.flatMap (fun x => [enc x.1]) = (m.map Subtype.val).flatMap (fun x => [enc x]) := fun m => by rw [List.flatMap_map]
    have h' : OwnR (fun x : {x : α // Ok x} => [enc x.1]) 1 w lo e A n c (l.attachWith Ok hl) := ⟨by rw [hfl, hv]; exact h.1, by rw [List.length_attachWith]; exact h.2⟩
    have hcon := sort1_run (P := P) (ρ := ρ) (enc := fun x : {x : α // Ok x} => enc x.1) L L0 (fun x => h1 x.1) (fun x y => cf x.1 y.1) ⟨fun x => hO.irrefl x.1, fun x y z => hO.trans x.1 y.1 z.1, fun x y z => hO.ntrans x.1 y.1 z.1⟩ gf cb eg A (fun x y w1 hg => hcmp x.1 y.1 w1 hg x.2 y.2) h' hn
    refine hcon.mono ?_
    rintro q w' ⟨rfl, l', hp, ha, ho, hg⟩
    refine ⟨rfl, l'.map Subtype.val, ?_, ?_, ⟨by rw [← hfl]; exact ho.1, by rw [List.length_map]; exact ho.2⟩, hg⟩
    · have := hp.map Subtype.val
      rwa [hv] at this
    · exact List.pairwise_map.2 ha
end
end
end Go.Proofs.YtlkibeckfpjccaaGreatDoor
/- strings.Compare as a call that leaves the world as it is; an order of strings. Conditions: none. -/
namespace Go.Proofs.YtlkibeckfpjccaaGreatDoor
section
open Go.RowKit
theorem strCmp_any (a b : ByteArray) (w : World) : Calls Tryz.prog 35 #[.string a, .string b] w (Same (.int .i64 (cmpS a b)) w) := by
  refine (Tryz.strings_Compare a b w).mono ?_
  rintro e w' ⟨rfl, rfl⟩
  exact ⟨rfl, rfl⟩
theorem cmpS_ntrans {a b c : ByteArray} (h1 : ¬ cmpS a b < 0) (h2 : ¬ cmpS b c < 0) : ¬ cmpS a c < 0 := by
  intro h3
  have n1 := cmpS_neg a b; have n2 := cmpS_neg b c
  have r1 := cmpS_range a b; have r2 := cmpS_range b c
  by_cases e1 : cmpS a b = 0
  · rw [cmpS_eql (cmpS_zero.1 e1)] at h3; exact h2 h3
  · by_cases e2 : cmpS b c = 0
    · rw [← cmpS_eqr (cmpS_zero.1 e2)] at h3; exact h1 h3
    · have h4 : cmpS c a < 0 := cmpS_trans (b := b) (by omega) (by omega)
      have n3 := cmpS_neg a c
      omega
end
end Go.Proofs.YtlkibeckfpjccaaGreatDoor

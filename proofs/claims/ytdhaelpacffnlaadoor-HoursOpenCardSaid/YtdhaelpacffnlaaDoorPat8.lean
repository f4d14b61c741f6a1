/- Contracts of Shared and Least. Conditions: none. -/
import Derived.Test.YtdhaelpacffnlaaDoorPat7
namespace Go.Proofs.YtdhaelpacffnlaaDoor
open Go.RowKit

theorem shpF_right {f : Nat} {l S : List Nat} {x : List Nat × Nat} (hS : ∀ M ∈ S, M < 4096) (h : shpF f l S = some x) : Right x := by
  induction f generalizing l S with
  | zero => cases h
  | succ f ih =>
    unfold shpF at h
    split at h
    · injection h with h; subst h; exact ⟨.inl rfl, hS⟩
    · rename_i h0
      split at h
      · rename_i h1
        injection h with h; subst h
        refine ⟨?_, hS⟩
        rcases h1 with rfl | rfl
        · exact .inr (.inl rfl)
        · exact .inr (.inr rfl)
      · split at h
        · cases h
        · rename_i M n he
          refine ih (fun M' hM => ?_) h
          rcases List.mem_append.1 hM with h3 | h3
          · exact hS M' h3
          · rw [List.mem_singleton.1 h3]; exact (elemL_bd he h0).2.2
theorem shpL_right {l : List Nat} {x : List Nat × Nat} (h : shpL l = some x) : Right x := by
  unfold shpL at h
  split at h
  · cases h
  · rename_i y e
    split at h
    · injection h with h; subst h; exact shpF_right (by simp) e
    · cases h
/-- What a pattern reads as; what is wrong with one. -/
def patX (l : List Nat) : Option (List Nat × Nat) := if l.length ≤ 60 then shpL l else none
def patF (l : List Nat) : Int := if 60 < l.length then 2 else if shpL l = none then 9 else 0
theorem patF_some {l : List Nat} {x : List Nat × Nat} (h : patX l = some x) : patF l = 0 := by
  unfold patX at h
  split at h
  · unfold patF; rw [if_neg (by omega), h]; rfl
  · cases h
theorem patF_none {l : List Nat} (h : patX l = none) : patF l = 2 ∨ patF l = 9 := by
  unfold patX at h
  unfold patF
  split at h
  · rw [if_neg (by omega), if_pos h]; exact .inr rfl
  · rw [if_pos (by omega)]; exact .inl rfl
theorem patX_right {l : List Nat} {x : List Nat × Nat} (h : patX l = some x) : Right x := by
  unfold patX at h
  split at h
  · exact shpL_right h
  · cases h
def IsRd (lo : Nat) (l : List Nat) (v : Value) (w : World) : Prop :=
  (∃ (x : List Nat × Nat) (A : Option Addr) (n c : Nat), patX l = some x ∧ v = .tuple #[.agg #[.slice A n c, .int .u8 x.2], .int .i64 0] ∧ Ints .u16 w lo A n c (u16L x.1) ∧ n ≤ 30) ∨
  (patX l = none ∧ v = .tuple #[.agg #[.slice none 0 0, .int .u8 0], .int .i64 (patF l)])
theorem read_all (s : ByteArray) (w : World) : Calls Tryd.prog 50 #[.string s] w (RetP (IsRd w.heap.size (nb s)) w) := by
  by_cases hs : s.size ≤ 60
  · refine (read_any s w hs).mono ?_
    rintro e w' ⟨v, rfl, hv, hg⟩
    refine ⟨v, rfl, ?_, hg⟩
    have hx : patX (nb s) = shpL (nb s) := by unfold patX; rw [if_pos (by rw [nb_len]; exact hs)]
    rcases hv with ⟨x, A, n, c, h1, rfl, h3, h4⟩ | ⟨h1, rfl⟩
    · exact .inl ⟨x, A, n, c, by rw [hx]; exact h1, rfl, own_u16 h3, by have := Own.len h3; simp at this; omega⟩
    · refine .inr ⟨by rw [hx]; exact h1, ?_⟩
      unfold patF
      rw [if_neg (by rw [nb_len]; omega), if_pos h1]
  · refine (read_large s w (by omega)).mono ?_
    rintro e w' ⟨rfl, hg⟩
    refine ⟨_, rfl, .inr ⟨?_, ?_⟩, hg⟩
    · unfold patX; rw [if_neg (by rw [nb_len]; exact hs)]
    · unfold patF; rw [if_pos (by rw [nb_len]; omega)]
def shR (l1 l2 : List Nat) : List Nat × Bool × Int := ((patX l1).elim ([], false, patF l1) (fun P => (patX l2).elim ([], false, patF l2) (fun Q => ((sharedL [P, Q]).1, (sharedL [P, Q]).2, 0))))
def leR (l : List Nat) : List Nat × Int := (patX l).elim ([], patF l) (fun P => ((sharedL [P]).1, 0))

theorem recs_lit {w : World} (l : List PatV) (n : Nat) (hn : l.length = n) {g : Nat} {cs : Array Value} (hg : w.heap.size = g) (hcs : cs = (l.flatMap patRow).toArray) : Recs patRow 2 (w.alloc (.cells cs 84)) 0 (some ⟨g, 0, none⟩) n n l := by
  subst hg; subst hcs
  exact ⟨(Reads.blk (Blk.new _ _ _) 2 n (by rw [flat_len patRow_len, hn])).lower (Nat.zero_le _), hn⟩
theorem PatOk.grown {w w' : World} {p : PatV} {row : Option Nat} (h : PatOk w p) (hg : w.grownBy w' row) (hr : row = none) : PatOk w' p := by
  subst hr
  exact ⟨h.1.grown hg (fun g e => by cases e), h.2⟩

set_option maxRecDepth 100000 in
set_option maxHeartbeats 4000000 in
theorem least_any (s : ByteArray) (w : World) (ht : DbT w) :
    Calls Tryd.prog 41 #[.string s] w (RetV (.tuple #[.string (strN (leR (nb s)).1), .int .i64 (leR (nb s)).2]) w) := by
  have HT := Lib.hid ht; clear ht
  obtain ⟨l, hl⟩ : ∃ l, nb s = l := ⟨_, rfl⟩
  have HL := Lib.hid hl
  rw [hl]; clear hl
  go_enter Tryd.func41, Tryd.ntmps41
  go_wp2_with fail
  refine (read_all s _).mono ?_
  rintro e w1 ⟨v1, rfl, hv1, hg1⟩
  rw [HL.out] at hv1
  have HG := Lib.hid hg1
  rcases hv1 with ⟨x, A, n, c, h1, rfl, h3, h4⟩ | ⟨h1, rfl⟩
  · have HR := Lib.hid (show leR l = ((sharedL [x]).1, 0) by unfold leR; rw [h1]; rfl)
    have HP := Lib.hid (show PatOk w1 ⟨A, n, c, x⟩ from ⟨h3.lower (Nat.zero_le _), h4, patX_right h1⟩)
    have HB := Lib.hid (Blk.new w1 84 #[.slice A n c, .int .u8 x.2])
    have HT1 := Lib.hid (HT.out.grown hg1 (by simp))
    clear h1 h3 h4 hg1
    go_wp2_with (first
      | (refine wpl_load_all Tryd.patT rfl _ rfl _ rfl _ _ HB.out rfl ?_)
      | (go_at_call 51
         refine (shared_any _ 1 1 [⟨A, n, c, x⟩] _ (recs_lit _ 1 rfl (by simp) rfl) (fun p hp => by rw [List.mem_singleton.1 hp]; exact (HP.out.grown (gr_alloc (gr_alloc (gr_refl _ none) _) _) rfl)) (by omega) (HT1.out.grown (gr_alloc (gr_alloc (gr_refl _ none) _) _) (by simp))).mono ?_
         rintro e w2 ⟨rfl, hg2⟩
         have HG2 := Lib.hid (gr_none (gr_alloc (gr_alloc HG.out _) _) hg2)
         clear hg2)
      | fail)
    go_ret2
    exact ⟨by rw [HR.out]; rfl, HG2.out⟩
  · have hf := patF_none h1
    have HR := Lib.hid (show leR l = ([], patF l) by unfold leR; rw [h1]; rfl)
    generalize patF l = z at *
    have b1 : (z != 0) = true := by rw [bne_iff_ne]; omega
    clear h1 hg1
    go_wp2_with fail
    go_ret2
    exact ⟨by rw [HR.out]; rfl, gr_alloc HG.out _⟩
end Go.Proofs.YtdhaelpacffnlaaDoor

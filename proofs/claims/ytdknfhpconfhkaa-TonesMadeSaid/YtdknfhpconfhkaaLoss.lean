/- Contract of Losses. Conditions: none. -/
import Derived.Test.YtdknfhpconfhkaaCount2
import Derived.Test.YtdknfhpconfhkaaSetI
namespace Go.Proofs.Ytdknfhpconfhkaa
open Go.RowKit Go.Maps

theorem Try.lossT : StructT Try.prog 76 5 := ⟨_, Try.underlying76, rfl, by kernel_rfl⟩

/-- How many of the first numbers were there before, and how many were late. -/
def cntTo (ns : List Int) : Nat → Int × Int
  | 0 => (0, 0)
  | i + 1 => match ns[i]? with
    | none => cntTo ns i
    | some x => if memB (ns.take i) x then ((cntTo ns i).1 + 1, (cntTo ns i).2) else if 0 < i ∧ x < lmax (ns.take i) then ((cntTo ns i).1, (cntTo ns i).2 + 1) else cntTo ns i
theorem cntTo_bd (ns : List Int) (i : Nat) : 0 ≤ (cntTo ns i).1 ∧ 0 ≤ (cntTo ns i).2 ∧ (cntTo ns i).1 + (cntTo ns i).2 ≤ i := by
  induction i with
  | zero => simp [cntTo]
  | succ i ih =>
    rw [cntTo]
    split
    · omega
    · split
      · dsimp only; omega
      · split
        · dsimp only; omega
        · omega
theorem cnt_twice {ns : List Int} {i : Nat} {x tw lt : Int} (hx : ns[i]? = some x) (h : memB (ns.take i) x = true) (hs : cntTo ns i = (tw, lt)) : cntTo ns (i + 1) = (tw + 1, lt) := by
  rw [cntTo, hx]; simp only; rw [if_pos h, hs]
theorem cnt_late {ns : List Int} {i : Nat} {x tw lt : Int} (hx : ns[i]? = some x) (h : memB (ns.take i) x = false) (h2 : 0 < i ∧ x < lmax (ns.take i)) (hs : cntTo ns i = (tw, lt)) : cntTo ns (i + 1) = (tw, lt + 1) := by
  rw [cntTo, hx]; simp only; rw [if_neg (by rw [h]; decide), if_pos h2, hs]
theorem cnt_none {ns : List Int} {i : Nat} {x tw lt : Int} (hx : ns[i]? = some x) (h : memB (ns.take i) x = false) (h2 : ¬ (0 < i ∧ x < lmax (ns.take i))) (hs : cntTo ns i = (tw, lt)) : cntTo ns (i + 1) = (tw, lt) := by
  rw [cntTo, hx]; simp only; rw [if_neg (by rw [h]; decide), if_neg h2, hs]

theorem foldl_max_ge (l : List Int) (a : Int) : a ≤ l.foldl max a ∧ ∀ x ∈ l, x ≤ l.foldl max a := by
  induction l generalizing a with
  | nil => simp
  | cons y l ih =>
    obtain ⟨h1, h2⟩ := ih (max a y)
    simp only [List.foldl_cons]
    refine ⟨by omega, fun x hx => ?_⟩
    rcases List.mem_cons.1 hx with rfl | hx
    · omega
    · exact h2 x hx
theorem foldl_min_le (l : List Int) (a : Int) : l.foldl min a ≤ a ∧ ∀ x ∈ l, l.foldl min a ≤ x := by
  induction l generalizing a with
  | nil => simp
  | cons y l ih =>
    obtain ⟨h1, h2⟩ := ih (min a y)
    simp only [List.foldl_cons]
    refine ⟨by omega, fun x hx => ?_⟩
    rcases List.mem_cons.1 hx with rfl | hx
    · omega
    · exact h2 x hx
theorem memB_mem {L : List Int} {k : Int} : memB L k = true ↔ k ∈ L := by unfold memB; simp

/-- The least and the greatest of the first numbers; of none: the first one. -/
def mxTo (ns : List Int) (i : Nat) : Int := if i = 0 then ns.headD 0 else lmax (ns.take i)
def mnTo (ns : List Int) (i : Nat) : Int := if i = 0 then ns.headD 0 else lmin (ns.take i)
theorem mxTo_succ {ns : List Int} {i : Nat} {x : Int} (hx : ns[i]? = some x) : mxTo ns (i + 1) = max (mxTo ns i) x := by
  by_cases h : i = 0
  · subst h
    have hh : ns.headD 0 = x := by cases ns <;> simp at hx ⊢; exact hx
    unfold mxTo
    rw [if_neg (by omega), if_pos rfl, lmax_one hx, hh]; omega
  · unfold mxTo
    rw [if_neg (by omega), if_neg h, lmax_succ (by omega) hx]
theorem mnTo_succ {ns : List Int} {i : Nat} {x : Int} (hx : ns[i]? = some x) : mnTo ns (i + 1) = min (mnTo ns i) x := by
  by_cases h : i = 0
  · subst h
    have hh : ns.headD 0 = x := by cases ns <;> simp at hx ⊢; exact hx
    unfold mnTo
    rw [if_neg (by omega), if_pos rfl, lmin_one hx, hh]; omega
  · unfold mnTo
    rw [if_neg (by omega), if_neg h, lmin_succ (by omega) hx]
theorem mnmx (ns : List Int) (i : Nat) : mnTo ns i ≤ mxTo ns i := by
  unfold mnTo mxTo
  split
  · exact Int.le_refl _
  · unfold lmin lmax
    have h1 := (foldl_max_ge (ns.take i) ((ns.take i).headD 0)).1
    have h2 := (foldl_min_le (ns.take i) ((ns.take i).headD 0)).1
    omega
theorem mem_mnmx {ns : List Int} {i : Nat} {x : Int} (h : memB (ns.take i) x = true) : mnTo ns i ≤ x ∧ x ≤ mxTo ns i := by
  have hm := memB_mem.1 h
  have h0 : i ≠ 0 := by rintro rfl; simp at hm
  unfold mnTo mxTo
  rw [if_neg h0, if_neg h0]
  exact ⟨(foldl_min_le _ _).2 x hm, (foldl_max_ge _ _).2 x hm⟩
theorem late_iff {ns : List Int} {i : Nat} {x : Int} (hx : ns[i]? = some x) : (0 < i ∧ x < lmax (ns.take i)) ↔ x < mxTo ns i := by
  unfold mxTo
  by_cases h : i = 0
  · subst h
    have hh : ns.headD 0 = x := by cases ns <;> simp at hx ⊢; exact hx
    rw [if_pos rfl, hh]
    omega
  · rw [if_neg h]
    omega

def jitD (l : List ArrV) (i : Nat) : Int := match l[i]?, l[i - 1]? with | some a, some b => a.at_ - b.at_ - tAp a.tm b.tm / 8 | _, _ => 0
def absI (d : Int) : Int := if d < -d then -d else d
def jitTo (l : List ArrV) : Nat → Int
  | 0 => 0
  | i + 1 => if i = 0 then 0 else jitTo l i + (absI (jitD l i) - (jitTo l i + 8) / 16)
def lossCells (l : List ArrV) : Array Value :=
  if l.length = 0 then #[.int .i64 0, .int .i64 0, .int .i64 0, .int .i64 0, .int .i64 0]
  else #[.int .i64 (lmax (nums l) - lmin (nums l) + 1), .int .i64 (lmax (nums l) - lmin (nums l) + 1 - (l.length - (cntTo (nums l) l.length).1)), .int .i64 (cntTo (nums l) l.length).1, .int .i64 (cntTo (nums l) l.length).2, .int .i64 (jitTo l l.length)]
theorem jitD_bd {l : List ArrV} (h : ∀ a ∈ l, 0 ≤ a.at_ ∧ a.at_ ≤ 345686399999) (i : Nat) : -400000000000 ≤ jitD l i ∧ jitD l i ≤ 400000000000 := by
  unfold jitD
  split
  · rename_i a b h1 h2
    have ha := h a (mem_of_get h1)
    have hb := h b (mem_of_get h2)
    have := tAp_bd a.tm b.tm
    omega
  · omega
theorem jitTo_bd {l : List ArrV} (h : ∀ a ∈ l, 0 ≤ a.at_ ∧ a.at_ ≤ 345686399999) (i : Nat) : 0 ≤ jitTo l i ∧ jitTo l i ≤ 400000000000 * i := by
  induction i with
  | zero => simp [jitTo]
  | succ i ih =>
    rw [jitTo]
    have hd := jitD_bd h i
    split
    · omega
    · unfold absI; split <;> omega

def LRel (w2 : World) (gO gM i : Nat) (ns : List Int) (tw lt : Int) (wr : World) : Prop :=
  cntTo ns i = (tw, lt) ∧ w2.grownBy wr (some gO) ∧ Blk wr gO 76 #[.int .i64 0, .int .i64 0, .int .i64 tw, .int .i64 lt, .int .i64 0] ∧ ∃ s : Nat, (s : Int) = i - tw ∧ SetI wr gM i (ns.take i) s
end Go.Proofs.Ytdknfhpconfhkaa

/- The orders of numbers by what they cost, as closures; slices.SortFunc at strings by either. Conditions: short strings; what they cost within bounds. -/
import Derived.Test.YtlkibeckfpjccaaGreatDoorTc4
import Derived.Test.YtlkibeckfpjccaaGreatDoorBun4
import Derived.Test.YtlkibeckfpjccaaGreatDoorShelfS1
import Derived.Test.YtlkibeckfpjccaaGreatDoorBun3
namespace Go.Proofs.YtlkibeckfpjccaaGreatDoor
open Go.RowKit Go.Maps Go.WideMaps Go.Sort

theorem Tryz.sort0 : SlLaysF0.n6 Tryz.prog Tryz.sort1_ren := { Tryz.sort1 with }
/-- The closure's variable holds the map of what each number costs. -/
structure SumX (w : World) (L : List (ChV × RcV)) (sb mb n : Nat) : Prop where
  blk : Blk w sb 63 #[.map (some mb)]
  map : MapG (Value.int .i64) w mb n (fun k => sumF (·.2.too) L k)
theorem SumX.grown {w w' : World} {L : List (ChV × RcV)} {sb mb n : Nat} {r : Option Nat} (h : SumX w L sb mb n) (hg : w.grownBy w' r) (h1 : some sb ≠ r) (h2 : some mb ≠ r) : SumX w' L sb mb n := ⟨h.blk.grown hg h1, h.map.kept hg h2⟩
set_option maxHeartbeats 4000000 in
set_option maxRecDepth 100000 in
theorem topP_any (L : List (ChV × RcV)) (a b : ByteArray) (sb mb n : Nat) (w : World) (h : SumX w L sb mb n) (ha : a.size ≤ 1000) (hb : b.size ≤ 1000) :
    Calls Tryz.prog 32 #[.string a, .string b, .pointer (some ⟨sb, 0, none⟩)] w (RetQ (.int .i64 (topCf L a b)) w) := by
  have ks := h.blk.cell 0
  have HM := Lib.hid h.map
  clear h
  have HV := Lib.hid (show orL [cmpZ (costK (·.2.too) L b) (costK (·.2.too) L a), cmpS a b] = topCf L a b from rfl)
  obtain ⟨q1, h1⟩ : ∃ q, cmpZ (costK (·.2.too) L b) (costK (·.2.too) L a) = q := ⟨_, rfl⟩
  obtain ⟨q2, h2⟩ : ∃ q, cmpS a b = q := ⟨_, rfl⟩
  rw [h1, h2] at HV
  have H1 := Lib.hid h1; have H2 := Lib.hid h2
  clear h1 h2
  go_enter Tryz.func32, Tryz.ntmps32
  go_wp2_with (first
    | (refine wpl_glook rfl 63 _ _ rfl Tryz.underlying63 (Tryz.zeroSI _) rfl b rfl (by unfold maxLen; omega) (by exact HM.out) ?_; rw [sumF_val])
    | (refine wpl_glook rfl 63 _ _ rfl Tryz.underlying63 (Tryz.zeroSI _) rfl a rfl (by unfold maxLen; omega) (by exact HM.out) ?_; rw [sumF_val])
    | fail)
  refine same_calls (cmpZ_any _ _ _) ?_
  rw [H1.out]
  go_wp2_with fail
  refine same_calls (strCmp_any _ _ _) ?_
  rw [H2.out]
  go_wp2_with fail
  refine same_calls (orL_any [q1, q2] w.heap.size 2 _ (Blk.new _ _ _) rfl (by omega)) ?_
  go_wp2_with fail
  go_ret
  exact ⟨by rw [HV.out]; try rfl, (Gq.refl _).alloc _⟩
theorem sgn_cmpZ (x y : Int) : sgnZ (y - x) = cmpZ y x := by
  unfold sgnZ cmpZ
  by_cases h1 : y < x
  · rw [if_pos h1, if_pos (by omega)]
  · rw [if_neg h1, if_neg (by omega)]
    by_cases h2 : x < y
    · rw [if_pos h2, if_pos (by omega)]
    · rw [if_neg h2, if_neg (by omega)]
set_option maxHeartbeats 4000000 in
set_option maxRecDepth 100000 in
theorem topD_any (L : List (ChV × RcV)) (a b : ByteArray) (sb mb n : Nat) (w : World) (h : SumX w L sb mb n) (ha : a.size ≤ 1000) (hb : b.size ≤ 1000) (h1 : ∀ k, 0 ≤ costK (·.2.too) L k ∧ costK (·.2.too) L k ≤ 300000000000000000) :
    Calls Tryz.prog 49 #[.string a, .string b, .pointer (some ⟨sb, 0, none⟩)] w (RetQ (.int .i64 (topCf L a b)) w) := by
  have ks := h.blk.cell 0
  have HM := Lib.hid h.map
  obtain ⟨a1, a2⟩ := h1 a
  obtain ⟨b1, b2⟩ := h1 b
  clear h h1
  have HV := Lib.hid (topCf_if L a b)
  have HV2 := Lib.hid (sgn_cmpZ (costK (·.2.too) L a) (costK (·.2.too) L b))
  obtain ⟨X, hX⟩ : ∃ q, costK (·.2.too) L a = q := ⟨_, rfl⟩
  obtain ⟨Y, hY⟩ : ∃ q, costK (·.2.too) L b = q := ⟨_, rfl⟩
  rw [hX] at a1 a2; rw [hY] at b1 b2
  rw [hX, hY] at HV HV2
  have sw : IntKind.i64.wrap (Y - X) = Y - X := IntWalk.i64_in _ (by omega)
  have HX := Lib.hid hX; have HY := Lib.hid hY
  clear hX hY a1 a2 b1 b2
  by_cases e : X = Y
  · have d : (X != Y) = false := by simp [e]
    have HF := Lib.hid (HV.out.trans (if_pos e))
    clear e sw
    go_enter Tryz.func49, Tryz.ntmps49
    go_wp2_with (first
      | (refine wpl_glook rfl 63 _ _ rfl Tryz.underlying63 (Tryz.zeroSI _) rfl a rfl (by unfold maxLen; omega) (by exact HM.out) ?_; rw [sumF_val]; rw [HX.out])
      | (refine wpl_glook rfl 63 _ _ rfl Tryz.underlying63 (Tryz.zeroSI _) rfl b rfl (by unfold maxLen; omega) (by exact HM.out) ?_; rw [sumF_val]; rw [HY.out])
      | fail)
    refine same_calls (strCmp_any _ _ _) ?_
    go_wp2_with fail
    go_ret
    exact ⟨by rw [HF.out]; try rfl, Gq.refl _⟩
  · have d : (X != Y) = true := by simpa using e
    have HF := Lib.hid (HV.out.trans ((if_neg e).trans HV2.out.symm))
    clear e
    go_enter Tryz.func49, Tryz.ntmps49
    go_wp2_with (first
      | (refine wpl_glook rfl 63 _ _ rfl Tryz.underlying63 (Tryz.zeroSI _) rfl a rfl (by unfold maxLen; omega) (by exact HM.out) ?_; rw [sumF_val]; rw [HX.out])
      | (refine wpl_glook rfl 63 _ _ rfl Tryz.underlying63 (Tryz.zeroSI _) rfl b rfl (by unfold maxLen; omega) (by exact HM.out) ?_; rw [sumF_val]; rw [HY.out])
      | fail)
    refine same_calls (sgnZ_any _ _) ?_
    go_wp2_with fail
    go_ret
    exact ⟨by rw [HF.out]; try rfl, Gq.refl _⟩
def ToSorted (L : List (ChV × RcV)) (lo : Nat) (A : Option Addr) (n c : Nat) (l : List ByteArray) (w : World) (q : Ending) (w' : World) : Prop :=
  q = .returned (.tuple #[]) ∧ ∃ l' : List ByteArray, l'.Perm l ∧ Asc (topCf L) l' ∧ OwnR srow 1 w' lo 9 A n c l' ∧ w.grownBy w' (blkOf A)
theorem sortTP_any (L : List (ChV × RcV)) (lo : Nat) (A : Option Addr) (n c : Nat) (l : List ByteArray) (sb mb m : Nat) (w : World) (h : OwnR srow 1 w lo 9 A n c l) (hx : SumX w L sb mb m) (hs : some sb ≠ blkOf A) (hm : some mb ≠ blkOf A) (hl : ∀ k ∈ l, k.size ≤ 1000) (hn : n ≤ 100000) :
    Calls Tryz.prog 31 #[.slice A n c, .func (.func 32) #[] #[.pointer (some ⟨sb, 0, none⟩)]] w (ToSorted L lo A n c l w) := by
  have eg : ∀ args w, (callFunc 32 args).run Tryz.prog w = .ok (.enter 32 args) w := enters_of Tryz.func32 (by kernel_rfl) rfl
  have hcon := sort1_any (enc := Value.string) Tryz.sort1 Tryz.sort0 (fun _ => rfl) (topCf L) (swoTop L) 32 #[.pointer (some ⟨sb, 0, none⟩)] eg (Ok := fun k : ByteArray => k.size ≤ 1000) A (fun x y w1 hg h1 h2 => topP_any L x y sb mb m w1 (hx.grown hg hs hm) h1 h2) h hl (by omega)
  exact hcon
theorem sortTD_any (L : List (ChV × RcV)) (lo : Nat) (A : Option Addr) (n c : Nat) (l : List ByteArray) (sb mb m : Nat) (w : World) (h : OwnR srow 1 w lo 9 A n c l) (hx : SumX w L sb mb m) (hs : some sb ≠ blkOf A) (hm : some mb ≠ blkOf A) (hl : ∀ k ∈ l, k.size ≤ 1000) (hn : n ≤ 100000) (hL : ∀ k, 0 ≤ costK (·.2.too) L k ∧ costK (·.2.too) L k ≤ 300000000000000000) :
    Calls Tryz.prog 31 #[.slice A n c, .func (.func 49) #[] #[.pointer (some ⟨sb, 0, none⟩)]] w (ToSorted L lo A n c l w) := by
  have eg : ∀ args w, (callFunc 49 args).run Tryz.prog w = .ok (.enter 49 args) w := enters_of Tryz.func49 (by kernel_rfl) rfl
  have hcon := sort1_any (enc := Value.string) Tryz.sort1 Tryz.sort0 (fun _ => rfl) (topCf L) (swoTop L) 49 #[.pointer (some ⟨sb, 0, none⟩)] eg (Ok := fun k : ByteArray => k.size ≤ 1000) A (fun x y w1 hg h1 h2 => topD_any L x y sb mb m w1 (hx.grown hg hs hm) h1 h2 hL) h hl (by omega)
  exact hcon
end Go.Proofs.YtlkibeckfpjccaaGreatDoor

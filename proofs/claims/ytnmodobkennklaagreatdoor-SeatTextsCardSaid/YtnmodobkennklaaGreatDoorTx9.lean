/- Contracts of Text and SeatLines. Conditions: seats as they lie in memory; the table of powers of ten. -/
import Derived.Test.YtnmodobkennklaaGreatDoorTx8
import Derived.Test.YtnmodobkennklaaGreatDoorBun5
import Derived.Test.YtnmodobkennklaaGreatDoorRo1
import Derived.Lib.ItoaLen
import Derived.Lib.Join
namespace Go.Proofs.YtnmodobkennklaaGreatDoor
open Go.RowKit

def dashS (x : ByteArray) : ByteArray := if x.toList = [] then ⟨#[45]⟩ else x
theorem dash_any (x : ByteArray) (w : World) : Calls Tryz.prog 65 #[.string x] w (Same (.string (dashS x)) w) := by
  by_cases h : x.toList = []
  · have HV := Lib.hid (show dashS x = ⟨#[45]⟩ from if_pos h)
    go_enter Tryz.func65, Tryz.ntmps65
    go_wp2_with fail
    go_ret
    exact ⟨by rw [HV.out]; try rfl, rfl⟩
  · have HV := Lib.hid (show dashS x = x from if_neg h)
    have e1 : (x.toList == []) = false := by rw [beq_eq_false_iff_ne]; exact h
    have e2 : x.toList.isEmpty = false := List.isEmpty_eq_false_iff.2 h
    clear h
    go_enter Tryz.func65, Tryz.ntmps65
    go_wp2_with fail
    go_ret
    exact ⟨by rw [HV.out]; try rfl, rfl⟩
def itS (n : Int) : ByteArray := ⟨(Lib.itoa n).toArray⟩
def wdS (how : Int) : ByteArray := W5.getD how.toNat ⟨#[]⟩
def seWords (z : SeV) : List ByteArray := [z.ca, wdS z.how, dashS z.ag, itS z.beg, itS z.fin]
def jnS (xs : List ByteArray) : ByteArray := ⟨(Lib.join (xs.map (·.data.toList)) [32]).toArray⟩
def seLine (z : SeV) : List UInt8 := (jnS (seWords z)).data.toList ++ [10]
def seTo (l : List SeV) : Nat → List UInt8
  | 0 => []
  | k + 1 => seTo l k ++ (l[k]?).elim [] seLine
theorem seTo_succ {l : List SeV} {k : Nat} {z : SeV} (h : l[k]? = some z) : seTo l (k + 1) = seTo l k ++ seLine z := by
  show _ ++ (l[k]?).elim _ _ = _; rw [h]; rfl
theorem jn_size (a b c d e : ByteArray) : (jnS [a, b, c, d, e]).size = a.size + b.size + c.size + d.size + e.size + 4 := by
  show (Lib.join _ _).toArray.size = _
  rw [List.size_toArray, List.map_cons, Lib.join_length]
  show 1 * _ + Lib.lens _ = _
  simp only [List.map_cons, List.map_nil, List.length_cons, List.length_nil, Lib.lens, List.sum_cons, List.sum_nil]
  show 1 * (0 + 1 + 1 + 1 + 1) + (a.size + (b.size + (c.size + (d.size + (e.size + 0))))) = _
  omega
theorem itS_size {n : Int} (h0 : -9000000000000000000 ≤ n) (h1 : n ≤ 9000000000000000000) : (itS n).size ≤ 21 := by
  show (Lib.itoa n).toArray.size ≤ 21
  rw [List.size_toArray]
  exact Lib.itoa_length_le n (by omega) (by omega)
theorem dashS_size (x : ByteArray) : (dashS x).size ≤ x.size + 1 := by
  unfold dashS
  split
  · show 1 ≤ _; omega
  · omega
/-- The word of how a caller ended. -/
theorem wd_at {how : Int} (h1 : 1 ≤ how) (h4 : how ≤ 4) : ∃ j : Nat, how = (j : Int) + 1 ∧ j < 4 ∧ W4[j]? = some (wdS how) ∧ W5[j + 1]? = some (wdS how) ∧ (wdS how).size ≤ 8 := by
  have : how = 1 ∨ how = 2 ∨ how = 3 ∨ how = 4 := by omega
  rcases this with rfl | rfl | rfl | rfl
  · exact ⟨0, rfl, by omega, rfl, rfl, by decide⟩
  · exact ⟨1, rfl, by omega, rfl, rfl, by decide⟩
  · exact ⟨2, rfl, by omega, rfl, rfl, by decide⟩
  · exact ⟨3, rfl, by omega, rfl, rfl, by decide⟩
/-- A seat that can be written. -/
def WfS (z : SeV) : Prop := 1 ≤ z.how ∧ z.how ≤ 4 ∧ -1000000000000000 ≤ z.beg ∧ z.beg ≤ 1000000000000000 ∧ -1000000000000000 ≤ z.fin ∧ z.fin ≤ 1000000000000000
/-- What is known of a seat that is well formed. -/
theorem we_parts {z : SeV} (h : weE z = 0) : WfS z := by
  unfold WfS
  unfold weE at h
  split at h
  · split at h
    · rename_i h1
      split at h
      · split at h
        · rename_i h2
          unfold inB at h1 h2
          simp only [Bool.and_eq_true, decide_eq_true_eq] at h1 h2
          omega
        · cases h
      · cases h
    · cases h
  · cases h
theorem well_all {l : List SeV} (h : wellE l = 0) : l.length ≤ 500 ∧ ∀ z ∈ l, weE z = 0 := by
  unfold wellE at h
  split at h
  · cases h
  · refine ⟨by omega, fun z hz => ?_⟩
    obtain ⟨i, hi⟩ := List.mem_iff_getElem?.1 hz
    have := fstE_ev h i (List.getElem?_eq_some_iff.1 hi).1
    rwa [weAt_eq hi] at this
theorem seLine_len {z : SeV} (h : WfS z) (hs : SzOk z) : (seLine z).length ≤ 2001000 ∧ (jnS (seWords z)).size ≤ 2000900 := by
  obtain ⟨a1, a2, a3, a4, a5, a6⟩ := h
  obtain ⟨j, _, _, _, _, hw⟩ := wd_at a1 a2
  have h1 := itS_size (n := z.beg) (by omega) (by omega)
  have h2 := itS_size (n := z.fin) (by omega) (by omega)
  have h3 := dashS_size z.ag
  have h4 := jn_size z.ca (wdS z.how) (dashS z.ag) (itS z.beg) (itS z.fin)
  obtain ⟨s1, s2⟩ := hs
  have h5 : (jnS (seWords z)).size ≤ 2000900 := by show (jnS [_, _, _, _, _]).size ≤ _; omega
  refine ⟨?_, h5⟩
  unfold seLine
  rw [List.length_append]
  show (jnS (seWords z)).size + 1 ≤ _
  omega
theorem seTo_len {l : List SeV} (h : ∀ z ∈ l, WfS z ∧ SzOk z) (k : Nat) : (seTo l k).length ≤ 2001000 * k := by
  induction k with
  | zero => exact Nat.le_refl _
  | succ k ih =>
    show (seTo l k ++ (l[k]?).elim [] seLine).length ≤ _
    rw [List.length_append]
    cases e : l[k]? with
    | none => show _ + 0 ≤ _; omega
    | some z =>
      have := (seLine_len (h z (mem_of_get e)).1 (h z (mem_of_get e)).2).1
      show _ + (seLine z).length ≤ _
      omega
theorem join_any (g : Nat) (xs : List ByteArray) (n : Nat) (lo : Nat) (w : World) (h : Recs srow 1 w lo (some ⟨g, 0, none⟩) n n xs) (hn : n ≤ 1000) (h0 : 0 < n) (hlen : (jnS xs).size ≤ 1000000000) :
    Calls Tryz.prog 58 #[.slice (some ⟨g, 0, none⟩) n n, .string ⟨#[32]⟩] w (RetV (.string (jnS xs)) w) := by
  obtain ⟨rfl⟩ : xs.length = n := h.len
  obtain ⟨g', o', a, e, _, hlt, _, _⟩ := h.get srow_len h0
  injection e with e
  injection e with e1 e2
  subst e1
  refine (Tryz.strings_Join g 0 xs.length xs ⟨#[32]⟩ w (fun j x hx => ?_) hlt (by omega) (Nat.le_refl _) ?_).mono ?_
  · have hc := h.at_ srow_len hx 0 _ rfl
    simpa only [Nat.mul_one, Nat.add_zero, Nat.zero_add] using hc
  · have : (Lib.join (xs.map (·.data.toList)) [32]).length = (jnS xs).size := by
      show _ = (List.toArray _).size
      rw [List.size_toArray]
    show (Lib.join (xs.map (·.data.toList)) [32]).length ≤ _
    omega
  · rintro e w' ⟨rfl, hb⟩
    exact ⟨rfl, gr_below hb none⟩
theorem IsBuilder.kept {w w' : World} {B b : Nat} {bs : List Value} (h : Lib.IsBuilder 142 5 B b bs w) (hg : w.grownBy w' none) : Lib.IsBuilder 142 5 B b bs w' := by
  have key : ∀ p, Lib.BuilderAt 142 5 B b p bs w → Lib.BuilderAt 142 5 B b p bs w' := by
    rintro p ⟨h1, v, h2, h3, h4⟩
    have hlt : b < w.heap.size := (Array.getElem?_eq_some_iff.1 h2).1
    exact ⟨h1, v, by rw [hg.block b hlt (by simp)]; exact h2, World.ownsRow.kept h3 hg (by simp; exact Classical.em _), h4⟩
  exact h.elim (fun q => .inl (key _ q)) (fun q => .inr (key _ q))
theorem data_app (a b : ByteArray) : (a ++ b).data.toList = a.data.toList ++ b.data.toList := by
  rw [ByteArray.data_append, Array.toList_append]
theorem appS2 (s t : ByteArray) : (s ++ t).size = s.size + t.size := by
  show (s ++ t).data.size = _
  rw [ByteArray.data_append, Array.size_append]; rfl
theorem itoaS_any (n : Int) (w : World) (h0 : -9000000000000000000 ≤ n) (h1 : n ≤ 9000000000000000000) (ht : PwT w) : Calls Tryz.prog 60 #[.int .i64 n] w (RetV (.string (itS n)) w) := itoa_any n w h0 h1 ht
set_option maxHeartbeats 16000000 in
set_option maxRecDepth 100000 in
theorem seatLines_any (lo : Nat) (A : Option Addr) (n c0 : Nat) (l : List SeV) (w : World) (hS : Sws w lo A n c0 l) (hn : n ≤ 500) (hw : ∀ z ∈ l, WfS z) (hp : PwT w) :
    Calls Tryz.prog 27 #[.slice A n c0] w (RetV (.string ⟨(seTo l n).toArray⟩) w) := by
  have HSE := Lib.hid hS; have HWE := Lib.hid hw; have HPW := Lib.hid hp
  have HLEN := Lib.hid (fun k => seTo_len (l := l) (fun z hz => ⟨hw z hz, hS.2 z hz⟩) k)
  obtain ⟨nl, hnl⟩ : ∃ x, (⟨#[10]⟩ : ByteArray) = x := ⟨_, rfl⟩
  have HNL1 := Lib.hid (show nl.size = 1 by rw [← hnl]; rfl)
  have HNL := Lib.hid (show nl.data.toList = [10] by rw [← hnl])
  clear hS hw hp
  go_enter Tryz.func27, Tryz.ntmps27
  go_wp2_with fail
  go_loopw [3, 5, 8] (fun v _ t wr => ∃ (k : Nat) (s : ByteArray), k ≤ n ∧ t = .int .i64 k ∧ v = .string s ∧ s.data.toList = seTo l k ∧ w.grownBy wr none) (fun _ _ t _ => n - (intOf t).toNat)
  case atStart => exact ⟨0, ⟨#[]⟩, Nat.zero_le _, rfl, rfl, rfl, gr_refl _ _⟩
  case round =>
    obtain ⟨k, s, hk, rfl, rfl, hsd, hg⟩ := hrel
    have HG := Lib.hid hg; have HSD := Lib.hid hsd
    have HSS := Lib.hid (show s.size = (seTo l k).length by rw [← hsd]; rfl)
    have hsl := HLEN.out k
    clear hg hsd
    by_cases hlt : k < n
    · obtain ⟨sg, so, z, rfl, _, _, hz2, hzc⟩ := (HSE.out.1.grown HG.out (fun g e => by cases e)).get SeV.row_len hlt
      have hz := HSE.out.2 z (mem_of_get hz2)
      have hwz := HWE.out z (mem_of_get hz2)
      obtain ⟨a1, a2, a3, a4, a5, a6⟩ := hwz
      obtain ⟨j, hj, hj4, hw4, hw5, hw8⟩ := wd_at a1 a2
      have hll := (seLine_len (show WfS z from ⟨a1, a2, a3, a4, a5, a6⟩) hz).2
      have HZC := Lib.hid hzc
      have HTO := Lib.hid (seTo_succ hz2)
      have HWJ := Lib.hid hw5
      have HHJ := Lib.hid (show z.how = ((j : Nat) : Int) + 1 from hj)
      obtain ⟨J, hJ⟩ : ∃ J, jnS (seWords z) = J := ⟨_, rfl⟩
      have hln : seLine z = J.data.toList ++ [10] := by unfold seLine; rw [hJ]
      have HLN := Lib.hid hln
      have hjw : jnS [z.ca, wdS z.how, dashS z.ag, itS z.beg, itS z.fin] = J := hJ
      rw [hJ] at hll
      obtain ⟨IB, hIB⟩ : ∃ I, itS z.beg = I := ⟨_, rfl⟩
      obtain ⟨IF, hIF⟩ : ∃ I, itS z.fin = I := ⟨_, rfl⟩
      obtain ⟨DA, hDA⟩ : ∃ I, dashS z.ag = I := ⟨_, rfl⟩
      obtain ⟨WD, hWD⟩ : ∃ I, wdS z.how = I := ⟨_, rfl⟩
      rw [hIB, hIF, hDA, hWD] at hjw
      rw [hWD] at HWJ
      have HIB := Lib.hid hIB; have HIF := Lib.hid hIF; have HDA := Lib.hid hDA; have HJW := Lib.hid hjw
      have hlt2 : (k : Int) < (n : Int) := by omega
      clear hz2 hzc hz hw4 hw5 hw8 hj hJ hln hjw hIB hIF hDA hWD a1 a2
      obtain ⟨w1, hw1⟩ : ∃ w1, wr.alloc (.cells #[.string z.ca, .string z.ag, .int .i64 z.how, .int .i64 z.beg, .int .i64 z.fin] 58) = w1 := ⟨_, rfl⟩
      obtain ⟨zb, hzb⟩ : ∃ zb, wr.heap.size = zb := ⟨_, rfl⟩
      have HB := Lib.hid (show Blk w1 zb 58 #[.string z.ca, .string z.ag, .int .i64 z.how, .int .i64 z.beg, .int .i64 z.fin] by rw [← hw1, ← hzb]; exact Blk.new _ _ _)
      have hga : wr.grownBy w1 none := by rw [← hw1]; exact gr_alloc (gr_refl _ _) _
      have HW1 := Lib.hid hw1; have HZB := Lib.hid hzb
      clear hw1 hzb
      replace HG := Lib.hid (gr_none HG.out hga)
      clear hga
      go_upto_region 5 with (first
        | (refine wpl_load_at Tryz.seT rfl _ rfl _ rfl [.string z.ca, .string z.ag, .int .i64 z.how, .int .i64 z.beg, .int .i64 z.fin] rfl (fun j u hu => by rw [add_mk]; exact HZC.out j u hu) ?_)
        | fail)
      rw [HW1.out]
      (try rw [HZB.out])
      clear HZC HW1 HZB
      refine H_begin (fun w' => w1.grownBy w' none) (by kernel_rfl) ?_
      have hHeld : w1.grownBy w1.drew none := gr_drew (gr_refl _ _)
      generalize w1.drew = wd at hHeld ⊢
      have hHJ : z.how = ((j + 1 : Nat) : Int) := by have := HHJ.out; omega
      refine H_take (k := 0) (v := ?_) (by rfl) (by kernel_rfl) (by kernel_rfl) (by kernel_rfl) (by exact fun _ _ _ h => h) (by rfl) ?_ (by assumption) ?_
      rotate_left 1
      · intro w hSw
        (try dsimp only at hSw)
        go_simp
        (try with_reducible rfl)
      (try simp only [Act.put, List.setIfInBounds_toArray, List.set_cons_zero, List.set_cons_succ])
      refine H_take (k := 1) (v := ?_) (by rfl) (by kernel_rfl) (by kernel_rfl) (by kernel_rfl) (by exact fun _ _ _ h => h) (by rfl) ?_ (by assumption) ?_
      rotate_left 1
      · intro w hSw
        (try dsimp only at hSw)
        go_simp
        (try with_reducible rfl)
      (try simp only [Act.put, List.setIfInBounds_toArray, List.set_cons_zero, List.set_cons_succ])
      refine H_take (k := 2) (v := ?_) (by rfl) (by kernel_rfl) (by kernel_rfl) (by kernel_rfl) (by exact fun _ _ _ h => h) (by rfl) ?_ (by assumption) ?_
      rotate_left 1
      · intro w' hSw
        have kc := (HB.out.grown hSw (by simp)).cell 0
        go_simp
        (try with_reducible rfl)
      (try simp only [Act.put, List.setIfInBounds_toArray, List.set_cons_zero, List.set_cons_succ])
      refine H_take (k := 4) (v := ?_) (by rfl) (by kernel_rfl) (by kernel_rfl) (by kernel_rfl) (by exact fun _ _ _ h => h) (by rfl) ?_ (by assumption) ?_
      rotate_left 1
      · intro w hSw
        (try dsimp only at hSw)
        go_simp
        (try with_reducible rfl)
      (try simp only [Act.put, List.setIfInBounds_toArray, List.set_cons_zero, List.set_cons_succ])
      refine H_take (k := 5) (v := ?_) (by rfl) (by kernel_rfl) (by kernel_rfl) (by kernel_rfl) (by exact fun _ _ _ h => h) (by rfl) ?_ (by assumption) ?_
      rotate_left 1
      · intro w' hSw
        have kc := (HB.out.grown hSw (by simp)).cell 2
        go_simp
        (try with_reducible rfl)
      (try simp only [Act.put, List.setIfInBounds_toArray, List.set_cons_zero, List.set_cons_succ])
      refine H_take (k := 8) (v := ?_) (by rfl) (by kernel_rfl) (by kernel_rfl) (by kernel_rfl) (by exact fun _ _ _ h => h) (by rfl) ?_ (by assumption) ?_
      rotate_left 1
      · intro w hSw
        (try dsimp only at hSw)
        go_simp
        (try with_reducible rfl)
      (try simp only [Act.put, List.setIfInBounds_toArray, List.set_cons_zero, List.set_cons_succ])
      refine H_take (k := 9) (v := ?_) (by rfl) (by kernel_rfl) (by kernel_rfl) (by kernel_rfl) (by exact fun _ _ _ h => h) (by rfl) ?_ (by assumption) ?_
      rotate_left 1
      · intro w' hSw
        have kc := (HB.out.grown hSw (by simp)).cell 1
        go_simp
        (try with_reducible rfl)
      (try simp only [Act.put, List.setIfInBounds_toArray, List.set_cons_zero, List.set_cons_succ])
      refine H_take (k := 11) (v := ?_) (by rfl) (by kernel_rfl) (by kernel_rfl) (by kernel_rfl) (by exact fun _ _ _ h => h) (by rfl) ?_ (by assumption) ?_
      rotate_left 1
      · intro w hSw
        (try dsimp only at hSw)
        go_simp
        (try with_reducible rfl)
      (try simp only [Act.put, List.setIfInBounds_toArray, List.set_cons_zero, List.set_cons_succ])
      refine H_take (k := 12) (v := ?_) (by rfl) (by kernel_rfl) (by kernel_rfl) (by kernel_rfl) (by exact fun _ _ _ h => h) (by rfl) ?_ (by assumption) ?_
      rotate_left 1
      · intro w' hSw
        have kc := (HB.out.grown hSw (by simp)).cell 3
        go_simp
        (try with_reducible rfl)
      (try simp only [Act.put, List.setIfInBounds_toArray, List.set_cons_zero, List.set_cons_succ])
      refine H_take (k := 14) (v := ?_) (by rfl) (by kernel_rfl) (by kernel_rfl) (by kernel_rfl) (by exact fun _ _ _ h => h) (by rfl) ?_ (by assumption) ?_
      rotate_left 1
      · intro w hSw
        (try dsimp only at hSw)
        go_simp
        (try with_reducible rfl)
      (try simp only [Act.put, List.setIfInBounds_toArray, List.set_cons_zero, List.set_cons_succ])
      refine H_take (k := 15) (v := ?_) (by rfl) (by kernel_rfl) (by kernel_rfl) (by kernel_rfl) (by exact fun _ _ _ h => h) (by rfl) ?_ (by assumption) ?_
      rotate_left 1
      · intro w' hSw
        have kc := (HB.out.grown hSw (by simp)).cell 4
        go_simp
        (try with_reducible rfl)
      (try simp only [Act.put, List.setIfInBounds_toArray, List.set_cons_zero, List.set_cons_succ])
      refine H_run (k := 3) (by rfl) (by kernel_rfl) (by rfl) (fun K hK => ?_)
      go_simp
      refine (dWordsOf_any _).mono ?_
      rintro e w3 ⟨rfl, hr3, hg3⟩
      have hgz := gr_none hHeld hg3
      refine hK _ _ hgz ?_
      clear hK K hHeld hg3
      have hHeld := hgz
      have HW3 := Lib.hid hr3
      clear hr3 hgz
      (try simp only [Act.put, List.setIfInBounds_toArray, List.set_cons_zero, List.set_cons_succ])
      have p1 : (0 : Int) ≤ ((j + 1 : Nat) : Int) := by omega
      have p2 : ((j + 1 : Nat) : Int) < 5 := by omega
      have p3 : (0 : Int) ≤ (j : Int) + 1 := by omega
      have p4 : (j : Int) + 1 < 5 := by omega
      have p5 : ((j : Int) + 1).toNat = j + 1 := by omega
      refine H_take (k := 6) (v := ?_) (by rfl) (by kernel_rfl) (by kernel_rfl) (by kernel_rfl) (by exact fun _ _ _ h => h) (by rfl) ?_ (by assumption) ?_
      rotate_left 1
      · intro w hSw
        (try dsimp only at hSw)
        go_simp
        (try with_reducible rfl)
      (try simp only [Act.put, List.setIfInBounds_toArray, List.set_cons_zero, List.set_cons_succ])
      have kw := HW3.out.at_ srow_len HWJ.out 0 _ rfl
      simp only [Nat.mul_one, Nat.add_zero, Nat.zero_add] at kw
      refine H_runTwo (k1 := 7) (k2 := 10) (by rfl) (by rfl) (by kernel_rfl) (by rfl) (by rfl) (fun K hK => ?_) (fun K hK => ?_)
      · go_simp
        refine hK _ _ hHeld ?_
        clear hK K
        clear kw
        (try simp only [Act.put, List.setIfInBounds_toArray, List.set_cons_zero, List.set_cons_succ])
        refine H_run (k := 10) (by rfl) (by kernel_rfl) (by rfl) (fun K hK => ?_)
        go_simp
        refine (dash_any z.ag _).mono ?_
        rintro e wx ⟨rfl, rfl⟩
        rw [HDA.out]
        refine hK _ _ hHeld ?_
        clear hK K
        (try simp only [Act.put, List.setIfInBounds_toArray, List.set_cons_zero, List.set_cons_succ])
        refine H_run (k := 13) (by rfl) (by kernel_rfl) (by rfl) (fun K hK => ?_)
        go_simp
        refine (itoaS_any z.beg _ (by omega) (by omega) (HPW.out.grown (gr_none HG.out hHeld))).mono ?_
        rintro e wx ⟨rfl, hgx⟩
        rw [HIB.out]
        have hgz := gr_none hHeld hgx
        refine hK _ _ hgz ?_
        clear hK K
        replace HW3 := Lib.hid (HW3.out.grown hgx (fun g e => by cases e))
        clear hHeld hgx
        have hHeld := hgz
        clear hgz
        (try simp only [Act.put, List.setIfInBounds_toArray, List.set_cons_zero, List.set_cons_succ])
        refine H_run (k := 16) (by rfl) (by kernel_rfl) (by rfl) (fun K hK => ?_)
        go_simp
        refine (itoaS_any z.fin _ (by omega) (by omega) (HPW.out.grown (gr_none HG.out hHeld))).mono ?_
        rintro e wx ⟨rfl, hgx⟩
        rw [HIF.out]
        have hgz := gr_none hHeld hgx
        refine hK _ _ hgz ?_
        clear hK K
        replace HW3 := Lib.hid (HW3.out.grown hgx (fun g e => by cases e))
        clear hHeld hgx
        have hHeld := hgz
        clear hgz
        (try simp only [Act.put, List.setIfInBounds_toArray, List.set_cons_zero, List.set_cons_succ])
        obtain ⟨w8, rfl⟩ : ∃ w8 : World, w8 = wx := ⟨_, rfl⟩
        obtain ⟨b8, hb8⟩ : ∃ b, w8.heap.size = b := ⟨_, rfl⟩
        obtain ⟨wa, hwa⟩ : ∃ v, w8.alloc (.cells #[.string z.ca, .string WD, .string DA, .string IB, .string IF] 9) = v := ⟨_, rfl⟩
        have hga : w8.grownBy wa none := by rw [← hwa]; exact gr_alloc (gr_refl _ _) _
        have HRC := Lib.hid (show Recs srow 1 wa b8 (some ⟨b8, 0, none⟩) 5 5 [z.ca, WD, DA, IB, IF] from ⟨by rw [flat_srow, ← hwa, ← hb8]; exact Reads.blk (Blk.new _ _ _) 1 5 rfl, rfl⟩)
        have hgz := gr_none hHeld hga
        refine H_run (k := 17) (by rfl) (by kernel_rfl) (by rfl) (fun K hK => ?_)
        go_simp
        (try rw [hwa])
        (try rw [hb8])
        refine hK _ _ hgz ?_
        clear hK K
        clear hHeld hwa hb8 hga
        have hHeld := hgz
        clear hgz
        (try simp only [Act.put, List.setIfInBounds_toArray, List.set_cons_zero, List.set_cons_succ])
        refine H_run (k := 18) (by rfl) (by kernel_rfl) (by rfl) (fun K hK => ?_)
        go_simp
        refine (join_any b8 [z.ca, WD, DA, IB, IF] 5 b8 _ HRC.out (by omega) (by omega) (by rw [HJW.out]; omega)).mono ?_
        rintro e w9 ⟨rfl, hg9⟩
        rw [HJW.out]
        have hgz := gr_none hHeld hg9
        refine hK _ _ hgz ?_
        clear hK K
        clear hHeld hg9 HRC
        have hHeld := hgz
        (try simp only [Act.put, List.setIfInBounds_toArray, List.set_cons_zero, List.set_cons_succ])
        have a1 : ¬ 9223372036854775807 < J.size + nl.size := by have := HNL1.out; omega
        obtain ⟨JN, hJN⟩ : ∃ x, J ++ nl = x := ⟨_, rfl⟩
        have HJN1 := Lib.hid (show JN.size = J.size + 1 by rw [← hJN, appS2, HNL1.out])
        have HJN := Lib.hid (show JN.data.toList = seLine z by rw [← hJN, data_app, HNL.out, HLN.out])
        refine H_take (k := 19) (v := ?_) (by rfl) (by kernel_rfl) (by kernel_rfl) (by kernel_rfl) (by exact fun _ _ _ h => h) (by rfl) ?_ (by assumption) ?_
        rotate_left 1
        · intro w hSw
          (try dsimp only at hSw)
          go_simp
          (try with_reducible rfl)
        (try simp only [Act.put, List.setIfInBounds_toArray, List.set_cons_zero, List.set_cons_succ])
        have a2 : ¬ 9223372036854775807 < s.size + JN.size := by have := HSS.out; have := HJN1.out; omega
        obtain ⟨S2, hS2⟩ : ∃ x, s ++ JN = x := ⟨_, rfl⟩
        have HS2 := Lib.hid (show S2.data.toList = seTo l (k + 1) by rw [← hS2, data_app, HSD.out, HJN.out, HTO.out])
        refine H_take (k := 20) (v := ?_) (by rfl) (by kernel_rfl) (by kernel_rfl) (by kernel_rfl) (by exact fun _ _ _ h => h) (by rfl) ?_ (by assumption) ?_
        rotate_left 1
        · intro w hSw
          (try dsimp only at hSw)
          go_simp
          (try with_reducible rfl)
        (try simp only [Act.put, List.setIfInBounds_toArray, List.set_cons_zero, List.set_cons_succ])
        refine H_take (k := 21) (v := ?_) (by rfl) (by kernel_rfl) (by kernel_rfl) (by kernel_rfl) (by exact fun _ _ _ h => h) (by rfl) ?_ (by assumption) ?_
        rotate_left 1
        · intro w hSw
          (try dsimp only at hSw)
          go_simp
          (try with_reducible rfl)
        (try simp only [Act.put, List.setIfInBounds_toArray, List.set_cons_zero, List.set_cons_succ])
        refine H_done (by kernel_rfl) ?_
        replace HG := Lib.hid (gr_none HG.out hgz)
        clear hHeld hgz hJN hS2 a1 a2
        go_wp2_with fail
        go_roundw
        case rel => exact ⟨k + 1, S2, by omega, by go_num, rfl, HS2.out, HG.out⟩
        case measure => simp [intOf]; omega
      · clear kw
        go_simp
        refine (dash_any z.ag _).mono ?_
        rintro e wx ⟨rfl, rfl⟩
        rw [HDA.out]
        refine hK _ _ hHeld ?_
        clear hK K
        (try simp only [Act.put, List.setIfInBounds_toArray, List.set_cons_zero, List.set_cons_succ])
        have kw := HW3.out.at_ srow_len HWJ.out 0 _ rfl
        simp only [Nat.mul_one, Nat.add_zero, Nat.zero_add] at kw
        refine H_runTwo (k1 := 7) (k2 := 13) (by rfl) (by rfl) (by kernel_rfl) (by rfl) (by rfl) (fun K hK => ?_) (fun K hK => ?_)
        · go_simp
          refine hK _ _ hHeld ?_
          clear hK K
          clear kw
          (try simp only [Act.put, List.setIfInBounds_toArray, List.set_cons_zero, List.set_cons_succ])
          refine H_run (k := 13) (by rfl) (by kernel_rfl) (by rfl) (fun K hK => ?_)
          go_simp
          refine (itoaS_any z.beg _ (by omega) (by omega) (HPW.out.grown (gr_none HG.out hHeld))).mono ?_
          rintro e wx ⟨rfl, hgx⟩
          rw [HIB.out]
          have hgz := gr_none hHeld hgx
          refine hK _ _ hgz ?_
          clear hK K
          replace HW3 := Lib.hid (HW3.out.grown hgx (fun g e => by cases e))
          clear hHeld hgx
          have hHeld := hgz
          clear hgz
          (try simp only [Act.put, List.setIfInBounds_toArray, List.set_cons_zero, List.set_cons_succ])
          refine H_run (k := 16) (by rfl) (by kernel_rfl) (by rfl) (fun K hK => ?_)
          go_simp
          refine (itoaS_any z.fin _ (by omega) (by omega) (HPW.out.grown (gr_none HG.out hHeld))).mono ?_
          rintro e wx ⟨rfl, hgx⟩
          rw [HIF.out]
          have hgz := gr_none hHeld hgx
          refine hK _ _ hgz ?_
          clear hK K
          replace HW3 := Lib.hid (HW3.out.grown hgx (fun g e => by cases e))
          clear hHeld hgx
          have hHeld := hgz
          clear hgz
          (try simp only [Act.put, List.setIfInBounds_toArray, List.set_cons_zero, List.set_cons_succ])
          obtain ⟨w8, rfl⟩ : ∃ w8 : World, w8 = wx := ⟨_, rfl⟩
          obtain ⟨b8, hb8⟩ : ∃ b, w8.heap.size = b := ⟨_, rfl⟩
          obtain ⟨wa, hwa⟩ : ∃ v, w8.alloc (.cells #[.string z.ca, .string WD, .string DA, .string IB, .string IF] 9) = v := ⟨_, rfl⟩
          have hga : w8.grownBy wa none := by rw [← hwa]; exact gr_alloc (gr_refl _ _) _
          have HRC := Lib.hid (show Recs srow 1 wa b8 (some ⟨b8, 0, none⟩) 5 5 [z.ca, WD, DA, IB, IF] from ⟨by rw [flat_srow, ← hwa, ← hb8]; exact Reads.blk (Blk.new _ _ _) 1 5 rfl, rfl⟩)
          have hgz := gr_none hHeld hga
          refine H_run (k := 17) (by rfl) (by kernel_rfl) (by rfl) (fun K hK => ?_)
          go_simp
          (try rw [hwa])
          (try rw [hb8])
          refine hK _ _ hgz ?_
          clear hK K
          clear hHeld hwa hb8 hga
          have hHeld := hgz
          clear hgz
          (try simp only [Act.put, List.setIfInBounds_toArray, List.set_cons_zero, List.set_cons_succ])
          refine H_run (k := 18) (by rfl) (by kernel_rfl) (by rfl) (fun K hK => ?_)
          go_simp
          refine (join_any b8 [z.ca, WD, DA, IB, IF] 5 b8 _ HRC.out (by omega) (by omega) (by rw [HJW.out]; omega)).mono ?_
          rintro e w9 ⟨rfl, hg9⟩
          rw [HJW.out]
          have hgz := gr_none hHeld hg9
          refine hK _ _ hgz ?_
          clear hK K
          clear hHeld hg9 HRC
          have hHeld := hgz
          (try simp only [Act.put, List.setIfInBounds_toArray, List.set_cons_zero, List.set_cons_succ])
          have a1 : ¬ 9223372036854775807 < J.size + nl.size := by have := HNL1.out; omega
          obtain ⟨JN, hJN⟩ : ∃ x, J ++ nl = x := ⟨_, rfl⟩
          have HJN1 := Lib.hid (show JN.size = J.size + 1 by rw [← hJN, appS2, HNL1.out])
          have HJN := Lib.hid (show JN.data.toList = seLine z by rw [← hJN, data_app, HNL.out, HLN.out])
          refine H_take (k := 19) (v := ?_) (by rfl) (by kernel_rfl) (by kernel_rfl) (by kernel_rfl) (by exact fun _ _ _ h => h) (by rfl) ?_ (by assumption) ?_
          rotate_left 1
          · intro w hSw
            (try dsimp only at hSw)
            go_simp
            (try with_reducible rfl)
          (try simp only [Act.put, List.setIfInBounds_toArray, List.set_cons_zero, List.set_cons_succ])
          have a2 : ¬ 9223372036854775807 < s.size + JN.size := by have := HSS.out; have := HJN1.out; omega
          obtain ⟨S2, hS2⟩ : ∃ x, s ++ JN = x := ⟨_, rfl⟩
          have HS2 := Lib.hid (show S2.data.toList = seTo l (k + 1) by rw [← hS2, data_app, HSD.out, HJN.out, HTO.out])
          refine H_take (k := 20) (v := ?_) (by rfl) (by kernel_rfl) (by kernel_rfl) (by kernel_rfl) (by exact fun _ _ _ h => h) (by rfl) ?_ (by assumption) ?_
          rotate_left 1
          · intro w hSw
            (try dsimp only at hSw)
            go_simp
            (try with_reducible rfl)
          (try simp only [Act.put, List.setIfInBounds_toArray, List.set_cons_zero, List.set_cons_succ])
          refine H_take (k := 21) (v := ?_) (by rfl) (by kernel_rfl) (by kernel_rfl) (by kernel_rfl) (by exact fun _ _ _ h => h) (by rfl) ?_ (by assumption) ?_
          rotate_left 1
          · intro w hSw
            (try dsimp only at hSw)
            go_simp
            (try with_reducible rfl)
          (try simp only [Act.put, List.setIfInBounds_toArray, List.set_cons_zero, List.set_cons_succ])
          refine H_done (by kernel_rfl) ?_
          replace HG := Lib.hid (gr_none HG.out hgz)
          clear hHeld hgz hJN hS2 a1 a2
          go_wp2_with fail
          go_roundw
          case rel => exact ⟨k + 1, S2, by omega, by go_num, rfl, HS2.out, HG.out⟩
          case measure => simp [intOf]; omega
        · clear kw
          go_simp
          refine (itoaS_any z.beg _ (by omega) (by omega) (HPW.out.grown (gr_none HG.out hHeld))).mono ?_
          rintro e wx ⟨rfl, hgx⟩
          rw [HIB.out]
          have hgz := gr_none hHeld hgx
          refine hK _ _ hgz ?_
          clear hK K
          replace HW3 := Lib.hid (HW3.out.grown hgx (fun g e => by cases e))
          clear hHeld hgx
          have hHeld := hgz
          clear hgz
          (try simp only [Act.put, List.setIfInBounds_toArray, List.set_cons_zero, List.set_cons_succ])
          have kw := HW3.out.at_ srow_len HWJ.out 0 _ rfl
          simp only [Nat.mul_one, Nat.add_zero, Nat.zero_add] at kw
          refine H_runTwo (k1 := 7) (k2 := 16) (by rfl) (by rfl) (by kernel_rfl) (by rfl) (by rfl) (fun K hK => ?_) (fun K hK => ?_)
          · go_simp
            refine hK _ _ hHeld ?_
            clear hK K
            clear kw
            (try simp only [Act.put, List.setIfInBounds_toArray, List.set_cons_zero, List.set_cons_succ])
            refine H_run (k := 16) (by rfl) (by kernel_rfl) (by rfl) (fun K hK => ?_)
            go_simp
            refine (itoaS_any z.fin _ (by omega) (by omega) (HPW.out.grown (gr_none HG.out hHeld))).mono ?_
            rintro e wx ⟨rfl, hgx⟩
            rw [HIF.out]
            have hgz := gr_none hHeld hgx
            refine hK _ _ hgz ?_
            clear hK K
            replace HW3 := Lib.hid (HW3.out.grown hgx (fun g e => by cases e))
            clear hHeld hgx
            have hHeld := hgz
            clear hgz
            (try simp only [Act.put, List.setIfInBounds_toArray, List.set_cons_zero, List.set_cons_succ])
            obtain ⟨w8, rfl⟩ : ∃ w8 : World, w8 = wx := ⟨_, rfl⟩
            obtain ⟨b8, hb8⟩ : ∃ b, w8.heap.size = b := ⟨_, rfl⟩
            obtain ⟨wa, hwa⟩ : ∃ v, w8.alloc (.cells #[.string z.ca, .string WD, .string DA, .string IB, .string IF] 9) = v := ⟨_, rfl⟩
            have hga : w8.grownBy wa none := by rw [← hwa]; exact gr_alloc (gr_refl _ _) _
            have HRC := Lib.hid (show Recs srow 1 wa b8 (some ⟨b8, 0, none⟩) 5 5 [z.ca, WD, DA, IB, IF] from ⟨by rw [flat_srow, ← hwa, ← hb8]; exact Reads.blk (Blk.new _ _ _) 1 5 rfl, rfl⟩)
            have hgz := gr_none hHeld hga
            refine H_run (k := 17) (by rfl) (by kernel_rfl) (by rfl) (fun K hK => ?_)
            go_simp
            (try rw [hwa])
            (try rw [hb8])
            refine hK _ _ hgz ?_
            clear hK K
            clear hHeld hwa hb8 hga
            have hHeld := hgz
            clear hgz
            (try simp only [Act.put, List.setIfInBounds_toArray, List.set_cons_zero, List.set_cons_succ])
            refine H_run (k := 18) (by rfl) (by kernel_rfl) (by rfl) (fun K hK => ?_)
            go_simp
            refine (join_any b8 [z.ca, WD, DA, IB, IF] 5 b8 _ HRC.out (by omega) (by omega) (by rw [HJW.out]; omega)).mono ?_
            rintro e w9 ⟨rfl, hg9⟩
            rw [HJW.out]
            have hgz := gr_none hHeld hg9
            refine hK _ _ hgz ?_
            clear hK K
            clear hHeld hg9 HRC
            have hHeld := hgz
            (try simp only [Act.put, List.setIfInBounds_toArray, List.set_cons_zero, List.set_cons_succ])
            have a1 : ¬ 9223372036854775807 < J.size + nl.size := by have := HNL1.out; omega
            obtain ⟨JN, hJN⟩ : ∃ x, J ++ nl = x := ⟨_, rfl⟩
            have HJN1 := Lib.hid (show JN.size = J.size + 1 by rw [← hJN, appS2, HNL1.out])
            have HJN := Lib.hid (show JN.data.toList = seLine z by rw [← hJN, data_app, HNL.out, HLN.out])
            refine H_take (k := 19) (v := ?_) (by rfl) (by kernel_rfl) (by kernel_rfl) (by kernel_rfl) (by exact fun _ _ _ h => h) (by rfl) ?_ (by assumption) ?_
            rotate_left 1
            · intro w hSw
              (try dsimp only at hSw)
              go_simp
              (try with_reducible rfl)
            (try simp only [Act.put, List.setIfInBounds_toArray, List.set_cons_zero, List.set_cons_succ])
            have a2 : ¬ 9223372036854775807 < s.size + JN.size := by have := HSS.out; have := HJN1.out; omega
            obtain ⟨S2, hS2⟩ : ∃ x, s ++ JN = x := ⟨_, rfl⟩
            have HS2 := Lib.hid (show S2.data.toList = seTo l (k + 1) by rw [← hS2, data_app, HSD.out, HJN.out, HTO.out])
            refine H_take (k := 20) (v := ?_) (by rfl) (by kernel_rfl) (by kernel_rfl) (by kernel_rfl) (by exact fun _ _ _ h => h) (by rfl) ?_ (by assumption) ?_
            rotate_left 1
            · intro w hSw
              (try dsimp only at hSw)
              go_simp
              (try with_reducible rfl)
            (try simp only [Act.put, List.setIfInBounds_toArray, List.set_cons_zero, List.set_cons_succ])
            refine H_take (k := 21) (v := ?_) (by rfl) (by kernel_rfl) (by kernel_rfl) (by kernel_rfl) (by exact fun _ _ _ h => h) (by rfl) ?_ (by assumption) ?_
            rotate_left 1
            · intro w hSw
              (try dsimp only at hSw)
              go_simp
              (try with_reducible rfl)
            (try simp only [Act.put, List.setIfInBounds_toArray, List.set_cons_zero, List.set_cons_succ])
            refine H_done (by kernel_rfl) ?_
            replace HG := Lib.hid (gr_none HG.out hgz)
            clear hHeld hgz hJN hS2 a1 a2
            go_wp2_with fail
            go_roundw
            case rel => exact ⟨k + 1, S2, by omega, by go_num, rfl, HS2.out, HG.out⟩
            case measure => simp [intOf]; omega
          · clear kw
            go_simp
            refine (itoaS_any z.fin _ (by omega) (by omega) (HPW.out.grown (gr_none HG.out hHeld))).mono ?_
            rintro e wx ⟨rfl, hgx⟩
            rw [HIF.out]
            have hgz := gr_none hHeld hgx
            refine hK _ _ hgz ?_
            clear hK K
            replace HW3 := Lib.hid (HW3.out.grown hgx (fun g e => by cases e))
            clear hHeld hgx
            have hHeld := hgz
            clear hgz
            (try simp only [Act.put, List.setIfInBounds_toArray, List.set_cons_zero, List.set_cons_succ])
            have kw := HW3.out.at_ srow_len HWJ.out 0 _ rfl
            simp only [Nat.mul_one, Nat.add_zero, Nat.zero_add] at kw
            refine H_run (k := 7) (by rfl) (by kernel_rfl) (by rfl) (fun K hK => ?_)
            go_simp
            refine hK _ _ hHeld ?_
            clear hK K
            clear kw
            (try simp only [Act.put, List.setIfInBounds_toArray, List.set_cons_zero, List.set_cons_succ])
            obtain ⟨w8, rfl⟩ : ∃ w8 : World, w8 = wx := ⟨_, rfl⟩
            obtain ⟨b8, hb8⟩ : ∃ b, w8.heap.size = b := ⟨_, rfl⟩
            obtain ⟨wa, hwa⟩ : ∃ v, w8.alloc (.cells #[.string z.ca, .string WD, .string DA, .string IB, .string IF] 9) = v := ⟨_, rfl⟩
            have hga : w8.grownBy wa none := by rw [← hwa]; exact gr_alloc (gr_refl _ _) _
            have HRC := Lib.hid (show Recs srow 1 wa b8 (some ⟨b8, 0, none⟩) 5 5 [z.ca, WD, DA, IB, IF] from ⟨by rw [flat_srow, ← hwa, ← hb8]; exact Reads.blk (Blk.new _ _ _) 1 5 rfl, rfl⟩)
            have hgz := gr_none hHeld hga
            refine H_run (k := 17) (by rfl) (by kernel_rfl) (by rfl) (fun K hK => ?_)
            go_simp
            (try rw [hwa])
            (try rw [hb8])
            refine hK _ _ hgz ?_
            clear hK K
            clear hHeld hwa hb8 hga
            have hHeld := hgz
            clear hgz
            (try simp only [Act.put, List.setIfInBounds_toArray, List.set_cons_zero, List.set_cons_succ])
            refine H_run (k := 18) (by rfl) (by kernel_rfl) (by rfl) (fun K hK => ?_)
            go_simp
            refine (join_any b8 [z.ca, WD, DA, IB, IF] 5 b8 _ HRC.out (by omega) (by omega) (by rw [HJW.out]; omega)).mono ?_
            rintro e w9 ⟨rfl, hg9⟩
            rw [HJW.out]
            have hgz := gr_none hHeld hg9
            refine hK _ _ hgz ?_
            clear hK K
            clear hHeld hg9 HRC
            have hHeld := hgz
            (try simp only [Act.put, List.setIfInBounds_toArray, List.set_cons_zero, List.set_cons_succ])
            have a1 : ¬ 9223372036854775807 < J.size + nl.size := by have := HNL1.out; omega
            obtain ⟨JN, hJN⟩ : ∃ x, J ++ nl = x := ⟨_, rfl⟩
            have HJN1 := Lib.hid (show JN.size = J.size + 1 by rw [← hJN, appS2, HNL1.out])
            have HJN := Lib.hid (show JN.data.toList = seLine z by rw [← hJN, data_app, HNL.out, HLN.out])
            refine H_take (k := 19) (v := ?_) (by rfl) (by kernel_rfl) (by kernel_rfl) (by kernel_rfl) (by exact fun _ _ _ h => h) (by rfl) ?_ (by assumption) ?_
            rotate_left 1
            · intro w hSw
              (try dsimp only at hSw)
              go_simp
              (try with_reducible rfl)
            (try simp only [Act.put, List.setIfInBounds_toArray, List.set_cons_zero, List.set_cons_succ])
            have a2 : ¬ 9223372036854775807 < s.size + JN.size := by have := HSS.out; have := HJN1.out; omega
            obtain ⟨S2, hS2⟩ : ∃ x, s ++ JN = x := ⟨_, rfl⟩
            have HS2 := Lib.hid (show S2.data.toList = seTo l (k + 1) by rw [← hS2, data_app, HSD.out, HJN.out, HTO.out])
            refine H_take (k := 20) (v := ?_) (by rfl) (by kernel_rfl) (by kernel_rfl) (by kernel_rfl) (by exact fun _ _ _ h => h) (by rfl) ?_ (by assumption) ?_
            rotate_left 1
            · intro w hSw
              (try dsimp only at hSw)
              go_simp
              (try with_reducible rfl)
            (try simp only [Act.put, List.setIfInBounds_toArray, List.set_cons_zero, List.set_cons_succ])
            refine H_take (k := 21) (v := ?_) (by rfl) (by kernel_rfl) (by kernel_rfl) (by kernel_rfl) (by exact fun _ _ _ h => h) (by rfl) ?_ (by assumption) ?_
            rotate_left 1
            · intro w hSw
              (try dsimp only at hSw)
              go_simp
              (try with_reducible rfl)
            (try simp only [Act.put, List.setIfInBounds_toArray, List.set_cons_zero, List.set_cons_succ])
            refine H_done (by kernel_rfl) ?_
            replace HG := Lib.hid (gr_none HG.out hgz)
            clear hHeld hgz hJN hS2 a1 a2
            go_wp2_with fail
            go_roundw
            case rel => exact ⟨k + 1, S2, by omega, by go_num, rfl, HS2.out, HG.out⟩
            case measure => simp [intOf]; omega



    · obtain rfl : k = n := by omega
      have HST := Lib.hid (show (⟨(seTo l k).toArray⟩ : ByteArray) = s by rw [← HSD.out])
      go_wp2_with fail
      go_ret
      exact ⟨by rw [HST.out]; try rfl, HG.out⟩
end Go.Proofs.YtnmodobkennklaaGreatDoor

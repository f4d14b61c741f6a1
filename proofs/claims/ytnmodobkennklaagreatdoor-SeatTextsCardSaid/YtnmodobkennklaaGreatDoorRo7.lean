/- Contracts of newRoom and of the document's PlayOf. Conditions: agents and callers whose numbers are in bounds. -/
import Derived.Test.YtnmodobkennklaaGreatDoorRo6
namespace Go.Proofs.YtnmodobkennklaaGreatDoor
open Go.RowKit

theorem Tryz.sesT : ElemT Tryz.prog 52 58 5 56 (.agg #[.string ⟨#[]⟩, .string ⟨#[]⟩, .int .i64 0, .int .i64 0, .int .i64 0]) := elemT_of Tryz.underlying52 (by kernel_rfl) rfl (by decide)
theorem Tryz.dksT : ElemT Tryz.prog 212 251 2 16 (.agg #[.int .i64 0, .int .i64 0]) := elemT_of Tryz.underlying212 (by kernel_rfl) rfl (by decide)
theorem Tryz.bosT : ElemT Tryz.prog 213 4 1 1 (.bool false) := elemT_of Tryz.underlying213 (by kernel_rfl) rfl (by decide)
theorem Tryz.syT : StructT Tryz.prog 56 3 := ⟨_, Tryz.underlying56, rfl, by kernel_rfl⟩
theorem Tryz.rmT : StructT Tryz.prog 215 10 := ⟨_, Tryz.underlying215, rfl, by kernel_rfl⟩
/-- Three operations that run are ready. -/
theorem H_runThree {P : Program} {ls : List Oper} {md : Region.Mode} {Q : Exit → Act → World → Prop} {S : World → Prop} {fuel k1 k2 k3 : Nat} {listed : Array Bool} {o1 o2 o3 : Oper} {a : Act} {w : World} (ho1 : opAt ls k1 = some o1) (ho2 : opAt ls k2 = some o2) (ho3 : opAt ls k3 = some o3) (hr : Region.ready md ls.toArray listed = [k1, k2, k3])
    (hw1 : Region.wanted o1 (yielded ls.toArray a.tmps) = true) (hw2 : Region.wanted o2 (yielded ls.toArray a.tmps) = true) (hw3 : Region.wanted o3 (yielded ls.toArray a.tmps) = true)
    (h1 : ∀ K : Act → World → Prop, (∀ a' w', S w' → wpAnyH P md ls.toArray Q S fuel (listed.setIfInBounds k1 true) a' w' → K a' w') → o1.wp P a w K Q)
    (h2 : ∀ K : Act → World → Prop, (∀ a' w', S w' → wpAnyH P md ls.toArray Q S fuel (listed.setIfInBounds k2 true) a' w' → K a' w') → o2.wp P a w K Q)
    (h3 : ∀ K : Act → World → Prop, (∀ a' w', S w' → wpAnyH P md ls.toArray Q S fuel (listed.setIfInBounds k3 true) a' w' → K a' w') → o3.wp P a w K Q) : wpAnyH P md ls.toArray Q S (fuel + 1) listed a w := by
  refine ⟨fun h => (by rw [hr] at h; cases h), fun i hi => ?_⟩
  rw [hr] at hi
  have hik : i = k1 ∨ i = k2 ∨ i = k3 := by simpa using hi
  rcases hik with rfl | rfl | rfl
  · rw [opAt_eq] at ho1
    unfold wpOp
    simp only [ho1, hw1, if_true]
    exact .inl (h1 _ fun a' w' hs h => ⟨hs, h⟩)
  · rw [opAt_eq] at ho2
    unfold wpOp
    simp only [ho2, hw2, if_true]
    exact .inl (h2 _ fun a' w' hs h => ⟨hs, h⟩)
  · rw [opAt_eq] at ho3
    unfold wpOp
    simp only [ho3, hw3, if_true]
    exact .inl (h3 _ fun a' w' hs h => ⟨hs, h⟩)
def dks (m : Nat) : List Value := List.replicate (m * 2) (.int .i64 0)
theorem dks_flat (m : Nat) : (List.replicate m ((0 : Int), (0 : Int))).flatMap dkRow = dks m := by
  induction m with
  | zero => rfl
  | succ m ih =>
    rw [List.replicate_succ, List.flatMap_cons, ih]
    unfold dks
    rw [show (m + 1) * 2 = m * 2 + 1 + 1 by omega, List.replicate_succ, List.replicate_succ]
    rfl
theorem made2 (n : Nat) : madeCells #[.int .i64 0, .int .i64 0] n = (List.replicate n (Value.int .i64 0)).toArray := by
  apply Array.ext
  · simp [madeCells]
  · intro i h1 h2
    have h3 : i % 2 = 0 ∨ i % 2 = 1 := by omega
    rcases h3 with h | h <;> simp [madeCells, h]
theorem run_makeD (m : Nat) (hm : m ≤ 1000) (w : World) : (Instr.makeSlice 212 (.int .i64 (m : Int)) (.int .i64 (m : Int))).run Tryz.prog w = .ok (.slice (some ⟨w.heap.size, 0, none⟩) m m) (w.alloc (.cells (dks m).toArray 251)) := by
  obtain ⟨ht, ⟨i, hi, hz', hs, hby⟩, _, _⟩ := Tryz.dksT
  have hb' : (i.bytes : Int) * (m : Int) ≤ 281474976710656 := by rw [hby]; omega
  have hr := run_make (P := Tryz.prog) w _ _ i _ ht hi hz' .i64 .i64 m m (by omega) (by omega) hb' (by omega)
  simp only [Int.toNat_natCast] at hr
  have e : madeCells (Value.agg #[.int .i64 0, .int .i64 0]).cells (m * i.size) = (dks m).toArray := by rw [hs]; exact made2 _
  rw [e] at hr
  exact hr
theorem ownD_made (w : World) (m : Nat) (hm : m ≤ 1000) : OwnR dkRow 2 (w.alloc (.cells (dks m).toArray 251)) w.heap.size 251 (some ⟨w.heap.size, 0, none⟩) m m (List.replicate m (0, 0)) :=
  ⟨by rw [dks_flat]; exact Own.lit w _ 2 (dks m) m (by unfold maxLen; omega) (by unfold dks; simp), by simp⟩
theorem ownB_made (w : World) (n : Nat) (hn : n ≤ 1000) : OwnR bRow 1 (w.alloc (.cells (Array.replicate n (.bool false)) 4)) w.heap.size 4 (some ⟨w.heap.size, 0, none⟩) n n (List.replicate n false) := by
  refine ⟨?_, by simp⟩
  have h := Own.made w 4 (.bool false) n (by unfold maxLen; omega)
  have e : (List.replicate n false).flatMap bRow = List.replicate n (.bool false) := by
    induction n with
    | zero => rfl
    | succ n ih => rw [List.replicate_succ, List.flatMap_cons, ih (by omega) (Own.made w 4 (.bool false) n (by unfold maxLen; omega))]; rfl
  rw [e]
  exact h
/-- A room that is being made. -/
def NewAt (w0 w : World) (rb : Nat) (s : StyV) (aA : Option Addr) (ac : Nat) (cA : Option Addr) (cc : Nat) (dA bA nA sA : Option Addr) (k sc : Nat) (A : List AgV) (C : List CaV) : Prop :=
  Blk w rb 215 #[.int .i64 s.kind, .int .i64 s.age, .int .i64 s.say, .slice aA A.length ac, .slice cA C.length cc, .slice dA A.length A.length, .slice sA k sc, .slice bA C.length C.length, .slice nA C.length C.length, .string ⟨#[]⟩] ∧ w0.heap.size ≤ rb ∧ OwnR dkRow 2 w w0.heap.size 251 dA A.length A.length (List.replicate A.length (0, 0)) ∧ OwnR SeV.row 5 w w0.heap.size 58 sA k sc ((C.take k).map fun c => ⟨c.id, ⟨#[]⟩, 4, 0, 0⟩) ∧
  OwnR bRow 1 w w0.heap.size 4 bA C.length C.length (List.replicate C.length false) ∧ OwnR bRow 1 w w0.heap.size 4 nA C.length C.length (List.replicate C.length false) ∧ (∀ g, blkOf bA = some g → blkOf nA ≠ some g) ∧ w0.grownBy w none
set_option maxHeartbeats 16000000 in
set_option maxRecDepth 100000 in
theorem newRoom_any (s : StyV) (aA : Option Addr) (ac : Nat) (A : List AgV) (cA : Option Addr) (cc : Nat) (C : List CaV) (w : World) (hA : Ags w 0 aA A.length ac A) (hC : Cas w 0 cA C.length cc C) (hm : A.length ≤ 1000) (hn : C.length ≤ 19) (hAn : ∀ a ∈ A, AgN a ∧ a.key.size ≤ 1000) (hCn : ∀ c ∈ C, CaN c ∧ CaOk c) (hag : 0 ≤ s.age) :
    Calls Tryz.prog 112 #[.agg #[.int .i64 s.kind, .int .i64 s.age, .int .i64 s.say], .slice aA A.length ac, .slice cA C.length cc] w (fun e w' => ∃ R : RoC, e = .returned (.pointer (some ⟨R.g, 0, none⟩)) ∧ Rm w w' R s A C (newR A C)) := by
  obtain ⟨w1, hw1⟩ : ∃ w1, w.alloc (.cells #[.int .i64 s.kind, .int .i64 s.age, .int .i64 s.say] 56) = w1 := ⟨_, rfl⟩
  have HS1 := Lib.hid (show Blk w1 w.heap.size 56 #[.int .i64 s.kind, .int .i64 s.age, .int .i64 s.say] by rw [← hw1]; exact Blk.new _ _ _)
  have HG1 := Lib.hid (show w.grownBy w1 none by rw [← hw1]; exact gr_alloc (gr_refl _ _) _)
  have hz1 := HG1.out.size
  have HW1 := Lib.hid hw1
  have HA := Lib.hid hA; have HC := Lib.hid hC; have HAN := Lib.hid hAn; have HCNN := Lib.hid hCn
  have hmd := run_makeD A.length hm
  have hmb : ∀ w : World, (Instr.makeSlice 213 (.int .i64 (C.length : Int)) (.int .i64 (C.length : Int))).run Tryz.prog w = .ok (.slice (some ⟨w.heap.size, 0, none⟩) C.length C.length) (w.alloc (.cells (Array.replicate C.length (.bool false)) 4)) := run_make1 Tryz.bosT C.length rfl (by omega) (by omega)
  clear hw1 hA hC hAn hCn
  go_enter Tryz.func112, Tryz.ntmps112
  go_upto_region 1 with (fail)
  rw [HW1.out]
  clear HW1
  go_cut [7] (fun v wx => ∃ (rb : Nat) (dA bA nA : Option Addr), v = .pointer (some ⟨rb, 0, none⟩) ∧ NewAt w wx rb s aA ac cA cc dA bA nA none 0 0 A C)
  case first =>
    refine H_begin (fun w' => w1.grownBy w' none) (by kernel_rfl) ?_
    have hHeld : w1.grownBy w1.drew none := gr_drew (gr_refl _ _)
    refine H_take (k := 0) (v := .agg #[.int .i64 s.kind, .int .i64 s.age, .int .i64 s.say]) (by rfl) (by kernel_rfl) (by kernel_rfl) (by kernel_rfl) (by exact fun _ _ _ h => h) (by rfl) (fun w' hSw => exec_ldb Tryz.syT _ rfl _ rfl 56 [.int .i64 s.kind, .int .i64 s.age, .int .i64 s.say] (HS1.out.grown hSw (by simp)) rfl) (by assumption) ?_
    (try simp only [Act.put, List.setIfInBounds_toArray, List.set_cons_zero, List.set_cons_succ])
    refine H_take (k := 1) (v := ?_) (by rfl) (by kernel_rfl) (by kernel_rfl) (by kernel_rfl) (by exact fun _ _ _ h => h) (by rfl) ?_ (by assumption) ?_
    rotate_left 1
    · intro w hSw
      (try dsimp only at hSw)
      go_simp
      (try with_reducible rfl)
    (try simp only [Act.put, List.setIfInBounds_toArray, List.set_cons_zero, List.set_cons_succ])
    refine H_take (k := 2) (v := ?_) (by rfl) (by kernel_rfl) (by kernel_rfl) (by kernel_rfl) (by exact fun _ _ _ h => h) (by rfl) ?_ (by assumption) ?_
    rotate_left 1
    · intro w hSw
      (try dsimp only at hSw)
      go_simp
      (try with_reducible rfl)
    (try simp only [Act.put, List.setIfInBounds_toArray, List.set_cons_zero, List.set_cons_succ])
    refine H_take (k := 3) (v := ?_) (by rfl) (by kernel_rfl) (by kernel_rfl) (by kernel_rfl) (by exact fun _ _ _ h => h) (by rfl) ?_ (by assumption) ?_
    rotate_left 1
    · intro w hSw
      (try dsimp only at hSw)
      go_simp
      (try with_reducible rfl)
    (try simp only [Act.put, List.setIfInBounds_toArray, List.set_cons_zero, List.set_cons_succ])
    refine H_take (k := 4) (v := ?_) (by rfl) (by kernel_rfl) (by kernel_rfl) (by kernel_rfl) (by exact fun _ _ _ h => h) (by rfl) ?_ (by assumption) ?_
    rotate_left 1
    · intro w hSw
      (try dsimp only at hSw)
      go_simp
      (try with_reducible rfl)
    (try simp only [Act.put, List.setIfInBounds_toArray, List.set_cons_zero, List.set_cons_succ])
    refine H_take (k := 6) (v := ?_) (by rfl) (by kernel_rfl) (by kernel_rfl) (by kernel_rfl) (by exact fun _ _ _ h => h) (by rfl) ?_ (by assumption) ?_
    rotate_left 1
    · intro w hSw
      (try dsimp only at hSw)
      go_simp
      (try with_reducible rfl)
    (try simp only [Act.put, List.setIfInBounds_toArray, List.set_cons_zero, List.set_cons_succ])
    refine H_take (k := 7) (v := ?_) (by rfl) (by kernel_rfl) (by kernel_rfl) (by kernel_rfl) (by exact fun _ _ _ h => h) (by rfl) ?_ (by assumption) ?_
    rotate_left 1
    · intro w hSw
      (try dsimp only at hSw)
      go_simp
      (try with_reducible rfl)
    (try simp only [Act.put, List.setIfInBounds_toArray, List.set_cons_zero, List.set_cons_succ])
    refine H_take (k := 9) (v := ?_) (by rfl) (by kernel_rfl) (by kernel_rfl) (by kernel_rfl) (by exact fun _ _ _ h => h) (by rfl) ?_ (by assumption) ?_
    rotate_left 1
    · intro w hSw
      (try dsimp only at hSw)
      go_simp
      (try with_reducible rfl)
    (try simp only [Act.put, List.setIfInBounds_toArray, List.set_cons_zero, List.set_cons_succ])
    refine H_take (k := 10) (v := ?_) (by rfl) (by kernel_rfl) (by kernel_rfl) (by kernel_rfl) (by exact fun _ _ _ h => h) (by rfl) ?_ (by assumption) ?_
    rotate_left 1
    · intro w hSw
      (try dsimp only at hSw)
      go_simp
      (try with_reducible rfl)
    (try simp only [Act.put, List.setIfInBounds_toArray, List.set_cons_zero, List.set_cons_succ])
    obtain ⟨v0, hv0⟩ : ∃ v, w1.drew = v := ⟨_, rfl⟩
    have HZ0 := Lib.hid (show w.heap.size ≤ v0.heap.size by rw [← hv0]; exact hz1)
    rw [hv0] at hHeld ⊢
    clear hv0
    refine H_runThree (k1 := 5) (k2 := 8) (k3 := 11) (by rfl) (by rfl) (by rfl) (by kernel_rfl) (by rfl) (by rfl) (by rfl) (fun K hK => ?_) (fun K hK => ?_) (fun K hK => ?_)
    · go_simp
      refine hK _ _ (gr_alloc hHeld (.cells (dks A.length).toArray 251)) ?_
      clear hK K
      have hHeld := gr_alloc hHeld (.cells (dks A.length).toArray 251)
      have HM5 := Lib.hid (ownD_made v0 A.length hm)
      obtain ⟨v1, hv1⟩ : ∃ v, v0.alloc (.cells (dks A.length).toArray 251) = v := ⟨_, rfl⟩
      have HZ1 := Lib.hid (show v1.heap.size = v0.heap.size + 1 by rw [← hv1]; simp)
      rw [hv1] at hHeld HM5 ⊢
      clear hv1
      (try simp only [Act.put, List.setIfInBounds_toArray, List.set_cons_zero, List.set_cons_succ])
      refine H_runTwo (k1 := 8) (k2 := 11) (by rfl) (by rfl) (by kernel_rfl) (by rfl) (by rfl) (fun K hK => ?_) (fun K hK => ?_)
      · go_simp
        refine hK _ _ (gr_alloc hHeld (.cells (Array.replicate C.length (.bool false)) 4)) ?_
        clear hK K
        have hHeld := gr_alloc hHeld (.cells (Array.replicate C.length (.bool false)) 4)
        have HM8 := Lib.hid (ownB_made v1 C.length (by omega))
        obtain ⟨v2, hv2⟩ : ∃ v, v1.alloc (.cells (Array.replicate C.length (.bool false)) 4) = v := ⟨_, rfl⟩
        have HZ2 := Lib.hid (show v2.heap.size = v1.heap.size + 1 by rw [← hv2]; simp)
        rw [hv2] at hHeld HM8 ⊢
        replace HM5 := Lib.hid (HM5.out.alloc (.cells (Array.replicate C.length (.bool false)) 4))
        rw [hv2] at HM5
        clear hv2
        (try simp only [Act.put, List.setIfInBounds_toArray, List.set_cons_zero, List.set_cons_succ])
        refine H_run (k := 11) (by rfl) (by kernel_rfl) (by rfl) (fun K hK => ?_)
        go_simp
        refine hK _ _ (gr_alloc hHeld (.cells (Array.replicate C.length (.bool false)) 4)) ?_
        clear hK K
        have hHeld := gr_alloc hHeld (.cells (Array.replicate C.length (.bool false)) 4)
        have HM11 := Lib.hid (ownB_made v2 C.length (by omega))
        obtain ⟨v3, hv3⟩ : ∃ v, v2.alloc (.cells (Array.replicate C.length (.bool false)) 4) = v := ⟨_, rfl⟩
        have HZ3 := Lib.hid (show v3.heap.size = v2.heap.size + 1 by rw [← hv3]; simp)
        rw [hv3] at hHeld HM11 ⊢
        replace HM5 := Lib.hid (HM5.out.alloc (.cells (Array.replicate C.length (.bool false)) 4))
        rw [hv3] at HM5
        replace HM8 := Lib.hid (HM8.out.alloc (.cells (Array.replicate C.length (.bool false)) 4))
        rw [hv3] at HM8
        clear hv3
        (try simp only [Act.put, List.setIfInBounds_toArray, List.set_cons_zero, List.set_cons_succ])
        refine H_take (k := 12) (v := ?_) (by rfl) (by kernel_rfl) (by kernel_rfl) (by kernel_rfl) (by exact fun _ _ _ h => h) (by rfl) ?_ (by assumption) ?_
        rotate_left 1
        · intro w hSw
          (try dsimp only at hSw)
          go_simp
          (try with_reducible rfl)
        (try simp only [Act.put, List.setIfInBounds_toArray, List.set_cons_zero, List.set_cons_succ])
        refine H_run (k := 13) (by rfl) (by kernel_rfl) (by rfl) (fun K hK => ?_)
        go_simp
        refine hK _ _ (gr_alloc hHeld _) ?_
        clear hK K
        have hHeld := gr_alloc hHeld (.cells #[.int .i64 s.kind, .int .i64 s.age, .int .i64 s.say, .slice aA A.length ac, .slice cA C.length cc, .slice (some ⟨v0.heap.size, 0, none⟩) A.length A.length, .slice none 0 0, .slice (some ⟨v1.heap.size, 0, none⟩) C.length C.length, .slice (some ⟨v2.heap.size, 0, none⟩) C.length C.length, .string ⟨#[]⟩] 215)
        have HBK := Lib.hid (Blk.new v3 215 #[.int .i64 s.kind, .int .i64 s.age, .int .i64 s.say, .slice aA A.length ac, .slice cA C.length cc, .slice (some ⟨v0.heap.size, 0, none⟩) A.length A.length, .slice none 0 0, .slice (some ⟨v1.heap.size, 0, none⟩) C.length C.length, .slice (some ⟨v2.heap.size, 0, none⟩) C.length C.length, .string ⟨#[]⟩])
        replace HM5 := Lib.hid (HM5.out.alloc (.cells #[.int .i64 s.kind, .int .i64 s.age, .int .i64 s.say, .slice aA A.length ac, .slice cA C.length cc, .slice (some ⟨v0.heap.size, 0, none⟩) A.length A.length, .slice none 0 0, .slice (some ⟨v1.heap.size, 0, none⟩) C.length C.length, .slice (some ⟨v2.heap.size, 0, none⟩) C.length C.length, .string ⟨#[]⟩] 215))
        replace HM8 := Lib.hid (HM8.out.alloc (.cells #[.int .i64 s.kind, .int .i64 s.age, .int .i64 s.say, .slice aA A.length ac, .slice cA C.length cc, .slice (some ⟨v0.heap.size, 0, none⟩) A.length A.length, .slice none 0 0, .slice (some ⟨v1.heap.size, 0, none⟩) C.length C.length, .slice (some ⟨v2.heap.size, 0, none⟩) C.length C.length, .string ⟨#[]⟩] 215))
        replace HM11 := Lib.hid (HM11.out.alloc (.cells #[.int .i64 s.kind, .int .i64 s.age, .int .i64 s.say, .slice aA A.length ac, .slice cA C.length cc, .slice (some ⟨v0.heap.size, 0, none⟩) A.length A.length, .slice none 0 0, .slice (some ⟨v1.heap.size, 0, none⟩) C.length C.length, .slice (some ⟨v2.heap.size, 0, none⟩) C.length C.length, .string ⟨#[]⟩] 215))
        obtain ⟨v4, hv4⟩ : ∃ v, v3.alloc (.cells #[.int .i64 s.kind, .int .i64 s.age, .int .i64 s.say, .slice aA A.length ac, .slice cA C.length cc, .slice (some ⟨v0.heap.size, 0, none⟩) A.length A.length, .slice none 0 0, .slice (some ⟨v1.heap.size, 0, none⟩) C.length C.length, .slice (some ⟨v2.heap.size, 0, none⟩) C.length C.length, .string ⟨#[]⟩] 215) = v := ⟨_, rfl⟩
        rw [hv4] at hHeld HBK HM5 HM8 HM11 ⊢
        clear hv4
        (try simp only [Act.put, List.setIfInBounds_toArray, List.set_cons_zero, List.set_cons_succ])
        refine H_take (k := 14) (v := ?_) (by rfl) (by kernel_rfl) (by kernel_rfl) (by kernel_rfl) (by exact fun _ _ _ h => h) (by rfl) ?_ (by assumption) ?_
        rotate_left 1
        · intro w hSw
          (try dsimp only at hSw)
          go_simp
          (try with_reducible rfl)
        (try simp only [Act.put, List.setIfInBounds_toArray, List.set_cons_zero, List.set_cons_succ])
        refine H_done (by kernel_rfl) ?_
        have hzz := HZ0.out
        clear hmd hmb
        go_wp2_with fail
        go_meet
        have e1 := HZ1.out
        have e2 := HZ2.out
        have e3 := HZ3.out
        exact ⟨_, _, _, _, rfl, HBK.out, by omega, HM5.out.lower (by omega), OwnR.nil _ _ _, HM8.out.lower (by omega), HM11.out.lower (by omega), (fun g e e' => by injection e with e; injection e' with e'; dsimp only at e e'; omega), gr_none HG1.out hHeld⟩
      · go_simp
        refine hK _ _ (gr_alloc hHeld (.cells (Array.replicate C.length (.bool false)) 4)) ?_
        clear hK K
        have hHeld := gr_alloc hHeld (.cells (Array.replicate C.length (.bool false)) 4)
        have HM11 := Lib.hid (ownB_made v1 C.length (by omega))
        obtain ⟨v2, hv2⟩ : ∃ v, v1.alloc (.cells (Array.replicate C.length (.bool false)) 4) = v := ⟨_, rfl⟩
        have HZ2 := Lib.hid (show v2.heap.size = v1.heap.size + 1 by rw [← hv2]; simp)
        rw [hv2] at hHeld HM11 ⊢
        replace HM5 := Lib.hid (HM5.out.alloc (.cells (Array.replicate C.length (.bool false)) 4))
        rw [hv2] at HM5
        clear hv2
        (try simp only [Act.put, List.setIfInBounds_toArray, List.set_cons_zero, List.set_cons_succ])
        refine H_run (k := 8) (by rfl) (by kernel_rfl) (by rfl) (fun K hK => ?_)
        go_simp
        refine hK _ _ (gr_alloc hHeld (.cells (Array.replicate C.length (.bool false)) 4)) ?_
        clear hK K
        have hHeld := gr_alloc hHeld (.cells (Array.replicate C.length (.bool false)) 4)
        have HM8 := Lib.hid (ownB_made v2 C.length (by omega))
        obtain ⟨v3, hv3⟩ : ∃ v, v2.alloc (.cells (Array.replicate C.length (.bool false)) 4) = v := ⟨_, rfl⟩
        have HZ3 := Lib.hid (show v3.heap.size = v2.heap.size + 1 by rw [← hv3]; simp)
        rw [hv3] at hHeld HM8 ⊢
        replace HM5 := Lib.hid (HM5.out.alloc (.cells (Array.replicate C.length (.bool false)) 4))
        rw [hv3] at HM5
        replace HM11 := Lib.hid (HM11.out.alloc (.cells (Array.replicate C.length (.bool false)) 4))
        rw [hv3] at HM11
        clear hv3
        (try simp only [Act.put, List.setIfInBounds_toArray, List.set_cons_zero, List.set_cons_succ])
        refine H_take (k := 12) (v := ?_) (by rfl) (by kernel_rfl) (by kernel_rfl) (by kernel_rfl) (by exact fun _ _ _ h => h) (by rfl) ?_ (by assumption) ?_
        rotate_left 1
        · intro w hSw
          (try dsimp only at hSw)
          go_simp
          (try with_reducible rfl)
        (try simp only [Act.put, List.setIfInBounds_toArray, List.set_cons_zero, List.set_cons_succ])
        refine H_run (k := 13) (by rfl) (by kernel_rfl) (by rfl) (fun K hK => ?_)
        go_simp
        refine hK _ _ (gr_alloc hHeld _) ?_
        clear hK K
        have hHeld := gr_alloc hHeld (.cells #[.int .i64 s.kind, .int .i64 s.age, .int .i64 s.say, .slice aA A.length ac, .slice cA C.length cc, .slice (some ⟨v0.heap.size, 0, none⟩) A.length A.length, .slice none 0 0, .slice (some ⟨v2.heap.size, 0, none⟩) C.length C.length, .slice (some ⟨v1.heap.size, 0, none⟩) C.length C.length, .string ⟨#[]⟩] 215)
        have HBK := Lib.hid (Blk.new v3 215 #[.int .i64 s.kind, .int .i64 s.age, .int .i64 s.say, .slice aA A.length ac, .slice cA C.length cc, .slice (some ⟨v0.heap.size, 0, none⟩) A.length A.length, .slice none 0 0, .slice (some ⟨v2.heap.size, 0, none⟩) C.length C.length, .slice (some ⟨v1.heap.size, 0, none⟩) C.length C.length, .string ⟨#[]⟩])
        replace HM5 := Lib.hid (HM5.out.alloc (.cells #[.int .i64 s.kind, .int .i64 s.age, .int .i64 s.say, .slice aA A.length ac, .slice cA C.length cc, .slice (some ⟨v0.heap.size, 0, none⟩) A.length A.length, .slice none 0 0, .slice (some ⟨v2.heap.size, 0, none⟩) C.length C.length, .slice (some ⟨v1.heap.size, 0, none⟩) C.length C.length, .string ⟨#[]⟩] 215))
        replace HM8 := Lib.hid (HM8.out.alloc (.cells #[.int .i64 s.kind, .int .i64 s.age, .int .i64 s.say, .slice aA A.length ac, .slice cA C.length cc, .slice (some ⟨v0.heap.size, 0, none⟩) A.length A.length, .slice none 0 0, .slice (some ⟨v2.heap.size, 0, none⟩) C.length C.length, .slice (some ⟨v1.heap.size, 0, none⟩) C.length C.length, .string ⟨#[]⟩] 215))
        replace HM11 := Lib.hid (HM11.out.alloc (.cells #[.int .i64 s.kind, .int .i64 s.age, .int .i64 s.say, .slice aA A.length ac, .slice cA C.length cc, .slice (some ⟨v0.heap.size, 0, none⟩) A.length A.length, .slice none 0 0, .slice (some ⟨v2.heap.size, 0, none⟩) C.length C.length, .slice (some ⟨v1.heap.size, 0, none⟩) C.length C.length, .string ⟨#[]⟩] 215))
        obtain ⟨v4, hv4⟩ : ∃ v, v3.alloc (.cells #[.int .i64 s.kind, .int .i64 s.age, .int .i64 s.say, .slice aA A.length ac, .slice cA C.length cc, .slice (some ⟨v0.heap.size, 0, none⟩) A.length A.length, .slice none 0 0, .slice (some ⟨v2.heap.size, 0, none⟩) C.length C.length, .slice (some ⟨v1.heap.size, 0, none⟩) C.length C.length, .string ⟨#[]⟩] 215) = v := ⟨_, rfl⟩
        rw [hv4] at hHeld HBK HM5 HM8 HM11 ⊢
        clear hv4
        (try simp only [Act.put, List.setIfInBounds_toArray, List.set_cons_zero, List.set_cons_succ])
        refine H_take (k := 14) (v := ?_) (by rfl) (by kernel_rfl) (by kernel_rfl) (by kernel_rfl) (by exact fun _ _ _ h => h) (by rfl) ?_ (by assumption) ?_
        rotate_left 1
        · intro w hSw
          (try dsimp only at hSw)
          go_simp
          (try with_reducible rfl)
        (try simp only [Act.put, List.setIfInBounds_toArray, List.set_cons_zero, List.set_cons_succ])
        refine H_done (by kernel_rfl) ?_
        have hzz := HZ0.out
        clear hmd hmb
        go_wp2_with fail
        go_meet
        have e1 := HZ1.out
        have e2 := HZ2.out
        have e3 := HZ3.out
        exact ⟨_, _, _, _, rfl, HBK.out, by omega, HM5.out.lower (by omega), OwnR.nil _ _ _, HM8.out.lower (by omega), HM11.out.lower (by omega), (fun g e e' => by injection e with e; injection e' with e'; dsimp only at e e'; omega), gr_none HG1.out hHeld⟩
    · go_simp
      refine hK _ _ (gr_alloc hHeld (.cells (Array.replicate C.length (.bool false)) 4)) ?_
      clear hK K
      have hHeld := gr_alloc hHeld (.cells (Array.replicate C.length (.bool false)) 4)
      have HM8 := Lib.hid (ownB_made v0 C.length (by omega))
      obtain ⟨v1, hv1⟩ : ∃ v, v0.alloc (.cells (Array.replicate C.length (.bool false)) 4) = v := ⟨_, rfl⟩
      have HZ1 := Lib.hid (show v1.heap.size = v0.heap.size + 1 by rw [← hv1]; simp)
      rw [hv1] at hHeld HM8 ⊢
      clear hv1
      (try simp only [Act.put, List.setIfInBounds_toArray, List.set_cons_zero, List.set_cons_succ])
      refine H_runTwo (k1 := 5) (k2 := 11) (by rfl) (by rfl) (by kernel_rfl) (by rfl) (by rfl) (fun K hK => ?_) (fun K hK => ?_)
      · go_simp
        refine hK _ _ (gr_alloc hHeld (.cells (dks A.length).toArray 251)) ?_
        clear hK K
        have hHeld := gr_alloc hHeld (.cells (dks A.length).toArray 251)
        have HM5 := Lib.hid (ownD_made v1 A.length hm)
        obtain ⟨v2, hv2⟩ : ∃ v, v1.alloc (.cells (dks A.length).toArray 251) = v := ⟨_, rfl⟩
        have HZ2 := Lib.hid (show v2.heap.size = v1.heap.size + 1 by rw [← hv2]; simp)
        rw [hv2] at hHeld HM5 ⊢
        replace HM8 := Lib.hid (HM8.out.alloc (.cells (dks A.length).toArray 251))
        rw [hv2] at HM8
        clear hv2
        (try simp only [Act.put, List.setIfInBounds_toArray, List.set_cons_zero, List.set_cons_succ])
        refine H_run (k := 11) (by rfl) (by kernel_rfl) (by rfl) (fun K hK => ?_)
        go_simp
        refine hK _ _ (gr_alloc hHeld (.cells (Array.replicate C.length (.bool false)) 4)) ?_
        clear hK K
        have hHeld := gr_alloc hHeld (.cells (Array.replicate C.length (.bool false)) 4)
        have HM11 := Lib.hid (ownB_made v2 C.length (by omega))
        obtain ⟨v3, hv3⟩ : ∃ v, v2.alloc (.cells (Array.replicate C.length (.bool false)) 4) = v := ⟨_, rfl⟩
        have HZ3 := Lib.hid (show v3.heap.size = v2.heap.size + 1 by rw [← hv3]; simp)
        rw [hv3] at hHeld HM11 ⊢
        replace HM8 := Lib.hid (HM8.out.alloc (.cells (Array.replicate C.length (.bool false)) 4))
        rw [hv3] at HM8
        replace HM5 := Lib.hid (HM5.out.alloc (.cells (Array.replicate C.length (.bool false)) 4))
        rw [hv3] at HM5
        clear hv3
        (try simp only [Act.put, List.setIfInBounds_toArray, List.set_cons_zero, List.set_cons_succ])
        refine H_take (k := 12) (v := ?_) (by rfl) (by kernel_rfl) (by kernel_rfl) (by kernel_rfl) (by exact fun _ _ _ h => h) (by rfl) ?_ (by assumption) ?_
        rotate_left 1
        · intro w hSw
          (try dsimp only at hSw)
          go_simp
          (try with_reducible rfl)
        (try simp only [Act.put, List.setIfInBounds_toArray, List.set_cons_zero, List.set_cons_succ])
        refine H_run (k := 13) (by rfl) (by kernel_rfl) (by rfl) (fun K hK => ?_)
        go_simp
        refine hK _ _ (gr_alloc hHeld _) ?_
        clear hK K
        have hHeld := gr_alloc hHeld (.cells #[.int .i64 s.kind, .int .i64 s.age, .int .i64 s.say, .slice aA A.length ac, .slice cA C.length cc, .slice (some ⟨v1.heap.size, 0, none⟩) A.length A.length, .slice none 0 0, .slice (some ⟨v0.heap.size, 0, none⟩) C.length C.length, .slice (some ⟨v2.heap.size, 0, none⟩) C.length C.length, .string ⟨#[]⟩] 215)
        have HBK := Lib.hid (Blk.new v3 215 #[.int .i64 s.kind, .int .i64 s.age, .int .i64 s.say, .slice aA A.length ac, .slice cA C.length cc, .slice (some ⟨v1.heap.size, 0, none⟩) A.length A.length, .slice none 0 0, .slice (some ⟨v0.heap.size, 0, none⟩) C.length C.length, .slice (some ⟨v2.heap.size, 0, none⟩) C.length C.length, .string ⟨#[]⟩])
        replace HM5 := Lib.hid (HM5.out.alloc (.cells #[.int .i64 s.kind, .int .i64 s.age, .int .i64 s.say, .slice aA A.length ac, .slice cA C.length cc, .slice (some ⟨v1.heap.size, 0, none⟩) A.length A.length, .slice none 0 0, .slice (some ⟨v0.heap.size, 0, none⟩) C.length C.length, .slice (some ⟨v2.heap.size, 0, none⟩) C.length C.length, .string ⟨#[]⟩] 215))
        replace HM8 := Lib.hid (HM8.out.alloc (.cells #[.int .i64 s.kind, .int .i64 s.age, .int .i64 s.say, .slice aA A.length ac, .slice cA C.length cc, .slice (some ⟨v1.heap.size, 0, none⟩) A.length A.length, .slice none 0 0, .slice (some ⟨v0.heap.size, 0, none⟩) C.length C.length, .slice (some ⟨v2.heap.size, 0, none⟩) C.length C.length, .string ⟨#[]⟩] 215))
        replace HM11 := Lib.hid (HM11.out.alloc (.cells #[.int .i64 s.kind, .int .i64 s.age, .int .i64 s.say, .slice aA A.length ac, .slice cA C.length cc, .slice (some ⟨v1.heap.size, 0, none⟩) A.length A.length, .slice none 0 0, .slice (some ⟨v0.heap.size, 0, none⟩) C.length C.length, .slice (some ⟨v2.heap.size, 0, none⟩) C.length C.length, .string ⟨#[]⟩] 215))
        obtain ⟨v4, hv4⟩ : ∃ v, v3.alloc (.cells #[.int .i64 s.kind, .int .i64 s.age, .int .i64 s.say, .slice aA A.length ac, .slice cA C.length cc, .slice (some ⟨v1.heap.size, 0, none⟩) A.length A.length, .slice none 0 0, .slice (some ⟨v0.heap.size, 0, none⟩) C.length C.length, .slice (some ⟨v2.heap.size, 0, none⟩) C.length C.length, .string ⟨#[]⟩] 215) = v := ⟨_, rfl⟩
        rw [hv4] at hHeld HBK HM5 HM8 HM11 ⊢
        clear hv4
        (try simp only [Act.put, List.setIfInBounds_toArray, List.set_cons_zero, List.set_cons_succ])
        refine H_take (k := 14) (v := ?_) (by rfl) (by kernel_rfl) (by kernel_rfl) (by kernel_rfl) (by exact fun _ _ _ h => h) (by rfl) ?_ (by assumption) ?_
        rotate_left 1
        · intro w hSw
          (try dsimp only at hSw)
          go_simp
          (try with_reducible rfl)
        (try simp only [Act.put, List.setIfInBounds_toArray, List.set_cons_zero, List.set_cons_succ])
        refine H_done (by kernel_rfl) ?_
        have hzz := HZ0.out
        clear hmd hmb
        go_wp2_with fail
        go_meet
        have e1 := HZ1.out
        have e2 := HZ2.out
        have e3 := HZ3.out
        exact ⟨_, _, _, _, rfl, HBK.out, by omega, HM5.out.lower (by omega), OwnR.nil _ _ _, HM8.out.lower (by omega), HM11.out.lower (by omega), (fun g e e' => by injection e with e; injection e' with e'; dsimp only at e e'; omega), gr_none HG1.out hHeld⟩
      · go_simp
        refine hK _ _ (gr_alloc hHeld (.cells (Array.replicate C.length (.bool false)) 4)) ?_
        clear hK K
        have hHeld := gr_alloc hHeld (.cells (Array.replicate C.length (.bool false)) 4)
        have HM11 := Lib.hid (ownB_made v1 C.length (by omega))
        obtain ⟨v2, hv2⟩ : ∃ v, v1.alloc (.cells (Array.replicate C.length (.bool false)) 4) = v := ⟨_, rfl⟩
        have HZ2 := Lib.hid (show v2.heap.size = v1.heap.size + 1 by rw [← hv2]; simp)
        rw [hv2] at hHeld HM11 ⊢
        replace HM8 := Lib.hid (HM8.out.alloc (.cells (Array.replicate C.length (.bool false)) 4))
        rw [hv2] at HM8
        clear hv2
        (try simp only [Act.put, List.setIfInBounds_toArray, List.set_cons_zero, List.set_cons_succ])
        refine H_run (k := 5) (by rfl) (by kernel_rfl) (by rfl) (fun K hK => ?_)
        go_simp
        refine hK _ _ (gr_alloc hHeld (.cells (dks A.length).toArray 251)) ?_
        clear hK K
        have hHeld := gr_alloc hHeld (.cells (dks A.length).toArray 251)
        have HM5 := Lib.hid (ownD_made v2 A.length hm)
        obtain ⟨v3, hv3⟩ : ∃ v, v2.alloc (.cells (dks A.length).toArray 251) = v := ⟨_, rfl⟩
        have HZ3 := Lib.hid (show v3.heap.size = v2.heap.size + 1 by rw [← hv3]; simp)
        rw [hv3] at hHeld HM5 ⊢
        replace HM8 := Lib.hid (HM8.out.alloc (.cells (dks A.length).toArray 251))
        rw [hv3] at HM8
        replace HM11 := Lib.hid (HM11.out.alloc (.cells (dks A.length).toArray 251))
        rw [hv3] at HM11
        clear hv3
        (try simp only [Act.put, List.setIfInBounds_toArray, List.set_cons_zero, List.set_cons_succ])
        refine H_take (k := 12) (v := ?_) (by rfl) (by kernel_rfl) (by kernel_rfl) (by kernel_rfl) (by exact fun _ _ _ h => h) (by rfl) ?_ (by assumption) ?_
        rotate_left 1
        · intro w hSw
          (try dsimp only at hSw)
          go_simp
          (try with_reducible rfl)
        (try simp only [Act.put, List.setIfInBounds_toArray, List.set_cons_zero, List.set_cons_succ])
        refine H_run (k := 13) (by rfl) (by kernel_rfl) (by rfl) (fun K hK => ?_)
        go_simp
        refine hK _ _ (gr_alloc hHeld _) ?_
        clear hK K
        have hHeld := gr_alloc hHeld (.cells #[.int .i64 s.kind, .int .i64 s.age, .int .i64 s.say, .slice aA A.length ac, .slice cA C.length cc, .slice (some ⟨v2.heap.size, 0, none⟩) A.length A.length, .slice none 0 0, .slice (some ⟨v0.heap.size, 0, none⟩) C.length C.length, .slice (some ⟨v1.heap.size, 0, none⟩) C.length C.length, .string ⟨#[]⟩] 215)
        have HBK := Lib.hid (Blk.new v3 215 #[.int .i64 s.kind, .int .i64 s.age, .int .i64 s.say, .slice aA A.length ac, .slice cA C.length cc, .slice (some ⟨v2.heap.size, 0, none⟩) A.length A.length, .slice none 0 0, .slice (some ⟨v0.heap.size, 0, none⟩) C.length C.length, .slice (some ⟨v1.heap.size, 0, none⟩) C.length C.length, .string ⟨#[]⟩])
        replace HM5 := Lib.hid (HM5.out.alloc (.cells #[.int .i64 s.kind, .int .i64 s.age, .int .i64 s.say, .slice aA A.length ac, .slice cA C.length cc, .slice (some ⟨v2.heap.size, 0, none⟩) A.length A.length, .slice none 0 0, .slice (some ⟨v0.heap.size, 0, none⟩) C.length C.length, .slice (some ⟨v1.heap.size, 0, none⟩) C.length C.length, .string ⟨#[]⟩] 215))
        replace HM8 := Lib.hid (HM8.out.alloc (.cells #[.int .i64 s.kind, .int .i64 s.age, .int .i64 s.say, .slice aA A.length ac, .slice cA C.length cc, .slice (some ⟨v2.heap.size, 0, none⟩) A.length A.length, .slice none 0 0, .slice (some ⟨v0.heap.size, 0, none⟩) C.length C.length, .slice (some ⟨v1.heap.size, 0, none⟩) C.length C.length, .string ⟨#[]⟩] 215))
        replace HM11 := Lib.hid (HM11.out.alloc (.cells #[.int .i64 s.kind, .int .i64 s.age, .int .i64 s.say, .slice aA A.length ac, .slice cA C.length cc, .slice (some ⟨v2.heap.size, 0, none⟩) A.length A.length, .slice none 0 0, .slice (some ⟨v0.heap.size, 0, none⟩) C.length C.length, .slice (some ⟨v1.heap.size, 0, none⟩) C.length C.length, .string ⟨#[]⟩] 215))
        obtain ⟨v4, hv4⟩ : ∃ v, v3.alloc (.cells #[.int .i64 s.kind, .int .i64 s.age, .int .i64 s.say, .slice aA A.length ac, .slice cA C.length cc, .slice (some ⟨v2.heap.size, 0, none⟩) A.length A.length, .slice none 0 0, .slice (some ⟨v0.heap.size, 0, none⟩) C.length C.length, .slice (some ⟨v1.heap.size, 0, none⟩) C.length C.length, .string ⟨#[]⟩] 215) = v := ⟨_, rfl⟩
        rw [hv4] at hHeld HBK HM5 HM8 HM11 ⊢
        clear hv4
        (try simp only [Act.put, List.setIfInBounds_toArray, List.set_cons_zero, List.set_cons_succ])
        refine H_take (k := 14) (v := ?_) (by rfl) (by kernel_rfl) (by kernel_rfl) (by kernel_rfl) (by exact fun _ _ _ h => h) (by rfl) ?_ (by assumption) ?_
        rotate_left 1
        · intro w hSw
          (try dsimp only at hSw)
          go_simp
          (try with_reducible rfl)
        (try simp only [Act.put, List.setIfInBounds_toArray, List.set_cons_zero, List.set_cons_succ])
        refine H_done (by kernel_rfl) ?_
        have hzz := HZ0.out
        clear hmd hmb
        go_wp2_with fail
        go_meet
        have e1 := HZ1.out
        have e2 := HZ2.out
        have e3 := HZ3.out
        exact ⟨_, _, _, _, rfl, HBK.out, by omega, HM5.out.lower (by omega), OwnR.nil _ _ _, HM8.out.lower (by omega), HM11.out.lower (by omega), (fun g e e' => by injection e with e; injection e' with e'; dsimp only at e e'; omega), gr_none HG1.out hHeld⟩
    · go_simp
      refine hK _ _ (gr_alloc hHeld (.cells (Array.replicate C.length (.bool false)) 4)) ?_
      clear hK K
      have hHeld := gr_alloc hHeld (.cells (Array.replicate C.length (.bool false)) 4)
      have HM11 := Lib.hid (ownB_made v0 C.length (by omega))
      obtain ⟨v1, hv1⟩ : ∃ v, v0.alloc (.cells (Array.replicate C.length (.bool false)) 4) = v := ⟨_, rfl⟩
      have HZ1 := Lib.hid (show v1.heap.size = v0.heap.size + 1 by rw [← hv1]; simp)
      rw [hv1] at hHeld HM11 ⊢
      clear hv1
      (try simp only [Act.put, List.setIfInBounds_toArray, List.set_cons_zero, List.set_cons_succ])
      refine H_runTwo (k1 := 5) (k2 := 8) (by rfl) (by rfl) (by kernel_rfl) (by rfl) (by rfl) (fun K hK => ?_) (fun K hK => ?_)
      · go_simp
        refine hK _ _ (gr_alloc hHeld (.cells (dks A.length).toArray 251)) ?_
        clear hK K
        have hHeld := gr_alloc hHeld (.cells (dks A.length).toArray 251)
        have HM5 := Lib.hid (ownD_made v1 A.length hm)
        obtain ⟨v2, hv2⟩ : ∃ v, v1.alloc (.cells (dks A.length).toArray 251) = v := ⟨_, rfl⟩
        have HZ2 := Lib.hid (show v2.heap.size = v1.heap.size + 1 by rw [← hv2]; simp)
        rw [hv2] at hHeld HM5 ⊢
        replace HM11 := Lib.hid (HM11.out.alloc (.cells (dks A.length).toArray 251))
        rw [hv2] at HM11
        clear hv2
        (try simp only [Act.put, List.setIfInBounds_toArray, List.set_cons_zero, List.set_cons_succ])
        refine H_run (k := 8) (by rfl) (by kernel_rfl) (by rfl) (fun K hK => ?_)
        go_simp
        refine hK _ _ (gr_alloc hHeld (.cells (Array.replicate C.length (.bool false)) 4)) ?_
        clear hK K
        have hHeld := gr_alloc hHeld (.cells (Array.replicate C.length (.bool false)) 4)
        have HM8 := Lib.hid (ownB_made v2 C.length (by omega))
        obtain ⟨v3, hv3⟩ : ∃ v, v2.alloc (.cells (Array.replicate C.length (.bool false)) 4) = v := ⟨_, rfl⟩
        have HZ3 := Lib.hid (show v3.heap.size = v2.heap.size + 1 by rw [← hv3]; simp)
        rw [hv3] at hHeld HM8 ⊢
        replace HM11 := Lib.hid (HM11.out.alloc (.cells (Array.replicate C.length (.bool false)) 4))
        rw [hv3] at HM11
        replace HM5 := Lib.hid (HM5.out.alloc (.cells (Array.replicate C.length (.bool false)) 4))
        rw [hv3] at HM5
        clear hv3
        (try simp only [Act.put, List.setIfInBounds_toArray, List.set_cons_zero, List.set_cons_succ])
        refine H_take (k := 12) (v := ?_) (by rfl) (by kernel_rfl) (by kernel_rfl) (by kernel_rfl) (by exact fun _ _ _ h => h) (by rfl) ?_ (by assumption) ?_
        rotate_left 1
        · intro w hSw
          (try dsimp only at hSw)
          go_simp
          (try with_reducible rfl)
        (try simp only [Act.put, List.setIfInBounds_toArray, List.set_cons_zero, List.set_cons_succ])
        refine H_run (k := 13) (by rfl) (by kernel_rfl) (by rfl) (fun K hK => ?_)
        go_simp
        refine hK _ _ (gr_alloc hHeld _) ?_
        clear hK K
        have hHeld := gr_alloc hHeld (.cells #[.int .i64 s.kind, .int .i64 s.age, .int .i64 s.say, .slice aA A.length ac, .slice cA C.length cc, .slice (some ⟨v1.heap.size, 0, none⟩) A.length A.length, .slice none 0 0, .slice (some ⟨v2.heap.size, 0, none⟩) C.length C.length, .slice (some ⟨v0.heap.size, 0, none⟩) C.length C.length, .string ⟨#[]⟩] 215)
        have HBK := Lib.hid (Blk.new v3 215 #[.int .i64 s.kind, .int .i64 s.age, .int .i64 s.say, .slice aA A.length ac, .slice cA C.length cc, .slice (some ⟨v1.heap.size, 0, none⟩) A.length A.length, .slice none 0 0, .slice (some ⟨v2.heap.size, 0, none⟩) C.length C.length, .slice (some ⟨v0.heap.size, 0, none⟩) C.length C.length, .string ⟨#[]⟩])
        replace HM5 := Lib.hid (HM5.out.alloc (.cells #[.int .i64 s.kind, .int .i64 s.age, .int .i64 s.say, .slice aA A.length ac, .slice cA C.length cc, .slice (some ⟨v1.heap.size, 0, none⟩) A.length A.length, .slice none 0 0, .slice (some ⟨v2.heap.size, 0, none⟩) C.length C.length, .slice (some ⟨v0.heap.size, 0, none⟩) C.length C.length, .string ⟨#[]⟩] 215))
        replace HM8 := Lib.hid (HM8.out.alloc (.cells #[.int .i64 s.kind, .int .i64 s.age, .int .i64 s.say, .slice aA A.length ac, .slice cA C.length cc, .slice (some ⟨v1.heap.size, 0, none⟩) A.length A.length, .slice none 0 0, .slice (some ⟨v2.heap.size, 0, none⟩) C.length C.length, .slice (some ⟨v0.heap.size, 0, none⟩) C.length C.length, .string ⟨#[]⟩] 215))
        replace HM11 := Lib.hid (HM11.out.alloc (.cells #[.int .i64 s.kind, .int .i64 s.age, .int .i64 s.say, .slice aA A.length ac, .slice cA C.length cc, .slice (some ⟨v1.heap.size, 0, none⟩) A.length A.length, .slice none 0 0, .slice (some ⟨v2.heap.size, 0, none⟩) C.length C.length, .slice (some ⟨v0.heap.size, 0, none⟩) C.length C.length, .string ⟨#[]⟩] 215))
        obtain ⟨v4, hv4⟩ : ∃ v, v3.alloc (.cells #[.int .i64 s.kind, .int .i64 s.age, .int .i64 s.say, .slice aA A.length ac, .slice cA C.length cc, .slice (some ⟨v1.heap.size, 0, none⟩) A.length A.length, .slice none 0 0, .slice (some ⟨v2.heap.size, 0, none⟩) C.length C.length, .slice (some ⟨v0.heap.size, 0, none⟩) C.length C.length, .string ⟨#[]⟩] 215) = v := ⟨_, rfl⟩
        rw [hv4] at hHeld HBK HM5 HM8 HM11 ⊢
        clear hv4
        (try simp only [Act.put, List.setIfInBounds_toArray, List.set_cons_zero, List.set_cons_succ])
        refine H_take (k := 14) (v := ?_) (by rfl) (by kernel_rfl) (by kernel_rfl) (by kernel_rfl) (by exact fun _ _ _ h => h) (by rfl) ?_ (by assumption) ?_
        rotate_left 1
        · intro w hSw
          (try dsimp only at hSw)
          go_simp
          (try with_reducible rfl)
        (try simp only [Act.put, List.setIfInBounds_toArray, List.set_cons_zero, List.set_cons_succ])
        refine H_done (by kernel_rfl) ?_
        have hzz := HZ0.out
        clear hmd hmb
        go_wp2_with fail
        go_meet
        have e1 := HZ1.out
        have e2 := HZ2.out
        have e3 := HZ3.out
        exact ⟨_, _, _, _, rfl, HBK.out, by omega, HM5.out.lower (by omega), OwnR.nil _ _ _, HM8.out.lower (by omega), HM11.out.lower (by omega), (fun g e e' => by injection e with e; injection e' with e'; dsimp only at e e'; omega), gr_none HG1.out hHeld⟩
      · go_simp
        refine hK _ _ (gr_alloc hHeld (.cells (Array.replicate C.length (.bool false)) 4)) ?_
        clear hK K
        have hHeld := gr_alloc hHeld (.cells (Array.replicate C.length (.bool false)) 4)
        have HM8 := Lib.hid (ownB_made v1 C.length (by omega))
        obtain ⟨v2, hv2⟩ : ∃ v, v1.alloc (.cells (Array.replicate C.length (.bool false)) 4) = v := ⟨_, rfl⟩
        have HZ2 := Lib.hid (show v2.heap.size = v1.heap.size + 1 by rw [← hv2]; simp)
        rw [hv2] at hHeld HM8 ⊢
        replace HM11 := Lib.hid (HM11.out.alloc (.cells (Array.replicate C.length (.bool false)) 4))
        rw [hv2] at HM11
        clear hv2
        (try simp only [Act.put, List.setIfInBounds_toArray, List.set_cons_zero, List.set_cons_succ])
        refine H_run (k := 5) (by rfl) (by kernel_rfl) (by rfl) (fun K hK => ?_)
        go_simp
        refine hK _ _ (gr_alloc hHeld (.cells (dks A.length).toArray 251)) ?_
        clear hK K
        have hHeld := gr_alloc hHeld (.cells (dks A.length).toArray 251)
        have HM5 := Lib.hid (ownD_made v2 A.length hm)
        obtain ⟨v3, hv3⟩ : ∃ v, v2.alloc (.cells (dks A.length).toArray 251) = v := ⟨_, rfl⟩
        have HZ3 := Lib.hid (show v3.heap.size = v2.heap.size + 1 by rw [← hv3]; simp)
        rw [hv3] at hHeld HM5 ⊢
        replace HM11 := Lib.hid (HM11.out.alloc (.cells (dks A.length).toArray 251))
        rw [hv3] at HM11
        replace HM8 := Lib.hid (HM8.out.alloc (.cells (dks A.length).toArray 251))
        rw [hv3] at HM8
        clear hv3
        (try simp only [Act.put, List.setIfInBounds_toArray, List.set_cons_zero, List.set_cons_succ])
        refine H_take (k := 12) (v := ?_) (by rfl) (by kernel_rfl) (by kernel_rfl) (by kernel_rfl) (by exact fun _ _ _ h => h) (by rfl) ?_ (by assumption) ?_
        rotate_left 1
        · intro w hSw
          (try dsimp only at hSw)
          go_simp
          (try with_reducible rfl)
        (try simp only [Act.put, List.setIfInBounds_toArray, List.set_cons_zero, List.set_cons_succ])
        refine H_run (k := 13) (by rfl) (by kernel_rfl) (by rfl) (fun K hK => ?_)
        go_simp
        refine hK _ _ (gr_alloc hHeld _) ?_
        clear hK K
        have hHeld := gr_alloc hHeld (.cells #[.int .i64 s.kind, .int .i64 s.age, .int .i64 s.say, .slice aA A.length ac, .slice cA C.length cc, .slice (some ⟨v2.heap.size, 0, none⟩) A.length A.length, .slice none 0 0, .slice (some ⟨v1.heap.size, 0, none⟩) C.length C.length, .slice (some ⟨v0.heap.size, 0, none⟩) C.length C.length, .string ⟨#[]⟩] 215)
        have HBK := Lib.hid (Blk.new v3 215 #[.int .i64 s.kind, .int .i64 s.age, .int .i64 s.say, .slice aA A.length ac, .slice cA C.length cc, .slice (some ⟨v2.heap.size, 0, none⟩) A.length A.length, .slice none 0 0, .slice (some ⟨v1.heap.size, 0, none⟩) C.length C.length, .slice (some ⟨v0.heap.size, 0, none⟩) C.length C.length, .string ⟨#[]⟩])
        replace HM5 := Lib.hid (HM5.out.alloc (.cells #[.int .i64 s.kind, .int .i64 s.age, .int .i64 s.say, .slice aA A.length ac, .slice cA C.length cc, .slice (some ⟨v2.heap.size, 0, none⟩) A.length A.length, .slice none 0 0, .slice (some ⟨v1.heap.size, 0, none⟩) C.length C.length, .slice (some ⟨v0.heap.size, 0, none⟩) C.length C.length, .string ⟨#[]⟩] 215))
        replace HM8 := Lib.hid (HM8.out.alloc (.cells #[.int .i64 s.kind, .int .i64 s.age, .int .i64 s.say, .slice aA A.length ac, .slice cA C.length cc, .slice (some ⟨v2.heap.size, 0, none⟩) A.length A.length, .slice none 0 0, .slice (some ⟨v1.heap.size, 0, none⟩) C.length C.length, .slice (some ⟨v0.heap.size, 0, none⟩) C.length C.length, .string ⟨#[]⟩] 215))
        replace HM11 := Lib.hid (HM11.out.alloc (.cells #[.int .i64 s.kind, .int .i64 s.age, .int .i64 s.say, .slice aA A.length ac, .slice cA C.length cc, .slice (some ⟨v2.heap.size, 0, none⟩) A.length A.length, .slice none 0 0, .slice (some ⟨v1.heap.size, 0, none⟩) C.length C.length, .slice (some ⟨v0.heap.size, 0, none⟩) C.length C.length, .string ⟨#[]⟩] 215))
        obtain ⟨v4, hv4⟩ : ∃ v, v3.alloc (.cells #[.int .i64 s.kind, .int .i64 s.age, .int .i64 s.say, .slice aA A.length ac, .slice cA C.length cc, .slice (some ⟨v2.heap.size, 0, none⟩) A.length A.length, .slice none 0 0, .slice (some ⟨v1.heap.size, 0, none⟩) C.length C.length, .slice (some ⟨v0.heap.size, 0, none⟩) C.length C.length, .string ⟨#[]⟩] 215) = v := ⟨_, rfl⟩
        rw [hv4] at hHeld HBK HM5 HM8 HM11 ⊢
        clear hv4
        (try simp only [Act.put, List.setIfInBounds_toArray, List.set_cons_zero, List.set_cons_succ])
        refine H_take (k := 14) (v := ?_) (by rfl) (by kernel_rfl) (by kernel_rfl) (by kernel_rfl) (by exact fun _ _ _ h => h) (by rfl) ?_ (by assumption) ?_
        rotate_left 1
        · intro w hSw
          (try dsimp only at hSw)
          go_simp
          (try with_reducible rfl)
        (try simp only [Act.put, List.setIfInBounds_toArray, List.set_cons_zero, List.set_cons_succ])
        refine H_done (by kernel_rfl) ?_
        have hzz := HZ0.out
        clear hmd hmb
        go_wp2_with fail
        go_meet
        have e1 := HZ1.out
        have e2 := HZ2.out
        have e3 := HZ3.out
        exact ⟨_, _, _, _, rfl, HBK.out, by omega, HM5.out.lower (by omega), OwnR.nil _ _ _, HM8.out.lower (by omega), HM11.out.lower (by omega), (fun g e e' => by injection e with e; injection e' with e'; dsimp only at e e'; omega), gr_none HG1.out hHeld⟩
  case rest =>
    clear hmd hmb
    obtain ⟨rb, dA, bA, nA, rfl, hnew⟩ := hcut
    have HN := Lib.hid hnew
    clear hnew
    go_wp2_with fail
    go_loopw [9, 26] (fun _ t26 wr => ∃ (k : Nat) (sA : Option Addr) (sc : Nat), t26 = .int .i64 k ∧ k ≤ C.length ∧ NewAt w wr rb s aA ac cA cc dA bA nA sA k sc A C) (fun _ t26 _ => C.length - (intOf t26).toNat)
    case atStart => exact ⟨0, none, 0, rfl, Nat.zero_le _, HN.out⟩
    case round =>
      clear HN
      obtain ⟨k, sA, sc, rfl, hk, hna⟩ := hrel
      have HN := Lib.hid hna
      clear hna
      have zr := HN.out.2.2.2.2.2.2.2.size
      by_cases hlt : k < C.length
      · obtain ⟨c, hc⟩ : ∃ c, C[k]? = some c := ⟨_, List.getElem?_eq_getElem hlt⟩
        obtain ⟨cg, co, c', hcA, _, _, hc', hcc⟩ := (HC.out.1.grown HN.out.2.2.2.2.2.2.2 (fun g e => by cases e)).get CaV.row_len hlt
        obtain rfl : c' = c := by rw [hc] at hc'; injection hc' with e; exact e.symm
        subst hcA
        have HCC := Lib.hid hcc; have HCK := Lib.hid hc
        have hlt2 : (k : Int) < (C.length : Int) := by omega
        obtain ⟨wa, hwa⟩ : ∃ wa, wr.alloc (.cells #[.string c'.id, .string c'.skill, .int .i64 c'.at_, .int .i64 c'.least, .int .i64 c'.prio, .int .i64 c'.pat, .int .i64 c'.talk, .bool c'.back] 49) = wa := ⟨_, rfl⟩
        obtain ⟨xb, hxb⟩ : ∃ xb, wr.heap.size = xb := ⟨_, rfl⟩
        have HXB := Lib.hid (show Blk wa xb 49 #[.string c'.id, .string c'.skill, .int .i64 c'.at_, .int .i64 c'.least, .int .i64 c'.prio, .int .i64 c'.pat, .int .i64 c'.talk, .bool c'.back] by rw [← hwa, ← hxb]; exact Blk.new _ _ _)
        have HGa := Lib.hid (show wr.grownBy wa none by rw [← hwa]; exact gr_alloc (gr_refl _ _) _)
        have HWA := Lib.hid hwa; have HXE := Lib.hid hxb
        clear hwa hxb hc hc' hcc
        go_upto_region 5 with (first
          | (refine wpl_load_at Tryz.caT rfl _ rfl _ rfl [.string c'.id, .string c'.skill, .int .i64 c'.at_, .int .i64 c'.least, .int .i64 c'.prio, .int .i64 c'.pat, .int .i64 c'.talk, .bool c'.back] rfl (fun j u hu => by rw [add_mk]; exact HCC.out j u hu) ?_)
          | fail)
        rw [HWA.out]
        (try rw [HXE.out])
        clear HWA HXE HCC
        obtain ⟨hb0, hl0, hd0, hs0, hb1, hn0, hap, hg0⟩ := HN.out
        have HB0 := Lib.hid (hb0.grown HGa.out (by simp))
        have HD0 := Lib.hid (hd0.kept HGa.out (fun g e => by cases e))
        have HS0 := Lib.hid (hs0.kept HGa.out (fun g e => by cases e))
        have HB1 := Lib.hid (hb1.kept HGa.out (fun g e => by cases e))
        have HN0 := Lib.hid (hn0.kept HGa.out (fun g e => by cases e))
        have HAP := Lib.hid hap
        have HG0 := Lib.hid (gr_none hg0 HGa.out)
        clear hb0 hd0 hs0 hb1 hn0 hap hg0 HGa HN
        refine wp_region_B (fun w' => wa.grownBy w' none) 9 (by kernel_rfl) ?_
        have hHeld : wa.grownBy wa.drew none := gr_drew (gr_refl _ _)
        obtain ⟨v0, hv0⟩ : ∃ v, wa.drew = v := ⟨_, rfl⟩
        rw [hv0] at hHeld ⊢
        clear hv0
        refine B_take (k := 0) false (v := ?_) (by rfl) (by kernel_rfl) (by exact fun _ _ _ h => h) (by rfl) ?_ (by first | exact .inr hHeld | exact .inl (by rfl)) ?_
        rotate_left 1
        · intro w hSw
          clear hSw
          go_simp
          (try with_reducible rfl)
        (try simp only [Act.put, List.setIfInBounds_toArray, List.set_cons_zero, List.set_cons_succ])
        refine B_take (k := 1) false (v := ?_) (by rfl) (by kernel_rfl) (by exact fun _ _ _ h => h) (by rfl) ?_ (by first | exact .inr hHeld | exact .inl (by rfl)) ?_
        rotate_left 1
        · intro w hSw
          clear hSw
          go_simp
          (try with_reducible rfl)
        (try simp only [Act.put, List.setIfInBounds_toArray, List.set_cons_zero, List.set_cons_succ])
        refine B_take (k := 2) false (v := ?_) (by rfl) (by kernel_rfl) (by exact fun _ _ _ h => h) (by rfl) ?_ (by first | exact .inr hHeld | exact .inl (by rfl)) ?_
        rotate_left 1
        · intro w hSw
          clear hSw
          go_simp
          (try with_reducible rfl)
        (try simp only [Act.put, List.setIfInBounds_toArray, List.set_cons_zero, List.set_cons_succ])
        refine B_take (k := 3) false (v := ?_) (by rfl) (by kernel_rfl) (by exact fun _ _ _ h => h) (by rfl) ?_ (by first | exact .inr hHeld | exact .inl (by rfl)) ?_
        rotate_left 1
        · intro w hSw
          clear hSw
          go_simp
          (try with_reducible rfl)
        (try simp only [Act.put, List.setIfInBounds_toArray, List.set_cons_zero, List.set_cons_succ])
        refine B_take (k := 4) true (v := ?_) (by rfl) (by kernel_rfl) (by exact fun _ _ _ h => h) (by rfl) ?_ (.inr hHeld) ?_
        rotate_left 1
        · intro w' hSw
          have kc := (HB0.out.grown hSw (by simp)).cell 6
          go_simp
          (try with_reducible rfl)
        (try simp only [Act.put, List.setIfInBounds_toArray, List.set_cons_zero, List.set_cons_succ])
        refine B_take (k := 5) false (v := ?_) (by rfl) (by kernel_rfl) (by exact fun _ _ _ h => h) (by rfl) ?_ (by first | exact .inr hHeld | exact .inl (by rfl)) ?_
        rotate_left 1
        · intro w hSw
          clear hSw
          go_simp
          (try with_reducible rfl)
        (try simp only [Act.put, List.setIfInBounds_toArray, List.set_cons_zero, List.set_cons_succ])
        refine B_take (k := 6) true (v := ?_) (by rfl) (by kernel_rfl) (by exact fun _ _ _ h => h) (by rfl) ?_ (.inr hHeld) ?_
        rotate_left 1
        · intro w' hSw
          have kc := (HXB.out.grown hSw (by simp)).cell 0
          go_simp
          (try with_reducible rfl)
        (try simp only [Act.put, List.setIfInBounds_toArray, List.set_cons_zero, List.set_cons_succ])
        refine B_take (k := 7) false (v := ?_) (by rfl) (by kernel_rfl) (by exact fun _ _ _ h => h) (by rfl) ?_ (by first | exact .inr hHeld | exact .inl (by rfl)) ?_
        rotate_left 1
        · intro w hSw
          clear hSw
          go_simp
          (try with_reducible rfl)
        (try simp only [Act.put, List.setIfInBounds_toArray, List.set_cons_zero, List.set_cons_succ])
        refine B_run (k := 8) (by rfl) (by kernel_rfl) (by rfl) (fun K hK => ?_)
        go_simp
        refine hK _ _ (.inr (gr_alloc hHeld (.cells #[.string c'.id, .string ⟨#[]⟩, .int .i64 4, .int .i64 0, .int .i64 0] 58))) ?_
        clear hK K
        have hHeld := gr_alloc hHeld (.cells #[.string c'.id, .string ⟨#[]⟩, .int .i64 4, .int .i64 0, .int .i64 0] 58)
        have HRD := Lib.hid (reads_at v0 58 [.string c'.id, .string ⟨#[]⟩, .int .i64 4, .int .i64 0, .int .i64 0] 5 rfl rfl)
        obtain ⟨v1, hv1⟩ : ∃ v, v0.alloc (.cells #[.string c'.id, .string ⟨#[]⟩, .int .i64 4, .int .i64 0, .int .i64 0] 58) = v := ⟨_, rfl⟩
        rw [hv1] at hHeld ⊢
        have HRD2 := Lib.hid (show Reads v1 v0.heap.size 5 (some ⟨v0.heap.size, 0, none⟩) 1 1 [.string c'.id, .string ⟨#[]⟩, .int .i64 4, .int .i64 0, .int .i64 0] by rw [← hv1]; exact HRD.out)
        clear hv1 HRD
        (try simp only [Act.put, List.setIfInBounds_toArray, List.set_cons_zero, List.set_cons_succ])
        have HGv := Lib.hid hHeld
        refine B_run (k := 9) (by rfl) (by kernel_rfl) (by rfl) (fun K hK => ?_)
        refine wp_app _ _ _ Tryz.sesT (by rfl) w.heap.size sA k sc (((C.take k).map fun c => (⟨c.id, ⟨#[]⟩, 4, 0, 0⟩ : SeV)).flatMap SeV.row) (by rfl) (by exact (HS0.out.kept HGv.out (fun g e => by cases e)).1) _ _ 1 1 [.string c'.id, .string ⟨#[]⟩, .int .i64 4, .int .i64 0, .int .i64 0] (by rfl) (by exact HRD2.out) (by simp [Value.oneCell']) (by unfold maxLen; omega) (by omega) (by have := HG0.out.size; have := HGv.out.size; omega) ?_
        intro A8 c8 w8 h8
        have HB8 := Lib.hid ((HB0.out.grown HGv.out (by simp)).grown h8.2.1 (Ne.symm ((HS0.out.kept HGv.out (fun g e => by cases e)).1.blk_ne (HB0.out.grown HGv.out (by simp)) (by decide))))
        have HD8 := Lib.hid ((HD0.out.kept HGv.out (fun g e => by cases e)).kept h8.2.1 (fun g e => Own.ne (HS0.out.kept HGv.out (fun g e => by cases e)).1 (HD0.out.kept HGv.out (fun g e => by cases e)).1 (by decide) e))
        have HB18 := Lib.hid ((HB1.out.kept HGv.out (fun g e => by cases e)).kept h8.2.1 (fun g e => Own.ne (HS0.out.kept HGv.out (fun g e => by cases e)).1 (HB1.out.kept HGv.out (fun g e => by cases e)).1 (by decide) e))
        have HN8 := Lib.hid ((HN0.out.kept HGv.out (fun g e => by cases e)).kept h8.2.1 (fun g e => Own.ne (HS0.out.kept HGv.out (fun g e => by cases e)).1 (HN0.out.kept HGv.out (fun g e => by cases e)).1 (by decide) e))
        have HS8 := Lib.hid (show OwnR SeV.row 5 w8 w.heap.size 58 A8 (k + 1) c8 ((C.take (k + 1)).map fun c => ⟨c.id, ⟨#[]⟩, 4, 0, 0⟩) from by
          rw [take_snoc' HCK.out, List.map_append]
          exact (HS0.out.kept HGv.out (fun g e => by cases e)).app rfl h8)
        have HG8 := Lib.hid (show w.grownBy w8 none from gr_own (lo := w.heap.size) (gr_none HG0.out HGv.out) (HS0.out.kept HGv.out (fun g e => by cases e)).1 (Nat.le_refl _) h8.2.1)
        refine hK _ _ (.inl (by rfl)) ?_
        clear hK K hHeld h8 HGv HRD2 HB0 HD0 HB1 HN0 HS0 HG0 HXB
        (try simp only [Act.put, List.setIfInBounds_toArray, List.set_cons_zero, List.set_cons_succ])
        refine B_take (k := 10) false (v := ?_) (by rfl) (by kernel_rfl) (by exact fun _ _ _ h => h) (by rfl) ?_ (by first | exact .inr hHeld | exact .inl (by rfl)) ?_
        rotate_left 1
        · intro w hSw
          clear hSw
          go_simp
          (try with_reducible rfl)
        (try simp only [Act.put, List.setIfInBounds_toArray, List.set_cons_zero, List.set_cons_succ])
        refine B_take (k := 11) false (v := ?_) (by rfl) (by kernel_rfl) (by exact fun _ _ _ h => h) (by rfl) ?_ (by first | exact .inr hHeld | exact .inl (by rfl)) ?_
        rotate_left 1
        · intro w hSw
          clear hSw
          go_simp
          (try with_reducible rfl)
        (try simp only [Act.put, List.setIfInBounds_toArray, List.set_cons_zero, List.set_cons_succ])
        refine B_run (k := 12) (by rfl) (by kernel_rfl) (by rfl) (fun K hK => ?_)
        refine wp_store_cell (by kernel_rfl) _ _ rfl rb 6 rfl (.slice A8 (k + 1) c8) rfl rfl rfl _ (HB8.out.cell 6) (HB8.out.frozen 6) ?_
        refine hK _ _ (.inl (by rfl)) ?_
        clear hK K
        (try simp only [Act.put, List.setIfInBounds_toArray, List.set_cons_zero, List.set_cons_succ])
        refine B_done (by kernel_rfl) ?_
        have hgs : w8.grownBy (w8.setCell ⟨rb, 6, none⟩ (.slice A8 (k + 1) c8)) (some rb) := gr_setCell (gr_refl _ _) (.inl rfl) _
        have HNEW := Lib.hid (show NewAt w (w8.setCell ⟨rb, 6, none⟩ (.slice A8 (k + 1) c8)) rb s aA ac (some ⟨cg, co, none⟩) cc dA bA nA A8 (k + 1) c8 A C from
          ⟨HB8.out.set_ 6 _, hl0, HD8.out.kept hgs (fun g e => by injection e with e; subst e; exact HD8.out.1.blk_ne HB8.out (by decide)), HS8.out.kept hgs (fun g e => by injection e with e; subst e; exact HS8.out.1.blk_ne HB8.out (by decide)),
            HB18.out.kept hgs (fun g e => by injection e with e; subst e; exact HB18.out.1.blk_ne HB8.out (by decide)), HN8.out.kept hgs (fun g e => by injection e with e; subst e; exact HN8.out.1.blk_ne HB8.out (by decide)), HAP.out, gr_setCell HG8.out (.inr hl0) _⟩)
        clear hgs
        go_simp
        go_wp2_with fail
        go_roundw
        case rel => exact ⟨k + 1, A8, c8, by go_num, by omega, HNEW.out⟩
        case measure => simp [intOf]; omega
      · obtain rfl : k = C.length := by omega
        obtain ⟨hb0, hl0, hd0, hs0, hb1, hn0, hap, hg0⟩ := HN.out
        have HR := Lib.hid (show Rm w wr ⟨rb, aA, ac, cA, cc, dA, A.length, sA, sc, bA, C.length, nA, C.length⟩ s A C (newR A C) from
          ⟨hg0, ⟨⟨hb0, hl0⟩, hd0, by rw [List.take_of_length_le (Nat.le_refl _)] at hs0; exact hs0, hb1, hn0, hap⟩, HA.out, HC.out, hm, hn, RoOk.new (fun c hc => (HCNN.out c hc).2), HAN.out, HCNN.out, hag⟩)
        clear hb0 hd0 hs0 hb1 hn0 hap hg0
        go_wp2_with fail
        go_ret
        exact ⟨_, rfl, HR.out⟩
set_option maxHeartbeats 8000000 in
set_option maxRecDepth 100000 in
theorem playOf_any (s : StyV) (aA : Option Addr) (ac : Nat) (A : List AgV) (cA : Option Addr) (cc : Nat) (C : List CaV) (w : World) (hA : Ags w 0 aA A.length ac A) (hC : Cas w 0 cA C.length cc C) (hm : A.length ≤ 1000) (hn : C.length ≤ 19) (hAn : ∀ a ∈ A, AgN a ∧ a.key.size ≤ 1000) (hCn : ∀ c ∈ C, CaN c ∧ CaOk c) (hag : 0 ≤ s.age) (hk1 : 1 ≤ s.kind) (hk4 : s.kind ≤ 4) :
    Calls Tryz.prog 53 #[.agg #[.int .i64 s.kind, .int .i64 s.age, .int .i64 s.say], .slice aA A.length ac, .slice cA C.length cc] w (fun e w' => ∃ A' c', e = .returned (.slice A' C.length c') ∧ OwnR SeV.row 5 w' w.heap.size 58 A' C.length c' (playOf s A C).se ∧ w.grownBy w' none ∧ RoOk A C (playOf s A C)) := by
  obtain ⟨w1, hw1⟩ : ∃ w1, w.alloc (.cells #[.int .i64 s.kind, .int .i64 s.age, .int .i64 s.say] 56) = w1 := ⟨_, rfl⟩
  have HS1 := Lib.hid (show Blk w1 w.heap.size 56 #[.int .i64 s.kind, .int .i64 s.age, .int .i64 s.say] by rw [← hw1]; exact Blk.new _ _ _)
  have HG1 := Lib.hid (show w.grownBy w1 none by rw [← hw1]; exact gr_alloc (gr_refl _ _) _)
  have HW1 := Lib.hid hw1
  have HA := Lib.hid (hA.grown HG1.out (fun g e => by cases e)); have HC := Lib.hid (hC.grown HG1.out (fun g e => by cases e)); have HAN := Lib.hid hAn; have HCNN := Lib.hid hCn
  obtain ⟨T, hT⟩ : ∃ T, playOf s A C = T := ⟨_, rfl⟩
  have HT := Lib.hid (show playR s A C 345859200002 (newR A C) (-1) = T from hT)
  have HK1 := Lib.hid hk1; have HK4 := Lib.hid hk4
  rw [hT]
  clear hw1 hA hC hAn hCn hT hk1 hk4
  go_enter Tryz.func53, Tryz.ntmps53
  go_upto_region 1 with (fail)
  rw [HW1.out]
  clear HW1
  go_wp2_with (first
    | (refine wpl_load_all Tryz.syT rfl _ rfl _ rfl _ _ HS1.out rfl ?_)
    | fail)
  refine (newRoom_any s aA ac A cA cc C _ HA.out HC.out hm hn HAN.out HCNN.out hag).mono ?_
  rintro e w2 ⟨R, rfl, hrm⟩
  have HRM := Lib.hid hrm
  clear hrm
  go_wp2_with fail
  go_loopw [8, 9] (fun v8 _ wr => ∃ (at_ : Int) (st' : RoS) (f : Nat), v8 = .int .i64 at_ ∧ Rm w1 wr R s A C st' ∧ DsB st'.ds ∧ playR s A C f st' at_ = T ∧ 345859200000 - at_ < f ∧ -1 ≤ at_ ∧ at_ ≤ 345859200000) (fun v8 _ _ => (345859200001 - intOf v8).toNat)
  case atStart => exact ⟨-1, newR A C, 345859200002, rfl, HRM.out, (fun d hd => by rw [List.eq_of_mem_replicate hd]; decide), HT.out, by omega, by omega, by omega⟩
  case round =>
    clear HRM HT
    obtain ⟨at_, st', f, rfl, hrm, hds, hpl, hf, a0, a1⟩ := hrel
    have HRM := Lib.hid hrm; have HDS := Lib.hid hds; have HPL := Lib.hid hpl; have HF := Lib.hid hf
    clear hrm hds hpl hf
    go_wp2_with fail
    refine (times_any w1 R s A C st' at_ _ HRM.out).mono ?_
    rintro e w3 ⟨B, m, cB, rfl, ho3, hg3, hm8⟩
    have HO := Lib.hid ho3
    replace HRM := Lib.hid (HRM.out.kept hg3)
    clear ho3 hg3
    rcases Nat.eq_zero_or_pos m with rfl | hmp
    · have HN := Lib.hid (show st' = T by
        rw [← HPL.out]
        refine (playR_none ?_).symm
        rw [List.eq_nil_of_length_eq_zero (HO.out.2)]; rfl)
      have k6 := HRM.out.at_.blk.cell 6
      go_wp2_with fail
      go_ret
      refine ⟨R.sA, R.sc, rfl, ?_, gr_none HG1.out HRM.out.g, ?_⟩
      · rw [← HN.out]; exact HRM.out.at_.2.2.1.lower (by have := HG1.out.size; omega)
      · rw [← HN.out]; exact HRM.out.ok
    · obtain ⟨g, rfl, _, _⟩ := HO.out.1.pos hmp
      obtain ⟨t, ht⟩ : ∃ t, (nextsR A C st'.ds at_)[0]? = some t := ⟨_, List.getElem?_eq_getElem (by rw [HO.out.2]; exact hmp)⟩
      obtain ⟨htm, hta⟩ := nextsR_mem.1 (mem_of_get ht)
      obtain ⟨t0, t1⟩ := timesR_bd HRM.out.ok HDS.out HCNN.out HAN.out t htm
      have kx := HO.out.recs.at_ nrow_len ht 0 _ rfl
      simp only [Nat.zero_mul, Nat.add_zero] at kx
      have hm1 : ((m : Int) == 0) = false := by rw [beq_eq_false_iff_ne]; omega
      have hm2 : (0 : Int) < (m : Int) := by omega
      obtain ⟨f', rfl⟩ : ∃ f', f = f' + 1 := ⟨f - 1, by have := HF.out; omega⟩
      have HPL2 := Lib.hid (show playR s A C f' (stepR s A C st' t) t = T by rw [← HPL.out, playR_some ht])
      have hso := stepR_ok (s := s) HRM.out.ok HDS.out HCNN.out HAN.out t0 (by omega)
      have HSO := Lib.hid hso.2
      clear ht htm hso
      go_upto_region 7 with (fail)
      clear kx hm1 hm2
      go_wp2_with fail
      refine (step_any w1 R s A C st' t _ HRM.out HK1.out HK4.out t0 (by omega)).mono ?_
      rintro e w4 ⟨rfl, hrm4⟩
      have HRM4 := Lib.hid hrm4
      clear hrm4
      go_wp2_with fail
      go_roundw
      case rel => exact ⟨t, stepR s A C st' t, f', rfl, HRM4.out, HSO.out, HPL2.out, by have := HF.out; omega, t0, t1⟩
      case measure => simp [intOf]; omega
end Go.Proofs.YtnmodobkennklaaGreatDoor

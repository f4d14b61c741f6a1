/- RightForwards gives right forwards. Conditions: none. -/
import Derived.Test.YtfakdalpaopjaaaGreatDoorCfR
import Derived.Test.YtfakdalpaopjaaaGreatDoorGenFw
import Derived.Test.YtfakdalpaopjaaaGreatDoorBun1
import Derived.Test.YtfakdalpaopjaaaGreatDoorGenHouS
namespace Go.Proofs.YtfakdalpaopjaaaGreatDoor
open Go.Shelf Go.RowKit Go.Lib Go.Sort

theorem tidy_fin {l l2 l3 : List FwV} (hp : l2.Perm l) (ha : Asc tkCmp l2) (hs : l3.Sublist l2) (hn : NoTk l3 l3.length) : (∀ f ∈ l3, f ∈ l) ∧ ∀ (p : Nat) (x y : FwV), l3[p]? = some x → l3[p + 1]? = some y → tkCmp x y < 0 := by
  refine ⟨fun f hf => hp.mem_iff.1 (hs.subset hf), fun p x y hx hy => ?_⟩
  have ha3 : Asc tkCmp l3 := List.Pairwise.sublist hs ha
  obtain ⟨k1, e1⟩ := List.getElem?_eq_some_iff.1 hx
  obtain ⟨k2, e2⟩ := List.getElem?_eq_some_iff.1 hy
  have h1 := List.pairwise_iff_getElem.1 ha3 p (p + 1) k1 k2 (by omega)
  rw [e1, e2] at h1
  have h2 := hn p x y k2 hx hy
  unfold tkCmp at h1 ⊢
  have h3 := cmpS_neg (tkS x) (tkS y)
  have h4 : cmpS (tkS x) (tkS y) ≠ 0 := fun e => h2 (cmpS_zero.1 e)
  omega
def LnQ (s : ByteArray) : Prop := s = ⟨#[108, 97]⟩ ∨ s = ⟨#[108, 98]⟩ ∨ s = ⟨#[108, 99]⟩ ∨ s = ⟨#[108, 100]⟩
def ToQ (s : ByteArray) : Prop := s = ⟨#[108, 97]⟩ ∨ s = ⟨#[108, 98]⟩ ∨ s = ⟨#[108, 99]⟩ ∨ s = ⟨#[108, 100]⟩ ∨ s = ⟨#[108, 101]⟩
def HrQ (s : ByteArray) : Prop := s = ⟨#[]⟩ ∨ s = ⟨#[104, 97]⟩
instance (s : ByteArray) : Decidable (LnQ s) := by unfold LnQ; infer_instance
instance (s : ByteArray) : Decidable (ToQ s) := by unfold ToQ; infer_instance
instance (s : ByteArray) : Decidable (HrQ s) := by unfold HrQ; infer_instance
theorem LnQ.size {s : ByteArray} (h : LnQ s) : s.size ≤ 2 := by rcases h with rfl | rfl | rfl | rfl <;> decide
theorem ToQ.size {s : ByteArray} (h : ToQ s) : s.size ≤ 2 := by rcases h with rfl | rfl | rfl | rfl | rfl <;> decide
theorem HrQ.size {s : ByteArray} (h : HrQ s) : s.size ≤ 2 := by rcases h with rfl | rfl <;> decide
/-- A forward that the generator makes. -/
structure FwG (f : FwV) : Prop where
  ln : LnQ f.line
  to_ : ToQ f.to_
  hr : HrQ f.hrs
  lo : 1 ≤ f.when_
  hi : f.when_ ≤ 3
  ne : (f.line.toList == f.to_.toList) = false
structure FwsG (l : List FwV) : Prop where
  all : ∀ f ∈ l, FwG f
  inc : ∀ (p : Nat) (x y : FwV), l[p]? = some x → l[p + 1]? = some y → tkCmp x y < 0
  len : l.length ≤ 1000
def lnL : List ByteArray := [⟨#[108, 97]⟩, ⟨#[108, 98]⟩, ⟨#[108, 99]⟩, ⟨#[108, 100]⟩]
def hrL : List ByteArray := [⟨#[]⟩, ⟨#[104, 97]⟩]
def whL : List Int := [1, 2, 3]
def fwAll : List FwV := lnL.flatMap fun a => whL.flatMap fun b => hrL.map fun c => ⟨a, b, ⟨#[]⟩, c⟩
theorem fw_ord : (fwAll.all fun x => fwAll.all fun y => !decide (tkCmp x y < 0) || decide (fwCmp x y < 0)) = true := by decide +kernel
theorem FwG.in_ {f : FwV} (h : FwG f) : (⟨f.line, f.when_, ⟨#[]⟩, f.hrs⟩ : FwV) ∈ fwAll := by
  have h1 : f.line ∈ lnL := by unfold lnL; simpa [LnQ] using h.ln
  have h2 : f.hrs ∈ hrL := by unfold hrL; simpa [HrQ] using h.hr
  have h3 : f.when_ ∈ whL := by
    have := h.lo; have := h.hi
    unfold whL
    simp only [List.mem_cons, List.not_mem_nil, or_false]
    omega
  unfold fwAll
  exact List.mem_flatMap.2 ⟨_, h1, List.mem_flatMap.2 ⟨_, h3, List.mem_map.2 ⟨_, h2, rfl⟩⟩⟩
theorem FwG.lt {x y : FwV} (hx : FwG x) (hy : FwG y) (h : tkCmp x y < 0) : fwCmp x y < 0 := by
  have h1 := List.all_eq_true.1 (List.all_eq_true.1 fw_ord _ hx.in_) _ hy.in_
  have h2 : tkCmp ⟨x.line, x.when_, ⟨#[]⟩, x.hrs⟩ ⟨y.line, y.when_, ⟨#[]⟩, y.hrs⟩ < 0 := h
  rw [decide_eq_true h2] at h1
  have h3 : fwCmp ⟨x.line, x.when_, ⟨#[]⟩, x.hrs⟩ ⟨y.line, y.when_, ⟨#[]⟩, y.hrs⟩ < 0 := by simpa using h1
  exact h3
theorem FwG.f {hs : List HrV} (hk : hs.map (·.key) = (List.range 2).map hkN) {f : FwV} (h : FwG f) : fwF hs f = 0 := by
  have h1 : keyOk (nb f.line) = true := by rcases h.ln with e | e | e | e <;> rw [e] <;> decide +kernel
  have h2 : keyOk (nb f.to_) = true := by rcases h.to_ with e | e | e | e | e <;> rw [e] <;> decide +kernel
  have h3 : inB f.when_ 1 3 = true := by
    have := h.lo; have := h.hi
    unfold inB; simp only [Bool.and_eq_true, decide_eq_true_eq]; omega
  have h4 : hrsOk hs f.hrs = true := hrs_ha hk (by
    rcases h.hr with e | e
    · left; rw [e]; decide +kernel
    · exact .inr e)
  refine fwF_0 (by rw [h1, h2]; rfl) h3 h4 ?_
  rw [beq_eq_false_iff_ne]
  intro e
  have h5 := h.ne
  rw [nb_inj e] at h5
  simp at h5
theorem FwsG.e {hs : List HrV} (hk : hs.map (·.key) = (List.range 2).map hkN) {l : List FwV} (h : FwsG l) : fwE hs l = 0 := by
  unfold fwE
  rw [if_neg (by have := h.len; omega)]
  refine fstE_nil _ fun i hi => ?_
  have hx : l[i]? = some l[i] := List.getElem?_eq_getElem hi
  have hf := (h.all _ (List.getElem_mem hi)).f hk
  by_cases h0 : 0 < i
  · have hi1 : i - 1 < l.length := by omega
    have hb : l[i - 1]? = some l[i - 1] := List.getElem?_eq_getElem hi1
    have h1 := h.inc (i - 1) _ _ hb (by rw [show i - 1 + 1 = i by omega]; exact hx)
    have h2 := (h.all _ (List.getElem_mem hi1)).lt (h.all _ (List.getElem_mem hi)) h1
    exact fwAt_e hx hf hb (by omega)
  · exact fwAt_z hx hf h0
/-- No forward is of the line le. -/
theorem FwsG.le {l : List FwV} (h : FwsG l) : ∀ f ∈ l, nb f.line ≠ nb ⟨#[108, 101]⟩ := fun f hf => by
  rcases (h.all f hf).ln with e | e | e | e <;> rw [e] <;> decide +kernel
set_option maxHeartbeats 4000000 in
theorem tidyR_any (lo : Nat) (A : Option Addr) (n c : Nat) (l : List FwV) (w : World) (h : OwnFw w lo A n c l) (hn : n ≤ 19) :
    Calls Tryz.prog 36 #[.slice A n c] w (fun e w' => ∃ m l', e = .returned (.slice A m c) ∧ OwnFw w' lo A m c l' ∧ w.grownBy w' (blkOf A) ∧ m ≤ n ∧ (∀ f ∈ l', f ∈ l) ∧ ∀ (p : Nat) (x y : FwV), l'[p]? = some x → l'[p + 1]? = some y → tkCmp x y < 0) := by
  have H := Lib.hid h; clear h
  obtain ⟨tb, htb⟩ : ∃ b, w.heap.size = b := ⟨_, rfl⟩
  obtain ⟨w1, hw1⟩ : ∃ v, w.alloc (.cells #[.func (.func 72) #[] #[]] 160) = v := ⟨_, rfl⟩
  have HKT := Lib.hid (show Blk w1 tb 160 #[.func (.func 72) #[] #[]] by rw [← hw1, ← htb]; exact Blk.new _ _ _)
  have hg1 : w.grownBy w1 none := by rw [← hw1]; exact gr_alloc (gr_refl _ _) _
  have HTN := Lib.hid (show ∀ g, blkOf A = some g → g ≠ tb from fun g e => by have := (H.out.1.1.lt e).2; omega)
  have H1 := Lib.hid (show OwnFw w1 lo A n c l from ⟨H.out.1.kept hg1 (fun g e => by cases e), H.out.2⟩)
  have HG1 := Lib.hid hg1
  have HW1 := Lib.hid hw1; have HTB := Lib.hid htb
  clear hg1 hw1 htb
  go_enter Tryz.func36, Tryz.ntmps36
  go_upto_region 2 with (fail)
  rw [HW1.out]
  (try rw [HTB.out])
  clear HW1 HTB
  go_wp2_with fail
  refine (sortStableFR_any lo A n c l _ H1.out hn tb HKT.out HTN.out).mono ?_
  rintro e w2 ⟨rfl, l2, hown2, hg2, hperm, hasc⟩
  have HO2 := Lib.hid hown2; have HG2 := Lib.hid hg2
  have HK2 := Lib.hid (HKT.out.grown hg2 (fun e => HTN.out tb e.symm rfl))
  clear hown2 hg2
  go_wp2_with fail
  refine (compactFR_any lo A n c l2 _ HO2.out (by omega) tb HK2.out HTN.out).mono ?_
  rintro e w3 ⟨m, l3, rfl, hown3, hg3, hmn, hsub, hno⟩
  have HFI := Lib.hid (tidy_fin hperm hasc hsub hno); clear hperm hasc hsub hno
  have HO3 := Lib.hid hown3
  have HG3 := Lib.hid (show w.grownBy w3 (blkOf A) from gr_same (gr_same (gr_none (gr_refl _ _) HG1.out) HG2.out) hg3)
  clear hown3 hg3
  go_wp2_with fail
  go_ret
  exact ⟨m, l3, rfl, HO3.out, HG3.out, hmn, HFI.out⟩
/-- Right forwards. -/
def IsFwR (lo k : Nat) (v : Value) (w : World) : Prop := ∃ A n c l, v = .slice A n c ∧ OwnFw w lo A n c l ∧ n ≤ k ∧ FwsG l
set_option maxHeartbeats 8000000 in
set_option maxRecDepth 100000 in
theorem rightForwardsR_any (sb : Nat) (m : Int) (w : World) (hs : Str w sb m) (hm : m ≤ 1000000000) : Calls Tryz.prog 12 #[.pointer (some ⟨sb, 0, none⟩)] w (Drawn sb (m + 40) (IsFwR w.heap.size 7) w) := by
  have hlt := hs.lt
  have HS0 := Lib.hid hs; clear hs
  go_enter Tryz.func12, Tryz.ntmps12
  go_wp2_with fail
  refine (range_any sb _ 0 7 _ HS0.out (by omega) (by omega) (by omega) (by omega)).mono ?_
  rintro e w1 ⟨v1, rfl, ⟨r1, hlo1, hhi1, rfl⟩, hs1, hg1⟩
  obtain ⟨N, rfl⟩ : ∃ N : Nat, r1 = N := ⟨r1.toNat, by omega⟩
  have HS1 := Lib.hid hs1; have HG1 := Lib.hid hg1
  clear hs1 hg1
  go_wp2_with fail
  go_loopw [3, 4, 7] (fun v3 _ t7 wr => ∃ (i n c : Nat) (A : Option Addr) (l : List FwV), i ≤ N ∧ t7 = .int .i64 i ∧ v3 = .slice A n c ∧ n ≤ i ∧ Str wr sb (m + 1 + 4 * i) ∧ w.grownBy wr (some sb) ∧ OwnFw wr w.heap.size A n c l ∧ ∀ f ∈ l, FwG f) (fun _ _ t7 _ => N - (intOf t7).toNat)
  case atStart => exact ⟨0, 0, 0, none, [], Nat.zero_le _, rfl, rfl, Nat.le_refl _, HS1.out.mono (by omega), HG1.out, ⟨OwnR.nil _ _ _, fun r hr => by cases hr⟩, fun r hr => by cases hr⟩
  case round =>
    obtain ⟨i, n, c, A, l, hi, rfl, rfl, hni, hs, hg, hown, hfg⟩ := hrel
    have HS := Lib.hid hs; have HG := Lib.hid hg; have HO := Lib.hid hown; have HFG := Lib.hid hfg; clear hfg
    have zr := hg.size
    clear hs hg hown
    by_cases hlt2 : i < N
    · have d1 : decide ((i : Int) < (N : Int)) = true := decide_eq_true (by omega)
      have d1' : decide (i < N) = true := decide_eq_true hlt2
      go_wp2_with fail
      refine (some_newQ (n := 5) LnQ sb _ _ HS.out (by omega) rfl (by
        repeat (first | exact StrsQ.nil _ | refine StrsQ.cons (by decide +kernel) ?_)) rfl (by omega) (by omega)).mono ?_
      rintro e w2 ⟨v2, rfl, ⟨y2, rfl, hq2⟩, hs2, hg2⟩
      have HQ2 := Lib.hid hq2; have hy2 := hq2.size; clear hq2
      have z2 := hg2.size; (try simp at z2)
      replace HO := Lib.hid (HO.out.low hg2 (fun g e => by injection e with e; omega))
      replace HG := Lib.hid (gr_same (a := w) HG.out hg2)
      replace HS := Lib.hid hs2
      clear hs2 hg2
      clear d1 d1'
      go_wp2_with fail
      refine (range_any sb _ 1 3 _ HS.out (by omega) (by omega) (by omega) (by omega)).mono ?_
      rintro e w3 ⟨v3, rfl, ⟨r3, hlo3, hhi3, rfl⟩, hs3, hg3⟩
      have z3 := hg3.size; (try simp at z3)
      replace HO := Lib.hid (HO.out.low hg3 (fun g e => by injection e with e; omega))
      replace HG := Lib.hid (gr_same (a := w) HG.out hg3)
      replace HS := Lib.hid hs3
      clear hs3 hg3
      go_wp2_with fail
      refine (some_newQ (n := 5) ToQ sb _ _ HS.out (by omega) rfl (by
        repeat (first | exact StrsQ.nil _ | refine StrsQ.cons (by decide +kernel) ?_)) rfl (by omega) (by omega)).mono ?_
      rintro e w4 ⟨v4, rfl, ⟨y4, rfl, hq4⟩, hs4, hg4⟩
      have HQ4 := Lib.hid hq4; have hy4 := hq4.size; clear hq4
      have z4 := hg4.size; (try simp at z4)
      replace HO := Lib.hid (HO.out.low hg4 (fun g e => by injection e with e; omega))
      replace HG := Lib.hid (gr_same (a := w) HG.out hg4)
      replace HS := Lib.hid hs4
      clear hs4 hg4
      go_wp2_with fail
      refine (some_newQ (n := 3) HrQ sb _ _ HS.out (by omega) rfl (by
        repeat (first | exact StrsQ.nil _ | refine StrsQ.cons (by decide +kernel) ?_)) rfl (by omega) (by omega)).mono ?_
      rintro e w5 ⟨v5, rfl, ⟨y5, rfl, hq5⟩, hs5, hg5⟩
      have HQ5 := Lib.hid hq5; have hy5 := hq5.size; clear hq5
      have z5 := hg5.size; (try simp at z5)
      replace HO := Lib.hid (HO.out.low hg5 (fun g e => by injection e with e; omega))
      replace HG := Lib.hid (gr_same (a := w) HG.out hg5)
      replace HS := Lib.hid hs5
      clear hs5 hg5
      obtain ⟨w6, hw6⟩ : ∃ v, w5.alloc (.cells #[.string y2, .int .i64 r3, .string y4, .string y5] 97) = v := ⟨_, rfl⟩
      obtain ⟨fb, hfb⟩ : ∃ b, w5.heap.size = b := ⟨_, rfl⟩
      have HB := Lib.hid (show Blk w6 fb 97 #[.string y2, .int .i64 r3, .string y4, .string y5] by rw [← hw6, ← hfb]; exact Blk.new _ _ _)
      have hg6 : w5.grownBy w6 none := by rw [← hw6]; exact gr_alloc (gr_refl _ _) _
      replace HS := Lib.hid (HS.out.grown hg6 (fun g e => by cases e))
      replace HO := Lib.hid (HO.out.low hg6 (fun g e => by cases e))
      replace HG := Lib.hid (gr_none HG.out hg6)
      have HW6 := Lib.hid hw6; have HFB := Lib.hid hfb
      clear hw6 hfb hg6
      go_upto_region 5 with (fail)
      rw [HW6.out]
      (try rw [HFB.out])
      clear HW6 HFB
      have k0 := HB.out.cell 0; have k2 := HB.out.cell 2
      obtain ⟨EQ, hEQ⟩ : ∃ V, (y2.toList == y4.toList) = V := ⟨_, rfl⟩
      have zg := HG.out.size
      have HEQ := Lib.hid hEQ
      cases EQ
      · go_wp2_with (first
          | (refine wpl_load_all Tryz.fwT rfl _ rfl _ rfl _ _ HB.out rfl ?_)
          | (at_builtin
             refine wpl_app _ rfl _ _ Tryz.fwsT rfl w.heap.size A n c _ rfl (by exact HO.out.1.1.alloc _) _ _ 1 1 [.string y2, .int .i64 r3, .string y4, .string y5] rfl (by exact Reads.one _ _ _ _ rfl) (by simp [Value.oneCell']) (by unfold maxLen; omega) (by omega) (by simp; omega) ?_
             intro A7 c7 w7 h7
             have H7 := Lib.hid h7; clear h7)
          | fail)
        go_roundw
        case rel => exact ⟨i + 1, n + 1, c7, A7, l ++ [⟨y2, r3, y4, y5⟩], by omega, by go_num, rfl, by omega, ((HS.out.alloc _).grown H7.out.2.1 (fun g e => by have := (HO.out.1.1.lt e).1; omega)).mono (by omega), H7.out.gr (gr_alloc HG.out _) (HO.out.1.1.alloc _) (Nat.le_refl _), ⟨(HO.out.1.alloc _).app rfl H7.out, (fun z hz => by
          rcases List.mem_append.1 hz with h | h
          · exact HO.out.2 z h
          · rw [List.mem_singleton.1 h]; exact ⟨⟨by dsimp only; omega, by dsimp only; omega, by dsimp only; omega⟩, by dsimp only; omega, by dsimp only; omega⟩)⟩, (fun z hz => by
          rcases List.mem_append.1 hz with h | h
          · exact HFG.out z h
          · rw [List.mem_singleton.1 h]; exact ⟨HQ2.out, HQ4.out, HQ5.out, by dsimp only; omega, by dsimp only; omega, HEQ.out⟩)⟩
        case measure => simp [intOf]; omega
      · go_wp2_with fail
        go_roundw
        case rel => exact ⟨i + 1, n, c, A, l, by omega, by go_num, rfl, by omega, HS.out.mono (by omega), HG.out, HO.out, HFG.out⟩
        case measure => simp [intOf]; omega
    · obtain rfl : i = N := by omega
      have d1 : decide ((i : Int) < (i : Int)) = false := decide_eq_false (by omega)
      go_wp2_with fail
      refine (tidyR_any w.heap.size A n c l _ HO.out (by omega)).mono ?_
      rintro e w8 ⟨q, l8, rfl, hown8, hg8, hq, hmm, hinc⟩
      have HR8 := Lib.hid (show FwsG l8 from ⟨fun f hf => HFG.out f (hmm f hf), hinc, by rw [hown8.1.2]; omega⟩); clear hmm hinc
      have HO8 := Lib.hid hown8
      have HS8 := Lib.hid (HS.out.grown hg8 (fun g e => by have := (HO.out.1.1.lt e).1; omega))
      have HG8 := Lib.hid (show w.grownBy w8 (some sb) from gr_trans HG.out hg8 (fun g e => .inr (by have := (HO.out.1.1.lt e).1; omega)))
      clear hown8 hg8
      go_wp2_with fail
      go_ret
      exact ⟨_, rfl, ⟨A, q, c, l8, rfl, HO8.out, by omega, HR8.out⟩, HS8.out.mono (by omega), HG8.out⟩
end Go.Proofs.YtfakdalpaopjaaaGreatDoor

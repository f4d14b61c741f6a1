/- RightCallers, RightStyle, RightAgents give right ones. Conditions: none. -/
import Derived.Test.YtpildcnoghojpaaGreatDoorGenQue3
import Derived.Test.YtpildcnoghojpaaGreatDoorBun1
import Derived.Test.YtpildcnoghojpaaGreatDoorBun4
namespace Go.Proofs.YtpildcnoghojpaaGreatDoor
open Go.RowKit

/-! Callers. -/
theorem id_encR (j : Nat) (h : j < 8) : nb ((⟨#[99]⟩ : ByteArray) ++ Utf8.encode (97 + (j : Int))) = [99, 97 + j] := by
  rcases (by omega : j = 0 ∨ j = 1 ∨ j = 2 ∨ j = 3 ∨ j = 4 ∨ j = 5 ∨ j = 6 ∨ j = 7) with rfl | rfl | rfl | rfl | rfl | rfl | rfl | rfl <;> decide +kernel
def SkQ (s : ByteArray) : Prop := s = ⟨#[104, 101, 108, 112]⟩ ∨ s = ⟨#[115, 97, 108, 101]⟩
instance (s : ByteArray) : Decidable (SkQ s) := by unfold SkQ; infer_instance
theorem SkQ.size {s : ByteArray} (h : SkQ s) : s.size ≤ 4 := by rcases h with rfl | rfl <;> decide
theorem SkQ.key {s : ByteArray} (h : SkQ s) : keyOk (nb s) = true := by rcases h with rfl | rfl <;> decide +kernel
/-- The caller of number j. -/
structure CalQ (j : Nat) (c : CaV) : Prop where
  id : nb c.id = [99, 97 + j]
  j8 : j < 8
  skill : SkQ c.skill
  at_ : 0 ≤ c.at_ ∧ c.at_ ≤ 100
  num : caNum c = true
  t30 : c.talk ≤ 30
structure CasQ (l : List CaV) (t : Int) : Prop where
  all : ∀ j c, l[j]? = some c → CalQ j c ∧ c.at_ ≤ t
  ord : l.Pairwise fun x y => x.at_ ≤ y.at_
theorem CasQ.nil (t : Int) : CasQ [] t := ⟨fun j c h => by simp at h, List.Pairwise.nil⟩
theorem CasQ.app {l : List CaV} {t t' : Int} (h : CasQ l t) (ht : t ≤ t') {c : CaV} (hc : CalQ l.length c) (hct : c.at_ = t') : CasQ (l ++ [c]) t' := by
  refine ⟨fun j x hx => ?_, List.pairwise_append.2 ⟨h.ord, List.pairwise_singleton _ _, fun a ha b hb => ?_⟩⟩
  · by_cases hj : j < l.length
    · rw [List.getElem?_append_left hj] at hx
      have := h.all j x hx
      exact ⟨this.1, by omega⟩
    · have hjl : j = l.length := by
        have := (List.getElem?_eq_some_iff.1 hx).1
        rw [List.length_append, List.length_singleton] at this
        omega
      subst hjl
      rw [List.getElem?_append_right (Nat.le_refl _), Nat.sub_self] at hx
      obtain rfl := Option.some.inj hx
      exact ⟨hc, by omega⟩
  · obtain ⟨j, hj⟩ := List.mem_iff_getElem?.1 ha
    have := (h.all j a hj).2
    rw [List.mem_singleton.1 hb]; omega
theorem key_c (j : Nat) (h : j < 8) : keyOk [99, 97 + j] = true := by
  rcases (by omega : j = 0 ∨ j = 1 ∨ j = 2 ∨ j = 3 ∨ j = 4 ∨ j = 5 ∨ j = 6 ∨ j = 7) with rfl | rfl | rfl | rfl | rfl | rfl | rfl | rfl <;> decide +kernel
theorem CasQ.ne {l : List CaV} {t : Int} (h : CasQ l t) {i j : Nat} {a b : CaV} (ha : l[i]? = some a) (hb : l[j]? = some b) (hij : i ≠ j) : nb a.id ≠ nb b.id := by
  rw [(h.all i a ha).1.id, (h.all j b hb).1.id]
  intro e
  injection e with _ e
  injection e with e _
  omega
theorem CasQ.len {l : List CaV} {t : Int} (h : CasQ l t) : l.length ≤ 8 := by
  rcases Nat.lt_or_ge 8 l.length with hlt | hge
  · have := (h.all 8 l[8] (List.getElem?_eq_getElem hlt)).1.j8
    omega
  · exact hge
theorem CasQ.e {l : List CaV} {t : Int} (h : CasQ l t) : casE l = 0 := by
  have hl := h.len
  unfold casE
  rw [if_neg (by omega)]
  refine fstE_nil _ fun i hi => ?_
  have hz : l[i]? = some l[i] := List.getElem?_eq_getElem hi
  have hg := (h.all i _ hz).1
  have hk : (keyOk (nb l[i].id) && keyOk (nb l[i].skill)) = true := by rw [hg.id, key_c i hg.j8, hg.skill.key]; rfl
  have hm : memS ((l.take i).map (·.id)) l[i].id = false := by
    unfold memS
    rw [List.any_eq_false]
    intro x hx e
    obtain ⟨y, hy, rfl⟩ := List.mem_map.1 hx
    obtain ⟨q, hq⟩ := List.mem_iff_getElem?.1 hy
    rw [List.getElem?_take] at hq
    split at hq
    · rename_i hqi
      exact h.ne hq hz (by omega) (by simpa using e)
    · cases hq
  by_cases h0 : 0 < i
  · have hi1 : i - 1 < l.length := by omega
    refine caAt_e (b := l[i - 1]) hz hk hm hg.num (List.getElem?_eq_getElem hi1) ?_
    have := List.pairwise_iff_getElem.1 h.ord (i - 1) i hi1 hi (by omega)
    omega
  · exact caAt_z hz hk hm hg.num h0
def IsQCas (lo most : Nat) (v : Value) (w : World) : Prop := ∃ (A : Option Addr) (n c : Nat) (l : List CaV) (t : Int), v = .slice A n c ∧ GCas w lo A n c l ∧ n ≤ most ∧ CasQ l t
theorem caNum_of {c : CaV} (h0 : 0 ≤ c.at_ ∧ c.at_ ≤ 100) (h1 : 1 ≤ c.least ∧ c.least ≤ 2) (h2 : 0 ≤ c.prio ∧ c.prio ≤ 5) (h3 : 0 ≤ c.pat ∧ c.pat ≤ 100) (h4 : 1 ≤ c.talk ∧ c.talk ≤ 30) : caNum c = true := by
  unfold caNum momB inB
  simp only [Bool.and_eq_true, decide_eq_true_eq]
  omega
set_option maxHeartbeats 4000000 in
set_option maxRecDepth 100000 in
theorem rightCallersR_any (sb : Nat) (m most : Int) (w : World) (hs : Str w sb m) (hm : m ≤ 100000000000) (h0 : 0 ≤ most) (h1 : most ≤ 8) : Calls Tryz.prog 4 #[.pointer (some ⟨sb, 0, none⟩), .int .i64 most] w (Drawn sb (m + 201) (IsQCas w.heap.size most.toNat) w) := by
  have hlt := hs.lt
  have HS := Lib.hid hs; clear hs
  have HG := Lib.hid (gr_refl w (some sb))
  go_enter Tryz.func4, Tryz.ntmps4
  go_wp2_with fail
  refine (range_any sb _ 0 most _ (by first | exact HS.out | exact HS.out.alloc _ | exact (HS.out.alloc _).alloc _ | exact ((HS.out.alloc _).alloc _).alloc _ | exact HS.out.drewN _ | exact HS.out.setCell (by simp; omega) _ | exact (HS.out.alloc _).setCell (by simp; omega) _ | exact (HS.out.setCell (by simp; omega) _).alloc _ | exact (HS.out.setCell (by simp; omega) _).drewN _ | exact (HS.out.alloc _).drewN _) (by omega) (by omega) (by omega) (by omega)).mono ?_
  rintro e w1 ⟨v1, rfl, ⟨r1, hlo1, hhi1, rfl⟩, hs1, hg1⟩
  have z1 := hg1.size; try simp at z1
  try replace HZ := Lib.hid (HZ.out.grown hg1 (by simp; omega))
  try replace HP := Lib.hid (HP.out.grown hg1 (by simp; omega))
  try replace HGA := Lib.hid (HGA.out.kept hg1 (fun g e => by injection e with e; omega))
  try replace HY := Lib.hid (Own.kept HY.out hg1 (fun g e e' => by injection e with e; have := (HY.out.lt e').1; omega))
  replace HG := Lib.hid (gr_same (a := w) (by repeat (first | exact HG.out | refine gr_alloc ?_ _ | refine gr_drew ?_ | refine gr_drewN ?_ _ | refine gr_setCell ?_ (.inr (by simp; omega)) _)) hg1); clear hg1
  replace HS := Lib.hid hs1; clear hs1
  obtain ⟨nn, rfl⟩ : ∃ nn : Nat, r1 = nn := ⟨r1.toNat, by omega⟩
  go_wp2_with fail
  go_loopw [5, 6, 7, 11] (fun v u _ t wr => ∃ (k : Nat) (A : Option Addr) (c : Nat) (l : List CaV) (at_ : Int), k ≤ nn ∧ t = .int .i64 k ∧ v = .slice A k c ∧ u = .int .i64 at_ ∧ Str wr sb (m + 1 + 10 * k) ∧ w.grownBy wr (some sb) ∧ GCas wr w.heap.size A k c l ∧ (0 ≤ at_ ∧ at_ ≤ 10 * (k : Int)) ∧ CasQ l at_) (fun _ _ _ t _ => nn - (intOf t).toNat)
  case atStart => exact ⟨0, none, 0, [], 0, Nat.zero_le _, rfl, rfl, rfl, HS.out.mono (by omega), HG.out, ⟨OwnR.nil _ _ _, (fun a ha => by cases ha)⟩, ⟨by omega, by omega⟩, CasQ.nil _⟩
  case round =>
    clear HS HG
    obtain ⟨k, A, c, l, at_, hk, rfl, rfl, rfl, hs, hg, hga, hat, hcn⟩ := hrel
    have HCN := Lib.hid hcn
    have HS := Lib.hid hs; have HG := Lib.hid hg; have HGA := Lib.hid hga
    have zr := hg.size
    clear hs hg hga hcn
    by_cases hlt2 : k < nn
    · have hkn : decide (k < nn) = true := decide_eq_true hlt2
      go_wp2_with fail
      refine (pick_new sb _ [0, 0, 1, 3, 10] _ (by first | exact HS.out | exact HS.out.alloc _ | exact (HS.out.alloc _).alloc _ | exact ((HS.out.alloc _).alloc _).alloc _ | exact HS.out.drewN _ | exact HS.out.setCell (by simp; omega) _ | exact (HS.out.alloc _).setCell (by simp; omega) _ | exact (HS.out.setCell (by simp; omega) _).alloc _ | exact (HS.out.setCell (by simp; omega) _).drewN _ | exact (HS.out.alloc _).drewN _) (by omega) (by simp) rfl rfl (by simp) (by simp)).mono ?_
      rintro e w2 ⟨v2, rfl, ⟨r2, hr2, rfl⟩, hs2, hg2⟩
      have hb2 : 0 ≤ r2 ∧ r2 ≤ 10 := by simp only [List.mem_cons, List.not_mem_nil, or_false] at hr2; omega
      clear hr2
      replace HGA := Lib.hid (HGA.out.low hg2 (fun g e => by injection e with e; omega))
      have z2 := hg2.size; try simp at z2
      replace HG := Lib.hid (gr_same (a := w) (by repeat (first | exact HG.out | refine gr_alloc ?_ _ | refine gr_drew ?_ | refine gr_drewN ?_ _ | refine gr_setCell ?_ (.inr (by simp; omega)) _)) hg2); clear hg2
      replace HS := Lib.hid hs2; clear hs2
      have hk20 : k ≤ 20 := by omega
      have qat : IntKind.i64.wrap (at_ + r2) = at_ + r2 := IntWalk.i64_in _ (by omega)
      obtain ⟨cc, hcc⟩ : ∃ cc : ByteArray, (⟨#[99]⟩ : ByteArray) = cc := ⟨_, rfl⟩
      have hccs : cc.size ≤ 1 := by rw [← hcc]; decide
      obtain ⟨en, hen⟩ : ∃ en, Utf8.encode (97 + (k : Int)) = en := ⟨_, rfl⟩
      have hens : en.size ≤ 4 := by rw [← hen]; exact encS _
      have a1 : ¬ 9223372036854775807 < cc.size + en.size := by omega
      obtain ⟨id, hid⟩ : ∃ id, cc ++ en = id := ⟨_, rfl⟩
      have hids : id.size ≤ 5 := by rw [← hid, appS]; omega
      go_wp2_with fail
      refine (some_newQ (n := 3) SkQ sb _ _ (by first | exact HS.out | exact HS.out.alloc _ | exact (HS.out.alloc _).alloc _ | exact ((HS.out.alloc _).alloc _).alloc _ | exact HS.out.drewN _ | exact HS.out.setCell (by simp; omega) _ | exact (HS.out.alloc _).setCell (by simp; omega) _ | exact (HS.out.setCell (by simp; omega) _).alloc _ | exact (HS.out.setCell (by simp; omega) _).drewN _ | exact (HS.out.alloc _).drewN _) (by omega) rfl (by
        repeat (first | exact StrsQ.nil _ | refine StrsQ.cons (by decide +kernel) ?_)) rfl (by omega) (by omega)).mono ?_
      rintro e w3 ⟨v3, rfl, ⟨y3, rfl, hq3⟩, hs3, hg3⟩
      have HQ3 := Lib.hid hq3; have hy3 := hq3.size; clear hq3
      replace HGA := Lib.hid (HGA.out.low hg3 (fun g e => by injection e with e; omega))
      have z3 := hg3.size; try simp at z3
      replace HG := Lib.hid (gr_same (a := w) (by repeat (first | exact HG.out | refine gr_alloc ?_ _ | refine gr_drew ?_ | refine gr_drewN ?_ _ | refine gr_setCell ?_ (.inr (by simp; omega)) _)) hg3); clear hg3
      replace HS := Lib.hid hs3; clear hs3
      have HID := Lib.hid (show nb id = [99, 97 + k] by rw [← hid, ← hcc, ← hen]; exact id_encR k (by omega))
      clear hcc hen hid
      go_wp2_with fail
      refine (pick_new sb _ [1, 1, 2] _ (by first | exact HS.out | exact HS.out.alloc _ | exact (HS.out.alloc _).alloc _ | exact ((HS.out.alloc _).alloc _).alloc _ | exact HS.out.drewN _ | exact HS.out.setCell (by simp; omega) _ | exact (HS.out.alloc _).setCell (by simp; omega) _ | exact (HS.out.setCell (by simp; omega) _).alloc _ | exact (HS.out.setCell (by simp; omega) _).drewN _ | exact (HS.out.alloc _).drewN _) (by omega) (by simp) rfl rfl (by simp) (by simp)).mono ?_
      rintro e w4 ⟨v4, rfl, ⟨r4, hr4, rfl⟩, hs4, hg4⟩
      have hb4 : 1 ≤ r4 ∧ r4 ≤ 2 := by simp only [List.mem_cons, List.not_mem_nil, or_false] at hr4; omega
      clear hr4
      replace HGA := Lib.hid (HGA.out.low hg4 (fun g e => by injection e with e; omega))
      have z4 := hg4.size; try simp at z4
      replace HG := Lib.hid (gr_same (a := w) (by repeat (first | exact HG.out | refine gr_alloc ?_ _ | refine gr_drew ?_ | refine gr_drewN ?_ _ | refine gr_setCell ?_ (.inr (by simp; omega)) _)) hg4); clear hg4
      replace HS := Lib.hid hs4; clear hs4
      go_wp2_with fail
      refine (pick_new sb _ [0, 0, 0, 1, 5] _ (by first | exact HS.out | exact HS.out.alloc _ | exact (HS.out.alloc _).alloc _ | exact ((HS.out.alloc _).alloc _).alloc _ | exact HS.out.drewN _ | exact HS.out.setCell (by simp; omega) _ | exact (HS.out.alloc _).setCell (by simp; omega) _ | exact (HS.out.setCell (by simp; omega) _).alloc _ | exact (HS.out.setCell (by simp; omega) _).drewN _ | exact (HS.out.alloc _).drewN _) (by omega) (by simp) rfl rfl (by simp) (by simp)).mono ?_
      rintro e w5 ⟨v5, rfl, ⟨r5, hr5, rfl⟩, hs5, hg5⟩
      have hb5 : 0 ≤ r5 ∧ r5 ≤ 5 := by simp only [List.mem_cons, List.not_mem_nil, or_false] at hr5; omega
      clear hr5
      replace HGA := Lib.hid (HGA.out.low hg5 (fun g e => by injection e with e; omega))
      have z5 := hg5.size; try simp at z5
      replace HG := Lib.hid (gr_same (a := w) (by repeat (first | exact HG.out | refine gr_alloc ?_ _ | refine gr_drew ?_ | refine gr_drewN ?_ _ | refine gr_setCell ?_ (.inr (by simp; omega)) _)) hg5); clear hg5
      replace HS := Lib.hid hs5; clear hs5
      go_wp2_with fail
      refine (pick_new sb _ [0, 5, 20, 100] _ (by first | exact HS.out | exact HS.out.alloc _ | exact (HS.out.alloc _).alloc _ | exact ((HS.out.alloc _).alloc _).alloc _ | exact HS.out.drewN _ | exact HS.out.setCell (by simp; omega) _ | exact (HS.out.alloc _).setCell (by simp; omega) _ | exact (HS.out.setCell (by simp; omega) _).alloc _ | exact (HS.out.setCell (by simp; omega) _).drewN _ | exact (HS.out.alloc _).drewN _) (by omega) (by simp) rfl rfl (by simp) (by simp)).mono ?_
      rintro e w6 ⟨v6, rfl, ⟨r6, hr6, rfl⟩, hs6, hg6⟩
      have hb6 : 0 ≤ r6 ∧ r6 ≤ 100 := by simp only [List.mem_cons, List.not_mem_nil, or_false] at hr6; omega
      clear hr6
      replace HGA := Lib.hid (HGA.out.low hg6 (fun g e => by injection e with e; omega))
      have z6 := hg6.size; try simp at z6
      replace HG := Lib.hid (gr_same (a := w) (by repeat (first | exact HG.out | refine gr_alloc ?_ _ | refine gr_drew ?_ | refine gr_drewN ?_ _ | refine gr_setCell ?_ (.inr (by simp; omega)) _)) hg6); clear hg6
      replace HS := Lib.hid hs6; clear hs6
      go_wp2_with fail
      refine (pick_new sb _ [1, 5, 10, 30] _ (by first | exact HS.out | exact HS.out.alloc _ | exact (HS.out.alloc _).alloc _ | exact ((HS.out.alloc _).alloc _).alloc _ | exact HS.out.drewN _ | exact HS.out.setCell (by simp; omega) _ | exact (HS.out.alloc _).setCell (by simp; omega) _ | exact (HS.out.setCell (by simp; omega) _).alloc _ | exact (HS.out.setCell (by simp; omega) _).drewN _ | exact (HS.out.alloc _).drewN _) (by omega) (by simp) rfl rfl (by simp) (by simp)).mono ?_
      rintro e w7 ⟨v7, rfl, ⟨r7, hr7, rfl⟩, hs7, hg7⟩
      have hb7 : 1 ≤ r7 ∧ r7 ≤ 30 := by simp only [List.mem_cons, List.not_mem_nil, or_false] at hr7; omega
      clear hr7
      replace HGA := Lib.hid (HGA.out.low hg7 (fun g e => by injection e with e; omega))
      have z7 := hg7.size; try simp at z7
      replace HG := Lib.hid (gr_same (a := w) (by repeat (first | exact HG.out | refine gr_alloc ?_ _ | refine gr_drew ?_ | refine gr_drewN ?_ _ | refine gr_setCell ?_ (.inr (by simp; omega)) _)) hg7); clear hg7
      replace HS := Lib.hid hs7; clear hs7
      go_wp2_with fail
      refine (flip_any sb _ 4 _ (by first | exact HS.out | exact HS.out.alloc _ | exact (HS.out.alloc _).alloc _ | exact ((HS.out.alloc _).alloc _).alloc _ | exact HS.out.drewN _ | exact HS.out.setCell (by simp; omega) _ | exact (HS.out.alloc _).setCell (by simp; omega) _ | exact (HS.out.setCell (by simp; omega) _).alloc _ | exact (HS.out.setCell (by simp; omega) _).drewN _ | exact (HS.out.alloc _).drewN _) (by omega) (by omega) (by omega)).mono ?_
      rintro e w8 ⟨v8, rfl, ⟨f8, rfl⟩, hs8, hg8⟩
      replace HGA := Lib.hid (HGA.out.low hg8 (fun g e => by injection e with e; omega))
      have z8 := hg8.size; try simp at z8
      replace HG := Lib.hid (gr_same (a := w) (by repeat (first | exact HG.out | refine gr_alloc ?_ _ | refine gr_drew ?_ | refine gr_drewN ?_ _ | refine gr_setCell ?_ (.inr (by simp; omega)) _)) hg8); clear hg8
      replace HS := Lib.hid hs8; clear hs8
      go_wp2_with (first
        | (at_builtin
           refine wpl_app _ rfl _ _ Tryz.casT rfl w.heap.size A k c _ rfl (by exact HGA.out.1.1.alloc _) _ _ 1 1 [.string id, .string y3, .int .i64 _, .int .i64 r4, .int .i64 r5, .int .i64 r6, .int .i64 r7, .bool f8] rfl (by exact Reads.one _ _ _ _ rfl) (by simp [Value.oneCell']) (by unfold maxLen; omega) (by omega) (by simp; omega) ?_
           intro A9 c9 w9 h9
           have H9 := Lib.hid h9; clear h9)
        | fail)
      go_roundw
      case rel =>
        refine ⟨k + 1, A9, c9, l ++ [⟨id, y3, at_ + r2, r4, r5, r6, r7, f8⟩], at_ + r2, by omega, by go_num, rfl, rfl, ((HS.out.alloc _).grown H9.out.2.1 (fun g e => by have := (HGA.out.1.1.lt e).1; omega)).mono (by omega), H9.out.gr (gr_alloc HG.out _) (HGA.out.1.1.alloc _) (Nat.le_refl _), ⟨(HGA.out.1.alloc _).app rfl H9.out, fun a ha => ?_⟩, ⟨by omega, by omega⟩, ?_⟩
        · rcases List.mem_append.1 ha with ha | ha
          · exact HGA.out.2 a ha
          · rw [List.mem_singleton.1 ha]; exact ⟨by dsimp only; omega, by dsimp only; omega⟩
        · have hl : l.length = k := HGA.out.1.2
          refine HCN.out.app (by omega) ⟨by rw [hl]; exact HID.out, by omega, HQ3.out, by dsimp only; omega, caNum_of (by dsimp only; omega) (by dsimp only; omega) (by dsimp only; omega) (by dsimp only; omega) (by dsimp only; omega), by dsimp only; omega⟩ rfl
      case measure => simp [intOf]; omega
    · obtain rfl : k = nn := by omega
      go_wp2_with fail
      go_ret
      exact ⟨_, rfl, ⟨A, k, c, l, at_, rfl, HGA.out, by omega, HCN.out⟩, HS.out.mono (by omega), HG.out⟩

/-! Styles. -/
def IsSStyle (v : Value) (_ : World) : Prop := ∃ a b c : Int, v = .agg #[.int .i64 a, .int .i64 b, .int .i64 c] ∧ styleE a b c = 0
set_option maxHeartbeats 2000000 in
theorem rightStyleR_any (sb : Nat) (m : Int) (w : World) (hs : Str w sb m) (hm : m ≤ 1000000000000) : Calls Tryz.prog 6 #[.pointer (some ⟨sb, 0, none⟩)] w (Drawn sb (m + 3) IsSStyle w) := by
  have hlt := hs.lt
  have HS := Lib.hid hs; clear hs
  have HG := Lib.hid (gr_refl w (some sb))
  go_enter Tryz.func6, Tryz.ntmps6
  go_wp2_with fail
  refine (range_any sb _ 1 4 _ (by first | exact HS.out | exact HS.out.alloc _ | exact (HS.out.alloc _).alloc _ | exact ((HS.out.alloc _).alloc _).alloc _ | exact HS.out.drewN _ | exact HS.out.setCell (by simp; omega) _ | exact (HS.out.alloc _).setCell (by simp; omega) _ | exact (HS.out.setCell (by simp; omega) _).alloc _ | exact (HS.out.setCell (by simp; omega) _).drewN _ | exact (HS.out.alloc _).drewN _) (by omega) (by omega) (by omega) (by omega)).mono ?_
  rintro e w1 ⟨v1, rfl, ⟨r1, hlo1, hhi1, rfl⟩, hs1, hg1⟩
  have HZ := Lib.hid ((Blk.new w 33 #[.int .i64 0, .int .i64 0, .int .i64 0]).grown hg1 (by simp; omega))
  have z1 := hg1.size; try simp at z1
  try replace HZ := Lib.hid (HZ.out.grown hg1 (by simp; omega))
  try replace HP := Lib.hid (HP.out.grown hg1 (by simp; omega))
  try replace HGA := Lib.hid (HGA.out.kept hg1 (fun g e => by injection e with e; omega))
  try replace HY := Lib.hid (Own.kept HY.out hg1 (fun g e e' => by injection e with e; have := (HY.out.lt e').1; omega))
  replace HG := Lib.hid (gr_same (a := w) (by repeat (first | exact HG.out | refine gr_alloc ?_ _ | refine gr_drew ?_ | refine gr_drewN ?_ _ | refine gr_setCell ?_ (.inr (by simp; omega)) _)) hg1); clear hg1
  replace HS := Lib.hid hs1; clear hs1
  go_wp2_with fail
  refine (pick_new sb _ [0, 0, 1, 5, 20] _ (by first | exact HS.out | exact HS.out.alloc _ | exact (HS.out.alloc _).alloc _ | exact ((HS.out.alloc _).alloc _).alloc _ | exact HS.out.drewN _ | exact HS.out.setCell (by simp; omega) _ | exact (HS.out.alloc _).setCell (by simp; omega) _ | exact (HS.out.setCell (by simp; omega) _).alloc _ | exact (HS.out.setCell (by simp; omega) _).drewN _ | exact (HS.out.alloc _).drewN _) (by omega) (by simp) rfl rfl (by simp) (by simp)).mono ?_
  rintro e w2 ⟨v2, rfl, ⟨r2, hr2, rfl⟩, hs2, hg2⟩
  have HR2 := Lib.hid hr2; clear hr2
  have z2 := hg2.size; try simp at z2
  try replace HZ := Lib.hid (HZ.out.grown hg2 (by simp; omega))
  try replace HP := Lib.hid (HP.out.grown hg2 (by simp; omega))
  try replace HGA := Lib.hid (HGA.out.kept hg2 (fun g e => by injection e with e; omega))
  try replace HY := Lib.hid (Own.kept HY.out hg2 (fun g e e' => by injection e with e; have := (HY.out.lt e').1; omega))
  replace HG := Lib.hid (gr_same (a := w) (by repeat (first | exact HG.out | refine gr_alloc ?_ _ | refine gr_drew ?_ | refine gr_drewN ?_ _ | refine gr_setCell ?_ (.inr (by simp; omega)) _)) hg2); clear hg2
  replace HS := Lib.hid hs2; clear hs2
  go_wp2_with fail
  refine (pick_new sb _ [0, 1, 4, 7] _ (by first | exact HS.out | exact HS.out.alloc _ | exact (HS.out.alloc _).alloc _ | exact ((HS.out.alloc _).alloc _).alloc _ | exact HS.out.drewN _ | exact HS.out.setCell (by simp; omega) _ | exact (HS.out.alloc _).setCell (by simp; omega) _ | exact (HS.out.setCell (by simp; omega) _).alloc _ | exact (HS.out.setCell (by simp; omega) _).drewN _ | exact (HS.out.alloc _).drewN _) (by omega) (by simp) rfl rfl (by simp) (by simp)).mono ?_
  rintro e w3 ⟨v3, rfl, ⟨r3, hr3, rfl⟩, hs3, hg3⟩
  have HR3 := Lib.hid hr3; clear hr3
  have z3 := hg3.size; try simp at z3
  try replace HZ := Lib.hid (HZ.out.grown hg3 (by simp; omega))
  try replace HP := Lib.hid (HP.out.grown hg3 (by simp; omega))
  try replace HGA := Lib.hid (HGA.out.kept hg3 (fun g e => by injection e with e; omega))
  try replace HY := Lib.hid (Own.kept HY.out hg3 (fun g e e' => by injection e with e; have := (HY.out.lt e').1; omega))
  replace HG := Lib.hid (gr_same (a := w) (by repeat (first | exact HG.out | refine gr_alloc ?_ _ | refine gr_drew ?_ | refine gr_drewN ?_ _ | refine gr_setCell ?_ (.inr (by simp; omega)) _)) hg3); clear hg3
  replace HS := Lib.hid hs3; clear hs3
  go_wp2_with (first
    | (refine wpl_store_all Tryz.styT rfl _ _ rfl _ rfl _ _ _ rfl HZ.out rfl rfl (by simp [Value.oneCell']) ?_
       intro wz hst
       have HST := Lib.hid hst; clear hst)
    | fail)
  have hst := HST.out
  refine ret_cell Tryz.styT rfl _ _ _ rfl hst.1 rfl rfl ?_
  exact ⟨_, rfl, ⟨_, _, _, rfl, (by
    have h := HR2.out; have h3 := HR3.out
    simp only [List.mem_cons, List.not_mem_nil, or_false] at h h3
    unfold styleE inB
    rw [if_pos (by simp only [Bool.and_eq_true, decide_eq_true_eq]; omega), if_pos (by simp only [Bool.and_eq_true, decide_eq_true_eq]; omega)])⟩, (HS.out.grown hst.2.1 (fun g e => by injection e with e; omega)).mono (by omega), gr_trans HG.out hst.2.1 (fun g e => .inr (by injection e with e; omega))⟩

/-! Agents. -/
def akN : Nat → ByteArray
  | 0 => ⟨#[97, 97]⟩
  | 1 => ⟨#[97, 98]⟩
  | _ => ⟨#[97, 99]⟩
def skN : Nat → ByteArray
  | 0 => ⟨#[104, 101, 108, 112]⟩
  | _ => ⟨#[115, 97, 108, 101]⟩
theorem names3A (k : Nat) (hk : k < 3) {w : World} {g : Nat} (h : Blk w g 9 #[.string ⟨#[97, 97]⟩, .string ⟨#[97, 98]⟩, .string ⟨#[97, 99]⟩]) : ∃ s : ByteArray, s = akN k ∧ s.size ≤ 2 ∧ w.cell? ⟨g, k, none⟩ = some (.string s) := by
  rcases (by omega : k = 0 ∨ k = 1 ∨ k = 2) with rfl | rfl | rfl
  · exact ⟨_, rfl, by decide, h.cell 0⟩
  · exact ⟨_, rfl, by decide, h.cell 1⟩
  · exact ⟨_, rfl, by decide, h.cell 2⟩
theorem names2A (k : Nat) (hk : k < 2) {w : World} {g : Nat} (h : Blk w g 9 #[.string ⟨#[104, 101, 108, 112]⟩, .string ⟨#[115, 97, 108, 101]⟩]) : ∃ s : ByteArray, s = skN k ∧ s.size ≤ 4 ∧ w.cell? ⟨g, k, none⟩ = some (.string s) := by
  rcases (by omega : k = 0 ∨ k = 1) with rfl | rfl
  · exact ⟨_, rfl, by decide, h.cell 0⟩
  · exact ⟨_, rfl, by decide, h.cell 1⟩
theorem akN_ok (k : Nat) (hk : k < 3) : keyOk (nb (akN k)) = true := by
  rcases (by omega : k = 0 ∨ k = 1 ∨ k = 2) with rfl | rfl | rfl <;> decide +kernel
theorem skN_ok (k : Nat) (hk : k < 2) : keyOk (nb (skN k)) = true := by
  rcases (by omega : k = 0 ∨ k = 1) with rfl | rfl <;> decide +kernel
theorem akN_lt (j k : Nat) (h : j < k) (hk : k < 3) : leS (akN k) (akN j) = false := by
  rcases (by omega : (k = 1 ∧ j = 0) ∨ (k = 2 ∧ j = 0) ∨ (k = 2 ∧ j = 1)) with ⟨rfl, rfl⟩ | ⟨rfl, rfl⟩ | ⟨rfl, rfl⟩ <;> decide +kernel
theorem skN_lt (j k : Nat) (h : j < k) (hk : k < 2) : leS (skN k) (skN j) = false := by
  rcases (by omega : k = 1 ∧ j = 0) with ⟨rfl, rfl⟩
  decide +kernel
/-- An agent that is being made: j skills were looked at, its pauses end at B at the latest. -/
structure AgS (j : Nat) (ky : ByteArray) (B : Int) (a : AgV) : Prop where
  n : AgN a
  key : a.key = ky
  tm : 60 ≤ a.til ∧ a.til ≤ 1000 ∧ a.fr ≤ 20
  sk : ∀ s ∈ a.sk, ∃ i, i < j ∧ i < 2 ∧ s.1 = skN i ∧ inB s.2 1 9 = true
  so : a.sk.Pairwise fun x y => leS y.1 x.1 = false
  ps : ∀ q ∈ a.ps, 0 ≤ q.1 ∧ q.1 < q.2 ∧ q.2 ≤ B
  po : a.ps.Pairwise fun x y => x.2 ≤ y.1
section
variable {j j' : Nat} {ky : ByteArray} {B B' : Int} {a : AgV}
theorem AgS.mono (h : AgS j ky B a) (hj : j ≤ j') (hB : B ≤ B') : AgS j' ky B' a :=
  ⟨h.n, h.key, h.tm, fun s hs => by obtain ⟨i, h1, h2⟩ := h.sk s hs; exact ⟨i, by omega, h2⟩, h.so, fun q hq => by have := h.ps q hq; omega, h.po⟩
theorem AgS.skill (h : AgS j ky B a) (hj : j < 2) {nm : ByteArray} {lv : Int} (hn : nm = skN j) (hl : 1 ≤ lv ∧ lv ≤ 9) {A : Option Addr} {n c : Nat} : AgS (j + 1) ky B { a with sA := A, sn := n, sc := c, sk := a.sk ++ [(nm, lv)] } := by
  refine ⟨h.n.skill (y := (nm, lv)) (by dsimp only; omega), h.key, h.tm, fun s hs => ?_, List.pairwise_append.2 ⟨h.so, List.pairwise_singleton _ _, fun x hx y hy => ?_⟩, h.ps, h.po⟩
  · rcases List.mem_append.1 hs with hs | hs
    · obtain ⟨i, h1, h2⟩ := h.sk s hs; exact ⟨i, by omega, h2⟩
    · rw [List.mem_singleton.1 hs]
      exact ⟨j, by omega, hj, hn, by unfold inB; simp only [Bool.and_eq_true, decide_eq_true_eq]; omega⟩
  · obtain ⟨i, h1, _, h2, _⟩ := h.sk x hx
    rw [List.mem_singleton.1 hy, h2]
    show leS nm (skN i) = false
    rw [hn]; exact skN_lt i j h1 hj
theorem AgS.pause (h : AgS j ky B a) {y : Int × Int} (hB : B ≤ y.1) (hy : 0 ≤ y.1 ∧ y.1 < y.2 ∧ y.2 ≤ B') (hB2 : B' ≤ 1000) {A : Option Addr} {n c : Nat} : AgS j ky B' { a with pA := A, pn := n, pc := c, ps := a.ps ++ [y] } := by
  refine ⟨h.n.pause (y := y) (by omega), h.key, h.tm, h.sk, h.so, fun q hq => ?_, List.pairwise_append.2 ⟨h.po, List.pairwise_singleton _ _, fun x hx z hz => ?_⟩⟩
  · rcases List.mem_append.1 hq with hq | hq
    · have := h.ps q hq; omega
    · rw [List.mem_singleton.1 hq]; exact hy
  · have := h.ps x hx
    rw [List.mem_singleton.1 hz]; omega
theorem AgS.e (h : AgS j ky B a) (hB : B ≤ 1000) (h1 : a.sn ≤ 10) (h2 : a.pn ≤ 50) : agE a = 0 := by
  have hs : fstE (skAt a.sk) a.sn = 0 := fstE_nil _ fun i _ => by
    cases hx : a.sk[i]? with
    | none => unfold skAt; rw [hx]; rfl
    | some z =>
      obtain ⟨q, _, q2, q3, q4⟩ := h.sk z (List.mem_of_getElem? hx)
      unfold skAt
      rw [hx]
      show (if keyOk (nb z.1) then (if inB z.2 1 9 then (if decide (0 < i) && (a.sk[i - 1]?).elim false (fun p => leS z.1 p.1) then (7 : Int) else 0) else 1) else 5) = 0
      rw [q3, skN_ok q q2, q4]
      have hb : (decide (0 < i) && (a.sk[i - 1]?).elim false (fun p => leS (skN q) p.1)) = false := by
        by_cases h0 : 0 < i
        · have hl := (List.getElem?_eq_some_iff.1 hx).1
          have hi1 : i - 1 < a.sk.length := by omega
          have ho := List.pairwise_iff_getElem.1 h.so (i - 1) i hi1 hl (by omega)
          rw [(List.getElem?_eq_some_iff.1 hx).2, q3] at ho
          rw [List.getElem?_eq_getElem hi1]
          show (decide (0 < i) && leS (skN q) (a.sk[i - 1]).1) = false
          rw [ho, Bool.and_false]
        · rw [decide_eq_false h0, Bool.false_and]
      rw [hb]; rfl
  have hp : fstE (pwAt a.ps) a.pn = 0 := fstE_nil _ fun i _ => by
    cases hx : a.ps[i]? with
    | none => unfold pwAt; rw [hx]; rfl
    | some z =>
      have hz := h.ps z (List.mem_of_getElem? hx)
      unfold pwAt
      rw [hx]
      show (if z.1 < 0 ∨ z.2 ≤ z.1 ∨ 345686400000 < z.2 then (1 : Int) else (if decide (0 < i) && (a.ps[i - 1]?).elim false (fun q => decide (z.1 < q.2)) then 7 else 0)) = 0
      rw [if_neg (by omega)]
      have hb : (decide (0 < i) && (a.ps[i - 1]?).elim false (fun q => decide (z.1 < q.2))) = false := by
        by_cases h0 : 0 < i
        · have hl := (List.getElem?_eq_some_iff.1 hx).1
          have hi1 : i - 1 < a.ps.length := by omega
          have ho := List.pairwise_iff_getElem.1 h.po (i - 1) i hi1 hl (by omega)
          rw [(List.getElem?_eq_some_iff.1 hx).2] at ho
          rw [List.getElem?_eq_getElem hi1]
          show (decide (0 < i) && decide (z.1 < (a.ps[i - 1]).2)) = false
          rw [decide_eq_false (show ¬ z.1 < (a.ps[i - 1]).2 by omega), Bool.and_false]
        · rw [decide_eq_false h0, Bool.false_and]
      rw [hb]; rfl
  have ht := h.tm
  obtain ⟨n1, n2, n3, n4, n5, _⟩ := h.n
  unfold agE timE tmE
  rw [if_neg (by omega), if_pos hs, if_neg (by omega), if_neg (by omega), if_pos hp, if_pos (by unfold inB; simp only [Bool.and_eq_true, decide_eq_true_eq]; omega)]
end
/-- The agents of the first k keys. -/
structure AgLs (k : Nat) (l : List AgV) : Prop where
  all : ∀ a ∈ l, ∃ j, j < k ∧ j < 3 ∧ a.key = akN j ∧ agE a = 0 ∧ a.til ≤ 1000
  ord : l.Pairwise fun x y => leS y.key x.key = false
theorem AgLs.nil (k : Nat) : AgLs k [] := ⟨(fun a ha => by cases ha), List.Pairwise.nil⟩
theorem AgLs.mono {k k' : Nat} {l : List AgV} (h : AgLs k l) (hk : k ≤ k') : AgLs k' l := ⟨fun a ha => by obtain ⟨j, h1, h2⟩ := h.all a ha; exact ⟨j, by omega, h2⟩, h.ord⟩
theorem AgLs.app {k : Nat} {l : List AgV} (h : AgLs k l) (hk : k < 3) {ky : ByteArray} (hp : ky = akN k) {B : Int} {a : AgV} (ha : AgS 2 ky B a) (hB : B ≤ 1000) (h1 : a.sn ≤ 2) (h2 : a.pn ≤ 2) : AgLs (k + 1) (l ++ [a]) := by
  refine ⟨fun x hx => ?_, List.pairwise_append.2 ⟨h.ord, List.pairwise_singleton _ _, fun x hx y hy => ?_⟩⟩
  · rcases List.mem_append.1 hx with hx | hx
    · obtain ⟨j, q1, q2⟩ := h.all x hx; exact ⟨j, by omega, q2⟩
    · rw [List.mem_singleton.1 hx]
      exact ⟨k, by omega, hk, ha.key.trans hp, ha.e hB (by omega) (by omega), ha.tm.2.1⟩
  · obtain ⟨j, q1, _, q2, _⟩ := h.all x hx
    rw [List.mem_singleton.1 hy, ha.key, hp, q2]
    exact akN_lt j k q1 hk
theorem AgLs.e {l : List AgV} (h : AgLs 3 l) (hl : l.length ≤ 3) : agsE l = 0 := by
  unfold agsE
  rw [if_neg (by omega)]
  refine fstE_nil _ fun i hi => ?_
  have hx : l[i]? = some l[i] := List.getElem?_eq_getElem hi
  obtain ⟨j, _, h5, h2, h3, _⟩ := h.all l[i] (List.getElem_mem hi)
  unfold agAt
  rw [hx]
  show (if keyOk (nb l[i].key) then (if decide (0 < i) && (l[i - 1]?).elim false (fun b => leS l[i].key b.key) then (7 : Int) else agE l[i]) else 5) = 0
  have hk : keyOk (nb l[i].key) = true := by rw [h2]; exact akN_ok j h5
  have hb : (decide (0 < i) && (l[i - 1]?).elim false (fun b => leS l[i].key b.key)) = false := by
    by_cases h0 : 0 < i
    · have hi1 : i - 1 < l.length := by omega
      have ho := List.pairwise_iff_getElem.1 h.ord (i - 1) i hi1 hi (by omega)
      rw [List.getElem?_eq_getElem hi1]
      show (decide (0 < i) && leS l[i].key (l[i - 1]).key) = false
      rw [ho, Bool.and_false]
    · rw [decide_eq_false h0, Bool.false_and]
  rw [hk, hb, h3]; rfl
def IsGAgsR (lo most : Nat) (v : Value) (w : World) : Prop := ∃ (A : Option Addr) (n c : Nat) (l : List AgV), v = .slice A n c ∧ GAgs w lo A n c l ∧ n ≤ most ∧ agsE l = 0 ∧ ∀ a ∈ l, a.til ≤ 1000
def RaRelR (w : World) (sb : Nat) (m : Int) (v t : Value) (wr : World) : Prop := ∃ (k : Nat) (A : Option Addr) (n c : Nat) (l : List AgV), k ≤ 3 ∧ t = .int .i64 k ∧ v = .slice A n c ∧ Str wr sb (m + 30 * k) ∧ w.grownBy wr (some sb) ∧
  Blk wr w.heap.size 9 #[.string ⟨#[97, 97]⟩, .string ⟨#[97, 98]⟩, .string ⟨#[97, 99]⟩] ∧ GAgs wr w.heap.size A n c l ∧ n ≤ k ∧ (∀ a ∈ l, a.sn ≤ 2 ∧ a.pn ≤ 2 ∧ AgN a) ∧ AgLs k l
def RaInR (ky : ByteArray) (wo : World) (sb ab : Nat) (m : Int) (t : Value) (wr : World) : Prop := ∃ (j : Nat) (a : AgV), j ≤ 2 ∧ t = .int .i64 j ∧ AgB wo sb ab (m + 2 * j) a wr ∧ Blk wr (ab + 1) 9 #[.string ⟨#[104, 101, 108, 112]⟩, .string ⟨#[115, 97, 108, 101]⟩] ∧ a.sn ≤ j ∧ a.pn ≤ 0 ∧ AgS j ky 0 a
set_option maxHeartbeats 8000000 in
set_option maxRecDepth 100000 in
theorem rightAgentsR_any (sb : Nat) (m : Int) (w : World) (hs : Str w sb m) (hm : m ≤ 100000000000) : Calls Tryz.prog 7 #[.pointer (some ⟨sb, 0, none⟩)] w (Drawn sb (m + 90) (IsGAgsR w.heap.size 3) w) := by
  have hlt := hs.lt
  have HS := Lib.hid hs; clear hs
  go_enter Tryz.func7, Tryz.ntmps7
  go_wp2_with fail
  go_loopw [3, 5, 6, 8, 9, 12] (fun v _ _ _ _ t wr => RaRelR w sb m v t wr) (fun _ _ _ _ _ t _ => 3 - (intOf t).toNat)
  case atStart => exact ⟨0, none, 0, 0, [], by omega, rfl, rfl, (HS.out.alloc _).mono (by omega), gr_alloc (gr_refl _ _) _, Blk.new _ _ _, GAgs.nil _ _, by omega, (fun a ha => by cases ha), AgLs.nil _⟩
  case round =>
    clear HS
    obtain ⟨k, A, n, c, l, hk, rfl, rfl, hs, hg, hkb, hga, hnk, hlb, hal⟩ := hrel
    have HAL := Lib.hid hal; clear hal
    have HS := Lib.hid hs; have HG := Lib.hid hg; have HGA := Lib.hid hga; have HKB := Lib.hid hkb; have HLB := Lib.hid hlb
    have zr := hg.size
    have zk := hkb.lt
    clear hs hg hga hkb hlb
    by_cases hlt2 : k < 3
    · obtain ⟨ky, hkp, hky, hkc⟩ := names3A k hlt2 HKB.out
      have HKP := Lib.hid hkp; clear hkp
      obtain ⟨wo, rfl⟩ : ∃ wo : World, wo = wr := ⟨_, rfl⟩
      go_wp2_with fail
      refine (flip_any sb _ 5 _ HS.out (by omega) (by omega) (by omega)).mono ?_
      rintro e w1 ⟨v1, rfl, ⟨f1, rfl⟩, hs1, hg1⟩
      cases f1
      · have HG1 := Lib.hid hg1; have HS1 := Lib.hid hs1; clear hs1 hg1
        go_wp2_with fail
        refine (pick_new sb _ [0, 0, 0, 20] _ HS1.out (by omega) (by simp) rfl rfl (by simp) (by simp)).mono ?_
        rintro e w2 ⟨v2, rfl, ⟨r2, hr2, rfl⟩, hs2, hg2⟩
        have HG2 := Lib.hid (gr_same HG1.out hg2); have HS2 := Lib.hid hs2; have HR2 := Lib.hid hr2; clear hs2 hg2 hr2
        go_wp2_with fail
        refine (pick_new sb _ [60, 200, 1000] _ HS2.out (by omega) (by simp) rfl rfl (by simp) (by simp)).mono ?_
        rintro e w3 ⟨v3, rfl, ⟨r3, hr3, rfl⟩, hs3, hg3⟩
        have HG3 := Lib.hid (gr_same HG2.out hg3); have HS3 := Lib.hid hs3; have HR3 := Lib.hid hr3; clear hs3 hg3 hr3
        go_wp2_with fail
        refine (pick_new sb _ [0, 0, 5, 10] _ HS3.out (by omega) (by simp) rfl rfl (by simp) (by simp)).mono ?_
        rintro e w4 ⟨v4, rfl, ⟨r4, hr4, rfl⟩, hs4, hg4⟩
        have HG4 := Lib.hid (gr_same HG3.out hg4); have HS4 := Lib.hid hs4; have HR4 := Lib.hid hr4; clear hs4 hg4 hr4
        have z4 := HG4.out.size
        have HAN := Lib.hid (show AgS 0 ky 0 ⟨ky, none, 0, 0, r2, r3, none, 0, 0, r4, [], []⟩ from by
          have h2 := HR2.out; have h3 := HR3.out; have h4 := HR4.out
          simp only [List.mem_cons, List.not_mem_nil, or_false] at h2 h3 h4
          exact ⟨⟨by dsimp only; omega, by dsimp only; omega, by dsimp only; omega, by dsimp only; omega, by dsimp only; omega, (fun p hp => by cases hp), (fun p hp => by cases hp)⟩, rfl, ⟨by dsimp only; omega, by dsimp only; omega, by dsimp only; omega⟩, (fun p hp => by cases hp), List.Pairwise.nil, (fun p hp => by cases hp), List.Pairwise.nil⟩)
        clear HR2 HR3 HR4 HG1 HG2 HG3 HS1 HS2 HS3
        have HAB := Lib.hid (show AgB wo sb w4.heap.size (m + 30 * k + 4) ⟨ky, none, 0, 0, r2, r3, none, 0, 0, r4, [], []⟩ ((w4.alloc (.cells #[.string ky, .slice none 0 0, .int .i64 r2, .int .i64 r3, .slice none 0 0, .int .i64 r4] 81)).alloc (.cells #[.string ⟨#[104, 101, 108, 112]⟩, .string ⟨#[115, 97, 108, 101]⟩] 9)) from
          ⟨((HS4.out.alloc _).alloc _).mono (by omega), gr_alloc (gr_alloc HG4.out _) _, by omega, (Blk.new w4 _ _).alloc _, ⟨Nat.le_trans hky (by decide), (fun s hs => by cases hs), Nat.zero_le _, Nat.zero_le _⟩, OwnR.nil _ _ _, OwnR.nil _ _ _⟩)
        have HNB := Lib.hid (blk_new (w4.alloc (.cells #[.string ky, .slice none 0 0, .int .i64 r2, .int .i64 r3, .slice none 0 0, .int .i64 r4] 81)) 9 #[.string ⟨#[104, 101, 108, 112]⟩, .string ⟨#[115, 97, 108, 101]⟩] (g := w4.heap.size + 1) (by simp))
        clear HS4 HG4
        go_wp2_with fail
        go_loopw [8, 32] (fun _ t wr => RaInR ky wo sb w4.heap.size (m + 30 * k + 4) t wr) (fun _ t _ => 2 - (intOf t).toNat)
        case atStart => exact ⟨0, _, by omega, rfl, by simpa using HAB.out, HNB.out, Nat.zero_le _, Nat.zero_le _, HAN.out⟩
        case round =>
          clear HAB HNB HAN
          obtain ⟨j, a, hj, rfl, hab, hnb, hsn, hpn, han⟩ := hrel
          have HAN := Lib.hid han; clear han
          have HAB := Lib.hid hab; have HNB := Lib.hid hnb
          have zab := hab.2.2.2.1.lt
          have znb := hnb.lt
          have zw := hab.2.1.size
          clear hab hnb
          by_cases hlt3 : j < 2
          · obtain ⟨nm, hnp, hnm, hnc⟩ := names2A j hlt3 HNB.out
            have HNP := Lib.hid hnp; clear hnp
            go_wp2_with fail
            refine (flip_any sb _ 3 _ HAB.out.1 (by omega) (by omega) (by omega)).mono ?_
            rintro e w5 ⟨v5, rfl, ⟨f5, rfl⟩, hs5, hg5⟩
            replace HAB := Lib.hid (HAB.out.step (by omega) hs5 hg5)
            replace HNB := Lib.hid (HNB.out.grown hg5 (by simp; omega))
            have z5 := hg5.size
            clear hs5 hg5 hnc
            cases f5
            · have cP := HAB.out.2.2.2.1.cell 1
              have zab5 : w4.heap.size < w5.heap.size := by omega
              go_wp2_with fail
              go_region_law (first
                | (refine step_app _ (by rfl) _ _ Tryz.sksT (by rfl) wo.heap.size a.sA a.sn a.sc (a.sk.flatMap skRow) (by rfl) (by exact HO7.out.alloc _) _ _ 1 1 [.string nm, .int .i64 r7] (by rfl) (by exact Reads.one _ _ _ _ rfl) (by simp [Value.oneCell']) (by unfold maxLen; omega) (by omega) (by simp; omega) ?_
                   intro A1 c1 w8 h8
                   have HB8 := Lib.hid ((HB7.out.alloc _).grown h8.2.1 (Ne.symm (HO7.out.blk_ne HB7.out (by decide))))
                   have H8 := Lib.hid h8
                   have c8 := HB8.out.cell 1
                   have f8 := HB8.out.frozen 1
                   clear h8)
                | (go_simp
                   go_at_call 14
                   refine (pick_newD sb _ [1, 1, 2, 5] _ (by exact HAB.out.1) (by omega) rfl rfl rfl (by simp) (by simp)).mono ?_
                   rintro e w7 ⟨v7, rfl, ⟨r7, hr7, rfl⟩, hs7, hg7⟩
                   have hgx : w5.grownBy w7 (some sb) := hg7
                   have HB7 := Lib.hid (HAB.out.2.2.2.1.grown hgx (by simp; omega))
                   have HO7 := Lib.hid (HAB.out.2.2.2.2.low hgx (fun g e => by injection e with e; omega)).2.1.1
                   have z7 := hgx.size
                   have y7 : w4.heap.size < w7.heap.size := by omega
                   have HG7 := Lib.hid hgx
                   have HS7 := Lib.hid hs7
                   have c7 := HB7.out.cell 1
                   have HR7 := Lib.hid hr7
                   clear hs7 hg7 hgx hr7)
                | fail)
              all_goals
                go_wp2_with fail
                go_roundw
                case rel => exact ⟨j + 1, _, by omega, by go_num, (HAB.out.skill (s := (nm, r7)) (by omega) (by dsimp only; omega) rfl (by omega) ((HS7.out.alloc _).mono (by omega)) (gr_alloc HG7.out _) H8.out), HAB.out.blk HNB.out (gr_alloc HG7.out _) (by omega) (by omega) (HO7.out.alloc _) (by decide) H8.out, by dsimp only; omega, hpn, HAN.out.skill hlt3 HNP.out (by
                have h7 := HR7.out
                simp only [List.mem_cons, List.not_mem_nil, or_false] at h7
                omega)⟩
                case measure => simp [intOf]; omega
            · go_wp2_with fail
              go_roundw
              case rel => exact ⟨j + 1, a, by omega, by go_num, ⟨HAB.out.1.mono (by omega), HAB.out.2⟩, HNB.out, by omega, hpn, HAN.out.mono (by omega) (by omega)⟩
              case measure => simp [intOf]; omega
          · obtain rfl : j = 2 := by omega
            clear HNB
            go_wp2_with fail
            refine (flip_any sb _ 3 _ HAB.out.1 (by omega) (by omega) (by omega)).mono ?_
            rintro e w5 ⟨v5, rfl, ⟨f5, rfl⟩, hs5, hg5⟩
            replace HAB := Lib.hid (HAB.out.step (by omega) hs5 hg5)
            have z5 := hg5.size
            clear hs5 hg5
            cases f5
            · have hpn2 : a.pn ≤ 2 := by omega
              replace HAN := Lib.hid (HAN.out.mono (B' := 60) (Nat.le_refl 2) (by omega))
              go_wp2_with fail
              refine (flip_any sb _ 6 _ HAB.out.1 (by omega) (by omega) (by omega)).mono ?_
              rintro e w9 ⟨v9, rfl, ⟨f9, rfl⟩, hs9, hg9⟩
              replace HAB := Lib.hid (HAB.out.step (by omega) hs9 hg9)
              clear hs9 hg9
              cases f9
              · go_wp2_with (first
                  | (refine wpl_load_all Tryz.agT rfl _ rfl _ rfl _ _ HAB.out.2.2.2.1 rfl ?_)
                  | (at_builtin
                     refine wpl_app _ rfl _ _ Tryz.agsT rfl w.heap.size A n c _ rfl (by exact (HGA.out.low HAB.out.2.1 (fun g e => by injection e with e; omega)).1.1.alloc _) _ _ 1 1 [.string a.key, .slice a.sA a.sn a.sc, .int .i64 a.fr, .int .i64 a.til, .slice a.pA a.pn a.pc, .int .i64 a.wrap] rfl (by exact reads_at _ _ _ _ rfl (by first | rfl | simp [World.setCell])) (by simp [Value.oneCell']) (by unfold maxLen; omega) (by omega) (by have hq := HAB.out.2.1.size; (try simp at hq); simp; omega) ?_
                     intro A11 c11 w11 h11
                     have H11 := Lib.hid h11; clear h11)
                  | fail)
                go_roundw
                case rel =>
                  have hgo := HAB.out.2.1
                  have zx := hgo.size; (try simp at zx)
                  have hax : w.grownBy _ (some sb) := gr_same HG.out hgo
                  have hGA := (HGA.out.low hgo (fun g e => by injection e with e; omega)).low (gr_alloc (gr_refl _ none) (.cells #[.string a.key, .slice a.sA a.sn a.sc, .int .i64 a.fr, .int .i64 a.til, .slice a.pA a.pn a.pc, .int .i64 a.wrap] 81)) (fun g e => by cases e)
                  have hAO := HAB.out.2.2.2.2.low (gr_alloc (gr_refl _ none) (.cells #[.string a.key, .slice a.sA a.sn a.sc, .int .i64 a.fr, .int .i64 a.til, .slice a.pA a.pn a.pc, .int .i64 a.wrap] 81)) (fun g e => by cases e)
                  refine ⟨k + 1, A11, n + 1, c11, l ++ [a], by omega, by go_num, rfl, (((HAB.out.1.alloc _).grown H11.out.2.1 (fun g e => by have := (HGA.out.1.1.lt e).1; omega)).mono (by omega)), H11.out.gr (gr_alloc hax _) hGA.1.1 (Nat.le_refl _), ((HKB.out.grown hgo (by simp; omega)).alloc _).grown H11.out.2.1 (Ne.symm (hGA.1.1.blk_ne ((HKB.out.grown hgo (by simp; omega)).alloc _) (by decide))), ?_, by omega, ?_, HAL.out.app hlt2 HKP.out HAN.out (by omega) hsn (show a.pn ≤ 2 by omega)⟩
                  · exact hGA.app hAO zr (fun b hb => ⟨fun g e => ((HGA.out.2.1 b hb).2.1.1.lt e).2, fun g e => ((HGA.out.2.1 b hb).2.2.1.lt e).2⟩) rfl H11.out
                  · intro b hb
                    rcases List.mem_append.1 hb with hb | hb
                    · exact HLB.out b hb
                    · rw [List.mem_singleton.1 hb]; exact ⟨hsn, ⟨(show a.pn ≤ 2 by omega), HAN.out.n⟩⟩
                case measure => simp [intOf]; omega
              · have kp := HAB.out.2.2.2.1.cell 4
                have zab := HAB.out.2.2.2.1.lt
                go_wp2_with (first
                  | (at_builtin
                     refine wpl_app _ rfl _ _ Tryz.winsT rfl wo.heap.size a.pA a.pn a.pc (a.ps.flatMap pwRow) rfl (by exact HAB.out.2.2.2.2.2.2.1.alloc _) _ _ 1 1 [.int .i64 60, .int .i64 90] rfl (by exact Reads.one _ _ _ _ rfl) (by simp [Value.oneCell']) (by unfold maxLen; omega) (by omega) (by have := HAB.out.2.1.size; simp; omega) ?_
                     intro A10 c10 w10 h10
                     have hb10 := (HAB.out.2.2.2.1.alloc (.cells #[.int .i64 60, .int .i64 90] 77)).grown h10.2.1 (Ne.symm (HAB.out.2.2.2.2.2.2.1.blk_ne HAB.out.2.2.2.1 (by decide)))
                     have c10c := hb10.cell 4
                     have c10f := hb10.frozen 4
                     have z10 := h10.2.1.size; simp at z10
                     have HAB0 := HAB
                     replace HAB := Lib.hid (HAB.out.pause (s := (60, 90)) (by omega) rfl (by omega) (HAB.out.1.alloc _) (gr_alloc (gr_refl _ _) _) h10)
                     clear h10 hb10)
                  | (refine wpl_load_all Tryz.agT rfl _ rfl _ rfl _ _ HAB.out.2.2.2.1 rfl ?_)
                  | (at_builtin
                     refine wpl_app _ rfl _ _ Tryz.agsT rfl w.heap.size A n c _ rfl (by exact (HGA.out.low HAB.out.2.1 (fun g e => by injection e with e; omega)).1.1.alloc _) _ _ 1 1 [.string a.key, .slice a.sA a.sn a.sc, .int .i64 a.fr, .int .i64 a.til, .slice A10 (a.pn + 1) c10, .int .i64 a.wrap] rfl (by exact reads_at _ _ _ _ rfl (by first | rfl | simp [World.setCell])) (by simp [Value.oneCell']) (by unfold maxLen; omega) (by omega) (by have hq := HAB.out.2.1.size; (try simp at hq); simp; omega) ?_
                     intro A11 c11 w11 h11
                     have H11 := Lib.hid h11; clear h11)
                  | fail)
                go_roundw
                case rel =>
                  have hgo := HAB.out.2.1
                  have zx := hgo.size; (try simp at zx)
                  have hax : w.grownBy _ (some sb) := gr_same HG.out hgo
                  have hGA := (HGA.out.low hgo (fun g e => by injection e with e; omega)).low (gr_alloc (gr_refl _ none) (.cells #[.string a.key, .slice a.sA a.sn a.sc, .int .i64 a.fr, .int .i64 a.til, .slice A10 (a.pn + 1) c10, .int .i64 a.wrap] 81)) (fun g e => by cases e)
                  have hAO := HAB.out.2.2.2.2.low (gr_alloc (gr_refl _ none) (.cells #[.string a.key, .slice a.sA a.sn a.sc, .int .i64 a.fr, .int .i64 a.til, .slice A10 (a.pn + 1) c10, .int .i64 a.wrap] 81)) (fun g e => by cases e)
                  refine ⟨k + 1, A11, n + 1, c11, l ++ [{ a with pA := A10, pn := a.pn + 1, pc := c10, ps := a.ps ++ [(60, 90)] }], by omega, by go_num, rfl, (((HAB.out.1.alloc _).grown H11.out.2.1 (fun g e => by have := (HGA.out.1.1.lt e).1; omega)).mono (by omega)), H11.out.gr (gr_alloc hax _) hGA.1.1 (Nat.le_refl _), ((HKB.out.grown hgo (by simp; omega)).alloc _).grown H11.out.2.1 (Ne.symm (hGA.1.1.blk_ne ((HKB.out.grown hgo (by simp; omega)).alloc _) (by decide))), ?_, by omega, ?_, HAL.out.app hlt2 HKP.out (HAN.out.pause (y := (60, 90)) (B' := 90) (by decide) (by decide) (by omega)) (by omega) hsn (show a.pn + 1 ≤ 2 by omega)⟩
                  · exact hGA.app hAO zr (fun b hb => ⟨fun g e => ((HGA.out.2.1 b hb).2.1.1.lt e).2, fun g e => ((HGA.out.2.1 b hb).2.2.1.lt e).2⟩) rfl H11.out
                  · intro b hb
                    rcases List.mem_append.1 hb with hb | hb
                    · exact HLB.out b hb
                    · rw [List.mem_singleton.1 hb]; exact ⟨hsn, ⟨(show a.pn + 1 ≤ 2 by omega), (HAN.out.pause (y := (60, 90)) (B' := 90) (by decide) (by decide) (by omega)).n⟩⟩
                case measure => simp [intOf]; omega
            · go_wp2_with fail
              refine (pick_new sb _ [0, 10, 30] _ HAB.out.1 (by omega) (by simp) rfl rfl (by simp) (by simp)).mono ?_
              rintro e w6 ⟨v6, rfl, ⟨r6, hr6, rfl⟩, hs6, hg6⟩
              replace HAB := Lib.hid (HAB.out.step (by omega) hs6 hg6)
              have z6 := hg6.size
              have HR6 := Lib.hid hr6
              clear hs6 hg6 hr6
              have cP := HAB.out.2.2.2.1.cell 4
              have zab6 := HAB.out.2.2.2.1.lt
              go_wp2_with fail
              go_region_law (first
                | (refine step_app _ (by rfl) _ _ Tryz.winsT (by rfl) wo.heap.size a.pA a.pn a.pc (a.ps.flatMap pwRow) (by rfl) (by exact HO7.out.alloc _) _ _ 1 1 [.int .i64 r6, .int .i64 _] (by rfl) (by exact Reads.one _ _ _ _ rfl) (by simp [Value.oneCell']) (by unfold maxLen; omega) (by omega) (by simp; omega) ?_
                   intro A1 c1 w8 h8
                   have HB8 := Lib.hid ((HB7.out.alloc _).grown h8.2.1 (Ne.symm (HO7.out.blk_ne HB7.out (by decide))))
                   have H8 := Lib.hid h8
                   have c8 := HB8.out.cell 4
                   have f8 := HB8.out.frozen 4
                   clear h8)
                | (go_simp
                   go_at_call 14
                   refine (pick_newD sb _ [5, 20] _ (by exact HAB.out.1) (by omega) rfl rfl rfl (by simp) (by simp)).mono ?_
                   rintro e w7 ⟨v7, rfl, ⟨r7, hr7, rfl⟩, hs7, hg7⟩
                   have hgx : w6.grownBy w7 (some sb) := hg7
                   have HB7 := Lib.hid (HAB.out.2.2.2.1.grown hgx (by simp; omega))
                   have HO7 := Lib.hid (HAB.out.2.2.2.2.low hgx (fun g e => by injection e with e; omega)).2.2.1
                   have z7 := hgx.size
                   have y7 : w4.heap.size < w7.heap.size := by omega
                   have HG7 := Lib.hid hgx
                   have HS7 := Lib.hid hs7
                   have c7 := HB7.out.cell 4
                   have HR7 := Lib.hid hr7
                   clear hs7 hg7 hgx hr7)
                | fail)
              all_goals
                obtain ⟨y, hyn, hyab⟩ : ∃ y : Int × Int, (0 ≤ y.1 ∧ y.1 < y.2 ∧ y.2 ≤ 60) ∧ AgB wo sb w4.heap.size (m + 30 * k + 4 + 2 * (2 : Nat) + 3) { a with pA := A1, pn := a.pn + 1, pc := c1, ps := a.ps ++ [y] } (w8.setCell ⟨w4.heap.size, 4, none⟩ (.slice A1 (a.pn + 1) c1)) := ⟨_, (by
                  have h6 := HR6.out; have h7 := HR7.out
                  simp only [List.mem_cons, List.not_mem_nil, or_false] at h6 h7
                  have hw : IntKind.i64.wrap (r6 + r7) = r6 + r7 := IntWalk.i64_in _ (by omega)
                  rw [hw]
                  dsimp only
                  omega), HAB.out.pause (s := (r6, IntKind.i64.wrap (r6 + r7))) (by omega) rfl (by omega) ((HS7.out.alloc _).mono (by omega)) (gr_alloc HG7.out _) H8.out⟩
                replace HAB := Lib.hid hyab
                replace HAN := Lib.hid (show AgS 2 ky 60 { a with pA := A1, pn := a.pn + 1, pc := c1, ps := a.ps ++ [y] } from HAN.out.pause hyn.1 hyn (by omega))
                clear hyab hyn
                obtain ⟨a, ha⟩ : ∃ a2 : AgV, { a with pA := A1, pn := a.pn + 1, pc := c1, ps := a.ps ++ [y] } = a2 := ⟨_, rfl⟩
                rw [ha] at HAB HAN
                have hsn : a.sn ≤ 2 := by rw [← ha]; exact hsn
                have hpn2 : a.pn ≤ 1 := by rw [← ha]; dsimp only; omega
                clear ha
                go_wp2_with fail
                refine (flip_any sb _ 6 _ HAB.out.1 (by omega) (by omega) (by omega)).mono ?_
                rintro e w9 ⟨v9, rfl, ⟨f9, rfl⟩, hs9, hg9⟩
                replace HAB := Lib.hid (HAB.out.step (by omega) hs9 hg9)
                clear hs9 hg9
                cases f9
                · go_wp2_with (first
                    | (refine wpl_load_all Tryz.agT rfl _ rfl _ rfl _ _ HAB.out.2.2.2.1 rfl ?_)
                    | (at_builtin
                       refine wpl_app _ rfl _ _ Tryz.agsT rfl w.heap.size A n c _ rfl (by exact (HGA.out.low HAB.out.2.1 (fun g e => by injection e with e; omega)).1.1.alloc _) _ _ 1 1 [.string a.key, .slice a.sA a.sn a.sc, .int .i64 a.fr, .int .i64 a.til, .slice a.pA a.pn a.pc, .int .i64 a.wrap] rfl (by exact reads_at _ _ _ _ rfl (by first | rfl | simp [World.setCell])) (by simp [Value.oneCell']) (by unfold maxLen; omega) (by omega) (by have hq := HAB.out.2.1.size; (try simp at hq); simp; omega) ?_
                       intro A11 c11 w11 h11
                       have H11 := Lib.hid h11; clear h11)
                    | fail)
                  go_roundw
                  case rel =>
                    have hgo := HAB.out.2.1
                    have zx := hgo.size; (try simp at zx)
                    have hax : w.grownBy _ (some sb) := gr_same HG.out hgo
                    have hGA := (HGA.out.low hgo (fun g e => by injection e with e; omega)).low (gr_alloc (gr_refl _ none) (.cells #[.string a.key, .slice a.sA a.sn a.sc, .int .i64 a.fr, .int .i64 a.til, .slice a.pA a.pn a.pc, .int .i64 a.wrap] 81)) (fun g e => by cases e)
                    have hAO := HAB.out.2.2.2.2.low (gr_alloc (gr_refl _ none) (.cells #[.string a.key, .slice a.sA a.sn a.sc, .int .i64 a.fr, .int .i64 a.til, .slice a.pA a.pn a.pc, .int .i64 a.wrap] 81)) (fun g e => by cases e)
                    refine ⟨k + 1, A11, n + 1, c11, l ++ [a], by omega, by go_num, rfl, (((HAB.out.1.alloc _).grown H11.out.2.1 (fun g e => by have := (HGA.out.1.1.lt e).1; omega)).mono (by omega)), H11.out.gr (gr_alloc hax _) hGA.1.1 (Nat.le_refl _), ((HKB.out.grown hgo (by simp; omega)).alloc _).grown H11.out.2.1 (Ne.symm (hGA.1.1.blk_ne ((HKB.out.grown hgo (by simp; omega)).alloc _) (by decide))), ?_, by omega, ?_, HAL.out.app hlt2 HKP.out HAN.out (by omega) hsn (show a.pn ≤ 2 by omega)⟩
                    · exact hGA.app hAO zr (fun b hb => ⟨fun g e => ((HGA.out.2.1 b hb).2.1.1.lt e).2, fun g e => ((HGA.out.2.1 b hb).2.2.1.lt e).2⟩) rfl H11.out
                    · intro b hb
                      rcases List.mem_append.1 hb with hb | hb
                      · exact HLB.out b hb
                      · rw [List.mem_singleton.1 hb]; exact ⟨hsn, ⟨(show a.pn ≤ 2 by omega), HAN.out.n⟩⟩
                  case measure => simp [intOf]; omega
                · have kp := HAB.out.2.2.2.1.cell 4
                  have zab := HAB.out.2.2.2.1.lt
                  go_wp2_with (first
                    | (at_builtin
                       refine wpl_app _ rfl _ _ Tryz.winsT rfl wo.heap.size a.pA a.pn a.pc (a.ps.flatMap pwRow) rfl (by exact HAB.out.2.2.2.2.2.2.1.alloc _) _ _ 1 1 [.int .i64 60, .int .i64 90] rfl (by exact Reads.one _ _ _ _ rfl) (by simp [Value.oneCell']) (by unfold maxLen; omega) (by omega) (by have := HAB.out.2.1.size; simp; omega) ?_
                       intro A10 c10 w10 h10
                       have hb10 := (HAB.out.2.2.2.1.alloc (.cells #[.int .i64 60, .int .i64 90] 77)).grown h10.2.1 (Ne.symm (HAB.out.2.2.2.2.2.2.1.blk_ne HAB.out.2.2.2.1 (by decide)))
                       have c10c := hb10.cell 4
                       have c10f := hb10.frozen 4
                       have z10 := h10.2.1.size; simp at z10
                       have HAB0 := HAB
                       replace HAB := Lib.hid (HAB.out.pause (s := (60, 90)) (by omega) rfl (by omega) (HAB.out.1.alloc _) (gr_alloc (gr_refl _ _) _) h10)
                       clear h10 hb10)
                    | (refine wpl_load_all Tryz.agT rfl _ rfl _ rfl _ _ HAB.out.2.2.2.1 rfl ?_)
                    | (at_builtin
                       refine wpl_app _ rfl _ _ Tryz.agsT rfl w.heap.size A n c _ rfl (by exact (HGA.out.low HAB.out.2.1 (fun g e => by injection e with e; omega)).1.1.alloc _) _ _ 1 1 [.string a.key, .slice a.sA a.sn a.sc, .int .i64 a.fr, .int .i64 a.til, .slice A10 (a.pn + 1) c10, .int .i64 a.wrap] rfl (by exact reads_at _ _ _ _ rfl (by first | rfl | simp [World.setCell])) (by simp [Value.oneCell']) (by unfold maxLen; omega) (by omega) (by have hq := HAB.out.2.1.size; (try simp at hq); simp; omega) ?_
                       intro A11 c11 w11 h11
                       have H11 := Lib.hid h11; clear h11)
                    | fail)
                  go_roundw
                  case rel =>
                    have hgo := HAB.out.2.1
                    have zx := hgo.size; (try simp at zx)
                    have hax : w.grownBy _ (some sb) := gr_same HG.out hgo
                    have hGA := (HGA.out.low hgo (fun g e => by injection e with e; omega)).low (gr_alloc (gr_refl _ none) (.cells #[.string a.key, .slice a.sA a.sn a.sc, .int .i64 a.fr, .int .i64 a.til, .slice A10 (a.pn + 1) c10, .int .i64 a.wrap] 81)) (fun g e => by cases e)
                    have hAO := HAB.out.2.2.2.2.low (gr_alloc (gr_refl _ none) (.cells #[.string a.key, .slice a.sA a.sn a.sc, .int .i64 a.fr, .int .i64 a.til, .slice A10 (a.pn + 1) c10, .int .i64 a.wrap] 81)) (fun g e => by cases e)
                    refine ⟨k + 1, A11, n + 1, c11, l ++ [{ a with pA := A10, pn := a.pn + 1, pc := c10, ps := a.ps ++ [(60, 90)] }], by omega, by go_num, rfl, (((HAB.out.1.alloc _).grown H11.out.2.1 (fun g e => by have := (HGA.out.1.1.lt e).1; omega)).mono (by omega)), H11.out.gr (gr_alloc hax _) hGA.1.1 (Nat.le_refl _), ((HKB.out.grown hgo (by simp; omega)).alloc _).grown H11.out.2.1 (Ne.symm (hGA.1.1.blk_ne ((HKB.out.grown hgo (by simp; omega)).alloc _) (by decide))), ?_, by omega, ?_, HAL.out.app hlt2 HKP.out (HAN.out.pause (y := (60, 90)) (B' := 90) (by decide) (by decide) (by omega)) (by omega) hsn (show a.pn + 1 ≤ 2 by omega)⟩
                    · exact hGA.app hAO zr (fun b hb => ⟨fun g e => ((HGA.out.2.1 b hb).2.1.1.lt e).2, fun g e => ((HGA.out.2.1 b hb).2.2.1.lt e).2⟩) rfl H11.out
                    · intro b hb
                      rcases List.mem_append.1 hb with hb | hb
                      · exact HLB.out b hb
                      · rw [List.mem_singleton.1 hb]; exact ⟨hsn, ⟨(show a.pn + 1 ≤ 2 by omega), (HAN.out.pause (y := (60, 90)) (B' := 90) (by decide) (by decide) (by omega)).n⟩⟩
                  case measure => simp [intOf]; omega
      · replace HGA := Lib.hid (HGA.out.low hg1 (fun g e => by injection e with e; omega))
        replace HKB := Lib.hid (HKB.out.grown hg1 (by simp; omega))
        replace HG := Lib.hid (gr_same HG.out hg1); clear hg1
        replace HS := Lib.hid hs1; clear hs1
        go_wp2_with fail
        go_roundw
        case rel => exact ⟨k + 1, A, n, c, l, by omega, by go_num, rfl, HS.out.mono (by omega), HG.out, HKB.out, HGA.out, by omega, HLB.out, HAL.out.mono (by omega)⟩
        case measure => simp [intOf]; omega
    · obtain rfl : k = 3 := by omega
      go_wp2_with fail
      go_ret
      exact ⟨_, rfl, ⟨A, n, c, l, rfl, HGA.out, hnk, HAL.out.e (by rw [HGA.out.1.2]; exact hnk), fun a ha => by obtain ⟨_, _, _, _, _, h⟩ := HAL.out.all a ha; exact h⟩, HS.out.mono (by omega), HG.out⟩
end Go.Proofs.YtpildcnoghojpaaGreatDoor

/- Contract of setOf. Conditions: none. -/
import Derived.Test.YtpjheibkacbbcaaGreatDoorRefPat1
namespace Go.Proofs.YtpjheibkacbbcaaGreatDoor
section
open Go.RowKit

theorem bv64 (a : Nat) (ha : a < 9223372036854775808) : (BitVec.ofInt 64 (a : Int)).toNat = a := by
  rw [BitVec.ofInt_natCast, BitVec.toNat_ofNat]; exact Nat.mod_eq_of_lt (by omega)
theorem i64_and' (a b : Nat) (ha : a < 9223372036854775808) (hb : b < 9223372036854775808) : bits .and .i64 (a : Int) (b : Int) = ((a &&& b : Nat) : Int) := by
  have hx : a &&& b < 2 ^ 63 := Nat.and_lt_two_pow _ (by omega)
  show IntKind.i64.wrap ((BitVec.ofInt 64 (a : Int) &&& BitVec.ofInt 64 (b : Int)).toNat : Int) = _
  rw [BitVec.toNat_and, bv64 a ha, bv64 b hb, IntKind.wrap_i64]
  omega
theorem bit_test (k d : Nat) (hk : k < 9223372036854775808) : bits .and .i64 ((k : Int) / 2 ^ d) 1 = if k.testBit d then 1 else 0 := by
  have e : (k : Int) / 2 ^ d = ((k / 2 ^ d : Nat) : Int) := by rw [Int.natCast_ediv, Int.natCast_pow]; rfl
  have hle : k / 2 ^ d ≤ k := Nat.div_le_self _ _
  have h := i64_and' (k / 2 ^ d) 1 (by omega) (by omega)
  rw [e]
  have h2 : (k / 2 ^ d) &&& 1 = k / 2 ^ d % 2 := Nat.and_one_is_mod _
  rw [h2] at h
  have h3 : k.testBit d = decide (k / 2 ^ d % 2 = 1) := Nat.testBit_eq_decide_div_mod_eq
  rw [h3]
  have h4 : ((1 : Nat) : Int) = 1 := rfl
  rw [h4] at h
  rw [h]
  by_cases hc : k / 2 ^ d % 2 = 1
  · simp [hc]
  · have : k / 2 ^ d % 2 = 0 := by omega
    simp [this]
def setTo (m : Nat) : Nat → List Nat
  | 0 => []
  | d + 1 => setTo m d ++ (if m.testBit d then [48 + d] else [])
theorem setTo_range (m d : Nat) : setTo m d = (List.range' 48 d).filter (fun c => m.testBit (c - 48)) := by
  induction d with
  | zero => rfl
  | succ d ih =>
    rw [setTo, ih, List.range'_concat, List.filter_append]
    congr 1
    rw [Nat.one_mul, List.filter_cons, List.filter_nil, Nat.add_sub_cancel_left]
theorem setTo_ten (m : Nat) : setTo m 10 = setS m := setTo_range m 10
theorem setTo_len (m d : Nat) : (setTo m d).length ≤ d := by
  induction d with
  | zero => simp [setTo]
  | succ d ih => unfold setTo; rw [List.length_append]; split <;> simp <;> omega
theorem setTo_bd (m d : Nat) (hd : d ≤ 10) : ∀ b ∈ setTo m d, 48 ≤ b ∧ b ≤ 57 := by
  induction d with
  | zero => simp [setTo]
  | succ d ih =>
    unfold setTo
    intro b hb
    rcases List.mem_append.1 hb with h | h
    · exact ih (by omega) b h
    · split at h
      · rw [List.mem_singleton.1 h]; omega
      · cases h
def fndS (l : List Nat) : List Nat := (findM l 1024).elim [] setS
theorem findM_next {l : List Nat} {k : Nat} (h : findM l k = none) (hn : (goodS (setS k) && stL (setS k) == l) = false) : findM l (k + 1) = none := by
  rw [findM, h]; simp only; rw [hn]; rfl
theorem findM_hit {l : List Nat} {k : Nat} (h : findM l k = none) (hn : (goodS (setS k) && stL (setS k) == l) = true) : findM l (k + 1) = some k := by
  rw [findM, h]; simp only; rw [if_pos hn]
theorem findM_more {l : List Nat} {k m : Nat} (h : findM l k = some m) (j : Nat) : findM l (k + j) = some m := by
  induction j with
  | zero => exact h
  | succ j ih => rw [← Nat.add_assoc, findM, ih]
theorem fndS_hit {l : List Nat} {k : Nat} (h : findM l (k + 1) = some k) (hk : k < 1024) : fndS l = setS k := by
  unfold fndS
  obtain ⟨j, hj⟩ : ∃ j, 1024 = k + 1 + j := ⟨1023 - k, by omega⟩
  rw [hj, findM_more h j]
  rfl
theorem fndS_none {l : List Nat} (N : Nat) (hN : N = 1024) (h : findM l N = none) : fndS l = [] := by unfold fndS; rw [← hN, h]; rfl
theorem stF_bd {set : List Nat} (hs : ∀ b ∈ set, b ≤ 57) {f i : Nat} {o : List Nat} (ho : ∀ b ∈ o, b < 256) : ∀ b ∈ stF set f i o, b < 256 := by
  have hget : ∀ j, set.getD j 0 < 256 := by
    intro j
    rw [List.getD_eq_getElem?_getD]
    cases hj : set[j]? with
    | none => simp
    | some z => have := hs z (mem_of_get hj); simp; omega
  induction f generalizing i o with
  | zero => exact ho
  | succ f ih =>
    unfold stF
    split
    · refine ih (fun b hb => ?_)
      rcases List.mem_append.1 hb with h | h
      · exact ho b h
      · unfold pc at h
        split at h
        · rw [List.mem_singleton.1 h]; exact hget _
        · split at h
          · rcases List.mem_cons.1 h with rfl | h
            · exact hget _
            · rw [List.mem_singleton.1 h]; exact hget _
          · rcases List.mem_cons.1 h with rfl | h
            · exact hget _
            · rcases List.mem_cons.1 h with rfl | h
              · omega
              · rw [List.mem_singleton.1 h]; exact hget _
    · exact ho
theorem stL_bd {set : List Nat} (hs : ∀ b ∈ set, b ≤ 57) : ∀ b ∈ stL set, b < 256 := by
  unfold stL
  intro b hb
  rcases List.mem_append.1 hb with h | h
  · rcases List.mem_append.1 h with h | h
    · rw [List.mem_singleton.1 h]; omega
    · exact stF_bd hs (by simp) b h
  · rw [List.mem_singleton.1 h]; omega
theorem nb_dgs : nb ⟨#[48, 49, 50, 51, 52, 53, 54, 55, 56, 57]⟩ = dgs := by decide +kernel
def SoLoop (w : World) (l : List Nat) (v : Value) (wr : World) : Prop := ∃ k : Nat, v = .int .i64 k ∧ k ≤ 1024 ∧ findM l k = none ∧ w.grownBy wr none

set_option maxRecDepth 100000 in
set_option maxHeartbeats 8000000 in
theorem setOf_any (s : ByteArray) (w : World) (hs : s.size ≤ 1000) : Calls Tryz.prog 275 #[.string s] w (RetV (.string (strN (fndS (nb s)))) w) := by
  obtain ⟨l, hl⟩ : ∃ l, nb s = l := ⟨_, rfl⟩
  have HL := Lib.hid hl
  rw [hl]; clear hl
  obtain ⟨dg, hdg⟩ : ∃ dg, (⟨#[48, 49, 50, 51, 52, 53, 54, 55, 56, 57]⟩ : ByteArray) = dg := ⟨_, rfl⟩
  have HDG := Lib.hid (show nb dg = dgs by rw [← hdg]; exact nb_dgs)
  have dgz : dg.size = 10 := by rw [← nb_len, HDG.out]; rfl
  have dg10 : 10 ≤ dg.size := by omega
  have j0 : (1 : Int) ≤ (dg.size : Int) := by omega
  have j1 : (2 : Int) ≤ (dg.size : Int) := by omega
  have hap := strN_append
  have HDZ := Lib.hid dgz; clear dgz
  go_enter Tryz.func275, Tryz.ntmps275
  go_wp2_with fail
  go_loopw [3, 4, 5, 6, 9] (fun _ _ _ t _ wr => SoLoop w l t wr) (fun _ _ _ t _ _ => 1024 - (intOf t).toNat)
  case atStart => exact ⟨0, rfl, by omega, rfl, gr_refl _ _⟩
  case round =>
    obtain ⟨k, rfl, hk, hfm, hg⟩ := hrel
    have HF := Lib.hid hfm; have HG := Lib.hid hg
    clear hfm hg
    by_cases hlt : k < 1024
    · have d0 : decide ((k : Int) < 1024) = true := decide_eq_true (by omega)
      obtain ⟨wo, rfl⟩ : ∃ wo : World, wo = wr := ⟨_, rfl⟩
      go_wp2_with fail
      go_loop [4, 5, 9] (fun v _ t => ∃ d : Nat, d ≤ 10 ∧ t = .int .i64 d ∧ v = .string (strN (setTo k d))) (fun _ _ t => 10 - (intOf t).toNat)
      case atStart => exact ⟨0, by omega, rfl, rfl⟩
      case round =>
        obtain ⟨d, hd, rfl, rfl⟩ := hrel
        have hsl := setTo_len k d
        have hss : (strN (setTo k d)).size ≤ 10 := by rw [strN_size]; omega
        by_cases hdl : d < 10
        · have d1 : decide ((d : Int) < 10) = true := decide_eq_true (by omega)
          have hbt := bit_test k d (by omega)
          have hx := ext_one (s := dg) (i := d) (by omega)
          rw [HDG.out, show dgs.getD d 0 = 48 + d by rcases (by omega : d = 0 ∨ d = 1 ∨ d = 2 ∨ d = 3 ∨ d = 4 ∨ d = 5 ∨ d = 6 ∨ d = 7 ∨ d = 8 ∨ d = 9) with rfl | rfl | rfl | rfl | rfl | rfl | rfl | rfl | rfl | rfl <;> rfl] at hx
          obtain ⟨x, hxx⟩ : ∃ x, 48 + d = x := ⟨_, rfl⟩
          rw [hxx] at hx
          have HX := Lib.hid hxx
          have hxs : (strN [x]).size ≤ 1 := by rw [strN_size]; simp
          have hdz : (d : Int) + 1 ≤ (dg.size : Int) := by omega
          clear hxx
          cases hb : k.testBit d
          · rw [hb, if_neg (by simp)] at hbt
            have HN := Lib.hid (show setTo k (d + 1) = setTo k d by rw [setTo, hb]; simp)
            clear hb
            go_wp2_with fail
            go_round
            case rel => exact ⟨d + 1, by omega, by go_num, by rw [HN.out]⟩
            case measure => simp [intOf]; omega
          · rw [hb, if_pos rfl] at hbt
            have HN := Lib.hid (show setTo k (d + 1) = setTo k d ++ [x] by rw [setTo, hb, ← HX.out]; rfl)
            clear hb
            go_wp2_with fail
            go_round
            case rel => exact ⟨d + 1, by omega, by go_num, by rw [HN.out]⟩
            case measure => simp [intOf]; omega
        · obtain rfl : d = 10 := by omega
          have hbd := setTo_bd k 10 (by omega)
          rw [setTo_ten] at hbd hsl hss
          rw [setTo_ten]
          obtain ⟨L, hL⟩ : ∃ L, setS k = L := ⟨_, rfl⟩
          rw [hL] at hbd hsl hss
          rw [hL]
          have HLL := Lib.hid hL
          obtain ⟨u, hu⟩ : ∃ u, strN L = u := ⟨_, rfl⟩
          rw [hu] at hss
          rw [hu]
          have HNU := Lib.hid (show nb u = L by rw [← hu]; exact nb_strN (fun b hb => by have := hbd b hb; omega))
          have HUZ := Lib.hid (show u.size = L.length by rw [← nb_len, HNU.out])
          have HU := Lib.hid hu; have HBD := Lib.hid hbd
          obtain ⟨B, hB⟩ : ∃ B, (goodS L && stL L == l) = B := ⟨_, rfl⟩
          have HB := Lib.hid hB
          have d1 : decide (((10 : Nat) : Int) < 10) = false := by decide
          clear hL hu hbd hsl hB
          go_upto_region 11 with (fail)
          go_cut [46] (fun v wx => v = .bool B ∧ wo.grownBy wx none)
          case first =>
            obtain ⟨e1, he1⟩ : ∃ e1, dg.extract 1 dg.size = e1 := ⟨_, rfl⟩
            obtain ⟨e2, he2⟩ : ∃ e2, dg.extract 2 dg.size = e2 := ⟨_, rfl⟩
            have HE1 := Lib.hid (show nb e1 = dgs.drop 1 by rw [← he1, nb_extract, ← nb_len, List.take_length, HDG.out])
            have HE2 := Lib.hid (show nb e2 = dgs.drop 2 by rw [← he2, nb_extract, ← nb_len, List.take_length, HDG.out])
            have HGS := Lib.hid (show goodS L = (decide (1 < u.size) && L != dgs && L != dgs.drop 1 && L != dgs.drop 2) by unfold goodS; rw [HUZ.out])
            by_cases h1 : 1 < u.size
            · have q1 : decide ((1 : Int) < (u.size : Int)) = true := decide_eq_true (by omega)
              by_cases h2 : L = dgs
              · have q2 : (u.toList == dg.toList) = true := by rw [list_beq_nb, HNU.out, HDG.out, h2]; exact beq_self_eq_true _
                have HQ := Lib.hid (show B = false by rw [← HB.out, HGS.out]; simp [h2])
                go_wp2_with fail
                go_meet
                exact ⟨by rw [HQ.out], gr_refl _ _⟩
              · have q2 : (u.toList == dg.toList) = false := by rw [list_beq_nb, HNU.out, HDG.out]; rw [beq_eq_false_iff_ne]; exact h2
                by_cases h3 : L = dgs.drop 1
                · have q3 : (u.toList == e1.toList) = true := by rw [list_beq_nb, HNU.out, HE1.out, h3]; exact beq_self_eq_true _
                  have HQ := Lib.hid (show B = false by rw [← HB.out, HGS.out]; simp [h3])
                  go_wp2_with fail
                  go_meet
                  exact ⟨by rw [HQ.out], gr_refl _ _⟩
                · have q3 : (u.toList == e1.toList) = false := by rw [list_beq_nb, HNU.out, HE1.out]; rw [beq_eq_false_iff_ne]; exact h3
                  by_cases h4 : L = dgs.drop 2
                  · have q4 : (u.toList == e2.toList) = true := by rw [list_beq_nb, HNU.out, HE2.out, h4]; exact beq_self_eq_true _
                    have HQ := Lib.hid (show B = false by rw [← HB.out, HGS.out]; simp [h4])
                    go_wp2_with fail
                    go_meet
                    exact ⟨by rw [HQ.out], gr_refl _ _⟩
                  · have q4 : (u.toList == e2.toList) = false := by rw [list_beq_nb, HNU.out, HE2.out]; rw [beq_eq_false_iff_ne]; exact h4
                    obtain ⟨x, hx⟩ : ∃ x, strN (stL L) = x := ⟨_, rfl⟩
                    have q5 : (x.toList == s.toList) = B := by
                      rw [list_beq_nb, ← hx, nb_strN (stL_bd (fun b hb => (HBD.out b hb).2)), HL.out, ← HB.out, HGS.out]
                      have h3' : ¬ L = dgs.tail := h3
                      simp [h1, h2, h3', h4]
                    have HX := Lib.hid hx
                    clear h2 h3 h4 hx
                    go_wp2_with (first
                      | (go_at_call 300
                         refine (setText_any u L _ HNU.out (fun b hb => (HBD.out b hb).2) (by omega)).mono ?_
                         rintro e w3 ⟨rfl, hg3⟩
                         rw [HX.out]
                         have HG3 := Lib.hid hg3; clear hg3)
                      | fail)
                    go_meet
                    exact ⟨rfl, HG3.out⟩
            · have q1 : decide ((1 : Int) < (u.size : Int)) = false := decide_eq_false (by omega)
              have HQ := Lib.hid (show B = false by rw [← HB.out, HGS.out, decide_eq_false h1]; rfl)
              go_wp2_with fail
              go_meet
              exact ⟨by rw [HQ.out], gr_refl _ _⟩
          case rest =>
            obtain ⟨rfl, hgc⟩ := hcut
            have HGC := Lib.hid (gr_none HG.out hgc); clear hgc
            cases B
            · have HN := Lib.hid (show findM l (k + 1) = none from findM_next HF.out (by rw [HLL.out]; exact HB.out))
              go_wp2_with fail
              go_roundw
              case rel => exact ⟨k + 1, by go_num, by omega, HN.out, HGC.out⟩
              case measure => simp [intOf]; omega
            · have HN := Lib.hid (show fndS l = setS k from fndS_hit (findM_hit HF.out (by rw [HLL.out]; exact HB.out)) hlt)
              go_wp2_with fail
              go_ret
              exact ⟨by rw [HN.out, HLL.out, HU.out]; rfl, HGC.out⟩
    · obtain rfl : k = 1024 := by omega
      have d0 : decide (((1024 : Nat) : Int) < 1024) = false := by decide
      go_wp2_with fail
      go_ret
      exact ⟨by rw [fndS_none 1024 rfl HF.out]; rfl, HG.out⟩
end
end Go.Proofs.YtpjheibkacbbcaaGreatDoor
/- Contract of shapeOf: lemmas. Conditions: none. -/
namespace Go.Proofs.YtpjheibkacbbcaaGreatDoor
section
open Go.RowKit

theorem mem_tail_of {l : List Nat} (h : l.headD 0 = 91) (h0 : l ≠ []) : l = 91 :: l.tail := by
  cases l with
  | nil => exact absurd rfl h0
  | cons a l => simp at h; rw [h]; rfl
theorem idx_brk {l : List Nat} (h : l.headD 0 = 91) (h0 : l ≠ []) : idxL l 93 = if 93 ∈ l.tail then (((l.tail.takeWhile (· != 93)).length + 1 : Nat) : Int) else -1 := by
  cases l with
  | nil => exact absurd rfl h0
  | cons a t =>
    have ha : a = 91 := h
    subst ha
    show idxL (91 :: t) 93 = if 93 ∈ t then (((t.takeWhile (· != 93)).length + 1 : Nat) : Int) else -1
    unfold idxL
    have e : (93 ∈ (91 :: t)) ↔ 93 ∈ t := by simp
    by_cases hm : 93 ∈ t
    · rw [if_pos (e.2 hm), if_pos hm]; rfl
    · rw [if_neg (fun h => hm (e.1 h)), if_neg hm]
theorem drop_brk {l : List Nat} (h : 93 ∈ l) : ∃ r, l = l.takeWhile (· != 93) ++ 93 :: r := by
  induction l with
  | nil => cases h
  | cons a l ih =>
    by_cases ha : a = 93
    · subst ha; exact ⟨l, by simp⟩
    · have : 93 ∈ l := by simpa [Ne.symm ha] using h
      obtain ⟨r, hr⟩ := ih this
      refine ⟨r, ?_⟩
      have hb : (a != 93) = true := by simpa using ha
      rw [List.takeWhile_cons, hb]
      simp only [if_true, List.cons_append]
      rw [← hr]
theorem take_brk {l : List Nat} (h : l.headD 0 = 91) (h0 : l ≠ []) (hm : 93 ∈ l.tail) : l.take ((l.tail.takeWhile (· != 93)).length + 2) = [91] ++ l.tail.takeWhile (· != 93) ++ [93] := by
  obtain ⟨r, hr⟩ := drop_brk hm
  conv => lhs; rw [mem_tail_of h h0]
  simp only [List.tail_cons]
  rw [List.take_succ_cons]
  conv => lhs; arg 2; arg 2; rw [hr]
  rw [List.take_append, List.take_of_length_le (by omega)]
  simp
theorem fnd_some {b : List Nat} {M : Nat} (h : setM b = some M) : fndS ([91] ++ b ++ [93]) = setStr M := by
  obtain ⟨N, hN⟩ : ∃ N, N = 1024 := ⟨_, rfl⟩
  have h1 := (setM_findN b N hN).1
  have h2 := (setM_findN b N hN).2 M h
  unfold fndS
  rw [← hN, h1, h]
  show setS (M / 4) = setStr M
  have h3 := (psL_bd (setM_some h).1).2
  have := setStr_four ⟨M / 4, by omega⟩
  dsimp only at this
  rw [← this]
  congr 1
  omega
theorem fnd_none {b : List Nat} (h : setM b = none) : fndS ([91] ++ b ++ [93]) = [] := by
  obtain ⟨N, hN⟩ : ∃ N, N = 1024 := ⟨_, rfl⟩
  have h1 := (setM_findN b N hN).1
  unfold fndS
  rw [← hN, h1, h]
  rfl
theorem setStr_bd (M : Nat) : ∀ b ∈ setStr M, b < 256 := fun b hb => sgn_lt (mem_setStr.1 hb).1
theorem setStr_len (M : Nat) : (setStr M).length ≤ 12 := by unfold setStr; exact List.length_filter_le _ _
theorem elem_ne {l : List Nat} {M k : Nat} (h : elemL l = some (M, k)) : setStr M ≠ [] := by
  have key : ∀ c ∈ sgn, hasM M c = true → setStr M ≠ [] := by
    intro c hc hh e
    have : c ∈ setStr M := mem_setStr.2 ⟨hc, hh⟩
    rw [e] at this; cases this
  unfold elemL at h
  split at h
  · injection h with h; injection h with h1 h2; rw [← h1, setStr_X.1]; decide
  · split at h
    · injection h with h; injection h with h1 h2; rw [← h1, setStr_X.2.1]; decide
    · split at h
      · injection h with h; injection h with h1 h2; rw [← h1, setStr_X.2.2]; decide
      · split at h
        · split at h
          · cases hs : setM (l.tail.takeWhile (· != 93)) with
            | none => rw [hs] at h; cases h
            | some M' =>
              rw [hs] at h
              injection h with h; injection h with h1 h2
              subst h1
              obtain ⟨h3, h4, _⟩ := setM_some hs
              have hM0 : M' ≠ 0 := by rintro rfl; revert h4; decide
              obtain ⟨c, hc, hh⟩ := find_zero (psL_bd h3).2 hM0
              exact key c hc hh
          · cases h
        · split at h
          · rename_i hm
            injection h with h; injection h with h1 h2
            rw [← h1, setStr_only _ hm]
            simp
          · cases h
def sv (M : Nat) : Value := .string (strN (setStr M))
/-- What shapeOf answers. -/
def IsShp (lo : Nat) (l : List Nat) (v : Value) (w : World) : Prop :=
  (∃ (x : List Nat × Nat) (A : Option Addr) (n c : Nat), shpL l = some x ∧ v = .tuple #[.agg #[.slice A n c, .int .u8 x.2], .bool true] ∧ Own w lo 9 1 A n c (x.1.map sv) ∧ x.1.length ≤ 30) ∨
  (shpL l = none ∧ ∃ (A : Option Addr) (n c t : Nat), v = .tuple #[.agg #[.slice A n c, .int .u8 t], .bool false])
def ShpRel (w wr : World) (l : List Nat) (t : ByteArray) (f : Nat) (S : List Nat) (A : Option Addr) (n c : Nat) : Prop :=
  Blk wr w.heap.size 298 #[.slice none 0 0, .int .u8 0] ∧ Blk wr (w.heap.size + 1) 298 #[.slice A n c, .int .u8 0] ∧
  Own wr w.heap.size 9 1 A n c (S.map sv) ∧ w.grownBy wr none ∧ S.length = n ∧ shpF f (nb t) S = shpF (l.length + 1) l []
def ShpLoop (w : World) (l : List Nat) (v : Value) (wr : World) : Prop := ∃ (t : ByteArray) (f : Nat) (S : List Nat) (A : Option Addr) (n c : Nat), v = .string t ∧ t.size + 1 ≤ f ∧ n + t.size ≤ 60 ∧ ShpRel w wr l t f S A n c
theorem Tryz.strT : ElemT Tryz.prog 27 9 1 16 (.string ⟨#[]⟩) := elemT_of Tryz.underlying27 (by kernel_rfl) rfl (by decide)
theorem Tryz.shpT : StructT Tryz.prog 298 2 := ⟨_, Tryz.underlying298, rfl, by kernel_rfl⟩
/-- What an element stands for, and how long it is, by its first byte. -/
theorem elem_sg {l : List Nat} {c M k : Nat} (hl : l.headD 0 = c) (h : c ∈ sgn) (he : elemL l = some (M, k)) : setStr M = [c] ∧ k = 1 := by
  have h1 := elR_sg l c hl h
  rw [elR_some he] at h1
  injection h1 with h1 h2
  rw [h1, setStr_only c h]
  exact ⟨rfl, h2⟩
theorem elem_X {l : List Nat} {M k : Nat} (hl : l.headD 0 = 88) (he : elemL l = some (M, k)) : setStr M = dgs ∧ k = 1 := by
  have h1 := elR_x l hl
  rw [elR_some he] at h1
  injection h1 with h1 h2
  rw [h1]; exact ⟨setStr_X.1, h2⟩
theorem elem_Z {l : List Nat} {M k : Nat} (hl : l.headD 0 = 90) (he : elemL l = some (M, k)) : setStr M = dgs.drop 1 ∧ k = 1 := by
  have h1 := elR_z l hl
  rw [elR_some he] at h1
  injection h1 with h1 h2
  rw [h1]; exact ⟨setStr_X.2.1, h2⟩
theorem elem_N {l : List Nat} {M k : Nat} (hl : l.headD 0 = 78) (he : elemL l = some (M, k)) : setStr M = dgs.drop 2 ∧ k = 1 := by
  have h1 := elR_n l hl
  rw [elR_some he] at h1
  injection h1 with h1 h2
  rw [h1]; exact ⟨setStr_X.2.2, h2⟩
theorem elem_B {l : List Nat} {M k : Nat} (hl : l.headD 0 = 91) (h0 : l ≠ []) (he : elemL l = some (M, k)) : idxL l 93 = ((k - 1 : Nat) : Int) ∧ 2 ≤ k ∧ fndS (l.take k) = setStr M := by
  unfold elemL at he
  rw [if_neg (by omega), if_neg (by omega), if_neg (by omega), if_pos hl] at he
  split at he
  · rename_i hm
    cases hs : setM (l.tail.takeWhile (· != 93)) with
    | none => rw [hs] at he; cases he
    | some M' =>
      rw [hs] at he
      injection he with he; injection he with h1 h2
      subst h1; subst h2
      refine ⟨by rw [idx_brk hl h0, if_pos hm]; rfl, by omega, ?_⟩
      rw [take_brk hl h0 hm, fnd_some hs]
  · cases he
theorem elem_Bno {l : List Nat} (hl : l.headD 0 = 91) (h0 : l ≠ []) (he : elemL l = none) : idxL l 93 = -1 ∨ ∃ k : Nat, idxL l 93 = (k : Int) ∧ k < l.length ∧ fndS (l.take (k + 1)) = [] := by
  unfold elemL at he
  rw [if_neg (by omega), if_neg (by omega), if_neg (by omega), if_pos hl] at he
  split at he
  · rename_i hm
    cases hs : setM (l.tail.takeWhile (· != 93)) with
    | none =>
      refine .inr ⟨_, by rw [idx_brk hl h0, if_pos hm], ?_, ?_⟩
      · have := takeWhile_len hm
        rw [List.length_tail] at this
        omega
      · rw [take_brk hl h0 hm, fnd_none hs]
    | some M' => rw [hs] at he; cases he
  · rename_i hm
    exact .inl (by rw [idx_brk hl h0, if_neg hm])
theorem elem_head {l : List Nat} {c M k : Nat} (hl : l.headD 0 = c) (he : elemL l = some (M, k)) : c ∈ sgn ∨ c = 88 ∨ c = 90 ∨ c = 78 ∨ c = 91 := by
  subst hl
  unfold elemL at he
  split at he
  · omega
  · split at he
    · omega
    · split at he
      · omega
      · split at he
        · omega
        · split at he
          · exact .inl (by assumption)
          · cases he
end
end Go.Proofs.YtpjheibkacbbcaaGreatDoor
/- The order of patterns, in plain Lean. Conditions: none. -/
namespace Go.Proofs.YtpjheibkacbbcaaGreatDoor
section

def ints (l : List Nat) : List Int := l.map (fun n : Nat => (n : Int))
end
end Go.Proofs.YtpjheibkacbbcaaGreatDoor

/- Contract of the generator of seats. Conditions: at most 19 callers. -/
import Derived.Test.YtnmodobkennklaaGreatDoorBun4
import Derived.Test.YtnmodobkennklaaGreatDoorGenQue2
import Derived.Test.YtnmodobkennklaaGreatDoorGenQue3
namespace Go.Proofs.YtnmodobkennklaaGreatDoor
open Go.RowKit

def GSe (w : World) (lo : Nat) (A : Option Addr) (n c : Nat) (l : List SeV) : Prop := OwnR SeV.row 5 w lo 58 A n c l ∧ ∀ z ∈ l, SeOk z
def IsSes (lo most : Nat) (v : Value) (w : World) : Prop := ∃ (A : Option Addr) (n c : Nat) (l : List SeV), v = .slice A n c ∧ Ses w lo A n c l ∧ n ≤ most
section
variable {w w' : World} {lo n c : Nat} {A : Option Addr} {l : List SeV}
theorem GSe.ses (h : GSe w lo A n c l) : Ses w lo A n c l := ⟨h.1.recs, h.2⟩
theorem GSe.low (h : GSe w lo A n c l) {r : Option Nat} (hg : w.grownBy w' r) (hr : ∀ g, r = some g → g < lo) : GSe w' lo A n c l := ⟨h.1.low hg hr, h.2⟩
theorem GSe.set1 {g i j p : Nat} {a a' : SeV} {u : Value} (h : GSe w lo (some ⟨g, 0, none⟩) n c l) (hi : l[i]? = some a) (hj : j < 5) (hr : a'.row = a.row.set j u) (ok : SeOk a') (hp : p = i * 5 + j) : GSe (w.setCell ⟨g, p, none⟩ u) lo (some ⟨g, 0, none⟩) n c (l.set i a') :=
  ⟨h.1.set1 SeV.row_len hi hj hr hp, fun z hz => by
    rcases List.mem_or_eq_of_mem_set hz with h1 | rfl
    · exact h.2 z h1
    · exact ok⟩
theorem Recs.tail5 {g o : Nat} {a : SeV} (h : Recs SeV.row 5 w lo (some ⟨g, o, none⟩) n c (a :: l)) : Recs SeV.row 5 w lo (some ⟨g, o + 5, none⟩) (n - 1) (c - 1) l := by
  obtain ⟨⟨h1, h2, h3⟩, h4⟩ := h
  have hl : l.length + 1 = n := by simpa using h4
  refine ⟨⟨by rw [flat_len SeV.row_len]; congr 1; omega, by omega, fun hp => ?_⟩, by omega⟩
  obtain ⟨g', o', e, hlo, hg, hc⟩ := h3 (by omega)
  injection e with e
  injection e with e1 e2
  subst e1; subst e2
  refine ⟨g, o + 5, rfl, hlo, hg, fun j u hu => ?_⟩
  rw [Nat.add_assoc]
  refine hc (5 + j) u ?_
  rw [List.flatMap_cons, List.getElem?_append_right (by rw [SeV.row_len]; omega), SeV.row_len, Nat.add_sub_cancel_left]
  exact hu
theorem GSe.tail {g : Nat} (h : GSe w lo (some ⟨g, 0, none⟩) n c l) (hn : 0 < n) : Ses w lo (some ⟨g, 5, none⟩) (n - 1) (c - 1) (l.drop 1) := by
  cases l with
  | nil => have := h.1.2; simp at this; omega
  | cons a l =>
    have := Recs.tail5 h.1.recs
    exact ⟨by simpa using this, fun z hz => h.2 z (List.mem_cons_of_mem _ hz)⟩
theorem GSe.tail1 (h : GSe w lo A n c l) (hn : 0 < n) (hc : c = 1) {A' : Option Addr} {c' : Nat} : Ses w lo A' (n - 1) c' (l.drop 1) := by
  have h1 := h.1.1.cap
  have h2 := h.1.2
  have hz : l.drop 1 = [] := List.drop_of_length_le (by omega)
  rw [hz]
  have hn1 : n - 1 = 0 := by omega
  rw [hn1]
  exact ⟨Recs.nil, fun z hz => by cases hz⟩
end
set_option maxHeartbeats 16000000 in
set_option maxRecDepth 100000 in
theorem seats_any (sb lo1 : Nat) (m : Int) (cA : Option Addr) (nn cc : Nat) (C : List CaV) (w : World) (hs : Str w sb m) (hm : m ≤ 10000000000) (hC : Cas w lo1 cA nn cc C) (hsl : sb < lo1) (hnn : nn ≤ 19) :
    Calls Tryz.prog 22 #[.pointer (some ⟨sb, 0, none⟩), .slice cA nn cc] w (Drawn sb (m + 200) (IsSes w.heap.size 19) w) := by
  have hlt := hs.lt
  have HS := Lib.hid hs; clear hs
  have HG := Lib.hid (gr_refl w (some sb))
  have HC := Lib.hid hC
  obtain ⟨E, hE⟩ : ∃ E, casE C = E := ⟨_, rfl⟩
  have HE := Lib.hid hE
  clear hC hE
  go_enter Tryz.func22, Tryz.ntmps22
  go_wp2_with fail
  refine (callersFault_any lo1 cA nn cc C _ HC.out (by omega)).mono ?_
  rintro e w1 ⟨rfl, hg1⟩
  rw [HE.out]
  have z1 := hg1.size
  replace HS := Lib.hid (HS.out.grown hg1 (fun g e => by cases e))
  replace HG := Lib.hid (gr_none HG.out hg1)
  replace HC := Lib.hid (HC.out.grown hg1 (fun g e => by cases e))
  clear hg1
  by_cases hz : E = 0
  · have dz : (E == 0) = true := by simpa using hz
    have HNUM := Lib.hid (fun x hx => caNum_n (casE_num (HE.out.trans hz) x hx))
    clear hz
    go_wp2_with fail
    refine (rightStyle_any sb _ _ (by first | exact HS.out | exact HS.out.alloc _ | exact (HS.out.alloc _).alloc _ | exact ((HS.out.alloc _).alloc _).alloc _ | exact HS.out.drewN _ | exact HS.out.setCell (by simp; omega) _ | exact (HS.out.alloc _).setCell (by simp; omega) _ | exact (HS.out.setCell (by simp; omega) _).alloc _ | exact (HS.out.setCell (by simp; omega) _).drewN _ | exact (HS.out.alloc _).drewN _) (by omega)).mono ?_
    rintro e w2 ⟨v2, rfl, ⟨a, b, s3, rfl, ha1, ha4, hb0⟩, hs2, hg2⟩
    have z2 := hg2.size
    replace HS := Lib.hid hs2
    replace HG := Lib.hid (gr_same HG.out hg2)
    replace HC := Lib.hid (HC.out.grown hg2 (fun g e => by injection e with e; omega))
    clear hs2 hg2
    go_wp2_with fail
    refine (rightAgents_any sb _ _ (by first | exact HS.out | exact HS.out.alloc _ | exact (HS.out.alloc _).alloc _ | exact ((HS.out.alloc _).alloc _).alloc _ | exact HS.out.drewN _ | exact HS.out.setCell (by simp; omega) _ | exact (HS.out.alloc _).setCell (by simp; omega) _ | exact (HS.out.setCell (by simp; omega) _).alloc _ | exact (HS.out.setCell (by simp; omega) _).drewN _ | exact (HS.out.alloc _).drewN _) (by omega)).mono ?_
    rintro e w3 ⟨v3, rfl, ⟨aA, an, ac, AL, rfl, hga, han, hlb⟩, hs3, hg3⟩
    have z3 := hg3.size
    have hgl := hga.1.2
    subst hgl
    have HAG := Lib.hid (show Ags w3 0 aA AL.length ac AL from ⟨hga.ags.1.lower (Nat.zero_le _), fun x hx => ⟨(hga.ags.2 x hx).1, (hga.ags.2 x hx).2.1.lower (Nat.zero_le _), (hga.ags.2 x hx).2.2.lower (Nat.zero_le _)⟩⟩)
    have HAN := Lib.hid (show ∀ x ∈ AL, AgN x ∧ x.key.size ≤ 1000 from fun x hx => ⟨(hlb x hx).2.2, (hga.ags.2 x hx).1.1⟩)
    replace HS := Lib.hid hs3
    replace HG := Lib.hid (gr_same HG.out hg3)
    replace HC := Lib.hid (HC.out.grown hg3 (fun g e => by injection e with e; omega))
    clear hs3 hg3 hga hlb
    have hcl := HC.out.1.len
    subst hcl
    go_wp2_with fail
    refine (playOf_any ⟨a, b, s3⟩ aA ac AL cA cc C _ HAG.out ⟨HC.out.1.lower (Nat.zero_le _), HC.out.2⟩ (by omega) hnn HAN.out (fun x hx => ⟨HNUM.out x hx, HC.out.2 x hx⟩) hb0 ha1 ha4).mono ?_
    rintro e w4 ⟨A, c, rfl, how, hg4, hok⟩
    obtain ⟨l, hl⟩ : ∃ l, (playOf ⟨a, b, s3⟩ AL C).se = l := ⟨_, rfl⟩
    have HGA := Lib.hid (show GSe w4 w.heap.size A C.length c l from ⟨by rw [← hl]; exact how.lower (by omega), fun z hz => by
      rw [← hl] at hz
      have := hok.sv z hz
      exact ⟨this.1, this.2.1, by omega, by omega, by omega, by omega⟩⟩)
    have z4 := hg4.size
    replace HS := Lib.hid (HS.out.grown hg4 (fun g e => by cases e))
    replace HG := Lib.hid (gr_none HG.out hg4)
    clear how hg4 hok hl HC HAG HAN HNUM dz HE ha1 ha4 hb0
    obtain ⟨n, hnq⟩ : ∃ n, C.length = n := ⟨_, rfl⟩
    rw [hnq] at HGA hnn ⊢
    clear hnq
    have hn : n ≤ 19 := hnn
    by_cases hp : 0 < n
    · have hp' : decide ((0 : Int) < (n : Int)) = true := decide_eq_true (by omega)
      have hp2 : decide (0 < n) = true := decide_eq_true hp
      obtain ⟨g, rfl, hgl, hgs⟩ := HGA.out.1.1.pos hp
      go_wp2_with fail
      refine (flip_any sb _ 6 _ (by first | exact HS.out | exact HS.out.alloc _ | exact (HS.out.alloc _).alloc _ | exact ((HS.out.alloc _).alloc _).alloc _ | exact HS.out.drewN _ | exact HS.out.setCell (by simp; omega) _ | exact (HS.out.alloc _).setCell (by simp; omega) _ | exact (HS.out.setCell (by simp; omega) _).alloc _ | exact (HS.out.setCell (by simp; omega) _).drewN _ | exact (HS.out.alloc _).drewN _) (by omega) (by omega) (by omega)).mono ?_
      rintro e w2 ⟨v2, rfl, ⟨f2, rfl⟩, hs2, hg2⟩
      replace HGA := Lib.hid (HGA.out.low hg2 (fun g e => by injection e with e; omega))
      have z2 := hg2.size; try simp at z2
      replace HG := Lib.hid (gr_same (a := w) (by repeat (first | exact HG.out | refine gr_alloc ?_ _ | refine gr_drew ?_ | refine gr_drewN ?_ _ | refine gr_setCell ?_ (.inr (by simp; omega)) _)) hg2); clear hg2
      replace HS := Lib.hid hs2; clear hs2
      cases f2
      · go_wp2_with fail
        refine (flip_any sb _ 30 _ (by first | exact HS.out | exact HS.out.alloc _ | exact (HS.out.alloc _).alloc _ | exact ((HS.out.alloc _).alloc _).alloc _ | exact HS.out.drewN _ | exact HS.out.setCell (by simp; omega) _ | exact (HS.out.alloc _).setCell (by simp; omega) _ | exact (HS.out.setCell (by simp; omega) _).alloc _ | exact (HS.out.setCell (by simp; omega) _).drewN _ | exact (HS.out.alloc _).drewN _) (by omega) (by omega) (by omega)).mono ?_
        rintro e w9 ⟨v9, rfl, ⟨f9, rfl⟩, hs9, hg9⟩
        replace HGA := Lib.hid (HGA.out.low hg9 (fun g e => by injection e with e; omega))
        have z9 := hg9.size; try simp at z9
        replace HG := Lib.hid (gr_same (a := w) (by repeat (first | exact HG.out | refine gr_alloc ?_ _ | refine gr_drew ?_ | refine gr_drewN ?_ _ | refine gr_setCell ?_ (.inr (by simp; omega)) _)) hg9); clear hg9
        replace HS := Lib.hid hs9; clear hs9
        cases f9
        · go_wp2_with fail
          go_ret
          exact ⟨_, rfl, ⟨_, _, _, _, rfl, HGA.out.ses, hn⟩, HS.out.mono (by omega), HG.out⟩
        · have HNP := Lib.hid hp
          have hl1 : (1 : Int) ≤ (n : Int) := by omega
          have hdp : decide ((0 : Int) < (n : Int)) = true := decide_eq_true (by omega)
          by_cases hc1 : c = 1
          · go_wp2_with fail
            go_ret
            exact ⟨_, rfl, ⟨_, _, _, _, rfl, GSe.tail1 HGA.out HNP.out hc1, by omega⟩, HS.out.mono (by omega), HG.out⟩
          · go_wp2_with fail
            go_ret
            exact ⟨_, rfl, ⟨_, _, _, _, rfl, GSe.tail HGA.out HNP.out, by omega⟩, HS.out.mono (by omega), HG.out⟩
      · go_wp2_with fail
        refine (next_any sb _ n _ (by first | exact HS.out | exact HS.out.alloc _ | exact (HS.out.alloc _).alloc _ | exact ((HS.out.alloc _).alloc _).alloc _ | exact HS.out.drewN _ | exact HS.out.setCell (by simp; omega) _ | exact (HS.out.alloc _).setCell (by simp; omega) _ | exact (HS.out.setCell (by simp; omega) _).alloc _ | exact (HS.out.setCell (by simp; omega) _).drewN _ | exact (HS.out.alloc _).drewN _) (by omega) (by omega) (by omega)).mono ?_
        rintro e w3 ⟨v3, rfl, ⟨r3, hlo3, hhi3, rfl⟩, hs3, hg3⟩
        replace HGA := Lib.hid (HGA.out.low hg3 (fun g e => by injection e with e; omega))
        have z3 := hg3.size; try simp at z3
        replace HG := Lib.hid (gr_same (a := w) (by repeat (first | exact HG.out | refine gr_alloc ?_ _ | refine gr_drew ?_ | refine gr_drewN ?_ _ | refine gr_setCell ?_ (.inr (by simp; omega)) _)) hg3); clear hg3
        replace HS := Lib.hid hs3; clear hs3
        obtain ⟨i, rfl⟩ : ∃ i : Nat, r3 = i := ⟨r3.toNat, by omega⟩
        have hin : i < n := by omega
        have hin' : (i : Int) < (n : Int) := by omega
        obtain ⟨x, hx⟩ : ∃ x, l[i]? = some x := ⟨_, List.getElem?_eq_getElem (by rw [HGA.out.1.2]; exact hin)⟩
        obtain ⟨o1, o2, o3, o4, o5, o6⟩ := HGA.out.2 x (mem_of_get hx)
        have HX := Lib.hid hx; clear hx
        go_wp2_with fail
        refine (next_any sb _ 5 _ (by first | exact HS.out | exact HS.out.alloc _ | exact (HS.out.alloc _).alloc _ | exact ((HS.out.alloc _).alloc _).alloc _ | exact HS.out.drewN _ | exact HS.out.setCell (by simp; omega) _ | exact (HS.out.alloc _).setCell (by simp; omega) _ | exact (HS.out.setCell (by simp; omega) _).alloc _ | exact (HS.out.setCell (by simp; omega) _).drewN _ | exact (HS.out.alloc _).drewN _) (by omega) (by omega) (by omega)).mono ?_
        rintro e w4 ⟨v4, rfl, ⟨r4, hlo4, hhi4, rfl⟩, hs4, hg4⟩
        replace HGA := Lib.hid (HGA.out.low hg4 (fun g e => by injection e with e; omega))
        have z4 := hg4.size; try simp at z4
        replace HG := Lib.hid (gr_same (a := w) (by repeat (first | exact HG.out | refine gr_alloc ?_ _ | refine gr_drew ?_ | refine gr_drewN ?_ _ | refine gr_setCell ?_ (.inr (by simp; omega)) _)) hg4); clear hg4
        replace HS := Lib.hid hs4; clear hs4
        rcases (by omega : r4 = 0 ∨ r4 = 1 ∨ r4 = 2 ∨ r4 = 3 ∨ r4 = 4) with rfl | rfl | rfl | rfl | rfl
        · go_wp2_with fail
          refine (some_new (n := 3) sb _ 2 _ (by first | exact HS.out | exact HS.out.alloc _ | exact (HS.out.alloc _).alloc _ | exact ((HS.out.alloc _).alloc _).alloc _ | exact HS.out.drewN _ | exact HS.out.setCell (by simp; omega) _ | exact (HS.out.alloc _).setCell (by simp; omega) _ | exact (HS.out.setCell (by simp; omega) _).alloc _ | exact (HS.out.setCell (by simp; omega) _).drewN _ | exact (HS.out.alloc _).drewN _) (by omega) (by simp) (by
            repeat (first | exact StrsOk.nil _ | refine StrsOk.cons (by decide) ?_)) rfl (by omega) (by omega)).mono ?_
          rintro e w5 ⟨v5, rfl, ⟨y5, rfl, hy5⟩, hs5, hg5⟩
          replace HGA := Lib.hid (HGA.out.low hg5 (fun g e => by injection e with e; omega))
          have z5 := hg5.size; try simp at z5
          replace HG := Lib.hid (gr_same (a := w) (by repeat (first | exact HG.out | refine gr_alloc ?_ _ | refine gr_drew ?_ | refine gr_drewN ?_ _ | refine gr_setCell ?_ (.inr (by simp; omega)) _)) hg5); clear hg5
          replace HS := Lib.hid hs5; clear hs5
          have cX := HGA.out.1.recs.at_ SeV.row_len HX.out 0 _ rfl
          have fX := HGA.out.1.1.frozen (i * 5)
          simp only [Nat.zero_add, Nat.add_zero] at cX fX
          go_upto_region 16 with (fail)
          have hgs : w5.grownBy (w5.setCell ⟨g, i * 5, none⟩ (.string y5)) (some g) := gr_setCell (gr_refl _ _) (.inl rfl) _
          replace HGA := Lib.hid (show GSe (w5.setCell ⟨g, i * 5, none⟩ (.string y5)) w.heap.size (some ⟨g, 0, none⟩) n c (l.set i ⟨y5, x.ag, x.how, x.beg, x.fin⟩) from HGA.out.set1 (j := 0) HX.out (a' := ⟨y5, x.ag, x.how, x.beg, x.fin⟩) (by omega) rfl ⟨Nat.le_trans hy5 (by decide), o2, o3, o4, o5, o6⟩ rfl)
          replace HS := Lib.hid (HS.out.setCell (by simp; omega) (.string y5) : Str (w5.setCell ⟨g, i * 5, none⟩ (.string y5)) sb _)
          replace HG := Lib.hid (show w.grownBy (w5.setCell ⟨g, i * 5, none⟩ (.string y5)) (some sb) from gr_setCell HG.out (.inr (by simp; omega)) _)
          obtain ⟨wq, hwq⟩ : ∃ wq, w5.setCell ⟨g, i * 5, none⟩ (.string y5) = wq := ⟨_, rfl⟩
          have HWQ := Lib.hid hwq
          have zq : w5.heap.size = wq.heap.size := by rw [← hwq]; simp [World.setCell]
          rw [hwq] at HGA HS HG
          rw [HWQ.out]
          clear cX fX hgs hwq HWQ HX
          go_wp2_with fail
          refine (flip_any sb _ 30 _ (by first | exact HS.out | exact HS.out.alloc _ | exact (HS.out.alloc _).alloc _ | exact ((HS.out.alloc _).alloc _).alloc _ | exact HS.out.drewN _ | exact HS.out.setCell (by simp; omega) _ | exact (HS.out.alloc _).setCell (by simp; omega) _ | exact (HS.out.setCell (by simp; omega) _).alloc _ | exact (HS.out.setCell (by simp; omega) _).drewN _ | exact (HS.out.alloc _).drewN _) (by omega) (by omega) (by omega)).mono ?_
          rintro e w9 ⟨v9, rfl, ⟨f9, rfl⟩, hs9, hg9⟩
          replace HGA := Lib.hid (HGA.out.low hg9 (fun g e => by injection e with e; omega))
          have z9 := hg9.size; try simp at z9
          replace HG := Lib.hid (gr_same (a := w) (by repeat (first | exact HG.out | refine gr_alloc ?_ _ | refine gr_drew ?_ | refine gr_drewN ?_ _ | refine gr_setCell ?_ (.inr (by simp; omega)) _)) hg9); clear hg9
          replace HS := Lib.hid hs9; clear hs9
          cases f9
          · go_wp2_with fail
            go_ret
            exact ⟨_, rfl, ⟨_, _, _, _, rfl, HGA.out.ses, hn⟩, HS.out.mono (by omega), HG.out⟩
          · have HNP := Lib.hid hp
            have hl1 : (1 : Int) ≤ (n : Int) := by omega
            have hdp : decide ((0 : Int) < (n : Int)) = true := decide_eq_true (by omega)
            by_cases hc1 : c = 1
            · go_wp2_with fail
              go_ret
              exact ⟨_, rfl, ⟨_, _, _, _, rfl, GSe.tail1 HGA.out HNP.out hc1, by omega⟩, HS.out.mono (by omega), HG.out⟩
            · go_wp2_with fail
              go_ret
              exact ⟨_, rfl, ⟨_, _, _, _, rfl, GSe.tail HGA.out HNP.out, by omega⟩, HS.out.mono (by omega), HG.out⟩
        · go_wp2_with fail
          refine (odd_any sb _ 1 4 _ (by first | exact HS.out | exact HS.out.alloc _ | exact (HS.out.alloc _).alloc _ | exact ((HS.out.alloc _).alloc _).alloc _ | exact HS.out.drewN _ | exact HS.out.setCell (by simp; omega) _ | exact (HS.out.alloc _).setCell (by simp; omega) _ | exact (HS.out.setCell (by simp; omega) _).alloc _ | exact (HS.out.setCell (by simp; omega) _).drewN _ | exact (HS.out.alloc _).drewN _) (by omega) (by omega) (by omega) (by omega)).mono ?_
          rintro e w5 ⟨v5, rfl, ⟨r5, hlo5, hhi5, rfl⟩, hs5, hg5⟩
          replace HGA := Lib.hid (HGA.out.low hg5 (fun g e => by injection e with e; omega))
          have z5 := hg5.size; try simp at z5
          replace HG := Lib.hid (gr_same (a := w) (by repeat (first | exact HG.out | refine gr_alloc ?_ _ | refine gr_drew ?_ | refine gr_drewN ?_ _ | refine gr_setCell ?_ (.inr (by simp; omega)) _)) hg5); clear hg5
          replace HS := Lib.hid hs5; clear hs5
          have cX := HGA.out.1.recs.at_ SeV.row_len HX.out 2 _ rfl
          have fX := HGA.out.1.1.frozen (i * 5 + 2)
          simp only [Nat.zero_add, Nat.add_zero] at cX fX
          go_upto_region 16 with (fail)
          have hgs : w5.grownBy (w5.setCell ⟨g, i * 5 + 2, none⟩ (.int .i64 r5)) (some g) := gr_setCell (gr_refl _ _) (.inl rfl) _
          replace HGA := Lib.hid (show GSe (w5.setCell ⟨g, i * 5 + 2, none⟩ (.int .i64 r5)) w.heap.size (some ⟨g, 0, none⟩) n c (l.set i ⟨x.ca, x.ag, r5, x.beg, x.fin⟩) from HGA.out.set1 (j := 2) HX.out (a' := ⟨x.ca, x.ag, r5, x.beg, x.fin⟩) (by omega) rfl ⟨o1, o2, o3, o4, o5, o6⟩ rfl)
          replace HS := Lib.hid (HS.out.setCell (by simp; omega) (.int .i64 r5) : Str (w5.setCell ⟨g, i * 5 + 2, none⟩ (.int .i64 r5)) sb _)
          replace HG := Lib.hid (show w.grownBy (w5.setCell ⟨g, i * 5 + 2, none⟩ (.int .i64 r5)) (some sb) from gr_setCell HG.out (.inr (by simp; omega)) _)
          obtain ⟨wq, hwq⟩ : ∃ wq, w5.setCell ⟨g, i * 5 + 2, none⟩ (.int .i64 r5) = wq := ⟨_, rfl⟩
          have HWQ := Lib.hid hwq
          have zq : w5.heap.size = wq.heap.size := by rw [← hwq]; simp [World.setCell]
          rw [hwq] at HGA HS HG
          rw [HWQ.out]
          clear cX fX hgs hwq HWQ HX
          go_wp2_with fail
          refine (flip_any sb _ 30 _ (by first | exact HS.out | exact HS.out.alloc _ | exact (HS.out.alloc _).alloc _ | exact ((HS.out.alloc _).alloc _).alloc _ | exact HS.out.drewN _ | exact HS.out.setCell (by simp; omega) _ | exact (HS.out.alloc _).setCell (by simp; omega) _ | exact (HS.out.setCell (by simp; omega) _).alloc _ | exact (HS.out.setCell (by simp; omega) _).drewN _ | exact (HS.out.alloc _).drewN _) (by omega) (by omega) (by omega)).mono ?_
          rintro e w9 ⟨v9, rfl, ⟨f9, rfl⟩, hs9, hg9⟩
          replace HGA := Lib.hid (HGA.out.low hg9 (fun g e => by injection e with e; omega))
          have z9 := hg9.size; try simp at z9
          replace HG := Lib.hid (gr_same (a := w) (by repeat (first | exact HG.out | refine gr_alloc ?_ _ | refine gr_drew ?_ | refine gr_drewN ?_ _ | refine gr_setCell ?_ (.inr (by simp; omega)) _)) hg9); clear hg9
          replace HS := Lib.hid hs9; clear hs9
          cases f9
          · go_wp2_with fail
            go_ret
            exact ⟨_, rfl, ⟨_, _, _, _, rfl, HGA.out.ses, hn⟩, HS.out.mono (by omega), HG.out⟩
          · have HNP := Lib.hid hp
            have hl1 : (1 : Int) ≤ (n : Int) := by omega
            have hdp : decide ((0 : Int) < (n : Int)) = true := decide_eq_true (by omega)
            by_cases hc1 : c = 1
            · go_wp2_with fail
              go_ret
              exact ⟨_, rfl, ⟨_, _, _, _, rfl, GSe.tail1 HGA.out HNP.out hc1, by omega⟩, HS.out.mono (by omega), HG.out⟩
            · go_wp2_with fail
              go_ret
              exact ⟨_, rfl, ⟨_, _, _, _, rfl, GSe.tail HGA.out HNP.out, by omega⟩, HS.out.mono (by omega), HG.out⟩
        · go_wp2_with fail
          refine (some_new (n := 3) sb _ 2 _ (by first | exact HS.out | exact HS.out.alloc _ | exact (HS.out.alloc _).alloc _ | exact ((HS.out.alloc _).alloc _).alloc _ | exact HS.out.drewN _ | exact HS.out.setCell (by simp; omega) _ | exact (HS.out.alloc _).setCell (by simp; omega) _ | exact (HS.out.setCell (by simp; omega) _).alloc _ | exact (HS.out.setCell (by simp; omega) _).drewN _ | exact (HS.out.alloc _).drewN _) (by omega) (by simp) (by
            repeat (first | exact StrsOk.nil _ | refine StrsOk.cons (by decide) ?_)) rfl (by omega) (by omega)).mono ?_
          rintro e w5 ⟨v5, rfl, ⟨y5, rfl, hy5⟩, hs5, hg5⟩
          replace HGA := Lib.hid (HGA.out.low hg5 (fun g e => by injection e with e; omega))
          have z5 := hg5.size; try simp at z5
          replace HG := Lib.hid (gr_same (a := w) (by repeat (first | exact HG.out | refine gr_alloc ?_ _ | refine gr_drew ?_ | refine gr_drewN ?_ _ | refine gr_setCell ?_ (.inr (by simp; omega)) _)) hg5); clear hg5
          replace HS := Lib.hid hs5; clear hs5
          have cX := HGA.out.1.recs.at_ SeV.row_len HX.out 1 _ rfl
          have fX := HGA.out.1.1.frozen (i * 5 + 1)
          simp only [Nat.zero_add, Nat.add_zero] at cX fX
          go_upto_region 16 with (fail)
          have hgs : w5.grownBy (w5.setCell ⟨g, i * 5 + 1, none⟩ (.string y5)) (some g) := gr_setCell (gr_refl _ _) (.inl rfl) _
          replace HGA := Lib.hid (show GSe (w5.setCell ⟨g, i * 5 + 1, none⟩ (.string y5)) w.heap.size (some ⟨g, 0, none⟩) n c (l.set i ⟨x.ca, y5, x.how, x.beg, x.fin⟩) from HGA.out.set1 (j := 1) HX.out (a' := ⟨x.ca, y5, x.how, x.beg, x.fin⟩) (by omega) rfl ⟨o1, Nat.le_trans hy5 (by decide), o3, o4, o5, o6⟩ rfl)
          replace HS := Lib.hid (HS.out.setCell (by simp; omega) (.string y5) : Str (w5.setCell ⟨g, i * 5 + 1, none⟩ (.string y5)) sb _)
          replace HG := Lib.hid (show w.grownBy (w5.setCell ⟨g, i * 5 + 1, none⟩ (.string y5)) (some sb) from gr_setCell HG.out (.inr (by simp; omega)) _)
          obtain ⟨wq, hwq⟩ : ∃ wq, w5.setCell ⟨g, i * 5 + 1, none⟩ (.string y5) = wq := ⟨_, rfl⟩
          have HWQ := Lib.hid hwq
          have zq : w5.heap.size = wq.heap.size := by rw [← hwq]; simp [World.setCell]
          rw [hwq] at HGA HS HG
          rw [HWQ.out]
          clear cX fX hgs hwq HWQ HX
          go_wp2_with fail
          refine (flip_any sb _ 30 _ (by first | exact HS.out | exact HS.out.alloc _ | exact (HS.out.alloc _).alloc _ | exact ((HS.out.alloc _).alloc _).alloc _ | exact HS.out.drewN _ | exact HS.out.setCell (by simp; omega) _ | exact (HS.out.alloc _).setCell (by simp; omega) _ | exact (HS.out.setCell (by simp; omega) _).alloc _ | exact (HS.out.setCell (by simp; omega) _).drewN _ | exact (HS.out.alloc _).drewN _) (by omega) (by omega) (by omega)).mono ?_
          rintro e w9 ⟨v9, rfl, ⟨f9, rfl⟩, hs9, hg9⟩
          replace HGA := Lib.hid (HGA.out.low hg9 (fun g e => by injection e with e; omega))
          have z9 := hg9.size; try simp at z9
          replace HG := Lib.hid (gr_same (a := w) (by repeat (first | exact HG.out | refine gr_alloc ?_ _ | refine gr_drew ?_ | refine gr_drewN ?_ _ | refine gr_setCell ?_ (.inr (by simp; omega)) _)) hg9); clear hg9
          replace HS := Lib.hid hs9; clear hs9
          cases f9
          · go_wp2_with fail
            go_ret
            exact ⟨_, rfl, ⟨_, _, _, _, rfl, HGA.out.ses, hn⟩, HS.out.mono (by omega), HG.out⟩
          · have HNP := Lib.hid hp
            have hl1 : (1 : Int) ≤ (n : Int) := by omega
            have hdp : decide ((0 : Int) < (n : Int)) = true := decide_eq_true (by omega)
            by_cases hc1 : c = 1
            · go_wp2_with fail
              go_ret
              exact ⟨_, rfl, ⟨_, _, _, _, rfl, GSe.tail1 HGA.out HNP.out hc1, by omega⟩, HS.out.mono (by omega), HG.out⟩
            · go_wp2_with fail
              go_ret
              exact ⟨_, rfl, ⟨_, _, _, _, rfl, GSe.tail HGA.out HNP.out, by omega⟩, HS.out.mono (by omega), HG.out⟩
        · go_wp2_with fail
          refine (odd_any sb _ 0 50 _ (by first | exact HS.out | exact HS.out.alloc _ | exact (HS.out.alloc _).alloc _ | exact ((HS.out.alloc _).alloc _).alloc _ | exact HS.out.drewN _ | exact HS.out.setCell (by simp; omega) _ | exact (HS.out.alloc _).setCell (by simp; omega) _ | exact (HS.out.setCell (by simp; omega) _).alloc _ | exact (HS.out.setCell (by simp; omega) _).drewN _ | exact (HS.out.alloc _).drewN _) (by omega) (by omega) (by omega) (by omega)).mono ?_
          rintro e w5 ⟨v5, rfl, ⟨r5, hlo5, hhi5, rfl⟩, hs5, hg5⟩
          replace HGA := Lib.hid (HGA.out.low hg5 (fun g e => by injection e with e; omega))
          have z5 := hg5.size; try simp at z5
          replace HG := Lib.hid (gr_same (a := w) (by repeat (first | exact HG.out | refine gr_alloc ?_ _ | refine gr_drew ?_ | refine gr_drewN ?_ _ | refine gr_setCell ?_ (.inr (by simp; omega)) _)) hg5); clear hg5
          replace HS := Lib.hid hs5; clear hs5
          have cX := HGA.out.1.recs.at_ SeV.row_len HX.out 3 _ rfl
          have fX := HGA.out.1.1.frozen (i * 5 + 3)
          simp only [Nat.zero_add, Nat.add_zero] at cX fX
          go_upto_region 16 with (fail)
          have hgs : w5.grownBy (w5.setCell ⟨g, i * 5 + 3, none⟩ (.int .i64 r5)) (some g) := gr_setCell (gr_refl _ _) (.inl rfl) _
          replace HGA := Lib.hid (show GSe (w5.setCell ⟨g, i * 5 + 3, none⟩ (.int .i64 r5)) w.heap.size (some ⟨g, 0, none⟩) n c (l.set i ⟨x.ca, x.ag, x.how, r5, x.fin⟩) from HGA.out.set1 (j := 3) HX.out (a' := ⟨x.ca, x.ag, x.how, r5, x.fin⟩) (by omega) rfl ⟨o1, o2, by dsimp only; omega, by dsimp only; omega, o5, o6⟩ rfl)
          replace HS := Lib.hid (HS.out.setCell (by simp; omega) (.int .i64 r5) : Str (w5.setCell ⟨g, i * 5 + 3, none⟩ (.int .i64 r5)) sb _)
          replace HG := Lib.hid (show w.grownBy (w5.setCell ⟨g, i * 5 + 3, none⟩ (.int .i64 r5)) (some sb) from gr_setCell HG.out (.inr (by simp; omega)) _)
          obtain ⟨wq, hwq⟩ : ∃ wq, w5.setCell ⟨g, i * 5 + 3, none⟩ (.int .i64 r5) = wq := ⟨_, rfl⟩
          have HWQ := Lib.hid hwq
          have zq : w5.heap.size = wq.heap.size := by rw [← hwq]; simp [World.setCell]
          rw [hwq] at HGA HS HG
          rw [HWQ.out]
          clear cX fX hgs hwq HWQ HX
          go_wp2_with fail
          refine (flip_any sb _ 30 _ (by first | exact HS.out | exact HS.out.alloc _ | exact (HS.out.alloc _).alloc _ | exact ((HS.out.alloc _).alloc _).alloc _ | exact HS.out.drewN _ | exact HS.out.setCell (by simp; omega) _ | exact (HS.out.alloc _).setCell (by simp; omega) _ | exact (HS.out.setCell (by simp; omega) _).alloc _ | exact (HS.out.setCell (by simp; omega) _).drewN _ | exact (HS.out.alloc _).drewN _) (by omega) (by omega) (by omega)).mono ?_
          rintro e w9 ⟨v9, rfl, ⟨f9, rfl⟩, hs9, hg9⟩
          replace HGA := Lib.hid (HGA.out.low hg9 (fun g e => by injection e with e; omega))
          have z9 := hg9.size; try simp at z9
          replace HG := Lib.hid (gr_same (a := w) (by repeat (first | exact HG.out | refine gr_alloc ?_ _ | refine gr_drew ?_ | refine gr_drewN ?_ _ | refine gr_setCell ?_ (.inr (by simp; omega)) _)) hg9); clear hg9
          replace HS := Lib.hid hs9; clear hs9
          cases f9
          · go_wp2_with fail
            go_ret
            exact ⟨_, rfl, ⟨_, _, _, _, rfl, HGA.out.ses, hn⟩, HS.out.mono (by omega), HG.out⟩
          · have HNP := Lib.hid hp
            have hl1 : (1 : Int) ≤ (n : Int) := by omega
            have hdp : decide ((0 : Int) < (n : Int)) = true := decide_eq_true (by omega)
            by_cases hc1 : c = 1
            · go_wp2_with fail
              go_ret
              exact ⟨_, rfl, ⟨_, _, _, _, rfl, GSe.tail1 HGA.out HNP.out hc1, by omega⟩, HS.out.mono (by omega), HG.out⟩
            · go_wp2_with fail
              go_ret
              exact ⟨_, rfl, ⟨_, _, _, _, rfl, GSe.tail HGA.out HNP.out, by omega⟩, HS.out.mono (by omega), HG.out⟩
        · go_wp2_with fail
          refine (odd_any sb _ 0 50 _ (by first | exact HS.out | exact HS.out.alloc _ | exact (HS.out.alloc _).alloc _ | exact ((HS.out.alloc _).alloc _).alloc _ | exact HS.out.drewN _ | exact HS.out.setCell (by simp; omega) _ | exact (HS.out.alloc _).setCell (by simp; omega) _ | exact (HS.out.setCell (by simp; omega) _).alloc _ | exact (HS.out.setCell (by simp; omega) _).drewN _ | exact (HS.out.alloc _).drewN _) (by omega) (by omega) (by omega) (by omega)).mono ?_
          rintro e w5 ⟨v5, rfl, ⟨r5, hlo5, hhi5, rfl⟩, hs5, hg5⟩
          replace HGA := Lib.hid (HGA.out.low hg5 (fun g e => by injection e with e; omega))
          have z5 := hg5.size; try simp at z5
          replace HG := Lib.hid (gr_same (a := w) (by repeat (first | exact HG.out | refine gr_alloc ?_ _ | refine gr_drew ?_ | refine gr_drewN ?_ _ | refine gr_setCell ?_ (.inr (by simp; omega)) _)) hg5); clear hg5
          replace HS := Lib.hid hs5; clear hs5
          have cX := HGA.out.1.recs.at_ SeV.row_len HX.out 4 _ rfl
          have fX := HGA.out.1.1.frozen (i * 5 + 4)
          simp only [Nat.zero_add, Nat.add_zero] at cX fX
          go_upto_region 16 with (fail)
          have hgs : w5.grownBy (w5.setCell ⟨g, i * 5 + 4, none⟩ (.int .i64 r5)) (some g) := gr_setCell (gr_refl _ _) (.inl rfl) _
          replace HGA := Lib.hid (show GSe (w5.setCell ⟨g, i * 5 + 4, none⟩ (.int .i64 r5)) w.heap.size (some ⟨g, 0, none⟩) n c (l.set i ⟨x.ca, x.ag, x.how, x.beg, r5⟩) from HGA.out.set1 (j := 4) HX.out (a' := ⟨x.ca, x.ag, x.how, x.beg, r5⟩) (by omega) rfl ⟨o1, o2, o3, o4, by dsimp only; omega, by dsimp only; omega⟩ rfl)
          replace HS := Lib.hid (HS.out.setCell (by simp; omega) (.int .i64 r5) : Str (w5.setCell ⟨g, i * 5 + 4, none⟩ (.int .i64 r5)) sb _)
          replace HG := Lib.hid (show w.grownBy (w5.setCell ⟨g, i * 5 + 4, none⟩ (.int .i64 r5)) (some sb) from gr_setCell HG.out (.inr (by simp; omega)) _)
          obtain ⟨wq, hwq⟩ : ∃ wq, w5.setCell ⟨g, i * 5 + 4, none⟩ (.int .i64 r5) = wq := ⟨_, rfl⟩
          have HWQ := Lib.hid hwq
          have zq : w5.heap.size = wq.heap.size := by rw [← hwq]; simp [World.setCell]
          rw [hwq] at HGA HS HG
          rw [HWQ.out]
          clear cX fX hgs hwq HWQ HX
          go_wp2_with fail
          refine (flip_any sb _ 30 _ (by first | exact HS.out | exact HS.out.alloc _ | exact (HS.out.alloc _).alloc _ | exact ((HS.out.alloc _).alloc _).alloc _ | exact HS.out.drewN _ | exact HS.out.setCell (by simp; omega) _ | exact (HS.out.alloc _).setCell (by simp; omega) _ | exact (HS.out.setCell (by simp; omega) _).alloc _ | exact (HS.out.setCell (by simp; omega) _).drewN _ | exact (HS.out.alloc _).drewN _) (by omega) (by omega) (by omega)).mono ?_
          rintro e w9 ⟨v9, rfl, ⟨f9, rfl⟩, hs9, hg9⟩
          replace HGA := Lib.hid (HGA.out.low hg9 (fun g e => by injection e with e; omega))
          have z9 := hg9.size; try simp at z9
          replace HG := Lib.hid (gr_same (a := w) (by repeat (first | exact HG.out | refine gr_alloc ?_ _ | refine gr_drew ?_ | refine gr_drewN ?_ _ | refine gr_setCell ?_ (.inr (by simp; omega)) _)) hg9); clear hg9
          replace HS := Lib.hid hs9; clear hs9
          cases f9
          · go_wp2_with fail
            go_ret
            exact ⟨_, rfl, ⟨_, _, _, _, rfl, HGA.out.ses, hn⟩, HS.out.mono (by omega), HG.out⟩
          · have HNP := Lib.hid hp
            have hl1 : (1 : Int) ≤ (n : Int) := by omega
            have hdp : decide ((0 : Int) < (n : Int)) = true := decide_eq_true (by omega)
            by_cases hc1 : c = 1
            · go_wp2_with fail
              go_ret
              exact ⟨_, rfl, ⟨_, _, _, _, rfl, GSe.tail1 HGA.out HNP.out hc1, by omega⟩, HS.out.mono (by omega), HG.out⟩
            · go_wp2_with fail
              go_ret
              exact ⟨_, rfl, ⟨_, _, _, _, rfl, GSe.tail HGA.out HNP.out, by omega⟩, HS.out.mono (by omega), HG.out⟩
    · have hp' : decide ((0 : Int) < (n : Int)) = false := decide_eq_false (by omega)
      have hp2 : decide (0 < n) = false := decide_eq_false hp
      go_wp2_with fail
      refine (flip_any sb _ 30 _ (by first | exact HS.out | exact HS.out.alloc _ | exact (HS.out.alloc _).alloc _ | exact ((HS.out.alloc _).alloc _).alloc _ | exact HS.out.drewN _ | exact HS.out.setCell (by simp; omega) _ | exact (HS.out.alloc _).setCell (by simp; omega) _ | exact (HS.out.setCell (by simp; omega) _).alloc _ | exact (HS.out.setCell (by simp; omega) _).drewN _ | exact (HS.out.alloc _).drewN _) (by omega) (by omega) (by omega)).mono ?_
      rintro e w9 ⟨v9, rfl, ⟨f9, rfl⟩, hs9, hg9⟩
      replace HGA := Lib.hid (HGA.out.low hg9 (fun g e => by injection e with e; omega))
      have z9 := hg9.size; try simp at z9
      replace HG := Lib.hid (gr_same (a := w) (by repeat (first | exact HG.out | refine gr_alloc ?_ _ | refine gr_drew ?_ | refine gr_drewN ?_ _ | refine gr_setCell ?_ (.inr (by simp; omega)) _)) hg9); clear hg9
      replace HS := Lib.hid hs9; clear hs9
      cases f9
      · go_wp2_with fail
        go_ret
        exact ⟨_, rfl, ⟨_, _, _, _, rfl, HGA.out.ses, hn⟩, HS.out.mono (by omega), HG.out⟩
      · have hdp : decide ((0 : Int) < (n : Int)) = false := decide_eq_false (by omega)
        have hdp2 : decide (0 < n) = false := decide_eq_false (by omega)
        go_wp2_with fail
        go_ret
        exact ⟨_, rfl, ⟨_, _, _, _, rfl, HGA.out.ses, hn⟩, HS.out.mono (by omega), HG.out⟩
  · have dz : (E == 0) = false := by simpa using hz
    clear hz
    obtain ⟨n, hnq⟩ : ∃ n : Nat, n = 0 := ⟨0, rfl⟩
    have HGA := Lib.hid (show GSe w1 w.heap.size none 0 0 [] from ⟨OwnR.nil _ _ _, fun z hz => by cases hz⟩)
    clear hnq
    have hn : (0 : Nat) ≤ 19 := by omega
    go_wp2_with fail
    refine (flip_any sb _ 30 _ (by first | exact HS.out | exact HS.out.alloc _ | exact (HS.out.alloc _).alloc _ | exact ((HS.out.alloc _).alloc _).alloc _ | exact HS.out.drewN _ | exact HS.out.setCell (by simp; omega) _ | exact (HS.out.alloc _).setCell (by simp; omega) _ | exact (HS.out.setCell (by simp; omega) _).alloc _ | exact (HS.out.setCell (by simp; omega) _).drewN _ | exact (HS.out.alloc _).drewN _) (by omega) (by omega) (by omega)).mono ?_
    rintro e w9 ⟨v9, rfl, ⟨f9, rfl⟩, hs9, hg9⟩
    replace HGA := Lib.hid (HGA.out.low hg9 (fun g e => by injection e with e; omega))
    have z9 := hg9.size; try simp at z9
    replace HG := Lib.hid (gr_same (a := w) (by repeat (first | exact HG.out | refine gr_alloc ?_ _ | refine gr_drew ?_ | refine gr_drewN ?_ _ | refine gr_setCell ?_ (.inr (by simp; omega)) _)) hg9); clear hg9
    replace HS := Lib.hid hs9; clear hs9
    cases f9
    · go_wp2_with fail
      go_ret
      exact ⟨_, rfl, ⟨_, _, _, _, rfl, HGA.out.ses, hn⟩, HS.out.mono (by omega), HG.out⟩
    · have hdp : decide ((0 : Int) < ((0 : Nat) : Int)) = false := decide_eq_false (by omega)
      have hdp2 : decide (0 < 0) = false := by decide
      go_wp2_with fail
      go_ret
      exact ⟨_, rfl, ⟨_, _, _, _, rfl, HGA.out.ses, hn⟩, HS.out.mono (by omega), HG.out⟩
end Go.Proofs.YtnmodobkennklaaGreatDoor

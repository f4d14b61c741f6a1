/- Plain: the callers, the agent and the hours of TopQueueOpens; h10facts is true. Conditions: the table of math/bits. -/
import Derived.Test.YtelpakmiciilgaaGreatDoorTqS
import Derived.Test.YtelpakmiciilgaaGreatDoorBun5
import Derived.Test.YtelpakmiciilgaaGreatDoorGenHouR
import Derived.Test.YtelpakmiciilgaaGreatDoorBun4
import Derived.Test.YtelpakmiciilgaaGreatDoorQue4
import Derived.Test.YtelpakmiciilgaaGreatDoorHou4
import Derived.Test.YtelpakmiciilgaaGreatDoorPl9
import Derived.Test.YtelpakmiciilgaaGreatDoorBun7
namespace Go.Proofs.YtelpakmiciilgaaGreatDoor
open Go.RowKit

/-- The caller of number j. -/
def CalG (t0 : Int) (j : Nat) (c : CaV) : Prop := (nb c.id = [99, 97 + j] ∧ j < 5) ∧ c.skill = ⟨#[104, 101, 108, 112]⟩ ∧ (0 ≤ c.at_ ∧ c.at_ ≤ t0 + 240000) ∧ c.least = 1 ∧ c.prio = 0 ∧ (1000 ≤ c.pat ∧ c.pat ≤ 86400000) ∧ (1000 ≤ c.talk ∧ c.talk ≤ 600000)
theorem id_enc (j : Nat) (h : j < 5) : nb ((⟨#[99]⟩ : ByteArray) ++ Utf8.encode (97 + (j : Int))) = [99, 97 + j] := by
  rcases (by omega : j = 0 ∨ j = 1 ∨ j = 2 ∨ j = 3 ∨ j = 4) with rfl | rfl | rfl | rfl | rfl <;> decide +kernel
theorem CalG.key {t0 : Int} {j : Nat} {c : CaV} (h : CalG t0 j c) : (keyOk (nb c.id) && keyOk (nb c.skill)) = true := by
  obtain ⟨⟨h1, h2⟩, h3, _⟩ := h
  rw [h1, h3]
  rcases (by omega : j = 0 ∨ j = 1 ∨ j = 2 ∨ j = 3 ∨ j = 4) with rfl | rfl | rfl | rfl | rfl <;> decide +kernel
theorem CalG.num {t0 : Int} {j : Nat} {c : CaV} (h : CalG t0 j c) (ht : t0 ≤ 172800000) : caNum c = true := by
  obtain ⟨_, _, h1, h2, h3, h4, h5⟩ := h
  unfold caNum momB inB
  simp only [Bool.and_eq_true, decide_eq_true_eq]
  omega
theorem CalG.ok {t0 : Int} {j : Nat} {c : CaV} (h : CalG t0 j c) (ht : t0 ≤ 172800000) : CoOk c := by
  obtain ⟨⟨h0, _⟩, h6, h1, h2, h3, h4, h5⟩ := h
  refine ⟨⟨?_, ?_⟩, by omega, by omega⟩
  · rw [← nb_len, h0]; show 2 ≤ 1000; omega
  · rw [h6]; decide
theorem casE_srt {t0 : Int} {l l' : List CaV} (h : ∀ j c, l[j]? = some c → CalG t0 j c) (hn : l.length ≤ 5) (ht : t0 ≤ 172800000) (hp : l'.Perm l) (hs : Asc coCmp l') : casE l' = 0 := by
  have hl : l'.length = l.length := hp.length_eq
  have hd : l.Pairwise fun x y => nb x.id ≠ nb y.id := List.pairwise_iff_getElem.2 fun i j hi hj hij => by
    rw [(h i _ (List.getElem?_eq_getElem hi)).1.1, (h j _ (List.getElem?_eq_getElem hj)).1.1]
    intro e
    simp at e
    omega
  have hd2 : l'.Pairwise fun x y => nb x.id ≠ nb y.id := (hp.pairwise_iff (R := fun x y => nb x.id ≠ nb y.id) (fun h => h.symm)).2 hd
  unfold casE
  rw [if_neg (by omega)]
  refine fstE_nil _ fun i hi => ?_
  obtain ⟨z, hz⟩ : ∃ z, l'[i]? = some z := ⟨_, List.getElem?_eq_getElem hi⟩
  obtain ⟨j, hj⟩ := List.mem_iff_getElem?.1 ((hp.mem_iff).1 (mem_of_get hz))
  have hg := h j z hj
  have hm : memS ((l'.take i).map (·.id)) z.id = false := by
    unfold memS
    rw [List.any_eq_false]
    intro x hx e
    obtain ⟨y, hy, rfl⟩ := List.mem_map.1 hx
    obtain ⟨q, hq⟩ := List.mem_iff_getElem?.1 hy
    rw [List.getElem?_take] at hq
    split at hq
    · rename_i hqi
      have hq2 : q < l'.length := by omega
      have := List.pairwise_iff_getElem.1 hd2 q i hq2 hi hqi
      rw [List.getElem?_eq_getElem hq2] at hq
      rw [List.getElem?_eq_getElem hi] at hz
      rw [Option.some.inj hq, Option.some.inj hz] at this
      exact this (by simpa using e)
    · cases hq
  by_cases h0 : 0 < i
  · have hi1 : i - 1 < l'.length := by omega
    refine caAt_e (b := l'[i - 1]) hz hg.key hm (hg.num ht) (List.getElem?_eq_getElem hi1) ?_
    have := List.pairwise_iff_getElem.1 hs (i - 1) i hi1 hi (by omega)
    rw [List.getElem?_eq_getElem hi] at hz
    rw [Option.some.inj hz] at this
    unfold coCmp at this
    omega
  · exact caAt_z hz hg.key hm (hg.num ht) h0

/-- The agent. -/
def tqA (sA : Option Addr) (t0 t1 : Int) : AgV := ⟨⟨#[97, 97]⟩, sA, 1, 1, t0, t1, none, 0, 0, 0, [(⟨#[104, 101, 108, 112]⟩, 5)], []⟩
theorem tqA_e {sA : Option Addr} {t0 t1 : Int} (h0 : 0 ≤ t0) (h1 : t0 ≤ t1) (h2 : t1 ≤ 345686400000) : agsE [tqA sA t0 t1] = 0 := by
  unfold agsE
  rw [if_neg (by simp)]
  refine fstE_nil _ fun i hi => ?_
  obtain rfl : i = 0 := by simpa using hi
  have hs : fstE (skAt [((⟨#[104, 101, 108, 112]⟩ : ByteArray), (5 : Int))]) 1 = 0 := by decide +kernel
  have hk : keyOk (nb ⟨#[97, 97]⟩) = true := by decide +kernel
  have he : agE (tqA sA t0 t1) = 0 := by
    unfold agE timE tmE tqA
    dsimp only
    rw [if_neg (by omega), if_pos hs, if_neg (by omega), if_neg (by omega)]
    rfl
  unfold agAt
  show (if keyOk (nb ⟨#[97, 97]⟩) then (if decide (0 < 0) && [tqA sA t0 t1][0 - 1]?.elim false (fun b => leS (tqA sA t0 t1).key b.key) then 7 else agE (tqA sA t0 t1)) else 5) = 0
  rw [hk, he]
  rfl
theorem tq_pch {sA : Option Addr} {t0 t1 : Int} {C : List CaV} (h0 : 0 ≤ t0) (h1 : t0 ≤ t1) (h2 : t1 ≤ 345686400000) (hc : casE C = 0) : pchE ⟨1, 0, 0⟩ [tqA sA t0 t1] C = 0 := by
  unfold pchE
  rw [if_pos (by decide), if_pos (tqA_e h0 h1 h2)]
  exact hc

/-! Turns in the first two days. -/
theorem turnE_w {a : HrV} (h : hrsE [a] = 0) : turnE a 0 172800000 = 0 := by
  unfold turnE
  rw [if_pos h]
  decide
theorem turn_two {a : HrV} {t0 t1 : Int} {r : List Int} (h : turnV a 0 172800000 (t0 :: t1 :: r)) : 0 ≤ t0 ∧ t0 < t1 ∧ t1 ≤ 172800000 ∧ ∀ t, t0 ≤ t → t < t1 → openAt a.zone a.rows a.hol t = true := by
  obtain ⟨N, _, h2, h3⟩ := h
  have hr := turns_rise (openAt a.zone a.rows a.hol) 0 N
  rw [← h3] at hr
  obtain ⟨k0, _, a2, _⟩ := turns_mem.1 (show t0 ∈ turnsL (openAt a.zone a.rows a.hol) 0 N by rw [← h3]; simp)
  obtain ⟨k1, b1, b2, _⟩ := turns_mem.1 (show t1 ∈ turnsL (openAt a.zone a.rows a.hol) 0 N by rw [← h3]; simp)
  have := h2 k1 b1
  have hlt : t0 < t1 := (List.pairwise_cons.1 hr).1 t1 (by simp)
  refine ⟨by rw [a2, visit_zero]; omega, hlt, by omega, fun t g0 g1 => two_open h3.symm g0 g1⟩
theorem openR_t {a : HrV} {t : Int} (h : hrsE [a] = 0) (h0 : 0 ≤ t) (h1 : t ≤ 345686399999) (ho : openAt a.zone a.rows a.hol t = true) : openR a t = .tuple #[.bool true, .int .i64 0] := by
  unfold openR
  rw [if_pos h, if_pos (by unfold momB inB; simp only [Bool.and_eq_true, decide_eq_true_eq]; omega), ho]

/-! h10facts. -/
set_option maxHeartbeats 1000000 in
theorem expand128_any (w : World) : Calls Tryz.prog 20 #[.int .u8 128] w (Same (.int .i64 32124) w) := by
  go_enter Tryz.func20, Tryz.ntmps20
  go_wp2
  go_ret
  exact ⟨rfl, rfl⟩
theorem presR_f : presR ⟨⟨#[97]⟩, none, 0, 0, 0, 5, none, 0, 0, 0, [], []⟩ 4 = .tuple #[.bool true, .int .i64 0] := by
  have h : agsE [⟨⟨#[97]⟩, none, 0, 0, 0, 5, none, 0, 0, 0, [], []⟩] = 0 := by decide +kernel
  unfold presR
  rw [if_pos h, if_pos (by decide)]
  have h2 : presB ⟨⟨#[97]⟩, none, 0, 0, 0, 5, none, 0, 0, 0, [], []⟩ 4 = true := by decide
  rw [h2]
set_option maxRecDepth 100000 in
set_option maxHeartbeats 4000000 in
theorem h10_true (w : World) (ht : DbT w) : Calls Tryz.prog 6 #[] w (RetV (.bool true) w) := by
  have HT := Lib.hid ht; clear ht
  have hx : (strN [50, 49]).toList = [50, 49] := by rw [ByteArray.toList_eq]; decide
  go_enter Tryz.func6, Tryz.ntmps6
  go_wp2_with fail
  refine (least_any ⟨#[78, 49]⟩ _ HT.out).mono ?_
  rintro e w1 ⟨rfl, hg1⟩
  rw [leR_n1]
  have HG := Lib.hid hg1; clear hg1
  go_wp2_with fail
  refine (Present_any 0 ⟨⟨#[97]⟩, none, 0, 0, 0, 5, none, 0, 0, 0, [], []⟩ 4 _ ⟨⟨by decide, (fun s hs => by cases hs), Nat.zero_le _, Nat.zero_le _⟩, Recs.nil, Recs.nil⟩).mono ?_
  rintro e w2 ⟨rfl, hg2⟩
  rw [presR_f]
  replace HG := Lib.hid (gr_none HG.out hg2); clear hg2
  go_wp2_with fail
  refine (voicedEnds_any _).mono ?_
  rintro e w3 ⟨rfl, hg3⟩
  replace HG := Lib.hid (gr_none HG.out hg3); clear hg3
  go_wp2_with (first
    | (go_at_call 20; refine (expand128_any _).mono ?_; rintro e w4 ⟨rfl, rfl⟩)
    | fail)
  go_ret
  exact ⟨rfl, HG.out⟩
end Go.Proofs.YtelpakmiciilgaaGreatDoor

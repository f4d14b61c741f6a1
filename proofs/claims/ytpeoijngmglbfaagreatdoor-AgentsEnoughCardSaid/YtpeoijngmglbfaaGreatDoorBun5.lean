/- Contracts of checkPlay and Play. Conditions: agents and callers as they lie in memory. -/
import Derived.Test.YtpeoijngmglbfaaGreatDoorPl8
import Derived.Test.YtpeoijngmglbfaaGreatDoorQue2
import Derived.Test.YtpeoijngmglbfaaGreatDoorQue3
import Derived.Test.YtpeoijngmglbfaaGreatDoorSe6
import Derived.Test.YtpeoijngmglbfaaGreatDoorBun3
import Derived.Test.YtpeoijngmglbfaaGreatDoorBun1
import Derived.Test.YtpeoijngmglbfaaGreatDoorRo7
namespace Go.Proofs.YtpeoijngmglbfaaGreatDoor
section
open Go.RowKit

/-- Right agents have numbers in bounds. -/
theorem agN_all {A : List AgV} (h : agsE A = 0) (hl : ∀ a ∈ A, a.ps.length = a.pn ∧ a.sk.length = a.sn) : ∀ a ∈ A, AgN a := by
  intro a ha
  obtain ⟨i, hi⟩ := List.mem_iff_getElem?.1 ha
  obtain ⟨hp, hs⟩ := hl a ha
  unfold agsE at h
  split at h
  · cases h
  · have h1 := fstE_ev h i (List.getElem?_eq_some_iff.1 hi).1
    unfold agAt at h1
    rw [hi] at h1
    change (if keyOk (nb a.key) = true then _ else (5 : Int)) = 0 at h1
    split at h1
    · rename_i hk
      split at h1
      · cases h1
      · have h3 : agE a = 0 := h1
        have hR : AgR a := agR_of hp (by
          unfold agsE
          rw [if_neg (by simp)]
          show (if (0 : Int) = 0 then agAt [a] 0 else 0) = 0
          rw [if_pos rfl]
          show (if keyOk (nb a.key) then (if decide (0 < 0) && ([a][0 - 1]?).elim false (fun b => leS a.key b.key) then 7 else agE a) else (5 : Int)) = 0
          rw [if_pos hk, if_neg (by simp)]
          exact h3)
        refine ⟨hR.tm.1, hR.tm.2.1, hR.tm.2.2, hR.wr.1, hR.wr.2, fun p hp2 => ?_, fun x hx => ?_⟩
        · have := hR.ps.w p hp2; omega
        · unfold agE at h3
          split at h3
          · cases h3
          · split at h3
            · rename_i hsk
              obtain ⟨j, hj⟩ := List.mem_iff_getElem?.1 hx
              have h4 := fstE_ev hsk j (by rw [← hs]; exact (List.getElem?_eq_some_iff.1 hj).1)
              unfold skAt at h4
              rw [hj] at h4
              change (if keyOk (nb x.1) = true then _ else (5 : Int)) = 0 at h4
              split at h4
              · split at h4
                · rename_i hb
                  unfold inB at hb
                  rw [Bool.and_eq_true, decide_eq_true_eq, decide_eq_true_eq] at hb
                  omega
                · cases h4
              · cases h4
            · contradiction
    · cases h1
theorem style_ok {s : StyV} (h : styleE s.kind s.age s.say = 0) : 1 ≤ s.kind ∧ s.kind ≤ 4 ∧ 0 ≤ s.age := by
  unfold styleE at h
  split at h
  · rename_i h1
    unfold inB at h1
    rw [Bool.and_eq_true, decide_eq_true_eq, decide_eq_true_eq] at h1
    split at h
    · rename_i h2
      unfold inB at h2
      simp only [Bool.and_eq_true, decide_eq_true_eq] at h2
      omega
    · cases h
  · cases h
def pchE (s : StyV) (A : List AgV) (C : List CaV) : Int := if styleE s.kind s.age s.say = 0 then (if agsE A = 0 then casE C else agsE A) else styleE s.kind s.age s.say
set_option maxHeartbeats 2000000 in
set_option maxRecDepth 100000 in
theorem checkPlay_any (lo1 lo2 : Nat) (s : StyV) (gA : Option Addr) (m gc : Nat) (A : List AgV) (cA : Option Addr) (n cc : Nat) (C : List CaV) (w : World) (hA : Ags w lo1 gA m gc A) (hC : Cas w lo2 cA n cc C) (hm : m ≤ 1000) (hn : n ≤ 1000) :
    Calls Tryz.prog 40 #[.agg #[.int .i64 s.kind, .int .i64 s.age, .int .i64 s.say], .slice gA m gc, .slice cA n cc] w (RetV (.int .i64 (pchE s A C)) w) := by
  obtain ⟨w0, hw0⟩ : ∃ v, w.alloc (.cells #[.int .i64 s.kind, .int .i64 s.age, .int .i64 s.say] 27) = v := ⟨_, rfl⟩
  have HS0 := Lib.hid (show Blk w0 w.heap.size 27 #[.int .i64 s.kind, .int .i64 s.age, .int .i64 s.say] by rw [← hw0]; exact Blk.new _ _ _)
  have HG := Lib.hid (show w.grownBy w0 none by rw [← hw0]; exact gr_alloc (gr_refl _ _) _)
  have HW0 := Lib.hid hw0
  have HA := Lib.hid hA; have HC := Lib.hid hC
  obtain ⟨E1, h1⟩ : ∃ E, styleE s.kind s.age s.say = E := ⟨_, rfl⟩
  obtain ⟨E2, h2⟩ : ∃ E, agsE A = E := ⟨_, rfl⟩
  obtain ⟨E3, h3⟩ : ∃ E, casE C = E := ⟨_, rfl⟩
  have HV := Lib.hid (show pchE s A C = if E1 = 0 then (if E2 = 0 then E3 else E2) else E1 by unfold pchE; rw [h1, h2, h3])
  have H1 := Lib.hid h1; have H2 := Lib.hid h2; have H3 := Lib.hid h3
  clear hw0 hA hC h1 h2 h3
  go_enter Tryz.func40, Tryz.ntmps40
  go_upto_region 1 with (fail)
  rw [HW0.out]
  go_wp2_with (first
    | (refine wpl_load_all Tryz.syT rfl _ rfl _ rfl _ _ HS0.out rfl ?_)
    | fail)
  refine (checkStyle_any s.kind s.age s.say _).mono ?_
  rintro e w1 ⟨rfl, hg1⟩
  rw [H1.out]
  replace HG := Lib.hid (gr_none HG.out hg1)
  clear hg1
  by_cases c1 : E1 = 0
  · have d1 : (E1 != 0) = false := by simpa using c1
    rw [if_pos c1] at HV
    clear c1
    go_wp2_with fail
    refine (checkAgents_any lo1 gA m gc A _ (HA.out.grown HG.out (fun g e => by cases e)) (by omega)).mono ?_
    rintro e w2 ⟨rfl, hg2⟩
    rw [H2.out]
    replace HG := Lib.hid (gr_none HG.out hg2)
    clear hg2
    by_cases c2 : E2 = 0
    · have d2 : (E2 != 0) = false := by simpa using c2
      rw [if_pos c2] at HV
      clear c2
      go_wp2_with fail
      refine (checkCallers_any lo2 cA n cc C _ (HC.out.grown HG.out (fun g e => by cases e)) (by omega)).mono ?_
      rintro e w3 ⟨rfl, hg3⟩
      rw [H3.out]
      replace HG := Lib.hid (gr_none HG.out hg3)
      clear hg3
      go_wp2_with fail
      go_ret
      exact ⟨by rw [HV.out]; try rfl, HG.out⟩
    · have d2 : (E2 != 0) = true := by simpa using c2
      rw [if_neg c2] at HV
      clear c2
      go_wp2_with fail
      go_ret
      exact ⟨by rw [HV.out]; try rfl, HG.out⟩
  · have d1 : (E1 != 0) = true := by simpa using c1
    rw [if_neg c1] at HV
    clear c1
    go_wp2_with fail
    go_ret
    exact ⟨by rw [HV.out]; try rfl, HG.out⟩
/-- What is right about arguments that are right. -/
theorem pch_right {w : World} {lo : Nat} {s : StyV} {gA : Option Addr} {m gc : Nat} {A : List AgV} {C : List CaV} (hA : Ags w lo gA m gc A) (hC : ∀ c ∈ C, CaOk c) (h : pchE s A C = 0) : (1 ≤ s.kind ∧ s.kind ≤ 4 ∧ 0 ≤ s.age) ∧ (∀ a ∈ A, AgN a ∧ a.key.size ≤ 1000) ∧ ∀ c ∈ C, CaN c ∧ CaOk c := by
  unfold pchE at h
  split at h
  · rename_i h1
    split at h
    · rename_i h2
      exact ⟨style_ok h1, fun a ha => ⟨agN_all h2 (fun a ha => ⟨(hA.2 a ha).2.2.len, (hA.2 a ha).2.1.len⟩) a ha, (hA.2 a ha).1.1⟩, fun c hc => ⟨caNum_n (casE_num h c hc), hC c hc⟩⟩
    · contradiction
  · contradiction
def Played (s : StyV) (A : List AgV) (C : List CaV) (w : World) (e : Ending) (w' : World) : Prop :=
  w.grownBy w' none ∧ ((pchE s A C ≠ 0 ∧ e = .returned (.tuple #[.slice none 0 0, .int .i64 (pchE s A C)])) ∨ (pchE s A C = 0 ∧ ∃ B m c, e = .returned (.tuple #[.slice B m c, .int .i64 0]) ∧ OwnR SeV.row 5 w' w.heap.size 44 B m c (playOf s A C).se))
set_option maxHeartbeats 2000000 in
set_option maxRecDepth 100000 in
theorem Play_any (lo1 lo2 : Nat) (s : StyV) (gA : Option Addr) (gc : Nat) (A : List AgV) (cA : Option Addr) (cc : Nat) (C : List CaV) (w : World) (hA : Ags w lo1 gA A.length gc A) (hC : Cas w lo2 cA C.length cc C) (hm : A.length ≤ 1000) (hn : C.length ≤ 19) :
    Calls Tryz.prog 9 #[.agg #[.int .i64 s.kind, .int .i64 s.age, .int .i64 s.say], .slice gA A.length gc, .slice cA C.length cc] w (Played s A C w) := by
  obtain ⟨w0, hw0⟩ : ∃ v, w.alloc (.cells #[.int .i64 s.kind, .int .i64 s.age, .int .i64 s.say] 27) = v := ⟨_, rfl⟩
  have HS0 := Lib.hid (show Blk w0 w.heap.size 27 #[.int .i64 s.kind, .int .i64 s.age, .int .i64 s.say] by rw [← hw0]; exact Blk.new _ _ _)
  have HG := Lib.hid (show w.grownBy w0 none by rw [← hw0]; exact gr_alloc (gr_refl _ _) _)
  have HW0 := Lib.hid hw0
  have HA := Lib.hid hA; have HC := Lib.hid hC
  obtain ⟨E, hE⟩ : ∃ E, pchE s A C = E := ⟨_, rfl⟩
  have HE := Lib.hid hE
  clear hw0 hA hC hE
  go_enter Tryz.func9, Tryz.ntmps9
  go_upto_region 1 with (fail)
  rw [HW0.out]
  go_wp2_with (first
    | (refine wpl_load_all Tryz.syT rfl _ rfl _ rfl _ _ HS0.out rfl ?_)
    | fail)
  refine (checkPlay_any lo1 lo2 s gA A.length gc A cA C.length cc C _ (HA.out.grown HG.out (fun g e => by cases e)) (HC.out.grown HG.out (fun g e => by cases e)) hm (by omega)).mono ?_
  rintro e w1 ⟨rfl, hg1⟩
  rw [HE.out]
  replace HG := Lib.hid (gr_none HG.out hg1)
  replace HS0 := Lib.hid (HS0.out.grown hg1 (by simp))
  clear hg1
  by_cases c1 : E = 0
  · have d1 : (E != 0) = false := by simpa using c1
    obtain ⟨⟨k1, k2, k3⟩, han, hcn⟩ := pch_right HA.out HC.out.2 (HE.out.trans c1)
    have HAN := Lib.hid han; have HCN := Lib.hid hcn
    have HE0 := Lib.hid (HE.out.trans c1)
    clear c1 han hcn
    go_wp2_with (first
      | (refine wpl_load_all Tryz.syT rfl _ rfl _ rfl _ _ HS0.out rfl ?_)
      | fail)
    refine (newPlayer_any lo1 lo2 s gA gc A cA cc C _ (HA.out.grown HG.out (fun g e => by cases e)) (HC.out.grown HG.out (fun g e => by cases e)) hm hn HAN.out HCN.out k3).mono ?_
    rintro e w2 ⟨R, rfl, hpm⟩
    have HPM := Lib.hid hpm
    have hs := sim_new (A := A) HCN.out
    have HS := Lib.hid hs.1
    clear hpm hs
    go_wp2_with fail
    refine (pplay_any _ R s A C (newP A C) (newR A C) 1152921504606846976 _ HPM.out HS.out (RoOk.new fun c hc => (HCN.out c hc).2) (fun d hd => by
      have := List.eq_of_mem_replicate (show d ∈ List.replicate A.length ((0 : Int), (0 : Int)) from hd)
      rw [this]; show (0 : Int) ≤ _; omega)).mono ?_
    rintro e w3 ⟨rfl, hpm3⟩
    have HPM3 := Lib.hid hpm3
    have HALL := Lib.hid (ply_all (s := s) (u := 1152921504606846976) (by omega) HCN.out HAN.out)
    clear hpm3
    go_wp2_with fail
    refine (pseats_any _ R s A C _ _ HPM3.out).mono ?_
    rintro e w4 ⟨B, m, c, rfl, hown, hg4⟩
    have HO := Lib.hid hown
    have HG4 := Lib.hid (gr_none HG.out (gr_none HPM3.out.g hg4))
    have zz := HPM3.out.g.size
    have zz0 := HG.out.size
    clear hown hg4
    go_wp2_with fail
    go_ret2
    exact ⟨HG4.out, .inr ⟨HE0.out, B, m, c, rfl, by rw [← HALL.out]; exact HO.out.lower (by omega)⟩⟩
  · have d1 : (E != 0) = true := by simpa using c1
    have HN := Lib.hid c1
    clear c1
    go_wp2_with fail
    go_ret2
    exact ⟨HG.out, .inl ⟨by rw [HE.out]; exact HN.out, by rw [HE.out]; try rfl⟩⟩
end
end Go.Proofs.YtpeoijngmglbfaaGreatDoor
/- Plain Lean: how many agents are enough. Conditions: none. -/
namespace Go.Proofs.YtpeoijngmglbfaaGreatDoor
section
open Go.RowKit

def enSe (s : StyV) (A : List AgV) (C : List CaV) (n : Nat) : List SeV := (playOf s (A.take n) C).se
def enSo (s : StyV) (A : List AgV) (C : List CaV) (most short : Int) (n : Nat) : Nat := soN (inTime most) C (enSe s A C n) (partL (inTime most) short C (enSe s A C n))
def enAl (s : StyV) (A : List AgV) (C : List CaV) (most short : Int) (n : Nat) : Nat := (partL (inTime most) short C (enSe s A C n)).length
def enB (s : StyV) (A : List AgV) (C : List CaV) (most short part : Int) (n : Nat) : Bool := decide (enAl s A C most short n ≠ 0) && decide (part * (lowV (enSo s A C most short n) (enAl s A C most short n)).2 ≤ 1000 * (lowV (enSo s A C most short n) (enAl s A C most short n)).1)
def fstT (f : Nat → Bool) : Nat → Option Nat
  | 0 => none
  | k + 1 => (fstT f k).elim (if f k then some k else none) some
theorem fstT_no {f : Nat → Bool} {k : Nat} (h : fstT f k = none) (h2 : f k = false) : fstT f (k + 1) = none := by
  show (fstT f k).elim _ _ = _; rw [h]; show (if f k then some k else none) = none; rw [h2]; rfl
theorem fstT_yes {f : Nat → Bool} {k : Nat} (h : fstT f k = none) (h2 : f k = true) : ∀ m, k < m → fstT f m = some k := by
  intro m hm
  induction m with
  | zero => omega
  | succ m ih =>
    by_cases e : k = m
    · subst e; show (fstT f k).elim _ _ = _; rw [h]; show (if f k then some k else none) = _; rw [h2]; rfl
    · show (fstT f m).elim _ _ = _; rw [ih (by omega)]; rfl
def enN (s : StyV) (A : List AgV) (C : List CaV) (most short part : Int) : Option Nat := fstT (enB s A C most short part) (A.length + 1)
def enoughV (s : StyV) (A : List AgV) (C : List CaV) (most short part : Int) : Value :=
  if pchE s A C = 0 then (if (inB most 0 86400000 && inB short 0 86400000 && inB part 0 1000) = true then (enN s A C most short part).elim (.tuple #[.int .i64 0, .int .i64 8]) (fun n => .tuple #[.int .i64 n, .int .i64 0]) else .tuple #[.int .i64 0, .int .i64 1]) else .tuple #[.int .i64 0, .int .i64 (pchE s A C)]
def enoughD (s : StyV) (A : List AgV) (C : List CaV) (most short part : Int) : Value := (enN s A C most short part).elim (.tuple #[.int .i64 0, .bool false]) (fun n => .tuple #[.int .i64 n, .bool true])
theorem soN_len (so : CaV → SeV → Bool) (short : Int) (C : List CaV) (l : List SeV) : soN so C l (partL so short C l) ≤ (partL so short C l).length := soN_le _
theorem lowV_bd (a b : Nat) : 0 ≤ (lowV a b).1 ∧ (lowV a b).1 ≤ a ∧ 0 ≤ (lowV a b).2 ∧ (lowV a b).2 ≤ b := by
  unfold lowV
  refine ⟨Int.ediv_nonneg (by omega) (by omega), Int.ediv_le_self _ (by omega), Int.ediv_nonneg (by omega) (by omega), Int.ediv_le_self _ (by omega)⟩
theorem enAl_le (s : StyV) (A : List AgV) (C : List CaV) (most short : Int) (n : Nat) (h : (enSe s A C n).length ≤ 500) : enAl s A C most short n ≤ 500 := Nat.le_trans (ctL_len _) h
/-- What the walk finds of one number of agents: a fraction, whether it counts, and whether it is enough. -/
theorem en_frac (s : StyV) (A : List AgV) (C : List CaV) (most short part : Int) (n : Nat) (h : (enSe s A C n).length ≤ 500) :
    ∃ (P Q : Int) (B : Bool), 0 ≤ P ∧ P ≤ 500 ∧ 0 ≤ Q ∧ Q ≤ 500 ∧ partV (enSo s A C most short n) (enAl s A C most short n) = frV P Q (if B then 0 else 8) ∧ partD (enSo s A C most short n) (enAl s A C most short n) = .tuple #[.agg #[.int .i64 P, .int .i64 Q], .bool B] ∧ enB s A C most short part n = (B && decide (part * Q ≤ 1000 * P)) := by
  have hal := enAl_le s A C most short n h
  have hso : enSo s A C most short n ≤ enAl s A C most short n := soN_len _ _ _ _
  obtain ⟨b1, b2, b3, b4⟩ := lowV_bd (enSo s A C most short n) (enAl s A C most short n)
  unfold partV partD enB
  by_cases h0 : enAl s A C most short n = 0
  · rw [if_pos h0, if_pos h0, decide_eq_false (fun e => e h0)]
    exact ⟨0, 0, false, by omega, by omega, by omega, by omega, rfl, rfl, rfl⟩
  · rw [if_neg h0, if_neg h0, decide_eq_true h0]
    exact ⟨_, _, true, b1, by omega, b3, by omega, rfl, rfl, rfl⟩
theorem en_frac2 (s : StyV) (A : List AgV) (C : List CaV) (most short part : Int) (n : Nat) (L : List SeV) (hL : enSe s A C n = L) (h : L.length ≤ 500) :
    ∃ (P Q : Int) (B : Bool), 0 ≤ P ∧ P ≤ 500 ∧ 0 ≤ Q ∧ Q ≤ 500 ∧ partV (soN (inTime most) C L (partL (inTime most) short C L)) (partL (inTime most) short C L).length = frV P Q (if B then 0 else 8) ∧ partD (soN (inTime most) C L (partL (inTime most) short C L)) (partL (inTime most) short C L).length = .tuple #[.agg #[.int .i64 P, .int .i64 Q], .bool B] ∧ enB s A C most short part n = (B && decide (part * Q ≤ 1000 * P)) := by
  subst hL
  exact en_frac s A C most short part n h
end
end Go.Proofs.YtpeoijngmglbfaaGreatDoor
/- Contracts of Enough and EnoughOf. Conditions: agents and callers as they lie in memory. -/
namespace Go.Proofs.YtpeoijngmglbfaaGreatDoor
section
open Go.RowKit

set_option maxHeartbeats 8000000 in
set_option maxRecDepth 100000 in
theorem Enough_any (lo1 lo2 : Nat) (s : StyV) (gA : Option Addr) (gc : Nat) (A : List AgV) (cA : Option Addr) (cc : Nat) (C : List CaV) (most short part : Int) (w : World) (hA : Ags w lo1 gA A.length gc A) (hC : Cas w lo2 cA C.length cc C) (hm : A.length ≤ 1000) (hn : C.length ≤ 19) :
    Calls Tryz.prog 18 #[.agg #[.int .i64 s.kind, .int .i64 s.age, .int .i64 s.say], .slice gA A.length gc, .slice cA C.length cc, .int .i64 most, .int .i64 short, .int .i64 part] w (RetV (enoughV s A C most short part) w) := by
  obtain ⟨w0, hw0⟩ : ∃ v, w.alloc (.cells #[.int .i64 s.kind, .int .i64 s.age, .int .i64 s.say] 27) = v := ⟨_, rfl⟩
  have HS0 := Lib.hid (show Blk w0 w.heap.size 27 #[.int .i64 s.kind, .int .i64 s.age, .int .i64 s.say] by rw [← hw0]; exact Blk.new _ _ _)
  have HG := Lib.hid (show w.grownBy w0 none by rw [← hw0]; exact gr_alloc (gr_refl _ _) _)
  have HW0 := Lib.hid hw0
  have HA := Lib.hid hA; have HC := Lib.hid hC
  obtain ⟨E, hE⟩ : ∃ E, pchE s A C = E := ⟨_, rfl⟩
  have HE := Lib.hid hE
  have HL := Lib.hid hm; have HLN := Lib.hid hn
  clear hw0 hA hC hE
  go_enter Tryz.func18, Tryz.ntmps18
  go_upto_region 1 with (fail)
  rw [HW0.out]
  clear HW0
  go_wp2_with (first
    | (refine wpl_load_all Tryz.syT rfl _ rfl _ rfl _ _ HS0.out rfl ?_)
    | fail)
  refine (checkPlay_any lo1 lo2 s gA A.length gc A cA C.length cc C _ (HA.out.grown HG.out (fun g e => by cases e)) (HC.out.grown HG.out (fun g e => by cases e)) hm (by omega)).mono ?_
  rintro e w1 ⟨rfl, hg1⟩
  rw [HE.out]
  replace HG := Lib.hid (gr_none HG.out hg1)
  replace HS0 := Lib.hid (HS0.out.grown hg1 (by simp))
  clear hg1
  by_cases c1 : E = 0
  · have d1 : (E != 0) = false := by simpa using c1
    obtain ⟨⟨k1, k2, k3⟩, han, hcn⟩ := pch_right HA.out HC.out.2 (HE.out.trans c1)
    have HAN := Lib.hid han; have HCN := Lib.hid hcn
    obtain ⟨I1, hI1⟩ : ∃ I, inB most 0 86400000 = I := ⟨_, rfl⟩
    obtain ⟨I2, hI2⟩ : ∃ I, inB short 0 86400000 = I := ⟨_, rfl⟩
    obtain ⟨I3, hI3⟩ : ∃ I, inB part 0 1000 = I := ⟨_, rfl⟩
    have HV0 := Lib.hid (show enoughV s A C most short part = if (I1 && I2 && I3) = true then (enN s A C most short part).elim (.tuple #[.int .i64 0, .int .i64 8]) (fun n => .tuple #[.int .i64 n, .int .i64 0]) else .tuple #[.int .i64 0, .int .i64 1] by
      unfold enoughV; rw [if_pos (HE.out.trans c1), hI1, hI2, hI3])
    have HI1 := Lib.hid hI1; have HI2 := Lib.hid hI2; have HI3 := Lib.hid hI3
    clear c1 han hcn hI1 hI2 hI3 HE
    by_cases hi : I1 = true ∧ I2 = true ∧ I3 = true
    · obtain ⟨rfl, rfl, rfl⟩ := hi
      have HPB := Lib.hid (show 0 ≤ part ∧ part ≤ 1000 by
        have h := HI3.out
        unfold inB at h
        rw [Bool.and_eq_true, decide_eq_true_eq, decide_eq_true_eq] at h
        exact h)
      replace HV0 := Lib.hid (show enoughV s A C most short part = (enN s A C most short part).elim (.tuple #[.int .i64 0, .int .i64 8]) (fun n => .tuple #[.int .i64 n, .int .i64 0]) from HV0.out)
      have ql : IntKind.i64.wrap ((A.length : Int) + 1) = (A.length : Int) + 1 := IntWalk.i64_in _ (by omega)
      go_wp2_with (first
        | (go_at_call 53; refine (within_any _ _ _ _).mono ?_; rintro e w' ⟨rfl, rfl⟩; first | rw [HI1.out] | rw [HI2.out] | rw [HI3.out] | fail)
        | fail)
      clear d1
      go_loopw [15, 16, 17, 18, 42] (fun _ _ _ _ t wr => ∃ i : Nat, i ≤ A.length + 1 ∧ t = .int .i64 i ∧ w.grownBy wr none ∧ Blk wr w.heap.size 27 #[.int .i64 s.kind, .int .i64 s.age, .int .i64 s.say] ∧ fstT (enB s A C most short part) i = none) (fun _ _ _ _ t _ => A.length + 1 - (intOf t).toNat)
      case atStart => exact ⟨0, Nat.zero_le _, rfl, HG.out, HS0.out, rfl⟩
      case round =>
        obtain ⟨i, hi, rfl, hg, hs0, hnone⟩ := hrel
        have HGR := Lib.hid hg; have HSR := Lib.hid hs0; have HNO := Lib.hid hnone
        clear hg hs0 hnone ql HS0
        by_cases hlt : i < A.length + 1
        · have hlt2 : (i : Int) < (A.length : Int) + 1 := by omega
          obtain ⟨A', hA'⟩ : ∃ L, A.take i = L := ⟨_, rfl⟩
          have hl' : A'.length = i := by rw [← hA', List.length_take]; omega
          have hAr : Ags wr lo1 gA A'.length gc A' := by
            have h1 := HA.out.grown HGR.out (fun g e => by cases e)
            rw [hl', ← hA']
            exact ⟨h1.1.take AgV.row_len (by omega), fun a ha => h1.2 a (List.mem_of_mem_take ha)⟩
          have hsl : (playOf s A' C).se = enSe s A C i := by rw [← hA']; rfl
          have hal : ∀ a ∈ A', AgN a ∧ a.key.size ≤ 1000 := fun a ha => HAN.out a (by rw [← hA'] at ha; exact List.mem_of_mem_take ha)
          clear hA'
          obtain rfl : i = A'.length := hl'.symm
          obtain ⟨L, hL⟩ : ∃ L, enSe s A C A'.length = L := ⟨_, rfl⟩
          rw [hL] at hsl
          have HLL := Lib.hid hL; have HSL := Lib.hid hsl; have HAN2 := Lib.hid hal
          clear hL hsl hal hl'
          have hCr := HC.out.grown HGR.out (fun g e => by cases e)
          have HAR := Lib.hid hAr; have HCR := Lib.hid hCr
          have hlA := HL.out
          clear hAr hCr

          have p1 : (0 : Int) ≤ (A'.length : Int) := by omega
          have hcap : A'.length ≤ gc := by
            have := HA.out.1.cap
            omega
          have p2 : (A'.length : Int) ≤ (gc : Int) := by omega
          go_upto_region 9 with (fail)
          refine H_begin (fun w' => wr.grownBy w' none) (by kernel_rfl) ?_
          have hHeld : wr.grownBy wr.drew none := gr_drew (gr_refl _ _)
          refine H_take (k := 0) (v := .agg #[.int .i64 s.kind, .int .i64 s.age, .int .i64 s.say]) (by rfl) (by kernel_rfl) (by kernel_rfl) (by kernel_rfl) (by exact fun _ _ _ h => h) (by rfl) (fun w' hSw => exec_ldb Tryz.syT _ rfl _ rfl 27 [.int .i64 s.kind, .int .i64 s.age, .int .i64 s.say] (HSR.out.grown hSw (by simp)) rfl) (by assumption) ?_
          (try simp only [Act.put, List.setIfInBounds_toArray, List.set_cons_zero, List.set_cons_succ])
          refine H_take (k := 1) (v := ?_) (by rfl) (by kernel_rfl) (by kernel_rfl) (by kernel_rfl) (by exact fun _ _ _ h => h) (by rfl) ?_ (by assumption) ?_
          rotate_left 1
          · intro w hSw
            (try dsimp only at hSw)
            go_simp
            (try with_reducible rfl)
          (try simp only [Act.put, List.setIfInBounds_toArray, List.set_cons_zero, List.set_cons_succ])
          refine H_take (k := 2) (v := ?_) (by rfl) (by kernel_rfl) (by kernel_rfl) (by kernel_rfl) (by exact fun _ _ _ h => h) (by rfl) ?_ (by assumption) ?_
          rotate_left 1
          · intro w hSw
            (try dsimp only at hSw)
            go_simp
            (try with_reducible rfl)
          (try simp only [Act.put, List.setIfInBounds_toArray, List.set_cons_zero, List.set_cons_succ])
          refine H_take (k := 3) (v := ?_) (by rfl) (by kernel_rfl) (by kernel_rfl) (by kernel_rfl) (by exact fun _ _ _ h => h) (by rfl) ?_ (by assumption) ?_
          rotate_left 1
          · intro w hSw
            (try dsimp only at hSw)
            go_simp
            (try with_reducible rfl)
          (try simp only [Act.put, List.setIfInBounds_toArray, List.set_cons_zero, List.set_cons_succ])
          refine H_take (k := 4) (v := ?_) (by rfl) (by kernel_rfl) (by kernel_rfl) (by kernel_rfl) (by exact fun _ _ _ h => h) (by rfl) ?_ (by assumption) ?_
          rotate_left 1
          · intro w hSw
            (try dsimp only at hSw)
            go_simp
            (try with_reducible rfl)
          (try simp only [Act.put, List.setIfInBounds_toArray, List.set_cons_zero, List.set_cons_succ])
          refine H_run (k := 5) (by rfl) (by kernel_rfl) (by rfl) (fun K hK => ?_)
          go_simp
          refine (newPlayer_any lo1 lo2 s gA gc A' cA cc C _ (HAR.out.grown hHeld (fun g e => by cases e)) (HCR.out.grown hHeld (fun g e => by cases e)) (by omega) HLN.out HAN2.out HCN.out k3).mono ?_
          rintro e w2 ⟨R, rfl, hpm⟩
          have HPM := Lib.hid hpm
          have hg2 : wr.grownBy w2 none := gr_none hHeld hpm.g
          refine hK _ _ hg2 ?_
          clear hK K hHeld hpm
          have hHeld := hg2
          (try simp only [Act.put, List.setIfInBounds_toArray, List.set_cons_zero, List.set_cons_succ])
          refine H_take (k := 6) (v := ?_) (by rfl) (by kernel_rfl) (by kernel_rfl) (by kernel_rfl) (by exact fun _ _ _ h => h) (by rfl) ?_ (by assumption) ?_
          rotate_left 1
          · intro w hSw
            (try dsimp only at hSw)
            go_simp
            (try with_reducible rfl)
          (try simp only [Act.put, List.setIfInBounds_toArray, List.set_cons_zero, List.set_cons_succ])
          refine H_done (by kernel_rfl) ?_
          clear hHeld
          have HS := Lib.hid (sim_new (A := A') HCN.out).1
          go_wp2_with fail
          refine (pplay_any _ R s A' C (newP A' C) (newR A' C) 1152921504606846976 _ HPM.out HS.out (RoOk.new fun c hc => (HCN.out c hc).2) (fun d hd => by
            have := List.eq_of_mem_replicate (show d ∈ List.replicate A'.length ((0 : Int), (0 : Int)) from hd)
            rw [this]; show (0 : Int) ≤ _; omega)).mono ?_
          rintro e w3 ⟨rfl, hpm3⟩
          have HPM3 := Lib.hid hpm3
          have HALL := Lib.hid (show (plyP s A' C 1152921504606846976 345859200002 (newP A' C) (-1)).wt.map (·.seat) = L by rw [ply_all (s := s) (u := 1152921504606846976) (by omega) HCN.out HAN2.out]; exact HSL.out)
          clear hpm3
          go_wp2_with fail
          refine (pseats_any _ R s A' C _ _ HPM3.out).mono ?_
          rintro e w4 ⟨B, m, c, rfl, hown, hg4⟩
          rw [HALL.out] at hown
          have hg24 : wr.drew.grownBy w4 none := gr_none HPM3.out.g hg4
          have hg5 : wr.grownBy w4 none := gr_none (gr_drew (gr_refl _ _)) hg24
          have hlen : L.length = C.length := by have := (playOf_ok (s := s) (A := A') HCN.out HAN2.out).s; rw [HSL.out] at this; exact this
          obtain rfl : m = C.length := by rw [← hlen]; exact hown.2.symm
          have HSE := Lib.hid (show Ses w4 w3.heap.size B C.length c L from ⟨hown.recs, fun z hz => playOf_se (s := s) (A := A') HCN.out HAN2.out z (by rw [HSL.out]; exact hz)⟩)
          replace HGR := Lib.hid (gr_none HGR.out hg5)
          replace HSR := Lib.hid (HSR.out.grown hg5 (by simp))
          replace HCR := Lib.hid (HCR.out.grown hg5 (fun g e => by cases e))
          obtain ⟨P, Q, X, b1, b2, b3, b4, hpv, _, hB⟩ := en_frac2 s A C most short part A'.length L HLL.out (by omega)
          have HPV := Lib.hid hpv; have HB := Lib.hid hB
          clear hg2 hg4 hg24 hg5 hlen hown hpv hB HPM HPM3 HS HALL
          go_wp2_with fail
          refine (served_in lo2 w3.heap.size cA C.length cc C B c L _ most short HCR.out HSE.out (by omega) (fun x hx => (HCN.out x hx).1)).mono ?_
          rintro e w5 ⟨rfl, hg5⟩
          rw [show partV _ _ = frV P Q (if X then 0 else 8) from HPV.out]
          unfold frV
          replace HGR := Lib.hid (gr_none HGR.out hg5)
          replace HSR := Lib.hid (HSR.out.grown hg5 (by simp))
          clear hg5 HPV HSE HCR
          obtain ⟨w6, hw6⟩ : ∃ v, w5.alloc (.cells #[.int .i64 P, .int .i64 Q] 100) = v := ⟨_, rfl⟩
          obtain ⟨fb, hfb⟩ : ∃ b, w5.heap.size = b := ⟨_, rfl⟩
          have HW5 := Lib.hid hw6; have HZ5 := Lib.hid hfb
          have YF := Lib.hid (show Blk w6 fb 100 #[.int .i64 P, .int .i64 Q] by rw [← hw6, ← hfb]; exact Blk.new _ _ _)
          have hg6 : w5.grownBy w6 none := by rw [← hw6]; exact gr_alloc (gr_refl _ _) _
          replace HGR := Lib.hid (gr_none HGR.out hg6)
          replace HSR := Lib.hid (HSR.out.grown hg6 (by simp))
          clear hw6 hfb hg6
          go_upto_region 12 with (fail)
          rw [HW5.out]
          (try rw [HZ5.out])
          clear HW5 HZ5
          have y0 := YF.out.cell 0
          have y1 := YF.out.cell 1
          have hpb : 0 ≤ part ∧ part ≤ 1000 := HPB.out
          have hx0 : 0 ≤ part * Q := Int.mul_nonneg hpb.1 b3
          have hx1 : part * Q ≤ 1000 * 500 := Int.mul_le_mul hpb.2 b4 b3 (by omega)
          obtain ⟨x, hx⟩ : ∃ x, part * Q = x := ⟨_, rfl⟩
          obtain ⟨y, hy⟩ : ∃ y, 1000 * P = y := ⟨_, rfl⟩
          have HX := Lib.hid hx; have HY := Lib.hid hy
          have q1 : IntKind.i64.wrap (part * Q) = x := by rw [IntWalk.i64_in _ (by omega)]; exact hx
          have q2 : IntKind.i64.wrap (1000 * P) = y := by rw [IntWalk.i64_in _ (by omega)]; exact hy
          clear hx hy hx0 hx1 hpb
          cases X
          · have HB2 := Lib.hid (show enB s A C most short part A'.length = false from HB.out)
            go_wp2_with fail
            go_roundw
            case rel => exact ⟨A'.length + 1, by omega, by go_num, HGR.out, HSR.out, fstT_no HNO.out HB2.out⟩
            case measure => simp [intOf]; omega
          · by_cases hxy : x ≤ y
            · have HB2 := Lib.hid (show enB s A C most short part A'.length = true by rw [HB.out, HX.out, HY.out, decide_eq_true hxy]; rfl)
              have HV := Lib.hid (show enoughV s A C most short part = .tuple #[.int .i64 A'.length, .int .i64 0] by rw [HV0.out]; unfold enN; rw [fstT_yes HNO.out HB2.out _ hlt]; rfl)
              go_wp2_with fail
              go_ret2
              exact ⟨by rw [HV.out]; try rfl, HGR.out⟩
            · have HB2 := Lib.hid (show enB s A C most short part A'.length = false by rw [HB.out, HX.out, HY.out, decide_eq_false hxy]; rfl)
              go_wp2_with fail
              go_roundw
              case rel => exact ⟨A'.length + 1, by omega, by go_num, HGR.out, HSR.out, fstT_no HNO.out HB2.out⟩
              case measure => simp [intOf]; omega
        · obtain rfl : i = A.length + 1 := by omega
          have HV := Lib.hid (show enoughV s A C most short part = .tuple #[.int .i64 0, .int .i64 8] by rw [HV0.out]; unfold enN; rw [HNO.out]; rfl)
          go_wp2_with fail
          go_ret2
          exact ⟨by rw [HV.out]; try rfl, HGR.out⟩
    · have HV := Lib.hid (show enoughV s A C most short part = .tuple #[.int .i64 0, .int .i64 1] by rw [HV0.out, if_neg (fun e => hi (by cases I1 <;> cases I2 <;> cases I3 <;> simp at e ⊢))])
      have hid : I1 = false ∨ (I1 = true ∧ I2 = false) ∨ (I1 = true ∧ I2 = true ∧ I3 = false) := by cases I1 <;> cases I2 <;> cases I3 <;> simp at hi ⊢
      clear HV0 hi
      rcases hid with rfl | ⟨rfl, rfl⟩ | ⟨rfl, rfl, rfl⟩
      all_goals
        go_wp2_with (first
          | (go_at_call 53; refine (within_any _ _ _ _).mono ?_; rintro e w' ⟨rfl, rfl⟩; first | rw [HI1.out] | rw [HI2.out] | rw [HI3.out] | fail)
          | fail)
        go_ret2
        exact ⟨by rw [HV.out]; try rfl, HG.out⟩
  · have d1 : (E != 0) = true := by simpa using c1
    have HV := Lib.hid (show enoughV s A C most short part = .tuple #[.int .i64 0, .int .i64 E] by unfold enoughV; rw [if_neg (by rw [HE.out]; exact c1), HE.out])
    clear c1
    go_wp2_with fail
    go_ret2
    exact ⟨by rw [HV.out]; try rfl, HG.out⟩
end
end Go.Proofs.YtpeoijngmglbfaaGreatDoor
/- Contract of EnoughOf. Conditions: agents and callers as they lie in memory, all of it right. -/
namespace Go.Proofs.YtpeoijngmglbfaaGreatDoor
section
open Go.RowKit

set_option maxHeartbeats 8000000 in
set_option maxRecDepth 100000 in
theorem enoughOf_any (lo1 lo2 : Nat) (s : StyV) (gA : Option Addr) (gc : Nat) (A : List AgV) (cA : Option Addr) (cc : Nat) (C : List CaV) (most short part : Int) (w : World) (hA : Ags w lo1 gA A.length gc A) (hC : Cas w lo2 cA C.length cc C) (hm : A.length ≤ 1000) (hn : C.length ≤ 19) (hp : 0 ≤ part ∧ part ≤ 1000) (han : ∀ a ∈ A, AgN a ∧ a.key.size ≤ 1000) (hcn : ∀ c ∈ C, CaN c ∧ CaOk c) (k1 : 1 ≤ s.kind) (k2 : s.kind ≤ 4) (k3 : 0 ≤ s.age) :
    Calls Tryz.prog 20 #[.agg #[.int .i64 s.kind, .int .i64 s.age, .int .i64 s.say], .slice gA A.length gc, .slice cA C.length cc, .int .i64 most, .int .i64 short, .int .i64 part] w (RetV (enoughD s A C most short part) w) := by
  obtain ⟨w0, hw0⟩ : ∃ v, w.alloc (.cells #[.int .i64 s.kind, .int .i64 s.age, .int .i64 s.say] 27) = v := ⟨_, rfl⟩
  have HS0 := Lib.hid (show Blk w0 w.heap.size 27 #[.int .i64 s.kind, .int .i64 s.age, .int .i64 s.say] by rw [← hw0]; exact Blk.new _ _ _)
  have HG := Lib.hid (show w.grownBy w0 none by rw [← hw0]; exact gr_alloc (gr_refl _ _) _)
  have HW0 := Lib.hid hw0
  have HA := Lib.hid hA; have HC := Lib.hid hC
  have HPB := Lib.hid hp; have HAN := Lib.hid han; have HCN := Lib.hid hcn
  have HL := Lib.hid hm; have HLN := Lib.hid hn
  clear hw0 hA hC hp han hcn
  go_enter Tryz.func20, Tryz.ntmps20
  go_upto_region 1 with (fail)
  rw [HW0.out]
  clear HW0
  have ql : IntKind.i64.wrap ((A.length : Int) + 1) = (A.length : Int) + 1 := IntWalk.i64_in _ (by omega)
  go_wp2_with fail
  go_loopw [14, 15, 16, 20] (fun _ _ _ t wr => ∃ i : Nat, i ≤ A.length + 1 ∧ t = .int .i64 i ∧ w.grownBy wr none ∧ Blk wr w.heap.size 27 #[.int .i64 s.kind, .int .i64 s.age, .int .i64 s.say] ∧ fstT (enB s A C most short part) i = none) (fun _ _ _ t _ => A.length + 1 - (intOf t).toNat)
  case atStart => exact ⟨0, Nat.zero_le _, rfl, HG.out, HS0.out, rfl⟩
  case round =>
    obtain ⟨i, hi, rfl, hg, hs0, hnone⟩ := hrel
    have HGR := Lib.hid hg; have HSR := Lib.hid hs0; have HNO := Lib.hid hnone
    clear hg hs0 hnone ql HS0
    by_cases hlt : i < A.length + 1
    · have hlt2 : (i : Int) < (A.length : Int) + 1 := by omega
      obtain ⟨A', hA'⟩ : ∃ L, A.take i = L := ⟨_, rfl⟩
      have hl' : A'.length = i := by rw [← hA', List.length_take]; omega
      have hAr : Ags wr lo1 gA A'.length gc A' := by
        have h1 := HA.out.grown HGR.out (fun g e => by cases e)
        rw [hl', ← hA']
        exact ⟨h1.1.take AgV.row_len (by omega), fun a ha => h1.2 a (List.mem_of_mem_take ha)⟩
      have hsl : (playOf s A' C).se = enSe s A C i := by rw [← hA']; rfl
      have hal : ∀ a ∈ A', AgN a ∧ a.key.size ≤ 1000 := fun a ha => HAN.out a (by rw [← hA'] at ha; exact List.mem_of_mem_take ha)
      clear hA'
      obtain rfl : i = A'.length := hl'.symm
      obtain ⟨L, hL⟩ : ∃ L, enSe s A C A'.length = L := ⟨_, rfl⟩
      rw [hL] at hsl
      have HLL := Lib.hid hL; have HSL := Lib.hid hsl; have HAN2 := Lib.hid hal
      clear hL hsl hal hl'
      have hCr := HC.out.grown HGR.out (fun g e => by cases e)
      have HAR := Lib.hid hAr; have HCR := Lib.hid hCr
      have hlA := HL.out
      clear hAr hCr

      have p1 : (0 : Int) ≤ (A'.length : Int) := by omega
      have hcap : A'.length ≤ gc := by
        have := HA.out.1.cap
        omega
      have p2 : (A'.length : Int) ≤ (gc : Int) := by omega
      go_upto_region 4 with (fail)
      refine H_begin (fun w' => wr.grownBy w' none) (by kernel_rfl) ?_
      have hHeld : wr.grownBy wr.drew none := gr_drew (gr_refl _ _)
      generalize wr.drew = w1 at hHeld ⊢
      obtain ⟨P, Q, X, b1, b2, b3, b4, _, hpd, hB⟩ := en_frac2 s A C most short part A'.length L HLL.out (by have := (playOf_ok (s := s) (A := A') HCN.out HAN2.out).s; rw [HSL.out] at this; omega)
      have HPD := Lib.hid hpd; have HB := Lib.hid hB
      clear hpd hB
      refine H_take (k := 0) (v := ?_) (by rfl) (by kernel_rfl) (by kernel_rfl) (by kernel_rfl) (by exact fun _ _ _ h => h) (by rfl) ?_ (by assumption) ?_
      rotate_left 1
      · intro w hSw
        (try dsimp only at hSw)
        go_simp
        (try with_reducible rfl)
      (try simp only [Act.put, List.setIfInBounds_toArray, List.set_cons_zero, List.set_cons_succ])
      refine H_take (k := 1) (v := .agg #[.int .i64 s.kind, .int .i64 s.age, .int .i64 s.say]) (by rfl) (by kernel_rfl) (by kernel_rfl) (by kernel_rfl) (by exact fun _ _ _ h => h) (by rfl) (fun w' hSw => exec_ldb Tryz.syT _ rfl _ rfl 27 [.int .i64 s.kind, .int .i64 s.age, .int .i64 s.say] (HSR.out.grown hSw (by simp)) rfl) (by assumption) ?_
      (try simp only [Act.put, List.setIfInBounds_toArray, List.set_cons_zero, List.set_cons_succ])
      refine H_take (k := 2) (v := ?_) (by rfl) (by kernel_rfl) (by kernel_rfl) (by kernel_rfl) (by exact fun _ _ _ h => h) (by rfl) ?_ (by assumption) ?_
      rotate_left 1
      · intro w hSw
        (try dsimp only at hSw)
        go_simp
        (try with_reducible rfl)
      (try simp only [Act.put, List.setIfInBounds_toArray, List.set_cons_zero, List.set_cons_succ])
      refine H_take (k := 3) (v := ?_) (by rfl) (by kernel_rfl) (by kernel_rfl) (by kernel_rfl) (by exact fun _ _ _ h => h) (by rfl) ?_ (by assumption) ?_
      rotate_left 1
      · intro w hSw
        (try dsimp only at hSw)
        go_simp
        (try with_reducible rfl)
      (try simp only [Act.put, List.setIfInBounds_toArray, List.set_cons_zero, List.set_cons_succ])
      refine H_take (k := 4) (v := ?_) (by rfl) (by kernel_rfl) (by kernel_rfl) (by kernel_rfl) (by exact fun _ _ _ h => h) (by rfl) ?_ (by assumption) ?_
      rotate_left 1
      · intro w hSw
        (try dsimp only at hSw)
        go_simp
        (try with_reducible rfl)
      (try simp only [Act.put, List.setIfInBounds_toArray, List.set_cons_zero, List.set_cons_succ])
      refine H_take (k := 5) (v := ?_) (by rfl) (by kernel_rfl) (by kernel_rfl) (by kernel_rfl) (by exact fun _ _ _ h => h) (by rfl) ?_ (by assumption) ?_
      rotate_left 1
      · intro w hSw
        (try dsimp only at hSw)
        go_simp
        (try with_reducible rfl)
      (try simp only [Act.put, List.setIfInBounds_toArray, List.set_cons_zero, List.set_cons_succ])
      refine H_take (k := 7) (v := ?_) (by rfl) (by kernel_rfl) (by kernel_rfl) (by kernel_rfl) (by exact fun _ _ _ h => h) (by rfl) ?_ (by assumption) ?_
      rotate_left 1
      · intro w hSw
        (try dsimp only at hSw)
        go_simp
        (try with_reducible rfl)
      (try simp only [Act.put, List.setIfInBounds_toArray, List.set_cons_zero, List.set_cons_succ])
      refine H_take (k := 8) (v := ?_) (by rfl) (by kernel_rfl) (by kernel_rfl) (by kernel_rfl) (by exact fun _ _ _ h => h) (by rfl) ?_ (by assumption) ?_
      rotate_left 1
      · intro w hSw
        (try dsimp only at hSw)
        go_simp
        (try with_reducible rfl)
      (try simp only [Act.put, List.setIfInBounds_toArray, List.set_cons_zero, List.set_cons_succ])
      refine H_runTwo (k1 := 6) (k2 := 13) (by rfl) (by rfl) (by kernel_rfl) (by rfl) (by rfl) (fun K hK => ?_) (fun K hK => ?_)
      · go_simp
        refine (playOf_any s gA gc A' cA cc C _ (by
          have h1 := HAR.out.grown hHeld (fun g e => by cases e)
          exact ⟨h1.1.lower (Nat.zero_le _), fun a ha => (h1.2 a ha).lower (Nat.zero_le _)⟩) (by
          have h1 := HCR.out.grown hHeld (fun g e => by cases e)
          exact ⟨h1.1.lower (Nat.zero_le _), h1.2⟩) (by omega) HLN.out HAN2.out HCN.out k3 k1 k2).mono ?_
        rintro e w4 ⟨B, c, rfl, hown, hg4, _⟩
        rw [HSL.out] at hown
        have hlen : L.length = C.length := hown.2
        have hg5 : wr.grownBy w4 none := gr_none hHeld hg4
        have HSE := Lib.hid (show Ses w4 0 B C.length c L from ⟨hown.recs.lower (Nat.zero_le _), fun z hz => playOf_se (s := s) (A := A') HCN.out HAN2.out z (by rw [HSL.out]; exact hz)⟩)
        refine hK _ _ hg5 ?_
        clear hK K hHeld
        have hHeld := hg5
        (try replace YZ := Lib.hid (YZ.out.grown hg4 (by simp)))
        clear hg4 hlen hown hg5
        (try simp only [Act.put, List.setIfInBounds_toArray, List.set_cons_zero, List.set_cons_succ])

        refine H_runTwo (k1 := 9) (k2 := 13) (by rfl) (by rfl) (by kernel_rfl) (by rfl) (by rfl) (fun K hK => ?_) (fun K hK => ?_)
        · go_simp
          refine (servedOf_any lo2 0 cA C.length cc C B c L _ most short (HCR.out.grown hHeld (fun g e => by cases e)) HSE.out (by omega) (fun x hx => (HCN.out x hx).1)).mono ?_
          rintro e w5 ⟨rfl, hg5⟩
          rw [HPD.out]
          have hg7 := gr_none hHeld hg5
          refine hK _ _ hg7 ?_
          clear hK K hHeld
          have hHeld := hg7
          (try replace YZ := Lib.hid (YZ.out.grown hg5 (by simp)))
          clear hg5 hg7 HPD HSE
          (try simp only [Act.put, List.setIfInBounds_toArray, List.set_cons_zero, List.set_cons_succ])
          refine H_take (k := 10) (v := ?_) (by rfl) (by kernel_rfl) (by kernel_rfl) (by kernel_rfl) (by exact fun _ _ _ h => h) (by rfl) ?_ (by assumption) ?_
          rotate_left 1
          · intro w hSw
            (try dsimp only at hSw)
            go_simp
            (try with_reducible rfl)
          (try simp only [Act.put, List.setIfInBounds_toArray, List.set_cons_zero, List.set_cons_succ])
          refine H_take (k := 11) (v := ?_) (by rfl) (by kernel_rfl) (by kernel_rfl) (by kernel_rfl) (by exact fun _ _ _ h => h) (by rfl) ?_ (by assumption) ?_
          rotate_left 1
          · intro w hSw
            (try dsimp only at hSw)
            go_simp
            (try with_reducible rfl)
          (try simp only [Act.put, List.setIfInBounds_toArray, List.set_cons_zero, List.set_cons_succ])
          refine H_take (k := 12) (v := ?_) (by rfl) (by kernel_rfl) (by kernel_rfl) (by kernel_rfl) (by exact fun _ _ _ h => h) (by rfl) ?_ (by assumption) ?_
          rotate_left 1
          · intro w hSw
            (try dsimp only at hSw)
            go_simp
            (try with_reducible rfl)
          (try simp only [Act.put, List.setIfInBounds_toArray, List.set_cons_zero, List.set_cons_succ])
          refine H_run (k := 13) (by rfl) (by kernel_rfl) (by rfl) (fun K hK => ?_)
          go_simp
          obtain ⟨w6, hw6⟩ : ∃ v, w5.alloc (.cells #[.int .i64 0, .int .i64 0] 100) = v := ⟨_, rfl⟩
          obtain ⟨fb, hfb⟩ : ∃ b, w5.heap.size = b := ⟨_, rfl⟩
          have YZ := Lib.hid (show Blk w6 fb 100 #[.int .i64 0, .int .i64 0] by rw [← hw6, ← hfb]; exact Blk.new _ _ _)
          have hg6 : w5.grownBy w6 none := by rw [← hw6]; exact gr_alloc (gr_refl _ _) _
          have hg8 := gr_none hHeld hg6
          have zfb : wr.heap.size ≤ fb := by rw [← hfb]; exact hHeld.size
          (try rw [hw6])
          (try rw [hfb])
          refine hK _ _ hg8 ?_
          clear hK K hHeld hw6 hfb
          have hHeld := hg8
          (try replace HSE := Lib.hid (HSE.out.grown hg6 (fun g e => by cases e)))
          clear hg6 hg8
          (try simp only [Act.put, List.setIfInBounds_toArray, List.set_cons_zero, List.set_cons_succ])
          refine H_run (k := 14) (by rfl) (by kernel_rfl) (by rfl) (fun K hK => ?_)
          refine wp_store_all Tryz.frT _ _ (by rfl) fb (by rfl) 100 _ #[.int .i64 P, .int .i64 Q] (by rfl) YZ.out rfl rfl (by simp [Value.oneCell']) ?_
          intro wg hwg
          have hgg : wr.grownBy wg none := gr_trans hHeld hwg.2.1 (fun g e => .inr (by injection e with e; omega))
          have YF := Lib.hid hwg.1
          refine hK _ _ hgg ?_
          clear hK K hwg YZ hHeld
          have hHeld := hgg
          replace HGR := Lib.hid (gr_none HGR.out hgg)
          replace HSR := Lib.hid (HSR.out.grown hgg (by simp))
          clear hgg
          (try simp only [Act.put, List.setIfInBounds_toArray, List.set_cons_zero, List.set_cons_succ])
          refine H_take (k := 15) (v := ?_) (by rfl) (by kernel_rfl) (by kernel_rfl) (by kernel_rfl) (by exact fun _ _ _ h => h) (by rfl) ?_ (by assumption) ?_
          rotate_left 1
          · intro w hSw
            (try dsimp only at hSw)
            go_simp
            (try with_reducible rfl)
          (try simp only [Act.put, List.setIfInBounds_toArray, List.set_cons_zero, List.set_cons_succ])
          refine H_done (by kernel_rfl) ?_
          clear hHeld zfb HCR HAR
          have y0 := YF.out.cell 0
          have y1 := YF.out.cell 1
          have hpb : 0 ≤ part ∧ part ≤ 1000 := HPB.out
          have hx0 : 0 ≤ part * Q := Int.mul_nonneg hpb.1 b3
          have hx1 : part * Q ≤ 1000 * 500 := Int.mul_le_mul hpb.2 b4 b3 (by omega)
          obtain ⟨x, hx⟩ : ∃ x, part * Q = x := ⟨_, rfl⟩
          obtain ⟨y, hy⟩ : ∃ y, P * 1000 = y := ⟨_, rfl⟩
          have HX := Lib.hid hx; have HY := Lib.hid hy
          have q1 : IntKind.i64.wrap (part * Q) = x := by rw [IntWalk.i64_in _ (by omega)]; exact hx
          have q2 : IntKind.i64.wrap (P * 1000) = y := by rw [IntWalk.i64_in _ (by omega)]; exact hy
          clear hx hy hx0 hx1 hpb
          cases X
          · have HB2 := Lib.hid (show enB s A C most short part A'.length = false from HB.out)
            go_wp2_with fail
            go_roundw
            case rel => exact ⟨A'.length + 1, by omega, by go_num, HGR.out, HSR.out, fstT_no HNO.out HB2.out⟩
            case measure => simp [intOf]; omega
          · have hcm : 1000 * P = y := by have := HY.out; omega
            by_cases hxy : x ≤ y
            · have HB2 := Lib.hid (show enB s A C most short part A'.length = true by rw [HB.out, HX.out, hcm, decide_eq_true hxy]; rfl)
              have HV := Lib.hid (show enoughD s A C most short part = .tuple #[.int .i64 A'.length, .bool true] by unfold enoughD enN; rw [fstT_yes HNO.out HB2.out _ hlt]; rfl)
              clear hcm
              go_wp2_with fail
              go_ret2
              exact ⟨by rw [HV.out]; try rfl, HGR.out⟩
            · have HB2 := Lib.hid (show enB s A C most short part A'.length = false by rw [HB.out, HX.out, hcm, decide_eq_false hxy]; rfl)
              clear hcm
              go_wp2_with fail
              go_roundw
              case rel => exact ⟨A'.length + 1, by omega, by go_num, HGR.out, HSR.out, fstT_no HNO.out HB2.out⟩
              case measure => simp [intOf]; omega
        · obtain ⟨w6, hw6⟩ : ∃ v, w4.alloc (.cells #[.int .i64 0, .int .i64 0] 100) = v := ⟨_, rfl⟩
          obtain ⟨fb, hfb⟩ : ∃ b, w4.heap.size = b := ⟨_, rfl⟩
          have YZ := Lib.hid (show Blk w6 fb 100 #[.int .i64 0, .int .i64 0] by rw [← hw6, ← hfb]; exact Blk.new _ _ _)
          have hg6 : w4.grownBy w6 none := by rw [← hw6]; exact gr_alloc (gr_refl _ _) _
          have hg8 := gr_none hHeld hg6
          have zfb : wr.heap.size ≤ fb := by rw [← hfb]; exact hHeld.size
          go_simp
          (try rw [hw6])
          (try rw [hfb])
          refine hK _ _ hg8 ?_
          clear hK K hHeld hw6 hfb
          have hHeld := hg8
          (try replace HSE := Lib.hid (HSE.out.grown hg6 (fun g e => by cases e)))
          clear hg6 hg8
          (try simp only [Act.put, List.setIfInBounds_toArray, List.set_cons_zero, List.set_cons_succ])
          refine H_run (k := 9) (by rfl) (by kernel_rfl) (by rfl) (fun K hK => ?_)
          go_simp
          refine (servedOf_any lo2 0 cA C.length cc C B c L _ most short (HCR.out.grown hHeld (fun g e => by cases e)) HSE.out (by omega) (fun x hx => (HCN.out x hx).1)).mono ?_
          rintro e w5 ⟨rfl, hg5⟩
          rw [HPD.out]
          have hg7 := gr_none hHeld hg5
          refine hK _ _ hg7 ?_
          clear hK K hHeld
          have hHeld := hg7
          (try replace YZ := Lib.hid (YZ.out.grown hg5 (by simp)))
          clear hg5 hg7 HPD HSE
          (try simp only [Act.put, List.setIfInBounds_toArray, List.set_cons_zero, List.set_cons_succ])
          refine H_take (k := 10) (v := ?_) (by rfl) (by kernel_rfl) (by kernel_rfl) (by kernel_rfl) (by exact fun _ _ _ h => h) (by rfl) ?_ (by assumption) ?_
          rotate_left 1
          · intro w hSw
            (try dsimp only at hSw)
            go_simp
            (try with_reducible rfl)
          (try simp only [Act.put, List.setIfInBounds_toArray, List.set_cons_zero, List.set_cons_succ])
          refine H_take (k := 11) (v := ?_) (by rfl) (by kernel_rfl) (by kernel_rfl) (by kernel_rfl) (by exact fun _ _ _ h => h) (by rfl) ?_ (by assumption) ?_
          rotate_left 1
          · intro w hSw
            (try dsimp only at hSw)
            go_simp
            (try with_reducible rfl)
          (try simp only [Act.put, List.setIfInBounds_toArray, List.set_cons_zero, List.set_cons_succ])
          refine H_take (k := 12) (v := ?_) (by rfl) (by kernel_rfl) (by kernel_rfl) (by kernel_rfl) (by exact fun _ _ _ h => h) (by rfl) ?_ (by assumption) ?_
          rotate_left 1
          · intro w hSw
            (try dsimp only at hSw)
            go_simp
            (try with_reducible rfl)
          (try simp only [Act.put, List.setIfInBounds_toArray, List.set_cons_zero, List.set_cons_succ])
          refine H_run (k := 14) (by rfl) (by kernel_rfl) (by rfl) (fun K hK => ?_)
          refine wp_store_all Tryz.frT _ _ (by rfl) fb (by rfl) 100 _ #[.int .i64 P, .int .i64 Q] (by rfl) YZ.out rfl rfl (by simp [Value.oneCell']) ?_
          intro wg hwg
          have hgg : wr.grownBy wg none := gr_trans hHeld hwg.2.1 (fun g e => .inr (by injection e with e; omega))
          have YF := Lib.hid hwg.1
          refine hK _ _ hgg ?_
          clear hK K hwg YZ hHeld
          have hHeld := hgg
          replace HGR := Lib.hid (gr_none HGR.out hgg)
          replace HSR := Lib.hid (HSR.out.grown hgg (by simp))
          clear hgg
          (try simp only [Act.put, List.setIfInBounds_toArray, List.set_cons_zero, List.set_cons_succ])
          refine H_take (k := 15) (v := ?_) (by rfl) (by kernel_rfl) (by kernel_rfl) (by kernel_rfl) (by exact fun _ _ _ h => h) (by rfl) ?_ (by assumption) ?_
          rotate_left 1
          · intro w hSw
            (try dsimp only at hSw)
            go_simp
            (try with_reducible rfl)
          (try simp only [Act.put, List.setIfInBounds_toArray, List.set_cons_zero, List.set_cons_succ])
          refine H_done (by kernel_rfl) ?_
          clear hHeld zfb HCR HAR
          have y0 := YF.out.cell 0
          have y1 := YF.out.cell 1
          have hpb : 0 ≤ part ∧ part ≤ 1000 := HPB.out
          have hx0 : 0 ≤ part * Q := Int.mul_nonneg hpb.1 b3
          have hx1 : part * Q ≤ 1000 * 500 := Int.mul_le_mul hpb.2 b4 b3 (by omega)
          obtain ⟨x, hx⟩ : ∃ x, part * Q = x := ⟨_, rfl⟩
          obtain ⟨y, hy⟩ : ∃ y, P * 1000 = y := ⟨_, rfl⟩
          have HX := Lib.hid hx; have HY := Lib.hid hy
          have q1 : IntKind.i64.wrap (part * Q) = x := by rw [IntWalk.i64_in _ (by omega)]; exact hx
          have q2 : IntKind.i64.wrap (P * 1000) = y := by rw [IntWalk.i64_in _ (by omega)]; exact hy
          clear hx hy hx0 hx1 hpb
          cases X
          · have HB2 := Lib.hid (show enB s A C most short part A'.length = false from HB.out)
            go_wp2_with fail
            go_roundw
            case rel => exact ⟨A'.length + 1, by omega, by go_num, HGR.out, HSR.out, fstT_no HNO.out HB2.out⟩
            case measure => simp [intOf]; omega
          · have hcm : 1000 * P = y := by have := HY.out; omega
            by_cases hxy : x ≤ y
            · have HB2 := Lib.hid (show enB s A C most short part A'.length = true by rw [HB.out, HX.out, hcm, decide_eq_true hxy]; rfl)
              have HV := Lib.hid (show enoughD s A C most short part = .tuple #[.int .i64 A'.length, .bool true] by unfold enoughD enN; rw [fstT_yes HNO.out HB2.out _ hlt]; rfl)
              clear hcm
              go_wp2_with fail
              go_ret2
              exact ⟨by rw [HV.out]; try rfl, HGR.out⟩
            · have HB2 := Lib.hid (show enB s A C most short part A'.length = false by rw [HB.out, HX.out, hcm, decide_eq_false hxy]; rfl)
              clear hcm
              go_wp2_with fail
              go_roundw
              case rel => exact ⟨A'.length + 1, by omega, by go_num, HGR.out, HSR.out, fstT_no HNO.out HB2.out⟩
              case measure => simp [intOf]; omega
      · obtain ⟨w6, hw6⟩ : ∃ v, w1.alloc (.cells #[.int .i64 0, .int .i64 0] 100) = v := ⟨_, rfl⟩
        obtain ⟨fb, hfb⟩ : ∃ b, w1.heap.size = b := ⟨_, rfl⟩
        have YZ := Lib.hid (show Blk w6 fb 100 #[.int .i64 0, .int .i64 0] by rw [← hw6, ← hfb]; exact Blk.new _ _ _)
        have hg6 : w1.grownBy w6 none := by rw [← hw6]; exact gr_alloc (gr_refl _ _) _
        have hg8 := gr_none hHeld hg6
        have zfb : wr.heap.size ≤ fb := by rw [← hfb]; exact hHeld.size
        go_simp
        (try rw [hw6])
        (try rw [hfb])
        refine hK _ _ hg8 ?_
        clear hK K hHeld hw6 hfb
        have hHeld := hg8
        (try replace HSE := Lib.hid (HSE.out.grown hg6 (fun g e => by cases e)))
        clear hg6 hg8
        (try simp only [Act.put, List.setIfInBounds_toArray, List.set_cons_zero, List.set_cons_succ])
        refine H_run (k := 6) (by rfl) (by kernel_rfl) (by rfl) (fun K hK => ?_)
        go_simp
        refine (playOf_any s gA gc A' cA cc C _ (by
          have h1 := HAR.out.grown hHeld (fun g e => by cases e)
          exact ⟨h1.1.lower (Nat.zero_le _), fun a ha => (h1.2 a ha).lower (Nat.zero_le _)⟩) (by
          have h1 := HCR.out.grown hHeld (fun g e => by cases e)
          exact ⟨h1.1.lower (Nat.zero_le _), h1.2⟩) (by omega) HLN.out HAN2.out HCN.out k3 k1 k2).mono ?_
        rintro e w4 ⟨B, c, rfl, hown, hg4, _⟩
        rw [HSL.out] at hown
        have hlen : L.length = C.length := hown.2
        have hg5 : wr.grownBy w4 none := gr_none hHeld hg4
        have HSE := Lib.hid (show Ses w4 0 B C.length c L from ⟨hown.recs.lower (Nat.zero_le _), fun z hz => playOf_se (s := s) (A := A') HCN.out HAN2.out z (by rw [HSL.out]; exact hz)⟩)
        refine hK _ _ hg5 ?_
        clear hK K hHeld
        have hHeld := hg5
        (try replace YZ := Lib.hid (YZ.out.grown hg4 (by simp)))
        clear hg4 hlen hown hg5
        (try simp only [Act.put, List.setIfInBounds_toArray, List.set_cons_zero, List.set_cons_succ])
        refine H_run (k := 9) (by rfl) (by kernel_rfl) (by rfl) (fun K hK => ?_)
        go_simp
        refine (servedOf_any lo2 0 cA C.length cc C B c L _ most short (HCR.out.grown hHeld (fun g e => by cases e)) HSE.out (by omega) (fun x hx => (HCN.out x hx).1)).mono ?_
        rintro e w5 ⟨rfl, hg5⟩
        rw [HPD.out]
        have hg7 := gr_none hHeld hg5
        refine hK _ _ hg7 ?_
        clear hK K hHeld
        have hHeld := hg7
        (try replace YZ := Lib.hid (YZ.out.grown hg5 (by simp)))
        clear hg5 hg7 HPD HSE
        (try simp only [Act.put, List.setIfInBounds_toArray, List.set_cons_zero, List.set_cons_succ])
        refine H_take (k := 10) (v := ?_) (by rfl) (by kernel_rfl) (by kernel_rfl) (by kernel_rfl) (by exact fun _ _ _ h => h) (by rfl) ?_ (by assumption) ?_
        rotate_left 1
        · intro w hSw
          (try dsimp only at hSw)
          go_simp
          (try with_reducible rfl)
        (try simp only [Act.put, List.setIfInBounds_toArray, List.set_cons_zero, List.set_cons_succ])
        refine H_take (k := 11) (v := ?_) (by rfl) (by kernel_rfl) (by kernel_rfl) (by kernel_rfl) (by exact fun _ _ _ h => h) (by rfl) ?_ (by assumption) ?_
        rotate_left 1
        · intro w hSw
          (try dsimp only at hSw)
          go_simp
          (try with_reducible rfl)
        (try simp only [Act.put, List.setIfInBounds_toArray, List.set_cons_zero, List.set_cons_succ])
        refine H_take (k := 12) (v := ?_) (by rfl) (by kernel_rfl) (by kernel_rfl) (by kernel_rfl) (by exact fun _ _ _ h => h) (by rfl) ?_ (by assumption) ?_
        rotate_left 1
        · intro w hSw
          (try dsimp only at hSw)
          go_simp
          (try with_reducible rfl)
        (try simp only [Act.put, List.setIfInBounds_toArray, List.set_cons_zero, List.set_cons_succ])
        refine H_run (k := 14) (by rfl) (by kernel_rfl) (by rfl) (fun K hK => ?_)
        refine wp_store_all Tryz.frT _ _ (by rfl) fb (by rfl) 100 _ #[.int .i64 P, .int .i64 Q] (by rfl) YZ.out rfl rfl (by simp [Value.oneCell']) ?_
        intro wg hwg
        have hgg : wr.grownBy wg none := gr_trans hHeld hwg.2.1 (fun g e => .inr (by injection e with e; omega))
        have YF := Lib.hid hwg.1
        refine hK _ _ hgg ?_
        clear hK K hwg YZ hHeld
        have hHeld := hgg
        replace HGR := Lib.hid (gr_none HGR.out hgg)
        replace HSR := Lib.hid (HSR.out.grown hgg (by simp))
        clear hgg
        (try simp only [Act.put, List.setIfInBounds_toArray, List.set_cons_zero, List.set_cons_succ])
        refine H_take (k := 15) (v := ?_) (by rfl) (by kernel_rfl) (by kernel_rfl) (by kernel_rfl) (by exact fun _ _ _ h => h) (by rfl) ?_ (by assumption) ?_
        rotate_left 1
        · intro w hSw
          (try dsimp only at hSw)
          go_simp
          (try with_reducible rfl)
        (try simp only [Act.put, List.setIfInBounds_toArray, List.set_cons_zero, List.set_cons_succ])
        refine H_done (by kernel_rfl) ?_
        clear hHeld zfb HCR HAR
        have y0 := YF.out.cell 0
        have y1 := YF.out.cell 1
        have hpb : 0 ≤ part ∧ part ≤ 1000 := HPB.out
        have hx0 : 0 ≤ part * Q := Int.mul_nonneg hpb.1 b3
        have hx1 : part * Q ≤ 1000 * 500 := Int.mul_le_mul hpb.2 b4 b3 (by omega)
        obtain ⟨x, hx⟩ : ∃ x, part * Q = x := ⟨_, rfl⟩
        obtain ⟨y, hy⟩ : ∃ y, P * 1000 = y := ⟨_, rfl⟩
        have HX := Lib.hid hx; have HY := Lib.hid hy
        have q1 : IntKind.i64.wrap (part * Q) = x := by rw [IntWalk.i64_in _ (by omega)]; exact hx
        have q2 : IntKind.i64.wrap (P * 1000) = y := by rw [IntWalk.i64_in _ (by omega)]; exact hy
        clear hx hy hx0 hx1 hpb
        cases X
        · have HB2 := Lib.hid (show enB s A C most short part A'.length = false from HB.out)
          go_wp2_with fail
          go_roundw
          case rel => exact ⟨A'.length + 1, by omega, by go_num, HGR.out, HSR.out, fstT_no HNO.out HB2.out⟩
          case measure => simp [intOf]; omega
        · have hcm : 1000 * P = y := by have := HY.out; omega
          by_cases hxy : x ≤ y
          · have HB2 := Lib.hid (show enB s A C most short part A'.length = true by rw [HB.out, HX.out, hcm, decide_eq_true hxy]; rfl)
            have HV := Lib.hid (show enoughD s A C most short part = .tuple #[.int .i64 A'.length, .bool true] by unfold enoughD enN; rw [fstT_yes HNO.out HB2.out _ hlt]; rfl)
            clear hcm
            go_wp2_with fail
            go_ret2
            exact ⟨by rw [HV.out]; try rfl, HGR.out⟩
          · have HB2 := Lib.hid (show enB s A C most short part A'.length = false by rw [HB.out, HX.out, hcm, decide_eq_false hxy]; rfl)
            clear hcm
            go_wp2_with fail
            go_roundw
            case rel => exact ⟨A'.length + 1, by omega, by go_num, HGR.out, HSR.out, fstT_no HNO.out HB2.out⟩
            case measure => simp [intOf]; omega
    · obtain rfl : i = A.length + 1 := by omega
      have HV := Lib.hid (show enoughD s A C most short part = .tuple #[.int .i64 0, .bool false] by unfold enoughD enN; rw [HNO.out]; rfl)
      go_wp2_with fail
      go_ret2
      exact ⟨by rw [HV.out]; try rfl, HGR.out⟩
end
end Go.Proofs.YtpeoijngmglbfaaGreatDoor

/- Contracts of checkPlay and Play. Conditions: agents and callers as they lie in memory. -/
import Derived.Test.YtpildcnoghojpaaGreatDoorPl8
import Derived.Test.YtpildcnoghojpaaGreatDoorQue2
import Derived.Test.YtpildcnoghojpaaGreatDoorQue3
namespace Go.Proofs.YtpildcnoghojpaaGreatDoor
open Go.RowKit

/-- Right agents have numbers in bounds. -/
theorem agN_all {A : List AgV} (h : agsE A = 0) (hl : ∀ a ∈ A, a.ps.length = a.pn ∧ a.sk.length = a.sn) : ∀ a ∈ A, AgN a := by
  intro a ha
  obtain ⟨i, hi⟩ := List.mem_iff_getElem?.1 ha
  obtain ⟨hp, hs⟩ := hl a ha
  unfold agsE at h
  split at h
  · cases h
  · have h1 := fstE_ev h i (List.getElem?_eq_some_iff.1 hi).1
    unfold agAt at h1
    rw [hi] at h1
    change (if keyOk (nb a.key) = true then _ else (5 : Int)) = 0 at h1
    split at h1
    · rename_i hk
      split at h1
      · cases h1
      · have h3 : agE a = 0 := h1
        have hR : AgR a := agR_of hp (by
          unfold agsE
          rw [if_neg (by simp)]
          show (if (0 : Int) = 0 then agAt [a] 0 else 0) = 0
          rw [if_pos rfl]
          show (if keyOk (nb a.key) then (if decide (0 < 0) && ([a][0 - 1]?).elim false (fun b => leS a.key b.key) then 7 else agE a) else (5 : Int)) = 0
          rw [if_pos hk, if_neg (by simp)]
          exact h3)
        refine ⟨hR.tm.1, hR.tm.2.1, hR.tm.2.2, hR.wr.1, hR.wr.2, fun p hp2 => ?_, fun x hx => ?_⟩
        · have := hR.ps.w p hp2; omega
        · unfold agE at h3
          split at h3
          · cases h3
          · split at h3
            · rename_i hsk
              obtain ⟨j, hj⟩ := List.mem_iff_getElem?.1 hx
              have h4 := fstE_ev hsk j (by rw [← hs]; exact (List.getElem?_eq_some_iff.1 hj).1)
              unfold skAt at h4
              rw [hj] at h4
              change (if keyOk (nb x.1) = true then _ else (5 : Int)) = 0 at h4
              split at h4
              · split at h4
                · rename_i hb
                  unfold inB at hb
                  rw [Bool.and_eq_true, decide_eq_true_eq, decide_eq_true_eq] at hb
                  omega
                · cases h4
              · cases h4
            · contradiction
    · cases h1
theorem style_ok {s : StyV} (h : styleE s.kind s.age s.say = 0) : 1 ≤ s.kind ∧ s.kind ≤ 4 ∧ 0 ≤ s.age := by
  unfold styleE at h
  split at h
  · rename_i h1
    unfold inB at h1
    rw [Bool.and_eq_true, decide_eq_true_eq, decide_eq_true_eq] at h1
    split at h
    · rename_i h2
      unfold inB at h2
      simp only [Bool.and_eq_true, decide_eq_true_eq] at h2
      omega
    · cases h
  · cases h
def pchE (s : StyV) (A : List AgV) (C : List CaV) : Int := if styleE s.kind s.age s.say = 0 then (if agsE A = 0 then casE C else agsE A) else styleE s.kind s.age s.say
set_option maxHeartbeats 2000000 in
set_option maxRecDepth 100000 in
theorem checkPlay_any (lo1 lo2 : Nat) (s : StyV) (gA : Option Addr) (m gc : Nat) (A : List AgV) (cA : Option Addr) (n cc : Nat) (C : List CaV) (w : World) (hA : Ags w lo1 gA m gc A) (hC : Cas w lo2 cA n cc C) (hm : m ≤ 1000) (hn : n ≤ 1000) :
    Calls Tryz.prog 17 #[.agg #[.int .i64 s.kind, .int .i64 s.age, .int .i64 s.say], .slice gA m gc, .slice cA n cc] w (RetV (.int .i64 (pchE s A C)) w) := by
  obtain ⟨w0, hw0⟩ : ∃ v, w.alloc (.cells #[.int .i64 s.kind, .int .i64 s.age, .int .i64 s.say] 33) = v := ⟨_, rfl⟩
  have HS0 := Lib.hid (show Blk w0 w.heap.size 33 #[.int .i64 s.kind, .int .i64 s.age, .int .i64 s.say] by rw [← hw0]; exact Blk.new _ _ _)
  have HG := Lib.hid (show w.grownBy w0 none by rw [← hw0]; exact gr_alloc (gr_refl _ _) _)
  have HW0 := Lib.hid hw0
  have HA := Lib.hid hA; have HC := Lib.hid hC
  obtain ⟨E1, h1⟩ : ∃ E, styleE s.kind s.age s.say = E := ⟨_, rfl⟩
  obtain ⟨E2, h2⟩ : ∃ E, agsE A = E := ⟨_, rfl⟩
  obtain ⟨E3, h3⟩ : ∃ E, casE C = E := ⟨_, rfl⟩
  have HV := Lib.hid (show pchE s A C = if E1 = 0 then (if E2 = 0 then E3 else E2) else E1 by unfold pchE; rw [h1, h2, h3])
  have H1 := Lib.hid h1; have H2 := Lib.hid h2; have H3 := Lib.hid h3
  clear hw0 hA hC h1 h2 h3
  go_enter Tryz.func17, Tryz.ntmps17
  go_upto_region 1 with (fail)
  rw [HW0.out]
  go_wp2_with (first
    | (refine wpl_load_all Tryz.syT rfl _ rfl _ rfl _ _ HS0.out rfl ?_)
    | fail)
  refine (checkStyle_any s.kind s.age s.say _).mono ?_
  rintro e w1 ⟨rfl, hg1⟩
  rw [H1.out]
  replace HG := Lib.hid (gr_none HG.out hg1)
  clear hg1
  by_cases c1 : E1 = 0
  · have d1 : (E1 != 0) = false := by simpa using c1
    rw [if_pos c1] at HV
    clear c1
    go_wp2_with fail
    refine (checkAgents_any lo1 gA m gc A _ (HA.out.grown HG.out (fun g e => by cases e)) (by omega)).mono ?_
    rintro e w2 ⟨rfl, hg2⟩
    rw [H2.out]
    replace HG := Lib.hid (gr_none HG.out hg2)
    clear hg2
    by_cases c2 : E2 = 0
    · have d2 : (E2 != 0) = false := by simpa using c2
      rw [if_pos c2] at HV
      clear c2
      go_wp2_with fail
      refine (checkCallers_any lo2 cA n cc C _ (HC.out.grown HG.out (fun g e => by cases e)) (by omega)).mono ?_
      rintro e w3 ⟨rfl, hg3⟩
      rw [H3.out]
      replace HG := Lib.hid (gr_none HG.out hg3)
      clear hg3
      go_wp2_with fail
      go_ret
      exact ⟨by rw [HV.out]; try rfl, HG.out⟩
    · have d2 : (E2 != 0) = true := by simpa using c2
      rw [if_neg c2] at HV
      clear c2
      go_wp2_with fail
      go_ret
      exact ⟨by rw [HV.out]; try rfl, HG.out⟩
  · have d1 : (E1 != 0) = true := by simpa using c1
    rw [if_neg c1] at HV
    clear c1
    go_wp2_with fail
    go_ret
    exact ⟨by rw [HV.out]; try rfl, HG.out⟩
/-- What is right about arguments that are right. -/
theorem pch_right {w : World} {lo : Nat} {s : StyV} {gA : Option Addr} {m gc : Nat} {A : List AgV} {C : List CaV} (hA : Ags w lo gA m gc A) (hC : ∀ c ∈ C, CaOk c) (h : pchE s A C = 0) : (1 ≤ s.kind ∧ s.kind ≤ 4 ∧ 0 ≤ s.age) ∧ (∀ a ∈ A, AgN a ∧ a.key.size ≤ 1000) ∧ ∀ c ∈ C, CaN c ∧ CaOk c := by
  unfold pchE at h
  split at h
  · rename_i h1
    split at h
    · rename_i h2
      exact ⟨style_ok h1, fun a ha => ⟨agN_all h2 (fun a ha => ⟨(hA.2 a ha).2.2.len, (hA.2 a ha).2.1.len⟩) a ha, (hA.2 a ha).1.1⟩, fun c hc => ⟨caNum_n (casE_num h c hc), hC c hc⟩⟩
    · contradiction
  · contradiction
def Played (s : StyV) (A : List AgV) (C : List CaV) (w : World) (e : Ending) (w' : World) : Prop :=
  w.grownBy w' none ∧ ((pchE s A C ≠ 0 ∧ e = .returned (.tuple #[.slice none 0 0, .int .i64 (pchE s A C)])) ∨ (pchE s A C = 0 ∧ ∃ B m c, e = .returned (.tuple #[.slice B m c, .int .i64 0]) ∧ OwnR SeV.row 5 w' w.heap.size 39 B m c (playOf s A C).se))
set_option maxHeartbeats 2000000 in
set_option maxRecDepth 100000 in
theorem Play_any (lo1 lo2 : Nat) (s : StyV) (gA : Option Addr) (gc : Nat) (A : List AgV) (cA : Option Addr) (cc : Nat) (C : List CaV) (w : World) (hA : Ags w lo1 gA A.length gc A) (hC : Cas w lo2 cA C.length cc C) (hm : A.length ≤ 1000) (hn : C.length ≤ 19) :
    Calls Tryz.prog 5 #[.agg #[.int .i64 s.kind, .int .i64 s.age, .int .i64 s.say], .slice gA A.length gc, .slice cA C.length cc] w (Played s A C w) := by
  obtain ⟨w0, hw0⟩ : ∃ v, w.alloc (.cells #[.int .i64 s.kind, .int .i64 s.age, .int .i64 s.say] 33) = v := ⟨_, rfl⟩
  have HS0 := Lib.hid (show Blk w0 w.heap.size 33 #[.int .i64 s.kind, .int .i64 s.age, .int .i64 s.say] by rw [← hw0]; exact Blk.new _ _ _)
  have HG := Lib.hid (show w.grownBy w0 none by rw [← hw0]; exact gr_alloc (gr_refl _ _) _)
  have HW0 := Lib.hid hw0
  have HA := Lib.hid hA; have HC := Lib.hid hC
  obtain ⟨E, hE⟩ : ∃ E, pchE s A C = E := ⟨_, rfl⟩
  have HE := Lib.hid hE
  clear hw0 hA hC hE
  go_enter Tryz.func5, Tryz.ntmps5
  go_upto_region 1 with (fail)
  rw [HW0.out]
  go_wp2_with (first
    | (refine wpl_load_all Tryz.syT rfl _ rfl _ rfl _ _ HS0.out rfl ?_)
    | fail)
  refine (checkPlay_any lo1 lo2 s gA A.length gc A cA C.length cc C _ (HA.out.grown HG.out (fun g e => by cases e)) (HC.out.grown HG.out (fun g e => by cases e)) hm (by omega)).mono ?_
  rintro e w1 ⟨rfl, hg1⟩
  rw [HE.out]
  replace HG := Lib.hid (gr_none HG.out hg1)
  replace HS0 := Lib.hid (HS0.out.grown hg1 (by simp))
  clear hg1
  by_cases c1 : E = 0
  · have d1 : (E != 0) = false := by simpa using c1
    obtain ⟨⟨k1, k2, k3⟩, han, hcn⟩ := pch_right HA.out HC.out.2 (HE.out.trans c1)
    have HAN := Lib.hid han; have HCN := Lib.hid hcn
    have HE0 := Lib.hid (HE.out.trans c1)
    clear c1 han hcn
    go_wp2_with (first
      | (refine wpl_load_all Tryz.syT rfl _ rfl _ rfl _ _ HS0.out rfl ?_)
      | fail)
    refine (newPlayer_any lo1 lo2 s gA gc A cA cc C _ (HA.out.grown HG.out (fun g e => by cases e)) (HC.out.grown HG.out (fun g e => by cases e)) hm hn HAN.out HCN.out k3).mono ?_
    rintro e w2 ⟨R, rfl, hpm⟩
    have HPM := Lib.hid hpm
    have hs := sim_new (A := A) HCN.out
    have HS := Lib.hid hs.1
    clear hpm hs
    go_wp2_with fail
    refine (pplay_any _ R s A C (newP A C) (newR A C) 1152921504606846976 _ HPM.out HS.out (RoOk.new fun c hc => (HCN.out c hc).2) (fun d hd => by
      have := List.eq_of_mem_replicate (show d ∈ List.replicate A.length ((0 : Int), (0 : Int)) from hd)
      rw [this]; show (0 : Int) ≤ _; omega)).mono ?_
    rintro e w3 ⟨rfl, hpm3⟩
    have HPM3 := Lib.hid hpm3
    have HALL := Lib.hid (ply_all (s := s) (u := 1152921504606846976) (by omega) HCN.out HAN.out)
    clear hpm3
    go_wp2_with fail
    refine (pseats_any _ R s A C _ _ HPM3.out).mono ?_
    rintro e w4 ⟨B, m, c, rfl, hown, hg4⟩
    have HO := Lib.hid hown
    have HG4 := Lib.hid (gr_none HG.out (gr_none HPM3.out.g hg4))
    have zz := HPM3.out.g.size
    have zz0 := HG.out.size
    clear hown hg4
    go_wp2_with fail
    go_ret2
    exact ⟨HG4.out, .inr ⟨HE0.out, B, m, c, rfl, by rw [← HALL.out]; exact HO.out.lower (by omega)⟩⟩
  · have d1 : (E != 0) = true := by simpa using c1
    have HN := Lib.hid c1
    clear c1
    go_wp2_with fail
    go_ret2
    exact ⟨HG.out, .inl ⟨by rw [HE.out]; exact HN.out, by rw [HE.out]; try rfl⟩⟩
end Go.Proofs.YtpildcnoghojpaaGreatDoor

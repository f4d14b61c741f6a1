/- Contract of the generator of seats' texts. Conditions: the table of powers of ten, outside the stream's block. -/
import Derived.Test.YtnmodobkennklaaGreatDoorTxA
import Derived.Test.YtnmodobkennklaaGreatDoorBun3
import Derived.Test.YtnmodobkennklaaGreatDoorGenQueN
import Derived.Test.YtnmodobkennklaaGreatDoorGenQue3
import Derived.Test.YtnmodobkennklaaGreatDoorBun1
import Derived.Test.YtnmodobkennklaaGreatDoorRo7
namespace Go.Proofs.YtnmodobkennklaaGreatDoor
open Go.RowKit

theorem seLine_small {z : SeV} (h : WfS z) (h1 : z.ca.size ≤ 1000) (h2 : z.ag.size ≤ 1000) : (seLine z).length ≤ 2100 := by
  obtain ⟨a1, a2, a3, a4, a5, a6⟩ := h
  obtain ⟨j, _, _, _, _, hw⟩ := wd_at a1 a2
  have h3 := itS_size (n := z.beg) (by omega) (by omega)
  have h4 := itS_size (n := z.fin) (by omega) (by omega)
  have h5 := dashS_size z.ag
  have h6 := jn_size z.ca (wdS z.how) (dashS z.ag) (itS z.beg) (itS z.fin)
  have h7 : (jnS (seWords z)).size ≤ 2090 := by show (jnS [_, _, _, _, _]).size ≤ _; omega
  unfold seLine
  rw [List.length_append]
  show (jnS (seWords z)).size + 1 ≤ _
  omega
theorem seTo_small {l : List SeV} (h : ∀ z ∈ l, WfS z ∧ z.ca.size ≤ 1000 ∧ z.ag.size ≤ 1000) (k : Nat) : (seTo l k).length ≤ 2100 * k := by
  induction k with
  | zero => exact Nat.le_refl _
  | succ k ih =>
    show (seTo l k ++ (l[k]?).elim [] seLine).length ≤ _
    rw [List.length_append]
    cases e : l[k]? with
    | none => show _ + 0 ≤ _; omega
    | some z =>
      have := seLine_small (h z (mem_of_get e)).1 (h z (mem_of_get e)).2.1 (h z (mem_of_get e)).2.2
      show _ + (seLine z).length ≤ _
      omega
/-- The seats of a play can be written; a text of them is short. -/
theorem play_wf {s : StyV} {A : List AgV} {C : List CaV} (h : RoOk A C (playOf s A C)) : ∀ z ∈ (playOf s A C).se, WfS z ∧ z.ca.size ≤ 1000 ∧ z.ag.size ≤ 1000 := fun z hz => by
  obtain ⟨b1, b2, b3, b4, b5, b6⟩ := h.sv z hz
  obtain ⟨c1, c2⟩ := playOf_how (s := s) (A := A) (C := C) z hz
  exact ⟨⟨c1, c2, by omega, by omega, by omega, by omega⟩, b1, b2⟩
set_option maxHeartbeats 8000000 in
set_option maxRecDepth 100000 in
theorem seatText_any (sb : Nat) (m : Int) (w : World) (hs : Str w sb m) (hm : m ≤ 10000000000) (hp : PwT w) (hsb : sb ≠ 2) :
    Calls Tryz.prog 24 #[.pointer (some ⟨sb, 0, none⟩)] w (Drawn sb (m + 301) (StrBd 40000) w) := by
  have hlt := hs.lt
  have HS := Lib.hid hs; have HPW := Lib.hid hp; have HSB := Lib.hid hsb
  have HG := Lib.hid (gr_refl w (some sb))
  clear hs hp hsb
  go_enter Tryz.func24, Tryz.ntmps24
  go_wp2_with fail
  refine (rightStyle_any sb _ _ HS.out (by omega)).mono ?_
  rintro e w1 ⟨v1, rfl, ⟨s1, s2, s3, rfl, k1, k4, k3⟩, hs1, hg1⟩
  replace HS := Lib.hid hs1
  replace HG := Lib.hid (gr_same HG.out hg1)
  replace HPW := Lib.hid (HPW.out.low hg1 fun g e => by injection e with e; rw [← e]; exact HSB.out)
  have z1 := hg1.size
  clear hs1 hg1
  go_wp2_with fail
  refine (rightAgents_any sb _ _ HS.out (by omega)).mono ?_
  rintro e w2 ⟨v2, rfl, ⟨gA, ng, gc, A, rfl, hga, hng, han⟩, hs2, hg2⟩
  replace HS := Lib.hid hs2
  replace HG := Lib.hid (gr_same HG.out hg2)
  replace HPW := Lib.hid (HPW.out.low hg2 fun g e => by injection e with e; rw [← e]; exact HSB.out)
  have z2 := hg2.size
  clear hs2 hg2
  have HAG := Lib.hid hga.ags
  have HAN := Lib.hid (fun a ha => (⟨(han a ha).2.2, (hga.ags.2 a ha).1.1⟩ : AgN a ∧ a.key.size ≤ 1000))
  obtain ⟨lo3, hlo3⟩ : ∃ lo, w1.heap.size = lo := ⟨_, rfl⟩
  clear hga han
  rw [hlo3] at HAG z1 z2
  go_wp2_with fail
  refine (rightCallersN_any sb _ 4 _ HS.out (by omega) (by omega) (by omega)).mono ?_
  rintro e w3 ⟨v3, rfl, ⟨cA, n, cc, C, rfl, hcas, hn, hcn⟩, hs3, hg3⟩
  replace HS := Lib.hid hs3
  replace HG := Lib.hid (gr_same HG.out hg3)
  replace HPW := Lib.hid (HPW.out.low hg3 fun g e => by injection e with e; rw [← e]; exact HSB.out)
  replace HAG := Lib.hid (HAG.out.grown hg3 (fun g e => by injection e with e; omega))
  have z3 := hg3.size
  clear hs3 hg3
  have HC := Lib.hid hcas.cas
  have HCN := Lib.hid (fun c hc => (⟨hcn c hc, hcas.2 c hc⟩ : CaN c ∧ CaOk c))
  clear hcas hcn
  obtain ⟨lo1, hlo1⟩ : ∃ lo, w2.heap.size = lo := ⟨_, rfl⟩
  rw [hlo1] at HC z2 z3
  have hn4 : n ≤ 4 := by simpa using hn
  clear hn hlo1 hlo3
  obtain rfl : C.length = n := HC.out.1.len
  obtain rfl : A.length = ng := HAG.out.1.len
  go_wp2_with fail
  refine (playOf_any ⟨s1, s2, s3⟩ gA gc A cA cc C _ ⟨HAG.out.1.lower (Nat.zero_le _), fun a ha => (HAG.out.2 a ha).lower (Nat.zero_le _)⟩ ⟨HC.out.1.lower (Nat.zero_le _), HC.out.2⟩ (by omega) (by omega) HAN.out HCN.out k3 k1 k4).mono ?_
  rintro e w4 ⟨B, bc, rfl, hown, hg4, hok⟩
  have hwf := play_wf hok
  have hlen := hok.s
  obtain ⟨L, hL⟩ : ∃ L, (playOf ⟨s1, s2, s3⟩ A C).se = L := ⟨_, rfl⟩
  rw [hL] at hown hwf hlen
  have HB := Lib.hid (show Sws w4 w3.heap.size B C.length bc L from ⟨hown.recs, fun z hz => by have := hwf z hz; exact ⟨by omega, by omega⟩⟩)
  have HWF := Lib.hid hwf
  replace HS := Lib.hid (HS.out.grown hg4 (fun g e => by cases e))
  replace HG := Lib.hid (gr_none HG.out hg4)
  replace HPW := Lib.hid (HPW.out.grown hg4)
  have z4 := hg4.size
  clear hg4 hok hown hwf hL HAG HAN HC HCN
  go_wp2_with fail
  refine (seatLines_any _ B C.length bc L _ HB.out (by omega) (fun z hz => (HWF.out z hz).1) HPW.out).mono ?_
  rintro e w5 ⟨rfl, hg5⟩
  obtain ⟨t0, ht0⟩ : ∃ t : ByteArray, ⟨(seTo L C.length).toArray⟩ = t := ⟨_, rfl⟩
  have hsz : t0.size ≤ 8400 := by
    have := seTo_small HWF.out C.length
    rw [← ht0]
    show (seTo L C.length).toArray.size ≤ _
    rw [List.size_toArray]
    omega
  rw [ht0]
  replace HS := Lib.hid (HS.out.grown hg5 (fun g e => by cases e))
  replace HG := Lib.hid (gr_none HG.out hg5)
  have z5 := hg5.size
  clear hg5 HB HWF ht0 HPW hlen
  go_wp2_with fail
  refine (pick_new sb _ [0, 0, 1, 2] _ (by first | exact HS.out | exact HS.out.alloc _ | exact (HS.out.alloc _).alloc _ | exact ((HS.out.alloc _).alloc _).alloc _ | exact HS.out.drewN _ | exact HS.out.setCell (by simp; omega) _ | exact (HS.out.alloc _).setCell (by simp; omega) _ | exact (HS.out.setCell (by simp; omega) _).alloc _ | exact (HS.out.setCell (by simp; omega) _).drewN _ | exact (HS.out.alloc _).drewN _) (by omega) (by simp) rfl rfl (by simp) (by simp)).mono ?_
  rintro e w6 ⟨v6, rfl, ⟨r6, hr6, rfl⟩, hs6, hg6⟩
  have HR6 := Lib.hid hr6; clear hr6
  have z6 := hg6.size; try simp at z6
  try replace HZ := Lib.hid (HZ.out.grown hg6 (by simp; omega))
  try replace HP := Lib.hid (HP.out.grown hg6 (by simp; omega))
  try replace HGA := Lib.hid (HGA.out.kept hg6 (fun g e => by injection e with e; omega))
  try replace HY := Lib.hid (Own.kept HY.out hg6 (fun g e e' => by injection e with e; have := (HY.out.lt e').1; omega))
  replace HG := Lib.hid (gr_same (a := w) (by repeat (first | exact HG.out | refine gr_alloc ?_ _ | refine gr_drew ?_ | refine gr_drewN ?_ _ | refine gr_setCell ?_ (.inr (by simp; omega)) _)) hg6); clear hg6
  replace HS := Lib.hid hs6; clear hs6
  have hr6 : 0 ≤ r6 ∧ r6 ≤ 2 := by have := HR6.out; simp at this; omega
  obtain ⟨q, rfl⟩ : ∃ q : Nat, r6 = q := ⟨r6.toNat, by omega⟩
  obtain ⟨q0, q2⟩ := hr6
  have zz : w.heap.size ≤ w6.heap.size := by omega
  clear z1 z2 z3 z4 z5 z6 HR6
  go_wp2_with fail
  go_loopw [3, 15] (fun v t wr => ∃ (k : Nat) (s : ByteArray), k ≤ q ∧ t = .int .i64 k ∧ v = .string s ∧ (k = 0 ∧ s.size ≤ 8400 ∨ k = 1 ∧ s.size ≤ 16812 ∨ k = 2 ∧ s.size ≤ 33636) ∧ Str wr sb (m + 295 + 3 * k) ∧ w.grownBy wr (some sb)) (fun _ t _ => q - (intOf t).toNat)
  case atStart => exact ⟨0, t0, by omega, rfl, rfl, .inl ⟨rfl, hsz⟩, HS.out.mono (by omega), HG.out⟩
  case round =>
    clear HS HG
    obtain ⟨k, s, hk, rfl, rfl, hsz, hs, hg⟩ := hrel
    have HS := Lib.hid hs; have HG := Lib.hid hg
    clear hs hg
    by_cases hlt2 : k < q
    · go_wp2_with fail
      refine (changed_any sb _ s ⟨#[32, 10, 48, 45, 57, 97, 99, 103]⟩ _ (by first | exact HS.out | exact HS.out.alloc _ | exact (HS.out.alloc _).alloc _ | exact ((HS.out.alloc _).alloc _).alloc _ | exact HS.out.drewN _ | exact HS.out.setCell (by simp; omega) _ | exact (HS.out.alloc _).setCell (by simp; omega) _ | exact (HS.out.setCell (by simp; omega) _).alloc _ | exact (HS.out.setCell (by simp; omega) _).drewN _ | exact (HS.out.alloc _).drewN _) (by omega) (by omega) (by decide)).mono ?_
      rintro e w7 ⟨v7, rfl, ⟨s7, rfl, b7⟩, hs7, hg7⟩
      have b8 : s7.size ≤ 2 * s.size + 12 := b7
      go_wp2_with fail
      go_roundw
      case rel => exact ⟨k + 1, s7, by omega, by go_num, rfl, by omega, (Str.mono hs7 (by omega)), gr_same (a := w) (by repeat (first | exact HG.out | refine gr_alloc ?_ _ | refine gr_drew ?_ | refine gr_drewN ?_ _ | refine gr_setCell ?_ (.inr (by simp; omega)) _)) hg7⟩
      case measure => simp [intOf]; omega
    · obtain rfl : k = q := by omega
      go_wp2_with fail
      go_ret
      exact ⟨_, rfl, ⟨s, rfl, by omega⟩, HS.out.mono (by omega), HG.out⟩
end Go.Proofs.YtnmodobkennklaaGreatDoor

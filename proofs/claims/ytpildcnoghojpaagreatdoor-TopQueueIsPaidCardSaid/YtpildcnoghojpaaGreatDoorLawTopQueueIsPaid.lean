/- The law TopQueueIsPaid: calls that were answered in a queue, as records, are all charged, as long as they were talked. Conditions: none beside the row's own. -/
import Derived.Test.YtpildcnoghojpaaGreatDoorBun1
import Derived.Test.YtpildcnoghojpaaGreatDoorTie
import Derived.Test.YtpildcnoghojpaaGreatDoorCards
import Derived.ChangeKeysEq
import Derived.ProofKit
import Derived.Lay
import Derived.OpenShut
import Derived.Stop.Joined
import Derived.SevenTiedAt
import Derived.LaidMore
import Derived.MakeChecks
import Derived.LaidHandle
import Derived.Lib.LaidTab
import Derived.Shelf.Vars
import Derived.Deep.CutBlock
import Derived.Deep.RegionHeld3
import Derived.Test.YtpildcnoghojpaaGreatDoorPdS
import Derived.Test.YtpildcnoghojpaaGreatDoorBun5
import Derived.Test.YtpildcnoghojpaaGreatDoorPl9
import Derived.Test.YtpildcnoghojpaaGreatDoorBun3
import Derived.Test.YtpildcnoghojpaaGreatDoorBun6
import Derived.Test.YtpildcnoghojpaaGreatDoorBun7
namespace Go.Proofs.YtpildcnoghojpaaGreatDoor
open Go.ChangeShapes Go.WideShapes Go.ChangeAt Go.RowKit

theorem Tryz.rcsTQ : ElemT Tryz.prog 37 43 8 96 (.agg #[.string ⟨#[]⟩, .string ⟨#[]⟩, .string ⟨#[]⟩, .int .i64 0, .int .i64 0, .int .i64 0, .int .i64 0, .string ⟨#[]⟩]) := elemT_of Tryz.underlying37 (by kernel_rfl) rfl (by decide)
theorem talkS_snoc (l : List RcV) (r : RcV) : talkS (l ++ [r]) = talkS l + r.talk := by unfold talkS; simp
theorem costS_snoc (l : List ChV) (r : ChV) : costS (l ++ [r]) = costS l + r.cost := by unfold costS; simp
theorem cost_bd {l : List ChV} (h : ∀ x ∈ l, 0 ≤ x.cost ∧ x.cost ≤ 90) : 0 ≤ costS l ∧ costS l ≤ 90 * l.length := by
  induction l with
  | nil => exact ⟨by decide, Int.le_refl _⟩
  | cons x l ih =>
    have h1 := ih fun y hy => h y (List.mem_cons_of_mem _ hy)
    have h2 := h x (List.mem_cons_self ..)
    unfold costS at *
    rw [List.map_cons, List.sum_cons, List.length_cons]
    omega
theorem chqs_bd {l : List RcV} (h : RecsG l) : ((chqs l).map (·.1)).length ≤ 8 ∧ ∀ x ∈ (chqs l).map (·.1), 0 ≤ x.cost ∧ x.cost ≤ 90 := by
  have h8 := h.len
  refine ⟨?_, fun x hx => ?_⟩
  · unfold chqs
    rw [List.length_map, List.length_map]
    exact Nat.le_trans (List.length_filter_le _ _) h8
  · obtain ⟨p, hp, rfl⟩ := List.mem_map.1 hx
    obtain ⟨r, hr, rfl⟩ := List.mem_map.1 (show p ∈ (l.filter fun r => decide (r.talk ≠ 0)).map chq from hp)
    obtain ⟨j, hj⟩ := List.mem_iff_getElem?.1 ((List.mem_filter.1 hr).1)
    have := (h.all j r hj).talk
    show 0 ≤ 3 * r.talk ∧ 3 * r.talk ≤ 90
    omega
theorem tfTQ {w : World} {lo cb : Nat} (h : Blk w cb 47 #[.string ⟨#[43, 52, 57]⟩, .string ⟨#[104, 111, 109, 101]⟩, .int .i64 0, .int .i64 0, .int .i64 1, .int .i64 3]) (hz : lo ≤ cb) : TfOk w lo (tq0 (some ⟨cb, 0, none⟩)) :=
  ⟨⟨fun c hc => by rw [List.mem_singleton.1 hc]; exact ⟨by decide, by decide⟩, fun s hs => (by cases hs), by show (1 : Nat) ≤ 1000; decide, by show (0 : Nat) ≤ 1000; decide⟩, ⟨(Reads.blk h 6 1 rfl).lower hz, rfl⟩, Recs.nil⟩
theorem pyTQ {w : World} {lo sb pb : Nat} (hs : Blk w sb 9 #[.string ⟨#[43, 49, 50, 48, 48]⟩]) (hp : Blk w pb 53 #[.string ⟨#[97, 110, 110]⟩, .slice (some ⟨sb, 0, none⟩) 1 1]) (zs : lo ≤ sb) (zp : lo ≤ pb) : Pys w lo (some ⟨pb, 0, none⟩) 1 1 (pq0 (some ⟨sb, 0, none⟩)) :=
  ⟨⟨(Reads.blk hp 2 1 rfl).lower zp, rfl⟩, fun x hx => by
    rw [List.mem_singleton.1 hx]
    exact ⟨⟨by show ByteArray.size ⟨#[97, 110, 110]⟩ ≤ 1000; decide, fun s hs => by rw [List.mem_singleton.1 hs]; decide, by show (1 : Nat) ≤ 1000; decide⟩, ⟨(Reads.blk hs 1 1 rfl).lower zs, rfl⟩⟩⟩
theorem rcTQ {w : World} {lo : Nat} {t : TypeId} {A : Option Addr} {n c : Nat} {l : List RcV} (h : OwnR RcV.row 8 w lo t A n c l) (hg : RecsG l) : Rcs w lo A n c l :=
  ⟨h.recs, fun r hr => by
    obtain ⟨j, hj⟩ := List.mem_iff_getElem?.1 hr
    obtain ⟨g1, g2, g3, g4, g5, _, _, _, g9⟩ := hg.all j r hj
    have h1 : r.id.size = 2 := by rw [← nb_len, g1]; rfl
    exact ⟨by omega, by rw [g3]; decide, by rw [g4]; decide, by rw [g9]; decide, by omega, by omega⟩⟩
theorem invTQ (lo cb sb pb : Nat) (A : Option Addr) (n c : Nat) (R : List RcV) (w : World) (htf : TfOk w lo (tq0 (some ⟨cb, 0, none⟩))) (hpy : Pys w lo (some ⟨pb, 0, none⟩) 1 1 (pq0 (some ⟨sb, 0, none⟩))) (ho : OwnR RcV.row 8 w lo 43 A n c R) (hg : RecsG R) :
    Calls Tryz.prog 10 #[.agg #[.slice (some ⟨cb, 0, none⟩) 1 1, .int .i64 0, .slice none 0 0], .slice (some ⟨pb, 0, none⟩) 1 1, .slice A n c, .int .i64 0] w (fun e w' => ∃ A n c, e = .returned (.tuple #[.slice A n c, .int .i64 0]) ∧ OwnR InV.row 5 w' w.heap.size 65 A n c (if talkS R = 0 then [] else [⟨⟨#[97, 110, 110]⟩, 0, ((chqs R).length : Int), talkS R, 3 * talkS R / 1000⟩]) ∧ w.grownBy w' none) := by
  have hl := hg.len
  have h2 := ho.2
  have q1 : monE (tq0 (some ⟨cb, 0, none⟩)) (pq0 (some ⟨sb, 0, none⟩)) R 0 = 0 := mon_q hg
  have q2 := invL_q (cA := some ⟨cb, 0, none⟩) (nA := some ⟨sb, 0, none⟩) hg
  refine (Invoices_any lo (some ⟨cb, 0, none⟩) none 1 1 0 0 0 _ [] _ 1 1 (pq0 (some ⟨sb, 0, none⟩)) A n c R 0 w htf hpy (rcTQ ho hg) (by omega) (by omega)).mono ?_
  rintro e w' ⟨A, n, c, h1, h2, h3⟩
  refine ⟨A, n, c, h1.trans (congrArg (fun z => Ending.returned (.tuple #[.slice A n c, .int .i64 z])) q1), ?_, h3⟩
  rw [← q2]
  exact h2
theorem chgTQ (lo cb sb pb : Nat) (A : Option Addr) (n c : Nat) (R : List RcV) (w : World) (htf : TfOk w lo (tq0 (some ⟨cb, 0, none⟩))) (hpy : Pys w lo (some ⟨pb, 0, none⟩) 1 1 (pq0 (some ⟨sb, 0, none⟩))) (ho : OwnR RcV.row 8 w lo 43 A n c R) (hg : RecsG R) :
    Calls Tryz.prog 11 #[.agg #[.slice (some ⟨cb, 0, none⟩) 1 1, .int .i64 0, .slice none 0 0], .slice (some ⟨pb, 0, none⟩) 1 1, .slice A n c, .int .i64 0] w (fun e w' => ∃ A n c, e = .returned (.tuple #[.slice A n c, .int .i64 0]) ∧ OwnR ChV.row 5 w' w.heap.size 62 A n c ((chqs R).map (·.1)) ∧ w.grownBy w' none) := by
  have hl := hg.len
  have h2 := ho.2
  have q1 : monE (tq0 (some ⟨cb, 0, none⟩)) (pq0 (some ⟨sb, 0, none⟩)) R 0 = 0 := mon_q hg
  have q2 := chgL_q (cA := some ⟨cb, 0, none⟩) (nA := some ⟨sb, 0, none⟩) hg
  refine (Charges_any lo (some ⟨cb, 0, none⟩) none 1 1 0 0 0 _ [] _ 1 1 (pq0 (some ⟨sb, 0, none⟩)) A n c R 0 w htf hpy (rcTQ ho hg) (by omega) (by omega)).mono ?_
  rintro e w' ⟨A, n, c, h1, h2, h3⟩
  refine ⟨A, n, c, h1.trans (congrArg (fun z => Ending.returned (.tuple #[.slice A n c, .int .i64 z])) q1), ?_, h3⟩
  rw [← q2]
  exact h2
set_option maxRecDepth 100000 in
set_option maxHeartbeats 8000000 in
theorem walk_TopQueueIsPaid (a0 : Option Addr) (len cap : Nat) (zs : List Int) (W : World) (h : IsRow .i64 W a0 len cap zs) (ht : DbT W) :
    Calls Tryz.prog 3 #[.slice a0 len cap] W (fun e w' => e = .returned (.bool true) ∧ Below W.heap.size W w') := by
  have hs := str_new h
  have hpos := ht.pos
  obtain ⟨sb, hsb⟩ : ∃ sb, W.heap.size = sb := ⟨_, rfl⟩
  have HG := Lib.hid (show W.grownBy (W.alloc (.cells #[.slice a0 len cap, .int .i64 0] 25)) (some sb) from gr_alloc (gr_refl _ _) _)
  have HT := Lib.hid (ht.grown HG.out (by rw [← hsb]; intro e; injection e with e; omega))
  rw [hsb] at hs
  have hlt := hs.lt
  have HS := Lib.hid hs
  have HSB := Lib.hid hsb
  have hne : (some sb) ≠ some 0 := by rw [← hsb]; intro e; injection e with e; omega
  have HNE := Lib.hid hne
  clear h hs ht hne
  go_enter Tryz.func3, Tryz.ntmps3
  go_wp2_with fail
  refine (rightCallersR_any sb 0 8 _ HS.out (by omega) (by omega) (by omega)).mono ?_
  rintro e w1 ⟨v1, rfl, ⟨CA, n, cc, C, tC, rfl, hgc, hn, hcq⟩, hs1, hg1⟩
  obtain ⟨lo, hlo⟩ : ∃ lo, (W.alloc (.cells #[.slice a0 len cap, .int .i64 0] 25)).heap.size = lo := ⟨_, rfl⟩
  rw [hlo] at hgc
  have zlo : sb < lo := by have := HS.out.lt; omega
  have z1 := hg1.size
  rw [hlo] at z1
  have HCA := Lib.hid hgc.cas; have HCQ := Lib.hid hcq
  obtain rfl : C.length = n := hgc.1.2
  have hn8 : C.length ≤ 8 := by have := hcq.len; omega
  replace HT := Lib.hid (HT.out.grown hg1 HNE.out)
  replace HG := Lib.hid (gr_same HG.out hg1)
  replace HS := Lib.hid hs1
  clear hs1 hg1 hgc hcq hlo hn
  go_wp2_with fail
  refine (rightStyleR_any sb _ _ HS.out (by omega)).mono ?_
  rintro e w2 ⟨v2, rfl, ⟨sa, sg, sy, rfl, hst⟩, hs2, hg2⟩
  have HST := Lib.hid hst
  have z2 := hg2.size
  replace HCA := Lib.hid (HCA.out.grown hg2 (fun g e => by injection e with e; omega))
  replace HT := Lib.hid (HT.out.grown hg2 HNE.out)
  replace HG := Lib.hid (gr_same HG.out hg2)
  replace HS := Lib.hid hs2
  clear hs2 hg2 hst
  go_wp2_with fail
  refine (rightAgentsR_any sb _ _ HS.out (by omega)).mono ?_
  rintro e w3 ⟨v3, rfl, ⟨GA, m, gc, A, rfl, hga, hm, hae, hat⟩, hs3, hg3⟩
  obtain rfl : A.length = m := hga.1.2
  have HAG := Lib.hid hga.ags; have HAE := Lib.hid hae; have HAT := Lib.hid hat
  have z3 := hg3.size
  replace HCA := Lib.hid (HCA.out.grown hg3 (fun g e => by injection e with e; omega))
  replace HT := Lib.hid (HT.out.grown hg3 HNE.out)
  replace HG := Lib.hid (gr_same HG.out hg3)
  replace HS := Lib.hid hs3
  clear hs3 hg3 hga hae hat
  go_wp2_with fail
  have HPC := Lib.hid (show pchE ⟨sa, sg, sy⟩ A C = 0 by unfold pchE; rw [if_pos HST.out, if_pos HAE.out]; exact HCQ.out.e)
  refine (Play_any _ lo ⟨sa, sg, sy⟩ GA gc A CA cc C _ HAG.out HCA.out (by omega) (by omega)).mono ?_
  rintro e w4 ⟨hg4, hcase⟩
  obtain ⟨B, mz, zc, rfl, hown⟩ : ∃ B m c, e = .returned (.tuple #[.slice B m c, .int .i64 0]) ∧ OwnR SeV.row 5 w4 w3.heap.size 39 B m c (playOf ⟨sa, sg, sy⟩ A C).se := by
    rcases hcase with ⟨hne, _⟩ | ⟨_, B, m, c, h1, h2⟩
    · exact absurd HPC.out hne
    · exact ⟨B, m, c, h1, h2⟩
  obtain ⟨hzl, hzs⟩ := playOf_paid (s := ⟨sa, sg, sy⟩) (A := A) (C := C)
  obtain ⟨Z, hZ⟩ : ∃ Z, (playOf ⟨sa, sg, sy⟩ A C).se = Z := ⟨_, rfl⟩
  rw [hZ] at hown hzl hzs
  have HZL := Lib.hid hzl
  clear hZ hzl
  obtain rfl : Z.length = mz := hown.2
  have HZ := Lib.hid hown.recs
  have HZS := Lib.hid hzs
  have HRG := Lib.hid (qRecs_g HCQ.out hzs HAT.out)
  have z4 := hg4.size
  replace HCA := Lib.hid (HCA.out.grown hg4 (fun g e => by cases e))
  replace HT := Lib.hid (HT.out.grown hg4 (by simp))
  replace HG := Lib.hid (gr_none HG.out hg4)
  clear hg4 hcase hown hzs HAG HPC HAE HST HS
  obtain ⟨R, hR⟩ : ∃ R, qRecs C Z = R := ⟨_, rfl⟩
  have HR := Lib.hid hR
  rw [hR] at HRG
  have HRL := Lib.hid (show R.length = Z.length by have := HZL.out; rw [← hR]; unfold qRecs; rw [List.length_zipWith]; omega)
  clear hR
  go_wp2_with fail
  go_loopw [7, 8, 9, 10, 11, 39] (fun v7 v8 _ _ _ t wr => ∃ (i : Nat) (RA : Option Addr) (rc : Nat), i ≤ Z.length ∧ t = .int .i64 i ∧ v7 = .slice RA i rc ∧ v8 = .int .i64 (talkS (R.take i)) ∧ w4.grownBy wr none ∧ OwnR RcV.row 8 wr w4.heap.size 43 RA i rc (R.take i)) (fun _ _ _ _ _ t _ => Z.length - (intOf t).toNat)
  case atStart => exact ⟨0, none, 0, Nat.zero_le _, rfl, rfl, rfl, gr_refl _ _, OwnR.nil _ _ _⟩
  case round =>
    obtain ⟨i, RA, rc, hi, rfl, rfl, rfl, hg, hro⟩ := hrel
    have HGR := Lib.hid hg; have HRO := Lib.hid hro
    have zr := hg.size
    clear hg hro
    obtain ⟨TK, hTK⟩ : ∃ TK, talkS (R.take i) = TK := ⟨_, rfl⟩
    have HTK := Lib.hid hTK
    rw [hTK]
    clear hTK
    by_cases hlt3 : i < Z.length
    · have hin : decide ((i : Int) < (Z.length : Int)) = true := decide_eq_true (by omega)
      have hin2 : (i : Int) < (Z.length : Int) := by omega
      have hic : i < C.length := by have := HZL.out; omega
      have hin3 : (i : Int) < (C.length : Int) := by omega
      have hi0 : (0 : Int) ≤ (i : Int) := by omega
      obtain ⟨gs, os, z, rfl, _, hgs, hz, hc⟩ := (HZ.out.grown HGR.out (fun g e => by cases e)).get SeV.row_len hlt3
      obtain ⟨c, hcx⟩ : ∃ c, C[i]? = some c := ⟨_, List.getElem?_eq_getElem (by omega)⟩
      obtain ⟨gc2, oc2, c2, hCA, _, hgc2, hcx2, hcc⟩ := (HCA.out.1.grown HGR.out (fun g e => by cases e)).get CaV.row_len (show i < C.length by omega)
      subst hCA
      obtain rfl : c = c2 := Option.some.inj (hcx.symm.trans hcx2)
      have HX := Lib.hid (show R[i]? = some (qRec c z) by rw [← HR.out]; unfold qRecs; rw [List.getElem?_zipWith, hcx, hz])
      have HGI := Lib.hid (HRG.out.all i _ HX.out)
      have HSG := Lib.hid (HZS.out i z c hz hcx)
      have HCG := Lib.hid (HCQ.out.all i c hcx).1
      have HTS := Lib.hid (show talkS (R.take (i + 1)) = TK + (qRec c z).talk by rw [take_snoc' HX.out, talkS_snoc, HTK.out])
      have HTL := Lib.hid (take_snoc' HX.out)
      have HCZ := Lib.hid hc
      have HCX := Lib.hid hcx
      clear hz hc hcx hcx2 hcc
      go_upto_region 11 with (first
        | (refine wpl_load_at Tryz.seT rfl _ rfl _ rfl [.string z.ca, .string z.ag, .int .i64 z.how, .int .i64 z.beg, .int .i64 z.fin] rfl (fun j u hu => by rw [add_mk]; exact HCZ.out j u hu) ?_)
        | fail)
      obtain ⟨w5, hw5⟩ : ∃ w5, wr.alloc (.cells #[.string z.ca, .string z.ag, .int .i64 z.how, .int .i64 z.beg, .int .i64 z.fin] 39) = w5 := ⟨_, rfl⟩
      rw [hw5]
      obtain ⟨zb, hzb⟩ : ∃ zb, wr.heap.size = zb := ⟨_, rfl⟩
      (try rw [hzb])
      have HZZ := Lib.hid (show Blk w5 zb 39 #[.string z.ca, .string z.ag, .int .i64 z.how, .int .i64 z.beg, .int .i64 z.fin] by rw [← hw5, ← hzb]; exact Blk.new _ _ _)
      have hg5 : wr.grownBy w5 none := by rw [← hw5]; exact gr_alloc (gr_refl _ _) _
      have HG5 := Lib.hid (gr_none HGR.out hg5)
      have HRO5 := Lib.hid (HRO.out.kept hg5 (fun g e => by cases e))
      have HC5 := Lib.hid (show ∀ w', w5.grownBy w' none → w'.cell? ⟨gc2, oc2 + i * 8 + 2, none⟩ = some (.int .i64 c.at_) from fun w' hw' => (((HCA.out.1.grown HG5.out (fun g e => by cases e)).grown hw' (fun g e => by cases e)).at_ CaV.row_len HCX.out) 2 _ rfl)
      clear hw5 hg5 HCZ
      refine wp_region_B (fun w' => w5.grownBy w' none) 9 (by kernel_rfl) ?_
      have hHeld : w5.grownBy w5.drew none := gr_drew (gr_refl _ _)
      generalize w5.drew = wd at hHeld ⊢
      refine B_take (k := 0) false (v := ?_) (by rfl) (by kernel_rfl) (by exact fun _ _ _ h => h) (by rfl) ?_ (by first | exact .inr hHeld | exact .inl (by rfl)) ?_
      rotate_left 1
      · intro w hSw
        clear hSw
        go_simp
        (try with_reducible rfl)
      (try simp only [Act.put, List.setIfInBounds_toArray, List.set_cons_zero, List.set_cons_succ])
      refine B_take (k := 1) true (v := ?_) (by rfl) (by kernel_rfl) (by exact fun _ _ _ h => h) (by rfl) ?_ (.inr hHeld) ?_
      rotate_left 1
      · intro w' hSw
        have kc := (HZZ.out.grown hSw (by simp)).cell 0
        go_simp
        (try with_reducible rfl)
      (try simp only [Act.put, List.setIfInBounds_toArray, List.set_cons_zero, List.set_cons_succ])
      refine B_take (k := 2) false (v := ?_) (by rfl) (by kernel_rfl) (by exact fun _ _ _ h => h) (by rfl) ?_ (by first | exact .inr hHeld | exact .inl (by rfl)) ?_
      rotate_left 1
      · intro w hSw
        clear hSw
        go_simp
        (try with_reducible rfl)
      (try simp only [Act.put, List.setIfInBounds_toArray, List.set_cons_zero, List.set_cons_succ])
      refine B_take (k := 3) false (v := ?_) (by rfl) (by kernel_rfl) (by exact fun _ _ _ h => h) (by rfl) ?_ (by first | exact .inr hHeld | exact .inl (by rfl)) ?_
      rotate_left 1
      · intro w hSw
        clear hSw
        go_simp
        (try with_reducible rfl)
      (try simp only [Act.put, List.setIfInBounds_toArray, List.set_cons_zero, List.set_cons_succ])
      refine B_take (k := 4) false (v := ?_) (by rfl) (by kernel_rfl) (by exact fun _ _ _ h => h) (by rfl) ?_ (by first | exact .inr hHeld | exact .inl (by rfl)) ?_
      rotate_left 1
      · intro w hSw
        clear hSw
        go_simp
        (try with_reducible rfl)
      (try simp only [Act.put, List.setIfInBounds_toArray, List.set_cons_zero, List.set_cons_succ])
      refine B_take (k := 5) false (v := ?_) (by rfl) (by kernel_rfl) (by exact fun _ _ _ h => h) (by rfl) ?_ (by first | exact .inr hHeld | exact .inl (by rfl)) ?_
      rotate_left 1
      · intro w hSw
        clear hSw
        go_simp
        (try with_reducible rfl)
      (try simp only [Act.put, List.setIfInBounds_toArray, List.set_cons_zero, List.set_cons_succ])
      refine B_take (k := 6) true (v := ?_) (by rfl) (by kernel_rfl) (by exact fun _ _ _ h => h) (by rfl) ?_ (.inr hHeld) ?_
      rotate_left 1
      · intro w' hSw
        have kc := HC5.out w' hSw
        go_simp
        (try with_reducible rfl)
      (try simp only [Act.put, List.setIfInBounds_toArray, List.set_cons_zero, List.set_cons_succ])
      refine B_take (k := 7) false (v := ?_) (by rfl) (by kernel_rfl) (by exact fun _ _ _ h => h) (by rfl) ?_ (by first | exact .inr hHeld | exact .inl (by rfl)) ?_
      rotate_left 1
      · intro w hSw
        clear hSw
        go_simp
        (try with_reducible rfl)
      (try simp only [Act.put, List.setIfInBounds_toArray, List.set_cons_zero, List.set_cons_succ])
      refine B_run (k := 8) (by rfl) (by kernel_rfl) (by rfl) (fun K hK => ?_)
      go_simp
      obtain ⟨w6, hw6⟩ : ∃ w6, wd.alloc (.cells #[.string ⟨#[]⟩, .string ⟨#[]⟩, .string ⟨#[]⟩, .int .i64 0, .int .i64 0, .int .i64 0, .int .i64 0, .string ⟨#[]⟩] 43) = w6 := ⟨_, rfl⟩
      obtain ⟨rb, hrb⟩ : ∃ rb, wd.heap.size = rb := ⟨_, rfl⟩
      have hR0 : Blk w6 rb 43 #[.string ⟨#[]⟩, .string ⟨#[]⟩, .string ⟨#[]⟩, .int .i64 0, .int .i64 0, .int .i64 0, .int .i64 0, .string ⟨#[]⟩] := by rw [← hw6, ← hrb]; exact Blk.new _ _ _
      have hg6 : w5.grownBy w6 none := by rw [← hw6]; exact gr_alloc hHeld _
      have zrb : w5.heap.size ≤ rb := by rw [← hrb]; exact hHeld.size
      rw [hw6]
      (try rw [hrb])
      refine hK _ _ (.inr hg6) ?_
      clear hK K hHeld hw6 hrb
      have hHeld := hg6
      (try simp only [Act.put, List.setIfInBounds_toArray, List.set_cons_zero, List.set_cons_succ])
      refine B_run (k := 9) (by rfl) (by kernel_rfl) (by rfl) (fun K hK => ?_)
      refine wp_store_all Tryz.rcT _ _ rfl rb rfl 43 _ #[.string z.ca, .string ⟨#[43, 49, 50, 48, 48]⟩, .string ⟨#[43, 52, 57, 51, 48, 49]⟩, .int .i64 c.at_, .int .i64 0, .int .i64 0, .int .i64 2, .string ⟨#[]⟩] rfl hR0 rfl rfl (by simp [Value.oneCell']) ?_
      intro w7 hst
      refine hK _ _ (.inl (by rfl)) ?_
      clear hK K
      (try simp only [Act.put, List.setIfInBounds_toArray, List.set_cons_zero, List.set_cons_succ])
      refine B_done (by kernel_rfl) ?_
      have HRB := Lib.hid hst.1
      have hg7 : w5.grownBy w7 none := gr_trans hg6 hst.2.1 (fun g e => .inr (by injection e with e; omega))
      have HG7 := Lib.hid (gr_none HG5.out hg7)
      have HRO7 := Lib.hid (HRO5.out.kept hg7 (fun g e => by cases e))
      have HZ7 := Lib.hid (HZZ.out.grown hg7 (by simp))
      have HC7 := Lib.hid (show ∀ w', w7.grownBy w' (some rb) → w'.cell? ⟨gc2, oc2 + i * 8 + 2, none⟩ = some (.int .i64 c.at_) from fun w' hw' => HC5.out w' (gr_trans hg7 hw' (fun g e => .inr (by injection e with e; omega))))
      have zzb : zb < rb := by have := HZZ.out.lt; omega
      have z7 := hg7.size
      have hrb7 := hst.1.lt
      clear hst hHeld hg6 hg7 hR0 HRO5 HZZ HC5
      have cz1 := HZ7.out.cell 1
      have z45 := HG5.out.size
      have HLT := Lib.hid (show ∀ g, blkOf RA = some g → g < wr.heap.size from fun g e => (HRO.out.1.lt e).2)
      have hTB : 0 ≤ TK ∧ TK ≤ 240 := by
        rw [← HTK.out]
        have h1 := (talk_pos (l := R.take i) fun r hr => by
          obtain ⟨j, hj⟩ := List.mem_iff_getElem?.1 (List.mem_of_mem_take hr)
          exact (HRG.out.all j r hj).talk.1).1
        have h2 := talk_bd (l := R.take i) fun r hr => by
          obtain ⟨j, hj⟩ := List.mem_iff_getElem?.1 (List.mem_of_mem_take hr)
          exact (HRG.out.all j r hj).talk.2
        have h3 := List.length_take_le i R
        omega
      have hi8 : i < 8 := by omega
      by_cases hag : z.ag.toList = []
      · have HQ := Lib.hid (show qRec c z = ⟨z.ca, ⟨#[43, 49, 50, 48, 48]⟩, ⟨#[43, 52, 57, 51, 48, 49]⟩, c.at_, 0, 0, 2, ⟨#[]⟩⟩ by unfold qRec; rw [if_pos hag])
        clear HC7 HRO
        go_wp2_with (first
          | (refine wpl_load_all Tryz.rcT rfl _ rfl _ rfl _ _ HRB.out rfl ?_)
          | (at_builtin
             refine wpl_app _ rfl _ _ Tryz.rcsTQ rfl w4.heap.size RA i rc _ rfl (by exact HRO7.out.1.alloc _) _ _ 1 1 [.string z.ca, .string ⟨#[43, 49, 50, 48, 48]⟩, .string ⟨#[43, 52, 57, 51, 48, 49]⟩, .int .i64 c.at_, .int .i64 0, .int .i64 0, .int .i64 2, .string ⟨#[]⟩] rfl (by exact Reads.one _ _ _ _ rfl) (by simp [Value.oneCell']) (by unfold maxLen; omega) (by omega) (by simp; omega) ?_
             intro A9 c9 w9 h9
             have H9 := Lib.hid h9; clear h9)
          | fail)
        go_roundw
        case rel => exact ⟨i + 1, A9, c9, by omega, by go_num, rfl, congrArg (Value.int .i64) (by rw [HTS.out, HQ.out]; exact (Int.add_zero _).symm), H9.out.gr (gr_alloc HG7.out _) (HRO7.out.1.alloc _) (Nat.le_refl _), by rw [HTL.out, HQ.out]; exact (HRO7.out.alloc _).app rfl H9.out⟩
        case measure => simp [intOf]; omega
      · have hae : (z.ag.toList == []) = false := by rw [beq_eq_false_iff_ne]; exact hag
        have HQ := Lib.hid (show qRec c z = ⟨z.ca, ⟨#[43, 49, 50, 48, 48]⟩, ⟨#[43, 52, 57, 51, 48, 49]⟩, c.at_, z.beg - c.at_, z.fin - z.beg, 1, ⟨#[]⟩⟩ by unfold qRec; rw [if_neg hag])
        obtain ⟨q1, ⟨ga, hga, q2⟩, q3⟩ := HSG.out.2.resolve_left hag
        have q4 := HAT.out ga hga
        have q5 := HCG.out.at_; have q6 := HCG.out.t30; have q7 := caNum_talk HCG.out.num
        have s1 : IntKind.i64.wrap (z.beg - c.at_) = z.beg - c.at_ := IntWalk.i64_in _ (by omega)
        have s2 : IntKind.i64.wrap (z.fin - z.beg) = z.fin - z.beg := IntWalk.i64_in _ (by omega)
        have s3 : IntKind.i64.wrap (TK + (z.fin - z.beg)) = TK + (z.fin - z.beg) := IntWalk.i64_in _ (by omega)
        clear q1 q2 q3 q4 q5 q6 q7 hga hag HRO
        go_upto_region 13 with (fail)
        refine wp_region_B (fun w' => w7.grownBy w' (some rb)) 18 (by kernel_rfl) ?_
        have hHeld : w7.grownBy w7.drew (some rb) := gr_drew (gr_refl _ _)
        have HRd := HRB.out.grown (gr_drew (gr_refl w7 none)) (by simp)
        generalize w7.drew = wd at hHeld HRd ⊢
        refine B_take (k := 0) false (v := ?_) (by rfl) (by kernel_rfl) (by exact fun _ _ _ h => h) (by rfl) ?_ (by first | exact .inr hHeld | exact .inl (by rfl)) ?_
        rotate_left 1
        · intro w hSw
          clear hSw
          go_simp
          (try with_reducible rfl)
        (try simp only [Act.put, List.setIfInBounds_toArray, List.set_cons_zero, List.set_cons_succ])
        refine B_take (k := 1) true (v := ?_) (by rfl) (by kernel_rfl) (by exact fun _ _ _ h => h) (by rfl) ?_ (.inr hHeld) ?_
        rotate_left 1
        · intro w' hSw
          have kc := (HZ7.out.grown hSw (by simp; omega)).cell 3
          go_simp
          (try with_reducible rfl)
        (try simp only [Act.put, List.setIfInBounds_toArray, List.set_cons_zero, List.set_cons_succ])
        refine B_take (k := 2) false (v := ?_) (by rfl) (by kernel_rfl) (by exact fun _ _ _ h => h) (by rfl) ?_ (by first | exact .inr hHeld | exact .inl (by rfl)) ?_
        rotate_left 1
        · intro w hSw
          clear hSw
          go_simp
          (try with_reducible rfl)
        (try simp only [Act.put, List.setIfInBounds_toArray, List.set_cons_zero, List.set_cons_succ])
        refine B_take (k := 3) false (v := ?_) (by rfl) (by kernel_rfl) (by exact fun _ _ _ h => h) (by rfl) ?_ (by first | exact .inr hHeld | exact .inl (by rfl)) ?_
        rotate_left 1
        · intro w hSw
          clear hSw
          go_simp
          (try with_reducible rfl)
        (try simp only [Act.put, List.setIfInBounds_toArray, List.set_cons_zero, List.set_cons_succ])
        refine B_take (k := 4) false (v := ?_) (by rfl) (by kernel_rfl) (by exact fun _ _ _ h => h) (by rfl) ?_ (by first | exact .inr hHeld | exact .inl (by rfl)) ?_
        rotate_left 1
        · intro w hSw
          clear hSw
          go_simp
          (try with_reducible rfl)
        (try simp only [Act.put, List.setIfInBounds_toArray, List.set_cons_zero, List.set_cons_succ])
        refine B_take (k := 5) false (v := ?_) (by rfl) (by kernel_rfl) (by exact fun _ _ _ h => h) (by rfl) ?_ (by first | exact .inr hHeld | exact .inl (by rfl)) ?_
        rotate_left 1
        · intro w hSw
          clear hSw
          go_simp
          (try with_reducible rfl)
        (try simp only [Act.put, List.setIfInBounds_toArray, List.set_cons_zero, List.set_cons_succ])
        refine B_take (k := 6) true (v := ?_) (by rfl) (by kernel_rfl) (by exact fun _ _ _ h => h) (by rfl) ?_ (.inr hHeld) ?_
        rotate_left 1
        · intro w' hSw
          have kc := HC7.out w' hSw
          go_simp
          (try with_reducible rfl)
        (try simp only [Act.put, List.setIfInBounds_toArray, List.set_cons_zero, List.set_cons_succ])
        refine B_take (k := 7) false (v := ?_) (by rfl) (by kernel_rfl) (by exact fun _ _ _ h => h) (by rfl) ?_ (by first | exact .inr hHeld | exact .inl (by rfl)) ?_
        rotate_left 1
        · intro w hSw
          clear hSw
          go_simp
          (try with_reducible rfl)
        (try simp only [Act.put, List.setIfInBounds_toArray, List.set_cons_zero, List.set_cons_succ])
        refine B_take (k := 8) false (v := ?_) (by rfl) (by kernel_rfl) (by exact fun _ _ _ h => h) (by rfl) ?_ (by first | exact .inr hHeld | exact .inl (by rfl)) ?_
        rotate_left 1
        · intro w hSw
          clear hSw
          go_simp
          (try with_reducible rfl)
        (try simp only [Act.put, List.setIfInBounds_toArray, List.set_cons_zero, List.set_cons_succ])
        refine B_take (k := 9) true (v := ?_) (by rfl) (by kernel_rfl) (by exact fun _ _ _ h => h) (by rfl) ?_ (.inr hHeld) ?_
        rotate_left 1
        · intro w' hSw
          have kc := (HZ7.out.grown hSw (by simp; omega)).cell 4
          go_simp
          (try with_reducible rfl)
        (try simp only [Act.put, List.setIfInBounds_toArray, List.set_cons_zero, List.set_cons_succ])
        refine B_take (k := 10) false (v := ?_) (by rfl) (by kernel_rfl) (by exact fun _ _ _ h => h) (by rfl) ?_ (by first | exact .inr hHeld | exact .inl (by rfl)) ?_
        rotate_left 1
        · intro w hSw
          clear hSw
          go_simp
          (try with_reducible rfl)
        (try simp only [Act.put, List.setIfInBounds_toArray, List.set_cons_zero, List.set_cons_succ])
        refine B_take (k := 11) true (v := ?_) (by rfl) (by kernel_rfl) (by exact fun _ _ _ h => h) (by rfl) ?_ (.inr hHeld) ?_
        rotate_left 1
        · intro w' hSw
          have kc := (HZ7.out.grown hSw (by simp; omega)).cell 3
          go_simp
          (try with_reducible rfl)
        (try simp only [Act.put, List.setIfInBounds_toArray, List.set_cons_zero, List.set_cons_succ])
        refine B_take (k := 12) false (v := ?_) (by rfl) (by kernel_rfl) (by exact fun _ _ _ h => h) (by rfl) ?_ (by first | exact .inr hHeld | exact .inl (by rfl)) ?_
        rotate_left 1
        · intro w hSw
          clear hSw
          go_simp
          (try with_reducible rfl)
        (try simp only [Act.put, List.setIfInBounds_toArray, List.set_cons_zero, List.set_cons_succ])
        refine B_take (k := 13) false (v := ?_) (by rfl) (by kernel_rfl) (by exact fun _ _ _ h => h) (by rfl) ?_ (by first | exact .inr hHeld | exact .inl (by rfl)) ?_
        rotate_left 1
        · intro w hSw
          clear hSw
          go_simp
          (try with_reducible rfl)
        (try simp only [Act.put, List.setIfInBounds_toArray, List.set_cons_zero, List.set_cons_succ])
        have kc := HRd.cell 6
        have kf := HRd.frozen 6
        refine B_run (k := 14) (by rfl) (by kernel_rfl) (by rfl) (fun K hK => ?_)
        go_simp
        have h1 : w7.grownBy (wd.setCell ⟨rb, 6, none⟩ (.int .i64 1)) (some rb) := gr_setCell (p := ⟨rb, 6, none⟩) hHeld (.inl rfl) _
        refine hK _ _ (.inr h1) ?_
        clear hK K kc kf
        (try simp only [Act.put, List.setIfInBounds_toArray, List.set_cons_zero, List.set_cons_succ])
        have HR1 := HRd.set_ 6 (.int .i64 1)
        replace hHeld := h1
        refine B_take (k := 15) false (v := ?_) (by rfl) (by kernel_rfl) (by exact fun _ _ _ h => h) (by rfl) ?_ (by first | exact .inr hHeld | exact .inl (by rfl)) ?_
        rotate_left 1
        · intro w hSw
          clear hSw
          go_simp
          (try with_reducible rfl)
        (try simp only [Act.put, List.setIfInBounds_toArray, List.set_cons_zero, List.set_cons_succ])
        have kc := HR1.cell 4
        have kf := HR1.frozen 4
        refine B_run (k := 16) (by rfl) (by kernel_rfl) (by rfl) (fun K hK => ?_)
        go_simp
        have h2 := gr_setCell (p := ⟨rb, 4, none⟩) h1 (.inl rfl) (.int .i64 (z.beg - c.at_))
        refine hK _ _ (.inr h2) ?_
        clear hK K kc kf
        (try simp only [Act.put, List.setIfInBounds_toArray, List.set_cons_zero, List.set_cons_succ])
        have HR2 := HR1.set_ 4 (.int .i64 (z.beg - c.at_))
        replace hHeld := h2
        refine B_take (k := 17) false (v := ?_) (by rfl) (by kernel_rfl) (by exact fun _ _ _ h => h) (by rfl) ?_ (by first | exact .inr hHeld | exact .inl (by rfl)) ?_
        rotate_left 1
        · intro w hSw
          clear hSw
          go_simp
          (try with_reducible rfl)
        (try simp only [Act.put, List.setIfInBounds_toArray, List.set_cons_zero, List.set_cons_succ])
        have kc := HR2.cell 5
        have kf := HR2.frozen 5
        refine B_run (k := 18) (by rfl) (by kernel_rfl) (by rfl) (fun K hK => ?_)
        go_simp
        refine hK _ _ (.inl (by rfl)) ?_
        clear hK K kc kf
        (try simp only [Act.put, List.setIfInBounds_toArray, List.set_cons_zero, List.set_cons_succ])
        have HR3 := HR2.set_ 5 (.int .i64 (z.fin - z.beg))
        refine B_done (by kernel_rfl) ?_
        obtain ⟨w8, hw8⟩ : ∃ w8, ((wd.setCell ⟨rb, 6, none⟩ (.int .i64 1)).setCell ⟨rb, 4, none⟩ (.int .i64 (z.beg - c.at_))).setCell ⟨rb, 5, none⟩ (.int .i64 (z.fin - z.beg)) = w8 := ⟨_, rfl⟩
        rw [hw8]
        have HRB8 := Lib.hid (show Blk w8 rb 43 #[.string z.ca, .string ⟨#[43, 49, 50, 48, 48]⟩, .string ⟨#[43, 52, 57, 51, 48, 49]⟩, .int .i64 c.at_, .int .i64 (z.beg - c.at_), .int .i64 (z.fin - z.beg), .int .i64 1, .string ⟨#[]⟩] by rw [← hw8]; exact HR3)
        have hg8 : w7.grownBy w8 (some rb) := by rw [← hw8]; exact gr_setCell (p := ⟨rb, 5, none⟩) h2 (.inl rfl) _
        have z8 := hg8.size
        have HG8 := Lib.hid (gr_trans HG7.out hg8 (fun g e => .inr (by injection e with e; omega)))
        have HRO8 := Lib.hid (HRO7.out.kept hg8 (fun g e h => by injection e with e; have := HLT.out g h; omega))
        clear hw8 HR3 HR2 HR1 HRd h1 h2 hHeld hg8 HRB HRO7 HC7 HZ7 cz1 hae
        have cr5 := HRB8.out.cell 5
        go_wp2_with (first
          | (refine wpl_load_all Tryz.rcT rfl _ rfl _ rfl _ _ HRB8.out rfl ?_)
          | (at_builtin
             refine wpl_app _ rfl _ _ Tryz.rcsTQ rfl w4.heap.size RA i rc _ rfl (by exact HRO8.out.1.alloc _) _ _ 1 1 [.string z.ca, .string ⟨#[43, 49, 50, 48, 48]⟩, .string ⟨#[43, 52, 57, 51, 48, 49]⟩, .int .i64 c.at_, .int .i64 (z.beg - c.at_), .int .i64 (z.fin - z.beg), .int .i64 1, .string ⟨#[]⟩] rfl (by exact Reads.one _ _ _ _ rfl) (by simp [Value.oneCell']) (by unfold maxLen; omega) (by omega) (by simp; omega) ?_
             intro A9 c9 w9 h9
             have H9 := Lib.hid h9; clear h9)
          | fail)
        go_roundw
        case rel => exact ⟨i + 1, A9, c9, by omega, by go_num, rfl, congrArg (Value.int .i64) (by rw [HTS.out, HQ.out]), H9.out.gr (gr_alloc HG8.out _) (HRO8.out.1.alloc _) (Nat.le_refl _), by rw [HTL.out, HQ.out]; exact (HRO8.out.alloc _).app rfl H9.out⟩
        case measure => simp [intOf]; omega
    · obtain rfl : i = Z.length := by omega
      have hin : decide ((Z.length : Int) < (Z.length : Int)) = false := decide_eq_false (by omega)
      clear hlt3
      rw [List.take_of_length_le (show R.length ≤ Z.length by have := HRL.out; omega)] at HRO HTK
      have HRK := Lib.hid (show ∀ r ∈ R, RcOkL r from fun r hr => by
        obtain ⟨j, hj⟩ := List.mem_iff_getElem?.1 hr
        obtain ⟨g1, g2, g3, g4, g5, _, _, _, g9⟩ := HRG.out.all j r hj
        have h1 : r.id.size = 2 := by rw [← nb_len, g1]; rfl
        exact ⟨by omega, by rw [g3]; decide, by rw [g4]; decide, by rw [g9]; decide, by omega, by omega⟩)
      go_wp2_with fail
      refine (sortQ_any w4.heap.size RA Z.length rc R _ HRO.out HRG.out HRK.out).mono ?_
      rintro e w10 ⟨rfl, hro, hg10⟩
      have HRO2 := Lib.hid hro
      have HG10 := Lib.hid (gr_trans HGR.out hg10 (fun g e => .inr (by have := (HRO.out.1.lt e).1; omega)))
      have z10 := HG10.out.size
      clear hro hg10 HRO HRK HGR
      clear z1 z2 z3 hn8 zr hi hin
      have zR8 : R.length ≤ 8 := HRG.out.len
      obtain ⟨TS, hTS⟩ : ∃ TS, talkS R = TS := ⟨_, rfl⟩
      have hTK2 : TK = TS := HTK.out.symm.trans hTS
      rw [hTK2]
      have HTS := Lib.hid hTS
      clear hTK2 HTK hTS
      go_upto_region 19 with (fail)
      obtain ⟨w11, hw11⟩ : ∃ w11, (w10.alloc (.cells #[.string ⟨#[43, 52, 57]⟩, .string ⟨#[104, 111, 109, 101]⟩, .int .i64 0, .int .i64 0, .int .i64 1, .int .i64 3] 47)).alloc (.cells #[.slice (some ⟨w10.heap.size, 0, none⟩) 1 1, .int .i64 0, .slice none 0 0] 51) = w11 := ⟨_, rfl⟩
      rw [hw11]
      obtain ⟨cb, hcb⟩ : ∃ cb, w10.heap.size = cb := ⟨_, rfl⟩
      have hCB : Blk w11 cb 47 #[.string ⟨#[43, 52, 57]⟩, .string ⟨#[104, 111, 109, 101]⟩, .int .i64 0, .int .i64 0, .int .i64 1, .int .i64 3] := by rw [← hw11, ← hcb]; exact (Blk.new _ _ _).alloc _
      have hTB : Blk w11 (cb + 1) 51 #[.slice (some ⟨cb, 0, none⟩) 1 1, .int .i64 0, .slice none 0 0] := by
        rw [← hw11, ← hcb]
        have h := Blk.new (w10.alloc (.cells #[.string ⟨#[43, 52, 57]⟩, .string ⟨#[104, 111, 109, 101]⟩, .int .i64 0, .int .i64 0, .int .i64 1, .int .i64 3] 47)) 51 #[.slice (some ⟨w10.heap.size, 0, none⟩) 1 1, .int .i64 0, .slice none 0 0]
        simpa using h
      have hg11 : w10.grownBy w11 none := by rw [← hw11]; exact gr_alloc (gr_alloc (gr_refl _ _) _) _
      have hz11 : w11.heap.size = cb + 2 := by rw [← hw11, ← hcb]; simp
      rw [hcb]
      have zcb : w4.heap.size ≤ cb := by rw [← hcb]; exact z10
      clear hw11
      go_upto_region 20 with (fail)
      obtain ⟨w12, hw12⟩ : ∃ w12, (w11.alloc (.cells #[.string ⟨#[43, 49, 50, 48, 48]⟩] 9)).alloc (.cells #[.string ⟨#[97, 110, 110]⟩, .slice (some ⟨w11.heap.size, 0, none⟩) 1 1] 53) = w12 := ⟨_, rfl⟩
      rw [hz11] at hw12
      have hg12 : w11.grownBy w12 none := by rw [← hw12]; exact gr_alloc (gr_alloc (gr_refl _ _) _) _
      have hSB : Blk w12 (cb + 2) 9 #[.string ⟨#[43, 49, 50, 48, 48]⟩] := by
        have h := Blk.new w11 9 #[.string ⟨#[43, 49, 50, 48, 48]⟩]
        rw [hz11] at h
        rw [← hw12]; exact h.alloc _
      have hPB : Blk w12 (cb + 3) 53 #[.string ⟨#[97, 110, 110]⟩, .slice (some ⟨cb + 2, 0, none⟩) 1 1] := by
        have h := Blk.new (w11.alloc (.cells #[.string ⟨#[43, 49, 50, 48, 48]⟩] 9)) 53 #[.string ⟨#[97, 110, 110]⟩, .slice (some ⟨cb + 2, 0, none⟩) 1 1]
        rw [show (w11.alloc (.cells #[.string ⟨#[43, 49, 50, 48, 48]⟩] 9)).heap.size = cb + 3 by simp [hz11]] at h
        rw [← hw12]; exact h
      (try rw [hw12])
      have HG12 := Lib.hid (gr_none (gr_none HG10.out hg11) hg12)
      have HTV := Lib.hid (hTB.grown hg12 (by simp))
      have HTF := Lib.hid (tfTQ (hCB.grown hg12 (by simp)) zcb)
      have HPY := Lib.hid (pyTQ hSB hPB (show w4.heap.size ≤ cb + 2 by omega) (show w4.heap.size ≤ cb + 3 by omega))
      have HRO3 := Lib.hid (HRO2.out.kept (gr_none hg11 hg12) (fun g e => by cases e))
      clear hCB hTB hSB hPB hw12 hg11 hg12 hcb HRO2 HG10 z10
      clear hz11
      go_wp2_with (first
        | (refine wpl_load_all Tryz.tfT rfl _ rfl _ rfl _ _ HTV.out rfl ?_)
        | fail)
      refine (invTQ w4.heap.size cb (cb + 2) (cb + 3) RA Z.length rc R w12 HTF.out HPY.out HRO3.out HRG.out).mono ?_
      rintro e w13 ⟨IA, iN, iC, rfl, hIO, hg13⟩
      rw [HTS.out] at hIO
      have HIO := Lib.hid hIO
      have HG13 := Lib.hid (gr_none HG12.out hg13)
      replace HTV := Lib.hid (HTV.out.grown hg13 (by simp))
      replace HTF := Lib.hid (HTF.out.grown hg13 (fun g e => by cases e))
      replace HPY := Lib.hid (HPY.out.grown hg13 (fun g e => by cases e))
      replace HRO3 := Lib.hid (HRO3.out.kept hg13 (fun g e => by cases e))
      clear hIO hg13 HG12
      go_wp2_with (first
        | (refine wpl_load_all Tryz.tfT rfl _ rfl _ rfl _ _ HTV.out rfl ?_)
        | fail)
      refine (chgTQ w4.heap.size cb (cb + 2) (cb + 3) RA Z.length rc R w13 HTF.out HPY.out HRO3.out HRG.out).mono ?_
      rintro e w14 ⟨KA, kN, kC, rfl, hKO, hg14⟩
      have HCB := Lib.hid (chqs_bd HRG.out)
      have HCS := Lib.hid (cost_q R)
      rw [HTS.out] at HCS
      obtain ⟨CH, hCH⟩ : ∃ CH, (chqs R).map (·.1) = CH := ⟨_, rfl⟩
      rw [hCH] at hKO HCB HCS
      clear hCH
      obtain rfl : CH.length = kN := hKO.2
      have HKO := Lib.hid hKO.recs
      have HG14 := Lib.hid (gr_none HG13.out hg14)
      replace HIO := Lib.hid (HIO.out.recs.grown hg14 (fun g e => by cases e))
      have hTSb : 0 ≤ TS ∧ TS ≤ 240 := by
        rw [← HTS.out]
        have h1 := (talk_pos (l := R) fun r hr => by
          obtain ⟨j, hj⟩ := List.mem_iff_getElem?.1 hr
          exact (HRG.out.all j r hj).talk.1).1
        have h2 := talk_bd (l := R) fun r hr => by
          obtain ⟨j, hj⟩ := List.mem_iff_getElem?.1 hr
          exact (HRG.out.all j r hj).talk.2
        omega
      clear hKO hg14 HTV HTF HPY HRO3 HG13 HR HRL HZ HZS HCA HCQ HAT
      have sT : IntKind.i64.wrap (3 * TS) = 3 * TS := IntWalk.i64_in _ (by omega)
      go_wp2_with fail
      go_loopw [18, 20, 104] (fun v18 _ t wr => ∃ (i : Nat), i ≤ CH.length ∧ t = .int .i64 i ∧ v18 = .int .i64 (costS (CH.take i)) ∧ w14.grownBy wr none) (fun _ _ t _ => CH.length - (intOf t).toNat)
      case atStart => exact ⟨0, Nat.zero_le _, rfl, rfl, gr_refl _ _⟩
      case round =>
        obtain ⟨i, hi, rfl, rfl, hg⟩ := hrel
        have HGK := Lib.hid hg
        clear hg
        by_cases hlt4 : i < CH.length
        · have hin : decide ((i : Int) < (CH.length : Int)) = true := decide_eq_true (by omega)
          have hin2 : (i : Int) < (CH.length : Int) := by omega
          have hi0 : (0 : Int) ≤ (i : Int) := by omega
          obtain ⟨gk, ok, x, rfl, _, hgk, hx, hc⟩ := (HKO.out.grown HGK.out (fun g e => by cases e)).get ChV.row_len hlt4
          have hb1 := HCB.out.2 x (mem_of_get hx)
          have hb2 := cost_bd (l := CH.take i) fun y hy => HCB.out.2 y (List.mem_of_mem_take hy)
          have hb3 := List.length_take_le i CH
          have hb4 := HCB.out.1
          obtain ⟨CS, hCS⟩ : ∃ CS, costS (CH.take i) = CS := ⟨_, rfl⟩
          have HCT := Lib.hid (show costS (CH.take (i + 1)) = CS + x.cost by rw [take_snoc' hx, costS_snoc, hCS])
          rw [hCS] at hb2 ⊢
          have s1 : IntKind.i64.wrap (CS + x.cost) = CS + x.cost := IntWalk.i64_in _ (by omega)
          clear hb1 hb2 hb3 hCS hx
          go_upto_region 26 with (first
            | (refine wpl_load_at Tryz.chT rfl _ rfl _ rfl [.string x.rec_, .string x.pay, .string x.cls, .int .i64 x.free, .int .i64 x.cost] rfl (fun j u hu => by rw [add_mk]; exact hc j u hu) ?_)
            | fail)
          obtain ⟨w15, hw15⟩ : ∃ w15, wr.alloc (.cells #[.string x.rec_, .string x.pay, .string x.cls, .int .i64 x.free, .int .i64 x.cost] 62) = w15 := ⟨_, rfl⟩
          rw [hw15]
          obtain ⟨xb, hxb⟩ : ∃ xb, wr.heap.size = xb := ⟨_, rfl⟩
          (try rw [hxb])
          have hX : Blk w15 xb 62 #[.string x.rec_, .string x.pay, .string x.cls, .int .i64 x.free, .int .i64 x.cost] := by rw [← hw15, ← hxb]; exact Blk.new _ _ _
          have HGX := Lib.hid (show w14.grownBy w15 none by rw [← hw15]; exact gr_alloc HGK.out _)
          have cx4 := hX.cell 4
          clear hw15 hxb hX hc
          go_wp2_with fail
          go_roundw
          case rel => exact ⟨i + 1, by omega, by go_num, by rw [HCT.out], HGX.out⟩
          case measure => simp [intOf]; omega
        · obtain rfl : i = CH.length := by omega
          have hin : decide ((CH.length : Int) < (CH.length : Int)) = false := decide_eq_false (by omega)
          rw [List.take_length, HCS.out]
          have HT20 := Lib.hid (HT.out.grown (gr_none HG14.out HGK.out) (by simp))
          have HG20 := Lib.hid (gr_none HG.out (gr_none HG14.out HGK.out))
          have q1 : (3 * TS == 3 * TS) = true := beq_self_eq_true _
          clear hlt4 hi
          by_cases e0 : TS = 0
          · subst e0
            rw [if_pos rfl] at HIO
            obtain rfl : (0 : Nat) = iN := HIO.out.2
            go_wp2_with fail
            refine (h10_true _ HT20.out).mono ?_
            rintro e w40 ⟨rfl, hg40⟩
            have HGE := Lib.hid (gr_none HG20.out hg40)
            clear hg40
            go_wp2_with fail
            go_ret
            refine ⟨rfl, ?_⟩
            have hfin := HGE.out
            rw [← HSB.out] at hfin
            exact below_of_gr hfin
          · have d0 : (TS == 0) = false := by simpa using e0
            rw [if_neg e0] at HIO
            obtain rfl : (1 : Nat) = iN := HIO.out.2
            obtain ⟨gi, oi, x, rfl, _, hgi, hx, hc⟩ := (HIO.out.grown HGK.out (fun g e => by cases e)).get InV.row_len (show 0 < 1 by omega)
            injection hx with hx
            subst hx
            have k3 := hc 3 _ rfl
            have k4 := hc 4 _ rfl
            have q2 : (TS == TS) = true := beq_self_eq_true _
            have q3 : (3 * TS).tdiv 1000 = 3 * TS / 1000 := Int.tdiv_eq_ediv_of_nonneg (by omega)
            have q4 : (3 * TS / 1000 == 3 * TS / 1000) = true := beq_self_eq_true _
            have s2 : IntKind.i64.wrap (3 * TS / 1000) = 3 * TS / 1000 := IntWalk.i64_in _ (by omega)
            clear hc hgi e0
            go_wp2_with fail
            refine (h10_true _ HT20.out).mono ?_
            rintro e w40 ⟨rfl, hg40⟩
            have HGE := Lib.hid (gr_none HG20.out hg40)
            clear hg40
            go_wp2_with fail
            go_ret
            refine ⟨rfl, ?_⟩
            have hfin := HGE.out
            rw [← HSB.out] at hfin
            exact below_of_gr hfin
theorem gDbTb : Tryz.prog.globalNamed "math/bits.deBruijn32tab" = some 0 := by kernel_rfl
theorem met_TopQueueIsPaid {W : World} (h : laidMetH Tryz.prog Rows.topQueueIsPaidRow.laid W) : DbT W := by
  rw [MakeChecks.laidMetH_plain _ _ _ (by kernel_rfl)] at h
  obtain ⟨ps, ⟨g0, t0, cs0, f0, p0, q0, hg0, ht0, hv0, hd0, _⟩, _, _⟩ := h
  obtain rfl := Option.some.inj (gDbTb.symm.trans hg0)
  obtain rfl := Option.some.inj (tDb.symm.trans ht0)
  intro i hi
  rw [World.var?_cell hg0 hv0 i]
  have := tab_cells (l := dbTab) Tryz.underlying190 Tryz.underlying5 (by kernel_rfl) hd0 i hi
  simpa using this

theorem own_TopQueueIsPaid : ownKnob Tryz.prog.godebug = none := by kernel_rfl
theorem laidOut_TopQueueIsPaid : laidOutB Tryz.prog = true := by kernel_rfl
set_option maxRecDepth 100000 in
theorem lifted_TopQueueIsPaid (os : Os) (started : os.Started) (H : Type) (enc : TypeId × Value → H) :
    ReturnsInHanded {} Tryz.checked os 3 .any (fun w args => (Rows.topQueueIsPaidSpec.pre enc Tryz.prog Tryz.f3 [] false w args ∧ laidMetH Tryz.prog Rows.topQueueIsPaidRow.laid w) ∧ sizedMet enc Tryz.prog Tryz.f3 (OpenSpec.ofChange Rows.topQueueIsPaidSpec) false w args) (Rows.topQueueIsPaidSpec.post enc Tryz.prog Tryz.f3 false true false false) := by
  refine returnsInHanded_of_change_and (C := Tryz.checked) (X := fun w _ => laidMetH Tryz.prog Rows.topQueueIsPaidRow.laid w) (fun _ _ _ hh h => h.of_heap hh) own_TopQueueIsPaid started (by kernel_rfl) Tryz.func3
    (ChangeSpec.witness_shaped (enc := enc) (C := Tryz.checked) (os := os) (X := fun w _ => laidMetH Tryz.prog Rows.topQueueIsPaidRow.laid w) false (World.laidAll Tryz.prog os Rows.topQueueIsPaidRow.laid) #[.slice none 0 0] 8 (World.laidAll_os _ _ _) (World.shaped_of_ZipB (by kernel_rfl) (by kernel_rfl)) (by kernel_rfl) (by kernel_rfl) (by kernel_rfl)
      (by rw [MakeChecks.laidMetH_plain _ _ _ (by kernel_rfl)]; exact laidMet_laidAll _ (by kernel_rfl) (by kernel_rfl))) ?_
  intro W base args ds gs before hval0 hW _ _ hL _
  have hval : ∀ (j : Nat) t v, Tryz.f3.params[j]? = some t → args[j]? = some v → Value.okWide Tryz.prog W .any base t v := hval0
  have hW' := hW
  obtain ⟨p, q, hA0, hV, rfl, hfz, hnd⟩ := hW
  have hA : DataW.TrodAll enc Tryz.prog W 0 (fun _ => true) true Tryz.f3.params.toList args.toList ds p := hA0
  rw [Tryz.params3] at hA hval
  obtain ⟨v0, vs0, d0, ds0, p0, q0, hargs, rfl, rfl, h0, r0⟩ := trodAll_cons hA
  obtain ⟨rfl, rfl, rfl⟩ := trodAll_nil r0
  obtain rfl : args = #[v0] := by cases args; simp_all
  obtain ⟨rfl, rfl⟩ := trodVars_none hV
  obtain ⟨a0, len0, cap0, rfl⟩ := okWide_slice Tryz.underlying22 (hval 0 22 v0 rfl rfl)
  have k0 := h0
  have lt0 : ∀ x ∈ p0, x.block < W.heap.size := by obtain ⟨m, hm⟩ := k0; exact DataW.trod_lt m _ _ _ hm
  obtain ⟨z0, w0⟩ : ∃ zs, IsRow .i64 W a0 len0 cap0 zs := by
    obtain ⟨fuel, hf⟩ := h0
    rcases open_ints Tryz.underlying22 Tryz.underlying3 (by kernel_rfl) hf with ⟨hcs, _⟩ | ⟨x, l, c, zs, hcs, _, hl, hm, hz, _, hcell, hwz⟩
    · simp [Value.cells] at hcs
      obtain ⟨rfl, rfl, rfl⟩ := hcs
      exact ⟨[], .inl ⟨rfl, rfl, rfl, rfl⟩⟩
    · simp [Value.cells] at hcs
      obtain ⟨rfl, rfl, rfl⟩ := hcs
      exact ⟨zs, .inr ⟨_, rfl, hl, hm, by simpa using hz, hcell, hwz⟩⟩
  clear hA0 hval0
  refine (walk_TopQueueIsPaid a0 len0 cap0 z0 W w0 (met_TopQueueIsPaid hL)).mono fun e W' ⟨he, bel⟩ => ?_
  subst he
  exact ⟨_, rfl, _, _, _, [], _, [], hW', trodAll_mk1 (shut_bool Tryz.underlying4 _), (trodAll_cons_mk (Below.trod laidOut_TopQueueIsPaid (by kernel_rfl) (of_decide_eq_true (by kernel_rfl)) k0 bel lt0) trodAll_mk0), rfl, bel.frame _, fun h => by cases h⟩

theorem over_TopQueueIsPaid : Rows.topQueueIsPaidRow.holds Tryz.pinned (OpenSpec.ofChange Rows.topQueueIsPaidSpec) :=
  OpenClaim.holds_of_wide 3 Tryz.f3 rfl rfl rfl rfl rfl rfl rfl ⟨rfl, rfl, rfl, rfl, rfl⟩ rfl rfl rfl rfl rfl (by kernel_rfl) Tryz.func3 (by kernel_rfl)
    (of_decide_eq_true (by kernel_rfl)) (by unfold Func.isWrapper; first | (rw [if_pos (by decide +kernel)]; kernel_rfl) | (rw [if_neg (by decide +kernel)]; exact ⟨rfl, rfl⟩))
    (fun os started H enc _ => lifted_TopQueueIsPaid os started H enc)

theorem proved_TopQueueIsPaid : Rows.TopQueueIsPaidCardSaid :=
  Claim7.holds_tied_plain_at .later [] [.data, .data, .pinned] true Rows.topQueueIsPaidCard.stood.harness false
    over_TopQueueIsPaid (fun _ h => by cases h) (by kernel_rfl) (fun _ h => by cases h) topQueueIsPaid_row_tie rfl ⟨rfl, rfl⟩ (by kernel_rfl) rfl
    (fun f fn hf hfn => by
      obtain rfl : f = 3 := Option.some.inj ((show Tryz.prog.funcNamed Rows.topQueueIsPaidRow.func = some 3 by kernel_rfl).symm.trans hf) |>.symm
      obtain rfl : fn = Tryz.f3 := (Option.some.inj (Tryz.func3.symm.trans hfn)).symm
      exact ⟨by kernel_rfl, fun j t ht => by
        rw [Tryz.params3] at ht
        have h3 : t = 22 := by
          rcases j with _ | j
          · simpa using ht.symm
          · simp at ht
        subst h3
        exact (show Tryz.prog.wantsStandIn 22 = false by kernel_rfl)⟩)
    (by kernel_rfl)
end Go.Proofs.YtpildcnoghojpaaGreatDoor


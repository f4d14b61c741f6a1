/- The law PlansWait: Waits and Hidden are as specified for all plans, contexts, numbers and moments. Conditions: none beside the row's own. -/
import Derived.Test.YteppdabhloieaaaGreatDoorBun1
import Derived.Test.YteppdabhloieaaaGreatDoorGenPl3
import Derived.Test.YteppdabhloieaaaGreatDoorBun11
import Derived.Test.YteppdabhloieaaaGreatDoorWtB
import Derived.Test.YteppdabhloieaaaGreatDoorBun9
import Derived.Test.YteppdabhloieaaaGreatDoorBun7
import Derived.Test.YteppdabhloieaaaGreatDoorBun2
import Derived.Test.YteppdabhloieaaaGreatDoorBun8
import Derived.Test.YteppdabhloieaaaGreatDoorBun5
import Derived.Test.YteppdabhloieaaaGreatDoorTie
import Derived.Test.YteppdabhloieaaaGreatDoorCards
import Derived.ProofKit
import Derived.Lay
import Derived.OpenShut
import Derived.Stop.Joined
import Derived.SevenTiedAt
import Derived.LaidMore
import Derived.MakeChecks
import Derived.LaidHandle
import Derived.Deep.CutBlock
namespace Go.Proofs.YteppdabhloieaaaGreatDoor
open Go.ChangeShapes Go.WideShapes Go.ChangeAt Go.RowKit
theorem akE_law (p : PlV) (LB : Bool) (key dial : ByteArray) (t : Int) : firstE [opE p LB key, dialE (nb dial), momF t] = akE p LB key dial t := by
 unfold akE dialE momF
 rw [firstE_cons, firstE_cons, firstE_cons, firstE_nil]
 by_cases h : opE p LB key = 0
 · rw [if_pos h, if_pos h]
   cases dialOk (nb dial) <;> cases momB t <;> simp
 · rw [if_neg h, if_neg h]
theorem opE_law (p : PlV) (LB : Bool) (key : ByteArray) : firstE [plE p LB, if decide (cxIx p.ctxs key < 0) then 8 else 0] = opE p LB key := by
 unfold opE
 rw [firstE_cons, firstE_cons, firstE_nil]
 by_cases h : plE p LB = 0
 · rw [if_pos h, if_pos h]
   by_cases h2 : cxIx p.ctxs key < 0 <;> simp [h2]
 · rw [if_neg h, if_neg h]
theorem akE_zero {p : PlV} {LB : Bool} {key dial : ByteArray} {t : Int} (h : akE p LB key dial t = 0) : opE p LB key = 0 ∧ dialOk (nb dial) = true ∧ -1 ≤ t ∧ t ≤ 345686400000 := by
 unfold akE at h
 by_cases h1 : opE p LB key = 0
 · rw [if_pos h1] at h
   by_cases h2 : dialOk (nb dial) = true
   · rw [if_pos h2] at h
     by_cases h3 : momB t = true
     · refine ⟨h1, h2, ?_⟩
       unfold momB inB at h3
       simp only [Bool.and_eq_true, decide_eq_true_eq] at h3
       omega
     · rw [if_neg h3] at h; exact absurd h (by decide)
   · rw [if_neg h2] at h; exact absurd h (by decide)
 · rw [if_neg h1] at h; exact absurd h h1
set_option maxRecDepth 100000 in
set_option maxHeartbeats 8000000 in
theorem walk_PlansWait (a0 : Option Addr) (len cap : Nat) (zs : List Int) (W : World) (h : IsRow .i64 W a0 len cap zs) (ht : DbT W) :
   Calls Tryz.prog 3 #[.slice a0 len cap] W (fun e w' => e = .returned (.bool true) ∧ Below W.heap.size W w') := by
 have hs := str_new h
 have hpos := ht.pos
 obtain ⟨sb, hsb⟩ : ∃ sb, W.heap.size = sb := ⟨_, rfl⟩
 have HG := Lib.hid (show W.grownBy (W.alloc (.cells #[.slice a0 len cap, .int .i64 0] 25)) (some sb) from gr_alloc (gr_refl _ _) _)
 have HT := Lib.hid (ht.grown HG.out (by rw [← hsb]; intro e; injection e with e; omega))
 rw [hsb] at hs
 have hlt := hs.lt
 have HS := Lib.hid hs
 have HSB := Lib.hid hsb
 have hne : (some sb) ≠ some 1 := by rw [← hsb]; intro e; injection e with e; omega
 have HNE := Lib.hid hne
 clear h hs ht hne
 go_enter Tryz.func3, Tryz.ntmps3
 go_wp2_with fail
 refine (plan_any sb 0 4 _ HS.out (by omega) (by omega)).mono ?_
 rintro e w1 ⟨v1, rfl, ⟨p, rfl, hpl, hcn, hhn⟩, hs1, hg1⟩
 obtain ⟨lo, hlo⟩ : ∃ lo, (W.alloc (.cells #[.slice a0 len cap, .int .i64 0] 25)).heap.size = lo := ⟨_, rfl⟩
 rw [hlo] at hpl
 have zlo : sb < lo := by have := HS.out.lt; omega
 have z1 := hg1.size
 rw [hlo] at z1
 have HPL := Lib.hid hpl
 replace HT := Lib.hid (HT.out.grown hg1 HNE.out)
 replace HG := Lib.hid (gr_same HG.out hg1)
 replace HS := Lib.hid hs1
 clear hs1 hg1 hpl hlo
 obtain ⟨LB, hLB⟩ : ∃ LB : Bool, LB = true ↔ Loops p.ctxs := by
   by_cases c : Loops p.ctxs
   · exact ⟨true, by simp [c]⟩
   · exact ⟨false, by simp [c]⟩
 have HLB := Lib.hid hLB
 clear hLB
 go_wp2_with fail
 refine (contextKey_any sb _ _ HS.out (by omega)).mono ?_
 rintro e w2 ⟨v2, rfl, ⟨key, rfl, hkb⟩, hs2, hg2⟩
 have z2 := hg2.size; (try simp at z2)
 replace HPL := Lib.hid (HPL.out.grown hg2 (fun g e => by injection e with e; omega))
 replace HT := Lib.hid (HT.out.grown hg2 HNE.out)
 replace HG := Lib.hid (gr_same HG.out hg2)
 replace HS := Lib.hid hs2
 clear hs2 hg2
 go_wp2_with fail
 refine (dialled_any sb _ _ HS.out (by omega)).mono ?_
 rintro e w3 ⟨v3, rfl, ⟨dial, rfl, hdb⟩, hs3, hg3⟩
 have z3 := hg3.size; (try simp at z3)
 replace HPL := Lib.hid (HPL.out.grown hg3 (fun g e => by injection e with e; omega))
 replace HT := Lib.hid (HT.out.grown hg3 HNE.out)
 replace HG := Lib.hid (gr_same HG.out hg3)
 replace HS := Lib.hid hs3
 clear hs3 hg3
 go_wp2_with fail
 refine (moment_any sb _ _ HS.out (by omega)).mono ?_
 rintro e w4 ⟨v4, rfl, ⟨at_, rfl, at0, at1⟩, hs4, hg4⟩
 have z4 := hg4.size; (try simp at z4)
 replace HPL := Lib.hid (HPL.out.grown hg4 (fun g e => by injection e with e; omega))
 replace HT := Lib.hid (HT.out.grown hg4 HNE.out)
 replace HG := Lib.hid (gr_same HG.out hg4)
 replace HS := Lib.hid hs4
 clear hs4 hg4
 go_upto_region 3 with (fail)
 obtain ⟨w5, hw5⟩ : ∃ w5, w4.alloc (.cells #[.slice p.cA p.cn p.cc, .slice p.hA p.hn p.hc] 29) = w5 := ⟨_, rfl⟩
 rw [hw5]
 obtain ⟨pb, hpb⟩ : ∃ pb, w4.heap.size = pb := ⟨_, rfl⟩
 rw [hpb]
 have HPB := Lib.hid (show Blk w5 pb 29 #[.slice p.cA p.cn p.cc, .slice p.hA p.hn p.hc] by rw [← hw5, ← hpb]; exact Blk.new _ _ _)
 have zpb : sb < pb := by omega
 have hg5 : w4.grownBy w5 none := by rw [← hw5]; exact gr_alloc (gr_refl _ _) _
 replace HPL := Lib.hid (HPL.out.grown hg5 gn_)
 replace HT := Lib.hid (HT.out.grown hg5 (by simp))
 replace HS := Lib.hid (HS.out.grown hg5 gn_)
 replace HG := Lib.hid (gr_none HG.out hg5)
 have z5 := hg5.size; (try simp at z5)
 clear hg5
 clear hw5 hpb
 go_wp2_with (first
   | (refine wpl_load_all Tryz.plT rfl _ rfl _ rfl _ _ HPB.out rfl ?_)
   | fail)
 refine (waits_any lo p LB key dial at_ _ HPL.out HLB.out (by omega)).mono ?_
 rintro e w6 ⟨NW, MO, r, rfl, hg6, hw0, hw1⟩
 replace HPB := Lib.hid (HPB.out.grown hg6 (by simp))
 replace HPL := Lib.hid (HPL.out.grown hg6 gn_)
 replace HT := Lib.hid (HT.out.grown hg6 (by simp))
 replace HS := Lib.hid (HS.out.grown hg6 gn_)
 replace HG := Lib.hid (gr_none HG.out hg6)
 have z6 := hg6.size; (try simp at z6)
 clear hg6
 obtain ⟨K, hK⟩ : ∃ K, akE p LB key dial at_ = K := ⟨_, rfl⟩
 rw [hK] at hw0 hw1 ⊢
 have HW0 := Lib.hid hw0; have HW1 := Lib.hid hw1; have HKK := Lib.hid hK
 clear hw0 hw1 hK
 go_wp2_with (first
   | (refine wpl_load_all Tryz.plT rfl _ rfl _ rfl _ _ HPB.out rfl ?_)
   | fail)
 refine (hidden_any lo p LB key _ HPL.out HLB.out).mono ?_
 rintro e w7 ⟨A, n, c, r2, rfl, hown, hg7, hr0, hn12⟩
 have HOW0 := Lib.hid hown.recs
 clear hown
 obtain ⟨E, hE⟩ : ∃ E, opE p LB key = E := ⟨_, rfl⟩
 have HE := Lib.hid hE
 rw [hE] at hr0 HOW0 ⊢
 have HR0 := Lib.hid hr0
 obtain ⟨FE, hFE⟩ : ∃ FE, hiE E (pickC p.ctxs r2) = FE := ⟨_, rfl⟩
 obtain ⟨HL, hHL⟩ : ∃ HL, hiL E (pickC p.ctxs r2) = HL := ⟨_, rfl⟩
 have HFE := Lib.hid hFE; have HHL := Lib.hid hHL
 rw [hFE]
 rw [hHL] at HOW0
 have HOW := HOW0
 clear HOW0 hr0 hE hFE hHL
 replace HPB := Lib.hid (HPB.out.grown hg7 (by simp))
 replace HPL := Lib.hid (HPL.out.grown hg7 gn_)
 replace HT := Lib.hid (HT.out.grown hg7 (by simp))
 replace HS := Lib.hid (HS.out.grown hg7 gn_)
 replace HG := Lib.hid (gr_none HG.out hg7)
 have z7 := hg7.size; (try simp at z7)
 clear hg7
 obtain ⟨F, hF⟩ : ∃ F, plE p LB = F := ⟨_, rfl⟩
 have HF := Lib.hid hF
 obtain ⟨X, hX⟩ : ∃ X, decide (cxIx p.ctxs key < 0) = X := ⟨_, rfl⟩
 have HXX := Lib.hid hX
 have hXE : firstE [F, if X then 8 else 0] = E := by rw [← hX, ← hF, ← HE.out]; exact opE_law p LB key
 obtain ⟨V, hV⟩ : ∃ V : Int, (if X then 8 else 0) = V := ⟨_, rfl⟩
 have HV := Lib.hid hV
 rw [hV] at hXE
 have HX := Lib.hid hXE
 clear hF hX hV hXE
 go_upto_region 5 with (fail)
 obtain ⟨wv, rfl⟩ : ∃ wv : World, wv = w7 := ⟨_, rfl⟩
 refine H_begin (fun w' => wv.grownBy w' none) (by kernel_rfl) ?_
 have hHeld : wv.grownBy wv.drew none := gr_drew (gr_refl _ _)
 refine H_take (k := 0) (v := .agg #[.slice p.cA p.cn p.cc, .slice p.hA p.hn p.hc]) (by rfl) (by kernel_rfl) (by kernel_rfl) (by kernel_rfl) (by exact fun _ _ _ h => h) (by rfl) (fun w' hSw => exec_load_blk' Tryz.plT _ rfl _ rfl 29 [.slice p.cA p.cn p.cc, .slice p.hA p.hn p.hc] (HPB.out.grown hSw (by simp)) rfl) hHeld ?_
 (try simp only [Act.put, l1_, l2_, l3_])
 refine H_take (k := 2) (v := .agg #[.slice p.cA p.cn p.cc, .slice p.hA p.hn p.hc]) (by rfl) (by kernel_rfl) (by kernel_rfl) (by kernel_rfl) (by exact fun _ _ _ h => h) (by rfl) (fun w' hSw => exec_load_blk' Tryz.plT _ rfl _ rfl 29 [.slice p.cA p.cn p.cc, .slice p.hA p.hn p.hc] (HPB.out.grown hSw (by simp)) rfl) hHeld ?_
 (try simp only [Act.put, l1_, l2_, l3_])
 refine H_take (k := 3) (v := ?_) (by rfl) (by kernel_rfl) (by kernel_rfl) (by kernel_rfl) (by exact fun _ _ _ h => h) (by rfl) ?_ (by assumption) ?_
 rotate_left 1
 · intro w hSw
   (try dsimp only at hSw)
   go_simp
   (try with_reducible rfl)
 (try simp only [Act.put, l1_, l2_, l3_])
 refine H_run (k := 1) (by rfl) (by kernel_rfl) (by rfl) (fun K hK => ?_)
 go_simp
 refine (planFault_any lo p LB _ (HPL.out.grown hHeld gn_) HLB.out).mono ?_
 rintro e w8 ⟨rfl, hg8'⟩
 rw [HF.out]
 have hg8 := gr_none hHeld hg8'
 clear hg8'
 refine hK _ _ hg8 ?_
 clear hK K hHeld
 have hHeld := hg8
 clear hg8
 refine H_run (k := 4) (by rfl) (by kernel_rfl) (by rfl) (fun K hK => ?_)
 go_simp
 refine (contextAtR_any lo p key _ (HPL.out.grown hHeld gn_).ctxs HPL.out.cn).mono ?_
 rintro e w9 ⟨rfl, hg9'⟩
 have hg9 := gr_none hHeld hg9'
 clear hg9'
 refine hK _ _ hg9 ?_
 clear hK K hHeld
 have hHeld := hg9
 clear hg9
 refine H_take (k := 5) (v := ?_) (by rfl) (by kernel_rfl) (by kernel_rfl) (by kernel_rfl) (by exact fun _ _ _ h => h) (by rfl) ?_ (by assumption) ?_
 rotate_left 1
 · intro w hSw
   (try dsimp only at hSw)
   go_simp
   (try with_reducible rfl)
 (try simp only [Act.put, l1_, l2_, l3_])
 rw [HXX.out]
 refine H_run (k := 6) (by rfl) (by kernel_rfl) (by rfl) (fun K hK => ?_)
 go_simp
 refine same_calls (whenF_any X 8 _) ?_
 rw [HV.out]
 refine hK _ _ hHeld ?_
 clear hK K
 refine H_run (k := 7) (by rfl) (by kernel_rfl) (by rfl) (fun K hK => ?_)
 go_simp
 refine hK _ _ (gr_alloc hHeld _) ?_
 clear hK K
 refine H_run (k := 8) (by rfl) (by kernel_rfl) (by rfl) (fun K hK => ?_)
 go_simp
 refine same_calls (errs_run 0 _ 2 2 [F, V] _ (by exact (Reads.blk (Blk.new _ _ _) 1 2 rfl).lower (Nat.zero_le _)) (by omega)) ?_
 rw [HX.out]
 refine hK _ _ (gr_alloc hHeld _) ?_
 clear hK K
 have hg10 := gr_alloc hHeld (.cells #[.int .i64 F, .int .i64 V] 33)
 clear hHeld
 refine H_take (k := 9) (v := ?_) (by rfl) (by kernel_rfl) (by kernel_rfl) (by kernel_rfl) (by exact fun _ _ _ h => h) (by rfl) ?_ (by assumption) ?_
 rotate_left 1
 · intro w hSw
   (try dsimp only at hSw)
   go_simp
   (try with_reducible rfl)
 (try simp only [Act.put, l1_, l2_, l3_])
 refine H_done (by kernel_rfl) ?_
 obtain ⟨w10, hw10⟩ : ∃ w10, w9.alloc (.cells #[.int .i64 F, .int .i64 V] 33) = w10 := ⟨_, rfl⟩
 rw [hw10] at hg10 ⊢
 replace HPB := Lib.hid (HPB.out.grown hg10 (by simp))
 replace HPL := Lib.hid (HPL.out.grown hg10 gn_)
 replace HT := Lib.hid (HT.out.grown hg10 (by simp))
 replace HS := Lib.hid (HS.out.grown hg10 gn_)
 replace HG := Lib.hid (gr_none HG.out hg10)
 have z10 := hg10.size; (try simp at z10)
 replace HOW := Lib.hid (HOW.out.grown hg10 gn_)
 clear hg10
 clear hw10
 have HKE := Lib.hid (show firstE [E, dialE (nb dial), momF at_] = K by rw [← HKK.out, ← HE.out]; exact akE_law p LB key dial at_)
 obtain ⟨D, hD⟩ : ∃ D, dialE (nb dial) = D := ⟨_, rfl⟩
 obtain ⟨M, hM⟩ : ∃ M, momF at_ = M := ⟨_, rfl⟩
 rw [hD, hM] at HKE
 go_wp2_with fail
 refine same_calls (dialledFault_any dial _ (by omega)) ?_
 rw [hD]
 go_wp2_with fail
 refine same_calls (momF_any at_ _) ?_
 rw [hM]
 go_wp2_with fail
 refine same_calls (errs_run 0 _ 3 3 [E, D, M] _ (by exact (Reads.blk (Blk.new _ _ _) 1 3 rfl).lower (Nat.zero_le _)) (by omega)) ?_
 rw [HKE.out]
 clear hD hM
 obtain ⟨w12, hw12⟩ : ∃ w12, w10.alloc (.cells #[.int .i64 E, .int .i64 D, .int .i64 M] 33) = w12 := ⟨_, rfl⟩
 rw [hw12]
 have hg12 : w10.grownBy w12 none := by rw [← hw12]; exact gr_alloc (gr_refl _ _) _
 replace HPB := Lib.hid (HPB.out.grown hg12 (by simp))
 replace HPL := Lib.hid (HPL.out.grown hg12 gn_)
 replace HT := Lib.hid (HT.out.grown hg12 (by simp))
 replace HS := Lib.hid (HS.out.grown hg12 gn_)
 replace HG := Lib.hid (gr_none HG.out hg12)
 have z12 := hg12.size; (try simp at z12)
 replace HOW := Lib.hid (HOW.out.grown hg12 gn_)
 clear hg12
 clear hw12
 by_cases k0 : K = 0
 · have dk0 : (K == 0) = true := by simpa using k0
   obtain ⟨hok, hnw, hmo⟩ := HW0.out k0
   obtain ⟨a1, a2, a3, a4⟩ := akE_zero (HKK.out.trans k0)
   have e0 : E = 0 := HE.out.symm.trans a1
   obtain ⟨i, z, hz, hkz, hci, hord⟩ := hok.at_; clear hci
   have hkk := nb_inj hkz
   have hpr := pl_right (LB := LB) HPL.out.ctxs.len (opE_right a1)
   have hwo := fun w h => waitsOf_any lo p i z dial at_ w h hpr hz a2 a3 a4
   rw [hkk] at hwo
   have HWO := Lib.hid hwo; have HOD0 := Lib.hid hord; have HE00 := Lib.hid e0; have HNW := Lib.hid hnw; have HMO := Lib.hid hmo
   clear hwo hz hkz hkk hpr hok hord e0 a1 a2 a3 a4 hnw hmo k0
   go_wp2_with (first
     | (refine wpl_load_all Tryz.plT rfl _ rfl _ rfl _ _ HPB.out rfl ?_)
     | fail)
   refine (HWO.out _ HPL.out).mono ?_
   rintro e w18 ⟨r4, hord4, _, _, rfl, hg18⟩
   have hr4 := hord4.det HOD0.out
   rw [hr4, ← HNW.out, ← HMO.out]
   clear hr4 hord4
   replace HPB := Lib.hid (HPB.out.grown hg18 (by simp))
   replace HPL := Lib.hid (HPL.out.grown hg18 gn_)
   replace HT := Lib.hid (HT.out.grown hg18 (by simp))
   replace HS := Lib.hid (HS.out.grown hg18 gn_)
   replace HG := Lib.hid (gr_none HG.out hg18)
   have z18 := hg18.size; (try simp at z18)
   replace HOW := Lib.hid (HOW.out.grown hg18 gn_)
   clear hg18
   have e0 := HE00.out
   have de0 : (E == 0) = true := by simpa using e0
   have hok2 := HR0.out e0
   obtain ⟨i, z, hz, hkz, hci, hord⟩ := hok2.at_; clear hci
   have hkk := nb_inj hkz
   have hpr := pl_right (LB := LB) HPL.out.ctxs.len (opE_right (HE.out.trans e0))
   have hho := fun w h => hiddenOf_any lo p i z w h hpr hz
   rw [hkk] at hho
   have HHO := Lib.hid hho; have HOD := Lib.hid hord; have HE0 := Lib.hid e0
   clear hho hz hkz hkk hpr hok2 hord e0
   go_wp2_with (first
     | (refine wpl_load_all Tryz.plT rfl _ rfl _ rfl _ _ HPB.out rfl ?_)
     | fail)
   refine (HHO.out _ HPL.out).mono ?_
   rintro e w20 ⟨A', n', c', r5, hord5, _, _, rfl, hown5, hg20, hn5⟩
   have hr5 := hord5.det HOD.out
   rw [hr5] at hown5
   rw [hr5, show hiE 0 (pickC p.ctxs r2) = FE from by have h := HFE.out; rw [HE0.out] at h; exact h]
   have HH := Lib.hid (show Recs HidV.row 5 w20 _ A' n' c' HL from by have h := HHL.out; rw [HE0.out] at h; rw [← h]; exact hown5.recs)
   clear hown5 hord5 hr5
   replace HPB := Lib.hid (HPB.out.grown hg20 (by simp))
   replace HPL := Lib.hid (HPL.out.grown hg20 gn_)
   replace HT := Lib.hid (HT.out.grown hg20 (by simp))
   replace HS := Lib.hid (HS.out.grown hg20 gn_)
   replace HG := Lib.hid (gr_none HG.out hg20)
   have z20 := hg20.size; (try simp at z20)
   replace HOW := Lib.hid (HOW.out.grown hg20 gn_)
   clear hg20
   go_wp2_with fail
   refine (equalHi_same _ _ A A' n c n' c' HL _ HOW.out HH.out (by omega)).mono ?_
   rintro e w21 ⟨rfl, k1, rfl⟩
   have hg21 : w20.grownBy (w20.drewN k1) none := gr_drewN (gr_refl _ _) k1
   replace HPB := Lib.hid (HPB.out.grown hg21 (by simp))
   replace HPL := Lib.hid (HPL.out.grown hg21 gn_)
   replace HT := Lib.hid (HT.out.grown hg21 (by simp))
   replace HS := Lib.hid (HS.out.grown hg21 gn_)
   replace HG := Lib.hid (gr_none HG.out hg21)
   have z21 := hg21.size; (try simp at z21)
   clear hg21
   clear HOW HH
   go_wp2_with fail
   refine (planned_true _ HT.out).mono ?_
   rintro e w29 ⟨rfl, hg29⟩
   have HGE := Lib.hid (gr_none HG.out hg29)
   clear hg29
   go_wp2_with fail
   go_ret
   refine ⟨rfl, ?_⟩
   have hfin := HGE.out
   rw [← HSB.out] at hfin
   exact below_of_gr hfin
 · have dk0 : (K == 0) = false := by simpa using k0
   obtain ⟨rfl, rfl⟩ := HW1.out k0
   clear k0
   by_cases e0 : E = 0
   · have de0 : (E == 0) = true := by simpa using e0
     have hok2 := HR0.out e0
     obtain ⟨i, z, hz, hkz, hci, hord⟩ := hok2.at_; clear hci
     have hkk := nb_inj hkz
     have hpr := pl_right (LB := LB) HPL.out.ctxs.len (opE_right (HE.out.trans e0))
     have hho := fun w h => hiddenOf_any lo p i z w h hpr hz
     rw [hkk] at hho
     have HHO := Lib.hid hho; have HOD := Lib.hid hord; have HE0 := Lib.hid e0
     clear hho hz hkz hkk hpr hok2 hord e0
     go_wp2_with (first
       | (refine wpl_load_all Tryz.plT rfl _ rfl _ rfl _ _ HPB.out rfl ?_)
       | fail)
     refine (HHO.out _ HPL.out).mono ?_
     rintro e w20 ⟨A', n', c', r5, hord5, _, _, rfl, hown5, hg20, hn5⟩
     have hr5 := hord5.det HOD.out
     rw [hr5] at hown5
     rw [hr5, show hiE 0 (pickC p.ctxs r2) = FE from by have h := HFE.out; rw [HE0.out] at h; exact h]
     have HH := Lib.hid (show Recs HidV.row 5 w20 _ A' n' c' HL from by have h := HHL.out; rw [HE0.out] at h; rw [← h]; exact hown5.recs)
     clear hown5 hord5 hr5
     replace HPB := Lib.hid (HPB.out.grown hg20 (by simp))
     replace HPL := Lib.hid (HPL.out.grown hg20 gn_)
     replace HT := Lib.hid (HT.out.grown hg20 (by simp))
     replace HS := Lib.hid (HS.out.grown hg20 gn_)
     replace HG := Lib.hid (gr_none HG.out hg20)
     have z20 := hg20.size; (try simp at z20)
     replace HOW := Lib.hid (HOW.out.grown hg20 gn_)
     clear hg20
     go_wp2_with fail
     refine (equalHi_same _ _ A A' n c n' c' HL _ HOW.out HH.out (by omega)).mono ?_
     rintro e w21 ⟨rfl, k1, rfl⟩
     have hg21 : w20.grownBy (w20.drewN k1) none := gr_drewN (gr_refl _ _) k1
     replace HPB := Lib.hid (HPB.out.grown hg21 (by simp))
     replace HPL := Lib.hid (HPL.out.grown hg21 gn_)
     replace HT := Lib.hid (HT.out.grown hg21 (by simp))
     replace HS := Lib.hid (HS.out.grown hg21 gn_)
     replace HG := Lib.hid (gr_none HG.out hg21)
     have z21 := hg21.size; (try simp at z21)
     clear hg21
     clear HOW HH
     go_wp2_with fail
     refine (planned_true _ HT.out).mono ?_
     rintro e w29 ⟨rfl, hg29⟩
     have HGE := Lib.hid (gr_none HG.out hg29)
     clear hg29
     go_wp2_with fail
     go_ret
     refine ⟨rfl, ?_⟩
     have hfin := HGE.out
     rw [← HSB.out] at hfin
     exact below_of_gr hfin
   · have de0 : (E == 0) = false := by simpa using e0
     have HFF := Lib.hid (show FE = E from by rw [← HFE.out]; exact hiE_no e0)
     have HNL := Lib.hid (show HL = [] from by rw [← HHL.out]; exact hiL_no (by rw [hiE_no e0]; exact e0))
     have HOW2 := Lib.hid (show Recs HidV.row 5 _ _ A n c [] from by have h := HOW.out; rw [HNL.out] at h; exact h)
     rw [HFF.out]
     clear HOW e0
     go_wp2_with fail
     refine (equalHi_same _ 0 A none n c 0 0 [] _ HOW2.out (Recs.nil (lo := 0)) (by omega)).mono ?_
     rintro e w21 ⟨rfl, k1, rfl⟩
     have hg21 : w12.grownBy (w12.drewN k1) none := gr_drewN (gr_refl _ _) k1
     replace HPB := Lib.hid (HPB.out.grown hg21 (by simp))
     replace HPL := Lib.hid (HPL.out.grown hg21 gn_)
     replace HT := Lib.hid (HT.out.grown hg21 (by simp))
     replace HS := Lib.hid (HS.out.grown hg21 gn_)
     replace HG := Lib.hid (gr_none HG.out hg21)
     have z21 := hg21.size; (try simp at z21)
     clear hg21
     clear HOW2
     go_wp2_with fail
     refine (planned_true _ HT.out).mono ?_
     rintro e w29 ⟨rfl, hg29⟩
     have HGE := Lib.hid (gr_none HG.out hg29)
     clear hg29
     go_wp2_with fail
     go_ret
     refine ⟨rfl, ?_⟩
     have hfin := HGE.out
     rw [← HSB.out] at hfin
     exact below_of_gr hfin
theorem gDbPw : Tryz.prog.globalNamed "math/bits.deBruijn32tab" = some 1 := by kernel_rfl
theorem met_PlansWait {W : World} (h : laidMetH Tryz.prog Rows.plansWaitRow.laid W) : DbT W := by
 rw [MakeChecks.laidMetH_plain _ _ _ (by kernel_rfl)] at h
 obtain ⟨ps, ⟨g0, t0, cs0, f0, p0, q0, hg0, ht0, hv0, hd0, _⟩, _, _⟩ := h
 obtain rfl := Option.some.inj (gDbPw.symm.trans hg0)
 obtain rfl := Option.some.inj (tDb.symm.trans ht0)
 intro i hi
 rw [World.var?_cell hg0 hv0 i]
 have := tab_cells (l := dbTab) Tryz.underlying247 Tryz.underlying5 (by kernel_rfl) hd0 i hi
 simpa using this
theorem own_PlansWait : ownKnob Tryz.prog.godebug = none := by kernel_rfl
theorem laidOut_PlansWait : laidOutB Tryz.prog = true := by kernel_rfl
set_option maxRecDepth 100000 in
theorem lifted_PlansWait (os : Os) (started : os.Started) (H : Type) (enc : TypeId × Value → H) :
   ReturnsInHanded {} Tryz.checked os 3 .any (fun w args => (Rows.plansWaitSpec.pre enc Tryz.prog Tryz.f3 [] false w args ∧ laidMetH Tryz.prog Rows.plansWaitRow.laid w) ∧ sizedMet enc Tryz.prog Tryz.f3 (OpenSpec.ofChange Rows.plansWaitSpec) false w args) (Rows.plansWaitSpec.post enc Tryz.prog Tryz.f3 false true false false) := by
 refine returnsInHanded_of_change_and (C := Tryz.checked) (X := fun w _ => laidMetH Tryz.prog Rows.plansWaitRow.laid w) (fun _ _ _ hh h => h.of_heap hh) own_PlansWait started (by kernel_rfl) Tryz.func3
   (ChangeSpec.witness_shaped (enc := enc) (C := Tryz.checked) (os := os) (X := fun w _ => laidMetH Tryz.prog Rows.plansWaitRow.laid w) false (World.laidAll Tryz.prog os Rows.plansWaitRow.laid) #[.slice none 0 0] 8 (World.laidAll_os _ _ _) (World.shaped_of_ZipB (by kernel_rfl) (by kernel_rfl)) (by kernel_rfl) (by kernel_rfl) (by kernel_rfl)
     (by rw [MakeChecks.laidMetH_plain _ _ _ (by kernel_rfl)]; exact laidMet_laidAll _ (by kernel_rfl) (by kernel_rfl))) ?_
 intro W base args ds gs before hval0 hW _ _ hL _
 have hval : ∀ (j : Nat) t v, Tryz.f3.params[j]? = some t → args[j]? = some v → Value.okWide Tryz.prog W .any base t v := hval0
 have hW' := hW
 obtain ⟨p, q, hA0, hV, rfl, hfz, hnd⟩ := hW
 have hA : DataW.TrodAll enc Tryz.prog W 0 (fun _ => true) true Tryz.f3.params.toList args.toList ds p := hA0
 rw [Tryz.params3] at hA hval
 obtain ⟨v0, vs0, d0, ds0, p0, q0, hargs, rfl, rfl, h0, r0⟩ := trodAll_cons hA
 obtain ⟨rfl, rfl, rfl⟩ := trodAll_nil r0
 obtain rfl : args = #[v0] := by cases args; simp_all
 obtain ⟨rfl, rfl⟩ := trodVars_none hV
 obtain ⟨a0, len0, cap0, rfl⟩ := okWide_slice Tryz.underlying22 (hval 0 22 v0 rfl rfl)
 have k0 := h0
 have lt0 : ∀ x ∈ p0, x.block < W.heap.size := by obtain ⟨m, hm⟩ := k0; exact DataW.trod_lt m _ _ _ hm
 obtain ⟨z0, w0⟩ : ∃ zs, IsRow .i64 W a0 len0 cap0 zs := by
   obtain ⟨fuel, hf⟩ := h0
   rcases open_ints Tryz.underlying22 Tryz.underlying3 (by kernel_rfl) hf with ⟨hcs, _⟩ | ⟨x, l, c, zs, hcs, _, hl, hm, hz, _, hcell, hwz⟩
   · simp [Value.cells] at hcs
     obtain ⟨rfl, rfl, rfl⟩ := hcs
     exact ⟨[], .inl ⟨rfl, rfl, rfl, rfl⟩⟩
   · simp [Value.cells] at hcs
     obtain ⟨rfl, rfl, rfl⟩ := hcs
     exact ⟨zs, .inr ⟨_, rfl, hl, hm, by simpa using hz, hcell, hwz⟩⟩
 clear hA0 hval0
 refine (walk_PlansWait a0 len0 cap0 z0 W w0 (met_PlansWait hL)).mono fun e W' ⟨he, bel⟩ => ?_
 subst he
 exact ⟨_, rfl, _, _, _, [], _, [], hW', trodAll_mk1 (shut_bool Tryz.underlying4 _), (trodAll_cons_mk (Below.trod laidOut_PlansWait (by kernel_rfl) (of_decide_eq_true (by kernel_rfl)) k0 bel lt0) trodAll_mk0), rfl, bel.frame _, fun h => by cases h⟩
theorem over_PlansWait : Rows.plansWaitRow.holds Tryz.pinned (OpenSpec.ofChange Rows.plansWaitSpec) :=
 OpenClaim.holds_of_wide 3 Tryz.f3 rfl rfl rfl rfl rfl rfl rfl ⟨rfl, rfl, rfl, rfl, rfl⟩ rfl rfl rfl rfl rfl (by kernel_rfl) Tryz.func3 (by kernel_rfl)
   (of_decide_eq_true (by kernel_rfl)) (by unfold Func.isWrapper; first | (rw [if_pos (by decide +kernel)]; kernel_rfl) | (rw [if_neg (by decide +kernel)]; exact ⟨rfl, rfl⟩))
   (fun os started H enc _ => lifted_PlansWait os started H enc)
theorem proved_PlansWait : Rows.PlansWaitCardSaid :=
 Claim7.holds_tied_plain_at .later [] [.data, .data, .pinned] true Rows.plansWaitCard.stood.harness false
   over_PlansWait (fun _ h => by cases h) (by kernel_rfl) (fun _ h => by cases h) plansWait_row_tie rfl ⟨rfl, rfl⟩ (by kernel_rfl) rfl
   (fun f fn hf hfn => by
     obtain rfl : f = 3 := Option.some.inj ((show Tryz.prog.funcNamed Rows.plansWaitRow.func = some 3 by kernel_rfl).symm.trans hf) |>.symm
     obtain rfl : fn = Tryz.f3 := (Option.some.inj (Tryz.func3.symm.trans hfn)).symm
     exact ⟨by kernel_rfl, fun j t ht => by
       rw [Tryz.params3] at ht
       have h3 : t = 22 := by
         rcases j with _ | j
         · simpa using ht.symm
         · simp at ht
       subst h3
       exact (show Tryz.prog.wantsStandIn 22 = false by kernel_rfl)⟩)
   (by kernel_rfl)
end Go.Proofs.YteppdabhloieaaaGreatDoor

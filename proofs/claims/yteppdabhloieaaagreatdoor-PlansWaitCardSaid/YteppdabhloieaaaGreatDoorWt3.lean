/- Contract of covered of dialplan. Conditions: patterns that are right. -/
import Derived.Test.YteppdabhloieaaaGreatDoorBun7
import Derived.Test.YteppdabhloieaaaGreatDoorBun2
import Derived.Deep.CutBlock
import Derived.Deep.LoopGhost
import Derived.RegionTactic
namespace Go.Proofs.YteppdabhloieaaaGreatDoor
open Go.RowKit
def stRow (t : Nat × Nat) : List Value := [.int .i64 t.1, .int .u64 t.2]
theorem stRow_len (t : Nat × Nat) : (stRow t).length = 2 := rfl
theorem Tryz.steT : StructT Tryz.prog 177 2 := ⟨_, Tryz.underlying177, rfl, by kernel_rfl⟩
theorem Tryz.stsT : ElemT Tryz.prog 178 177 2 16 (.agg #[.int .i64 0, .int .u64 0]) := elemT_of Tryz.underlying178 (by kernel_rfl) rfl (by decide)
theorem Tryz.zeroBo (w : World) : (zeroValue 4).run Tryz.prog w = .ok (.bool false) w := by kernel_rfl
theorem and_clr (s k : Nat) (hs : s < 18446744073709551616) (hk : k < 64) : bits .andNot .u64 (s : Int) (IntKind.u64.wrap ((2 : Int) ^ k)) = ((clr s k : Nat) : Int) := by
 have hp : 2 ^ k < 18446744073709551616 := Nat.pow_lt_pow_right (by omega) hk
 have e : (2 : Int) ^ k = ((2 ^ k : Nat) : Int) := by rw [Int.natCast_pow]; rfl
 have h1 : ((2 ^ k : Nat) : Int) % 18446744073709551616 = ((2 ^ k : Nat) : Int) := by
   generalize 2 ^ k = y at hp
   omega
 rw [e, IntKind.wrap_u64, h1]
 exact u64_clr s k hs hk
theorem pow_full {m : Nat} (hm : m ≤ 12) : IntKind.u64.wrap (IntKind.u64.wrap ((2 : Int) ^ m) - 1) = ((2 ^ m - 1 : Nat) : Int) := by
 have h1 : 2 ^ m ≤ 4096 := Nat.pow_le_pow_right (n := 2) (by omega) hm
 have h2 : 0 < 2 ^ m := pow_pos' m
 have e : (2 : Int) ^ m = ((2 ^ m : Nat) : Int) := by rw [Int.natCast_pow]; rfl
 rw [e, IntKind.wrap_u64, IntKind.wrap_u64]
 omega
set_option maxRecDepth 100000 in
set_option maxHeartbeats 16000000 in
theorem covered_any (lo : Nat) (A : Option Addr) (n c : Nat) (x : List Nat × Nat) (B : Option Addr) (m d : Nat) (ps : List PatV) (w : World) (h : Ints .u16 w 0 A n c (u16L x.1)) (hn : n ≤ 30) (hr : Right x) (hp : Pats w lo B m d ps) (hm : m ≤ 12) :
   Calls Tryz.prog 53 #[.agg #[.slice A n c, .int .u8 x.2], .slice B m d] w (RetV (.bool (covB x (shps ps))) w) := by
 have H := Lib.hid h; have HR := Lib.hid hr; have HP := Lib.hid hp
 have HLN := Lib.hid (show (shps ps).length = m by rw [shps_len, hp.recs.len])
 have hp12 : 2 ^ m ≤ 4096 := Nat.pow_le_pow_right (n := 2) (by omega) hm
 have hmm := @run_makeMap Tryz.prog
 clear h hr hp
 go_enter Tryz.func53, Tryz.ntmps53
 go_upto_region 3 with (fail)
 rw [pow_full hm]
 clear hmm
 obtain ⟨pb, hpb⟩ : ∃ pb, w.heap.size = pb := ⟨_, rfl⟩
 obtain ⟨w2, hw2⟩ : ∃ w2, (w.alloc (.cells #[.slice A n c, .int .u8 x.2] 86)).alloc (.map #[] 0) = w2 := ⟨_, rfl⟩
 have hz2 : w2.heap.size = pb + 1 + 1 := by rw [← hw2, ← hpb]; simp
 obtain ⟨wb, hwb⟩ : ∃ wb, w2.alloc (.cells #[.int .i64 0, .int .u64 ((2 ^ m - 1 : Nat) : Int)] 177) = wb := ⟨_, rfl⟩
 have hg2 : w2.grownBy wb none := by rw [← hwb]; exact gr_alloc (gr_refl _ _) _
 have HB := Lib.hid (show Blk wb pb 86 #[.slice A n c, .int .u8 x.2] by rw [← hwb, ← hw2, ← hpb]; exact ((Blk.new _ _ _).alloc _).alloc _)
 have HS := Lib.hid (show SetP KS wb (pb + 1) 0 (fun t => t ∈ ([] : List (Nat × Nat))) from by
   have h1 := SetP.new KS (w.alloc (.cells #[.slice A n c, .int .u8 x.2] 86))
   rw [show (w.alloc (.cells #[.slice A n c, .int .u8 x.2] 86)).heap.size = pb + 1 by rw [← hpb]; simp, hw2] at h1
   exact (h1.kept hg2 (by simp)).iff (fun k _ => by simp))
 have HQ := Lib.hid (show OwnQ stRow 2 wb (pb + 1 + 1) (some ⟨pb + 1 + 1, 0, none⟩) 1 1 [(0, 2 ^ m - 1)] from by
   have h1 := Own.lit w2 177 2 [.int .i64 0, .int .u64 ((2 ^ m - 1 : Nat) : Int)] 1 (by unfold maxLen; omega) rfl
   rw [hz2, show ([.int .i64 0, .int .u64 ((2 ^ m - 1 : Nat) : Int)] : List Value).toArray = #[.int .i64 0, .int .u64 ((2 ^ m - 1 : Nat) : Int)] from rfl, hwb] at h1
   exact ⟨OwnO.of h1, rfl, by unfold maxLen; omega⟩)
 have HI := Lib.hid (show BfI x (shps ps) [] [(0, 2 ^ m - 1)] (fun _ => False) by have := BfI.new x (shps ps); rw [HLN.out] at this; exact this)
 have HG := Lib.hid (show w.grownBy wb none by rw [← hwb, ← hw2]; exact gr_alloc (gr_alloc (gr_alloc (gr_refl _ _) _) _) _)
 rw [hw2, hpb, hwb]
 clear hw2 hz2 hwb hg2
 have HPB := Lib.hid hpb; clear hpb
 go_loopg [6, 7, 8, 9, 10, 11, 12, 13, 14, 15] (2 * 126976 + 1) (fun gk v6 _ _ _ _ _ _ _ _ _ wr => ∃ (S Q : List (Nat × Nat)) (A' : Option Addr) (n' c' : Nat), v6 = .slice A' n' c' ∧ w.grownBy wr none ∧ Blk wr pb 86 #[.slice A n c, .int .u8 x.2] ∧ SetP KS wr (pb + 1) S.length (fun t => t ∈ S) ∧ OwnQ stRow 2 wr (pb + 1 + 1) A' n' c' Q ∧ BfI x (shps ps) S Q (fun _ => False) ∧ gk = 2 * (126976 - S.length) + Q.length ∧ 2 * (126976 - S.length) + Q.length ≤ 253953)
 case atStart => exact ⟨[], [(0, 2 ^ m - 1)], _, _, _, rfl, HG.out, HB.out, HS.out, HQ.out, HI.out, rfl, Nat.le_refl _⟩
 case round =>
   clear HG HB HS HQ HI
   obtain ⟨S, Q, A', n', c', rfl, hg, hb, hs, hq, hi, hgk⟩ := hrel
   have HG := Lib.hid hg; have HB := Lib.hid hb; have HS := Lib.hid hs; have HI := Lib.hid hi; have HGK := Lib.hid hgk
   have zb := hb.lt
   have hql := hq.2.1
   have hSl := hi.bd (by rw [HLN.out]; exact hm)
   have HSL := Lib.hid hSl
   clear hg hb hs hi hgk hSl
   cases Q with
   | nil =>
     obtain rfl : n' = 0 := by simpa using hql.symm
     have HV := Lib.hid (covB_true HI.out.cov)
     clear hql hq
     go_wp2_with fail
     go_ret
     exact ⟨by rw [HV.out]; rfl, HG.out⟩
   | cons t Q =>
     obtain ⟨q, rfl⟩ : ∃ q, n' = q + 1 := ⟨Q.length, by rw [← hql]; rfl⟩
     have HQL := Lib.hid (show Q.length = q by simpa using hql)
     obtain ⟨g, o, rfl, hgl, hgs⟩ := hq.1.pos (by omega)
     obtain ⟨g2, o2, t2, e2, _, _, ht2, hc2⟩ := hq.recs.get stRow_len (show 0 < q + 1 by omega)
     obtain ⟨rfl, rfl⟩ : g2 = g ∧ o2 = o := by injection e2 with e2; injection e2 with e2 e3; exact ⟨e2.symm, e3.symm⟩
     obtain rfl : t = t2 := by injection ht2
     have HQ := Lib.hid hq
     have HC := Lib.hid hc2
     have hcap : q + 1 ≤ c' := hq.1.cap
     obtain ⟨hri, hi2⟩ := HI.out.pop
     obtain ⟨ha30, hs12⟩ := hri.bd
     have HRI := Lib.hid hri; have HI2 := Lib.hid hi2
     rw [HLN.out] at hs12
     obtain ⟨a, s⟩ := t
     dsimp only at ha30 hs12
     clear hq hc2 ht2 e2 hri hi2 HI hql
     have hq0 : (0 : Int) < (q : Int) + 1 := by omega
     obtain ⟨wa, hwa⟩ : ∃ wa, wr.alloc (.cells #[.int .i64 a, .int .u64 s] 177) = wa := ⟨_, rfl⟩
     obtain ⟨sb, hsb⟩ : ∃ sb, wr.heap.size = sb := ⟨_, rfl⟩
     have HSB := Lib.hid (show Blk wa sb 177 #[.int .i64 a, .int .u64 s] by rw [← hwa, ← hsb]; exact Blk.new _ _ _)
     have hga : wr.grownBy wa none := by rw [← hwa]; exact gr_alloc (gr_refl _ _) _
     have HWA := Lib.hid hwa; have HSZ := Lib.hid hsb
     clear hwa hsb
     go_upto_region 5 with (first
       | (refine wpl_load_at Tryz.steT rfl _ rfl _ rfl [.int .i64 a, .int .u64 s] rfl (fun j u hu => by rw [add_mk]; exact HC.out j u hu) ?_)
       | fail)
     rw [HWA.out, HSZ.out]
     go_upto_region 6 with (fail)
     obtain ⟨A2, hA2⟩ : ∃ A2 : Option Addr, (if c' = 1 then some ⟨g2, o2, none⟩ else some ⟨g2, o2 + 2, none⟩) = A2 := ⟨_, rfl⟩
     have hq2 : OwnQ stRow 2 wr (pb + 1 + 1) A2 q (c' - 1) Q := by have := HQ.out.cut1 stRow_len; rw [hA2] at this; exact this
     have HNE := Lib.hid (show ∀ g, blkOf A2 = some g → g ≠ sb from fun g e => by have := (hq2.lt e).2; have := HSZ.out; omega)
     rw [hA2]
     have HQ2 := Lib.hid (hq2.low hga gn_)
     have zsb : pb + 1 + 1 ≤ sb := by have := HSZ.out; omega
     have zsa : sb < wa.heap.size := HSB.out.lt
     replace HB := Lib.hid (HB.out.grown hga (by simp))
     replace HS := Lib.hid (HS.out.kept hga (by simp))
     replace HG := Lib.hid (gr_none HG.out hga)
     clear hga hA2 hq2 HQ HWA HSZ HC zb hq0 hgl hgs
     have k0 := HSB.out.cell 0
     have k1 := HSB.out.cell 1
     obtain ⟨M, E, hT⟩ : ∃ M E, takesL x a = (M, E) := ⟨_, _, rfl⟩
     have HT := Lib.hid hT
     have hM : M < 4096 := by
       have := congrArg Prod.fst hT
       dsimp only at this
       rw [← this, takes_fst HR.out]
       split
       · omega
       · exact mAt_bd HR.out a
     have hs64 : s < 18446744073709551616 := by omega
     clear hT
     go_wp2_with (first
       | (refine wpl_load_all Tryz.patT rfl _ rfl _ rfl _ _ HB.out rfl ?_)
       | fail)
     refine (takes_any A n c a x _ (H.out.grown HG.out gn_) (by omega) (by omega)).mono ?_
     rintro e w4 ⟨rfl, hg4⟩
     rw [HT.out]
     have z4 := hg4.size
     replace HQ2 := Lib.hid (HQ2.out.low hg4 gn_)
     replace HB := Lib.hid (HB.out.grown hg4 (by simp))
     replace HSB := Lib.hid (HSB.out.grown hg4 (by simp))
     replace HS := Lib.hid (HS.out.kept hg4 (by simp))
     replace HG := Lib.hid (gr_none HG.out hg4)
     clear hg4 k0 k1
     have k0 := HSB.out.cell 0
     have k1 := HSB.out.cell 1
     have key : ∀ (wv : World) (F : Prop), F → F := fun _ _ h => h
     clear key
     have hways : (E = false) ∨ (E = true ∧ a = 0) ∨ (E = true ∧ 0 < a) := by
       cases E
       · exact .inl rfl
       · rcases Nat.eq_zero_or_pos a with h | h
         · exact .inr (.inl ⟨rfl, h⟩)
         · exact .inr (.inr ⟨rfl, h⟩)
     rcases hways with rfl | ⟨rfl, ha0⟩ | ⟨rfl, ha0⟩
     · have HF := Lib.hid (show fineS x (shps ps) a s from fun h1 => by rw [HT.out] at h1; cases h1)
       go_upto_region 9 with (fail)
       by_cases h30 : a = 30
       · have d30 : ((a : Int) == 30) = true := by rw [beq_iff_eq]; omega
         have HD := Lib.hid (HI2.out.done HF.out (fun h1 => absurd h1 (by dsimp only; omega)))
         clear h30
         go_wp2_with fail
         go_roundg (2 * (126976 - S.length) + Q.length)
         case measure => have := HGK.out.1; simp only [List.length_cons] at this; omega
         case rel => exact ⟨S, Q, _, _, _, rfl, HG.out, HB.out, HS.out, HQ2.out, HD.out, rfl, by have := HGK.out.2; simp only [List.length_cons] at this; omega⟩
       · have d30 : ((a : Int) == 30) = false := by rw [beq_eq_false_iff_ne]; omega
         have ha29 : a < 30 := by omega
         clear h30
         obtain ⟨K, hK⟩ : ∃ K, 2 * (126976 - S.length) + Q.length = K := ⟨_, rfl⟩
         have HKK := Lib.hid hK
         clear hK
         obtain ⟨wo, rfl⟩ : ∃ wo : World, wo = wr := ⟨_, rfl⟩
         go_wp2_with fail
         go_loopw [6, 10, 11, 12, 13, 14, 15, 56] (fun v6 _ _ _ _ _ _ t56 wr => ∃ (i : Nat) (S' Q' : List (Nat × Nat)) (A' : Option Addr) (n' c' : Nat), i ≤ 12 ∧ t56 = .int .i64 i ∧ v6 = .slice A' n' c' ∧ w.grownBy wr none ∧ Blk wr pb 86 #[.slice A n c, .int .u8 x.2] ∧ Blk wr sb 177 #[.int .i64 a, .int .u64 s] ∧ SetP KS wr (pb + 1) S'.length (fun t => t ∈ S') ∧ OwnQ stRow 2 wr (pb + 1 + 1) A' n' c' Q' ∧ (∀ g, blkOf A' = some g → g ≠ sb) ∧ BfI x (shps ps) S' Q' (fun u => u = (a, s)) ∧ Clo x (shps ps) S' (a, s) i ∧ 2 * (126976 - S'.length) + Q'.length ≤ K) (fun _ _ _ _ _ _ _ t56 _ => 12 - (intOf t56).toNat)
         case atStart => exact ⟨0, S, Q, A2, q, c' - 1, by omega, rfl, rfl, HG.out, HB.out, HSB.out, HS.out, HQ2.out, HNE.out, HI2.out, fun _ i hi => by omega, by rw [HKK.out]; exact Nat.le_refl _⟩
         case round =>
           clear HG HB HSB HS HQ2 HNE HI2 k0 k1
           obtain ⟨i, S', Q', A', n', c9, hi, rfl, rfl, hg, hb, hsb, hs, hq, hne, hi2, hcl, hkk⟩ := hrel
           have HG := Lib.hid hg; have HB := Lib.hid hb; have HSB := Lib.hid hsb; have HS := Lib.hid hs; have HQ := Lib.hid hq; have HNE := Lib.hid hne; have HI2 := Lib.hid hi2; have HCL := Lib.hid hcl; have HKL := Lib.hid hkk
           have zr := hsb.lt
           have hSl := hi2.bd (by rw [HLN.out]; exact hm)
           have HSL' := Lib.hid hSl
           have hql := hq.2.1
           have HQL' := Lib.hid hql
           have hcm := hq.2.2
           have HCM := Lib.hid hcm
           clear hg hb hsb hs hq hne hi2 hcl hkk hSl hql hcm
           by_cases hlt : i < 12
           · have hbt := bit16 M i (by omega)
             have d12 : decide ((i : Int) < 12) = true := decide_eq_true (by omega)
             cases hbit : M.testBit i
             · rw [hbit, if_neg (by simp)] at hbt
               have HN := Lib.hid (show Clo x (shps ps) S' (a, s) (i + 1) from fun h1 j hj hb => by
                 rcases Nat.lt_succ_iff_lt_or_eq.1 hj with h2 | h2
                 · exact HCL.out h1 j h2 hb
                 · subst h2; rw [HT.out] at hb; dsimp only at hb; rw [hbit] at hb; cases hb)
               clear hbit
               go_wp2_with fail
               go_roundw
               case rel => exact ⟨i + 1, S', Q', _, _, _, by omega, by go_num, rfl, HG.out, HB.out, HSB.out, HS.out, HQ.out, HNE.out, HI2.out, HN.out, HKL.out⟩
               case measure => simp [intOf]; omega
             · rw [hbit, if_pos rfl] at hbt
               have HBIT := Lib.hid hbit
               clear hbit
               have k0 := HSB.out.cell 0
               have k1 := HSB.out.cell 1
               obtain ⟨wn, hwn⟩ : ∃ wn, wr.alloc (.cells #[.int .i64 ((a : Int) + 1), .int .u64 s] 177) = wn := ⟨_, rfl⟩
               obtain ⟨nb_, hnb⟩ : ∃ nb_, wr.heap.size = nb_ := ⟨_, rfl⟩
               have HNB := Lib.hid (show Blk wn nb_ 177 #[.int .i64 ((a : Int) + 1), .int .u64 s] by rw [← hwn, ← hnb]; exact Blk.new _ _ _)
               have hgn : wr.grownBy wn none := by rw [← hwn]; exact gr_alloc (gr_refl _ _) _
               have zn : sb < nb_ := by omega
               have HWN := Lib.hid hwn
               have HNN := Lib.hid hnb
               clear hwn hnb
               go_upto_region 15 with (fail)
               rw [HWN.out, HNN.out]
               replace HG := Lib.hid (gr_none HG.out hgn)
               replace HB := Lib.hid (HB.out.grown hgn (by simp))
               replace HSB := Lib.hid (HSB.out.grown hgn (by simp))
               replace HS := Lib.hid (HS.out.kept hgn (by simp))
               have HQB := Lib.hid (show ∀ g, blkOf A' = some g → g ≠ nb_ from fun g e => by have := (HQ.out.lt e).2; have := HNN.out; omega)
               replace HQ := Lib.hid (HQ.out.low hgn gn_)
               clear hgn k0 k1 HWN HNN
               obtain ⟨wo2, rfl⟩ : ∃ wo2 : World, wo2 = wr := ⟨_, rfl⟩
               go_wp2_with fail
               go_loopw [12, 13, 14, 15, 72] (fun _ _ _ _ t72 wr => ∃ k : Nat, k ≤ m ∧ t72 = .int .i64 k ∧ wn.grownBy wr (some nb_) ∧ Blk wr nb_ 177 #[.int .i64 ((a : Int) + 1), .int .u64 ((clTo (shps ps) a i s k : Nat) : Int)]) (fun _ _ _ _ t72 _ => m - (intOf t72).toNat)
               case atStart => exact ⟨0, Nat.zero_le _, rfl, gr_refl _ _, HNB.out⟩
               case round =>
                 clear HNB
                 obtain ⟨k, hk, rfl, hgk, hnb⟩ := hrel
                 have HGN := Lib.hid hgk; have HNB := Lib.hid hnb
                 have zk := hnb.lt
                 clear hgk hnb
                 have HGW := Lib.hid (show w.grownBy wr none from gr_trans HG.out HGN.out (fun g e => .inr (by injection e with e; have := HPB.out; omega)))
                 have hct := clTo_lt (l := shps ps) (a := a) (i := i) hs12 k
                 obtain ⟨ct, hctn⟩ : ∃ ct, clTo (shps ps) a i s k = ct := ⟨_, rfl⟩
                 have HCT := Lib.hid hctn
                 rw [hctn] at HNB hct
                 clear hctn
                 by_cases hkm : k < m
                 · obtain ⟨g, o, p, rfl, _, hgl, hz, hc⟩ := (HP.out.grown HGW.out).recs.get patRow_len hkm
                   have HOK := Lib.hid ((HP.out.ok p (mem_of_get hz)))
                   have HGD := Lib.hid (shps_getD hz)
                   have HC := Lib.hid hc
                   obtain ⟨M2, E2, hT2⟩ : ∃ M2 E2, takesL p.x a = (M2, E2) := ⟨_, _, rfl⟩
                   have HT2 := Lib.hid hT2
                   have hM2 : M2 < 4096 := by
                     have := congrArg Prod.fst hT2
                     dsimp only at this
                     rw [← this, takes_fst HOK.out.2.2]
                     split
                     · omega
                     · exact mAt_bd HOK.out.2.2 a
                   clear hz hc hT2
                   obtain ⟨wa2, hwa2⟩ : ∃ wa2, wr.alloc (.cells #[.slice p.A p.n p.c, .int .u8 p.x.2] 86) = wa2 := ⟨_, rfl⟩
                   have HPP := Lib.hid (show Blk wa2 wr.heap.size 86 #[.slice p.A p.n p.c, .int .u8 p.x.2] by rw [← hwa2]; exact Blk.new _ _ _)
                   have hga2 : wr.grownBy wa2 none := by rw [← hwa2]; exact gr_alloc (gr_refl _ _) _
                   have HWA2 := Lib.hid hwa2
                   clear hwa2
                   go_upto_region 18 with (first
                     | (refine wpl_load_at Tryz.patT rfl _ rfl _ rfl [.slice p.A p.n p.c, .int .u8 p.x.2] rfl (fun j u hu => by rw [add_mk]; exact HC.out j u hu) ?_)
                     | fail)
                   rw [HWA2.out]
                   replace HGN := Lib.hid (gr_none HGN.out hga2)
                   replace HGW := Lib.hid (gr_none HGW.out hga2)
                   replace HNB := Lib.hid (HNB.out.grown hga2 (by simp))
                   clear hga2 HC HWA2
                   have kk0 := (HSB.out.grown HGN.out (by simp; omega)).cell 0
                   go_wp2_with (first
                     | (refine wpl_load_all Tryz.patT rfl _ rfl _ rfl _ _ HPP.out rfl ?_)
                     | fail)
                   refine (takes_any p.A p.n p.c a p.x _ (HOK.out.1.grown HGW.out gn_) (by have := HOK.out.2.1; omega) (by omega)).mono ?_
                   rintro e w8 ⟨rfl, hg8⟩
                   rw [HT2.out]
                   replace HGN := Lib.hid (gr_none HGN.out hg8)
                   replace HGW := Lib.hid (gr_none HGW.out hg8)
                   replace HNB := Lib.hid (HNB.out.grown hg8 (by simp))
                   clear hg8 kk0
                   have hbt2 := bit16 M2 i (by omega)
                   cases hb2 : M2.testBit i
                   · rw [hb2, if_neg (by simp)] at hbt2
                     have HCN := Lib.hid (show clTo (shps ps) a i s (k + 1) = clr ct k by
                       rw [clTo, show tkB (shps ps) a i k = false by unfold tkB; rw [HGD.out, HT2.out]; exact hb2, HCT.out]; rfl)
                     clear hb2
                     have kn0 := HNB.out.cell 0
                     have kn1 := HNB.out.cell 1
                     have hcl := and_clr ct k (by omega) (by omega)
                     have kf := HNB.out.frozen 1
                     go_upto_region 20 with (fail)
                     go_region
                     have HNB2 := Lib.hid (show Blk (w8.setCell ⟨nb_, 1, none⟩ (.int .u64 ((clr ct k : Nat) : Int))).drew nb_ 177 #[.int .i64 ((a : Int) + 1), .int .u64 ((clr ct k : Nat) : Int)] from (HNB.out.set_ 1 _).drew)
                     have HGN2 := Lib.hid (show wn.grownBy (w8.setCell ⟨nb_, 1, none⟩ (.int .u64 ((clr ct k : Nat) : Int))).drew (some nb_) from gr_drew (gr_setCell HGN.out (.inl rfl) _))
                     clear hcl kf kn0 kn1
                     go_wp2_with fail
                     go_roundw
                     case rel => exact ⟨k + 1, by omega, by go_num, HGN2.out, by rw [HCN.out]; exact HNB2.out⟩
                     case measure => simp [intOf]; omega
                   · rw [hb2, if_pos rfl] at hbt2
                     have HCN := Lib.hid (show clTo (shps ps) a i s (k + 1) = ct by
                       rw [clTo, show tkB (shps ps) a i k = true by unfold tkB; rw [HGD.out, HT2.out]; exact hb2, HCT.out]; rfl)
                     clear hb2
                     go_wp2_with fail
                     go_roundw
                     case rel => exact ⟨k + 1, by omega, by go_num, HGN.out, by rw [HCN.out]; exact HNB.out⟩
                     case measure => simp [intOf]; omega
                 · have hkm' : k = m := by omega
                   have HKP := Lib.hid (show ct = kp (shps ps) a i s by rw [← HCT.out, hkm', ← HLN.out]; exact cl_kp (by rw [HLN.out]; exact hs12))
                   have hkd : decide (k < m) = false := decide_eq_false hkm
                   clear hkm hkm'
                   have hok : KS.ok (a + 1, ct) := ⟨by dsimp only; omega, by dsimp only; omega⟩
                   have HOK := Lib.hid hok
                   replace HS := Lib.hid (HS.out.kept HGN.out (by simp; omega))
                   replace HQ := Lib.hid (HQ.out.kept HGN.out (fun g e e2 => by injection e with e; exact HQB.out g e2 e.symm))
                   replace HB := Lib.hid (HB.out.grown HGN.out (by simp; omega))
                   replace HSB := Lib.hid (HSB.out.grown HGN.out (by simp; omega))
                   clear hok
                   by_cases hmem : (a + 1, ct) ∈ S'
                   · have HME := Lib.hid hmem
                     have HN := Lib.hid (show Clo x (shps ps) S' (a, s) (i + 1) from fun h1 j hj hb => by
                       rcases Nat.lt_succ_iff_lt_or_eq.1 hj with h2 | h2
                       · exact HCL.out h1 j h2 hb
                       · subst h2; dsimp only; rw [← HKP.out]; exact HME.out)
                     clear hmem
                     go_wp2_with (first
                       | (refine wpl_load_all Tryz.steT rfl _ rfl _ rfl _ _ HNB.out rfl ?_)
                       | (refine wpl_plookB (K := KS) true rfl 175 _ _ rfl Tryz.underlying175 (Tryz.zeroBo _) rfl (a + 1, ct) rfl HOK.out HS.out (by exact ⟨fun _ => HME.out, fun _ => rfl⟩) ?_)
                       | fail)
                     go_roundw
                     case rel => exact ⟨i + 1, S', Q', _, _, _, by omega, by go_num, rfl, HGW.out, HB.out, HSB.out, HS.out, HQ.out, HNE.out, HI2.out, HN.out, HKL.out⟩
                     case measure => simp [intOf]; omega
                   · have HME := Lib.hid hmem
                     have HI3 := Lib.hid (by have h1 := HI2.out.push (s := s) (i := i) HRI.out ha29 hlt (by rw [HT.out]; exact HBIT.out) (by rw [← HKP.out]; exact hmem); rw [← HKP.out] at h1; exact h1)
                     have HN := Lib.hid (show Clo x (shps ps) (S' ++ [(a + 1, ct)]) (a, s) (i + 1) from fun h1 j hj hb => by
                       rcases Nat.lt_succ_iff_lt_or_eq.1 hj with h2 | h2
                       · exact List.mem_append_left _ (HCL.out h1 j h2 hb)
                       · subst h2; dsimp only; rw [← HKP.out]; exact List.mem_append_right _ (List.mem_singleton.2 rfl))
                     clear hmem
                     have hsl' := HSL'.out
                     have hbd3 := HI3.out.bd (by rw [HLN.out]; exact hm)
                     have HBD3 := Lib.hid hbd3
                     have hn126 : n' ≤ 300000 := by have h1 := HQL'.out; have h2 := HKL.out; have h3 := HKK.out; have h5 := HGK.out.2; simp only [List.length_cons] at h5; omega
                     clear hbd3
                     go_upto_region 23 with (first
                       | (refine wpl_load_all Tryz.steT rfl _ rfl _ rfl _ _ HNB.out rfl ?_)
                       | (refine wpl_plookB (K := KS) false rfl 175 _ _ rfl Tryz.underlying175 (Tryz.zeroBo _) rfl (a + 1, ct) rfl HOK.out HS.out (by exact ⟨(fun h => by cases h), (fun h => absurd h HME.out)⟩) ?_)
                       | fail)
                     go_upto_region 24 with (first
                       | (refine wpl_load_all Tryz.steT rfl _ rfl _ rfl _ _ HNB.out rfl ?_)
                       | (refine wpl_pput (K := KS) rfl _ _ _ _ rfl Tryz.underlying175 rfl (a + 1, ct) rfl rfl HOK.out HS.out (by unfold maxLen; omega) ?_
                          intro wp_ hp_ hgp_
                          have HSP := Lib.hid hp_; have HGP := Lib.hid hgp_; clear hp_ hgp_)
                       | fail)
                     have zp := HGP.out.size
                     replace HNB := Lib.hid (HNB.out.grown HGP.out (by simp; omega))
                     replace HB := Lib.hid (HB.out.grown HGP.out (by simp))
                     replace HSB := Lib.hid (HSB.out.grown HGP.out (by simp; omega))
                     replace HQ := Lib.hid (HQ.out.low HGP.out (fun g e => by injection e with e; omega))
                     replace HGW := Lib.hid (gr_trans HGW.out HGP.out (fun g e => .inr (by injection e with e; have := HPB.out; omega)))
                     replace HSP := Lib.hid (HSP.out.iff (C' := fun t => t ∈ S' ++ [(a + 1, ct)]) (fun t _ => by rw [List.mem_append, List.mem_singleton]))
                     go_wp2_with (first
                       | (refine wpl_load_all Tryz.steT rfl _ rfl _ rfl _ _ HNB.out rfl ?_)
                       | (at_builtin
                          refine wpl_appO _ rfl _ _ Tryz.stsT rfl (pb + 1 + 1) A' n' c9 _ rfl (by exact (HQ.out.low (gr_alloc (gr_refl _ none) _) gn_).1) _ 1 1 [.int .i64 ((a : Int) + 1), .int .u64 ct] rfl (by exact (Reads.one _ _ _ _ rfl).lower (Nat.zero_le _)) (by simp [Value.oneCell']) (by unfold maxLen; omega) (by omega) (by simp; omega) (by exact HQ.out.2.2) ?_
                          intro A9 cc9 w9 h9 hc9
                          have H9 := Lib.hid h9; have HC9 := Lib.hid hc9; clear h9 hc9)
                       | fail)
                     have hq1 := HQ.out.low (gr_alloc (gr_refl wp_ none) (.cells #[.int .i64 ((a : Int) + 1), .int .u64 ct] 177)) gn_
                     have HG9 := Lib.hid (show w.grownBy w9 none from gr_trans (gr_alloc HGW.out _) H9.out.2.1 (fun g e => .inr (by have := (hq1.lt e).1; have := HPB.out; omega)))
                     have hne9 : ∀ g, blkOf A' = some g → pb + 1 + 1 ≤ g := fun g e => (hq1.lt e).1
                     go_roundw
                     case rel =>
                       refine ⟨i + 1, S' ++ [(a + 1, ct)], Q' ++ [(a + 1, ct)], A9, n' + 1, cc9, by omega, by go_num, rfl, HG9.out, (HB.out.alloc _).grown H9.out.2.1 (fun e => by have := hne9 pb e.symm; omega), (HSB.out.alloc _).grown H9.out.2.1 (fun e => HNE.out sb e.symm rfl), ?_, hq1.app rfl H9.out HC9.out, fun g e => ?_, HI3.out, HN.out, ?_⟩
                       · rw [List.length_append, List.length_singleton]
                         exact (HSP.out.kept (gr_alloc (gr_refl _ none) _) (by simp)).kept H9.out.2.1 (fun e => by have := hne9 _ e.symm; omega)
                       · rcases H9.out.2.2 g e with h1 | h1
                         · exact HNE.out g h1
                         · simp at h1; omega
                       · have h1 := HKL.out; have h2 := HBD3.out; simp only [List.length_append, List.length_singleton] at h2 ⊢; omega
                     case measure => simp [intOf]; omega
           · obtain rfl : i = 12 := by omega
             have HD := Lib.hid (HI2.out.done HF.out HCL.out)
             go_wp2_with fail
             go_roundg (2 * (126976 - S'.length) + Q'.length)
             case measure => have h1 := HGK.out.1; have h2 := HKK.out; have h3 := HKL.out; simp only [List.length_cons] at h1; omega
             case rel => exact ⟨S', Q', _, _, _, rfl, HG.out, HB.out, HS.out, HQ.out, HD.out, rfl, by have h1 := HGK.out.2; have h2 := HKK.out; have h3 := HKL.out; simp only [List.length_cons] at h1; omega⟩
     · have HF := Lib.hid (show fineS x (shps ps) a s from fun _ h2 => by omega)
       have d0 : decide ((0 : Int) < (a : Int)) = false := decide_eq_false (by omega)
       have d0' : decide (0 < a) = false := decide_eq_false (by omega)
       have d0p : ¬ 0 < a := by omega
       clear ha0
       go_upto_region 9 with (fail)
       by_cases h30 : a = 30
       · have d30 : ((a : Int) == 30) = true := by rw [beq_iff_eq]; omega
         have HD := Lib.hid (HI2.out.done HF.out (fun h1 => absurd h1 (by dsimp only; omega)))
         clear h30
         go_wp2_with fail
         go_roundg (2 * (126976 - S.length) + Q.length)
         case measure => have := HGK.out.1; simp only [List.length_cons] at this; omega
         case rel => exact ⟨S, Q, _, _, _, rfl, HG.out, HB.out, HS.out, HQ2.out, HD.out, rfl, by have := HGK.out.2; simp only [List.length_cons] at this; omega⟩
       · have d30 : ((a : Int) == 30) = false := by rw [beq_eq_false_iff_ne]; omega
         have ha29 : a < 30 := by omega
         clear h30
         obtain ⟨K, hK⟩ : ∃ K, 2 * (126976 - S.length) + Q.length = K := ⟨_, rfl⟩
         have HKK := Lib.hid hK
         clear hK
         obtain ⟨wo, rfl⟩ : ∃ wo : World, wo = wr := ⟨_, rfl⟩
         go_wp2_with fail
         go_loopw [6, 10, 11, 12, 13, 14, 15, 56] (fun v6 _ _ _ _ _ _ t56 wr => ∃ (i : Nat) (S' Q' : List (Nat × Nat)) (A' : Option Addr) (n' c' : Nat), i ≤ 12 ∧ t56 = .int .i64 i ∧ v6 = .slice A' n' c' ∧ w.grownBy wr none ∧ Blk wr pb 86 #[.slice A n c, .int .u8 x.2] ∧ Blk wr sb 177 #[.int .i64 a, .int .u64 s] ∧ SetP KS wr (pb + 1) S'.length (fun t => t ∈ S') ∧ OwnQ stRow 2 wr (pb + 1 + 1) A' n' c' Q' ∧ (∀ g, blkOf A' = some g → g ≠ sb) ∧ BfI x (shps ps) S' Q' (fun u => u = (a, s)) ∧ Clo x (shps ps) S' (a, s) i ∧ 2 * (126976 - S'.length) + Q'.length ≤ K) (fun _ _ _ _ _ _ _ t56 _ => 12 - (intOf t56).toNat)
         case atStart => exact ⟨0, S, Q, A2, q, c' - 1, by omega, rfl, rfl, HG.out, HB.out, HSB.out, HS.out, HQ2.out, HNE.out, HI2.out, fun _ i hi => by omega, by rw [HKK.out]; exact Nat.le_refl _⟩
         case round =>
           clear HG HB HSB HS HQ2 HNE HI2 k0 k1
           obtain ⟨i, S', Q', A', n', c9, hi, rfl, rfl, hg, hb, hsb, hs, hq, hne, hi2, hcl, hkk⟩ := hrel
           have HG := Lib.hid hg; have HB := Lib.hid hb; have HSB := Lib.hid hsb; have HS := Lib.hid hs; have HQ := Lib.hid hq; have HNE := Lib.hid hne; have HI2 := Lib.hid hi2; have HCL := Lib.hid hcl; have HKL := Lib.hid hkk
           have zr := hsb.lt
           have hSl := hi2.bd (by rw [HLN.out]; exact hm)
           have HSL' := Lib.hid hSl
           have hql := hq.2.1
           have HQL' := Lib.hid hql
           have hcm := hq.2.2
           have HCM := Lib.hid hcm
           clear hg hb hsb hs hq hne hi2 hcl hkk hSl hql hcm
           by_cases hlt : i < 12
           · have hbt := bit16 M i (by omega)
             have d12 : decide ((i : Int) < 12) = true := decide_eq_true (by omega)
             cases hbit : M.testBit i
             · rw [hbit, if_neg (by simp)] at hbt
               have HN := Lib.hid (show Clo x (shps ps) S' (a, s) (i + 1) from fun h1 j hj hb => by
                 rcases Nat.lt_succ_iff_lt_or_eq.1 hj with h2 | h2
                 · exact HCL.out h1 j h2 hb
                 · subst h2; rw [HT.out] at hb; dsimp only at hb; rw [hbit] at hb; cases hb)
               clear hbit
               go_wp2_with fail
               go_roundw
               case rel => exact ⟨i + 1, S', Q', _, _, _, by omega, by go_num, rfl, HG.out, HB.out, HSB.out, HS.out, HQ.out, HNE.out, HI2.out, HN.out, HKL.out⟩
               case measure => simp [intOf]; omega
             · rw [hbit, if_pos rfl] at hbt
               have HBIT := Lib.hid hbit
               clear hbit
               have k0 := HSB.out.cell 0
               have k1 := HSB.out.cell 1
               obtain ⟨wn, hwn⟩ : ∃ wn, wr.alloc (.cells #[.int .i64 ((a : Int) + 1), .int .u64 s] 177) = wn := ⟨_, rfl⟩
               obtain ⟨nb_, hnb⟩ : ∃ nb_, wr.heap.size = nb_ := ⟨_, rfl⟩
               have HNB := Lib.hid (show Blk wn nb_ 177 #[.int .i64 ((a : Int) + 1), .int .u64 s] by rw [← hwn, ← hnb]; exact Blk.new _ _ _)
               have hgn : wr.grownBy wn none := by rw [← hwn]; exact gr_alloc (gr_refl _ _) _
               have zn : sb < nb_ := by omega
               have HWN := Lib.hid hwn
               have HNN := Lib.hid hnb
               clear hwn hnb
               go_upto_region 15 with (fail)
               rw [HWN.out, HNN.out]
               replace HG := Lib.hid (gr_none HG.out hgn)
               replace HB := Lib.hid (HB.out.grown hgn (by simp))
               replace HSB := Lib.hid (HSB.out.grown hgn (by simp))
               replace HS := Lib.hid (HS.out.kept hgn (by simp))
               have HQB := Lib.hid (show ∀ g, blkOf A' = some g → g ≠ nb_ from fun g e => by have := (HQ.out.lt e).2; have := HNN.out; omega)
               replace HQ := Lib.hid (HQ.out.low hgn gn_)
               clear hgn k0 k1 HWN HNN
               obtain ⟨wo2, rfl⟩ : ∃ wo2 : World, wo2 = wr := ⟨_, rfl⟩
               go_wp2_with fail
               go_loopw [12, 13, 14, 15, 72] (fun _ _ _ _ t72 wr => ∃ k : Nat, k ≤ m ∧ t72 = .int .i64 k ∧ wn.grownBy wr (some nb_) ∧ Blk wr nb_ 177 #[.int .i64 ((a : Int) + 1), .int .u64 ((clTo (shps ps) a i s k : Nat) : Int)]) (fun _ _ _ _ t72 _ => m - (intOf t72).toNat)
               case atStart => exact ⟨0, Nat.zero_le _, rfl, gr_refl _ _, HNB.out⟩
               case round =>
                 clear HNB
                 obtain ⟨k, hk, rfl, hgk, hnb⟩ := hrel
                 have HGN := Lib.hid hgk; have HNB := Lib.hid hnb
                 have zk := hnb.lt
                 clear hgk hnb
                 have HGW := Lib.hid (show w.grownBy wr none from gr_trans HG.out HGN.out (fun g e => .inr (by injection e with e; have := HPB.out; omega)))
                 have hct := clTo_lt (l := shps ps) (a := a) (i := i) hs12 k
                 obtain ⟨ct, hctn⟩ : ∃ ct, clTo (shps ps) a i s k = ct := ⟨_, rfl⟩
                 have HCT := Lib.hid hctn
                 rw [hctn] at HNB hct
                 clear hctn
                 by_cases hkm : k < m
                 · obtain ⟨g, o, p, rfl, _, hgl, hz, hc⟩ := (HP.out.grown HGW.out).recs.get patRow_len hkm
                   have HOK := Lib.hid ((HP.out.ok p (mem_of_get hz)))
                   have HGD := Lib.hid (shps_getD hz)
                   have HC := Lib.hid hc
                   obtain ⟨M2, E2, hT2⟩ : ∃ M2 E2, takesL p.x a = (M2, E2) := ⟨_, _, rfl⟩
                   have HT2 := Lib.hid hT2
                   have hM2 : M2 < 4096 := by
                     have := congrArg Prod.fst hT2
                     dsimp only at this
                     rw [← this, takes_fst HOK.out.2.2]
                     split
                     · omega
                     · exact mAt_bd HOK.out.2.2 a
                   clear hz hc hT2
                   obtain ⟨wa2, hwa2⟩ : ∃ wa2, wr.alloc (.cells #[.slice p.A p.n p.c, .int .u8 p.x.2] 86) = wa2 := ⟨_, rfl⟩
                   have HPP := Lib.hid (show Blk wa2 wr.heap.size 86 #[.slice p.A p.n p.c, .int .u8 p.x.2] by rw [← hwa2]; exact Blk.new _ _ _)
                   have hga2 : wr.grownBy wa2 none := by rw [← hwa2]; exact gr_alloc (gr_refl _ _) _
                   have HWA2 := Lib.hid hwa2
                   clear hwa2
                   go_upto_region 18 with (first
                     | (refine wpl_load_at Tryz.patT rfl _ rfl _ rfl [.slice p.A p.n p.c, .int .u8 p.x.2] rfl (fun j u hu => by rw [add_mk]; exact HC.out j u hu) ?_)
                     | fail)
                   rw [HWA2.out]
                   replace HGN := Lib.hid (gr_none HGN.out hga2)
                   replace HGW := Lib.hid (gr_none HGW.out hga2)
                   replace HNB := Lib.hid (HNB.out.grown hga2 (by simp))
                   clear hga2 HC HWA2
                   have kk0 := (HSB.out.grown HGN.out (by simp; omega)).cell 0
                   go_wp2_with (first
                     | (refine wpl_load_all Tryz.patT rfl _ rfl _ rfl _ _ HPP.out rfl ?_)
                     | fail)
                   refine (takes_any p.A p.n p.c a p.x _ (HOK.out.1.grown HGW.out gn_) (by have := HOK.out.2.1; omega) (by omega)).mono ?_
                   rintro e w8 ⟨rfl, hg8⟩
                   rw [HT2.out]
                   replace HGN := Lib.hid (gr_none HGN.out hg8)
                   replace HGW := Lib.hid (gr_none HGW.out hg8)
                   replace HNB := Lib.hid (HNB.out.grown hg8 (by simp))
                   clear hg8 kk0
                   have hbt2 := bit16 M2 i (by omega)
                   cases hb2 : M2.testBit i
                   · rw [hb2, if_neg (by simp)] at hbt2
                     have HCN := Lib.hid (show clTo (shps ps) a i s (k + 1) = clr ct k by
                       rw [clTo, show tkB (shps ps) a i k = false by unfold tkB; rw [HGD.out, HT2.out]; exact hb2, HCT.out]; rfl)
                     clear hb2
                     have kn0 := HNB.out.cell 0
                     have kn1 := HNB.out.cell 1
                     have hcl := and_clr ct k (by omega) (by omega)
                     have kf := HNB.out.frozen 1
                     go_upto_region 20 with (fail)
                     go_region
                     have HNB2 := Lib.hid (show Blk (w8.setCell ⟨nb_, 1, none⟩ (.int .u64 ((clr ct k : Nat) : Int))).drew nb_ 177 #[.int .i64 ((a : Int) + 1), .int .u64 ((clr ct k : Nat) : Int)] from (HNB.out.set_ 1 _).drew)
                     have HGN2 := Lib.hid (show wn.grownBy (w8.setCell ⟨nb_, 1, none⟩ (.int .u64 ((clr ct k : Nat) : Int))).drew (some nb_) from gr_drew (gr_setCell HGN.out (.inl rfl) _))
                     clear hcl kf kn0 kn1
                     go_wp2_with fail
                     go_roundw
                     case rel => exact ⟨k + 1, by omega, by go_num, HGN2.out, by rw [HCN.out]; exact HNB2.out⟩
                     case measure => simp [intOf]; omega
                   · rw [hb2, if_pos rfl] at hbt2
                     have HCN := Lib.hid (show clTo (shps ps) a i s (k + 1) = ct by
                       rw [clTo, show tkB (shps ps) a i k = true by unfold tkB; rw [HGD.out, HT2.out]; exact hb2, HCT.out]; rfl)
                     clear hb2
                     go_wp2_with fail
                     go_roundw
                     case rel => exact ⟨k + 1, by omega, by go_num, HGN.out, by rw [HCN.out]; exact HNB.out⟩
                     case measure => simp [intOf]; omega
                 · have hkm' : k = m := by omega
                   have HKP := Lib.hid (show ct = kp (shps ps) a i s by rw [← HCT.out, hkm', ← HLN.out]; exact cl_kp (by rw [HLN.out]; exact hs12))
                   have hkd : decide (k < m) = false := decide_eq_false hkm
                   clear hkm hkm'
                   have hok : KS.ok (a + 1, ct) := ⟨by dsimp only; omega, by dsimp only; omega⟩
                   have HOK := Lib.hid hok
                   replace HS := Lib.hid (HS.out.kept HGN.out (by simp; omega))
                   replace HQ := Lib.hid (HQ.out.kept HGN.out (fun g e e2 => by injection e with e; exact HQB.out g e2 e.symm))
                   replace HB := Lib.hid (HB.out.grown HGN.out (by simp; omega))
                   replace HSB := Lib.hid (HSB.out.grown HGN.out (by simp; omega))
                   clear hok
                   by_cases hmem : (a + 1, ct) ∈ S'
                   · have HME := Lib.hid hmem
                     have HN := Lib.hid (show Clo x (shps ps) S' (a, s) (i + 1) from fun h1 j hj hb => by
                       rcases Nat.lt_succ_iff_lt_or_eq.1 hj with h2 | h2
                       · exact HCL.out h1 j h2 hb
                       · subst h2; dsimp only; rw [← HKP.out]; exact HME.out)
                     clear hmem
                     go_wp2_with (first
                       | (refine wpl_load_all Tryz.steT rfl _ rfl _ rfl _ _ HNB.out rfl ?_)
                       | (refine wpl_plookB (K := KS) true rfl 175 _ _ rfl Tryz.underlying175 (Tryz.zeroBo _) rfl (a + 1, ct) rfl HOK.out HS.out (by exact ⟨fun _ => HME.out, fun _ => rfl⟩) ?_)
                       | fail)
                     go_roundw
                     case rel => exact ⟨i + 1, S', Q', _, _, _, by omega, by go_num, rfl, HGW.out, HB.out, HSB.out, HS.out, HQ.out, HNE.out, HI2.out, HN.out, HKL.out⟩
                     case measure => simp [intOf]; omega
                   · have HME := Lib.hid hmem
                     have HI3 := Lib.hid (by have h1 := HI2.out.push (s := s) (i := i) HRI.out ha29 hlt (by rw [HT.out]; exact HBIT.out) (by rw [← HKP.out]; exact hmem); rw [← HKP.out] at h1; exact h1)
                     have HN := Lib.hid (show Clo x (shps ps) (S' ++ [(a + 1, ct)]) (a, s) (i + 1) from fun h1 j hj hb => by
                       rcases Nat.lt_succ_iff_lt_or_eq.1 hj with h2 | h2
                       · exact List.mem_append_left _ (HCL.out h1 j h2 hb)
                       · subst h2; dsimp only; rw [← HKP.out]; exact List.mem_append_right _ (List.mem_singleton.2 rfl))
                     clear hmem
                     have hsl' := HSL'.out
                     have hbd3 := HI3.out.bd (by rw [HLN.out]; exact hm)
                     have HBD3 := Lib.hid hbd3
                     have hn126 : n' ≤ 300000 := by have h1 := HQL'.out; have h2 := HKL.out; have h3 := HKK.out; have h5 := HGK.out.2; simp only [List.length_cons] at h5; omega
                     clear hbd3
                     go_upto_region 23 with (first
                       | (refine wpl_load_all Tryz.steT rfl _ rfl _ rfl _ _ HNB.out rfl ?_)
                       | (refine wpl_plookB (K := KS) false rfl 175 _ _ rfl Tryz.underlying175 (Tryz.zeroBo _) rfl (a + 1, ct) rfl HOK.out HS.out (by exact ⟨(fun h => by cases h), (fun h => absurd h HME.out)⟩) ?_)
                       | fail)
                     go_upto_region 24 with (first
                       | (refine wpl_load_all Tryz.steT rfl _ rfl _ rfl _ _ HNB.out rfl ?_)
                       | (refine wpl_pput (K := KS) rfl _ _ _ _ rfl Tryz.underlying175 rfl (a + 1, ct) rfl rfl HOK.out HS.out (by unfold maxLen; omega) ?_
                          intro wp_ hp_ hgp_
                          have HSP := Lib.hid hp_; have HGP := Lib.hid hgp_; clear hp_ hgp_)
                       | fail)
                     have zp := HGP.out.size
                     replace HNB := Lib.hid (HNB.out.grown HGP.out (by simp; omega))
                     replace HB := Lib.hid (HB.out.grown HGP.out (by simp))
                     replace HSB := Lib.hid (HSB.out.grown HGP.out (by simp; omega))
                     replace HQ := Lib.hid (HQ.out.low HGP.out (fun g e => by injection e with e; omega))
                     replace HGW := Lib.hid (gr_trans HGW.out HGP.out (fun g e => .inr (by injection e with e; have := HPB.out; omega)))
                     replace HSP := Lib.hid (HSP.out.iff (C' := fun t => t ∈ S' ++ [(a + 1, ct)]) (fun t _ => by rw [List.mem_append, List.mem_singleton]))
                     go_wp2_with (first
                       | (refine wpl_load_all Tryz.steT rfl _ rfl _ rfl _ _ HNB.out rfl ?_)
                       | (at_builtin
                          refine wpl_appO _ rfl _ _ Tryz.stsT rfl (pb + 1 + 1) A' n' c9 _ rfl (by exact (HQ.out.low (gr_alloc (gr_refl _ none) _) gn_).1) _ 1 1 [.int .i64 ((a : Int) + 1), .int .u64 ct] rfl (by exact (Reads.one _ _ _ _ rfl).lower (Nat.zero_le _)) (by simp [Value.oneCell']) (by unfold maxLen; omega) (by omega) (by simp; omega) (by exact HQ.out.2.2) ?_
                          intro A9 cc9 w9 h9 hc9
                          have H9 := Lib.hid h9; have HC9 := Lib.hid hc9; clear h9 hc9)
                       | fail)
                     have hq1 := HQ.out.low (gr_alloc (gr_refl wp_ none) (.cells #[.int .i64 ((a : Int) + 1), .int .u64 ct] 177)) gn_
                     have HG9 := Lib.hid (show w.grownBy w9 none from gr_trans (gr_alloc HGW.out _) H9.out.2.1 (fun g e => .inr (by have := (hq1.lt e).1; have := HPB.out; omega)))
                     have hne9 : ∀ g, blkOf A' = some g → pb + 1 + 1 ≤ g := fun g e => (hq1.lt e).1
                     go_roundw
                     case rel =>
                       refine ⟨i + 1, S' ++ [(a + 1, ct)], Q' ++ [(a + 1, ct)], A9, n' + 1, cc9, by omega, by go_num, rfl, HG9.out, (HB.out.alloc _).grown H9.out.2.1 (fun e => by have := hne9 pb e.symm; omega), (HSB.out.alloc _).grown H9.out.2.1 (fun e => HNE.out sb e.symm rfl), ?_, hq1.app rfl H9.out HC9.out, fun g e => ?_, HI3.out, HN.out, ?_⟩
                       · rw [List.length_append, List.length_singleton]
                         exact (HSP.out.kept (gr_alloc (gr_refl _ none) _) (by simp)).kept H9.out.2.1 (fun e => by have := hne9 _ e.symm; omega)
                       · rcases H9.out.2.2 g e with h1 | h1
                         · exact HNE.out g h1
                         · simp at h1; omega
                       · have h1 := HKL.out; have h2 := HBD3.out; simp only [List.length_append, List.length_singleton] at h2 ⊢; omega
                     case measure => simp [intOf]; omega
           · obtain rfl : i = 12 := by omega
             have HD := Lib.hid (HI2.out.done HF.out HCL.out)
             go_wp2_with fail
             go_roundg (2 * (126976 - S'.length) + Q'.length)
             case measure => have h1 := HGK.out.1; have h2 := HKK.out; have h3 := HKL.out; simp only [List.length_cons] at h1; omega
             case rel => exact ⟨S', Q', _, _, _, rfl, HG.out, HB.out, HS.out, HQ.out, HD.out, rfl, by have h1 := HGK.out.2; have h2 := HKK.out; have h3 := HKL.out; simp only [List.length_cons] at h1; omega⟩
     · have d0 : decide ((0 : Int) < (a : Int)) = true := decide_eq_true (by omega)
       have d0' : decide (0 < a) = true := decide_eq_true (by omega)
       obtain ⟨EB, hEB⟩ : ∃ EB, endB (shps ps) s a = EB := ⟨_, rfl⟩
       have HEB := Lib.hid hEB; clear hEB
       go_wp2_with fail
       refine (ends_any lo B m d ps s a _ (HP.out.grown HG.out) (by omega) hs64 (by omega)).mono ?_
       rintro e w5 ⟨rfl, hg5⟩
       rw [HEB.out]
       have z5 := hg5.size
       replace HQ2 := Lib.hid (HQ2.out.low hg5 gn_)
       replace HB := Lib.hid (HB.out.grown hg5 (by simp))
       replace HSB := Lib.hid (HSB.out.grown hg5 (by simp))
       replace HS := Lib.hid (HS.out.kept hg5 (by simp))
       replace HG := Lib.hid (gr_none HG.out hg5)
       clear hg5 k0 k1
       have k0 := HSB.out.cell 0
       have k1 := HSB.out.cell 1
       cases EB
       · have HV := Lib.hid (covB_false HRI.out (by rw [HT.out]) ha0 HEB.out)
         go_wp2_with fail
         go_ret
         exact ⟨by rw [HV.out]; rfl, HG.out⟩
       · have HF := Lib.hid (show fineS x (shps ps) a s from fun _ _ => HEB.out)
         clear ha0
         go_upto_region 9 with (fail)
         by_cases h30 : a = 30
         · have d30 : ((a : Int) == 30) = true := by rw [beq_iff_eq]; omega
           have HD := Lib.hid (HI2.out.done HF.out (fun h1 => absurd h1 (by dsimp only; omega)))
           clear h30
           go_wp2_with fail
           go_roundg (2 * (126976 - S.length) + Q.length)
           case measure => have := HGK.out.1; simp only [List.length_cons] at this; omega
           case rel => exact ⟨S, Q, _, _, _, rfl, HG.out, HB.out, HS.out, HQ2.out, HD.out, rfl, by have := HGK.out.2; simp only [List.length_cons] at this; omega⟩
         · have d30 : ((a : Int) == 30) = false := by rw [beq_eq_false_iff_ne]; omega
           have ha29 : a < 30 := by omega
           clear h30
           obtain ⟨K, hK⟩ : ∃ K, 2 * (126976 - S.length) + Q.length = K := ⟨_, rfl⟩
           have HKK := Lib.hid hK
           clear hK
           obtain ⟨wo, rfl⟩ : ∃ wo : World, wo = wr := ⟨_, rfl⟩
           go_wp2_with fail
           go_loopw [6, 10, 11, 12, 13, 14, 15, 56] (fun v6 _ _ _ _ _ _ t56 wr => ∃ (i : Nat) (S' Q' : List (Nat × Nat)) (A' : Option Addr) (n' c' : Nat), i ≤ 12 ∧ t56 = .int .i64 i ∧ v6 = .slice A' n' c' ∧ w.grownBy wr none ∧ Blk wr pb 86 #[.slice A n c, .int .u8 x.2] ∧ Blk wr sb 177 #[.int .i64 a, .int .u64 s] ∧ SetP KS wr (pb + 1) S'.length (fun t => t ∈ S') ∧ OwnQ stRow 2 wr (pb + 1 + 1) A' n' c' Q' ∧ (∀ g, blkOf A' = some g → g ≠ sb) ∧ BfI x (shps ps) S' Q' (fun u => u = (a, s)) ∧ Clo x (shps ps) S' (a, s) i ∧ 2 * (126976 - S'.length) + Q'.length ≤ K) (fun _ _ _ _ _ _ _ t56 _ => 12 - (intOf t56).toNat)
           case atStart => exact ⟨0, S, Q, A2, q, c' - 1, by omega, rfl, rfl, HG.out, HB.out, HSB.out, HS.out, HQ2.out, HNE.out, HI2.out, fun _ i hi => by omega, by rw [HKK.out]; exact Nat.le_refl _⟩
           case round =>
             clear HG HB HSB HS HQ2 HNE HI2 k0 k1
             obtain ⟨i, S', Q', A', n', c9, hi, rfl, rfl, hg, hb, hsb, hs, hq, hne, hi2, hcl, hkk⟩ := hrel
             have HG := Lib.hid hg; have HB := Lib.hid hb; have HSB := Lib.hid hsb; have HS := Lib.hid hs; have HQ := Lib.hid hq; have HNE := Lib.hid hne; have HI2 := Lib.hid hi2; have HCL := Lib.hid hcl; have HKL := Lib.hid hkk
             have zr := hsb.lt
             have hSl := hi2.bd (by rw [HLN.out]; exact hm)
             have HSL' := Lib.hid hSl
             have hql := hq.2.1
             have HQL' := Lib.hid hql
             have hcm := hq.2.2
             have HCM := Lib.hid hcm
             clear hg hb hsb hs hq hne hi2 hcl hkk hSl hql hcm
             by_cases hlt : i < 12
             · have hbt := bit16 M i (by omega)
               have d12 : decide ((i : Int) < 12) = true := decide_eq_true (by omega)
               cases hbit : M.testBit i
               · rw [hbit, if_neg (by simp)] at hbt
                 have HN := Lib.hid (show Clo x (shps ps) S' (a, s) (i + 1) from fun h1 j hj hb => by
                   rcases Nat.lt_succ_iff_lt_or_eq.1 hj with h2 | h2
                   · exact HCL.out h1 j h2 hb
                   · subst h2; rw [HT.out] at hb; dsimp only at hb; rw [hbit] at hb; cases hb)
                 clear hbit
                 go_wp2_with fail
                 go_roundw
                 case rel => exact ⟨i + 1, S', Q', _, _, _, by omega, by go_num, rfl, HG.out, HB.out, HSB.out, HS.out, HQ.out, HNE.out, HI2.out, HN.out, HKL.out⟩
                 case measure => simp [intOf]; omega
               · rw [hbit, if_pos rfl] at hbt
                 have HBIT := Lib.hid hbit
                 clear hbit
                 have k0 := HSB.out.cell 0
                 have k1 := HSB.out.cell 1
                 obtain ⟨wn, hwn⟩ : ∃ wn, wr.alloc (.cells #[.int .i64 ((a : Int) + 1), .int .u64 s] 177) = wn := ⟨_, rfl⟩
                 obtain ⟨nb_, hnb⟩ : ∃ nb_, wr.heap.size = nb_ := ⟨_, rfl⟩
                 have HNB := Lib.hid (show Blk wn nb_ 177 #[.int .i64 ((a : Int) + 1), .int .u64 s] by rw [← hwn, ← hnb]; exact Blk.new _ _ _)
                 have hgn : wr.grownBy wn none := by rw [← hwn]; exact gr_alloc (gr_refl _ _) _
                 have zn : sb < nb_ := by omega
                 have HWN := Lib.hid hwn
                 have HNN := Lib.hid hnb
                 clear hwn hnb
                 go_upto_region 15 with (fail)
                 rw [HWN.out, HNN.out]
                 replace HG := Lib.hid (gr_none HG.out hgn)
                 replace HB := Lib.hid (HB.out.grown hgn (by simp))
                 replace HSB := Lib.hid (HSB.out.grown hgn (by simp))
                 replace HS := Lib.hid (HS.out.kept hgn (by simp))
                 have HQB := Lib.hid (show ∀ g, blkOf A' = some g → g ≠ nb_ from fun g e => by have := (HQ.out.lt e).2; have := HNN.out; omega)
                 replace HQ := Lib.hid (HQ.out.low hgn gn_)
                 clear hgn k0 k1 HWN HNN
                 obtain ⟨wo2, rfl⟩ : ∃ wo2 : World, wo2 = wr := ⟨_, rfl⟩
                 go_wp2_with fail
                 go_loopw [12, 13, 14, 15, 72] (fun _ _ _ _ t72 wr => ∃ k : Nat, k ≤ m ∧ t72 = .int .i64 k ∧ wn.grownBy wr (some nb_) ∧ Blk wr nb_ 177 #[.int .i64 ((a : Int) + 1), .int .u64 ((clTo (shps ps) a i s k : Nat) : Int)]) (fun _ _ _ _ t72 _ => m - (intOf t72).toNat)
                 case atStart => exact ⟨0, Nat.zero_le _, rfl, gr_refl _ _, HNB.out⟩
                 case round =>
                   clear HNB
                   obtain ⟨k, hk, rfl, hgk, hnb⟩ := hrel
                   have HGN := Lib.hid hgk; have HNB := Lib.hid hnb
                   have zk := hnb.lt
                   clear hgk hnb
                   have HGW := Lib.hid (show w.grownBy wr none from gr_trans HG.out HGN.out (fun g e => .inr (by injection e with e; have := HPB.out; omega)))
                   have hct := clTo_lt (l := shps ps) (a := a) (i := i) hs12 k
                   obtain ⟨ct, hctn⟩ : ∃ ct, clTo (shps ps) a i s k = ct := ⟨_, rfl⟩
                   have HCT := Lib.hid hctn
                   rw [hctn] at HNB hct
                   clear hctn
                   by_cases hkm : k < m
                   · obtain ⟨g, o, p, rfl, _, hgl, hz, hc⟩ := (HP.out.grown HGW.out).recs.get patRow_len hkm
                     have HOK := Lib.hid ((HP.out.ok p (mem_of_get hz)))
                     have HGD := Lib.hid (shps_getD hz)
                     have HC := Lib.hid hc
                     obtain ⟨M2, E2, hT2⟩ : ∃ M2 E2, takesL p.x a = (M2, E2) := ⟨_, _, rfl⟩
                     have HT2 := Lib.hid hT2
                     have hM2 : M2 < 4096 := by
                       have := congrArg Prod.fst hT2
                       dsimp only at this
                       rw [← this, takes_fst HOK.out.2.2]
                       split
                       · omega
                       · exact mAt_bd HOK.out.2.2 a
                     clear hz hc hT2
                     obtain ⟨wa2, hwa2⟩ : ∃ wa2, wr.alloc (.cells #[.slice p.A p.n p.c, .int .u8 p.x.2] 86) = wa2 := ⟨_, rfl⟩
                     have HPP := Lib.hid (show Blk wa2 wr.heap.size 86 #[.slice p.A p.n p.c, .int .u8 p.x.2] by rw [← hwa2]; exact Blk.new _ _ _)
                     have hga2 : wr.grownBy wa2 none := by rw [← hwa2]; exact gr_alloc (gr_refl _ _) _
                     have HWA2 := Lib.hid hwa2
                     clear hwa2
                     go_upto_region 18 with (first
                       | (refine wpl_load_at Tryz.patT rfl _ rfl _ rfl [.slice p.A p.n p.c, .int .u8 p.x.2] rfl (fun j u hu => by rw [add_mk]; exact HC.out j u hu) ?_)
                       | fail)
                     rw [HWA2.out]
                     replace HGN := Lib.hid (gr_none HGN.out hga2)
                     replace HGW := Lib.hid (gr_none HGW.out hga2)
                     replace HNB := Lib.hid (HNB.out.grown hga2 (by simp))
                     clear hga2 HC HWA2
                     have kk0 := (HSB.out.grown HGN.out (by simp; omega)).cell 0
                     go_wp2_with (first
                       | (refine wpl_load_all Tryz.patT rfl _ rfl _ rfl _ _ HPP.out rfl ?_)
                       | fail)
                     refine (takes_any p.A p.n p.c a p.x _ (HOK.out.1.grown HGW.out gn_) (by have := HOK.out.2.1; omega) (by omega)).mono ?_
                     rintro e w8 ⟨rfl, hg8⟩
                     rw [HT2.out]
                     replace HGN := Lib.hid (gr_none HGN.out hg8)
                     replace HGW := Lib.hid (gr_none HGW.out hg8)
                     replace HNB := Lib.hid (HNB.out.grown hg8 (by simp))
                     clear hg8 kk0
                     have hbt2 := bit16 M2 i (by omega)
                     cases hb2 : M2.testBit i
                     · rw [hb2, if_neg (by simp)] at hbt2
                       have HCN := Lib.hid (show clTo (shps ps) a i s (k + 1) = clr ct k by
                         rw [clTo, show tkB (shps ps) a i k = false by unfold tkB; rw [HGD.out, HT2.out]; exact hb2, HCT.out]; rfl)
                       clear hb2
                       have kn0 := HNB.out.cell 0
                       have kn1 := HNB.out.cell 1
                       have hcl := and_clr ct k (by omega) (by omega)
                       have kf := HNB.out.frozen 1
                       go_upto_region 20 with (fail)
                       go_region
                       have HNB2 := Lib.hid (show Blk (w8.setCell ⟨nb_, 1, none⟩ (.int .u64 ((clr ct k : Nat) : Int))).drew nb_ 177 #[.int .i64 ((a : Int) + 1), .int .u64 ((clr ct k : Nat) : Int)] from (HNB.out.set_ 1 _).drew)
                       have HGN2 := Lib.hid (show wn.grownBy (w8.setCell ⟨nb_, 1, none⟩ (.int .u64 ((clr ct k : Nat) : Int))).drew (some nb_) from gr_drew (gr_setCell HGN.out (.inl rfl) _))
                       clear hcl kf kn0 kn1
                       go_wp2_with fail
                       go_roundw
                       case rel => exact ⟨k + 1, by omega, by go_num, HGN2.out, by rw [HCN.out]; exact HNB2.out⟩
                       case measure => simp [intOf]; omega
                     · rw [hb2, if_pos rfl] at hbt2
                       have HCN := Lib.hid (show clTo (shps ps) a i s (k + 1) = ct by
                         rw [clTo, show tkB (shps ps) a i k = true by unfold tkB; rw [HGD.out, HT2.out]; exact hb2, HCT.out]; rfl)
                       clear hb2
                       go_wp2_with fail
                       go_roundw
                       case rel => exact ⟨k + 1, by omega, by go_num, HGN.out, by rw [HCN.out]; exact HNB.out⟩
                       case measure => simp [intOf]; omega
                   · have hkm' : k = m := by omega
                     have HKP := Lib.hid (show ct = kp (shps ps) a i s by rw [← HCT.out, hkm', ← HLN.out]; exact cl_kp (by rw [HLN.out]; exact hs12))
                     have hkd : decide (k < m) = false := decide_eq_false hkm
                     clear hkm hkm'
                     have hok : KS.ok (a + 1, ct) := ⟨by dsimp only; omega, by dsimp only; omega⟩
                     have HOK := Lib.hid hok
                     replace HS := Lib.hid (HS.out.kept HGN.out (by simp; omega))
                     replace HQ := Lib.hid (HQ.out.kept HGN.out (fun g e e2 => by injection e with e; exact HQB.out g e2 e.symm))
                     replace HB := Lib.hid (HB.out.grown HGN.out (by simp; omega))
                     replace HSB := Lib.hid (HSB.out.grown HGN.out (by simp; omega))
                     clear hok
                     by_cases hmem : (a + 1, ct) ∈ S'
                     · have HME := Lib.hid hmem
                       have HN := Lib.hid (show Clo x (shps ps) S' (a, s) (i + 1) from fun h1 j hj hb => by
                         rcases Nat.lt_succ_iff_lt_or_eq.1 hj with h2 | h2
                         · exact HCL.out h1 j h2 hb
                         · subst h2; dsimp only; rw [← HKP.out]; exact HME.out)
                       clear hmem
                       go_wp2_with (first
                         | (refine wpl_load_all Tryz.steT rfl _ rfl _ rfl _ _ HNB.out rfl ?_)
                         | (refine wpl_plookB (K := KS) true rfl 175 _ _ rfl Tryz.underlying175 (Tryz.zeroBo _) rfl (a + 1, ct) rfl HOK.out HS.out (by exact ⟨fun _ => HME.out, fun _ => rfl⟩) ?_)
                         | fail)
                       go_roundw
                       case rel => exact ⟨i + 1, S', Q', _, _, _, by omega, by go_num, rfl, HGW.out, HB.out, HSB.out, HS.out, HQ.out, HNE.out, HI2.out, HN.out, HKL.out⟩
                       case measure => simp [intOf]; omega
                     · have HME := Lib.hid hmem
                       have HI3 := Lib.hid (by have h1 := HI2.out.push (s := s) (i := i) HRI.out ha29 hlt (by rw [HT.out]; exact HBIT.out) (by rw [← HKP.out]; exact hmem); rw [← HKP.out] at h1; exact h1)
                       have HN := Lib.hid (show Clo x (shps ps) (S' ++ [(a + 1, ct)]) (a, s) (i + 1) from fun h1 j hj hb => by
                         rcases Nat.lt_succ_iff_lt_or_eq.1 hj with h2 | h2
                         · exact List.mem_append_left _ (HCL.out h1 j h2 hb)
                         · subst h2; dsimp only; rw [← HKP.out]; exact List.mem_append_right _ (List.mem_singleton.2 rfl))
                       clear hmem
                       have hsl' := HSL'.out
                       have hbd3 := HI3.out.bd (by rw [HLN.out]; exact hm)
                       have HBD3 := Lib.hid hbd3
                       have hn126 : n' ≤ 300000 := by have h1 := HQL'.out; have h2 := HKL.out; have h3 := HKK.out; have h5 := HGK.out.2; simp only [List.length_cons] at h5; omega
                       clear hbd3
                       go_upto_region 23 with (first
                         | (refine wpl_load_all Tryz.steT rfl _ rfl _ rfl _ _ HNB.out rfl ?_)
                         | (refine wpl_plookB (K := KS) false rfl 175 _ _ rfl Tryz.underlying175 (Tryz.zeroBo _) rfl (a + 1, ct) rfl HOK.out HS.out (by exact ⟨(fun h => by cases h), (fun h => absurd h HME.out)⟩) ?_)
                         | fail)
                       go_upto_region 24 with (first
                         | (refine wpl_load_all Tryz.steT rfl _ rfl _ rfl _ _ HNB.out rfl ?_)
                         | (refine wpl_pput (K := KS) rfl _ _ _ _ rfl Tryz.underlying175 rfl (a + 1, ct) rfl rfl HOK.out HS.out (by unfold maxLen; omega) ?_
                            intro wp_ hp_ hgp_
                            have HSP := Lib.hid hp_; have HGP := Lib.hid hgp_; clear hp_ hgp_)
                         | fail)
                       have zp := HGP.out.size
                       replace HNB := Lib.hid (HNB.out.grown HGP.out (by simp; omega))
                       replace HB := Lib.hid (HB.out.grown HGP.out (by simp))
                       replace HSB := Lib.hid (HSB.out.grown HGP.out (by simp; omega))
                       replace HQ := Lib.hid (HQ.out.low HGP.out (fun g e => by injection e with e; omega))
                       replace HGW := Lib.hid (gr_trans HGW.out HGP.out (fun g e => .inr (by injection e with e; have := HPB.out; omega)))
                       replace HSP := Lib.hid (HSP.out.iff (C' := fun t => t ∈ S' ++ [(a + 1, ct)]) (fun t _ => by rw [List.mem_append, List.mem_singleton]))
                       go_wp2_with (first
                         | (refine wpl_load_all Tryz.steT rfl _ rfl _ rfl _ _ HNB.out rfl ?_)
                         | (at_builtin
                            refine wpl_appO _ rfl _ _ Tryz.stsT rfl (pb + 1 + 1) A' n' c9 _ rfl (by exact (HQ.out.low (gr_alloc (gr_refl _ none) _) gn_).1) _ 1 1 [.int .i64 ((a : Int) + 1), .int .u64 ct] rfl (by exact (Reads.one _ _ _ _ rfl).lower (Nat.zero_le _)) (by simp [Value.oneCell']) (by unfold maxLen; omega) (by omega) (by simp; omega) (by exact HQ.out.2.2) ?_
                            intro A9 cc9 w9 h9 hc9
                            have H9 := Lib.hid h9; have HC9 := Lib.hid hc9; clear h9 hc9)
                         | fail)
                       have hq1 := HQ.out.low (gr_alloc (gr_refl wp_ none) (.cells #[.int .i64 ((a : Int) + 1), .int .u64 ct] 177)) gn_
                       have HG9 := Lib.hid (show w.grownBy w9 none from gr_trans (gr_alloc HGW.out _) H9.out.2.1 (fun g e => .inr (by have := (hq1.lt e).1; have := HPB.out; omega)))
                       have hne9 : ∀ g, blkOf A' = some g → pb + 1 + 1 ≤ g := fun g e => (hq1.lt e).1
                       go_roundw
                       case rel =>
                         refine ⟨i + 1, S' ++ [(a + 1, ct)], Q' ++ [(a + 1, ct)], A9, n' + 1, cc9, by omega, by go_num, rfl, HG9.out, (HB.out.alloc _).grown H9.out.2.1 (fun e => by have := hne9 pb e.symm; omega), (HSB.out.alloc _).grown H9.out.2.1 (fun e => HNE.out sb e.symm rfl), ?_, hq1.app rfl H9.out HC9.out, fun g e => ?_, HI3.out, HN.out, ?_⟩
                         · rw [List.length_append, List.length_singleton]
                           exact (HSP.out.kept (gr_alloc (gr_refl _ none) _) (by simp)).kept H9.out.2.1 (fun e => by have := hne9 _ e.symm; omega)
                         · rcases H9.out.2.2 g e with h1 | h1
                           · exact HNE.out g h1
                           · simp at h1; omega
                         · have h1 := HKL.out; have h2 := HBD3.out; simp only [List.length_append, List.length_singleton] at h2 ⊢; omega
                       case measure => simp [intOf]; omega
             · obtain rfl : i = 12 := by omega
               have HD := Lib.hid (HI2.out.done HF.out HCL.out)
               go_wp2_with fail
               go_roundg (2 * (126976 - S'.length) + Q'.length)
               case measure => have h1 := HGK.out.1; have h2 := HKK.out; have h3 := HKL.out; simp only [List.length_cons] at h1; omega
               case rel => exact ⟨S', Q', _, _, _, rfl, HG.out, HB.out, HS.out, HQ.out, HD.out, rfl, by have h1 := HGK.out.2; have h2 := HKK.out; have h3 := HKL.out; simp only [List.length_cons] at h1; omega⟩
end Go.Proofs.YteppdabhloieaaaGreatDoor
